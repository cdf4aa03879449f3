/-
  What is proved: the texts that the claims share, part 5 of 7, each text behind the other. Conditions: none.
-/
import Derived.Test.YtjlfdfmkofbccaaGreatDoorWp4
set_option maxRecDepth 100000
namespace Go.Proofs.YtjlfdfmkofbccaaGreatDoor
open Go.Sy
theorem rDownSync (r:Nat) (m s:Int) (A:Option Addr) (n c:Nat) (st:Bool) (lf:Int) (B:Option Addr) (k d:Nat) (x:ByteArray):Triple Tryz.prog 114 [pP r,.string x] [Pt r 105 [.int .i64 m,.int .i64 s,.bool true,.slice A n c,.bool st,.int .i64 lf,.slice B k d]] [] Unit (fun _=>.int .i64 41) (fun _=>True) (fun _=>[Pt r 105 [.int .i64 m,.int .i64 s,.bool true,.slice A n c,.bool st,.int .i64 lf,.slice B k d]]):=by
 have TT:=rThereDown r m s A n c st lf B k d x
 refine aT Tryz.func114 [.pt 0 r 0,.va (.string x)] [.box r 105 [vI m,vI s,.va (.bool true),vL A n c,.va (.bool st),vI lf,vL B k d]] (fun E=>?_) ⟨rfl,trivial,trivial⟩
 refine aG ?_
 refine aD TT [0] [] (fun v0_=>[.box (r) 105 [vI m,vI s,.bl true,vL A n c,.bq (st),vI lf,vL B k d]]) fun _ h0=>?_
 refine aI (aI ?_)
 exact ev_fin ⟨trivial,_,rfl,(),rfl,trivial,aF [0]⟩
theorem rGoneSync (r:Nat) (m s:Int) (A:Option Addr) (n c:Nat) (st:Bool) (lf:Int) (B:Option Addr) (k d:Nat) (L:List Fl) (hn:n=L.length) (h1:n≤1000) (x:ByteArray) (hs:riseF L) (hh:hasF L x=false):Triple Tryz.prog 114 [pP r,.string x] [Pt r 105 [.int .i64 m,.int .i64 s,.bool false,.slice A n c,.bool st,.int .i64 lf,.slice B k d],Row 117 3 A n c (L.flatMap encF)] [] Unit (fun _=>.int .i64 4) (fun _=>True) (fun _=>[Pt r 105 [.int .i64 m,.int .i64 s,.bool false,.slice A n c,.bool st,.int .i64 lf,.slice B k d],Row 117 3 A n c (L.flatMap encF)]):=by
 have TT:=rThereNo r m s A n c st lf B k d L hn h1 x hs hh
 refine aT Tryz.func114 [.pt 0 r 0,.va (.string x)] [.box r 105 [vI m,vI s,.va (.bool false),vL A n c,.va (.bool st),vI lf,vL B k d],.fact (Row 117 3 A n c (L.flatMap encF))] (fun E=>?_) ⟨rfl,trivial,trivial⟩
 refine aG ?_
 refine aD TT [0,1] [] (fun v0_=>[.box (r) 105 [vI m,vI s,.bl false,vL A n c,.bq (st),vI lf,vL B k d],.fact (Row 117 3 A n c (List.flatMap encF L))]) fun _ h0=>?_
 refine aI (aI ?_)
 exact ev_fin ⟨trivial,_,rfl,(),rfl,trivial,aF [0,1]⟩
theorem rDownTruncate (r:Nat) (m s:Int) (A:Option Addr) (n c:Nat) (st:Bool) (lf:Int) (B:Option Addr) (k d:Nat) (x:ByteArray) (z:Int):Triple Tryz.prog 111 [pP r,.string x,.int .i64 z] [Pt r 105 [.int .i64 m,.int .i64 s,.bool true,.slice A n c,.bool st,.int .i64 lf,.slice B k d]] [] Unit (fun _=>.int .i64 41) (fun _=>True) (fun _=>[Pt r 105 [.int .i64 m,.int .i64 s,.bool true,.slice A n c,.bool st,.int .i64 lf,.slice B k d]]):=by
 have TT:=rThereDown r m s A n c st lf B k d x
 refine aT Tryz.func111 [.pt 0 r 0,.va (.string x),vI z] [.box r 105 [vI m,vI s,.va (.bool true),vL A n c,.va (.bool st),vI lf,vL B k d]] (fun E=>?_) ⟨rfl,trivial,trivial,trivial⟩
 refine aG ?_
 refine aD TT [0] [] (fun v0_=>[.box (r) 105 [vI m,vI s,.bl true,vL A n c,.bq (st),vI lf,vL B k d]]) fun _ h0=>?_
 refine aJ ?_
 exact ev_fin ⟨trivial,_,rfl,(),rfl,trivial,aF [0]⟩
theorem rGoneTruncate (r:Nat) (m s:Int) (A:Option Addr) (n c:Nat) (st:Bool) (lf:Int) (B:Option Addr) (k d:Nat) (L:List Fl) (hn:n=L.length) (h1:n≤1000) (x:ByteArray) (z:Int) (hs:riseF L) (hh:hasF L x=false):Triple Tryz.prog 111 [pP r,.string x,.int .i64 z] [Pt r 105 [.int .i64 m,.int .i64 s,.bool false,.slice A n c,.bool st,.int .i64 lf,.slice B k d],Row 117 3 A n c (L.flatMap encF)] [] Unit (fun _=>.int .i64 4) (fun _=>True) (fun _=>[Pt r 105 [.int .i64 m,.int .i64 s,.bool false,.slice A n c,.bool st,.int .i64 lf,.slice B k d],Row 117 3 A n c (L.flatMap encF)]):=by
 have TT:=rThereNo r m s A n c st lf B k d L hn h1 x hs hh
 refine aT Tryz.func111 [.pt 0 r 0,.va (.string x),vI z] [.box r 105 [vI m,vI s,.va (.bool false),vL A n c,.va (.bool st),vI lf,vL B k d],.fact (Row 117 3 A n c (L.flatMap encF))] (fun E=>?_) ⟨rfl,trivial,trivial,trivial⟩
 refine aG ?_
 refine aD TT [0,1] [] (fun v0_=>[.box (r) 105 [vI m,vI s,.bl false,vL A n c,.bq (st),vI lf,vL B k d],.fact (Row 117 3 A n c (List.flatMap encF L))]) fun _ h0=>?_
 refine aJ ?_
 exact ev_fin ⟨trivial,_,rfl,(),rfl,trivial,aF [0,1]⟩
theorem rDownRename (r:Nat) (m s:Int) (A:Option Addr) (n c:Nat) (st:Bool) (lf:Int) (B:Option Addr) (k d:Nat) (x y:ByteArray):Triple Tryz.prog 118 [pP r,.string x,.string y] [Pt r 105 [.int .i64 m,.int .i64 s,.bool true,.slice A n c,.bool st,.int .i64 lf,.slice B k d]] [] Unit (fun _=>.int .i64 41) (fun _=>True) (fun _=>[Pt r 105 [.int .i64 m,.int .i64 s,.bool true,.slice A n c,.bool st,.int .i64 lf,.slice B k d]]):=by
 have TT:=rThereDown r m s A n c st lf B k d x
 refine aT Tryz.func118 [.pt 0 r 0,.va (.string x),.va (.string y)] [.box r 105 [vI m,vI s,.va (.bool true),vL A n c,.va (.bool st),vI lf,vL B k d]] (fun E=>?_) ⟨rfl,trivial,trivial,trivial⟩
 refine aG ?_
 refine aD TT [0] [] (fun v0_=>[.box (r) 105 [vI m,vI s,.bl true,vL A n c,.bq (st),vI lf,vL B k d]]) fun _ h0=>?_
 refine aJ ?_
 exact ev_fin ⟨trivial,_,rfl,(),rfl,trivial,aF [0]⟩
theorem rGoneRename (r:Nat) (m s:Int) (A:Option Addr) (n c:Nat) (st:Bool) (lf:Int) (B:Option Addr) (k d:Nat) (L:List Fl) (hn:n=L.length) (h1:n≤1000) (x y:ByteArray) (hs:riseF L) (hh:hasF L x=false):Triple Tryz.prog 118 [pP r,.string x,.string y] [Pt r 105 [.int .i64 m,.int .i64 s,.bool false,.slice A n c,.bool st,.int .i64 lf,.slice B k d],Row 117 3 A n c (L.flatMap encF)] [] Unit (fun _=>.int .i64 4) (fun _=>True) (fun _=>[Pt r 105 [.int .i64 m,.int .i64 s,.bool false,.slice A n c,.bool st,.int .i64 lf,.slice B k d],Row 117 3 A n c (L.flatMap encF)]):=by
 have TT:=rThereNo r m s A n c st lf B k d L hn h1 x hs hh
 refine aT Tryz.func118 [.pt 0 r 0,.va (.string x),.va (.string y)] [.box r 105 [vI m,vI s,.va (.bool false),vL A n c,.va (.bool st),vI lf,vL B k d],.fact (Row 117 3 A n c (L.flatMap encF))] (fun E=>?_) ⟨rfl,trivial,trivial,trivial⟩
 refine aG ?_
 refine aD TT [0,1] [] (fun v0_=>[.box (r) 105 [vI m,vI s,.bl false,vL A n c,.bq (st),vI lf,vL B k d],.fact (Row 117 3 A n c (List.flatMap encF L))]) fun _ h0=>?_
 refine aJ ?_
 exact ev_fin ⟨trivial,_,rfl,(),rfl,trivial,aF [0,1]⟩
theorem rDownRemove (r:Nat) (m s:Int) (A:Option Addr) (n c:Nat) (st:Bool) (lf:Int) (B:Option Addr) (k d:Nat) (x:ByteArray):Triple Tryz.prog 140 [pP r,.string x] [Pt r 105 [.int .i64 m,.int .i64 s,.bool true,.slice A n c,.bool st,.int .i64 lf,.slice B k d]] [] Unit (fun _=>.int .i64 41) (fun _=>True) (fun _=>[Pt r 105 [.int .i64 m,.int .i64 s,.bool true,.slice A n c,.bool st,.int .i64 lf,.slice B k d]]):=by
 have TT:=rThereDown r m s A n c st lf B k d x
 refine aT Tryz.func140 [.pt 0 r 0,.va (.string x)] [.box r 105 [vI m,vI s,.va (.bool true),vL A n c,.va (.bool st),vI lf,vL B k d]] (fun E=>?_) ⟨rfl,trivial,trivial⟩
 refine aG ?_
 refine aD TT [0] [] (fun v0_=>[.box (r) 105 [vI m,vI s,.bl true,vL A n c,.bq (st),vI lf,vL B k d]]) fun _ h0=>?_
 refine aI (aI ?_)
 exact ev_fin ⟨trivial,_,rfl,(),rfl,trivial,aF [0]⟩
theorem rGoneRemove (r:Nat) (m s:Int) (A:Option Addr) (n c:Nat) (st:Bool) (lf:Int) (B:Option Addr) (k d:Nat) (L:List Fl) (hn:n=L.length) (h1:n≤1000) (x:ByteArray) (hs:riseF L) (hh:hasF L x=false):Triple Tryz.prog 140 [pP r,.string x] [Pt r 105 [.int .i64 m,.int .i64 s,.bool false,.slice A n c,.bool st,.int .i64 lf,.slice B k d],Row 117 3 A n c (L.flatMap encF)] [] Unit (fun _=>.int .i64 4) (fun _=>True) (fun _=>[Pt r 105 [.int .i64 m,.int .i64 s,.bool false,.slice A n c,.bool st,.int .i64 lf,.slice B k d],Row 117 3 A n c (L.flatMap encF)]):=by
 have TT:=rThereNo r m s A n c st lf B k d L hn h1 x hs hh
 refine aT Tryz.func140 [.pt 0 r 0,.va (.string x)] [.box r 105 [vI m,vI s,.va (.bool false),vL A n c,.va (.bool st),vI lf,vL B k d],.fact (Row 117 3 A n c (L.flatMap encF))] (fun E=>?_) ⟨rfl,trivial,trivial⟩
 refine aG ?_
 refine aD TT [0,1] [] (fun v0_=>[.box (r) 105 [vI m,vI s,.bl false,vL A n c,.bq (st),vI lf,vL B k d],.fact (Row 117 3 A n c (List.flatMap encF L))]) fun _ h0=>?_
 refine aI (aI ?_)
 exact ev_fin ⟨trivial,_,rfl,(),rfl,trivial,aF [0,1]⟩
theorem rTruncArg (r:Nat) (m s:Int) (A:Option Addr) (n c:Nat) (st:Bool) (lf:Int) (B:Option Addr) (k d:Nat) (L:List Fl) (hn:n=L.length) (h1:n≤1000) (x:ByteArray) (z:Int) (hs:riseF L) (hh:hasF L x=true) (hi:posF L x<L.length) (hz:z<0∨(((L[posF L x]'hi).d.size:Nat):Int)<z):Triple Tryz.prog 111 [pP r,.string x,.int .i64 z] [Pt r 105 [.int .i64 m,.int .i64 s,.bool false,.slice A n c,.bool st,.int .i64 lf,.slice B k d],Row 117 3 A n c (L.flatMap encF)] [] Unit (fun _=>.int .i64 2) (fun _=>True) (fun _=>[Pt r 105 [.int .i64 m,.int .i64 s,.bool false,.slice A n c,.bool st,.int .i64 lf,.slice B k d],Row 117 3 A n c (L.flatMap encF)]):=by
 have TT:=rThereOk r m s A n c st lf B k d L hn h1 x hs hh
 refine aT Tryz.func111 [.pt 0 r 0,.va (.string x),vI z] [.box r 105 [vI m,vI s,.va (.bool false),vL A n c,.va (.bool st),vI lf,vL B k d],.fact (Row 117 3 A n c (L.flatMap encF))] (fun E=>?_) ⟨rfl,trivial,trivial,trivial⟩
 refine aG ?_
 refine aD TT [0,1] [] (fun v0_=>[.box (r) 105 [vI m,vI s,.bl false,vL A n c,.bq (st),vI lf,vL B k d],.fact (Row 117 3 A n c (List.flatMap encF L))]) fun _ h0=>?_
 refine aI ?_
 refine ev_if_lt (fun h1=>?_) (fun h1=>?_)
 refine aG ?_
 exact ev_fin ⟨trivial,_,rfl,(),rfl,trivial,aF [0,1]⟩
 refine aG ?_
 refine ev_stop (go_index0 (sz:=3) Tryz.tbs_ok (.inr 1) (posF L x) rfl rfl rfl rfl rfl rfl (by omega) rfl Row.at0 (fun g2 e3=>?_))
 subst e3
 refine aG ?_
 have l4:posF L x<(L).length:=(by omega)
 refine ev_stop (go_loadE Tryz.tbs_ok (.inr 1) (posF L x) 1 rfl rfl rfl rfl (fun _ h=>Row.rd h) (by omega) (fun _=>rfl) (by omega) l4 (by decide) ?_)
 refine aG ?_
 refine aJ ?_ (decide_eq_true (show z > (↑L[posF L x].d.size:Int) from (by omega)))
 exact ev_fin ⟨trivial,_,rfl,(),rfl,trivial,aF [0,1]⟩
theorem rRenArg (r:Nat) (m s:Int) (A:Option Addr) (n c:Nat) (st:Bool) (lf:Int) (B:Option Addr) (k d:Nat) (L:List Fl) (hn:n=L.length) (h1:n≤1000) (x y:ByteArray) (hs:riseF L) (hh:hasF L x=true) (ho:oddS y=true):Triple Tryz.prog 118 [pP r,.string x,.string y] [Pt r 105 [.int .i64 m,.int .i64 s,.bool false,.slice A n c,.bool st,.int .i64 lf,.slice B k d],Row 117 3 A n c (L.flatMap encF)] [] Unit (fun _=>.int .i64 2) (fun _=>True) (fun _=>[Pt r 105 [.int .i64 m,.int .i64 s,.bool false,.slice A n c,.bool st,.int .i64 lf,.slice B k d],Row 117 3 A n c (L.flatMap encF)]):=by
 have TT:=rThereOk r m s A n c st lf B k d L hn h1 x hs hh
 have TO:=rName y
 rw [ho] at TO
 refine aT Tryz.func118 [.pt 0 r 0,.va (.string x),.va (.string y)] [.box r 105 [vI m,vI s,.va (.bool false),vL A n c,.va (.bool st),vI lf,vL B k d],.fact (Row 117 3 A n c (L.flatMap encF))] (fun E=>?_) ⟨rfl,trivial,trivial,trivial⟩
 refine aG ?_
 refine aD TT [0,1] [] (fun v0_=>[.box (r) 105 [vI m,vI s,.bl false,vL A n c,.bq (st),vI lf,vL B k d],.fact (Row 117 3 A n c (List.flatMap encF L))]) fun _ h0=>?_
 refine aI ?_
 refine aC TO [] [] fun _ h1=>?_
 refine aJ ?_
 exact ev_fin ⟨trivial,_,rfl,(),rfl,trivial,aF [0,1]⟩
theorem rReadDown (r:Nat) (m s:Int) (A:Option Addr) (n c:Nat) (st:Bool) (lf:Int) (B:Option Addr) (k d:Nat) (x:ByteArray):Triple Tryz.prog 75 [pP r,.string x] [Pt r 105 [.int .i64 m,.int .i64 s,.bool true,.slice A n c,.bool st,.int .i64 lf,.slice B k d]] [] Unit (fun _=>.tuple #[.string .empty,.int .i64 41]) (fun _=>True) (fun _=>[Pt r 105 [.int .i64 m,.int .i64 s,.bool true,.slice A n c,.bool st,.int .i64 lf,.slice B k d]]):=by
 have TT:=rThereDown r m s A n c st lf B k d x
 refine aT Tryz.func75 [.pt 0 r 0,.va (.string x)] [.box r 105 [vI m,vI s,.va (.bool true),vL A n c,.va (.bool st),vI lf,vL B k d]] (fun E=>?_) ⟨rfl,trivial,trivial⟩
 refine aG ?_
 refine aD TT [0] [] (fun v0_=>[.box (r) 105 [vI m,vI s,.bl true,vL A n c,.bq (st),vI lf,vL B k d]]) fun _ h0=>?_
 refine aJ ?_
 exact ev_fin ⟨trivial,_,rfl,(),rfl,trivial,aF [0]⟩
theorem rReadGone (r:Nat) (m s:Int) (A:Option Addr) (n c:Nat) (st:Bool) (lf:Int) (B:Option Addr) (k d:Nat) (L:List Fl) (hn:n=L.length) (h1:n≤1000) (x:ByteArray) (hs:riseF L) (hh:hasF L x=false):Triple Tryz.prog 75 [pP r,.string x] [Pt r 105 [.int .i64 m,.int .i64 s,.bool false,.slice A n c,.bool st,.int .i64 lf,.slice B k d],Row 117 3 A n c (L.flatMap encF)] [] Unit (fun _=>.tuple #[.string .empty,.int .i64 4]) (fun _=>True) (fun _=>[Pt r 105 [.int .i64 m,.int .i64 s,.bool false,.slice A n c,.bool st,.int .i64 lf,.slice B k d],Row 117 3 A n c (L.flatMap encF)]):=by
 have TT:=rThereNo r m s A n c st lf B k d L hn h1 x hs hh
 refine aT Tryz.func75 [.pt 0 r 0,.va (.string x)] [.box r 105 [vI m,vI s,.va (.bool false),vL A n c,.va (.bool st),vI lf,vL B k d],.fact (Row 117 3 A n c (L.flatMap encF))] (fun E=>?_) ⟨rfl,trivial,trivial⟩
 refine aG ?_
 refine aD TT [0,1] [] (fun v0_=>[.box (r) 105 [vI m,vI s,.bl false,vL A n c,.bq (st),vI lf,vL B k d],.fact (Row 117 3 A n c (List.flatMap encF L))]) fun _ h0=>?_
 refine aJ ?_
 exact ev_fin ⟨trivial,_,rfl,(),rfl,trivial,aF [0,1]⟩
theorem rRead (r:Nat) (m s:Int) (A:Option Addr) (n c:Nat) (st:Bool) (lf:Int) (B:Option Addr) (k d:Nat) (L:List Fl) (hn:n=L.length) (h1:n≤1000) (x:ByteArray) (hs:riseF L) (hh:hasF L x=true) (hi:posF L x<L.length):Triple Tryz.prog 75 [pP r,.string x] [Pt r 105 [.int .i64 m,.int .i64 s,.bool false,.slice A n c,.bool st,.int .i64 lf,.slice B k d],Row 117 3 A n c (L.flatMap encF)] [] Unit (fun _=>.tuple #[.string (L[posF L x]'hi).d,.int .i64 0]) (fun _=>True) (fun _=>[Pt r 105 [.int .i64 m,.int .i64 s,.bool false,.slice A n c,.bool st,.int .i64 lf,.slice B k d],Row 117 3 A n c (L.flatMap encF)]):=by
 have TT:=rThereOk r m s A n c st lf B k d L hn h1 x hs hh
 refine aT Tryz.func75 [.pt 0 r 0,.va (.string x)] [.box r 105 [vI m,vI s,.va (.bool false),vL A n c,.va (.bool st),vI lf,vL B k d],.fact (Row 117 3 A n c (L.flatMap encF))] (fun E=>?_) ⟨rfl,trivial,trivial⟩
 refine aG ?_
 refine aD TT [0,1] [] (fun v0_=>[.box (r) 105 [vI m,vI s,.bl false,vL A n c,.bq (st),vI lf,vL B k d],.fact (Row 117 3 A n c (List.flatMap encF L))]) fun _ h0=>?_
 refine aI ?_
 refine ev_stop (go_index0 (sz:=3) Tryz.tbs_ok (.inr 1) (posF L x) rfl rfl rfl rfl rfl rfl (by omega) rfl Row.at0 (fun g1 e2=>?_))
 subst e2
 refine aG ?_
 have l3:posF L x<(L).length:=(by omega)
 refine ev_stop (go_loadE Tryz.tbs_ok (.inr 1) (posF L x) 1 rfl rfl rfl rfl (fun _ h=>Row.rd h) (by omega) (fun _=>rfl) (by omega) l3 (by decide) ?_)
 refine aG ?_
 exact ev_fin ⟨trivial,_,rfl,(),rfl,trivial,aF [0,1]⟩
theorem rAppDown (r:Nat) (m s:Int) (A:Option Addr) (n c:Nat) (st:Bool) (lf:Int) (B:Option Addr) (k d:Nat) (x y:ByteArray):Triple Tryz.prog 33 [pP r,.string x,.string y] [Pt r 105 [.int .i64 m,.int .i64 s,.bool true,.slice A n c,.bool st,.int .i64 lf,.slice B k d]] [] Unit (fun _=>.int .i64 41) (fun _=>True) (fun _=>[Pt r 105 [.int .i64 m,.int .i64 s,.bool true,.slice A n c,.bool st,.int .i64 lf,.slice B k d]]):=by
 refine aT Tryz.func33 [.pt 0 r 0,.va (.string x),.va (.string y)] [.box r 105 [vI m,vI s,.va (.bool true),vL A n c,.va (.bool st),vI lf,vL B k d]] (fun E=>?_) ⟨rfl,trivial,trivial,trivial⟩
 refine aG (aJ ?_)
 exact ev_fin ⟨trivial,_,rfl,(),rfl,trivial,aF [0]⟩
theorem rAppArg (r:Nat) (m s:Int) (A:Option Addr) (n c:Nat) (st:Bool) (lf:Int) (B:Option Addr) (k d:Nat) (x y:ByteArray) (ho:oddS x=true):Triple Tryz.prog 33 [pP r,.string x,.string y] [Pt r 105 [.int .i64 m,.int .i64 s,.bool false,.slice A n c,.bool st,.int .i64 lf,.slice B k d]] [] Unit (fun _=>.int .i64 2) (fun _=>True) (fun _=>[Pt r 105 [.int .i64 m,.int .i64 s,.bool false,.slice A n c,.bool st,.int .i64 lf,.slice B k d]]):=by
 have TO:=rName x
 rw [ho] at TO
 refine aT Tryz.func33 [.pt 0 r 0,.va (.string x),.va (.string y)] [.box r 105 [vI m,vI s,.va (.bool false),vL A n c,.va (.bool st),vI lf,vL B k d]] (fun E=>?_) ⟨rfl,trivial,trivial,trivial⟩
 refine aG (aI ?_)
 refine aC TO [] [] fun _ h0=>?_
 refine aJ ?_
 exact ev_fin ⟨trivial,_,rfl,(),rfl,trivial,aF [0]⟩
theorem rAppFull1 (r:Nat) (m s:Int) (A:Option Addr) (n c:Nat) (st:Bool) (lf:Int) (B:Option Addr) (k d:Nat) (L:List Fl) (hn:n=L.length) (h1:n≤1000) (x y:ByteArray) (hs:riseF L) (ho:oddS x=false) (hh:hasF L x=false) (h16:n=16):Triple Tryz.prog 33 [pP r,.string x,.string y] [Pt r 105 [.int .i64 m,.int .i64 s,.bool false,.slice A n c,.bool st,.int .i64 lf,.slice B k d],Row 117 3 A n c (L.flatMap encF)] [] Unit (fun _=>.int .i64 40) (fun _=>True) (fun _=>[Pt r 105 [.int .i64 m,.int .i64 s,.bool false,.slice A n c,.bool st,.int .i64 lf,.slice B k d],Row 117 3 A n c (L.flatMap encF)]):=by
 have TO:=rName x
 rw [ho] at TO
 have T1:=rFind r m s false A n c st lf B k d L hn h1 x hs
 rw [show ixF L x = -1 from by unfold ixF;rw [hh];rfl] at T1
 refine aT Tryz.func33 [.pt 0 r 0,.va (.string x),.va (.string y)] [.box r 105 [vI m,vI s,.va (.bool false),vL A n c,.va (.bool st),vI lf,vL B k d],.fact (Row 117 3 A n c (L.flatMap encF))] (fun E=>?_) ⟨rfl,trivial,trivial,trivial⟩
 refine aG (aI ?_)
 refine aC TO [] [] fun _ h0=>?_
 refine aI ?_
 refine aD T1 [0,1] [] (fun v0_=>[.box (r) 105 [vI m,vI s,.bl false,vL A n c,.bq (st),vI lf,vL B k d],.fact (Row 117 3 A n c (List.flatMap encF L))]) fun _ h1=>?_
 refine ev_stop (go_draw Tryz.tbs_ok true [0] [(0,true),(1,true),(2,true),(3,true),(4,true),(5,true),(6,true),(7,true),(8,true),(9,true),(10,true),(11,true),(12,true),(13,true),(14,true),(15,true),(16,true),(17,true),(18,false),(19,false),(20,false),(21,false)] rfl ?_)
 refine aG (aE (aJ (aE ?_)))
 refine aJ ?_ (decide_eq_true (show (↑n:Int) ≥ 16 from (by omega)))
 refine aE (aE (aE (aE (aE ?_))))
 exact ev_fin ⟨trivial,_,rfl,(),rfl,trivial,aF [0,1]⟩
theorem rAppFull2T (r:Nat) (m s:Int) (A:Option Addr) (n c:Nat) (st:Bool) (lf:Int) (B:Option Addr) (k d:Nat) (L:List Fl) (hn:n=L.length) (h1:n≤1000) (x y:ByteArray) (hs:riseF L) (ho:oddS x=false) (hm:0<m) (hm2:m≤1048576) (hb:sumD L≤1000000000) (hh:hasF L x=true) (hy:m-sumD L<(y.size:Int)):Triple Tryz.prog 33 [pP r,.string x,.string y] [Pt r 105 [.int .i64 m,.int .i64 s,.bool false,.slice A n c,.bool st,.int .i64 lf,.slice B k d],Row 117 3 A n c (L.flatMap encF)] [] Unit (fun _=>.int .i64 40) (fun _=>True) (fun _=>[Pt r 105 [.int .i64 m,.int .i64 s,.bool false,.slice A n c,.bool st,.int .i64 lf,.slice B k d],Row 117 3 A n c (L.flatMap encF)]):=by
 have TO:=rName x
 rw [ho] at TO
 have T1:=rFind r m s false A n c st lf B k d L hn h1 x hs
 rw [show ixF L x=(posF L x:Nat) from by unfold ixF;rw [hh];rfl] at T1
 have TS:=rSize r m s false A n c st lf B k d L hn h1 hb
 refine aT Tryz.func33 [.pt 0 r 0,.va (.string x),.va (.string y)] [.box r 105 [vI m,vI s,.va (.bool false),vL A n c,.va (.bool st),vI lf,vL B k d],.fact (Row 117 3 A n c (L.flatMap encF))] (fun E=>?_) ⟨rfl,trivial,trivial,trivial⟩
 refine aG (aI ?_)
 refine aC TO [] [] fun _ h0=>?_
 refine aI ?_
 refine aD T1 [0,1] [] (fun v0_=>[.box (r) 105 [vI m,vI s,.bl false,vL A n c,.bq (st),vI lf,vL B k d],.fact (Row 117 3 A n c (List.flatMap encF L))]) fun _ h1=>?_
 refine ev_stop (go_draw Tryz.tbs_ok true [0] [(0,true),(1,true),(2,true),(3,true),(4,true),(5,true),(6,true),(7,true),(8,true),(9,true),(10,true),(11,true),(12,true),(13,true),(14,true),(15,true),(16,true),(17,true),(18,false),(19,false),(20,false),(21,false)] rfl ?_)
 refine aG (aE (aI (aE ?_)))
 refine aD TS [0,1] [] (fun v0_=>[.box (r) 105 [vI m,vI s,.bl false,vL A n c,.bq (st),vI lf,vL B k d],.fact (Row 117 3 A n c (List.flatMap encF L))]) fun _ h2=>?_
 refine aE ?_
 refine w6 ?_
 refine aE (aE (aE ?_))
 refine aJ ?_ (decide_eq_true (by with_reducible assumption))
 exact ev_fin ⟨trivial,_,rfl,(),rfl,trivial,aF [0,1]⟩
theorem rAppFull2F (r:Nat) (m s:Int) (A:Option Addr) (n c:Nat) (st:Bool) (lf:Int) (B:Option Addr) (k d:Nat) (L:List Fl) (hn:n=L.length) (h1:n≤1000) (x y:ByteArray) (hs:riseF L) (ho:oddS x=false) (hm:0<m) (hm2:m≤1048576) (hb:sumD L≤1000000000) (hh:hasF L x=false) (h16:n<16) (hy:m-sumD L<(y.size:Int)):Triple Tryz.prog 33 [pP r,.string x,.string y] [Pt r 105 [.int .i64 m,.int .i64 s,.bool false,.slice A n c,.bool st,.int .i64 lf,.slice B k d],Row 117 3 A n c (L.flatMap encF)] [] Unit (fun _=>.int .i64 40) (fun _=>True) (fun _=>[Pt r 105 [.int .i64 m,.int .i64 s,.bool false,.slice A n c,.bool st,.int .i64 lf,.slice B k d],Row 117 3 A n c (L.flatMap encF)]):=by
 have TO:=rName x
 rw [ho] at TO
 have T1:=rFind r m s false A n c st lf B k d L hn h1 x hs
 rw [show ixF L x = -1 from by unfold ixF;rw [hh];rfl] at T1
 have TS:=rSize r m s false A n c st lf B k d L hn h1 hb
 refine aT Tryz.func33 [.pt 0 r 0,.va (.string x),.va (.string y)] [.box r 105 [vI m,vI s,.va (.bool false),vL A n c,.va (.bool st),vI lf,vL B k d],.fact (Row 117 3 A n c (L.flatMap encF))] (fun E=>?_) ⟨rfl,trivial,trivial,trivial⟩
 refine aG (aI ?_)
 refine aC TO [] [] fun _ h0=>?_
 refine aI ?_
 refine aD T1 [0,1] [] (fun v0_=>[.box (r) 105 [vI m,vI s,.bl false,vL A n c,.bq (st),vI lf,vL B k d],.fact (Row 117 3 A n c (List.flatMap encF L))]) fun _ h1=>?_
 refine ev_stop (go_draw Tryz.tbs_ok true [0] [(0,true),(1,true),(2,true),(3,true),(4,true),(5,true),(6,true),(7,true),(8,true),(9,true),(10,true),(11,true),(12,true),(13,true),(14,true),(15,true),(16,true),(17,true),(18,false),(19,false),(20,false),(21,false)] rfl ?_)
 refine aG (aE (aJ (aE ?_)))
 refine aI ?_ (decide_eq_false (show ¬(↑n:Int) ≥ 16 from (by omega)))
 refine aE ?_
 refine aD TS [0,1] [] (fun v0_=>[.box (r) 105 [vI m,vI s,.bl false,vL A n c,.bq (st),vI lf,vL B k d],.fact (Row 117 3 A n c (List.flatMap encF L))]) fun _ h2=>?_
 refine aE ?_
 refine w6 ?_
 refine aE (aE (aE ?_))
 refine aJ ?_ (decide_eq_true (by with_reducible assumption))
 exact ev_fin ⟨trivial,_,rfl,(),rfl,trivial,aF [0,1]⟩
theorem rStartUp (r:Nat) (m s:Int) (A:Option Addr) (n c:Nat) (st:Bool) (lf:Int) (B:Option Addr) (k d:Nat):Triple Tryz.prog 67 [pP r] [Pt r 105 [.int .i64 m,.int .i64 s,.bool false,.slice A n c,.bool st,.int .i64 lf,.slice B k d]] [] Unit (fun _=>.int .i64 2) (fun _=>True) (fun _=>[Pt r 105 [.int .i64 m,.int .i64 s,.bool false,.slice A n c,.bool st,.int .i64 lf,.slice B k d]]):=by
 refine aT Tryz.func67 [.pt 0 r 0] [.box r 105 [vI m,vI s,.va (.bool false),vL A n c,.va (.bool st),vI lf,vL B k d]] (fun E=>?_) ⟨rfl,trivial⟩
 refine aG (aJ ?_)
 exact ev_fin ⟨trivial,_,rfl,(),rfl,trivial,aF [0]⟩
theorem rStartDown (r:Nat) (m s:Int) (A:Option Addr) (n c:Nat) (st:Bool) (lf:Int) (B:Option Addr) (k d:Nat) (h0:0≤s) (h1:s≤1000000000):Triple Tryz.prog 67 [pP r] [Pt r 105 [.int .i64 m,.int .i64 s,.bool true,.slice A n c,.bool st,.int .i64 lf,.slice B k d]] [] Unit (fun _=>.int .i64 0) (fun _=>True) (fun _=>[Pt r 105 [.int .i64 m,.int .i64 (s+1),.bool false,.slice A n c,.bool st,.int .i64 lf,.slice B k d]]):=by
 refine aT Tryz.func67 [.pt 0 r 0] [.box r 105 [vI m,vI s,.va (.bool true),vL A n c,.va (.bool st),vI lf,vL B k d]] (fun E=>?_) ⟨rfl,trivial⟩
 refine aG (aI ?_)
 refine w6 ?_
 exact ev_fin ⟨trivial,_,rfl,(),rfl,trivial,aF [0]⟩
theorem rFailDown (r:Nat) (m s:Int) (A:Option Addr) (n c:Nat) (st:Bool) (lf:Int) (B:Option Addr) (k d:Nat) (z:Int) (Q:Option Addr) (kq dq:Nat):Triple Tryz.prog 68 [pP r,.int .i64 z,.slice Q kq dq] [Pt r 105 [.int .i64 m,.int .i64 s,.bool true,.slice A n c,.bool st,.int .i64 lf,.slice B k d]] [] Unit (fun _=>.int .i64 41) (fun _=>True) (fun _=>[Pt r 105 [.int .i64 m,.int .i64 s,.bool true,.slice A n c,.bool st,.int .i64 lf,.slice B k d]]):=by
 refine aT Tryz.func68 [.pt 0 r 0,vI z,vL Q kq dq] [.box r 105 [vI m,vI s,.va (.bool true),vL A n c,.va (.bool st),vI lf,vL B k d]] (fun E=>?_) ⟨rfl,trivial,trivial,trivial⟩
 refine aG (aJ ?_)
 exact ev_fin ⟨trivial,_,rfl,(),rfl,trivial,aF [0]⟩
theorem rFailArg (r:Nat) (m s:Int) (A:Option Addr) (n c:Nat) (st:Bool) (lf:Int) (B:Option Addr) (k d:Nat) (z:Int) (Q:Option Addr) (kq dq:Nat) (hz:z<0):Triple Tryz.prog 68 [pP r,.int .i64 z,.slice Q kq dq] [Pt r 105 [.int .i64 m,.int .i64 s,.bool false,.slice A n c,.bool st,.int .i64 lf,.slice B k d]] [] Unit (fun _=>.int .i64 2) (fun _=>True) (fun _=>[Pt r 105 [.int .i64 m,.int .i64 s,.bool false,.slice A n c,.bool st,.int .i64 lf,.slice B k d]]):=by
 refine aT Tryz.func68 [.pt 0 r 0,vI z,vL Q kq dq] [.box r 105 [vI m,vI s,.va (.bool false),vL A n c,.va (.bool st),vI lf,vL B k d]] (fun E=>?_) ⟨rfl,trivial,trivial,trivial⟩
 refine aG (aI ?_)
 refine aJ ?_ (decide_eq_true (by with_reducible assumption))
 exact ev_fin ⟨trivial,_,rfl,(),rfl,trivial,aF [0]⟩
theorem rFailOk (r:Nat) (m s:Int) (A:Option Addr) (n c:Nat) (st:Bool) (lf:Int) (B:Option Addr) (k d:Nat) (z:Int) (Q:Option Addr) (kq dq:Nat) (K:List Int) (hz:0≤z) (hk:kq=K.length) (h1:kq≤100000):Triple Tryz.prog 68 [pP r,.int .i64 z,.slice Q kq dq] [Pt r 105 [.int .i64 m,.int .i64 s,.bool false,.slice A n c,.bool st,.int .i64 lf,.slice B k d]] [Rd 1 Q kq (K.flatMap encN)] (Option Addr × Nat) (fun _=>.int .i64 0) (fun _=>True) (fun (C,e)=>[Pt r 105 [.int .i64 m,.int .i64 s,.bool false,.slice A n c,.bool true,.int .i64 z,.slice C kq e],Row 3 1 C kq e (K.flatMap encN)]):=by
 refine aT Tryz.func68 [.pt 0 r 0,vI z,vL Q kq dq] [.box r 105 [vI m,vI s,.va (.bool false),vL A n c,.va (.bool st),vI lf,vL B k d]] (fun E=>?_) ⟨rfl,trivial,trivial,trivial⟩
 refine aG (aI ?_)
 refine aI ?_ (decide_eq_false (show ¬z<0 from (by omega)))
 refine ev_new fun b0=>?_
 refine ev_stop (go_appendE (sz:=1) (M:=[_]) (enc:=encN) Tryz.tbs_ok [1] [some b0] (.inl 0) ([]) (K) (K) (kq) rfl rfl rfl rfl rfl rfl rfl (by decide) rfl (by decide) (fun _ p=>Pt.row (starH_one.1 p) rfl (by decide)) rfl (fun _ h=>h) (by first | rfl | simp) (by first | rfl | omega) (aM (kq)) (aN (kq)) (fun _ _=>aL) (fun A1 c2 h3=>?_))
 refine aG ?_
 exact ev_fin ⟨trivial,_,rfl,((A1,c2)),rfl,trivial,aF [0,2]⟩
theorem rNewErr (z:Int) (hz:z<1∨1048576<z):Triple Tryz.prog 28 [.int .i64 z] [] [] (Unit) (fun _=>.tuple #[.pointer none,.int .i64 2]) (fun _=>True) (fun _=>[]):=by
 refine aT Tryz.func28 [vI z] [] (fun E=>?_) ⟨trivial,trivial⟩
 refine aG ?_
 refine ev_if_lt (fun h0=>?_) (fun h0=>?_)
 refine aG ?_
 refine ev_fin ⟨trivial,_,rfl,(()),rfl,(by trivial),Frm.nil _⟩
 refine aG ?_
 refine aJ ?_ (decide_eq_true (show z > 1048576 from (by omega)))
 refine ev_fin ⟨trivial,_,rfl,(()),rfl,(by trivial),Frm.nil _⟩
theorem rNewOk (z:Int) (hz:1≤z) (hz2:z≤1048576):Triple Tryz.prog 28 [.int .i64 z] [] [] (Nat) (fun p=>.tuple #[pP p,.int .i64 0]) (fun _=>True) (fun p=>[Pt p 105 [.int .i64 z,.int .i64 0,.bool false,.slice none 0 0,.bool false,.int .i64 0,.slice none 0 0]]):=by
 refine aT Tryz.func28 [vI z] [] (fun E=>?_) ⟨trivial,trivial⟩
 refine aG ?_
 refine aI ?_ (decide_eq_false (show ¬z<1 from (by omega)))
 refine aI ?_ (decide_eq_false (show ¬z > 1048576 from (by omega)))
 refine ev_new fun b0=>?_
 exact ev_fin ⟨trivial,_,rfl,(b0),rfl,trivial,aF [0]⟩
def ptR (r:Nat) (m s:Int) (dn:Bool) (A:Option Addr) (n c:Nat) (st:Bool) (lf:Int) (B:Option Addr) (k d:Nat):Asn:=Pt r 105 [.int .i64 m,.int .i64 s,.bool dn,.slice A n c,.bool st,.int .i64 lf,.slice B k d]
def rowR (A:Option Addr) (n c:Nat) (L:List Fl):Asn:=Row 117 3 A n c (L.flatMap encF)
structure RA where
 A:Option Addr
 c:Nat
 lf:Int
 B:Option Addr
 d:Nat
def refL (r:Nat) (D:DK) (x:RA):List Asn:=[ptR r D.most D.starts D.down x.A D.files.length x.c D.fails.isSome (D.fails.getD x.lf) x.B D.keep.length x.d,rowR x.A D.files.length x.c D.files,rowN x.B D.keep.length x.d D.keep]
def RefD (r:Nat) (D:DK):Asn:=Asn.ex fun x:RA=>Asn.star (refL r D x)
theorem RefD.pre {r:Nat} {D:DK} (h:Hp) (q:Asn.starH [RefD r D] h):∃ x:RA,Asn.starH (refL r D x) h:=by
 obtain ⟨x,q⟩:=starH_one.1 q
 exact ⟨x,star_holds.1 q⟩
theorem RefD.put {r:Nat} {D:DK} (x:RA) {h:Hp} (q:Asn.starH (refL r D x) h):Asn.starH [RefD r D] h:=starH_one.2 ⟨x,star_holds.2 q⟩
theorem liftR {r:Nat} {fn:FuncId} {args:List Value} (m s:Int) (L:List Fl) (fl:Option Int) (K:List Int) (late:Bool) (L2:List Fl) (hfl:∀ q,fl=some q→0≤q∧q≤9223372036854775807)
 (hN:∀ A c lf B d,Triple Tryz.prog fn args [ptR r m s false A L.length c false lf B K.length d,rowR A L.length c L] [] (Option Addr × Nat) (fun _=>.int .i64 0) (fun _=>True) (fun x=>[ptR r m s false x.1 L2.length x.2 false lf B K.length d,rowR x.1 L2.length x.2 L2]))
 (hG:∀ A c B d q,0<q→q≤9223372036854775807→Triple Tryz.prog fn args [ptR r m s false A L.length c true q B K.length d,rowR A L.length c L] [] (Option Addr × Nat) (fun _=>.int .i64 0) (fun _=>True) (fun x=>[ptR r m s false x.1 L2.length x.2 true (q-1) B K.length d,rowR x.1 L2.length x.2 L2]))
 (hS:∀ A c B d q,q=0→Triple Tryz.prog fn args [ptR r m s false A L.length c true q B K.length d,rowR A L.length c L,rowN B K.length d K] [] (Option Addr × Nat) (fun _=>.int .i64 41) (fun _=>True) (fun x=>[ptR r m s true x.1 (if late then L2 else L).length x.2 false q B K.length d,rowR x.1 (if late then L2 else L).length x.2 (crashF (if late then L2 else L) K),rowN B K.length d K])) :
 Triple Tryz.prog fn args [RefD r ⟨m,s,false,L,fl,K⟩] [] Unit (fun _=>.int .i64 (chg ⟨m,s,false,L,fl,K⟩ late L2).2) (fun _=>True) (fun _=>[RefD r (chg ⟨m,s,false,L,fl,K⟩ late L2).1]):=by
 refine Triple.pre RefD.pre fun ⟨A,c,lf,B,d⟩=>?_
 cases fl with
 | none=>exact ((hN A c lf B d).frame [rowN B K.length d K]).imp fun x _=>⟨(),rfl,trivial,fun h q=>RefD.put ⟨x.1,x.2,lf,B,d⟩ q⟩
 |
  some q =>
  obtain ⟨h1,h2⟩:=hfl q rfl
  unfold chg
  by_cases hq:0<q
  · simp only [hq,if_true]
    exact ((hG A c B d q hq h2).frame [rowN B K.length d K]).imp fun x _=>⟨(),rfl,trivial,fun h q=>RefD.put ⟨x.1,x.2,lf,B,d⟩ q⟩
  simp only [hq,if_false]
  refine (hS A c B d q (by omega)).imp fun x _=>⟨(),rfl,trivial,fun h p=>RefD.put ⟨x.1,x.2,q,B,d⟩ ?_⟩
  unfold refL
  rw [show (crashF (if late=true then L2 else L) K).length=(if late then L2 else L).length from crashF_len _ _]
  exact p
theorem liftRAsk {r:Nat} {fn:FuncId} {args:List Value} {X:Type} {ret:X→Value} {good:X→Prop} (D:DK) (N:List Asn)
 (hN:∀ A c st lf B d,Triple Tryz.prog fn args [ptR r D.most D.starts D.down A D.files.length c st lf B D.keep.length d,rowR A D.files.length c D.files] N X ret good (fun _=>[ptR r D.most D.starts D.down A D.files.length c st lf B D.keep.length d,rowR A D.files.length c D.files])) :
 Triple Tryz.prog fn args [RefD r D] N X ret good (fun _=>[RefD r D]) :=
 Triple.pre RefD.pre fun ⟨A,c,lf,B,d⟩=>((hN A c _ _ B d).frame _).imp fun x hx=>⟨x,rfl,hx,fun _ q=>RefD.put ⟨A,c,lf,B,d⟩ q⟩
theorem liftRPt {r:Nat} {fn:FuncId} {args:List Value} {X:Type} {ret:X→Value} {good:X→Prop} (D:DK) (N:List Asn)
 (hN:∀ A c st lf B d,Triple Tryz.prog fn args [ptR r D.most D.starts D.down A D.files.length c st lf B D.keep.length d] N X ret good (fun _=>[ptR r D.most D.starts D.down A D.files.length c st lf B D.keep.length d])) :
 Triple Tryz.prog fn args [RefD r D] N X ret good (fun _=>[RefD r D]) :=
 Triple.pre RefD.pre fun ⟨A,c,lf,B,d⟩=>((hN A c _ _ B d).frame _).imp fun x hx=>⟨x,rfl,hx,fun _ q=>RefD.put ⟨A,c,lf,B,d⟩ q⟩
theorem qSync (r:Nat) (D:DK) (x:ByteArray) (hD:okD D):Triple Tryz.prog 114 [pP r,.string x] [RefD r D] [] Unit (fun _=>.int .i64 (syncD D x).2) (fun _=>True) (fun _=>[RefD r (syncD D x).1]):=by
 have hF:=hD.okF
 have hs:=hD.rise
 have h1:D.files.length≤1000:=Nat.le_trans hD.few (by decide)
 have hfl:=hD.fails
 obtain ⟨m,s,dn,L,fl,K⟩:=D
 simp only [syncD]
 cases dn with
 | true=>exact liftRPt ⟨m,s,true,L,fl,K⟩ [] fun A c st lf B d=>rDownSync r m s A L.length c st lf B K.length d x
 |
  false =>
  simp only [Bool.false_eq_true,if_false]
  cases hh:hasF L x with
  | false=>exact liftRAsk ⟨m,s,false,L,fl,K⟩ [] fun A c st lf B d=>rGoneSync r m s A L.length c st lf B K.length d L rfl h1 x hs hh
  |
   true =>
   obtain ⟨hi,_⟩:=has_pos hs hh
   rw [if_pos rfl,setF_eq hi]
   refine liftR m s L fl K false _ hfl (fun A c lf B d=>?_) (fun A c B d q hq hq2=>?_) (fun A c B d q hq=>?_)
   · exact (rSyncN r m s A L.length c lf B K.length d L rfl h1 x hs hh hi).imp fun _ _=>⟨(A,c),rfl,trivial,fun h q=>by rw [List.length_set];exact q⟩
   · exact (rSyncG r m s A L.length c q B K.length d L rfl h1 x hs hh hi hq hq2).imp fun _ _=>⟨(A,c),rfl,trivial,fun h q=>by rw [List.length_set];exact q⟩
   exact (rSyncS r m s A L.length c q B K.length d L rfl h1 x hs hh hi hq K rfl hF).imp fun _ _=>⟨(A,c),rfl,trivial,fun h q=>q⟩
theorem qTrunc (r:Nat) (D:DK) (x:ByteArray) (z:Int) (hD:okD D):Triple Tryz.prog 111 [pP r,.string x,.int .i64 z] [RefD r D] [] Unit (fun _=>.int .i64 (truncD D x z).2) (fun _=>True) (fun _=>[RefD r (truncD D x z).1]):=by
 have hF:=hD.okF
 have hs:=hD.rise
 have h1:D.files.length≤1000:=Nat.le_trans hD.few (by decide)
 have hfl:=hD.fails
 obtain ⟨m,s,dn,L,fl,K⟩:=D
 simp only [truncD]
 cases dn with
 | true=>exact liftRPt ⟨m,s,true,L,fl,K⟩ [] fun A c st lf B d=>rDownTruncate r m s A L.length c st lf B K.length d x z
 |
  false =>
  simp only [Bool.false_eq_true,if_false]
  cases hh:hasF L x with
  | false=>exact liftRAsk ⟨m,s,false,L,fl,K⟩ [] fun A c st lf B d=>rGoneTruncate r m s A L.length c st lf B K.length d L rfl h1 x z hs hh
  |
   true =>
   obtain ⟨hi,_⟩:=has_pos hs hh
   rw [if_pos rfl]
   rw [getF_eq hi]
   by_cases hz:z<0∨((L[posF L x].d.size:Nat):Int)<z
   · rw [if_pos hz]
     exact liftRAsk ⟨m,s,false,L,fl,K⟩ [] fun A c st lf B d=>rTruncArg r m s A L.length c st lf B K.length d L rfl h1 x z hs hh hi hz
   rw [if_neg hz,setF_eq hi]
   have hz1:0≤z:=by omega
   have hz2:z≤L[posF L x].d.size:=by omega
   refine liftR m s L fl K false _ hfl (fun A c lf B d=>?_) (fun A c B d q hq hq2=>?_) (fun A c B d q hq=>?_)
   · exact (rTruncN r m s A L.length c lf B K.length d L rfl h1 x z hs hh hi hz1 hz2).imp fun _ _=>⟨(A,c),rfl,trivial,fun h q=>by rw [List.length_set];exact q⟩
   · exact (rTruncG r m s A L.length c q B K.length d L rfl h1 x z hs hh hi hz1 hz2 hq hq2).imp fun _ _=>⟨(A,c),rfl,trivial,fun h q=>by rw [List.length_set];exact q⟩
   exact (rTruncS r m s A L.length c q B K.length d L rfl h1 x z hs hh hi hz1 hz2 hq K rfl hF).imp fun _ _=>⟨(A,c),rfl,trivial,fun h q=>q⟩
theorem qRem (r:Nat) (D:DK) (x:ByteArray) (hD:okD D):Triple Tryz.prog 140 [pP r,.string x] [RefD r D] [] Unit (fun _=>.int .i64 (remD D x).2) (fun _=>True) (fun _=>[RefD r (remD D x).1]):=by
 have hF:=hD.okF
 have hs:=hD.rise
 have h1:D.files.length≤1000:=Nat.le_trans hD.few (by decide)
 have hfl:=hD.fails
 obtain ⟨m,s,dn,L,fl,K⟩:=D
 simp only [remD]
 cases dn with
 | true=>exact liftRPt ⟨m,s,true,L,fl,K⟩ [] fun A c st lf B d=>rDownRemove r m s A L.length c st lf B K.length d x
 |
  false =>
  simp only [Bool.false_eq_true,if_false]
  cases hh:hasF L x with
  | false=>exact liftRAsk ⟨m,s,false,L,fl,K⟩ [] fun A c st lf B d=>rGoneRemove r m s A L.length c st lf B K.length d L rfl h1 x hs hh
  |
   true =>
   obtain ⟨hi,_⟩:=has_pos hs hh
   rw [if_pos rfl]
   have hl:(L.eraseIdx (posF L x)).length=L.length-1:=by rw [List.length_eraseIdx_of_lt hi]
   refine liftR m s L fl K false _ hfl (fun A c lf B d=>?_) (fun A c B d q hq hq2=>?_) (fun A c B d q hq=>?_)
   · exact (rRemN r m s A L.length c lf B K.length d L rfl h1 x hs hh hi).imp fun (C,e) _=>⟨(C,e),rfl,trivial,fun h q=>by rw [hl];exact q⟩
   · exact (rRemG r m s A L.length c q B K.length d L rfl h1 x hs hh hi hq hq2).imp fun (C,e) _=>⟨(C,e),rfl,trivial,fun h q=>by rw [hl];exact q⟩
   exact (rRemS r m s A L.length c q B K.length d L rfl h1 x hs hh hi hq K rfl hF).imp fun _ _=>⟨(A,c),rfl,trivial,fun h q=>q⟩
theorem qRen (r:Nat) (D:DK) (x y:ByteArray) (hD:okD D):Triple Tryz.prog 118 [pP r,.string x,.string y] [RefD r D] [] Unit (fun _=>.int .i64 (renD D x y).2) (fun _=>True) (fun _=>[RefD r (renD D x y).1]):=by
 have hF:=hD.okF
 have hs:=hD.rise
 have h1:D.files.length≤1000:=Nat.le_trans hD.few (by decide)
 have hfl:=hD.fails
 obtain ⟨m,s,dn,L,fl,K⟩:=D
 simp only [renD]
 cases dn with
 | true=>exact liftRPt ⟨m,s,true,L,fl,K⟩ [] fun A c st lf B d=>rDownRename r m s A L.length c st lf B K.length d x y
 |
  false =>
  simp only [Bool.false_eq_true,if_false]
  cases hh:hasF L x with
  | false=>exact liftRAsk ⟨m,s,false,L,fl,K⟩ [] fun A c st lf B d=>rGoneRename r m s A L.length c st lf B K.length d L rfl h1 x y hs hh
  |
   true =>
   obtain ⟨hi,_⟩:=has_pos hs hh
   rw [if_pos rfl]
   cases ho:oddS y with
   | true=>exact liftRAsk ⟨m,s,false,L,fl,K⟩ [] fun A c st lf B d=>rRenArg r m s A L.length c st lf B K.length d L rfl h1 x y hs hh ho
   |
    false =>
    have hl:(L.eraseIdx (posF L x)).length=L.length-1:=by rw [List.length_eraseIdx_of_lt hi]
    rw [renF_eq hi,if_neg (by decide)]
    unfold putFl
    cases hh2:hasF (L.eraseIdx (posF L x)) y with
    |
     true =>
     rw [if_pos rfl]
     refine liftR m s L fl K false _ hfl (fun A c lf B d=>?_) (fun A c B d q hq hq2=>?_) (fun A c B d q hq=>?_)
     · exact (rRenTN r m s A L.length c lf B K.length d L rfl h1 x y hs hh hi ho hh2).imp fun (C,e) _=>⟨(C,e),rfl,trivial,fun h q=>by rw [List.length_set,hl];exact q⟩
     · exact (rRenTG r m s A L.length c q B K.length d L rfl h1 x y hs hh hi ho hh2 hq hq2).imp fun (C,e) _=>⟨(C,e),rfl,trivial,fun h q=>by rw [List.length_set,hl];exact q⟩
     exact (rRenS r m s A L.length c q B K.length d L rfl h1 x y hs hh hi ho hq K rfl hF).imp fun _ _=>⟨(A,c),rfl,trivial,fun h q=>q⟩
    |
     false =>
     rw [if_neg (by decide)]
     have hl2:(insF (L.eraseIdx (posF L x)) ⟨y,L[posF L x].d,L[posF L x].s⟩).length=L.length-1+1:=by rw [insF_len,hl]
     refine liftR m s L fl K false _ hfl (fun A c lf B d=>?_) (fun A c B d q hq hq2=>?_) (fun A c B d q hq=>?_)
     · exact (rRenFN r m s A L.length c lf B K.length d L rfl h1 x y hs hh hi ho hh2).imp fun (C,e) _=>⟨(C,e),rfl,trivial,fun h q=>by rw [hl2];exact q⟩
     · exact (rRenFG r m s A L.length c q B K.length d L rfl h1 x y hs hh hi ho hh2 hq hq2).imp fun (C,e) _=>⟨(C,e),rfl,trivial,fun h q=>by rw [hl2];exact q⟩
     exact (rRenS r m s A L.length c q B K.length d L rfl h1 x y hs hh hi ho hq K rfl hF).imp fun _ _=>⟨(A,c),rfl,trivial,fun h q=>q⟩
theorem qApp (r:Nat) (D:DK) (x y:ByteArray) (hD:okD D) (hy:y.size≤100000000):Triple Tryz.prog 33 [pP r,.string x,.string y] [RefD r D] [] Unit (fun _=>.int .i64 (appD D x y).2) (fun _=>True) (fun _=>[RefD r (appD D x y).1]):=by
 have hF:=hD.okF
 have hs:=hD.rise
 have hm:=hD.most.1
 have hm2:=hD.most.2
 have hfew:=hD.few
 have hroom:=hD.room
 have h1:D.files.length≤1000:=Nat.le_trans hD.few (by decide)
 have hfl:=hD.fails
 obtain ⟨m,s,dn,L,fl,K⟩:=D
 replace hF:okF L:=hF
 replace hs:riseF L:=hs
 replace hm:0<m:=hm
 replace hm2:m≤1048576:=hm2
 replace hfew:L.length≤16:=hfew
 replace hroom:(sumD L:Int)≤m:=hroom
 replace h1:L.length≤1000:=h1
 simp only [appD]
 have hb:sumD L≤1000000000:=by omega
 cases dn with
 | true=>exact liftRPt ⟨m,s,true,L,fl,K⟩ [] fun A c st lf B d=>rAppDown r m s A L.length c st lf B K.length d x y
 |
  false =>
  simp only [Bool.false_eq_true,if_false]
  cases ho:oddS x with
  | true=>exact liftRPt ⟨m,s,false,L,fl,K⟩ [] fun A c st lf B d=>rAppArg r m s A L.length c st lf B K.length d x y ho
  |
   false =>
   rw [if_neg (by decide)]
   cases hh:hasF L x with
   |
    true =>
    obtain ⟨hi,_⟩:=has_pos hs hh
    have ha:appF L x y=L.set (posF L x) ⟨L[posF L x].n,L[posF L x].d++y,L[posF L x].s⟩:=by
     unfold appF
     rw [if_pos hh,setF_eq hi]
    by_cases hz:m-sumD L<(y.size:Int)
    · rw [if_pos (.inr hz)]
      exact liftRAsk ⟨m,s,false,L,fl,K⟩ [] fun A c st lf B d=>rAppFull2T r m s A L.length c st lf B K.length d L rfl h1 x y hs ho hm hm2 hb hh hz
    rw [if_neg (by
     rintro (⟨h,_⟩ | h); · cases h
     exact hz h),ha]
    have hy2:(y.size:Int)≤m-sumD L:=by omega
    have hz2:L[posF L x].d.size+y.size≤1000000000:=by
     have:=sumD_mem (List.getElem_mem hi)
     omega
    have hF2:okF (L.set (posF L x) ⟨L[posF L x].n,L[posF L x].d++y,L[posF L x].s⟩):=fun f hf=>by
     rcases List.mem_or_eq_of_mem_set hf with hf | rfl
     · exact hF f hf
     have:=hF _ (List.getElem_mem hi)
     simp only [ByteArray.size_append]
     omega
    refine liftR m s L fl K true _ hfl (fun A c lf B d=>?_) (fun A c B d q hq hq2=>?_) (fun A c B d q hq=>?_)
    · exact (rAppTN r m s A L.length c lf B K.length d L rfl h1 x y hs ho hb hm2 hy2 hh hi).imp fun _ _=>⟨(A,c),rfl,trivial,fun h q=>by rw [List.length_set];exact q⟩
    · exact (rAppTG r m s A L.length c q B K.length d L rfl h1 x y hs ho hb hm2 hy2 hh hi hq hq2).imp fun _ _=>⟨(A,c),rfl,trivial,fun h q=>by rw [List.length_set];exact q⟩
    exact (rAppTS r m s A L.length c q B K.length d L rfl h1 x y hs ho hb hm2 hy2 hh hi hq K rfl hF2).imp fun _ _=>⟨(A,c),rfl,trivial,fun h q=>by rw [if_pos rfl,List.length_set];exact q⟩
   |
    false =>
    by_cases h16:L.length=16
    · rw [if_pos (.inl ⟨rfl,h16⟩)]
      exact liftRAsk ⟨m,s,false,L,fl,K⟩ [] fun A c st lf B d=>rAppFull1 r m s A L.length c st lf B K.length d L rfl h1 x y hs ho hh h16
    have h16':L.length<16:=by omega
    by_cases hz:m-sumD L<(y.size:Int)
    · rw [if_pos (.inr hz)]
      exact liftRAsk ⟨m,s,false,L,fl,K⟩ [] fun A c st lf B d=>rAppFull2F r m s A L.length c st lf B K.length d L rfl h1 x y hs ho hm hm2 hb hh h16' hz
    have ha:appF L x y=insF L ⟨x,y,0⟩:=by
     unfold appF
     rw [if_neg (by rw [hh];decide)]
    rw [if_neg (by
     rintro (⟨_,h⟩ | h); · exact h16 h
     exact hz h),ha]
    have hy2:(y.size:Int)≤m-sumD L:=by omega
    have hF2:okF (insF L ⟨x,y,0⟩):=fun f hf=>by
     rcases insF_mem hf with rfl | hf
     · exact ⟨Int.le_refl _,Int.natCast_nonneg _,by simp only;omega⟩
     exact hF f hf
    have hl:=insF_len L ⟨x,y,0⟩
    refine liftR m s L fl K true _ hfl (fun A c lf B d=>?_) (fun A c B d q hq hq2=>?_) (fun A c B d q hq=>?_)
    · exact (rAppFN r m s A L.length c lf B K.length d L rfl h1 x y hs ho hb hm2 hy2 hh h16').imp fun (A2,c2) _=>⟨(A2,c2),rfl,trivial,fun h q=>by rw [hl];exact q⟩
    · exact (rAppFG r m s A L.length c q B K.length d L rfl h1 x y hs ho hb hm2 hy2 hh h16' hq hq2).imp fun (A2,c2) _=>⟨(A2,c2),rfl,trivial,fun h q=>by rw [hl];exact q⟩
    exact (rAppFS r m s A L.length c q B K.length d L rfl h1 x y hs ho hb hm2 hy2 hh h16' hq K rfl hF2).imp fun (A2,c2) _=>⟨(A2,c2),rfl,trivial,fun h q=>by rw [if_pos rfl,hl];exact q⟩
theorem qRead (r:Nat) (D:DK) (x:ByteArray) (hD:okD D):Triple Tryz.prog 75 [pP r,.string x] [RefD r D] [] Unit (fun _=>.tuple #[.string (readD D x).1,.int .i64 (readD D x).2]) (fun _=>True) (fun _=>[RefD r D]):=by
 have hs:=hD.rise
 have h1:D.files.length≤1000:=Nat.le_trans hD.few (by decide)
 obtain ⟨m,s,dn,L,fl,K⟩:=D
 simp only [readD]
 cases dn with
 | true=>exact liftRPt ⟨m,s,true,L,fl,K⟩ [] fun A c st lf B d=>rReadDown r m s A L.length c st lf B K.length d x
 |
  false =>
  simp only [Bool.false_eq_true,if_false]
  cases hh:hasF L x with
  | false=>exact liftRAsk ⟨m,s,false,L,fl,K⟩ [] fun A c st lf B d=>rReadGone r m s A L.length c st lf B K.length d L rfl h1 x hs hh
  |
   true =>
   obtain ⟨hi,_⟩:=has_pos hs hh
   rw [if_pos rfl,getF_eq hi]
   exact liftRAsk ⟨m,s,false,L,fl,K⟩ [] fun A c st lf B d=>rRead r m s A L.length c st lf B K.length d L rfl h1 x hs hh hi
theorem qNames (r:Nat) (D:DK) (hD:okD D):Triple Tryz.prog 34 [pP r] [RefD r D] [] (Option Addr × Nat) (fun (C,e)=>.slice C D.files.length e) (fun _=>True) (fun (C,e)=>[RefD r D,Row 9 1 C D.files.length e ((D.files.map nameEG).flatMap encS)]) :=
 Triple.pre RefD.pre fun ⟨A,c,lf,B,d⟩=>((rNames r D.most D.starts D.down A D.files.length c D.fails.isSome (D.fails.getD lf) B D.keep.length d D.files rfl (Nat.le_trans hD.few (by decide))).frame [rowN B D.keep.length d D.keep]).imp fun (C,e) _=>⟨(C,e),rfl,trivial,fun h q=>by
  obtain ⟨h1,h2,d1,a,b,p1,p2⟩:=(starH_append [_,_,_] [_]).1 (starH_tail (fun h q=>starH_tail (fun h q=>starH_swap q) q) q)
  exact ⟨h1,h2,d1,a,b,starH_one.1 (RefD.put ⟨A,c,lf,B,d⟩ p1),p2⟩⟩
theorem qLeft (r:Nat) (D:DK) (hD:okD D):Triple Tryz.prog 72 [pP r] [RefD r D] [] (Option Addr × Nat) (fun (C,e)=>.slice C D.files.length e) (fun _=>True) (fun (C,e)=>[RefD r D,Row 3 1 C D.files.length e ((D.files.map leftEG).flatMap encN)]) :=
 Triple.pre RefD.pre fun ⟨A,c,lf,B,d⟩=>((rLeft r D.most D.starts D.down A D.files.length c D.fails.isSome (D.fails.getD lf) B D.keep.length d D.files rfl (Nat.le_trans hD.few (by decide)) hD.okF).frame [rowN B D.keep.length d D.keep]).imp fun (C,e) _=>⟨(C,e),rfl,trivial,fun h q=>by
  obtain ⟨h1,h2,d1,a,b,p1,p2⟩:=(starH_append [_,_,_] [_]).1 (starH_tail (fun h q=>starH_tail (fun h q=>starH_swap q) q) q)
  exact ⟨h1,h2,d1,a,b,starH_one.1 (RefD.put ⟨A,c,lf,B,d⟩ p1),p2⟩⟩
theorem qCrash (r:Nat) (D:DK) (Q:Option Addr) (kq dq:Nat) (K:List Int) (hD:okD D) (hk:kq=K.length):Triple Tryz.prog 66 [pP r,.slice Q kq dq] [RefD r D] [Rd 1 Q kq (K.flatMap encN)] Unit (fun _=>.int .i64 (crashD D K).2) (fun _=>True) (fun _=>[RefD r (crashD D K).1]):=by
 have hF:=hD.okF
 have h1:D.files.length≤1000:=Nat.le_trans hD.few (by decide)
 obtain ⟨m,s,dn,L,fl,K0⟩:=D
 simp only [crashD]
 cases dn with
 | true=>exact (liftRPt ⟨m,s,true,L,fl,K0⟩ [] fun A c st lf B d=>rCrashDown r m s A L.length c st lf B K0.length d Q kq dq).reads (fun _ h=>(by cases h))
 |
  false =>
  simp only [Bool.false_eq_true,if_false]
  refine Triple.pre RefD.pre fun ⟨A,c,lf,B,d⟩=>((rCrash r m s A L.length c fl.isSome (fl.getD lf) B K0.length d L rfl h1 Q kq dq K hk hF).frame [rowN B K0.length d K0]).imp fun _ _=>⟨(),rfl,trivial,fun h q=>RefD.put ⟨A,c,fl.getD lf,B,d⟩ ?_⟩
  unfold refL
  simp only [crashF_len]
  exact q
theorem qStart (r:Nat) (D:DK) (h0:0≤D.starts) (h1:D.starts≤1000000000):Triple Tryz.prog 67 [pP r] [RefD r D] [] Unit (fun _=>.int .i64 (startD D).2) (fun _=>True) (fun _=>[RefD r (startD D).1]):=by
 obtain ⟨m,s,dn,L,fl,K⟩:=D
 simp only [startD]
 cases dn with
 | false=>exact liftRPt ⟨m,s,false,L,fl,K⟩ [] fun A c st lf B d=>rStartUp r m s A L.length c st lf B K.length d
 | true=>exact Triple.pre RefD.pre fun ⟨A,c,lf,B,d⟩=>((rStartDown r m s A L.length c fl.isSome (fl.getD lf) B K.length d h0 h1).frame _).imp fun _ _=>⟨(),rfl,trivial,fun h q=>RefD.put ⟨A,c,lf,B,d⟩ q⟩
theorem qFail (r:Nat) (D:DK) (z:Int) (Q:Option Addr) (kq dq:Nat) (K:List Int) (hk:kq=K.length) (hk2:kq≤100000):Triple Tryz.prog 68 [pP r,.int .i64 z,.slice Q kq dq] [RefD r D] [Rd 1 Q kq (K.flatMap encN)] Unit (fun _=>.int .i64 (failD D z K).2) (fun _=>True) (fun _=>[RefD r (failD D z K).1]):=by
 obtain ⟨m,s,dn,L,fl,K0⟩:=D
 simp only [failD]
 cases dn with
 | true=>exact (liftRPt ⟨m,s,true,L,fl,K0⟩ [] fun A c st lf B d=>rFailDown r m s A L.length c st lf B K0.length d z Q kq dq).reads (fun _ h=>(by cases h))
 |
  false =>
  simp only [Bool.false_eq_true,if_false]
  by_cases hz:z<0
  · rw [if_pos hz]
    exact (liftRPt ⟨m,s,false,L,fl,K0⟩ [] fun A c st lf B d=>rFailArg r m s A L.length c st lf B K0.length d z Q kq dq hz).reads (fun _ h=>(by cases h))
  rw [if_neg hz]
  refine Triple.pre RefD.pre fun ⟨A,c,lf,B,d⟩=>((rFailOk r m s A L.length c fl.isSome (fl.getD lf) B K0.length d z Q kq dq K (by omega) hk hk2).frame [rowR A L.length c L,rowN B K0.length d K0]).imp fun (B2,d2) _=>⟨(),rfl,trivial,fun h q=>RefD.put ⟨A,c,z,B2,d2⟩ ?_⟩
  subst hk
  exact starH_drop [_,_,_] _ [] (starH_tail (fun h q=>starH_swap q) q)
theorem qNew (z:Int) (hz:1≤z) (hz2:z≤1048576):Triple Tryz.prog 28 [.int .i64 z] [] [] Nat (fun p=>.tuple #[pP p,.int .i64 0]) (fun _=>True) (fun p=>[RefD p ⟨z,0,false,[],none,[]⟩]) :=
 (rNewOk z hz hz2).imp fun p _=>⟨p,rfl,trivial,fun h q=>RefD.put ⟨none,0,0,none,0⟩ ⟨h,Hp.emp,(Hp.emp_dis _).symm,Hp.le_refl _,Hp.emp_le _,starH_one.1 q,⟨Hp.emp,Hp.emp,Hp.emp_dis _,Hp.emp_le _,Hp.emp_le _,Row.nil _ _ _,starH_one.2 (Row.nil _ _ _)⟩⟩⟩
def ptW (p q:Nat) (s:Int) (bad:Bool) (b t:Int):Asn:=Pt p 49 [pP q,.int .i64 s,.bool bad,.int .i64 b,.int .i64 t]
theorem putC (p q bw bn bs:Nat) (s:Int) (bad:Bool) (b t:Int) (D:DK) (x y:ByteArray) (hD:okD D) (hy:y.size≤100000000) :
 Triple Tryz.prog 100 [pP bw,pP bn,pP bs] [Pt bw 29 [pP p],Pt bn 9 [.string x],Pt bs 9 [.string y],ptW p q s bad b t,DiskM q D] [] Unit (fun _=>.int .i64 (appD D x y).2) (fun _=>True) (fun _=>[Pt bw 29 [pP p],Pt bn 9 [.string x],Pt bs 9 [.string y],ptW p q s bad b t,DiskM q (appD D x y).1]):=by
 have T1:=appM q D x y hD hy
 refine aT Tryz.func100 [.pt 0 bw 0,.pt 1 bn 0,.pt 2 bs 0] [.box bw 29 [.pt 3 p 0],.box bn 9 [.va (.string x)],.box bs 9 [.va (.string y)],.box p 49 [vP q,vI s,.va (.bool bad),vI b,vI t],.fact (DiskM q D)] (fun E=>?_) ⟨rfl,rfl,rfl,trivial⟩
 refine aG ?_
 refine ev_stop (go_draw Tryz.tbs_ok false [0,1,2,3] [(0,true),(1,true),(2,true),(3,true),(4,true),(5,true),(6,false),(7,false)] rfl ?_)
 refine aG (aE ?_)
 refine aC T1 [4] [] fun _ h0=>?_
 refine aE (aK ?_)
 exact ev_fin ⟨trivial,_,rfl,(),rfl,trivial,aF [0,1,2,3,4]⟩
theorem syncC (p q bw bn:Nat) (s:Int) (bad:Bool) (b t:Int) (D:DK) (x:ByteArray) (hD:okD D) :
 Triple Tryz.prog 101 [pP bw,pP bn] [Pt bw 29 [pP p],Pt bn 9 [.string x],ptW p q s bad b t,DiskM q D] [] Unit (fun _=>.int .i64 (syncD D x).2) (fun _=>True) (fun _=>[Pt bw 29 [pP p],Pt bn 9 [.string x],ptW p q s bad b t,DiskM q (syncD D x).1]):=by
 have T1:=syncM q D x hD
 refine aT Tryz.func101 [.pt 0 bw 0,.pt 1 bn 0] [.box bw 29 [.pt 2 p 0],.box bn 9 [.va (.string x)],.box p 49 [vP q,vI s,.va (.bool bad),vI b,vI t],.fact (DiskM q D)] (fun E=>?_) ⟨rfl,rfl,trivial⟩
 refine aG ?_
 refine ev_stop (go_draw Tryz.tbs_ok false [0,1,2] [(0,true),(1,true),(2,true),(3,true),(4,true),(5,false),(6,false)] rfl ?_)
 refine aG (aE ?_)
 refine aC T1 [3] [] fun _ h0=>?_
 refine aE (aK ?_)
 exact ev_fin ⟨trivial,_,rfl,(),rfl,trivial,aF [0,1,2,3]⟩
theorem remC (p q bw bn:Nat) (s:Int) (bad:Bool) (b t:Int) (D:DK) (x:ByteArray) (hD:okD D) :
 Triple Tryz.prog 92 [pP bw,pP bn] [Pt bw 29 [pP p],Pt bn 9 [.string x],ptW p q s bad b t,DiskM q D] [] Unit (fun _=>.int .i64 (remD D x).2) (fun _=>True) (fun _=>[Pt bw 29 [pP p],Pt bn 9 [.string x],ptW p q s bad b t,DiskM q (remD D x).1]):=by
 have T1:=remM q D x hD
 refine aT Tryz.func92 [.pt 0 bw 0,.pt 1 bn 0] [.box bw 29 [.pt 2 p 0],.box bn 9 [.va (.string x)],.box p 49 [vP q,vI s,.va (.bool bad),vI b,vI t],.fact (DiskM q D)] (fun E=>?_) ⟨rfl,rfl,trivial⟩
 refine aG ?_
 refine ev_stop (go_draw Tryz.tbs_ok false [0,1,2] [(0,true),(1,true),(2,true),(3,true),(4,true),(5,false),(6,false)] rfl ?_)
 refine aG (aE ?_)
 refine aC T1 [3] [] fun _ h0=>?_
 refine aE (aK ?_)
 exact ev_fin ⟨trivial,_,rfl,(),rfl,trivial,aF [0,1,2,3]⟩
abbrev HasFn (f:FuncId):Prop:=Tryz.tbs.lo≤f∧f<Tryz.tbs.nf∧Tryz.tbs.ex.all (fun e => !(e==f))=true
def ChgOf (p q:Nat) (s b t:Int) (C:Asn) (v:Value) (f:DK→DK × Int):Prop :=
 ∃ fn caps,v = .func (.func fn) #[] caps∧HasFn fn∧(∀ D,okD D→okD (f D).1) ∧
  ∀ bad D,okD D→Triple Tryz.prog fn caps.toList [C,ptW p q s bad b t,DiskM q D] [TabA] Unit (fun _=>.int .i64 (f D).2) (fun _=>True) (fun _=>[C,ptW p q s bad b t,DiskM q (f D).1])
def IterOf (p q:Nat) (s b t:Int) (B:Asn) (it:Value) (fs:List (DK→DK × Int)):Prop :=
 ∃ gf lb,it = .func (.func gf) #[] lb∧HasFn gf∧∀ (L:Nat) (J:Nat→Asn) (Jx:Asn),
  (∀ i f,fs[i]? = some f→∀ v C,ChgOf p q s b t C v f→YTriple Tryz.prog L [v] [C,J i] [TabA] Bool (fun x=>.bool x) (fun _=>True) (fun x=>[C,if x then J (i+1) else Jx])) →
  Triple Tryz.prog gf (.func (.yield L) #[] #[]::lb.toList) [B,J 0] [TabA] Bool (fun _=>.tuple #[]) (fun _=>True) (fun x=>[B,if x then J fs.length else Jx])
theorem removedI (p q bn bw:Nat) (s b t:Int) (A:Option Addr) (n c:Nat) (l:List ByteArray) (hn:n=l.length) (hn1:n≤1000000000) :
 IterOf p q s b t (Asn.star [Pt bn 30 [.slice A n c],Pt bw 29 [pP p],Row 9 1 A n c (l.flatMap encS)]) (.func (.func 91) #[] #[pP bn,pP bw]) (l.map fun x D=>remD D x):=by
 refine ⟨91,_,rfl,⟨by decide,by decide,by decide⟩,fun L J Jx hY=>?_⟩
 have key:Triple Tryz.prog 91 [.func (.yield L) #[] #[],pP bn,pP bw] [Pt bn 30 [.slice A n c],Pt bw 29 [pP p],Row 9 1 A n c (l.flatMap encS),J 0] [TabA] Bool (fun _=>.tuple #[]) (fun _=>True) (fun x=>[Pt bn 30 [.slice A n c],Pt bw 29 [pP p],Row 9 1 A n c (l.flatMap encS),if x then J n else Jx]):=by
  refine aT Tryz.func91 [.va (.func (.yield L) #[] #[]),.pt 0 bn 0,.pt 1 bw 0] [.box bn 30 [vL A n c],.box bw 29 [vP p],.fact (Row 9 1 A n c (l.flatMap encS)),.fact (J 0)] (fun E=>?_) ⟨trivial,rfl,rfl,trivial⟩
  refine aG ?_
  refine ev_stop (go_loopR [5,8,9,10,11,12,13,14,15,16] (fun j=>[(8,vI (j:Nat))]) (fun j=>[(3,.fact (J j))]) (fun j=>j≤n) (fun j=>n-j) (0:Nat) (Nat.zero_le _) aS (fun j hj=>?_))
  refine aG ?_
  refine ev_if_lt (fun h20=>?_) (fun h20=>?_)
  · refine aG ?_
    refine ev_stop (go_index0 (sz:=1) Tryz.tbs_ok (.inr 2) (j) rfl rfl rfl rfl rfl rfl (by omega) rfl Row.at0 (fun g21 e22=>?_))
    subst e22
    refine aG ?_
    have l23:j<(l).length:=(by omega)
    refine ev_stop (go_loadE Tryz.tbs_ok (.inr 2) (j) 0 rfl rfl rfl rfl (fun _ h=>Row.rd h) (by omega) (fun _=>rfl) (by omega) l23 (by decide) ?_)
    refine go Tryz.tbs_ok 4 ?_
    refine ev_new fun b24=>?_
    refine ev_stop ?_
    refine go_yield (List.take 2 _) (List.drop 2 _) (List.take_append_drop 2 _).symm ?_
    refine aG ?_
    refine ev_fin ⟨rfl,?_⟩
    have T:YTriple Tryz.prog L [.func (.func 92) #[] #[pP bw,pP b24]] [Pt bw 29 [pP p],Pt b24 9 [.string l[j]],J j] [TabA] Bool (fun x=>.bool x) (fun _=>True) (fun x=>[Pt bw 29 [pP p],Pt b24 9 [.string l[j]],if x then J (j+1) else Jx]) :=
     (hY j (fun D=>remD D l[j]) (by simp [l23]) _ (Asn.star [Pt bw 29 [pP p],Pt b24 9 [.string l[j]]]) ⟨92,#[pP bw,pP b24],rfl,⟨by decide,by decide,by decide⟩,fun D h=>rem_ok h _,fun bad D hD=>((remC p q bw b24 s bad b t D l[j] hD).reads (N':=[TabA]) (fun _ h=>(by cases h))).shape (fun h q=>(star_one (l:=[_,_])).1 q) (fun _ h q=>(star_one (l:=[_,_])).2 q)⟩).pre (fun h q=>(star_one (l:=[_,_])).2 q) (fun _ h q=>(star_one (l:=[_,_])).1 q)
    refine ystep rfl rfl rfl rfl rfl rfl rfl T [1,4,3] [.inl 0] (fun x:Bool=>[.box bw 29 [vP p],.box b24 9 [.va (.string l[j])],.fact (if x then J (j+1) else Jx)]) rfl (by decide) rfl (by simp) (fun _=>rfl) (fun _=>newsOk_box (by simp [SV.good,SV.goodL]) (newsOk_box (by simp [SV.good,SV.goodL]) (newsOk_fact (newsOk_nil _)))) (fun _=>aL) (fun x _=>?_)
    cases x
    · refine aG (aJ ?_)
      exact ev_fin ⟨trivial,_,rfl,false,rfl,trivial,Frm.imp (M:=[Pt bn 30 [.slice (some ⟨g21,0,none⟩) n c],Pt bw 29 [pP p],Row 9 1 (some ⟨g21,0,none⟩) n c (l.flatMap encS),Jx]) [0,1,2,3] rfl (by decide) (fun h q=>q)⟩
    refine aG (aI ?_)
    refine wN (j+1) ?_
    refine ev_fin (round_next (j+1) (show j+1≤n from (by omega)) (show n-(j+1)<n-j from (by omega)) aS)
  obtain rfl:j=n:=by omega
  refine aG ?_
  exact ev_fin (go Tryz.tbs_ok 1000 (ev_fin ⟨trivial,_,rfl,true,rfl,trivial,Frm.imp (M:=[Pt bn 30 [.slice A j c],Pt bw 29 [pP p],Row 9 1 A j c (l.flatMap encS),J j]) [0,1,2,3] rfl (by decide) (fun h q=>q)⟩))
 exact key.shape (fun h q=>(star_one (l:=[_,_,_])).1 q) (fun x h q=>(star_one (l:=[_,_,_])).2 (by rw [List.length_map,←hn] ;exact q))
def encV (v:FuncId × Array Value):List Value:=[.func (.func v.1) #[] v.2]
theorem valuesI (p q bs:Nat) (s b t:Int) (A:Option Addr) (n c:Nat) (vs:List (FuncId × Array Value)) (fs:List (DK→DK × Int)) (C:Asn) (hn:n=vs.length) (hn1:n≤1000000000) (hf:vs.length=fs.length)
 (hv:∀ (i:Nat) v f,vs[i]? = some v→fs[i]? = some f→ChgOf p q s b t C (.func (.func v.1) #[] v.2) f) :
 IterOf p q s b t (Asn.star [Pt bs 133 [.slice A n c],Row 40 1 A n c (vs.flatMap encV),C]) (.func (.func 134) #[] #[pP bs]) fs:=by
 refine ⟨134,_,rfl,⟨by decide,by decide,by decide⟩,fun L J Jx hY=>?_⟩
 have key:Triple Tryz.prog 134 [.func (.yield L) #[] #[],pP bs] [Pt bs 133 [.slice A n c],Row 40 1 A n c (vs.flatMap encV),C,J 0] [TabA] Bool (fun _=>.tuple #[]) (fun _=>True) (fun x=>[Pt bs 133 [.slice A n c],Row 40 1 A n c (vs.flatMap encV),C,if x then J n else Jx]):=by
  refine aT Tryz.func134 [.va (.func (.yield L) #[] #[]),.pt 0 bs 0] [.box bs 133 [vL A n c],.fact (Row 40 1 A n c (vs.flatMap encV)),.fact C,.fact (J 0)] (fun E=>?_) ⟨trivial,rfl,trivial⟩
  refine aG ?_
  refine ev_stop (go_loopR [4,7,8,9,10,11,12,13,14,15] (fun j=>[(7,vI (j:Nat))]) (fun j=>[(3,.fact (J j))]) (fun j=>j≤n) (fun j=>n-j) (0:Nat) (Nat.zero_le _) aS (fun j hj=>?_))
  refine aG ?_
  refine ev_if_lt (fun h20=>?_) (fun h20=>?_)
  · refine aG ?_
    refine ev_stop (go_index0 (sz:=1) Tryz.tbs_ok (.inr 1) (j) rfl rfl rfl rfl rfl rfl (by omega) rfl Row.at0 (fun g21 e22=>?_))
    subst e22
    refine aG ?_
    have l23:j<(vs).length:=(by omega)
    refine ev_stop (go_loadE Tryz.tbs_ok (.inr 1) (j) 0 rfl rfl rfl rfl (fun _ h=>Row.rd h) (by omega) (fun _=>rfl) (by omega) l23 (by decide) ?_)
    refine go Tryz.tbs_ok 3 ?_
    refine ev_stop ?_
    refine go_yield (List.take 2 _) (List.drop 2 _) (List.take_append_drop 2 _).symm ?_
    refine aG ?_
    refine ev_fin ⟨rfl,?_⟩
    have l24:j<fs.length:=by omega
    have T:=hY j fs[j] (List.getElem?_eq_getElem l24) _ C (hv j vs[j] fs[j] (List.getElem?_eq_getElem l23) (List.getElem?_eq_getElem l24))
    refine ystep rfl rfl rfl rfl rfl rfl rfl T [2,3] [.inl 0] (fun x:Bool=>[.fact C,.fact (if x then J (j+1) else Jx)]) rfl (by decide) rfl (by simp) (fun _=>rfl) (fun _=>newsOk_fact (newsOk_fact (newsOk_nil _))) (fun _=>aL) (fun x _=>?_)
    cases x
    · refine aG (aJ ?_)
      exact ev_fin ⟨trivial,_,rfl,false,rfl,trivial,Frm.imp (M:=[Pt bs 133 [.slice (some ⟨g21,0,none⟩) n c],Row 40 1 (some ⟨g21,0,none⟩) n c (vs.flatMap encV),C,Jx]) [0,1,2,3] rfl (by decide) (fun h q=>q)⟩
    refine aG (aI ?_)
    refine wN (j+1) ?_
    refine ev_fin (round_next (j+1) (show j+1≤n from (by omega)) (show n-(j+1)<n-j from (by omega)) aS)
  obtain rfl:j=n:=by omega
  refine aG ?_
  exact ev_fin (go Tryz.tbs_ok 1000 (ev_fin ⟨trivial,_,rfl,true,rfl,trivial,Frm.imp (M:=[Pt bs 133 [.slice A j c],Row 40 1 A j c (vs.flatMap encV),C,J j]) [0,1,2,3] rfl (by decide) (fun h q=>q)⟩))
 exact key.shape (fun h q=>(star_one (l:=[_,_,_])).1 q) (fun x h q=>(star_one (l:=[_,_,_])).2 (by rw [←hf,←hn] ;exact q))
def runD:List (DK→DK × Int)→DK→DK × Int
 | [],D=>(D,0)
 | f::l,D=>if (f D).2=0 then runD l (f D).1 else f D
theorem run_step:∀ {fs:List (DK→DK × Int)} {i:Nat} {f:DK→DK × Int} {D:DK},fs[i]? = some f→(runD (fs.take i) D).2=0 →
 ((f (runD (fs.take i) D).1).2=0→runD (fs.take (i+1)) D=f (runD (fs.take i) D).1)∧((f (runD (fs.take i) D).1).2≠0→runD fs D=f (runD (fs.take i) D).1):=by
 intro fs
 induction fs with
 | nil=>intro i f D h;simp at h
 |
  cons g l ih =>
  intro i f D h h0
  cases i with
  |
   zero =>
   simp only [List.getElem?_cons_zero,Option.some.injEq] at h
   subst h
   simp only [List.take_zero,runD,List.take_succ_cons]
   constructor
   · intro e
     rw [if_pos e]
     exact Prod.ext rfl e.symm
   intro e
   rw [if_neg e]
  |
   succ i =>
   simp only [List.getElem?_cons_succ] at h
   simp only [List.take_succ_cons,runD] at h0 ⊢
   by_cases e:(g D).2=0
   · rw [if_pos e] at h0
     simp only [if_pos e]
     exact ih h h0
   rw [if_neg e] at h0
   exact absurd h0 e
def badE (e:Int):Bool := !(e==0) && !(e==40)
theorem doT (p q:Nat) (s b t:Int) (bad:Bool) (B:Asn) (it:Value) (fs:List (DK→DK × Int)) (D:DK) (hI:IterOf p q s b t B it fs) (hD:okD D) :
 Triple Tryz.prog 40 [pP p,it] [ptW p q s bad b t,B,DiskM q D] [TabA] Unit (fun _=>.int .i64 (runD fs D).2) (fun _=>True) (fun _=>[ptW p q s (bad || badE (runD fs D).2) b t,B,DiskM q (runD fs D).1]):=by
 obtain ⟨gf,lb,rfl,hk,hI⟩:=hI
 refine triple_range Tryz.tbs_ok Tryz.func40 rfl [.pt 0 p 0,.va (.func (.func gf) #[] lb)] [.box p 49 [vP q,vI s,.va (.bool bad),vI b,vI t],.fact B,.fact (DiskM q D)] ⟨rfl,trivial,trivial⟩ rfl (by simp [SV.good,SV.goodL,blkAt,Res.blk]) ?_
 intro E a w hR
 refine wide_seq ?_ a w hR
 refine aG ?_
 refine ev_new fun bw=>?_
 refine ev_new fun be=>?_
 refine ev_fin ⟨rfl,fun a w hR=>?_⟩
 refine wpIn_wide.2 (wp_scope_straight ((wpIn_wide (n:=0)).1 ?_))
 refine wide_seq ?_ a w hR
 refine aG ?_
 refine ev_fin ⟨rfl,fun a w hR=>?_⟩
 refine wpIn_seq (wide_seq ?_ a w hR)
 refine aG ?_
 refine ev_fin ⟨rfl,fun a w hR=>?_⟩
 refine wpIn_block ?_
 refine range_in Tryz.tbs_ok hR (gf:=gf) (lb:=lb) rfl rfl hk fun fn Dd L rec hrec hfr=>?_
 have hst:rec.state = .ready:=by rw [hrec]
 have hpd:rec.pending=none:=by rw [hrec]
 have hps:rec.params = #[7]:=by rw [hrec]
 have has:=congrArg Loop.assign hrec
 have hbo:=congrArg Loop.body hrec
 clear hrec
 dsimp only at has hbo
 have T:=hI L (fun i=>Asn.star (Asn.pure ((runD (fs.take i) D).2=0∧okD (runD (fs.take i) D).1)::[ptW p q s bad b t,DiskM q (runD (fs.take i) D).1,Pt bw 29 [pP p],Pt be 26 [.int .i64 0],Ob Dd (.deferred (some [])),Ob L (.loop rec)]))
  (Asn.star (Asn.pure ((runD fs D).2≠0)::[ptW p q s (bad || badE (runD fs D).2) b t,DiskM q (runD fs D).1,Pt bw 29 [pP p],Pt be 26 [.int .i64 (runD fs D).2],Ob Dd (.deferred (some [])),Ob L (.loop { rec with state:=.done,pending:=some (.exit 0) })]))
  (fun i f hf v C hC=>YTriple.mpure fun ⟨h0,hok⟩ => ?round)
 case round =>
  obtain ⟨cf,caps,rfl,hcf,hkeep,hT⟩:=hC
  obtain ⟨r1,r2⟩:=run_step hf h0
  have TC:=hT bad _ hok
  have hkp:=hkeep _ hok
  obtain ⟨D',hD'⟩:∃ D',D'=(runD (fs.take i) D).1:=⟨_,rfl⟩
  rw [←hD'] at r1 r2 TC hkp ⊢
  refine YTriple.pre (M':=([.box p 49 [vP q,vI s,.va (.bool bad),vI b,vI t],.fact C,.fact (DiskM q D'),.box bw 29 [.pt 0 p 0],.box be 26 [vI 0],.fact (Ob Dd (.deferred (some []))),.fact (Ob L (.loop rec))]:List Res).map Res.asn) (fun h q=>starH_swap q) (fun _ _ q=>q) ?_
  refine yt_intro (v:=.va (.func (.func cf) #[] caps)) hst hpd hps hfr (fun r b e=>?_) 6 rfl trivial (by simp [SV.good,SV.goodL,blkAt,Res.blk]) fun E=>?_
  · exact blkLe_spec aL r b e
  rw [has,hbo]
  refine goR_region rfl ?_
  refine aG ?_
  refine ev_fin ⟨rfl,rfl,?_⟩
  refine goR_block ?_
  refine goR_seq ?_
  refine goR_region rfl ?_
  refine go Tryz.tbs_ok 1 ?_
  refine ev_stop (go_callv Tryz.tbs_ok rfl rfl rfl hcf ?_)
  refine ev_call TC [1,0,2] [.inl 0] (fun _=>[.fact C,.box p 49 [vP q,vI s,.va (.bool bad),vI b,vI t],.fact (DiskM q (f D').1)]) (denL_va _) rfl (by decide) rfl (by simp) (fun _=>rfl) (fun _=>newsOk_fact (newsOk_box (by simp [SV.good,SV.goodL]) (newsOk_fact (newsOk_nil _)))) (fun _=>aL) (fun _ _=>?_)
  refine aG ?_
  refine ev_fin ?_
  refine goR_seq (goR_region rfl (go Tryz.tbs_ok 1000 (ev_fin ?_)))
  refine goR_block (goR_seq (goR_region rfl (go Tryz.tbs_ok 1000 (ev_fin ?_))))
  refine goR_cond rfl (fun he=>?_) (fun he=>?_)
  · have he:(f D').2=0:=by simpa using he
    refine goR_skip ⟨rfl,true,trivial,rfl,Frm.imp (M:=[C,ptW p q s bad b t,DiskM q (f D').1,Pt bw 29 [pP p],Pt be 26 [.int .i64 (f D').2],Ob Dd (.deferred (some [])),Ob L (.loop rec)]) [1,0,2,3,4,5,6] rfl (by decide) (fun h q=>?_)⟩
    rw [if_pos rfl,r1 he]
    rw [he] at q
    exact starH_pk ⟨he,hkp⟩ q
  have he:(f D').2≠0:=by simpa using he
  refine goR_seq (goR_region rfl (go Tryz.tbs_ok 1000 (ev_fin ?_)))
  refine goR_cond rfl (fun h40=>?_) (fun h40=>?_)
  · have h40:(f D').2=40:=by simpa using h40
    refine goR_exit ⟨rfl,false,trivial,rfl,Frm.imp (M:=[C,ptW p q s bad b t,DiskM q (f D').1,Pt bw 29 [pP p],Pt be 26 [.int .i64 (f D').2],Ob Dd (.deferred (some [])),Ob L (.loop { rec with state:=.done,pending:=some (.exit 0) })]) [1,0,2,3,4,5,6] (by rw [has,hbo];rfl) (by decide) (fun h q=>?_)⟩
    rw [if_neg (by decide),r2 he]
    have e2:(bad || badE (f D').2)=bad:=by rw [h40];simp [badE]
    rw [e2]
    exact starH_pk he (by rw [has,hbo] at q;exact q)
  have h40:(f D').2≠40:=by simpa using h40
  refine goR_seq (goR_region rfl (go Tryz.tbs_ok 1000 (ev_fin ?_)))
  refine goR_exit ⟨rfl,false,trivial,rfl,Frm.imp (M:=[C,ptW p q s true b t,DiskM q (f D').1,Pt bw 29 [pP p],Pt be 26 [.int .i64 (f D').2],Ob Dd (.deferred (some [])),Ob L (.loop { rec with state:=.done,pending:=some (.exit 0) })]) [1,0,2,3,4,5,6] (by rw [has,hbo];rfl) (by decide) (fun h q=>?_)⟩
  rw [if_neg (by decide),r2 he]
  have e2:(bad || badE (f D').2)=true:=by simp [badE,he,h40]
  rw [e2]
  exact starH_pk he (by rw [has,hbo] at q;exact q)
 have T2:Triple Tryz.prog gf (.func (.yield L) #[] #[]::lb.toList) [B,ptW p q s bad b t,DiskM q D,Pt bw 29 [pP p],Pt be 26 [.int .i64 0],Ob Dd (.deferred (some [])),Ob L (.loop rec)] [TabA] Bool (fun _=>.tuple #[]) (fun _=>True)
  (fun x=>[B,ptW p q s (bad || badE (runD fs D).2) b t,DiskM q (runD fs D).1,Pt bw 29 [pP p],Pt be 26 [.int .i64 (runD fs D).2],Ob Dd (.deferred (some [])),Ob L (.loop (if x then rec else { rec with state:=.done,pending:=some (.exit 0) }))]):=by
  refine T.shape (fun h q=>starH_pk ⟨rfl,hD⟩ q) (fun x h q=>?_)
  cases x
  · rw [if_neg (by decide)] at q ⊢
    obtain ⟨k1,k2,d,a,b,hc,q⟩:=q
    obtain ⟨m1,m2,d2,a2,b2,_,q⟩:=starH_one.1 q
    exact ⟨k1,m2,d.mono (Hp.le_refl _) b2,a,b2.trans b,hc,q⟩
  rw [if_pos rfl] at q ⊢
  rw [List.take_length] at q
  obtain ⟨k1,k2,d,a,b,hc,q⟩:=q
  obtain ⟨m1,m2,d2,a2,b2,⟨h0,_⟩,q⟩:=starH_one.1 q
  rw [h0]
  have e2:(bad || badE 0)=bad:=by simp [badE]
  rw [e2]
  exact ⟨k1,m2,d.mono (Hp.le_refl _) b2,a,b2.trans b,hc,q⟩
 refine callEv T2 [1,0,2,3,4,5,6] [.inl 0] (fun x:Bool=>[.fact B,.box p 49 [vP q,vI s,.va (.bool (bad || badE (runD fs D).2)),vI b,vI t],.fact (DiskM q (runD fs D).1),.box bw 29 [vP p],.box be 26 [.va (.int .i64 (runD fs D).2)],.fact (Ob Dd (.deferred (some []))),.fact (Ob L (.loop (if x then rec else { rec with state:=.done,pending:=some (.exit 0) })))])
  (by simp [SV.denL,SV.den,denL_va]) rfl (by decide) rfl (by simp) (fun _=>rfl) (fun _=>newsOk_fact (newsOk_box (by simp [SV.good,SV.goodL]) (newsOk_fact (newsOk_box (by simp [SV.good,SV.goodL]) (newsOk_box (by simp [SV.good,SV.goodL]) (newsOk_fact (newsOk_fact (newsOk_nil _)))))))) (fun _=>aL) (fun x _=>?_)
 refine ⟨6,_,rfl,?_,?_,fun w' hR'=>?_⟩
 · cases x
   · simp
   simp [hst]
 · cases x
   · exact .inr ⟨0,rfl⟩
   exact .inl hpd
 cases x
 all_goals simp only [Bool.false_eq_true,if_false,if_true,hpd,Exit.inBlock,Exit.then]
 all_goals refine wide_behind [_] ?_ _ _ hR'
 all_goals refine go Tryz.tbs_ok 1000 ?_
 all_goals refine ev_fin ⟨rfl,fun a w hR=>wpIn_ret ⟨trivial,a,Dd,5,_,rfl,hR,rfl,_,rfl,(),rfl,trivial,?_⟩⟩
 all_goals exact Frm.imp (M:=[ptW p q s (bad || badE (runD fs D).2) b t,B,DiskM q (runD fs D).1]) [0,1,2] rfl (by decide) (fun h q=>q)
def askW (s:Int) (bad:Bool) (D:DK):Int:=if bad || D.down || !(D.starts==s) then 41 else 0
theorem askT (p q:Nat) (s:Int) (bad:Bool) (b t:Int) (D:DK) (hD:okD D):Triple Tryz.prog 46 [pP p] [ptW p q s bad b t,DiskM q D] [] Unit (fun _=>.int .i64 (askW s bad D)) (fun _=>True) (fun _=>[ptW p q s bad b t,DiskM q D]):=by
 have T1:=upM q D hD
 have T2:=startsM q D hD
 refine aT Tryz.func46 [.pt 0 p 0] [.box p 49 [vP q,vI s,.va (.bool bad),vI b,vI t],.fact (DiskM q D)] (fun E=>?_) ⟨rfl,trivial⟩
 unfold askW
 cases bad with
 | true =>
  refine go Tryz.tbs_ok 1000 ?_
  refine ev_stop (go_draw Tryz.tbs_ok false [0] [(0,true),(1,true),(2,true),(3,true),(4,true),(5,true),(6,true),(7,true),(8,true),(9,false),(10,false),(11,false),(12,false),(13,true),(14,true),(15,true),(16,true),(18,true),(19,true),(20,true),(21,true),(17,false),(22,false),(23,false),(24,false)] rfl ?_)
  refine aG (aE (aJ (aE (aE (aE (aE (aE (aE (aE (aE (aK ?_)))))))))))
  exact ev_fin ⟨trivial,_,rfl,(),rfl,trivial,aF [0,1]⟩
 |
  false =>
  cases hd:D.down with
  |
   true =>
   rw [hd] at T1
   refine aG ?_
   refine ev_stop (go_draw Tryz.tbs_ok false [0] [(0,true),(1,true),(2,true),(3,true),(4,true),(5,true),(6,true),(7,true),(8,true),(9,false),(10,false),(11,false),(12,false),(13,true),(14,true),(15,true),(16,true),(18,true),(19,true),(20,true),(21,true),(17,false),(22,false),(23,false),(24,false)] rfl ?_)
   refine aG (aE (aI (aE ?_)))
   refine aC T1 [1] [] fun _ h0=>?_
   refine aE (aE (aE (aE (aJ (aE (aE (aE (aE (aK ?_)))))))))
   exact ev_fin ⟨trivial,_,rfl,(),rfl,trivial,aF [0,1]⟩
  |
   false =>
   rw [hd] at T1
   by_cases hs:D.starts=s
   · rw [show (D.starts==s)=true from by simpa using hs]
     refine aG ?_
     refine ev_stop (go_draw Tryz.tbs_ok false [0] [(0,true),(1,true),(2,true),(3,true),(4,true),(5,true),(6,true),(7,true),(8,true),(9,false),(10,false),(11,false),(12,false),(13,true),(14,true),(15,true),(16,true),(18,true),(19,true),(20,true),(21,true),(17,false),(22,false),(23,false),(24,false)] rfl ?_)
     refine aG (aE (aI (aE ?_)))
     refine aC T1 [1] [] fun _ h0=>?_
     refine aE (aE (aE (aE (aI (aE ?_)))))
     refine aC T2 [1] [] fun _ h1=>?_
     refine aE (aE (aE (aK ?_)))
     refine aI ?_ (ne_no (by with_reducible assumption))
     exact ev_fin ⟨trivial,_,rfl,(),rfl,trivial,aF [0,1]⟩
   rw [show (D.starts==s)=false from by simpa using hs]
   refine aG ?_
   refine ev_stop (go_draw Tryz.tbs_ok false [0] [(0,true),(1,true),(2,true),(3,true),(4,true),(5,true),(6,true),(7,true),(8,true),(9,false),(10,false),(11,false),(12,false),(13,true),(14,true),(15,true),(16,true),(18,true),(19,true),(20,true),(21,true),(17,false),(22,false),(23,false),(24,false)] rfl ?_)
   refine aG (aE (aI (aE ?_)))
   refine aC T1 [1] [] fun _ h0=>?_
   refine aE (aE (aE (aE (aI (aE ?_)))))
   refine aC T2 [1] [] fun _ h1=>?_
   refine aE (aE (aE (aK ?_)))
   refine aJ ?_ (ne_yes (by with_reducible assumption))
   exact ev_fin ⟨trivial,_,rfl,(),rfl,trivial,aF [0,1]⟩
def endM (b t:Nat):ByteArray:=if t=0 then .empty else nmB 115 (b+t)
theorem endT (p q:Nat) (s:Int) (bad:Bool) (b t:Nat) (h:b+t≤999999999):Triple Tryz.prog 48 [pP p] [ptW p q s bad b t] [TabA] Unit (fun _=>.string (endM b t)) (fun _=>True) (fun _=>[ptW p q s bad b t]):=by
 have T1:=Proofs.YtjlfdfmkofbccaaGreatDoor.lastT b t (by omega)
 have T2:=itoaT (b+t) (by omega)
 have hz:=decB_size (b+t) (by omega)
 have h115:(⟨#[115]⟩:ByteArray).size=1:=rfl
 refine aT Tryz.func48 [.pt 0 p 0] [.box p 49 [vP q,vI s,.va (.bool bad),vI (b:Nat),vI (t:Nat)]] (fun E=>?_) ⟨rfl,trivial⟩
 unfold endM
 by_cases ht:t=0
 · subst ht
   refine aG (aJ ?_)
   exact ev_fin ⟨trivial,_,rfl,(),rfl,trivial,aF [0]⟩
 rw [if_neg ht]
 refine aG ?_
 refine aI ?_ (beq_eq_false_iff_ne.2 (show ¬(↑t:Int)=0 from (by omega)))
 refine aC T1 [] [] fun _ h0=>?_
 refine aC T2 [] [.inl 0] fun _ h1=>?_
 refine ev_stop (go_bin (.va _) trivial rfl rfl rfl rfl rfl (by decide) (by decide) (fun w=>cat_run (by omega) w) ?_)
 refine aG ?_
 exact ev_fin ⟨trivial,_,rfl,(),rfl,trivial,aF [0]⟩
theorem sizeW (p q:Nat) (s:Int) (bad:Bool) (b t:Int) (D:DK) (x:ByteArray) (hD:okD D):Triple Tryz.prog 49 [pP p,.string x] [ptW p q s bad b t,DiskM q D] [] Unit (fun _=>.int .i64 ((readD D x).1.size:Nat)) (fun _=>True) (fun _=>[ptW p q s bad b t,DiskM q D]):=by
 have T1:=readM q D x hD
 refine aT Tryz.func49 [.pt 0 p 0,.va (.string x)] [.box p 49 [vP q,vI s,.va (.bool bad),vI b,vI t],.fact (DiskM q D)] (fun E=>?_) ⟨rfl,trivial,trivial⟩
 refine aG ?_
 refine aC T1 [1] [] fun _ h0=>?_
 exact ev_fin ⟨trivial,_,rfl,(),rfl,trivial,aF [0,1]⟩
/-! changes as values -/
abbrev FnV:=FuncId × Array Value
def fnV (v:FnV):Value:=.func (.func v.1) #[] v.2
def ChgA (p q:Nat) (s b t:Int) (v:FnV) (f:DK→DK × Int):Asn:=Asn.ex fun C:Asn=>Asn.star [Asn.pure (ChgOf p q s b t C (fnV v) f),C]
def IterA (p q:Nat) (s b t:Int) (it:FnV) (fs:List (DK→DK × Int)):Asn:=Asn.ex fun B:Asn=>Asn.star [Asn.pure (IterOf p q s b t B (fnV it) fs),B]
def IterK (p q:Nat) (s b t:Int) (K:Asn) (it:FnV) (fs:List (DK→DK × Int)):Asn:=Asn.ex fun B:Asn=>Asn.star [Asn.pure (IterOf p q s b t (Asn.star [B,K]) (fnV it) fs),B]
theorem starH_perm {l m:List Asn} (p:l.Perm m):∀ {h:Hp},Asn.starH l h→Asn.starH m h:=by
 induction p with
 | nil=>exact fun q=>q
 | cons A _ ih=>exact fun q=>starH_tail (fun _ q=>ih q) q
 | swap A B l=>exact fun q=>starH_swap q
 | trans _ _ ih1 ih2=>exact fun q=>ih2 (ih1 q)
theorem starH_head {A:Asn} {l m:List Asn} (hA:∀ h,A.holds h→Asn.starH l h) {h:Hp} (q:Asn.starH (A::m) h):Asn.starH (l++m) h:=by
 obtain ⟨h1,h2,d,a,b,p,q⟩:=q
 exact starH_star.1 ⟨h1,h2,d,a,b,star_holds.2 (hA _ p),q⟩
theorem starH_fold {A:Asn} {l m:List Asn} (hA:∀ h,Asn.starH l h→A.holds h) {h:Hp} (q:Asn.starH (l++m) h):Asn.starH (A::m) h:=by
 obtain ⟨h1,h2,d,a,b,p,q⟩:=starH_star.2 q
 exact ⟨h1,h2,d,a,b,hA _ (star_holds.1 p),q⟩
theorem ChgOf.wide {p q:Nat} {s b t:Int} {C C' R:Asn} {v:Value} {f:DK→DK × Int} (H:ChgOf p q s b t C v f) (h1:∀ h,C'.holds h↔Asn.starH [C,R] h):ChgOf p q s b t C' v f:=by
 obtain ⟨fn,caps,rfl,hf,hk,hT⟩:=H
 refine ⟨fn,caps,rfl,hf,hk,fun bad D hD=>?_⟩
 refine ((hT bad D hD).frame [R]).shape (fun h z=>?_) (fun _ h z=>?_)
 · exact starH_perm (l:=[C,R]++[ptW p q s bad b t,DiskM q D]) (.cons _ ((List.Perm.swap _ _ _).trans (.cons _ (.swap _ _ _)))) (starH_head (fun h c=>(h1 h).1 c) z)
 exact starH_fold (l:=[C,R]) (fun h c=>(h1 h).2 c) (starH_perm (l:=[C,ptW p q s bad b t,DiskM q (f D).1]++[R]) (.cons _ ((List.Perm.cons _ (.swap _ _ _)).trans (.swap _ _ _))) z)
theorem putF (p q:Nat) (s b t:Int) (x y:ByteArray) (hy:y.size≤100000000):Triple Tryz.prog 51 [pP p,.string x,.string y] [] [] FnV (fun v=>.func (.func v.1) #[] v.2) (fun _=>True) (fun v=>[ChgA p q s b t v fun D=>appD D x y]):=by
 have T:Triple Tryz.prog 51 [pP p,.string x,.string y] [] [] (Nat × Nat × Nat) (fun (bw,bn,bs)=>.func (.func 100) #[] #[pP bw,pP bn,pP bs]) (fun _=>True) (fun (bw,bn,bs)=>[Pt bw 29 [pP p],Pt bn 9 [.string x],Pt bs 9 [.string y]]):=by
  refine aT Tryz.func51 [vP p,.va (.string x),.va (.string y)] [] (fun E=>?_) ⟨trivial,trivial,trivial,trivial⟩
  refine aG ?_
  refine ev_new fun b0=>?_
  refine ev_new fun b1=>?_
  refine ev_new fun b2=>?_
  exact ev_fin ⟨trivial,_,rfl,((b0,b1,b2)),rfl,trivial,aF [0,1,2]⟩
 refine T.imp fun (bw,bn,bs) _=>⟨(100,#[pP bw,pP bn,pP bs]),rfl,trivial,fun h z=>starH_one.2 ⟨Asn.star [Pt bw 29 [pP p],Pt bn 9 [.string x],Pt bs 9 [.string y]],star_holds.2 (starH_pure.2 ⟨⟨_,_,rfl,show HasFn 100 from ⟨by decide,by decide,by decide⟩,fun D h=>app_ok h _ _,fun bad D hD=>?_⟩,starH_star.2 z⟩)⟩⟩
 exact ((putC p q bw bn bs s bad b t D x y hD hy).reads (fun _ h=>by cases h)).shape (fun h z=>starH_star.1 z) (fun _ h z=>starH_star.2 z)
theorem syncF (p q:Nat) (s b t:Int) (x:ByteArray):Triple Tryz.prog 52 [pP p,.string x] [] [] FnV (fun v=>.func (.func v.1) #[] v.2) (fun _=>True) (fun v=>[ChgA p q s b t v fun D=>syncD D x]):=by
 have T:Triple Tryz.prog 52 [pP p,.string x] [] [] (Nat × Nat) (fun (bw,bn)=>.func (.func 101) #[] #[pP bw,pP bn]) (fun _=>True) (fun (bw,bn)=>[Pt bw 29 [pP p],Pt bn 9 [.string x]]):=by
  refine aT Tryz.func52 [vP p,.va (.string x)] [] (fun E=>?_) ⟨trivial,trivial,trivial⟩
  refine aG ?_
  refine ev_new fun b0=>?_
  refine ev_new fun b1=>?_
  exact ev_fin ⟨trivial,_,rfl,((b0,b1)),rfl,trivial,aF [0,1]⟩
 refine T.imp fun (bw,bn) _=>⟨(101,#[pP bw,pP bn]),rfl,trivial,fun h z=>starH_one.2 ⟨Asn.star [Pt bw 29 [pP p],Pt bn 9 [.string x]],star_holds.2 (starH_pure.2 ⟨⟨_,_,rfl,show HasFn 101 from ⟨by decide,by decide,by decide⟩,fun D h=>sync_ok h _,fun bad D hD=>?_⟩,starH_star.2 z⟩)⟩⟩
 exact ((syncC p q bw bn s bad b t D x hD).reads (fun _ h=>by cases h)).shape (fun h z=>starH_star.1 z) (fun _ h z=>starH_star.2 z)
theorem removedF (p q:Nat) (s b t:Int) (A:Option Addr) (n c:Nat) (l:List ByteArray) (hn:n=l.length) (hn1:n≤1000000000):Triple Tryz.prog 41 [pP p,.slice A n c] [Row 9 1 A n c (l.flatMap encS)] [] FnV (fun v=>.func (.func v.1) #[] v.2) (fun _=>True) (fun it=>[IterA p q s b t it (l.map fun x D=>remD D x)]):=by
 have T:Triple Tryz.prog 41 [pP p,.slice A n c] [Row 9 1 A n c (l.flatMap encS)] [] (Nat × Nat) (fun (bn,bw)=>.func (.func 91) #[] #[pP bn,pP bw]) (fun _=>True) (fun (bn,bw)=>[Pt bn 30 [.slice A n c],Pt bw 29 [pP p],Row 9 1 A n c (l.flatMap encS)]):=by
  refine aT Tryz.func41 [vP p,vL A n c] [.fact (Row 9 1 A n c (l.flatMap encS))] (fun E=>?_) ⟨trivial,trivial,trivial⟩
  refine aG ?_
  refine ev_new fun b0=>?_
  refine ev_new fun b1=>?_
  exact ev_fin ⟨trivial,_,rfl,((b1,b0)),rfl,trivial,aF [2,1,0]⟩
 exact T.imp fun (bn,bw) _=>⟨(91,#[pP bn,pP bw]),rfl,trivial,fun h z=>starH_one.2 ⟨_,star_holds.2 (starH_pure.2 ⟨removedI p q bn bw s b t A n c l hn hn1,starH_star.2 z⟩)⟩⟩
theorem doA (p q:Nat) (s:Int) (bad:Bool) (b t:Int) (ia:FuncId) (ic:Array Value) (fs:List (DK→DK × Int)) (D:DK) (hD:okD D) :
 Triple Tryz.prog 40 [pP p,.func (.func ia) #[] ic] [ptW p q s bad b t,IterA p q s b t (ia,ic) fs,DiskM q D] [TabA] Unit (fun _=>.int .i64 (runD fs D).2) (fun _=>True) (fun _=>[ptW p q s (bad || badE (runD fs D).2) b t,DiskM q (runD fs D).1]):=by
 refine Triple.pre (α:={ B:Asn // IterOf p q s b t B (fnV (ia,ic)) fs }) (M:=fun B=>[ptW p q s bad b t,B.1,DiskM q D]) (fun h z=>?_) fun ⟨B,hB⟩=>?_
 · obtain ⟨B,z⟩:=starH_ex.1 (starH_swap z)
   obtain ⟨hB,z⟩:=starH_pure.1 (starH_star.1 z)
   exact ⟨⟨B,hB⟩,starH_swap z⟩
 exact (doT p q s b t bad B (fnV (ia,ic)) fs D hB hD).shape (fun h z=>z) (fun _ h z=>starH_drop [_] _ [_] z)
theorem doK (p q:Nat) (s:Int) (bad:Bool) (b t:Int) (K:Asn) (ia:FuncId) (ic:Array Value) (fs:List (DK→DK × Int)) (D:DK) (hD:okD D) :
 Triple Tryz.prog 40 [pP p,.func (.func ia) #[] ic] [ptW p q s bad b t,DiskM q D,K,IterK p q s b t K (ia,ic) fs] [TabA] Unit (fun _=>.int .i64 (runD fs D).2) (fun _=>True) (fun _=>[ptW p q s (bad || badE (runD fs D).2) b t,DiskM q (runD fs D).1,K]):=by
 refine Triple.pre (α:={ B:Asn // IterOf p q s b t (Asn.star [B,K]) (fnV (ia,ic)) fs }) (M:=fun B=>[ptW p q s bad b t,Asn.star [B.1,K],DiskM q D]) (fun h z=>?_) fun ⟨B,hB⟩=>?_
 · have z1:=starH_perm (m:=[IterK p q s b t K (ia,ic) fs,K,ptW p q s bad b t,DiskM q D]) ((List.perm_append_comm (l₁:=[ptW p q s bad b t,DiskM q D]) (l₂:=[K,IterK p q s b t K (ia,ic) fs])).trans (.swap _ _ _)) z
   obtain ⟨B,z2⟩:=starH_ex.1 z1
   obtain ⟨hB,z3⟩:=starH_pure.1 (starH_star.1 z2)
   exact ⟨⟨B,hB⟩,starH_swap ((starH_star (l:=[B,K])).2 z3)⟩
 refine (doT p q s b t bad _ (fnV (ia,ic)) fs D hB hD).shape (fun h z=>z) (fun _ h z=>?_)
 have z2:=starH_star.1 (starH_swap z)
 exact starH_perm (l:=[K,ptW p q s (bad || badE (runD fs D).2) b t,DiskM q (runD fs D).1]) ((List.Perm.swap _ _ _).trans (.cons _ (.swap _ _ _))) (starH_drop [] _ _ z2)
structure WK where
 s:Int
 bad:Bool
 b:Nat
 t:Nat
 deriving DecidableEq
def WalM (p q:Nat) (W:WK):Asn:=ptW p q W.s W.bad (W.b:Nat) (W.t:Nat)
def okW (W:WK):Prop:=W.b+W.t≤999999999
theorem run_one (f:DK→DK × Int) (D:DK):runD [f] D=f D:=by
 unfold runD
 split
 · rename_i h
   simp only [runD]
   exact Prod.ext rfl h.symm
 rfl
theorem IterOf.shape {p q:Nat} {s b t:Int} {B B':Asn} {it:Value} {fs:List (DK→DK × Int)} (H:IterOf p q s b t B it fs) (h1:∀ h,B'.holds h↔B.holds h):IterOf p q s b t B' it fs:=by
 obtain ⟨gf,lb,rfl,hk,hI⟩:=H
 refine ⟨gf,lb,rfl,hk,fun L J Jx hY=>?_⟩
 exact (hI L J Jx hY).shape (fun h q=>starH_head (l:=[B]) (fun h c=>starH_one.2 ((h1 h).1 c)) q) (fun x h q=>starH_fold (l:=[B]) (fun h c=>(h1 h).2 (starH_one.1 c)) q)
theorem valuesF (A:Option Addr) (n c:Nat):Triple Tryz.prog 99 [.slice A n c] [] [] Nat (fun bs=>.func (.func 134) #[] #[pP bs]) (fun _=>True) (fun bs=>[Pt bs 133 [.slice A n c]]):=by
 refine aT Tryz.func99 [vL A n c] [] (fun E=>?_) ⟨trivial,trivial⟩
 refine aG ?_
 refine ev_new fun b0=>?_
 exact ev_fin ⟨trivial,_,rfl,(b0),rfl,trivial,aF [0]⟩
theorem oneF (A:Option Addr) (n c:Nat):Triple Tryz.prog 50 [.slice A n c] [] [] Nat (fun bs=>.func (.func 134) #[] #[pP bs]) (fun _=>True) (fun bs=>[Pt bs 133 [.slice A n c]]):=by
 have T1:=valuesF A n c
 refine aT Tryz.func50 [vL A n c] [] (fun E=>?_) ⟨trivial,trivial⟩
 refine aG ?_
 refine aD T1 [] [] (fun v0_=>[.box (v0_) 133 [vL A n c]]) fun x0 h1=>?_
 exact ev_fin ⟨trivial,_,rfl,(x0),rfl,trivial,aF [0]⟩
theorem one1 (p q:Nat) (s b t:Int) (bx:Nat) (va:FuncId) (vc:Array Value) (f:DK→DK × Int):Triple Tryz.prog 50 [.slice (some ⟨bx,0,none⟩) 1 1] [ChgA p q s b t (va,vc) f,Pt bx 40 [.func (.func va) #[] vc]] [] FnV (fun v=>.func (.func v.1) #[] v.2) (fun _=>True) (fun it=>[IterA p q s b t it [f]]):=by
 refine Triple.pre (α:={ C:Asn // ChgOf p q s b t C (fnV (va,vc)) f }) (M:=fun C=>[Pt bx 40 [.func (.func va) #[] vc],C.1]) (fun h q=>?_) fun ⟨C,hC⟩=>?_
 · obtain ⟨C,q⟩:=starH_ex.1 q
   obtain ⟨hC,q⟩:=starH_pure.1 (starH_star.1 q)
   exact ⟨⟨C,hC⟩,starH_swap q⟩
 refine ((oneF (some ⟨bx,0,none⟩) 1 1).frame _).imp fun bs _=>⟨(134,#[pP bs]),rfl,trivial,fun h z=>starH_one.2 ⟨_,star_holds.2 (starH_pure.2 ⟨valuesI p q bs s b t (some ⟨bx,0,none⟩) 1 1 [(va,vc)] [f] C rfl (by decide) rfl (fun i v' f' h1 h2=>?_),starH_star.2 ?_⟩)⟩⟩
 · cases i with
   |
    zero =>
    cases h1
    cases h2
    exact hC
   | succ i=>simp at h1
 exact starH_tail (fun h q=>starH_head (l:=[_]) (fun h c=>starH_one.2 (Pt.row c (n:=1) rfl (by decide))) q) z
theorem framed_size {ps:List ByteArray} (h:(framedM ps).2=0):(framedM ps).1.size≤ps.length*8220:=by
 unfold framedM at h ⊢
 split at h
 · rename_i hp
   rw [if_pos hp]
   show (strL _).size≤_
   rw [strL_size]
   clear h
   induction ps with
   | nil=>simp [framesL]
   |
    cons x ps ih =>
    simp only [List.all_cons,Bool.and_eq_true,decide_eq_true_eq] at hp
    have h1:=ih hp.2
    have h2:=frameL_size x.data.toList
    rw [size_data] at h2
    rw [List.map_cons,framesL_cons,List.length_append,List.length_cons]
    omega
 cases h
def appW (W:WK) (D:DK) (ps:List ByteArray):WK × DK × Int :=
 if askW W.s W.bad D≠0 then (W,D,askW W.s W.bad D)
 else if (framedM ps).2≠0 then (W,D,(framedM ps).2)
 else if ps=[] then (W,D,0)
 else if 0<W.t∧(readD D (nmB 115 (W.b+W.t))).1.size<16384 then
  let r:=appD D (nmB 115 (W.b+W.t)) (framedM ps).1
  (⟨W.s,W.bad || badE r.2,W.b,W.t⟩,r.1,r.2)
 else
  let r:=if 0<W.t then syncD D (nmB 115 (W.b+W.t)) else (D,0)
  if r.2≠0 then (⟨W.s,W.bad || badE r.2,W.b,W.t⟩,r.1,r.2)
  else if 15≤r.1.files.length∨999999999≤W.b+W.t then (W,r.1,40)
  else
   let r2:=appD r.1 (nmB 115 (W.b+W.t+1)) (framedM ps).1
   (⟨W.s,W.bad || badE r2.2,W.b,if r2.2=0 then W.t+1 else W.t⟩,r2.1,r2.2)
def syncW (W:WK) (D:DK):WK × DK × Int :=
 if askW W.s W.bad D≠0 then (W,D,askW W.s W.bad D)
 else if W.t=0 then (W,D,0)
 else let r:=syncD D (nmB 115 (W.b+W.t));(⟨W.s,W.bad || badE r.2,W.b,W.t⟩,r.1,r.2)
def segsW (W:WK) (D:DK):Nat:=if askW W.s W.bad D≠0 then 0 else (segsM W.b W.t).length
def sumS (D:DK) (L:List ByteArray):Nat:=L.foldl (fun n x=>n+(readD D x).1.size) 0
def sizeOfW (W:WK) (D:DK):Nat:=if askW W.s W.bad D≠0 then 0 else sumS D (segsM W.b W.t)
theorem ask_cases (s:Int) (bad:Bool) (D:DK):askW s bad D=0∨askW s bad D=41:=by
 unfold askW
 split
 · exact .inr rfl
 exact .inl rfl
set_option maxHeartbeats 1000000 in
theorem syncWT (p q:Nat) (W:WK) (D:DK) (hD:okD D) (hW:okW W):Triple Tryz.prog 20 [pP p] [WalM p q W,DiskM q D] [TabA] Unit (fun _=>.int .i64 (syncW W D).2.2) (fun _=>True) (fun _=>[WalM p q (syncW W D).1,DiskM q (syncW W D).2.1]):=by
 obtain ⟨s,bad,b,t⟩:=W
 replace hW:b+t≤999999999:=hW
 have T1:=askT p q s bad b t D hD
 have T2:=endT p q s bad b t hW
 unfold syncW WalM
 dsimp only
 rcases ask_cases s bad D with h | h
 · rw [h] at T1 ⊢
   rw [if_neg (by decide)]
   by_cases ht:t=0
   · subst ht
     rw [if_pos rfl]
     refine aT Tryz.func20 [.pt 0 p 0] [.box p 49 [vP q,vI s,.bq bad,vI (b:Nat),vI (0:Nat)],.fact (DiskM q D)] (fun E=>?_) ⟨rfl,trivial⟩
     unfold ptW at T1
     refine aG ?_
     refine aD T1 [0,1] [] (fun v0_=>[.box (p) 49 [vP q,vI s,.bq (bad),vI ↑b,vI ↑0],.fact (DiskM q D)]) fun _ h0=>?_
     refine aI (aJ ?_)
     exact ev_fin ⟨trivial,_,rfl,(),rfl,trivial,aF [0,1]⟩
   rw [if_neg ht]
   have e:endM b t=nmB 115 (b+t):=by unfold endM;rw [if_neg ht]
   rw [e] at T2
   obtain ⟨f,hf⟩:∃ f:DK→DK × Int,f=fun D=>syncD D (nmB 115 (b+t)):=⟨_,rfl⟩
   have T3:=syncF p q s b t (nmB 115 (b+t))
   have T4:=fun bx va vc=>one1 p q s b t bx va vc f
   have T5:=fun ia ic=>doA p q s bad b t ia ic [f] D hD
   rw [run_one] at T5
   rw [←hf] at T3
   rw [show syncD D (nmB 115 (b+t))=f D by rw [hf]]
   dsimp only
   unfold ptW at T1 T2 T5
   obtain ⟨G,hG⟩:∃ G,G=f D:=⟨_,rfl⟩
   rw [←hG] at T5 ⊢
   obtain ⟨bd,hbd⟩:∃ bd,bd=(bad || badE G.2):=⟨_,rfl⟩
   rw [←hbd] at T5 ⊢
   refine aT Tryz.func20 [.pt 0 p 0] [.box p 49 [vP q,vI s,.bq bad,vI (b:Nat),vI (t:Nat)],.fact (DiskM q D)] (fun E=>?_) ⟨rfl,trivial⟩
   refine aG ?_
   refine aD T1 [0,1] [] (fun v0_=>[.box (p) 49 [vP q,vI s,.bq (bad),vI ↑b,vI ↑t],.fact (DiskM q D)]) fun _ h0=>?_
   refine aI ?_
   refine aI ?_ (beq_eq_false_iff_ne.2 (show ¬(↑t:Int)=0 from (by omega)))
   refine aD T2 [0] [.inl 0] (fun v0_=>[.box (p) 49 [vP q,vI s,.bq (bad),vI ↑b,vI ↑t]]) fun _ h1=>?_
   refine aC T3 [] [] fun ⟨x2,x3⟩ h4=>?_
   refine ev_new fun b5=>?_
   refine aC (T4 (b5) (x2) (x3)) [2,3] [] fun ⟨x6,x7⟩ h8=>?_
   refine aD (T5 (x6) (x7)) [0,2,1] [.inl 0] (fun v0_=>[.box (p) 49 [vP q,vI s,.bq (bd),vI ↑b,vI ↑t],.fact (DiskM q G.fst)]) fun _ h9=>?_
   exact ev_fin ⟨trivial,_,rfl,(),rfl,trivial,aF [0,2]⟩
 rw [h] at T1 ⊢
 rw [if_pos (by decide)]
 refine aT Tryz.func20 [.pt 0 p 0] [.box p 49 [vP q,vI s,.bq bad,vI (b:Nat),vI (t:Nat)],.fact (DiskM q D)] (fun E=>?_) ⟨rfl,trivial⟩
 unfold ptW at T1
 refine aG ?_
 refine aD T1 [0,1] [] (fun v0_=>[.box (p) 49 [vP q,vI s,.bq (bad),vI ↑b,vI ↑t],.fact (DiskM q D)]) fun _ h0=>?_
 refine aJ ?_
 exact ev_fin ⟨trivial,_,rfl,(),rfl,trivial,aF [0,1]⟩
theorem segs_len (b t:Nat):(segsM b t).length≤1+t:=by
 unfold segsM
 split<;>simp<;>omega
theorem segsWT (p q:Nat) (W:WK) (D:DK) (hD:okD D) (hW:okW W):Triple Tryz.prog 22 [pP p] [WalM p q W,DiskM q D] [TabA] Unit (fun _=>.int .i64 (segsW W D:Nat)) (fun _=>True) (fun _=>[WalM p q W,DiskM q D]):=by
 obtain ⟨s,bad,b,t⟩:=W
 replace hW:b+t≤999999999:=hW
 have TA:=askT p q s bad b t D hD
 have TS:=segsT b t (by omega) (by omega)
 unfold WalM ptW
 unfold ptW at TA
 obtain ⟨R,hR⟩:∃ R,R=segsW ⟨s,bad,b,t⟩ D:=⟨_,rfl⟩
 rw [←hR]
 unfold segsW at hR
 dsimp only at hR
 have hl:=segs_len b t
 refine aT Tryz.func22 [.pt 0 p 0] [.box p 49 [vP q,vI s,.bq bad,vI (b:Nat),vI (t:Nat)],.fact (DiskM q D)] (fun E=>?_) ⟨rfl,trivial⟩
 rcases ask_cases s bad D with h | h
 · rw [h,if_neg (by decide)] at hR
   rw [h] at TA
   subst hR
   refine aG ?_
   refine aD TA [0,1] [] (fun v0_=>[.box (p) 49 [vP q,vI s,.bq (bad),vI ↑b,vI ↑t],.fact (DiskM q D)]) fun _ h0=>?_
   refine aI ?_
   refine aC TS [] [.inl 0] fun ⟨x1,x2⟩ h3=>?_
   exact ev_fin ⟨trivial,_,rfl,(),rfl,trivial,aF [0,1]⟩
 rw [h,if_pos (by decide)] at hR
 rw [h] at TA
 subst hR
 refine aG ?_
 refine aD TA [0,1] [] (fun v0_=>[.box (p) 49 [vP q,vI s,.bq (bad),vI ↑b,vI ↑t],.fact (DiskM q D)]) fun _ h0=>?_
 refine aJ ?_
 exact ev_fin ⟨trivial,_,rfl,(),rfl,trivial,aF [0,1]⟩
theorem sumS_step {D:DK} {L:List ByteArray} {i:Nat} (h:i<L.length):sumS D (L.take (i+1))=sumS D (L.take i)+(readD D L[i]).1.size:=by
 unfold sumS
 rw [←List.take_append_getElem h,List.foldl_append]
 rfl
theorem read_size {D:DK} (hD:okD D) (x:ByteArray):(readD D x).1.size≤1048576:=by
 have h1:=hD.room
 have h2:=hD.most.2
 unfold readD
 split
 · simp
 split
 · unfold getF
   split
   · rename_i f hf
     have:=sumD_mem (List.mem_of_getElem? hf)
     simp only
     omega
   simp
 simp
theorem sumS_leK {D:DK} {K:Nat} (hK:∀ x,(readD D x).1.size≤K) (L:List ByteArray):∀ i,sumS D (L.take i)≤i*K:=by
 intro i
 induction i with
 | zero=>simp [sumS]
 |
  succ i ih =>
  rw [Nat.succ_mul]
  by_cases h:i<L.length
  · rw [sumS_step h]
    have:=hK L[i]
    omega
  rw [List.take_of_length_le (by omega)]
  rw [List.take_of_length_le (by omega)] at ih
  omega
theorem sumS_le {D:DK} (hD:okD D) (L:List ByteArray) (i:Nat):sumS D (L.take i)≤i*1048576:=sumS_leK (read_size hD) L i
theorem sizeWT (p q:Nat) (W:WK) (D:DK) (hD:okD D) (hW:okW W) (ht:W.t≤1000):Triple Tryz.prog 23 [pP p] [WalM p q W,DiskM q D] [TabA] Unit (fun _=>.int .i64 (sizeOfW W D:Nat)) (fun _=>True) (fun _=>[WalM p q W,DiskM q D]):=by
 obtain ⟨s,bad,b,t⟩:=W
 replace hW:b+t≤999999999:=hW
 replace ht:t≤1000:=ht
 have TA:=askT p q s bad b t D hD
 have TS:=segsT b t (by omega) (by omega)
 have TZ:=fun x=>sizeW p q s bad b t D x hD
 unfold WalM ptW
 unfold ptW at TA TZ
 obtain ⟨R,hR⟩:∃ R,R=sizeOfW ⟨s,bad,b,t⟩ D:=⟨_,rfl⟩
 rw [←hR]
 unfold sizeOfW at hR
 dsimp only at hR
 have hl:=segs_len b t
 obtain ⟨L,hL⟩:∃ L,L=segsM b t:=⟨_,rfl⟩
 rw [←hL] at TS hR hl
 obtain ⟨n,hn⟩:∃ n,n=L.length:=⟨_,rfl⟩
 rw [←hn] at TS hl
 refine aT Tryz.func23 [.pt 0 p 0] [.box p 49 [vP q,vI s,.bq bad,vI (b:Nat),vI (t:Nat)],.fact (DiskM q D)] (fun E=>?_) ⟨rfl,trivial⟩
 rcases ask_cases s bad D with h | h
 · rw [h,if_neg (by decide)] at hR
   rw [h] at TA
   refine aG ?_
   refine aD TA [0,1] [] (fun v0_=>[.box (p) 49 [vP q,vI s,.bq (bad),vI ↑b,vI ↑t],.fact (DiskM q D)]) fun _ h0=>?_
   refine aI ?_
   refine aC TS [] [.inl 0] fun ⟨x1,x2⟩ h3=>?_
   refine ev_stop (go_loopR [3,5,12,15,16,17,18,19,20,21,22,23,24] (fun (i,m)=>[(3,vI (m:Nat)),(15,vI (i:Nat))]) (fun _=>[]) (fun (i,m)=>i≤n∧m=sumS D (L.take i)) (fun (i,_)=>n-i) ((0,0):Nat × Nat) ⟨Nat.zero_le _,rfl⟩ aS (fun x_ h_=>?_))
   obtain ⟨i,m⟩:=x_
   obtain ⟨hi,hm⟩:=h_
   have hm2:m≤i*1048576:=by rw [hm];exact sumS_le hD L i
   rcases Nat.lt_or_ge i n with hin | hin
   · have hz:=read_size hD (L[i]'(by omega))
     have hst:=sumS_step (D:=D) (L:=L) (i:=i) (by omega)
     rw [←hm] at hst
     refine aG ?_
     refine aJ ?_ (decide_eq_true (show (↑i:Int)<(↑n:Int) from (by omega)))
     refine ev_stop (go_index0 (sz:=1) Tryz.tbs_ok (.inr 2) (i) rfl rfl rfl rfl rfl rfl (by omega) rfl Row.at0 (fun g20 e21=>?_))
     subst e21
     refine aG ?_
     have l22:i<(L).length:=(by omega)
     refine ev_stop (go_loadE Tryz.tbs_ok (.inr 2) (i) 0 rfl rfl rfl rfl (fun _ h=>Row.rd h) (by omega) (fun _=>rfl) (by omega) l22 (by decide) ?_)
     refine aG ?_
     refine aD (TZ (L[i])) [0,1] [] (fun v0_=>[.box (p) 49 [vP q,vI s,.bq (bad),vI ↑b,vI ↑t],.fact (DiskM q D)]) fun _ h23=>?_
     refine wN (m+(readD D L[i]).fst.size) ?_
     refine wN (i+1) ?_
     refine ev_fin (round_next ((i+1,m+(readD D L[i]).fst.size)) (show i+1≤n∧m+(readD D L[i]).fst.size=sumS D (List.take (i+1) L) from (by omega)) (show n-(i+1)<n-i from (by omega)) aS)
   obtain rfl:i=n:=by omega
   rw [List.take_of_length_le (by omega),←hR] at hm
   subst hm
   refine aG ?_
   refine aI ?_ (decide_eq_false (show ¬(↑i:Int)<(↑i:Int) from (by omega)))
   refine ev_fin (go Tryz.tbs_ok 1000 ?_)
   exact ev_fin ⟨trivial,_,rfl,(),rfl,trivial,aF [0,1]⟩
 rw [h,if_pos (by decide)] at hR
 rw [h] at TA
 subst hR
 refine aG ?_
 refine aD TA [0,1] [] (fun v0_=>[.box (p) 49 [vP q,vI s,.bq (bad),vI ↑b,vI ↑t],.fact (DiskM q D)]) fun _ h0=>?_
 refine aJ ?_
 exact ev_fin ⟨trivial,_,rfl,(),rfl,trivial,aF [0,1]⟩
def wholeB (x:ByteArray):Bool:=decide ((wholeM x).2=x.size)
def okSeg (t:Nat) (dat:List ByteArray):Bool:=dat.dropLast.all wholeB&&(decide (0<t) || dat.all wholeB)
def payM (dat:List ByteArray):List ByteArray:=dat.flatMap fun x=>(wholeM x).1
def cutM (dat:List ByteArray):Option Nat:=match dat.getLast? with | some x=>if wholeB x then none else some (wholeM x).2 | none=>none
def namesD (D:DK):List ByteArray:=D.files.map nameEG
def dataD (D:DK):List ByteArray:=(segsM (baseM (namesD D)) (tailsM (namesD D))).map fun x=>(readD D x).1
def remL (L:List ByteArray):List (DK→DK × Int):=L.map fun x D=>remD D x
def openD (D:DK):DK × Int × WK × List ByteArray :=
 if D.down then (D,41,⟨0,false,0,0⟩,[])
 else if okN (namesD D)=false∨okSeg (tailsM (namesD D)) (dataD D)=false then (D,50,⟨0,false,0,0⟩,[])
 else
  let r:=runD (remL (staleM (namesD D))) D
  if r.2≠0 then (r.1,r.2,⟨0,false,0,0⟩,[])
  else
   let r2:=match cutM (dataD D) with | none=>(r.1,0) | some z=>truncD r.1 (endM (baseM (namesD D)) (tailsM (namesD D))) (z:Nat)
   (r2.1,r2.2,⟨D.starts,false,baseM (namesD D),tailsM (namesD D)⟩,payM (dataD D))
theorem dropLast_take (l:List ByteArray) {k:Nat} (h:k+1<l.length):l[k]'(by omega)∈l.dropLast:=by
 rw [List.dropLast_eq_take]
 exact List.mem_take_iff_getElem.2 ⟨k,by omega,rfl⟩
theorem okSeg_no {t:Nat} {dat:List ByteArray} {k:Nat} (hk:k<dat.length) (hw:wholeB dat[k]=false) (h:k+1<dat.length∨t=0):okSeg t dat=false:=by
 cases hb:okSeg t dat with
 | false=>rfl
 |
  true =>
  unfold okSeg at hb
  simp only [Bool.and_eq_true,Bool.or_eq_true,decide_eq_true_eq] at hb
  rcases h with h | h
  · have:=List.all_eq_true.1 hb.1 _ (dropLast_take dat h)
    rw [hw] at this
    cases this
  rcases hb.2 with h2 | h2
  · omega
  have:=List.all_eq_true.1 h2 _ (List.getElem_mem hk)
  rw [hw] at this
  cases this
theorem okSeg_yes {t:Nat} {dat:List ByteArray} (h:∀ x∈dat,wholeB x=true):okSeg t dat=true:=by
 unfold okSeg
 simp only [Bool.and_eq_true,Bool.or_eq_true,decide_eq_true_eq]
 exact ⟨List.all_eq_true.2 fun x hx=>h x (List.dropLast_subset _ hx),.inr (List.all_eq_true.2 h)⟩
theorem payM_step {dat:List ByteArray} {i:Nat} (h:i<dat.length):payM (dat.take (i+1))=payM (dat.take i)++(wholeM dat[i]).1:=by
 unfold payM
 rw [←List.take_append_getElem h,List.flatMap_append]
 simp
theorem cutM_no {dat:List ByteArray} (h:∀ x∈dat,wholeB x=true):cutM dat=none:=by
 unfold cutM
 cases hl:dat.getLast? with
 | none=>rfl
 | some x=>simp only [h x (List.mem_of_getLast? hl),if_true]
theorem cutM_yes {dat:List ByteArray} {n:Nat} (hn:n+1=dat.length) (h:wholeB (dat[n]'(by omega))=false):cutM dat=some (wholeM (dat[n]'(by omega))).2:=by
 unfold cutM
 rw [List.getLast?_eq_getElem?,show dat.length-1=n by omega,List.getElem?_eq_getElem (by omega)]
 simp only [h]
 rfl
theorem frames_many:∀ ps:List (List UInt8),ps.length≤(framesL ckL ps).length
 | []=>Nat.le_refl _
 |
  p::ps=>by
  rw [framesL_cons,List.length_append,List.length_cons]
  have:=frames_many ps
  have:=frameL_len ckL_len p
  omega
theorem whole_len (x:ByteArray):(wholeM x).1.length≤x.size∧(wholeM x).2≤x.size:=by
 obtain ⟨_,h2,h3,_⟩:=wholeL_spec (ck:=ckL) _ x.data.toList (Nat.le_refl _)
 have h4:=frames_many (wholeL ckL x.data.toList).1
 rw [←h2,List.length_take] at h4
 rw [size_data] at h3 h4
 refine ⟨?_,h3⟩
 show ((wholeL ckL x.data.toList).1.map strL).length≤_
 rw [List.length_map]
 omega
theorem segs_end {b t:Nat} (h:0<t):(segsM b t).getLast? = some (endM b t):=by
 have e:endM b t=nmB 115 (b+t):=by unfold endM;rw [if_neg (by omega)]
 rw [e]
 obtain ⟨k,rfl⟩:∃ k,t=k+1:=⟨t-1,by omega⟩
 unfold segsM
 rw [List.range_succ,List.map_append,←List.append_assoc]
 simp only [List.map_cons,List.map_nil,List.getLast?_append,List.getLast?_singleton,Option.some_or]
 rw [show b+1+k=b+(k+1) by omega]
set_option maxHeartbeats 2000000 in
theorem openDown (q:Nat) (D:DK) (hD:okD D) (h:D.down=true):Triple Tryz.prog 12 [pP q] [DiskM q D] [TabA] Unit (fun _=>.tuple #[.pointer none,.slice none 0 0,.int .i64 41]) (fun _=>True) (fun _=>[DiskM q D]):=by
 have T1:=startsM q D hD
 have T2:=upM q D hD
 have T3:=failM q D (-1) none 0 0 [] hD rfl (by decide)
 have e:failD D (-1) []=(D,41):=by unfold failD;rw [h];rfl
 rw [e] at T3
 rw [h] at T2
 refine aT Tryz.func12 [vP q] [.fact (DiskM q D)] (fun E=>?_) ⟨trivial,trivial⟩
 refine go_fact (Rd 1 none 0 (([]:List Int).flatMap encN)) (fun h=>Rd.nil _ _ h) ?_
 refine aG ?_
 refine aC T1 [0] [] fun _ h0=>?_
 refine ev_new fun b1=>?_
 refine aC T2 [0] [] fun _ h2=>?_
 refine aJ ?_
 refine aC T3 [0] [.inr 1] fun _ h3=>?_
 exact ev_fin ⟨trivial,_,rfl,(),rfl,trivial,aF [0]⟩
theorem lookR (A:Option Addr) (L:List ByteArray) (n c:Nat) (hn:n=L.length) (hn1:n≤1000000):Triple Tryz.prog 36 [.slice A n c] [] [TabA,Row 9 1 A n c (L.flatMap encS)] (Option Addr × Nat)
 (fun (C,e)=>.tuple #[.agg #[.int .i64 (baseM L:Nat),.int .i64 (tailsM L:Nat)],.slice C (staleM L).length e,.bool (okN L)]) (fun _=>True) (fun (C,e)=>[Row 9 1 C (staleM L).length e ((staleM L).flatMap encS)]) :=
 (lookT A L n c hn hn1).reads fun X hX=>by
  simp only [List.mem_cons,List.not_mem_nil,or_false] at hX
  rcases hX with rfl | rfl
  · exact ⟨_,List.mem_cons_self,fun _ q=>q⟩
  exact ⟨_,List.mem_cons_of_mem _ List.mem_cons_self,fun _ q=>Row.rd q⟩
set_option maxHeartbeats 2000000 in
theorem openOdd (q:Nat) (D:DK) (hD:okD D) (h:D.down=false) (ho:okN (namesD D)=false):Triple Tryz.prog 12 [pP q] [DiskM q D] [TabA] Unit (fun _=>.tuple #[.pointer none,.slice none 0 0,.int .i64 50]) (fun _=>True) (fun _=>[DiskM q D]):=by
 have T1:=startsM q D hD
 have T2:=upM q D hD
 rw [h] at T2
 have T3:=namesM q D hD
 have hfew:=hD.few
 obtain ⟨L,hL⟩:∃ L,L=D.files.map nameEG:=⟨_,rfl⟩
 obtain ⟨n,hn⟩:∃ n,n=D.files.length:=⟨_,rfl⟩
 have hnl:n=L.length:=by rw [hL,hn,List.length_map]
 replace ho:okN L=false:=by rw [hL];exact ho
 rw [←hL,←hn] at T3
 have T4:=fun A c=>lookR A L n c hnl (by omega)
 rw [ho] at T4
 refine aT Tryz.func12 [vP q] [.fact (DiskM q D)] (fun E=>?_) ⟨trivial,trivial⟩
 refine aG ?_
 refine aC T1 [0] [] fun _ h0=>?_
 refine ev_new fun b1=>?_
 refine aC T2 [0] [] fun _ h2=>?_
 refine aI ?_
 refine aC T3 [0] [] fun ⟨x3,x4⟩ h5=>?_
 refine aC (T4 (x3) (x4)) [] [.inl 0,.inr 2] fun ⟨x6,x7⟩ h8=>?_
 refine ev_new fun b9=>?_
 refine aJ ?_
 exact ev_fin ⟨trivial,_,rfl,(),rfl,trivial,aF [0]⟩
theorem qFind (r:Nat) (D:DK) (x:ByteArray) (hD:okD D):Triple Tryz.prog 82 [pP r,.string x] [RefD r D] [] Unit (fun _=>.int .i64 (ixF D.files x)) (fun _=>True) (fun _=>[RefD r D]) :=
 liftRAsk D [] fun A c st lf B d=>rFind r D.most D.starts D.down A D.files.length c st lf B D.keep.length d D.files rfl (Nat.le_trans hD.few (by decide)) x hD.rise
def PB (L:List ByteArray):Nat:=if okN L then baseM L else 0
def PS (L:List ByteArray):List ByteArray:=if okN L then segsM (baseM L) (tailsM L) else []
def PT (L:List ByteArray):Bool:=okN L&&decide (0<tailsM L)
theorem segsM_one (b t:Nat):segsM b (t+1)=segsM b t++[nmB 115 (b+t+1)]:=by
 unfold segsM
 rw [List.range_succ,List.map_append,List.append_assoc]
 simp only [List.map_cons,List.map_nil]
 rw [show b+1+t=b+t+1 by omega]
theorem find_mem {L:List Fl} {M:List ByteArray} (hM:M=L.map nameEG) (x:ByteArray):(ixF L x ≥ 0)↔memB M x=true:=by
 have h:memB M x=true↔hasF L x=true:=by
  rw [memB_iff,hM,hasF_iff]
  simp only [List.mem_map,nameEG]
 rw [h]
 unfold ixF
 cases hasF L x with
 | true=>simp
 | false=>simp
set_option maxHeartbeats 4000000 in
theorem rParts (r:Nat) (D:DK) (L:List ByteArray) (hL:L=namesD D) (hD:okD D):Triple Tryz.prog 107 [pP r] [RefD r D] [] (Option Addr × Nat × Option Addr × Nat)
 (fun (C,e,C2,e2)=>.tuple #[.int .i64 (PB L:Nat),.slice C (PS L).length e,.bool (PT L),.slice C2 (staleM L).length e2,.bool (okN L)]) (fun _=>True) (fun (C,e,C2,e2)=>[RefD r D,Row 9 1 C (PS L).length e ((PS L).flatMap encS),Row 9 1 C2 (staleM L).length e2 ((staleM L).flatMap encS)]):=by
 have hb9:=baseM_le L
 have hl9:=last_le L
 have hn:D.files.length=L.length:=by rw [hL];unfold namesD;rw [List.length_map]
 have TN:=qNames r D hD
 have e1:D.files.map nameEG=L:=hL.symm
 rw [e1,hn] at TN
 have hn16:L.length≤16:=by rw [←hn];exact hD.few
 have TF:=fun x=>qFind r D x hD
 have hfm:=fun x=>find_mem (L:=D.files) (M:=L) hL x
 have hsz:∀ x∈L,x.size≤16:=by
  intro x hx
  rw [hL] at hx
  obtain ⟨f,hf,rfl⟩:=List.mem_map.1 hx
  have:=hD.names f hf
  simp [oddS] at this
  exact this.2
 have TC:=fun x h=>rNumber x 99 h
 have TS:=fun x h=>rNumber x 115 h
 have T1:=fun n h h2=>rName2 ⟨#[99]⟩ 99 n rfl h h2
 have T2:=fun n h h2=>rName2 ⟨#[115]⟩ 115 n rfl h h2
 obtain ⟨n,hnn⟩:∃ n,n=L.length:=⟨_,rfl⟩
 rw [←hnn] at TN hn16
 refine aT Tryz.func107 [vP r] [.fact (RefD r D)] (fun E=>?_) ⟨trivial,trivial⟩
 refine go_fact (Row 9 1 none 0 0 (([]:List ByteArray).flatMap encS)) (Row.nilE _ _) ?_
 refine go_fact (Row 9 1 none 0 0 (([]:List ByteArray).flatMap encS)) (Row.nilE _ _) ?_
 refine go_fact (Row 9 1 none 0 0 (([]:List ByteArray).flatMap encS)) (Row.nilE _ _) ?_
 refine go_fact (Row 9 1 none 0 0 (([]:List ByteArray).flatMap encS)) (Row.nilE _ _) ?_
 refine aG ?_
 refine aC TN [0] [] fun ⟨x0,x1⟩ h2=>?_
 refine ev_stop (go_loopR [8,9,18,19,20,21,22,23,24,25,26,27,28,29,30] (fun (j,b)=>[(8,vI b),(9,vI (j:Nat))]) (fun _=>[]) (fun (j,b)=>j≤n∧b=(baseM (L.take j):Nat)) (fun (j,_)=>n-j) ((0,0):Nat × Int) ⟨Nat.zero_le _,rfl⟩ aS (fun x_ h_=>?_))
 obtain ⟨j,b⟩:=x_
 obtain ⟨hj,hb⟩:=h_
 have hbj:=baseM_le (L.take j)
 rcases Nat.lt_or_ge j n with hjn | hjn
 · have hjl:j<L.length:=by omega
   have hn9:=numM_le 99 L[j].data.toList
   have hst:=baseM_step (L:=L) (j:=j) hjl
   have hz:=hsz L[j] (List.getElem_mem hjl)
   refine aG ?_
   refine aJ ?_ (decide_eq_true (show (↑j:Int)<(↑n:Int) from (by omega)))
   refine ev_stop (go_index0 (sz:=1) Tryz.tbs_ok (.inr 5) (j) rfl rfl rfl rfl rfl rfl (by omega) rfl Row.at0 (fun g20 e21=>?_))
   subst e21
   refine aG ?_
   have l22:j<(L).length:=(by omega)
   refine ev_stop (go_loadE Tryz.tbs_ok (.inr 5) (j) 0 rfl rfl rfl rfl (fun _ h=>Row.rd h) (by omega) (fun _=>rfl) (by omega) l22 (by decide) ?_)
   refine aG ?_
   refine aC (TC (L[j]) (show L[j].size≤1000000000 from (by omega))) [] [] fun _ h23=>?_
   refine wN (j+1) ?_
   refine ev_fin (round_next ((j+1,max b (↑(numM 99 L[j].data.toList):Int))) (show j+1≤n∧max b (↑(numM 99 L[j].data.toList):Int)=(↑(baseM (List.take (j+1) L)):Int) from (by omega)) (show n-(j+1)<n-j from (by omega)) aS)
 obtain rfl:j=n:=by omega
 rw [List.take_of_length_le (Nat.le_of_eq hnn.symm)] at hb hbj
 obtain ⟨o,ho⟩:∃ o,o=okN L:=⟨_,rfl⟩
 obtain ⟨S,hS⟩:∃ S,S=staleM L:=⟨_,rfl⟩
 obtain ⟨T,hT⟩:∃ T,T=tailsM L:=⟨_,rfl⟩
 subst hb
 obtain ⟨b',hb'⟩:∃ b',b'=baseM L:=⟨_,rfl⟩
 have hT2:tailsG L b' 0=T:=by rw [hT,hb'];rfl
 have hPB:PB L=if o then b' else 0:=by rw [ho,hb'];rfl
 have hPS:PS L=if o then segsM b' T else []:=by rw [ho,hb',hT];rfl
 have hPT:PT L=(o&&decide (0<T)):=by rw [ho,hT];rfl
 rw [hPB,hPS,hPT,←ho,←hS]
 rw [←hb'] at hbj hb9 hl9 ⊢
 rw [←hT] at hl9
 obtain ⟨G,hG⟩:∃ G:Nat→Nat,G=tailsG L b':=⟨_,rfl⟩
 have hyes:∀ t,b'+t<999999999→memB L (nmB 115 (b'+t+1))=true→G t=G (t+1):=fun t h1 h2=>by rw [hG];exact tailsG_yes (by omega) h2
 have hno:∀ t,¬ (b'+t<999999999∧memB L (nmB 115 (b'+t+1))=true)→G t=t:=fun t h=>by rw [hG];exact tailsG_no h
 rw [←hG] at hT2
 refine aG ?_
 refine aI ?_ (decide_eq_false (show ¬(↑j:Int)<(↑j:Int) from (by omega)))
 refine ev_fin (go Tryz.tbs_ok 1000 ?_)
 refine ev_join [10,33,34,35,36,37] (fun (C,q,e,_)=>[(10,vL C q e)]) (fun (C,q,e,M)=>[(1,.fact (Row 9 1 C q e (M.flatMap encS)))]) (fun ((_,q,_,M):Option Addr × Nat × Nat × List ByteArray)=>M=segsM b' 0∧q=M.length) (fun hif=>?_) (fun hif=>?_) (fun x_ h_=>?_)
 · have hb0:0<b':=by simpa using hif
   have hseg0:[nmB 99 b']=segsM b' 0:=by unfold segsM;rw [if_pos hb0];rfl
   refine aG ?_
   refine aC (T1 (b') (by with_reducible assumption) (show b'≤1000000000 from (by omega))) [] [] fun _ h20=>?_
   refine ev_new fun b21=>?_
   refine ev_stop (go_appendE (sz:=1) (M:=[]) (enc:=encS) Tryz.tbs_ok [] [] (.inr 6) ([]) ([nmB 99 b']) ([nmB 99 b']) (1) rfl rfl rfl rfl rfl rfl rfl (by decide) rfl (by decide) (fun _ _=>Row.nil _ _ _) rfl (fun _ p=>Pt.rd p rfl) (by first | rfl | simp) (by first | rfl | omega) (aM (1)) (aN (1)) (fun _ _=>aL) (fun A22 c23 h24=>?_))
   refine aG ?_
   refine ev_moveJ 1 7 (by decide) rfl rfl aL ?_
   refine ev_fin (join_next ((A22,1,c23,[nmB 99 b'])) (show [nmB 99 b']=segsM b' 0∧1=[nmB 99 b'].length from (by trivial))  aS)
 · have hb0:¬ 0<b':=by simpa using hif
   have hseg0:[]=segsM b' 0:=by unfold segsM;rw [if_neg hb0];rfl
   refine aG ?_
   refine ev_fin (join_next ((none,0,0,[])) (show []=segsM b' 0∧0=[].length from (by trivial))  aS)
 obtain ⟨C0,q0,e0,M0⟩:=x_
 obtain ⟨hM0,hq0⟩:=h_
 refine aG ?_
 skip
 obtain ⟨B,hB⟩:∃ B,B=999999999:=⟨_,rfl⟩
 refine ev_stop (go_loopR [10,11,39,40,41,42,43,44,45,46,47,48,49,50,51,52,53,54,55] (fun (la,C,q,e,_)=>[(10,vL C q e),(11,vI (la:Nat))]) (fun (_,C,q,e,M)=>[(1,.fact (Row 9 1 C q e (M.flatMap encS)))]) (fun ((la,_,q,_,M):Nat × Option Addr × Nat × Nat × List ByteArray)=>(∃ t,la=b'+t∧G t=T∧b'+t≤B∧M=segsM b' t)∧q=M.length) (fun (la,_)=>B-la) ((b',C0,q0,e0,M0):Nat × Option Addr × Nat × Nat × List ByteArray) ⟨⟨0,rfl,hT2,by omega,hM0⟩,hq0⟩ aS (fun x_ h_=>?_))
 obtain ⟨la,C,q,e,M⟩:=x_
 obtain ⟨ht0,hq⟩:=h_
 obtain ⟨t,rfl,ht,ht2,hM⟩:=ht0
 have T2:=rName2 ⟨#[115]⟩ 115 (b'+t+1) rfl (by omega) (by omega)
 have TF:=qFind r D (nmB 115 (b'+t+1)) hD
 have hfx:=hfm (nmB 115 (b'+t+1))
 have hq9:q≤1000000000:=by
  have:=Proofs.YtjlfdfmkofbccaaGreatDoor.segs_len b' t
  rw [hq,hM]
  omega
 obtain ⟨ix,hix⟩:∃ ix,ix=ixF D.files (nmB 115 (b'+t+1)):=⟨_,rfl⟩
 rw [←hix] at TF hfx
 by_cases hc:b'+t<B∧memB L (nmB 115 (b'+t+1))=true
 · have hx1:=hfx.2 hc.2
   have hc1:=hc.1
   have hs1:=segsM_one b' t
   have hq8:q+1≤1000000000:=by
    have:=Proofs.YtjlfdfmkofbccaaGreatDoor.segs_len b' t
    rw [hq,hM]
    omega
   have hy:=hyes t (by omega) hc.2
   have hgo:(∃ t',b'+t+1=b'+t'∧G t'=T∧b'+t'≤B∧M++[nmB 115 (b'+t+1)]=segsM b' t')∧q+1=(M++[nmB 115 (b'+t+1)]).length:=⟨⟨t+1,rfl,by rw [←hy];exact ht,by omega,by rw [hs1,hM]⟩,by rw [hq];simp⟩
   refine aG ?_
   refine wN (b'+t+1) ?_
   refine aC T2 [] [] fun _ h60=>?_
   refine aC TF [0] [] fun _ h61=>?_
   refine aJ ?_ (decide_eq_true (by with_reducible assumption))
   refine aJ ?_ (decide_eq_true (show (↑(b'+t):Int)<999999999 from (by omega)))
   refine wN (b'+t+1) ?_
   refine aC T2 [] [] fun _ h62=>?_
   refine ev_new fun b63=>?_
   refine ev_stop (go_appendE (sz:=1) (M:=[_]) (enc:=encS) Tryz.tbs_ok [1] [] (.inr 6) (M) ([nmB 115 (b'+t+1)]) ((M)++([nmB 115 (b'+t+1)])) (q+1) rfl rfl rfl rfl rfl rfl rfl (by decide) rfl (by decide) (fun _ p=>starH_one.1 p) rfl (fun _ p=>Pt.rd p rfl) (by first | rfl | simp) (by first | rfl | omega) (aM (q+1)) (aN (q+1)) (fun _ _=>aL) (fun A64 c65 h66=>?_))
   refine aG ?_
   refine ev_fin (round_next ((b'+t+1,A64,q+1,c65,M++[nmB 115 (b'+t+1)])) (show (∃ t_1,b'+t+1=b'+t_1∧G t_1=T∧b'+t_1≤B∧M++[nmB 115 (b'+t+1)]=segsM b' t_1)∧q+1=(M++[nmB 115 (b'+t+1)]).length from (by assumption)) (show B-(b'+t+1)<B-(b'+t) from (by omega)) aS)
 have hn0:=hno t (by rw [←hB];exact hc)
 have htT:t=T:=by rw [←hn0];exact ht
 refine go Tryz.tbs_ok 2 ?_
 refine ev_stop (go_joinR [39,40,41,42,43,44,45,46,47,48] (fun m=>[(48,.bq m)]) (fun _:Bool=>[]) (fun m=>m=false) ?_ (fun x_ h_=>?_))
 · by_cases hm:memB L (nmB 115 (b'+t+1))=true
   · have hx1:=hfx.2 hm
     have hc1:¬ b'+t<B:=fun q=>hc ⟨q,hm⟩
     refine aG ?_
     refine wN (b'+t+1) ?_
     refine aC T2 [] [] fun _ h60=>?_
     refine aC TF [0] [] fun _ h61=>?_
     refine aJ ?_ (decide_eq_true (by with_reducible assumption))
     refine ev_fin (join_next (decide ((↑(b'+t):Int)<999999999)) (?_:decide ((↑(b'+t):Int)<999999999)=false)  aS)
     exact decide_eq_false (by omega)
   have hx1:¬ ix ≥ 0:=fun q=>hm (hfx.1 q)
   refine aG ?_
   refine wN (b'+t+1) ?_
   refine aC T2 [] [] fun _ h60=>?_
   refine aC TF [0] [] fun _ h61=>?_
   refine aI ?_ (decide_eq_false (by with_reducible assumption))
   refine ev_slotJ 48 _ (.bq false) rfl rfl rfl (fun _=>trivial) ?_
   refine ev_fin (join_next (false) (show false=false from (by trivial))  aS)
 subst htT
 subst h_
 refine aG (aI ?_)
 refine ev_fin (go Tryz.tbs_ok 1000 ?_)
 refine ev_stop (go_loopR [2,3,4,5,6,12,13,14,15,56,57,58,59,60,61,62,63,64,65,66,67,68,69,70,71,72,73,74,75,76,77,78,79,80,81,82,83,84,85,86,87,88,89,90,91,92,93,94,95,96,97,98,99,100,101,102,103,104,105,106,107,108,109,110,111,112,113,114] (fun (k,C,q,e,_)=>[(12,vL C q e),(13,vI (k:Nat))]) (fun (_,C,q,e,M)=>[(2,.fact (Row 9 1 C q e (M.flatMap encS)))]) (fun ((k,_,q,_,M):Nat × Option Addr × Nat × Nat × List ByteArray)=>k≤j∧q=M.length∧M=(L.take k).filter (staleB b')∧(L.take k).any (oddB b' t)=false) (fun (k,_)=>j-k) ((0,none,0,0,[]):Nat × Option Addr × Nat × Nat × List ByteArray) ⟨Nat.zero_le _,rfl,rfl,rfl⟩ aS (fun x_ h_=>?_))
 obtain ⟨k,C2,q2,e2,M2⟩:=x_
 obtain ⟨hk,hq2,hM2,hO⟩:=h_
 have hq9:q2≤k:=by rw [hq2,hM2];exact Nat.le_trans (List.length_filter_le _ _) (by rw [List.length_take];exact Nat.min_le_left _ _)
 rcases Nat.lt_or_ge k j with hkj | hkj
 · have hkl:k<L.length:=by omega
   have hz:=hsz L[k] (List.getElem_mem hkl)
   have hn9:=numM_le 99 L[k].data.toList
   have hn8:=numM_le 115 L[k].data.toList
   have hodd:oddB b' t L[k]=true→o=false∧S=[]:=by
    intro q
    have:okN L=false:=by
     unfold okN
     rw [←hb',←hT,List.any_eq_true.2 ⟨_,List.getElem_mem _,q⟩]
     rfl
    refine ⟨by rw [ho,this],?_⟩
    rw [hS]
    unfold staleM
    rw [this]
    rfl
   have T3:=rNumber L[k] 99 (by omega)
   have T4:=rNumber L[k] 115 (by omega)
   refine aG ?_
   refine aJ ?_ (decide_eq_true (show (↑k:Int)<(↑j:Int) from (by omega)))
   refine ev_stop (go_draw Tryz.tbs_ok false [5] [(0,true),(1,true),(2,true),(3,true),(5,true),(6,true),(7,true),(8,true),(4,false),(9,false),(10,false),(11,false)] rfl ?_)
   refine aG (aE ?_)
   refine ev_stop (tk_index0 (sz:=1) Tryz.tbs_ok (.inr 5) (k) aB rfl rfl rfl rfl rfl rfl rfl (by omega) rfl Row.at0 (fun g120 e121=>?_))
   subst e121
   refine aG (aE ?_)
   have l122:k<(L).length:=(by omega)
   refine ev_stop (tk_loadE Tryz.tbs_ok (.inr 0) (k) 0 aB rfl rfl rfl rfl rfl (fun _ h=>Row.rd h) (by omega) (fun _=>rfl) (by omega) l122 (by decide) ?_)
   refine aG (aE ?_)
   refine ev_stop (tk_atE (sz:=1) Tryz.tbs_ok (k) aB rfl rfl rfl rfl rfl rfl rfl (by omega) ?_)
   refine aG (aE ?_)
   have l123:k<(L).length:=(by omega)
   refine ev_stop (tk_loadE Tryz.tbs_ok (.inr 0) (k) 0 aB rfl rfl rfl rfl rfl (fun _ h=>Row.rd h) (by omega) (fun _=>rfl) (by omega) l123 (by decide) ?_)
   refine aG (aE ?_)
   refine aC T3 [] [] fun _ h124=>?_
   refine aE ?_
   refine aC T4 [] [] fun _ h125=>?_
   refine aE (aE (aK ?_))
   refine ev_stop (go_atE (sz:=1) Tryz.tbs_ok (k) rfl rfl rfl rfl rfl rfl (by omega) ?_)
   refine aG ?_
   have l126:k<(L).length:=(by omega)
   refine ev_stop (go_loadE Tryz.tbs_ok (.inr 5) (k) 0 rfl rfl rfl rfl (fun _ h=>Row.rd h) (by omega) (fun _=>rfl) (by omega) l126 (by decide) ?_)
   refine aG ?_
   refine ev_if_lt (fun h127=>?_) (fun h127=>?_)
   refine aG ?_
   refine ev_stop (go_atE (sz:=1) Tryz.tbs_ok (k) rfl rfl rfl rfl rfl rfl (by omega) ?_)
   refine aG ?_
   have l128:k<(L).length:=(by omega)
   refine ev_stop (go_loadE Tryz.tbs_ok (.inr 5) (k) 0 rfl rfl rfl rfl (fun _ h=>Row.rd h) (by omega) (fun _=>rfl) (by omega) l128 (by decide) ?_)
   refine aG ?_
   refine ev_new fun b129=>?_
   refine ev_stop (go_appendE (sz:=1) (M:=[_]) (enc:=encS) Tryz.tbs_ok [2] [] (.inr 6) (M2) ([L[k]]) ((M2)++([L[k]])) (q2+1) rfl rfl rfl rfl rfl rfl rfl (by decide) rfl (by decide) (fun _ p=>starH_one.1 p) rfl (fun _ p=>Pt.rd p rfl) (by first | rfl | simp) (by first | rfl | omega) (aM (q2+1)) (aN (q2+1)) (fun _ _=>aL) (fun A130 c131 h132=>?_))
   refine aG ?_
   refine wN (k+1) ?_
   refine ev_fin (round_next ((k+1,A130,q2+1,c131,M2++[L[k]])) (?_:k+1≤j∧q2+1=(M2++[L[k]]).length∧M2++[L[k]]=List.filter (staleB b') (List.take (k+1) L)∧(List.take (k+1) L).any (oddB b' t)=false) (show j-(k+1)<j-k from (by omega)) aS)
   rotate_left
   refine aG ?_
   refine ev_if_lt (fun h133=>?_) (fun h133=>?_)
   refine aG ?_
   refine ev_if_lt (fun h134=>?_) (fun h134=>?_)
   refine aG ?_
   refine ev_stop (go_atE (sz:=1) Tryz.tbs_ok (k) rfl rfl rfl rfl rfl rfl (by omega) ?_)
   refine aG ?_
   have l135:k<(L).length:=(by omega)
   refine ev_stop (go_loadE Tryz.tbs_ok (.inr 5) (k) 0 rfl rfl rfl rfl (fun _ h=>Row.rd h) (by omega) (fun _=>rfl) (by omega) l135 (by decide) ?_)
   refine aG ?_
   refine ev_new fun b136=>?_
   refine ev_stop (go_appendE (sz:=1) (M:=[_]) (enc:=encS) Tryz.tbs_ok [2] [] (.inr 6) (M2) ([L[k]]) ((M2)++([L[k]])) (q2+1) rfl rfl rfl rfl rfl rfl rfl (by decide) rfl (by decide) (fun _ p=>starH_one.1 p) rfl (fun _ p=>Pt.rd p rfl) (by first | rfl | simp) (by first | rfl | omega) (aM (q2+1)) (aN (q2+1)) (fun _ _=>aL) (fun A137 c138 h139=>?_))
   refine aG ?_
   refine wN (k+1) ?_
   refine ev_fin (round_next ((k+1,A137,q2+1,c138,M2++[L[k]])) (?_:k+1≤j∧q2+1=(M2++[L[k]]).length∧M2++[L[k]]=List.filter (staleB b') (List.take (k+1) L)∧(List.take (k+1) L).any (oddB b' t)=false) (show j-(k+1)<j-k from (by omega)) aS)
   rotate_left
   refine aG ?_
   refine ev_if_lt (fun h140=>?_) (fun h140=>?_)
   refine aG ?_
   refine ev_if_lt (fun h141=>?_) (fun h141=>?_)
   refine aG ?_
   refine ev_stop (go_atE (sz:=1) Tryz.tbs_ok (k) rfl rfl rfl rfl rfl rfl (by omega) ?_)
   refine aG ?_
   have l142:k<(L).length:=(by omega)
   refine ev_stop (go_loadE Tryz.tbs_ok (.inr 5) (k) 0 rfl rfl rfl rfl (fun _ h=>Row.rd h) (by omega) (fun _=>rfl) (by omega) l142 (by decide) ?_)
   refine aG ?_
   refine ev_new fun b143=>?_
   refine ev_stop (go_appendE (sz:=1) (M:=[_]) (enc:=encS) Tryz.tbs_ok [2] [] (.inr 6) (M2) ([L[k]]) ((M2)++([L[k]])) (q2+1) rfl rfl rfl rfl rfl rfl rfl (by decide) rfl (by decide) (fun _ p=>starH_one.1 p) rfl (fun _ p=>Pt.rd p rfl) (by first | rfl | simp) (by first | rfl | omega) (aM (q2+1)) (aN (q2+1)) (fun _ _=>aL) (fun A144 c145 h146=>?_))
   refine aG ?_
   refine wN (k+1) ?_
   refine ev_fin (round_next ((k+1,A144,q2+1,c145,M2++[L[k]])) (?_:k+1≤j∧q2+1=(M2++[L[k]]).length∧M2++[L[k]]=List.filter (staleB b') (List.take (k+1) L)∧(List.take (k+1) L).any (oddB b' t)=false) (show j-(k+1)<j-k from (by omega)) aS)
   rotate_left
   refine aG ?_
   refine aI ?_ (beq_eq_false_iff_ne.2 (show ¬(↑(numM 99 L[k].data.toList):Int)=0 from (by omega)))
   refine ev_if_lt (fun h147=>?_) (fun h147=>?_)
   refine aG ?_
   rotate_left
   refine aG ?_
   refine wN (k+1) ?_
   refine ev_fin (round_next ((k+1,C2,q2,e2,M2)) (?_:k+1≤j∧q2=M2.length∧M2=List.filter (staleB b') (List.take (k+1) L)∧(List.take (k+1) L).any (oddB b' t)=false) (show j-(k+1)<j-k from (by omega)) aS)
   rotate_left
   refine aG ?_
   refine aI ?_ (beq_eq_false_iff_ne.2 (show ¬(↑(numM 99 L[k].data.toList):Int)=0 from (by omega)))
   refine aI ?_ (decide_eq_false (show ¬(↑(numM 115 L[k].data.toList):Int) > (↑(b'+t):Int) from (by omega)))
   refine wN (k+1) ?_
   refine ev_fin (round_next ((k+1,C2,q2,e2,M2)) (?_:k+1≤j∧q2=M2.length∧M2=List.filter (staleB b') (List.take (k+1) L)∧(List.take (k+1) L).any (oddB b' t)=false) (show j-(k+1)<j-k from (by omega)) aS)
   rotate_left
   refine aG ?_
   refine ev_if_lt (fun h148=>?_) (fun h148=>?_)
   refine aG ?_
   refine ev_if_lt (fun h149=>?_) (fun h149=>?_)
   refine aG ?_
   refine ev_stop (go_atE (sz:=1) Tryz.tbs_ok (k) rfl rfl rfl rfl rfl rfl (by omega) ?_)
   refine aG ?_
   have l150:k<(L).length:=(by omega)
   refine ev_stop (go_loadE Tryz.tbs_ok (.inr 5) (k) 0 rfl rfl rfl rfl (fun _ h=>Row.rd h) (by omega) (fun _=>rfl) (by omega) l150 (by decide) ?_)
   refine aG ?_
   refine ev_new fun b151=>?_
   refine ev_stop (go_appendE (sz:=1) (M:=[_]) (enc:=encS) Tryz.tbs_ok [2] [] (.inr 6) (M2) ([L[k]]) ((M2)++([L[k]])) (q2+1) rfl rfl rfl rfl rfl rfl rfl (by decide) rfl (by decide) (fun _ p=>starH_one.1 p) rfl (fun _ p=>Pt.rd p rfl) (by first | rfl | simp) (by first | rfl | omega) (aM (q2+1)) (aN (q2+1)) (fun _ _=>aL) (fun A152 c153 h154=>?_))
   refine aG ?_
   refine wN (k+1) ?_
   refine ev_fin (round_next ((k+1,A152,q2+1,c153,M2++[L[k]])) (?_:k+1≤j∧q2+1=(M2++[L[k]]).length∧M2++[L[k]]=List.filter (staleB b') (List.take (k+1) L)∧(List.take (k+1) L).any (oddB b' t)=false) (show j-(k+1)<j-k from (by omega)) aS)
   rotate_left
   refine aG ?_
   refine aJ ?_ (beq_iff_eq.2 (show (↑(numM 99 L[k].data.toList):Int)=0 from (by omega)))
   refine aI ?_ (beq_eq_false_iff_ne.2 (show ¬(↑(numM 115 L[k].data.toList):Int)=0 from (by omega)))
   refine ev_if_lt (fun h155=>?_) (fun h155=>?_)
   refine aG ?_
   rotate_left
   refine aG ?_
   refine wN (k+1) ?_
   refine ev_fin (round_next ((k+1,C2,q2,e2,M2)) (?_:k+1≤j∧q2=M2.length∧M2=List.filter (staleB b') (List.take (k+1) L)∧(List.take (k+1) L).any (oddB b' t)=false) (show j-(k+1)<j-k from (by omega)) aS)
   rotate_left
   refine aG ?_
   refine aJ ?_ (beq_iff_eq.2 (show (↑(numM 99 L[k].data.toList):Int)=0 from (by omega)))
   refine aJ ?_ (beq_iff_eq.2 (show (↑(numM 115 L[k].data.toList):Int)=0 from (by omega)))
   rotate_left
   all_goals first
    | exact stale_yes (by assumption) hkj hq2 hM2 hO (stale_iff.2 (by first | exact .inl (by assumption) | exact .inr (.inl ⟨by omega,by omega⟩) | exact .inr (.inr ⟨by omega,by omega⟩)))
    | skip
   all_goals have hns:¬ staleB b' L[k]=true:=fun q=>by rcases stale_iff.1 q with q | q | q<;>first | (exact absurd q (by assumption)) | omega
   all_goals first
    | exact stale_no (by assumption) hkj hq2 hM2 hO hns (fun q=>by have:=odd_iff.1 q;omega)
    | skip
   all_goals obtain ⟨ho1,hS1⟩:=hodd (odd_iff.2 ⟨hns,by omega⟩)
   all_goals clear ho hS hodd
   all_goals subst ho1 hS1
   · exact ev_fin ⟨trivial,_,rfl,((none,0,none,0)),rfl,trivial,aF [0,3,4]⟩
   · exact ev_fin ⟨trivial,_,rfl,((none,0,none,0)),rfl,trivial,aF [0,3,4]⟩
   exact ev_fin ⟨trivial,_,rfl,((none,0,none,0)),rfl,trivial,aF [0,3,4]⟩
 obtain rfl:k=j:=by omega
 have f1:L.take k=L:=List.take_of_length_le (Nat.le_of_eq hnn.symm)
 rw [f1] at hM2 hO
 have f2:okN L=true:=by unfold okN;rw [←hb',←hT,hO];rfl
 have f3:S=M2:=by rw [hS,hM2];unfold staleM;rw [f2,if_pos rfl,←hb']
 rw [f2] at ho
 clear hS
 subst f3 ho hq2 hM
 rw [show (if true=true then b' else 0)=b' from rfl,show (if true=true then segsM b' t else [])=segsM b' t from rfl]
 subst hq
 refine aG ?_
 refine aI ?_ (decide_eq_false (show ¬(↑k:Int)<(↑k:Int) from (by omega)))
 refine ev_fin (go Tryz.tbs_ok 1000 ?_)
 refine ev_fin ⟨trivial,_,rfl,((C,e,C2,e2)),?_,trivial,aF [0,1,2]⟩
 exact congrArg (fun z=>Value.tuple #[.int .i64 (b':Nat),.slice C (segsM b' t).length e,.bool z,.slice C2 S.length e2,.bool true]) (show decide (((b'+t:Nat):Int) > (b':Nat))=(true&&decide (0<t)) by rw [Bool.true_and];exact decide_eq_decide.2 (by omega))
def lk (L:List Fl) (x:ByteArray):Option (ByteArray × Int):=(L.find? fun f=>decide (f.n=x)).map fun f=>(f.d,f.s)
theorem lk_mid {A B:List Fl} {f:Fl} (h:∀ g∈A,g.n≠f.n) (z:ByteArray):lk (A++f::B) z=if z=f.n then some (f.d,f.s) else lk (A++B) z:=by
 unfold lk
 by_cases e:z=f.n
 · subst e
   have h1:A.find? (fun g=>decide (g.n=f.n))=none:=List.find?_eq_none.2 fun g hg=>by simpa using h g hg
   rw [List.find?_append,h1,if_pos rfl]
   simp
 rw [List.find?_append,List.find?_append,List.find?_cons_of_neg (by simpa using fun e2=>e e2.symm),if_neg e]
theorem lk_none {L:List Fl} {x:ByteArray}:lk L x=none↔∀ f∈L,f.n≠x:=by
 unfold lk
 rw [Option.map_eq_none_iff,List.find?_eq_none]
 simp
theorem lk_mem {L:List Fl} {x:ByteArray} {v:ByteArray × Int} (h:lk L x=some v):(⟨x,v.1,v.2⟩:Fl)∈L:=by
 unfold lk at h
 obtain ⟨f,hf,rfl⟩:=Option.map_eq_some_iff.1 h
 have h1:=List.mem_of_find?_eq_some hf
 have h2:=List.find?_some hf
 simp only [decide_eq_true_eq] at h2
 subst h2
 exact h1
theorem lk_has {L:List Fl} {x:ByteArray}:hasF L x=(lk L x).isSome:=by
 cases h:lk L x with
 | none=>exact hasF_no.2 (lk_none.1 h)
 | some v=>exact hasF_iff.2 ⟨_,lk_mem h,rfl⟩
theorem rise_ne {A B:List Fl} {f:Fl} (h:riseF (A++f::B)):(∀ g∈A,g.n≠f.n)∧∀ g∈B,g.n≠f.n:=by
 unfold riseF at h
 obtain ⟨h1,h2,h3⟩:=List.pairwise_append.1 h
 exact ⟨fun g hg=>(h3 g hg f List.mem_cons_self).ne,fun g hg=>((List.pairwise_cons.1 h2).1 g hg).ne.symm⟩
theorem lk_of {L:List Fl} (hs:riseF L) {f:Fl} (h:f∈L):lk L f.n=some (f.d,f.s):=by
 obtain ⟨A,B,rfl⟩:=List.append_of_mem h
 rw [lk_mid (rise_ne hs).1,if_pos rfl]
theorem lk_at {L:List Fl} (hs:riseF L) {x:ByteArray} {v:ByteArray × Int} (h:lk L x=some v):∃ hi:posF L x<L.length,L[posF L x]=⟨x,v.1,v.2⟩:=by
 have h1:hasF L x=true:=by rw [lk_has,h];rfl
 obtain ⟨h2,h3⟩:=has_pos hs h1
 refine ⟨h2,?_⟩
 have h4:=lk_of hs (List.getElem_mem h2)
 rw [h3,h] at h4
 cases v
 cases h4
 cases hL:L[posF L x]
 rw [hL] at h3
 simp_all
theorem cut_at {L:List Fl} {i:Nat} (hi:i<L.length):L=L.take i++L[i]::L.drop (i+1):=by
 rw [←List.drop_eq_getElem_cons hi,List.take_append_drop]
theorem set_at {L:List Fl} {i:Nat} (hi:i<L.length) (f:Fl):L.set i f=L.take i++f::L.drop (i+1):=List.set_eq_take_append_cons_drop.trans (if_pos hi)
theorem erase_at {L:List Fl} {i:Nat}:L.eraseIdx i=L.take i++L.drop (i+1):=List.eraseIdx_eq_take_drop_succ _ _
theorem lk_erase {L:List Fl} (hs:riseF L) {x:ByteArray} {v:ByteArray × Int} (h:lk L x=some v) (z:ByteArray):lk (L.eraseIdx (posF L x)) z=if z=x then none else lk L z:=by
 obtain ⟨hi,he⟩:=lk_at hs h
 have hL:=cut_at hi
 have h2:riseF (L.take (posF L x)++L[posF L x]::L.drop (posF L x+1)):=by rw [←hL];exact hs
 rw [erase_at]
 have hn:L[posF L x].n=x:=by rw [he]
 by_cases e:z=x
 · rw [if_pos e,e,lk_none]
   intro f hf
   rw [←hn]
   rcases List.mem_append.1 hf with hf | hf
   · exact (rise_ne h2).1 f hf
   exact (rise_ne h2).2 f hf
 rw [if_neg e]
 conv=>rhs;rw [hL]
 rw [lk_mid (rise_ne h2).1,if_neg (by rw [hn];exact e)]
theorem lk_setF {L:List Fl} (hs:riseF L) {x:ByteArray} {v:ByteArray × Int} (h:lk L x=some v) {g:Fl→Fl} (hg:∀ f,(g f).n=f.n) (z:ByteArray):lk (setF L x g) z=if z=x then some ((g ⟨x,v.1,v.2⟩).d,(g ⟨x,v.1,v.2⟩).s) else lk L z:=by
 obtain ⟨hi,he⟩:=lk_at hs h
 rw [setF_eq hi,he,set_at hi]
 have hL:=cut_at hi
 have h2:riseF (L.take (posF L x)++L[posF L x]::L.drop (posF L x+1)):=by rw [←hL];exact hs
 have hn:L[posF L x].n=x:=by rw [he]
 have h3:=rise_ne h2
 rw [hn] at h3
 rw [lk_mid (by rw [hg];exact h3.1),hg]
 by_cases e:z=x
 · rw [if_pos e,if_pos e]
 rw [if_neg e,if_neg e]
 conv=>rhs;rw [hL]
 rw [lk_mid (rise_ne h2).1,if_neg (by rw [hn];exact e)]
theorem lk_ins {L:List Fl} {f:Fl} (h:hasF L f.n=false) (z:ByteArray):lk (insF L f) z=if z=f.n then some (f.d,f.s) else lk L z:=by
 unfold insF
 rw [lk_mid (fun g hg=>hasF_no.1 h g (List.mem_of_mem_take hg)),List.take_append_drop]
theorem lk_put {L:List Fl} (hs:riseF L) (f:Fl) (z:ByteArray):lk (putFl L f) z=if z=f.n then some (f.d,f.s) else lk L z:=by
 unfold putFl
 cases hh:hasF L f.n with
 | false=>exact lk_ins hh z
 |
  true =>
  rw [if_pos rfl]
  rw [lk_has] at hh
  obtain ⟨v,hv⟩:=Option.isSome_iff_exists.1 hh
  obtain ⟨hi,he⟩:=lk_at hs hv
  have hL:=cut_at hi
  have h2:riseF (L.take (posF L f.n)++L[posF L f.n]::L.drop (posF L f.n+1)):=by rw [←hL];exact hs
  have hn:L[posF L f.n].n=f.n:=by rw [he]
  have h3:=rise_ne h2
  rw [hn] at h3
  rw [set_at hi,lk_mid h3.1]
  by_cases e:z=f.n
  · rw [if_pos e,if_pos e]
  rw [if_neg e,if_neg e]
  conv=>rhs;rw [hL]
  rw [lk_mid (rise_ne h2).1,if_neg (by rw [hn];exact e)]
theorem rise_erase {L:List Fl} (hs:riseF L) (i:Nat):riseF (L.eraseIdx i):=hs.sublist (List.eraseIdx_sublist _ _)
theorem lk_ren {L:List Fl} (hs:riseF L) {x y:ByteArray} {v:ByteArray × Int} (h:lk L x=some v) (z:ByteArray):lk (renF L x y) z=if z=y then some v else if z=x then none else lk L z:=by
 obtain ⟨hi,he⟩:=lk_at hs h
 rw [renF_eq hi,lk_put (rise_erase hs _),lk_erase hs h,he]
theorem lk_app {L:List Fl} (hs:riseF L) (x y:ByteArray) (z:ByteArray):lk (appF L x y) z=if z=x then some ((match lk L x with | some v=>(v.1++y,v.2) | none=>(y,0))) else lk L z:=by
 unfold appF
 cases h:lk L x with
 |
  none =>
  have hh:hasF L x=false:=by rw [lk_has,h];rfl
  rw [if_neg (by rw [hh];decide),lk_ins hh]
 |
  some v =>
  have hh:hasF L x=true:=by rw [lk_has,h];rfl
  rw [if_pos hh,lk_setF hs h (g:=fun f=>⟨f.n,f.d++y,f.s⟩) (fun _=>rfl)]
theorem lk_map {L M:List Fl} {g:Nat→Fl→Fl} (hM:M=L.mapIdx g) (hg:∀ i f,(g i f).n=f.n) (z:ByteArray):lk M z=none∧lk L z=none∨∃ i f,lk L z=some (f.d,f.s)∧f∈L∧lk M z=some ((g i f).d,(g i f).s):=by
 subst hM
 induction L generalizing g with
 | nil=>exact .inl ⟨rfl,rfl⟩
 |
  cons f L ih =>
  rw [List.mapIdx_cons]
  have e1:∀ (f:Fl) (L:List Fl),lk (f::L) z=if z=f.n then some (f.d,f.s) else lk L z:=fun f L=>lk_mid (A:=[]) (fun _ h=>by cases h) z
  rw [e1,e1,hg]
  by_cases e:z=f.n
  · rw [if_pos e,if_pos e]
    exact .inr ⟨0,f,rfl,List.mem_cons_self,rfl⟩
  rw [if_neg e,if_neg e]
  rcases ih (g:=fun i=>g (i+1)) (fun i f=>hg _ f) with h | ⟨i,f',h1,h2,h3⟩
  · exact .inl h
  exact .inr ⟨i+1,f',h1,List.mem_cons_of_mem _ h2,h3⟩
def Kept (v w:ByteArray × Int):Prop:=∃ k:Nat,v.2≤k∧k≤v.1.size∧w=(v.1.extract 0 k,(k:Int))
theorem lk_crash {L:List Fl} (hL:∀ f∈L,0≤f.s∧f.s≤f.d.size) (K:List Int) (z:ByteArray):lk (crashF L K) z=none∧lk L z=none∨∃ v w,lk L z=some v∧lk (crashF L K) z=some w∧Kept v w:=by
 rcases lk_map (M:=crashF L K) (g:=fun i f=>keep1 K[i]? f) rfl (fun i f=>by unfold keep1;split<;>rfl) z with h | ⟨i,f,h1,h2,h3⟩
 · exact .inl h
 refine .inr ⟨_,_,h1,h3,?_⟩
 obtain ⟨h4,h5⟩:=hL f h2
 unfold keep1
 cases K[i]? with
 | none=>exact ⟨f.s.toNat,by simp only;omega,by simp only;omega,Prod.ext rfl (by simp only;omega)⟩
 | some k=>exact ⟨(f.s+max 0 (min k ((f.d.size:Int)-f.s))).toNat,by simp only;omega,by simp only;omega,Prod.ext rfl (by simp only;omega)⟩
structure Lay (N:List ByteArray) (b t:Nat):Prop where
 few:b+t≤999999999
 segs:∀ x∈segsM b t,x∈N
 all:∀ x∈N,x∈segsM b t∨staleB b x=true
theorem nmB_inj {c c':UInt8} {m n:Nat} (h:nmB c m=nmB c' n):c=c'∧m=n:=by
 have:=congrArg (fun x=>x.data.toList) h
 simp only [nmB_list,List.cons.injEq] at this
 exact ⟨this.1,decL_inj this.2⟩
theorem nmB_num {c c':UInt8} {n:Nat} (h:n≤999999999):numM c' (nmB c n).data.toList=if c=c' then n else 0:=by
 rw [nmB_list]
 by_cases e:c=c'
 · subst e
   rw [if_pos rfl]
   rcases Nat.eq_zero_or_pos n with h0 | h0
   · subst h0
     rw [decL_small (by decide),numM,if_neg (fun q=>q.2.2.2 rfl)]
   exact num_name h0 h
 rw [if_neg e,numM,if_neg (fun q=>e q.1)]
theorem segs_mem {b t:Nat} {x:ByteArray}:x∈segsM b t↔(0<b∧x=nmB 99 b)∨∃ i,i<t∧x=nmB 115 (b+1+i):=by
 unfold segsM
 rw [List.mem_append]
 constructor
 · rintro (h | h)
   · split at h
     · rename_i hb
       exact .inl ⟨hb,List.mem_singleton.1 h⟩
     cases h
   obtain ⟨i,hi,rfl⟩:=List.mem_map.1 h
   exact .inr ⟨i,List.mem_range.1 hi,rfl⟩
 rintro (⟨hb,rfl⟩ | ⟨i,hi,rfl⟩)
 · exact .inl (by rw [if_pos hb];exact List.mem_singleton_self _)
 exact .inr (List.mem_map.2 ⟨i,List.mem_range.2 hi,rfl⟩)
theorem stale_num {b:Nat} {x:ByteArray} (h:staleB b x=true):numM 99 x.data.toList≤b∧numM 115 x.data.toList≤b:=by
 rcases stale_iff.1 h with h | ⟨h1,h2⟩ | ⟨h1,h2⟩
 · subst h
   exact ⟨Nat.zero_le _,Nat.zero_le _⟩
 · refine ⟨by omega,?_⟩
   obtain ⟨e,_⟩:=name_num rfl h1
   rw [e,numM,if_neg (fun q=>absurd q.1 (by decide))]
   exact Nat.zero_le _
 refine ⟨?_,by omega⟩
 obtain ⟨e,_⟩:=name_num rfl h1
 rw [e,numM,if_neg (fun q=>absurd q.1 (by decide))]
 exact Nat.zero_le _
theorem seg_num {b t:Nat} (h:b+t≤999999999) {x:ByteArray} (hx:x∈segsM b t):numM 99 x.data.toList≤b∧numM 115 x.data.toList≤b+t∧(numM 99 x.data.toList=b∧0<b∨b<numM 115 x.data.toList):=by
 rcases segs_mem.1 hx with ⟨hb,rfl⟩ | ⟨i,hi,rfl⟩
 · rw [nmB_num (by omega),nmB_num (by omega),if_pos rfl,if_neg (by decide)]
   exact ⟨Nat.le_refl _,by omega,.inl ⟨rfl,hb⟩⟩
 rw [nmB_num (by omega),nmB_num (by omega),if_pos rfl,if_neg (by decide)]
 exact ⟨by omega,by omega,.inr (by omega)⟩
theorem seg_fresh {b t:Nat} (h:b+t≤999999999) {x:ByteArray} (hx:x∈segsM b t):staleB b x=false:=by
 cases hs:staleB b x with
 | false=>rfl
 |
  true =>
  rcases segs_mem.1 hx with ⟨hb,rfl⟩ | ⟨i,hi,rfl⟩
  · rcases stale_iff.1 hs with h | ⟨h1,h2⟩ | ⟨h1,h2⟩
    · have:=congrArg (fun x=>x.data.toList) h
      rw [nmB_list] at this
      simp at this
    · rw [nmB_num (by omega),if_pos rfl] at h2
      omega
    rw [nmB_num (by omega),if_neg (by decide)] at h1
    omega
  rcases stale_iff.1 hs with h | ⟨h1,h2⟩ | ⟨h1,h2⟩
  · have:=congrArg (fun x=>x.data.toList) h
    rw [nmB_list] at this
    simp at this
  · rw [nmB_num (by omega),if_neg (by decide)] at h1
    omega
  rw [nmB_num (by omega),if_pos rfl] at h2
  omega
theorem base_le {N:List ByteArray} {b:Nat} (h:∀ x∈N,numM 99 x.data.toList≤b):baseM N≤b:=by
 unfold baseM
 have:∀ (N:List ByteArray) (a:Nat),a≤b→(∀ x∈N,numM 99 x.data.toList≤b)→N.foldl (fun b s=>max b (numM 99 s.data.toList)) a≤b:=by
  intro N
  induction N with
  | nil=>exact fun _ h _=>h
  | cons x N ih=>exact fun a h1 h2=>ih _ (Nat.max_le.2 ⟨h1,h2 x List.mem_cons_self⟩) fun y hy=>h2 y (List.mem_cons_of_mem _ hy)
 exact this N 0 (Nat.zero_le _) h
theorem base_ge {N:List ByteArray} {x:ByteArray} (h:x∈N):numM 99 x.data.toList≤baseM N:=by
 obtain ⟨j,hj,rfl⟩:=List.getElem_of_mem h
 have h1:=baseM_step hj
 have mono:∀ k,k≤N.length→baseM (N.take k)≤baseM N:=by
  intro k hk
  have:∀ d,k+d≤N.length→baseM (N.take k)≤baseM (N.take (k+d)):=by
   intro d
   induction d with
   | zero=>exact fun _=>Nat.le_refl _
   |
    succ d ih =>
    intro hd
    have:=ih (by omega)
    have h2:=baseM_step (L:=N) (j:=k+d) (by omega)
    rw [show k+(d+1)=k+d+1 by omega,h2]
    omega
  have:=this (N.length-k) (by omega)
  rwa [show k+(N.length-k)=N.length by omega,List.take_length] at this
 have:=mono (j+1) hj
 omega
theorem Lay.base {N:List ByteArray} {b t:Nat} (h:Lay N b t):baseM N=b:=by
 refine Nat.le_antisymm (base_le fun x hx=>?_) ?_
 · rcases h.all x hx with h1 | h1
   · exact (seg_num h.few h1).1
   exact (stale_num h1).1
 rcases Nat.eq_zero_or_pos b with h0 | h0
 · omega
 have:=base_ge (h.segs (nmB 99 b) (segs_mem.2 (.inl ⟨h0,rfl⟩)))
 rwa [nmB_num (by have:=h.few;omega),if_pos rfl] at this
theorem tails_go {N:List ByteArray} {b t:Nat} (h1:∀ i,i<t→nmB 115 (b+1+i)∈N) (h2:¬ (b+t<999999999∧nmB 115 (b+t+1)∈N)) (h3:b+t≤999999999):∀ (k i:Nat),i+k=t→tailsG N b i=t:=by
 intro k
 induction k with
 |
  zero =>
  intro i hi
  obtain rfl:i=t:=hi
  exact tailsG_no fun q=>h2 ⟨q.1,memB_iff.1 q.2⟩
 |
  succ k ih =>
  intro i hi
  rw [tailsG_yes (by omega) (memB_iff.2 (by have:=h1 i (by omega);rwa [show b+1+i=b+i+1 by omega] at this))]
  exact ih (i+1) (by omega)
theorem Lay.tails {N:List ByteArray} {b t:Nat} (h:Lay N b t):tailsM N=t:=by
 unfold tailsM
 rw [h.base]
 refine tails_go (fun i hi=>h.segs _ (segs_mem.2 (.inr ⟨i,hi,rfl⟩))) (fun ⟨q1,q2⟩=>?_) h.few t 0 (by omega)
 rcases h.all _ q2 with h1 | h1
 · have:=(seg_num h.few h1).2.1
   rw [nmB_num (by omega),if_pos rfl] at this
   omega
 have:=(stale_num h1).2
 rw [nmB_num (by omega),if_pos rfl] at this
 omega
theorem Lay.okN {N:List ByteArray} {b t:Nat} (h:Lay N b t):Proofs.YtjlfdfmkofbccaaGreatDoor.okN N=true:=by
 unfold Proofs.YtjlfdfmkofbccaaGreatDoor.okN
 rw [h.base,h.tails]
 simp only [Bool.not_eq_true',List.any_eq_false]
 intro x hx ho
 obtain ⟨h1,h2⟩:=odd_iff.1 ho
 rcases h.all x hx with h3 | h3
 · have:=seg_num h.few h3
   omega
 exact h1 h3
theorem Lay.stale {N:List ByteArray} {b t:Nat} (h:Lay N b t):staleM N=N.filter (staleB b):=by
 unfold staleM
 rw [h.okN,if_pos rfl,h.base]
def Bare (N:List ByteArray) (b t:Nat):Prop:=b+t≤999999999∧∀ x,x∈N↔x∈segsM b t
theorem Bare.lay {N:List ByteArray} {b t:Nat} (h:Bare N b t):Lay N b t:=⟨h.1,fun x hx=>(h.2 x).2 hx,fun x hx=>.inl ((h.2 x).1 hx)⟩
theorem Bare.stale {N:List ByteArray} {b t:Nat} (h:Bare N b t):staleM N=[]:=by
 rw [h.lay.stale,List.filter_eq_nil_iff]
 intro x hx
 rw [seg_fresh h.1 ((h.2 x).1 hx)]
 decide
theorem stale_old {b t n:Nat} {x:ByteArray} (hn:b+t<n) (hn9:n≤999999999) (hx:x∈segsM b t):staleB n x=true:=by
 rcases segs_mem.1 hx with ⟨hb,rfl⟩ | ⟨i,hi,rfl⟩
 · exact stale_iff.2 (.inr (.inl (by rw [nmB_num (by omega),if_pos rfl];omega)))
 exact stale_iff.2 (.inr (.inr (by rw [nmB_num (by omega),if_pos rfl];omega)))
theorem base_mem {L:List ByteArray} (h:0<baseM L):nmB 99 (baseM L)∈L:=by
 have key:∀ (L:List ByteArray) (a:Nat),L.foldl (fun b s=>max b (numM 99 s.data.toList)) a=a∨∃ x∈L,numM 99 x.data.toList=L.foldl (fun b s=>max b (numM 99 s.data.toList)) a:=by
  intro L
  induction L with
  | nil=>exact fun a=>.inl rfl
  |
   cons x L ih =>
   intro a
   rw [List.foldl_cons]
   rcases ih (max a (numM 99 x.data.toList)) with h | ⟨y,hy,h⟩
   · rw [h]
     rcases Nat.le_total a (numM 99 x.data.toList) with h2 | h2
     · exact .inr ⟨x,List.mem_cons_self,(Nat.max_eq_right h2).symm⟩
     exact .inl (Nat.max_eq_left h2)
   exact .inr ⟨y,List.mem_cons_of_mem _ hy,h⟩
 rcases key L 0 with h1 | ⟨x,hx,h1⟩
 · have h1:baseM L=0:=h1
   omega
 have h1:numM 99 x.data.toList=baseM L:=h1
 obtain ⟨e,_⟩:=name_num h1 h
 have:x=nmB 99 (baseM L):=ba_ext (by rw [e,nmB_list])
 rwa [←this]
theorem tails_mem {L:List ByteArray} {b:Nat}:∀ (f i:Nat),999999999-(b+i)≤f→∀ j,i≤j→j<tailsG L b i→nmB 115 (b+j+1)∈L:=by
 intro f
 induction f with
 |
  zero =>
  intro i hf j h1 h2
  rw [tailsG_no (fun q=>by omega)] at h2
  omega
 |
  succ f ih =>
  intro i hf j h1 h2
  by_cases hq:b+i<999999999∧memB L (nmB 115 (b+i+1))=true
  · rcases Nat.lt_or_ge i j with h3 | h3
    · rw [tailsG_yes hq.1 hq.2] at h2
      exact ih (i+1) (by omega) j h3 h2
    obtain rfl:j=i:=by omega
    exact memB_iff.1 hq.2
  rw [tailsG_no hq] at h2
  omega
theorem segs_sub (L:List ByteArray):∀ x∈segsM (baseM L) (tailsM L),x∈L:=fun x hx=>by
 rcases segs_mem.1 hx with ⟨hb,rfl⟩ | ⟨i,hi,rfl⟩
 · exact base_mem hb
 have:=tails_mem _ 0 (Nat.le_refl _) i (Nat.zero_le _) hi
 rwa [show baseM L+i+1=baseM L+1+i by omega] at this
theorem segs_nodup (b t:Nat):(segsM b t).Nodup:=by
 unfold segsM
 rw [List.nodup_append]
 refine ⟨?_,?_,?_⟩
 · split<;>simp
 · refine List.Pairwise.map _ (fun i j hij e=>?_) List.nodup_range
   have:=(nmB_inj e).2
   omega
 intro x hx y hy e
 obtain ⟨i,_,rfl⟩:=List.mem_map.1 hy
 split at hx
 · rw [List.mem_singleton.1 hx] at e
   have:=(nmB_inj e).1
   revert this
   decide
 cases hx
theorem segs_few (L:List ByteArray):(segsM (baseM L) (tailsM L)).length≤L.length:=(segs_nodup _ _).length_le_of_subset (segs_sub L)
def okUpto (t:Nat) (dat:List ByteArray) (i:Nat):Prop:=∀ k x,k<i→dat[k]? = some x→wholeB x=true∨(k+1=dat.length∧0<t)
theorem okUpto_step {t:Nat} {dat:List ByteArray} {i:Nat} (h:okUpto t dat i) {y:ByteArray} (hy:dat[i]? = some y) (h2:wholeB y=true∨(i+1=dat.length∧0<t)):okUpto t dat (i+1):=fun k x hk hx=>by
 rcases Nat.lt_or_ge k i with h3 | h3
 · exact h k x h3 hx
 obtain rfl:k=i:=by omega
 rw [hy] at hx
 cases hx
 exact h2
theorem okUpto_all {t:Nat} {dat:List ByteArray} (h:okUpto t dat dat.length):okSeg t dat=true:=by
 unfold okSeg
 simp only [Bool.and_eq_true,Bool.or_eq_true,decide_eq_true_eq]
 refine ⟨List.all_eq_true.2 fun x hx=>?_,?_⟩
 · rw [List.dropLast_eq_take] at hx
   obtain ⟨k,hk,rfl⟩:=List.mem_take_iff_getElem.1 hx
   rcases h k _ (by omega) (List.getElem?_eq_getElem (by omega)) with h1 | h1
   · exact h1
   omega
 rcases Nat.eq_zero_or_pos t with h0 | h0
 · right
   refine List.all_eq_true.2 fun x hx=>?_
   obtain ⟨k,hk,rfl⟩:=List.getElem_of_mem hx
   rcases h k _ hk (List.getElem?_eq_getElem hk) with h1 | h1
   · exact h1
   omega
 exact .inl h0
theorem whole_no {x:ByteArray} (h:(wholeM x).2<x.size):wholeB x=false:=by
 unfold wholeB
 exact decide_eq_false (by omega)
theorem whole_yes {x:ByteArray} (h:¬ (wholeM x).2<x.size):wholeB x=true:=by
 unfold wholeB
 have:=(whole_len x).2
 exact decide_eq_true (by omega)
set_option maxHeartbeats 4000000 in
theorem openBroke (q:Nat) (D:DK) (hD:okD D) (h:D.down=false) (ho:okN (namesD D)=true) (hs:okSeg (tailsM (namesD D)) (dataD D)=false):Triple Tryz.prog 12 [pP q] [DiskM q D] [TabA] Unit (fun _=>.tuple #[.pointer none,.slice none 0 0,.int .i64 50]) (fun _=>True) (fun _=>[DiskM q D]):=by
 have T1:=startsM q D hD
 have T2:=upM q D hD
 rw [h] at T2
 have T3:=namesM q D hD
 have hfew:=hD.few
 unfold dataD at hs
 obtain ⟨L,hL⟩:∃ L,L=D.files.map nameEG:=⟨_,rfl⟩
 obtain ⟨n,hn⟩:∃ n,n=D.files.length:=⟨_,rfl⟩
 have hnl:n=L.length:=by rw [hL,hn,List.length_map]
 have hLN:namesD D=L:=hL.symm
 rw [hLN] at ho hs
 rw [←hL,←hn] at T3
 have T4:=fun A c=>lookR A L n c hnl (by omega)
 rw [ho] at T4
 have hbt:=last_le L
 obtain ⟨b,hb⟩:∃ b,b=baseM L:=⟨_,rfl⟩
 obtain ⟨t,ht⟩:∃ t,t=tailsM L:=⟨_,rfl⟩
 rw [←hb,←ht] at hbt hs T4
 have T5:=segsT b t (by omega) (by omega)
 obtain ⟨S,hS⟩:∃ S,S=segsM b t:=⟨_,rfl⟩
 rw [←hS] at hs T5
 obtain ⟨m,hm⟩:∃ m,m=S.length:=⟨_,rfl⟩
 rw [←hm] at T5
 have hm1:m≤16:=by rw [hm,hS,hb,ht];have:=segs_few L;omega
 obtain ⟨dat,hdat⟩:∃ dat,dat=S.map fun x=>(readD D x).1:=⟨_,rfl⟩
 rw [←hdat] at hs
 have hdl:dat.length=m:=by rw [hdat,List.length_map,hm]
 have hget:∀ i (hi:i<S.length),dat[i]? = some (readD D S[i]).1:=fun i hi=>by rw [hdat,List.getElem?_map,List.getElem?_eq_getElem hi];rfl
 have hbad:¬ okUpto t dat m:=fun q=>by
  rw [←hdl] at q
  rw [okUpto_all q] at hs
  cases hs
 refine aT Tryz.func12 [vP q] [.fact (DiskM q D)] (fun E=>?_) ⟨trivial,trivial⟩
 refine go_fact (Row 9 1 none 0 0 (([]:List ByteArray).flatMap encS)) (Row.nilE _ _) ?_
 refine aG ?_
 refine aC T1 [0] [] fun _ h0=>?_
 refine ev_new fun b1=>?_
 refine aC T2 [0] [] fun _ h2=>?_
 refine aI ?_
 refine aC T3 [0] [] fun ⟨x3,x4⟩ h5=>?_
 refine aC (T4 (x3) (x4)) [] [.inl 0,.inr 3] fun ⟨x6,x7⟩ h8=>?_
 refine ev_new fun b9=>?_
 refine aI ?_
 refine aC T5 [] [.inl 0] fun ⟨x10,x11⟩ h12=>?_
 refine ev_stop (go_loopR [2,3,4,10,11,12,13,14,15,16,17,18,23,30,33,34,40,43,47,48,49,50,51,52,53,54,55,56,57,58,59,60,61,62,63,64,65,66,67,68,69,70,71,72,73,74,75,76,77,78,79,80,81,82] (fun (i,C,z,e,_,cut,en)=>[(10,vL C z e),(11,.va (.string cut)),(12,vI en),(47,vI (i:Nat))]) (fun (_,C,z,e,M,_)=>[(1,.fact (Row 9 1 C z e (M.flatMap encS)))]) (fun (i,_,z,_,M,_,_)=>i≤m∧z=M.length∧z≤i*2000000∧okUpto t dat i) (fun (i,_)=>m-i) ((0,none,0,0,[],⟨#[]⟩,0):Nat × Option Addr × Nat × Nat × List ByteArray × ByteArray × Int) ⟨Nat.zero_le _,rfl,Nat.zero_le _,fun k x hk=>absurd hk (by omega)⟩ aS (fun x_ h_=>?_))
 obtain ⟨i,C,z,e,M,cut,en⟩:=x_
 obtain ⟨hi,hz,hz2,hup⟩:=h_
 rcases Nat.lt_or_ge i m with him | him
 · have hiS:i<S.length:=by omega
   obtain ⟨x,hx⟩:∃ x,x=(readD D S[i]).1:=⟨_,rfl⟩
   have hxs:=read_size hD S[i]
   have hgx:=hget i hiS
   have T6:=readM q D S[i] hD
   rw [←hx] at hxs hgx T6
   have T7:=wholeT x (by omega)
   have hwl:=whole_len x
   have hzl:z+(wholeM x).1.length≤(i+1)*2000000:=by rw [Nat.succ_mul];omega
   have hzm:z+(wholeM x).1.length≤100000000:=by have:(i+1)*2000000≤16*2000000:=Nat.mul_le_mul_right _ (by omega);omega
   refine aG ?_
   refine aJ ?_ (decide_eq_true (show (↑i:Int)<(↑m:Int) from (by omega)))
   refine ev_stop (go_index0 (sz:=1) Tryz.tbs_ok (.inr 6) (i) rfl rfl rfl rfl rfl rfl (by omega) rfl Row.at0 (fun g60 e61=>?_))
   subst e61
   refine aG ?_
   have l62:i<(S).length:=(by omega)
   refine ev_stop (go_loadE Tryz.tbs_ok (.inr 6) (i) 0 rfl rfl rfl rfl (fun _ h=>Row.rd h) (by omega) (fun _=>rfl) (by omega) l62 (by decide) ?_)
   refine aG ?_
   refine aC T6 [0] [] fun _ h63=>?_
   refine aC T7 [] [] fun ⟨x64,x65⟩ h66=>?_
   refine ev_if_lt (fun h67=>?_) (fun h67=>?_)
   refine aG ?_
   refine wO (m-1) ?_
   refine ev_if_lt (fun h68=>?_) (fun h68=>?_)
   refine aG ?_
   exact ev_fin ⟨trivial,_,rfl,(),rfl,trivial,aF [0]⟩
   refine aG ?_
   refine ev_if_eq (fun h69=>?_) (fun h69=>?_)
   refine aG ?_
   exact ev_fin ⟨trivial,_,rfl,(),rfl,trivial,aF [0]⟩
   refine aG ?_
   refine ev_stop (go_appendE (sz:=1) (M:=[_]) (enc:=encS) Tryz.tbs_ok [1] [] (.inr 7) (M) ((wholeM x).fst) ((M)++((wholeM x).fst)) (z+(wholeM x).fst.length) rfl rfl rfl rfl rfl rfl rfl (by decide) rfl (by decide) (fun _ p=>starH_one.1 p) rfl (fun _ h=>Row.rd h) (by first | rfl | simp) (by first | rfl | omega) (aM (z+(wholeM x).fst.length)) (aN (z+(wholeM x).fst.length)) (fun _ _=>aL) (fun A70 c71 h72=>?_))
   refine aG ?_
   refine wN (i+1) ?_
   refine ev_fin (round_next ((i+1,A70,z+(wholeM x).fst.length,c71,M++(wholeM x).fst,S[i],(↑(wholeM x).snd:Int))) (?_:i+1≤m∧z+(wholeM x).fst.length=(M++(wholeM x).fst).length∧z+(wholeM x).fst.length≤(i+1)*2000000∧okUpto t dat (i+1)) (show m-(i+1)<m-i from (by omega)) aS)
   rotate_left
   refine aG ?_
   refine ev_stop (go_appendE (sz:=1) (M:=[_]) (enc:=encS) Tryz.tbs_ok [1] [] (.inr 7) (M) ((wholeM x).fst) ((M)++((wholeM x).fst)) (z+(wholeM x).fst.length) rfl rfl rfl rfl rfl rfl rfl (by decide) rfl (by decide) (fun _ p=>starH_one.1 p) rfl (fun _ h=>Row.rd h) (by first | rfl | simp) (by first | rfl | omega) (aM (z+(wholeM x).fst.length)) (aN (z+(wholeM x).fst.length)) (fun _ _=>aL) (fun A73 c74 h75=>?_))
   refine aG ?_
   refine wN (i+1) ?_
   refine ev_fin (round_next ((i+1,A73,z+(wholeM x).fst.length,c74,M++(wholeM x).fst,cut,en)) (?_:i+1≤m∧z+(wholeM x).fst.length=(M++(wholeM x).fst).length∧z+(wholeM x).fst.length≤(i+1)*2000000∧okUpto t dat (i+1)) (show m-(i+1)<m-i from (by omega)) aS)
   rotate_left
   · exact ⟨by omega,by rw [List.length_append,hz],hzl,okUpto_step hup hgx (.inr ⟨by omega,by omega⟩)⟩
   exact ⟨by omega,by rw [List.length_append,hz],hzl,okUpto_step hup hgx (.inl (whole_yes (by omega)))⟩
 obtain rfl:i=m:=by omega
 exact absurd hup hbad
theorem appW_ask {W:WK} {D:DK} {ps:List ByteArray} (h:askW W.s W.bad D=41):appW W D ps=(W,D,41):=by
 unfold appW
 rw [h,if_pos (by decide)]
theorem appW_long {W:WK} {D:DK} {ps:List ByteArray} (h:askW W.s W.bad D=0) (h1:(framedM ps).2≠0):appW W D ps=(W,D,(framedM ps).2):=by
 unfold appW
 rw [h,if_neg (by decide),if_pos h1]
theorem appW_none {W:WK} {D:DK} (h:askW W.s W.bad D=0):appW W D []=(W,D,0):=by
 unfold appW
 rw [h,if_neg (by decide),if_neg (by simp [framedM]),if_pos rfl]
theorem appW_some {W:WK} {D:DK} {ps:List ByteArray} (h:askW W.s W.bad D=0) (h1:(framedM ps).2=0) (h2:ps≠[]):appW W D ps =
 if 0<W.t∧(readD D (nmB 115 (W.b+W.t))).1.size<16384 then
  let r:=appD D (nmB 115 (W.b+W.t)) (framedM ps).1
  (⟨W.s,W.bad || badE r.2,W.b,W.t⟩,r.1,r.2)
 else
  let r:=if 0<W.t then syncD D (nmB 115 (W.b+W.t)) else (D,0)
  if r.2≠0 then (⟨W.s,W.bad || badE r.2,W.b,W.t⟩,r.1,r.2)
  else if 15≤r.1.files.length∨999999999≤W.b+W.t then (W,r.1,40)
  else
   let r2:=appD r.1 (nmB 115 (W.b+W.t+1)) (framedM ps).1
   (⟨W.s,W.bad || badE r2.2,W.b,if r2.2=0 then W.t+1 else W.t⟩,r2.1,r2.2):=by
 rw [appW,h,if_neg (by decide),if_neg (by simpa using h1),if_neg h2]
abbrev AppT (p q:Nat) (A:Option Addr) (np cp:Nat) (ps:List ByteArray) (s:Int) (bad:Bool) (b t:Nat) (D:DK) (R:WK × DK × Int):Prop :=
 Triple Tryz.prog 19 [pP p,.slice A np cp] [Pt p 49 [pP q,.int .i64 s,.bool bad,.int .i64 (b:Nat),.int .i64 (t:Nat)],DiskM q D] [TabA,Rd 1 A np (ps.flatMap encS)] Unit (fun _=>.int .i64 R.2.2) (fun _=>True) (fun _=>[Pt p 49 [pP q,.int .i64 R.1.s,.bool R.1.bad,.int .i64 (R.1.b:Nat),.int .i64 (R.1.t:Nat)],DiskM q R.2.1])
theorem nmB_pos (c:UInt8) (n:Nat):0<(nmB c n).size:=by
 unfold nmB
 rw [ByteArray.size_append]
 show 0<1+_
 omega
theorem bad_zero (bad:Bool):(bad || badE 0)=bad:=by simp [badE]
set_option maxHeartbeats 8000000 in
theorem appWT (p q:Nat) (W:WK) (D:DK) (A:Option Addr) (ps:List ByteArray) (np cp:Nat) (hp:np=ps.length) (hp1:np≤10000) (hp2:∀ p∈ps,p.size≤900000000) (hD:okD D) (hW:okW W) :
 Triple Tryz.prog 19 [pP p,.slice A np cp] [WalM p q W,DiskM q D] [TabA,Rd 1 A np (ps.flatMap encS)] Unit (fun _=>.int .i64 (appW W D ps).2.2) (fun _=>True) (fun _=>[WalM p q (appW W D ps).1,DiskM q (appW W D ps).2.1]):=by
 obtain ⟨s,bad,b,t⟩:=W
 replace hW:b+t≤999999999:=hW
 have TA:=askT p q s bad b t D hD
 have TE:=endT p q s bad b t hW
 have TF:=framedT A ps np cp hp hp1 hp2
 obtain ⟨R,hR⟩:∃ R,R=appW ⟨s,bad,b,t⟩ D ps:=⟨_,rfl⟩
 unfold WalM ptW
 unfold ptW at TA TE
 rw [←hR]
 show AppT p q A np cp ps s bad b t D R
 rcases ask_cases s bad D with h | h
 · rw [h] at TA
   by_cases hf:(framedM ps).2=0
   · rw [hf] at TF
     have hF:=framed_size hf
     by_cases hn:ps=[]
     · subst hn
       rw [appW_none h] at hR
       subst hR
       have h0:np=0:=hp
       refine aT Tryz.func19 [.pt 0 p 0,vL A np cp] [.box p 49 [vP q,vI s,.bq bad,vI (b:Nat),vI (t:Nat)],.fact (DiskM q D)] (fun E=>?_) ⟨rfl,trivial,trivial⟩
       refine aG ?_
       refine aD TA [0,1] [] (fun v0_=>[.box (p) 49 [vP q,vI s,.bq (bad),vI ↑b,vI ↑t],.fact (DiskM q D)]) fun _ h0=>?_
       refine aI ?_
       refine aC TF [] [.inl 1] fun _ h1=>?_
       refine aI ?_
       refine aJ ?_ (beq_iff_eq.2 (show (↑np:Int)=0 from (by omega)))
       exact ev_fin ⟨trivial,_,rfl,(),rfl,trivial,aF [0,1]⟩
     have hnp:0<np:=by rw [hp];exact List.length_pos_iff.2 hn
     rw [appW_some h hf hn] at hR
     obtain ⟨F,hFe⟩:∃ F,F=(framedM ps).1:=⟨_,rfl⟩
     rw [←hFe] at hR hF TF
     have hF2:F.size≤100000000:=by rw [←hp] at hF;omega
     dsimp only at hR
     have TL:=Proofs.YtjlfdfmkofbccaaGreatDoor.lastT b t (by omega)
     have TI:=fun h=>itoaT (b+t+1) h
     have hz:=fun h=>decB_size (b+t+1) h
     have h115:(⟨#[115]⟩:ByteArray).size=1:=rfl
     obtain ⟨f,hfe⟩:∃ f:DK→DK × Int,f=fun D=>appD D (nmB 115 (b+t+1)) F:=⟨_,rfl⟩
     have TP:Triple Tryz.prog 51 [pP p,.string (⟨#[115]⟩++decB (b+t+1)),.string F] [] [] FnV (fun v=>.func (.func v.1) #[] v.2) (fun _=>True) (fun v=>[ChgA p q s b t v f]):=by
      rw [hfe]
      exact putF p q s b t (nmB 115 (b+t+1)) F hF2
     have TO:=fun bx va vc=>one1 p q s b t bx va vc f
     have hfa:∀ D,appD D (nmB 115 (b+t+1)) F=f D:=fun D=>by rw [hfe]
     simp only [hfa] at hR
     clear hfa
     by_cases ht:t=0
     · subst ht
       simp only [Nat.lt_irrefl,if_false,false_and,ne_eq,not_true_eq_false] at hR
       have e0:endM b 0 = .empty:=rfl
       rw [e0] at TE
       have TN:=namesM q D hD
       by_cases hful:15≤D.files.length∨999999999≤b+0
       · rw [if_pos hful] at hR
         subst hR
         refine aT Tryz.func19 [.pt 0 p 0,vL A np cp] [.box p 49 [vP q,vI s,.bq bad,vI (b:Nat),vI ((0:Nat):Int)],.fact (DiskM q D)] (fun E=>?_) ⟨rfl,trivial,trivial⟩
         by_cases h15:15≤D.files.length
         · refine aG ?_
           refine aD TA [0,1] [] (fun v0_=>[.box (p) 49 [vP q,vI s,.bq (bad),vI ↑b,vI ↑0],.fact (DiskM q D)]) fun _ h0=>?_
           refine aI ?_
           refine aC TF [] [.inl 1] fun _ h1=>?_
           refine aI ?_
           refine aI ?_ (beq_eq_false_iff_ne.2 (show ¬(↑np:Int)=0 from (by omega)))
           refine aD TE [0] [.inl 0] (fun v0_=>[.box (p) 49 [vP q,vI s,.bq (bad),vI ↑b,vI ↑0]]) fun _ h2=>?_
           refine aI ?_
           refine aC TN [1] [] fun ⟨x3,x4⟩ h5=>?_
           refine aJ ?_ (decide_eq_true (show (↑D.files.length:Int) ≥ 15 from (by omega)))
           exact ev_fin ⟨trivial,_,rfl,(),rfl,trivial,aF [0,1]⟩
         have h99:999999999≤b+0:=by omega
         refine aG ?_
         refine aD TA [0,1] [] (fun v0_=>[.box (p) 49 [vP q,vI s,.bq (bad),vI ↑b,vI ↑0],.fact (DiskM q D)]) fun _ h0=>?_
         refine aI ?_
         refine aC TF [] [.inl 1] fun _ h1=>?_
         refine aI ?_
         refine aI ?_ (beq_eq_false_iff_ne.2 (show ¬(↑np:Int)=0 from (by omega)))
         refine aD TE [0] [.inl 0] (fun v0_=>[.box (p) 49 [vP q,vI s,.bq (bad),vI ↑b,vI ↑0]]) fun _ h2=>?_
         refine aI ?_
         refine aC TN [1] [] fun ⟨x3,x4⟩ h5=>?_
         refine aI ?_ (decide_eq_false (show ¬(↑D.files.length:Int) ≥ 15 from (by omega)))
         refine aC TL [] [] fun _ h6=>?_
         refine aJ ?_ (decide_eq_true (show (↑(b+0):Int) ≥ 999999999 from (by omega)))
         exact ev_fin ⟨trivial,_,rfl,(),rfl,trivial,aF [0,1]⟩
       rw [if_neg hful] at hR
       have TD:=fun ia ic=>doA p q s bad b ((0:Nat):Int) ia ic [f] D hD
       rw [run_one] at TD
       unfold ptW at TD
       obtain ⟨G,hG⟩:∃ G,G=f D:=⟨_,rfl⟩
       rw [←hG] at TD hR
       obtain ⟨bd,hbd⟩:∃ bd,bd=(bad || badE G.2):=⟨_,rfl⟩
       rw [←hbd] at TD hR
       have h15:¬ 15≤D.files.length:=fun q=>hful (.inl q)
       have h99:¬ 999999999≤b+0:=fun q=>hful (.inr q)
       by_cases hg:G.2=0
       · rw [hg] at TD hR
         rw [if_pos rfl] at hR
         subst hR
         refine aT Tryz.func19 [.pt 0 p 0,vL A np cp] [.box p 49 [vP q,vI s,.bq bad,vI (b:Nat),vI ((0:Nat):Int)],.fact (DiskM q D)] (fun E=>?_) ⟨rfl,trivial,trivial⟩
         refine aG ?_
         refine aD TA [0,1] [] (fun v0_=>[.box (p) 49 [vP q,vI s,.bq (bad),vI ↑b,vI ↑0],.fact (DiskM q D)]) fun _ h0=>?_
         refine aI ?_
         refine aC TF [] [.inl 1] fun _ h1=>?_
         refine aI ?_
         refine aI ?_ (beq_eq_false_iff_ne.2 (show ¬(↑np:Int)=0 from (by omega)))
         refine aD TE [0] [.inl 0] (fun v0_=>[.box (p) 49 [vP q,vI s,.bq (bad),vI ↑b,vI ↑0]]) fun _ h2=>?_
         refine aI ?_
         refine aC TN [1] [] fun ⟨x3,x4⟩ h5=>?_
         refine aI ?_ (decide_eq_false (show ¬(↑D.files.length:Int) ≥ 15 from (by omega)))
         refine aC TL [] [] fun _ h6=>?_
         refine aI ?_ (decide_eq_false (show ¬(↑(b+0):Int) ≥ 999999999 from (by omega)))
         refine aC TL [] [] fun _ h7=>?_
         refine wN (b+0+1) ?_
         refine aC (TI (show b+0+1≤9223372036854775807 from (by omega))) [] [.inl 0] fun _ h8=>?_
         refine ev_stop (go_bin (.va _) trivial rfl rfl rfl rfl rfl (by decide) (by decide) (fun w=>cat_run (by omega) w) ?_)
         refine aG ?_
         refine aC TP [] [] fun ⟨x9,x10⟩ h11=>?_
         refine ev_new fun b12=>?_
         refine aC (TO (b12) (x9) (x10)) [3,4] [] fun ⟨x13,x14⟩ h15=>?_
         refine aD (TD (x13) (x14)) [0,3,1] [.inl 0] (fun v0_=>[.box (p) 49 [vP q,vI s,.bq (bd),vI ↑b,vI ↑0],.fact (DiskM q G.fst)]) fun _ h16=>?_
         refine aJ ?_
         refine wN (0+1) ?_
         exact ev_fin ⟨trivial,_,rfl,(),rfl,trivial,aF [0,3]⟩
       rw [if_neg hg] at hR
       subst hR
       refine aT Tryz.func19 [.pt 0 p 0,vL A np cp] [.box p 49 [vP q,vI s,.bq bad,vI (b:Nat),vI ((0:Nat):Int)],.fact (DiskM q D)] (fun E=>?_) ⟨rfl,trivial,trivial⟩
       refine aG ?_
       refine aD TA [0,1] [] (fun v0_=>[.box (p) 49 [vP q,vI s,.bq (bad),vI ↑b,vI ↑0],.fact (DiskM q D)]) fun _ h0=>?_
       refine aI ?_
       refine aC TF [] [.inl 1] fun _ h1=>?_
       refine aI ?_
       refine aI ?_ (beq_eq_false_iff_ne.2 (show ¬(↑np:Int)=0 from (by omega)))
       refine aD TE [0] [.inl 0] (fun v0_=>[.box (p) 49 [vP q,vI s,.bq (bad),vI ↑b,vI ↑0]]) fun _ h2=>?_
       refine aI ?_
       refine aC TN [1] [] fun ⟨x3,x4⟩ h5=>?_
       refine aI ?_ (decide_eq_false (show ¬(↑D.files.length:Int) ≥ 15 from (by omega)))
       refine aC TL [] [] fun _ h6=>?_
       refine aI ?_ (decide_eq_false (show ¬(↑(b+0):Int) ≥ 999999999 from (by omega)))
       refine aC TL [] [] fun _ h7=>?_
       refine wN (b+0+1) ?_
       refine aC (TI (show b+0+1≤9223372036854775807 from (by omega))) [] [.inl 0] fun _ h8=>?_
       refine ev_stop (go_bin (.va _) trivial rfl rfl rfl rfl rfl (by decide) (by decide) (fun w=>cat_run (by omega) w) ?_)
       refine aG ?_
       refine aC TP [] [] fun ⟨x9,x10⟩ h11=>?_
       refine ev_new fun b12=>?_
       refine aC (TO (b12) (x9) (x10)) [3,4] [] fun ⟨x13,x14⟩ h15=>?_
       refine aD (TD (x13) (x14)) [0,3,1] [.inl 0] (fun v0_=>[.box (p) 49 [vP q,vI s,.bq (bd),vI ↑b,vI ↑0],.fact (DiskM q G.fst)]) fun _ h16=>?_
       refine aI ?_ (beq_eq_false_iff_ne.2 (by with_reducible assumption))
       exact ev_fin ⟨trivial,_,rfl,(),rfl,trivial,aF [0,3]⟩
     have ht0:0<t:=by omega
     have e0:endM b t=nmB 115 (b+t):=by unfold endM;rw [if_neg ht]
     rw [e0] at TE
     obtain ⟨la,hla⟩:∃ la,la=nmB 115 (b+t):=⟨_,rfl⟩
     have hlz:0<la.size:=by rw [hla];exact nmB_pos _ _
     have hle:¬ la=(⟨#[]⟩:ByteArray):=fun q=>by rw [q] at hlz;exact absurd hlz (by decide)
     rw [←hla] at TE hR
     have TZ:=sizeW p q s bad b t D la hD
     unfold ptW at TZ
     obtain ⟨z,hz1⟩:∃ z,z=(readD D la).1.size:=⟨_,rfl⟩
     rw [←hz1] at TZ hR
     by_cases hz2:z<16384
     · rw [if_pos ⟨ht0,hz2⟩] at hR
       obtain ⟨g,hge⟩:∃ g:DK→DK × Int,g=fun D=>appD D la F:=⟨_,rfl⟩
       have TP2:=putF p q s b t la F hF2
       rw [←hge] at TP2
       have TO2:=fun bx va vc=>one1 p q s b t bx va vc g
       have TD:=fun ia ic=>doA p q s bad b t ia ic [g] D hD
       rw [run_one] at TD
       unfold ptW at TD
       rw [show appD D la F=g D by rw [hge]] at hR
       obtain ⟨G,hG⟩:∃ G,G=g D:=⟨_,rfl⟩
       rw [←hG] at TD hR
       obtain ⟨bd,hbd⟩:∃ bd,bd=(bad || badE G.2):=⟨_,rfl⟩
       rw [←hbd] at TD hR
       subst hR
       refine aT Tryz.func19 [.pt 0 p 0,vL A np cp] [.box p 49 [vP q,vI s,.bq bad,vI (b:Nat),vI (t:Nat)],.fact (DiskM q D)] (fun E=>?_) ⟨rfl,trivial,trivial⟩
       refine aG ?_
       refine aD TA [0,1] [] (fun v0_=>[.box (p) 49 [vP q,vI s,.bq (bad),vI ↑b,vI ↑t],.fact (DiskM q D)]) fun _ h0=>?_
       refine aI ?_
       refine aC TF [] [.inl 1] fun _ h1=>?_
       refine aI ?_
       refine aI ?_ (beq_eq_false_iff_ne.2 (show ¬(↑np:Int)=0 from (by omega)))
       refine aD TE [0] [.inl 0] (fun v0_=>[.box (p) 49 [vP q,vI s,.bq (bad),vI ↑b,vI ↑t]]) fun _ h2=>?_
       refine aJ ?_ (dec_yes (by with_reducible assumption))
       refine aD TZ [0,1] [] (fun v0_=>[.box (p) 49 [vP q,vI s,.bq (bad),vI ↑b,vI ↑t],.fact (DiskM q D)]) fun _ h3=>?_
       refine aJ ?_ (decide_eq_true (show (↑z:Int)<16384 from (by omega)))
       refine aC TP2 [] [] fun ⟨x4,x5⟩ h6=>?_
       refine ev_new fun b7=>?_
       refine aC (TO2 (b7) (x4) (x5)) [2,3] [] fun ⟨x8,x9⟩ h10=>?_
       refine aD (TD (x8) (x9)) [0,2,1] [.inl 0] (fun v0_=>[.box (p) 49 [vP q,vI s,.bq (bd),vI ↑b,vI ↑t],.fact (DiskM q G.fst)]) fun _ h11=>?_
       exact ev_fin ⟨trivial,_,rfl,(),rfl,trivial,aF [0,2]⟩
     rw [if_neg (fun q=>hz2 q.2),if_pos ht0] at hR
     obtain ⟨g,hge⟩:∃ g:DK→DK × Int,g=fun D=>syncD D la:=⟨_,rfl⟩
     have TP2:=syncF p q s b t la
     rw [←hge] at TP2
     have TO2:=fun bx va vc=>one1 p q s b t bx va vc g
     have TD2:=fun ia ic=>doA p q s bad b t ia ic [g] D hD
     rw [run_one] at TD2
     unfold ptW at TD2
     have hD1:okD (g D).1:=by rw [hge];exact sync_ok hD _
     rw [show syncD D la=g D by rw [hge]] at hR
     obtain ⟨D1,hG1⟩:∃ D1,D1=g D:=⟨_,rfl⟩
     rw [←hG1] at TD2 hR hD1
     by_cases hg:D1.2=0
     · rw [hg,bad_zero] at TD2
       rw [if_neg (by simpa using hg)] at hR
       have TN:=namesM q D1.1 hD1
       by_cases hful:15≤D1.1.files.length∨999999999≤b+t
       · rw [if_pos hful] at hR
         subst hR
         refine aT Tryz.func19 [.pt 0 p 0,vL A np cp] [.box p 49 [vP q,vI s,.bq bad,vI (b:Nat),vI (t:Nat)],.fact (DiskM q D)] (fun E=>?_) ⟨rfl,trivial,trivial⟩
         by_cases h15:15≤D1.1.files.length
         · refine aG ?_
           refine aD TA [0,1] [] (fun v0_=>[.box (p) 49 [vP q,vI s,.bq (bad),vI ↑b,vI ↑t],.fact (DiskM q D)]) fun _ h0=>?_
           refine aI ?_
           refine aC TF [] [.inl 1] fun _ h1=>?_
           refine aI ?_
           refine aI ?_ (beq_eq_false_iff_ne.2 (show ¬(↑np:Int)=0 from (by omega)))
           refine aD TE [0] [.inl 0] (fun v0_=>[.box (p) 49 [vP q,vI s,.bq (bad),vI ↑b,vI ↑t]]) fun _ h2=>?_
           refine aJ ?_ (dec_yes (by with_reducible assumption))
           refine aD TZ [0,1] [] (fun v0_=>[.box (p) 49 [vP q,vI s,.bq (bad),vI ↑b,vI ↑t],.fact (DiskM q D)]) fun _ h3=>?_
           refine aI ?_ (decide_eq_false (show ¬(↑z:Int)<16384 from (by omega)))
           refine aC TP2 [] [] fun ⟨x4,x5⟩ h6=>?_
           refine ev_new fun b7=>?_
           refine aC (TO2 (b7) (x4) (x5)) [2,3] [] fun ⟨x8,x9⟩ h10=>?_
           refine aD (TD2 (x8) (x9)) [0,2,1] [.inl 0] (fun v0_=>[.box (p) 49 [vP q,vI s,.bq (bad),vI ↑b,vI ↑t],.fact (DiskM q D1.fst)]) fun _ h11=>?_
           refine aI ?_
           refine aC TN [2] [] fun ⟨x12,x13⟩ h14=>?_
           refine aJ ?_ (decide_eq_true (show (↑D1.fst.files.length:Int) ≥ 15 from (by omega)))
           exact ev_fin ⟨trivial,_,rfl,(),rfl,trivial,aF [0,2]⟩
         have h99:999999999≤b+t:=by omega
         refine aG ?_
         refine aD TA [0,1] [] (fun v0_=>[.box (p) 49 [vP q,vI s,.bq (bad),vI ↑b,vI ↑t],.fact (DiskM q D)]) fun _ h0=>?_
         refine aI ?_
         refine aC TF [] [.inl 1] fun _ h1=>?_
         refine aI ?_
         refine aI ?_ (beq_eq_false_iff_ne.2 (show ¬(↑np:Int)=0 from (by omega)))
         refine aD TE [0] [.inl 0] (fun v0_=>[.box (p) 49 [vP q,vI s,.bq (bad),vI ↑b,vI ↑t]]) fun _ h2=>?_
         refine aJ ?_ (dec_yes (by with_reducible assumption))
         refine aD TZ [0,1] [] (fun v0_=>[.box (p) 49 [vP q,vI s,.bq (bad),vI ↑b,vI ↑t],.fact (DiskM q D)]) fun _ h3=>?_
         refine aI ?_ (decide_eq_false (show ¬(↑z:Int)<16384 from (by omega)))
         refine aC TP2 [] [] fun ⟨x4,x5⟩ h6=>?_
         refine ev_new fun b7=>?_
         refine aC (TO2 (b7) (x4) (x5)) [2,3] [] fun ⟨x8,x9⟩ h10=>?_
         refine aD (TD2 (x8) (x9)) [0,2,1] [.inl 0] (fun v0_=>[.box (p) 49 [vP q,vI s,.bq (bad),vI ↑b,vI ↑t],.fact (DiskM q D1.fst)]) fun _ h11=>?_
         refine aI ?_
         refine aC TN [2] [] fun ⟨x12,x13⟩ h14=>?_
         refine aI ?_ (decide_eq_false (show ¬(↑D1.fst.files.length:Int) ≥ 15 from (by omega)))
         refine aC TL [] [] fun _ h15=>?_
         refine aJ ?_ (decide_eq_true (show (↑(b+t):Int) ≥ 999999999 from (by omega)))
         exact ev_fin ⟨trivial,_,rfl,(),rfl,trivial,aF [0,2]⟩
       rw [if_neg hful] at hR
       have TD:=fun ia ic=>doA p q s bad b t ia ic [f] D1.1 hD1
       rw [run_one] at TD
       unfold ptW at TD
       obtain ⟨G,hG⟩:∃ G,G=f D1.1:=⟨_,rfl⟩
       rw [←hG] at TD hR
       obtain ⟨bd,hbd⟩:∃ bd,bd=(bad || badE G.2):=⟨_,rfl⟩
       rw [←hbd] at TD hR
       have h15:¬ 15≤D1.1.files.length:=fun q=>hful (.inl q)
       have h99:¬ 999999999≤b+t:=fun q=>hful (.inr q)
       by_cases hg:G.2=0
       · rw [hg] at TD hR
         rw [if_pos rfl] at hR
         subst hR
         refine aT Tryz.func19 [.pt 0 p 0,vL A np cp] [.box p 49 [vP q,vI s,.bq bad,vI (b:Nat),vI (t:Nat)],.fact (DiskM q D)] (fun E=>?_) ⟨rfl,trivial,trivial⟩
         refine aG ?_
         refine aD TA [0,1] [] (fun v0_=>[.box (p) 49 [vP q,vI s,.bq (bad),vI ↑b,vI ↑t],.fact (DiskM q D)]) fun _ h0=>?_
         refine aI ?_
         refine aC TF [] [.inl 1] fun _ h1=>?_
         refine aI ?_
         refine aI ?_ (beq_eq_false_iff_ne.2 (show ¬(↑np:Int)=0 from (by omega)))
         refine aD TE [0] [.inl 0] (fun v0_=>[.box (p) 49 [vP q,vI s,.bq (bad),vI ↑b,vI ↑t]]) fun _ h2=>?_
         refine aJ ?_ (dec_yes (by with_reducible assumption))
         refine aD TZ [0,1] [] (fun v0_=>[.box (p) 49 [vP q,vI s,.bq (bad),vI ↑b,vI ↑t],.fact (DiskM q D)]) fun _ h3=>?_
         refine aI ?_ (decide_eq_false (show ¬(↑z:Int)<16384 from (by omega)))
         refine aC TP2 [] [] fun ⟨x4,x5⟩ h6=>?_
         refine ev_new fun b7=>?_
         refine aC (TO2 (b7) (x4) (x5)) [2,3] [] fun ⟨x8,x9⟩ h10=>?_
         refine aD (TD2 (x8) (x9)) [0,2,1] [.inl 0] (fun v0_=>[.box (p) 49 [vP q,vI s,.bq (bad),vI ↑b,vI ↑t],.fact (DiskM q D1.fst)]) fun _ h11=>?_
         refine aI ?_
         refine aC TN [2] [] fun ⟨x12,x13⟩ h14=>?_
         refine aI ?_ (decide_eq_false (show ¬(↑D1.fst.files.length:Int) ≥ 15 from (by omega)))
         refine aC TL [] [] fun _ h15=>?_
         refine aI ?_ (decide_eq_false (show ¬(↑(b+t):Int) ≥ 999999999 from (by omega)))
         refine aC TL [] [] fun _ h16=>?_
         refine wN (b+t+1) ?_
         refine aC (TI (show b+t+1≤9223372036854775807 from (by omega))) [] [.inl 0] fun _ h17=>?_
         refine ev_stop (go_bin (.va _) trivial rfl rfl rfl rfl rfl (by decide) (by decide) (fun w=>cat_run (by omega) w) ?_)
         refine aG ?_
         refine aC TP [] [] fun ⟨x18,x19⟩ h20=>?_
         refine ev_new fun b21=>?_
         refine aC (TO (b21) (x18) (x19)) [5,6] [] fun ⟨x22,x23⟩ h24=>?_
         refine aD (TD (x22) (x23)) [0,5,2] [.inl 0] (fun v0_=>[.box (p) 49 [vP q,vI s,.bq (bd),vI ↑b,vI ↑t],.fact (DiskM q G.fst)]) fun _ h25=>?_
         refine aJ ?_
         refine wN (t+1) ?_
         exact ev_fin ⟨trivial,_,rfl,(),rfl,trivial,aF [0,5]⟩
       rw [if_neg hg] at hR
       subst hR
       refine aT Tryz.func19 [.pt 0 p 0,vL A np cp] [.box p 49 [vP q,vI s,.bq bad,vI (b:Nat),vI (t:Nat)],.fact (DiskM q D)] (fun E=>?_) ⟨rfl,trivial,trivial⟩
       refine aG ?_
       refine aD TA [0,1] [] (fun v0_=>[.box (p) 49 [vP q,vI s,.bq (bad),vI ↑b,vI ↑t],.fact (DiskM q D)]) fun _ h0=>?_
       refine aI ?_
       refine aC TF [] [.inl 1] fun _ h1=>?_
       refine aI ?_
       refine aI ?_ (beq_eq_false_iff_ne.2 (show ¬(↑np:Int)=0 from (by omega)))
       refine aD TE [0] [.inl 0] (fun v0_=>[.box (p) 49 [vP q,vI s,.bq (bad),vI ↑b,vI ↑t]]) fun _ h2=>?_
       refine aJ ?_ (dec_yes (by with_reducible assumption))
       refine aD TZ [0,1] [] (fun v0_=>[.box (p) 49 [vP q,vI s,.bq (bad),vI ↑b,vI ↑t],.fact (DiskM q D)]) fun _ h3=>?_
       refine aI ?_ (decide_eq_false (show ¬(↑z:Int)<16384 from (by omega)))
       refine aC TP2 [] [] fun ⟨x4,x5⟩ h6=>?_
       refine ev_new fun b7=>?_
       refine aC (TO2 (b7) (x4) (x5)) [2,3] [] fun ⟨x8,x9⟩ h10=>?_
       refine aD (TD2 (x8) (x9)) [0,2,1] [.inl 0] (fun v0_=>[.box (p) 49 [vP q,vI s,.bq (bad),vI ↑b,vI ↑t],.fact (DiskM q D1.fst)]) fun _ h11=>?_
       refine aI ?_
       refine aC TN [2] [] fun ⟨x12,x13⟩ h14=>?_
       refine aI ?_ (decide_eq_false (show ¬(↑D1.fst.files.length:Int) ≥ 15 from (by omega)))
       refine aC TL [] [] fun _ h15=>?_
       refine aI ?_ (decide_eq_false (show ¬(↑(b+t):Int) ≥ 999999999 from (by omega)))
       refine aC TL [] [] fun _ h16=>?_
       refine wN (b+t+1) ?_
       refine aC (TI (show b+t+1≤9223372036854775807 from (by omega))) [] [.inl 0] fun _ h17=>?_
       refine ev_stop (go_bin (.va _) trivial rfl rfl rfl rfl rfl (by decide) (by decide) (fun w=>cat_run (by omega) w) ?_)
       refine aG ?_
       refine aC TP [] [] fun ⟨x18,x19⟩ h20=>?_
       refine ev_new fun b21=>?_
       refine aC (TO (b21) (x18) (x19)) [5,6] [] fun ⟨x22,x23⟩ h24=>?_
       refine aD (TD (x22) (x23)) [0,5,2] [.inl 0] (fun v0_=>[.box (p) 49 [vP q,vI s,.bq (bd),vI ↑b,vI ↑t],.fact (DiskM q G.fst)]) fun _ h25=>?_
       refine aI ?_ (beq_eq_false_iff_ne.2 (by with_reducible assumption))
       exact ev_fin ⟨trivial,_,rfl,(),rfl,trivial,aF [0,5]⟩
     rw [if_pos (by simpa using hg)] at hR
     obtain ⟨bd,hbd⟩:∃ bd,bd=(bad || badE D1.2):=⟨_,rfl⟩
     rw [←hbd] at TD2 hR
     subst hR
     refine aT Tryz.func19 [.pt 0 p 0,vL A np cp] [.box p 49 [vP q,vI s,.bq bad,vI (b:Nat),vI (t:Nat)],.fact (DiskM q D)] (fun E=>?_) ⟨rfl,trivial,trivial⟩
     refine aG ?_
     refine aD TA [0,1] [] (fun v0_=>[.box (p) 49 [vP q,vI s,.bq (bad),vI ↑b,vI ↑t],.fact (DiskM q D)]) fun _ h0=>?_
     refine aI ?_
     refine aC TF [] [.inl 1] fun _ h1=>?_
     refine aI ?_
     refine aI ?_ (beq_eq_false_iff_ne.2 (show ¬(↑np:Int)=0 from (by omega)))
     refine aD TE [0] [.inl 0] (fun v0_=>[.box (p) 49 [vP q,vI s,.bq (bad),vI ↑b,vI ↑t]]) fun _ h2=>?_
     refine aJ ?_ (dec_yes (by with_reducible assumption))
     refine aD TZ [0,1] [] (fun v0_=>[.box (p) 49 [vP q,vI s,.bq (bad),vI ↑b,vI ↑t],.fact (DiskM q D)]) fun _ h3=>?_
     refine aI ?_ (decide_eq_false (show ¬(↑z:Int)<16384 from (by omega)))
     refine aC TP2 [] [] fun ⟨x4,x5⟩ h6=>?_
     refine ev_new fun b7=>?_
     refine aC (TO2 (b7) (x4) (x5)) [2,3] [] fun ⟨x8,x9⟩ h10=>?_
     refine aD (TD2 (x8) (x9)) [0,2,1] [.inl 0] (fun v0_=>[.box (p) 49 [vP q,vI s,.bq (bd),vI ↑b,vI ↑t],.fact (DiskM q D1.fst)]) fun _ h11=>?_
     refine aJ ?_ (ne_yes (by with_reducible assumption))
     exact ev_fin ⟨trivial,_,rfl,(),rfl,trivial,aF [0,2]⟩
   rw [appW_long h hf] at hR
   subst hR
   refine aT Tryz.func19 [.pt 0 p 0,vL A np cp] [.box p 49 [vP q,vI s,.bq bad,vI (b:Nat),vI (t:Nat)],.fact (DiskM q D)] (fun E=>?_) ⟨rfl,trivial,trivial⟩
   refine aG ?_
   refine aD TA [0,1] [] (fun v0_=>[.box (p) 49 [vP q,vI s,.bq (bad),vI ↑b,vI ↑t],.fact (DiskM q D)]) fun _ h0=>?_
   refine aI ?_
   refine aC TF [] [.inl 1] fun _ h1=>?_
   refine aJ ?_ (ne_yes (by with_reducible assumption))
   exact ev_fin ⟨trivial,_,rfl,(),rfl,trivial,aF [0,1]⟩
 rw [appW_ask h] at hR
 rw [h] at TA
 subst hR
 refine aT Tryz.func19 [.pt 0 p 0,vL A np cp] [.box p 49 [vP q,vI s,.bq bad,vI (b:Nat),vI (t:Nat)],.fact (DiskM q D)] (fun E=>?_) ⟨rfl,trivial,trivial⟩
 refine aG ?_
 refine aD TA [0,1] [] (fun v0_=>[.box (p) 49 [vP q,vI s,.bq (bad),vI ↑b,vI ↑t],.fact (DiskM q D)]) fun _ h0=>?_
 refine aJ ?_
 exact ev_fin ⟨trivial,_,rfl,(),rfl,trivial,aF [0,1]⟩
theorem runD_ok:∀ {fs:List (DK→DK × Int)} {D:DK},(∀ f∈fs,∀ D,okD D→okD (f D).1)→okD D→okD (runD fs D).1
 | [],_,_,h=>h
 |
  f::fs,D,hf,h=>by
  have h1:=hf f List.mem_cons_self D h
  unfold runD
  split
  · exact runD_ok (fun g hg=>hf g (List.mem_cons_of_mem _ hg)) h1
  exact h1
theorem remL_ok {L:List ByteArray}:∀ f∈remL L,∀ D,okD D→okD (f D).1:=fun f hf D h=>by
 obtain ⟨x,_,rfl⟩:=List.mem_map.1 hf
 exact rem_ok h _
def cutAt (t:Nat) (dat:List ByteArray) (e:ByteArray) (i:Nat) (cut:ByteArray) (en:Int):Prop :=
 (cut=⟨#[]⟩∧en=0∧∀ k x,k<i→dat[k]? = some x→wholeB x=true)∨(i=dat.length∧cut=e∧∃ z:Nat,en=(z:Int)∧cutM dat=some z)
theorem cutAt_end {t:Nat} {dat:List ByteArray} {e cut:ByteArray} {en:Int} (h:cutAt t dat e dat.length cut en):(cut=⟨#[]⟩∧en=0∧cutM dat=none)∨(cut=e∧∃ z:Nat,en=(z:Int)∧cutM dat=some z):=by
 rcases h with ⟨h1,h2,h3⟩ | ⟨_,h2,h3⟩
 · refine .inl ⟨h1,h2,cutM_no fun x hx=>?_⟩
   obtain ⟨k,hk,rfl⟩:=List.getElem_of_mem hx
   exact h3 k _ hk (List.getElem?_eq_getElem hk)
 exact .inr ⟨h2,h3⟩
theorem cutAt_whole {t:Nat} {dat:List ByteArray} {e cut:ByteArray} {en:Int} {i:Nat} (h:cutAt t dat e i cut en) (hi:i<dat.length) {x:ByteArray} (hx:dat[i]? = some x) (hw:wholeB x=true):cutAt t dat e (i+1) cut en:=by
 rcases h with ⟨h1,h2,h3⟩ | ⟨h1,_⟩
 · refine .inl ⟨h1,h2,fun k y hk hy=>?_⟩
   rcases Nat.lt_or_ge k i with h4 | h4
   · exact h3 k y h4 hy
   obtain rfl:k=i:=by omega
   rw [hx] at hy
   cases hy
   exact hw
 omega
theorem cutAt_torn {t:Nat} {dat:List ByteArray} {e:ByteArray} {i:Nat} {x:ByteArray} (hx:dat[i]? = some x) (hi:i+1=dat.length) (hw:wholeB x=false):cutAt t dat e (i+1) e ((wholeM x).2:Nat):=by
 refine .inr ⟨hi,rfl,_,rfl,?_⟩
 obtain ⟨h1,h2⟩:=List.getElem?_eq_some_iff.1 hx
 have:=cutM_yes hi (by rw [h2];exact hw)
 rwa [h2] at this
theorem stale_len (L:List ByteArray):(staleM L).length≤L.length:=by
 unfold staleM
 split
 · exact List.length_filter_le _ _
 simp
theorem seg_last {b t i:Nat} (h:0<t) (hi:i+1=(segsM b t).length) (h2:i<(segsM b t).length):(segsM b t)[i]=endM b t:=by
 have h3:=segs_end (b:=b) h
 rw [List.getLast?_eq_getElem?,show (segsM b t).length-1=i by omega,List.getElem?_eq_getElem h2] at h3
 exact Option.some.inj h3
set_option maxHeartbeats 8000000 in
theorem openRem (q:Nat) (D:DK) (hD:okD D) (h:D.down=false) (ho:okN (namesD D)=true) (hs:okSeg (tailsM (namesD D)) (dataD D)=true) (hre:(runD (remL (staleM (namesD D))) D).2≠0):Triple Tryz.prog 12 [pP q] [DiskM q D] [TabA] Unit (fun _=>.tuple #[.pointer none,.slice none 0 0,.int .i64 (runD (remL (staleM (namesD D))) D).2]) (fun _=>True) (fun _=>[DiskM q (runD (remL (staleM (namesD D))) D).1]):=by
 have T1:=startsM q D hD
 have T2:=upM q D hD
 rw [h] at T2
 have T3:=namesM q D hD
 have hfew:=hD.few
 unfold dataD at hs
 obtain ⟨L,hL⟩:∃ L,L=D.files.map nameEG:=⟨_,rfl⟩
 obtain ⟨n,hn⟩:∃ n,n=D.files.length:=⟨_,rfl⟩
 have hnl:n=L.length:=by rw [hL,hn,List.length_map]
 have hLN:namesD D=L:=hL.symm
 rw [hLN] at ho hs
 rw [←hL,←hn] at T3
 have T4:=fun A c=>lookR A L n c hnl (by omega)
 rw [ho] at T4
 have hbt:=last_le L
 obtain ⟨b,hb⟩:∃ b,b=baseM L:=⟨_,rfl⟩
 obtain ⟨t,ht⟩:∃ t,t=tailsM L:=⟨_,rfl⟩
 rw [←hb,←ht] at hbt hs T4
 have T5:=segsT b t (by omega) (by omega)
 obtain ⟨S,hS⟩:∃ S,S=segsM b t:=⟨_,rfl⟩
 rw [←hS] at hs T5
 obtain ⟨m,hm⟩:∃ m,m=S.length:=⟨_,rfl⟩
 rw [←hm] at T5
 have hm1:m≤16:=by rw [hm,hS,hb,ht];have:=segs_few L;omega
 obtain ⟨dat,hdat⟩:∃ dat,dat=S.map fun x=>(readD D x).1:=⟨_,rfl⟩
 rw [←hdat] at hs
 have hdl:dat.length=m:=by rw [hdat,List.length_map,hm]
 have hget:∀ i (hi:i<S.length),dat[i]? = some (readD D S[i]).1:=fun i hi=>by rw [hdat,List.getElem?_map,List.getElem?_eq_getElem hi];rfl
 rw [hLN] at hre ⊢
 obtain ⟨la,hla⟩:∃ la,la=endM b t:=⟨_,rfl⟩
 have hlz:0<t→¬ la=(⟨#[]⟩:ByteArray):=fun ht q=>by
  have:=congrArg ByteArray.size q
  rw [hla] at this
  unfold endM at this
  rw [if_neg (by omega)] at this
  have h2:=nmB_pos 115 (b+t)
  rw [this] at h2
  exact absurd h2 (by decide)
 obtain ⟨sl,hsl⟩:∃ sl,sl=staleM L:=⟨_,rfl⟩
 rw [←hsl] at T4
 have hsn:sl.length≤1000:=by rw [hsl];have:=stale_len L;omega
 obtain ⟨ns,hns⟩:∃ ns,ns=sl.length:=⟨_,rfl⟩
 rw [←hns] at T4 hsn
 have T8:=fun p A c=>removedF p q D.starts (b:Nat) (t:Nat) A ns c sl hns (by omega)
 have T9:=fun p ia ic=>doA p q D.starts false (b:Nat) (t:Nat) ia ic (remL sl) D hD
 unfold ptW at T9
 have hD1:okD (runD (remL sl) D).1:=runD_ok remL_ok hD
 obtain ⟨r,hr⟩:∃ r,r=runD (remL sl) D:=⟨_,rfl⟩
 rw [←hr] at T9 hD1
 obtain ⟨bd,hbd⟩:∃ bd,bd=(false || badE r.2):=⟨_,rfl⟩
 rw [←hbd] at T9
 obtain ⟨fs,hfs⟩:∃ fs,fs=remL sl:=⟨_,rfl⟩
 rw [←hfs] at T9
 replace T8:∀ p A c,Triple Tryz.prog 41 [pP p,.slice A ns c] [Row 9 1 A ns c (sl.flatMap encS)] [] FnV (fun v=>.func (.func v.1) #[] v.2) (fun _=>True) (fun it=>[IterA p q D.starts (b:Nat) (t:Nat) it fs]):=fun p A c=>by
  rw [hfs]
  exact T8 p A c
 rw [←hsl,←hfs,hfs,←hr] at hre ⊢
 refine aT Tryz.func12 [vP q] [.fact (DiskM q D)] (fun E=>?_) ⟨trivial,trivial⟩
 refine go_fact (Row 9 1 none 0 0 (([]:List ByteArray).flatMap encS)) (Row.nilE _ _) ?_
 refine aG ?_
 refine aC T1 [0] [] fun _ h0=>?_
 refine ev_new fun b1=>?_
 refine aC T2 [0] [] fun _ h2=>?_
 refine aI ?_
 refine aC T3 [0] [] fun ⟨x3,x4⟩ h5=>?_
 refine aC (T4 (x3) (x4)) [] [.inl 0,.inr 3] fun ⟨x6,x7⟩ h8=>?_
 refine ev_new fun b9=>?_
 refine aI ?_
 refine aC T5 [] [.inl 0] fun ⟨x10,x11⟩ h12=>?_
 refine ev_stop (go_loopR [2,3,4,10,11,12,13,14,15,16,17,18,23,30,33,34,40,43,47,48,49,50,51,52,53,54,55,56,57,58,59,60,61,62,63,64,65,66,67,68,69,70,71,72,73,74,75,76,77,78,79,80,81,82] (fun (i,C,z,e,_,cut,en)=>[(10,vL C z e),(11,.va (.string cut)),(12,vI en),(47,vI (i:Nat))]) (fun (_,C,z,e,M,_)=>[(1,.fact (Row 9 1 C z e (M.flatMap encS)))]) (fun (i,_,z,_,M,cut,en)=>i≤m∧z=M.length∧z≤i*2000000∧M=payM (dat.take i)∧cutAt t dat la i cut en) (fun (i,_)=>m-i) ((0,none,0,0,[],⟨#[]⟩,0):Nat × Option Addr × Nat × Nat × List ByteArray × ByteArray × Int) ⟨Nat.zero_le _,rfl,Nat.zero_le _,rfl,.inl ⟨rfl,rfl,fun k x hk=>absurd hk (by omega)⟩⟩ aS (fun x_ h_=>?_))
 obtain ⟨i,C,z,e,M,cut,en⟩:=x_
 obtain ⟨hi,hz,hz2,hM,hup⟩:=h_
 rcases Nat.lt_or_ge i m with him | him
 · have hiS:i<S.length:=by omega
   obtain ⟨x,hx⟩:∃ x,x=(readD D S[i]).1:=⟨_,rfl⟩
   have hxs:=read_size hD S[i]
   have hgx:=hget i hiS
   have T6:=readM q D S[i] hD
   rw [←hx] at hxs hgx T6
   have T7:=wholeT x (by omega)
   have hwl:=whole_len x
   have hzl:z+(wholeM x).1.length≤(i+1)*2000000:=by rw [Nat.succ_mul];omega
   have hzm:z+(wholeM x).1.length≤100000000:=by have:(i+1)*2000000≤16*2000000:=Nat.mul_le_mul_right _ (by omega);omega
   have hst:=payM_step (dat:=dat) (i:=i) (by omega)
   have hxe:dat[i]'(by omega)=x:=by
    have:=hgx
    rw [List.getElem?_eq_getElem (by omega)] at this
    exact Option.some.inj this
   rw [hxe,←hM] at hst
   have hno:wholeB x=false→¬ (i+1<m∨t=0):=fun hw h2=>by
    have:=okSeg_no (t:=t) (dat:=dat) (k:=i) (by omega) (by rw [hxe];exact hw) (by rw [hdl];exact h2)
    rw [hs] at this
    cases this
   refine aG ?_
   refine aJ ?_ (decide_eq_true (show (↑i:Int)<(↑m:Int) from (by omega)))
   refine ev_stop (go_index0 (sz:=1) Tryz.tbs_ok (.inr 6) (i) rfl rfl rfl rfl rfl rfl (by omega) rfl Row.at0 (fun g60 e61=>?_))
   subst e61
   refine aG ?_
   have l62:i<(S).length:=(by omega)
   refine ev_stop (go_loadE Tryz.tbs_ok (.inr 6) (i) 0 rfl rfl rfl rfl (fun _ h=>Row.rd h) (by omega) (fun _=>rfl) (by omega) l62 (by decide) ?_)
   refine aG ?_
   refine aC T6 [0] [] fun _ h63=>?_
   refine aC T7 [] [] fun ⟨x64,x65⟩ h66=>?_
   refine ev_if_lt (fun h67=>?_) (fun h67=>?_)
   refine aG ?_
   refine wO (m-1) ?_
   refine ev_if_lt (fun h68=>?_) (fun h68=>?_)
   refine aG ?_
   rotate_left
   refine aG ?_
   refine ev_if_eq (fun h69=>?_) (fun h69=>?_)
   refine aG ?_
   rotate_left
   refine aG ?_
   refine ev_stop (go_appendE (sz:=1) (M:=[_]) (enc:=encS) Tryz.tbs_ok [1] [] (.inr 7) (M) ((wholeM x).fst) ((M)++((wholeM x).fst)) (z+(wholeM x).fst.length) rfl rfl rfl rfl rfl rfl rfl (by decide) rfl (by decide) (fun _ p=>starH_one.1 p) rfl (fun _ h=>Row.rd h) (by first | rfl | simp) (by first | rfl | omega) (aM (z+(wholeM x).fst.length)) (aN (z+(wholeM x).fst.length)) (fun _ _=>aL) (fun A70 c71 h72=>?_))
   refine aG ?_
   refine wN (i+1) ?_
   refine ev_fin (round_next ((i+1,A70,z+(wholeM x).fst.length,c71,M++(wholeM x).fst,S[i],(↑(wholeM x).snd:Int))) (?_:i+1≤m∧z+(wholeM x).fst.length=(M++(wholeM x).fst).length∧z+(wholeM x).fst.length≤(i+1)*2000000∧M++(wholeM x).fst=payM (List.take (i+1) dat)∧cutAt t dat la (i+1) S[i] (↑(wholeM x).snd:Int)) (show m-(i+1)<m-i from (by omega)) aS)
   rotate_left
   refine aG ?_
   refine ev_stop (go_appendE (sz:=1) (M:=[_]) (enc:=encS) Tryz.tbs_ok [1] [] (.inr 7) (M) ((wholeM x).fst) ((M)++((wholeM x).fst)) (z+(wholeM x).fst.length) rfl rfl rfl rfl rfl rfl rfl (by decide) rfl (by decide) (fun _ p=>starH_one.1 p) rfl (fun _ h=>Row.rd h) (by first | rfl | simp) (by first | rfl | omega) (aM (z+(wholeM x).fst.length)) (aN (z+(wholeM x).fst.length)) (fun _ _=>aL) (fun A73 c74 h75=>?_))
   refine aG ?_
   refine wN (i+1) ?_
   refine ev_fin (round_next ((i+1,A73,z+(wholeM x).fst.length,c74,M++(wholeM x).fst,cut,en)) (?_:i+1≤m∧z+(wholeM x).fst.length=(M++(wholeM x).fst).length∧z+(wholeM x).fst.length≤(i+1)*2000000∧M++(wholeM x).fst=payM (List.take (i+1) dat)∧cutAt t dat la (i+1) cut en) (show m-(i+1)<m-i from (by omega)) aS)
   rotate_left
   · exact absurd (by omega) (hno (whole_no (by omega)))
   · exact absurd (by omega) (hno (whole_no (by omega)))
   · refine ⟨by omega,by rw [List.length_append,hz],hzl,hst.symm,?_⟩
     have hi1:i+1=m:=by omega
     have ht1:0<t:=by omega
     have hc:S[i]=la:=by subst hS;rw [hla];exact seg_last ht1 (by omega) _
     rw [hc]
     exact cutAt_torn hgx (by omega) (whole_no (by omega))
   exact ⟨by omega,by rw [List.length_append,hz],hzl,hst.symm,cutAt_whole hup (by omega) hgx (whole_yes (by omega))⟩
 obtain rfl:i=m:=by omega
 refine aG ?_
 refine aI ?_ (decide_eq_false (show ¬(↑i:Int)<(↑i:Int) from (by omega)))
 refine ev_fin (go Tryz.tbs_ok 1000 ?_)
 refine aC (T8 (b1) (x6) (x7)) [4] [] fun ⟨x100,x101⟩ h102=>?_
 refine aD (T9 (b1) (x100) (x101)) [2,4,0] [.inl 0] (fun v0_=>[.box (b1) 49 [vP q,vI D.starts,.bq (bd),vI ↑b,vI ↑t],.fact (DiskM q r.fst)]) fun _ h103=>?_
 refine aI ?_ (beq_eq_false_iff_ne.2 (by with_reducible assumption))
 refine aJ ?_ (ne_yes (by with_reducible assumption))
 exact ev_fin ⟨trivial,_,rfl,(),rfl,trivial,aF [4]⟩
set_option maxHeartbeats 8000000 in
theorem openCutE (q:Nat) (D:DK) (hD:okD D) (h:D.down=false) (ho:okN (namesD D)=true) (hs:okSeg (tailsM (namesD D)) (dataD D)=true) (hre:(runD (remL (staleM (namesD D))) D).2=0) (zc:Nat) (hc:cutM (dataD D)=some zc)
 (R:DK × Int) (hR:R=truncD (runD (remL (staleM (namesD D))) D).1 (endM (baseM (namesD D)) (tailsM (namesD D))) (zc:Nat)) (hR2:R.2≠0):Triple Tryz.prog 12 [pP q] [DiskM q D] [TabA] Unit (fun _=>.tuple #[.pointer none,.slice none 0 0,.int .i64 R.2]) (fun _=>True) (fun _=>[DiskM q R.1]):=by
 unfold dataD at hc
 have T1:=startsM q D hD
 have T2:=upM q D hD
 rw [h] at T2
 have T3:=namesM q D hD
 have hfew:=hD.few
 unfold dataD at hs
 obtain ⟨L,hL⟩:∃ L,L=D.files.map nameEG:=⟨_,rfl⟩
 obtain ⟨n,hn⟩:∃ n,n=D.files.length:=⟨_,rfl⟩
 have hnl:n=L.length:=by rw [hL,hn,List.length_map]
 have hLN:namesD D=L:=hL.symm
 rw [hLN] at ho hs
 rw [←hL,←hn] at T3
 have T4:=fun A c=>lookR A L n c hnl (by omega)
 rw [ho] at T4
 have hbt:=last_le L
 obtain ⟨b,hb⟩:∃ b,b=baseM L:=⟨_,rfl⟩
 obtain ⟨t,ht⟩:∃ t,t=tailsM L:=⟨_,rfl⟩
 rw [←hb,←ht] at hbt hs T4
 have T5:=segsT b t (by omega) (by omega)
 obtain ⟨S,hS⟩:∃ S,S=segsM b t:=⟨_,rfl⟩
 rw [←hS] at hs T5
 obtain ⟨m,hm⟩:∃ m,m=S.length:=⟨_,rfl⟩
 rw [←hm] at T5
 have hm1:m≤16:=by rw [hm,hS,hb,ht];have:=segs_few L;omega
 obtain ⟨dat,hdat⟩:∃ dat,dat=S.map fun x=>(readD D x).1:=⟨_,rfl⟩
 rw [←hdat] at hs
 have hdl:dat.length=m:=by rw [hdat,List.length_map,hm]
 have hget:∀ i (hi:i<S.length),dat[i]? = some (readD D S[i]).1:=fun i hi=>by rw [hdat,List.getElem?_map,List.getElem?_eq_getElem hi];rfl
 rw [hLN,←hb,←ht,←hS,←hdat] at hc
 rw [hLN,←hb,←ht] at hR
 rw [hLN] at hre
 obtain ⟨la,hla⟩:∃ la,la=endM b t:=⟨_,rfl⟩
 have hlz:0<t→¬ la=(⟨#[]⟩:ByteArray):=fun ht q=>by
  have:=congrArg ByteArray.size q
  rw [hla] at this
  unfold endM at this
  rw [if_neg (by omega)] at this
  have h2:=nmB_pos 115 (b+t)
  rw [this] at h2
  exact absurd h2 (by decide)
 obtain ⟨sl,hsl⟩:∃ sl,sl=staleM L:=⟨_,rfl⟩
 rw [←hsl] at T4
 have hsn:sl.length≤1000:=by rw [hsl];have:=stale_len L;omega
 obtain ⟨ns,hns⟩:∃ ns,ns=sl.length:=⟨_,rfl⟩
 rw [←hns] at T4 hsn
 have T8:=fun p A c=>removedF p q D.starts (b:Nat) (t:Nat) A ns c sl hns (by omega)
 have T9:=fun p ia ic=>doA p q D.starts false (b:Nat) (t:Nat) ia ic (remL sl) D hD
 unfold ptW at T9
 have hD1:okD (runD (remL sl) D).1:=runD_ok remL_ok hD
 obtain ⟨r,hr⟩:∃ r,r=runD (remL sl) D:=⟨_,rfl⟩
 rw [←hr] at T9 hD1
 obtain ⟨bd,hbd⟩:∃ bd,bd=(false || badE r.2):=⟨_,rfl⟩
 rw [←hbd] at T9
 obtain ⟨fs,hfs⟩:∃ fs,fs=remL sl:=⟨_,rfl⟩
 rw [←hfs] at T9
 replace T8:∀ p A c,Triple Tryz.prog 41 [pP p,.slice A ns c] [Row 9 1 A ns c (sl.flatMap encS)] [] FnV (fun v=>.func (.func v.1) #[] v.2) (fun _=>True) (fun it=>[IterA p q D.starts (b:Nat) (t:Nat) it fs]):=fun p A c=>by
  rw [hfs]
  exact T8 p A c
 rw [←hsl,←hfs,hfs,←hr] at hre hR
 rw [←hla] at hR
 rw [hre] at T9
 have T10:=truncM q r.1 la (zc:Nat) hD1
 rw [←hR] at T10
 refine aT Tryz.func12 [vP q] [.fact (DiskM q D)] (fun E=>?_) ⟨trivial,trivial⟩
 refine go_fact (Row 9 1 none 0 0 (([]:List ByteArray).flatMap encS)) (Row.nilE _ _) ?_
 refine aG ?_
 refine aC T1 [0] [] fun _ h0=>?_
 refine ev_new fun b1=>?_
 refine aC T2 [0] [] fun _ h2=>?_
 refine aI ?_
 refine aC T3 [0] [] fun ⟨x3,x4⟩ h5=>?_
 refine aC (T4 (x3) (x4)) [] [.inl 0,.inr 3] fun ⟨x6,x7⟩ h8=>?_
 refine ev_new fun b9=>?_
 refine aI ?_
 refine aC T5 [] [.inl 0] fun ⟨x10,x11⟩ h12=>?_
 refine ev_stop (go_loopR [2,3,4,10,11,12,13,14,15,16,17,18,23,30,33,34,40,43,47,48,49,50,51,52,53,54,55,56,57,58,59,60,61,62,63,64,65,66,67,68,69,70,71,72,73,74,75,76,77,78,79,80,81,82] (fun (i,C,z,e,_,cut,en)=>[(10,vL C z e),(11,.va (.string cut)),(12,vI en),(47,vI (i:Nat))]) (fun (_,C,z,e,M,_)=>[(1,.fact (Row 9 1 C z e (M.flatMap encS)))]) (fun (i,_,z,_,M,cut,en)=>i≤m∧z=M.length∧z≤i*2000000∧M=payM (dat.take i)∧cutAt t dat la i cut en) (fun (i,_)=>m-i) ((0,none,0,0,[],⟨#[]⟩,0):Nat × Option Addr × Nat × Nat × List ByteArray × ByteArray × Int) ⟨Nat.zero_le _,rfl,Nat.zero_le _,rfl,.inl ⟨rfl,rfl,fun k x hk=>absurd hk (by omega)⟩⟩ aS (fun x_ h_=>?_))
 obtain ⟨i,C,z,e,M,cut,en⟩:=x_
 obtain ⟨hi,hz,hz2,hM,hup⟩:=h_
 rcases Nat.lt_or_ge i m with him | him
 · have hiS:i<S.length:=by omega
   obtain ⟨x,hx⟩:∃ x,x=(readD D S[i]).1:=⟨_,rfl⟩
   have hxs:=read_size hD S[i]
   have hgx:=hget i hiS
   have T6:=readM q D S[i] hD
   rw [←hx] at hxs hgx T6
   have T7:=wholeT x (by omega)
   have hwl:=whole_len x
   have hzl:z+(wholeM x).1.length≤(i+1)*2000000:=by rw [Nat.succ_mul];omega
   have hzm:z+(wholeM x).1.length≤100000000:=by have:(i+1)*2000000≤16*2000000:=Nat.mul_le_mul_right _ (by omega);omega
   have hst:=payM_step (dat:=dat) (i:=i) (by omega)
   have hxe:dat[i]'(by omega)=x:=by
    have:=hgx
    rw [List.getElem?_eq_getElem (by omega)] at this
    exact Option.some.inj this
   rw [hxe,←hM] at hst
   have hno:wholeB x=false→¬ (i+1<m∨t=0):=fun hw h2=>by
    have:=okSeg_no (t:=t) (dat:=dat) (k:=i) (by omega) (by rw [hxe];exact hw) (by rw [hdl];exact h2)
    rw [hs] at this
    cases this
   refine aG ?_
   refine aJ ?_ (decide_eq_true (show (↑i:Int)<(↑m:Int) from (by omega)))
   refine ev_stop (go_index0 (sz:=1) Tryz.tbs_ok (.inr 6) (i) rfl rfl rfl rfl rfl rfl (by omega) rfl Row.at0 (fun g60 e61=>?_))
   subst e61
   refine aG ?_
   have l62:i<(S).length:=(by omega)
   refine ev_stop (go_loadE Tryz.tbs_ok (.inr 6) (i) 0 rfl rfl rfl rfl (fun _ h=>Row.rd h) (by omega) (fun _=>rfl) (by omega) l62 (by decide) ?_)
   refine aG ?_
   refine aC T6 [0] [] fun _ h63=>?_
   refine aC T7 [] [] fun ⟨x64,x65⟩ h66=>?_
   refine ev_if_lt (fun h67=>?_) (fun h67=>?_)
   refine aG ?_
   refine wO (m-1) ?_
   refine ev_if_lt (fun h68=>?_) (fun h68=>?_)
   refine aG ?_
   rotate_left
   refine aG ?_
   refine ev_if_eq (fun h69=>?_) (fun h69=>?_)
   refine aG ?_
   rotate_left
   refine aG ?_
   refine ev_stop (go_appendE (sz:=1) (M:=[_]) (enc:=encS) Tryz.tbs_ok [1] [] (.inr 7) (M) ((wholeM x).fst) ((M)++((wholeM x).fst)) (z+(wholeM x).fst.length) rfl rfl rfl rfl rfl rfl rfl (by decide) rfl (by decide) (fun _ p=>starH_one.1 p) rfl (fun _ h=>Row.rd h) (by first | rfl | simp) (by first | rfl | omega) (aM (z+(wholeM x).fst.length)) (aN (z+(wholeM x).fst.length)) (fun _ _=>aL) (fun A70 c71 h72=>?_))
   refine aG ?_
   refine wN (i+1) ?_
   refine ev_fin (round_next ((i+1,A70,z+(wholeM x).fst.length,c71,M++(wholeM x).fst,S[i],(↑(wholeM x).snd:Int))) (?_:i+1≤m∧z+(wholeM x).fst.length=(M++(wholeM x).fst).length∧z+(wholeM x).fst.length≤(i+1)*2000000∧M++(wholeM x).fst=payM (List.take (i+1) dat)∧cutAt t dat la (i+1) S[i] (↑(wholeM x).snd:Int)) (show m-(i+1)<m-i from (by omega)) aS)
   rotate_left
   refine aG ?_
   refine ev_stop (go_appendE (sz:=1) (M:=[_]) (enc:=encS) Tryz.tbs_ok [1] [] (.inr 7) (M) ((wholeM x).fst) ((M)++((wholeM x).fst)) (z+(wholeM x).fst.length) rfl rfl rfl rfl rfl rfl rfl (by decide) rfl (by decide) (fun _ p=>starH_one.1 p) rfl (fun _ h=>Row.rd h) (by first | rfl | simp) (by first | rfl | omega) (aM (z+(wholeM x).fst.length)) (aN (z+(wholeM x).fst.length)) (fun _ _=>aL) (fun A73 c74 h75=>?_))
   refine aG ?_
   refine wN (i+1) ?_
   refine ev_fin (round_next ((i+1,A73,z+(wholeM x).fst.length,c74,M++(wholeM x).fst,cut,en)) (?_:i+1≤m∧z+(wholeM x).fst.length=(M++(wholeM x).fst).length∧z+(wholeM x).fst.length≤(i+1)*2000000∧M++(wholeM x).fst=payM (List.take (i+1) dat)∧cutAt t dat la (i+1) cut en) (show m-(i+1)<m-i from (by omega)) aS)
   rotate_left
   · exact absurd (by omega) (hno (whole_no (by omega)))
   · exact absurd (by omega) (hno (whole_no (by omega)))
   · refine ⟨by omega,by rw [List.length_append,hz],hzl,hst.symm,?_⟩
     have hi1:i+1=m:=by omega
     have ht1:0<t:=by omega
     have hc:S[i]=la:=by subst hS;rw [hla];exact seg_last ht1 (by omega) _
     rw [hc]
     exact cutAt_torn hgx (by omega) (whole_no (by omega))
   exact ⟨by omega,by rw [List.length_append,hz],hzl,hst.symm,cutAt_whole hup (by omega) hgx (whole_yes (by omega))⟩
 obtain rfl:i=m:=by omega
 rw [←hdl] at hup
 rcases cutAt_end hup with ⟨_,_,q3⟩ | ⟨q1,z',q2,q3⟩
 · rw [q3] at hc
   cases hc
 rw [q3] at hc
 cases hc
 subst q1 q2
 have ht0:0<t:=by
  rcases Nat.eq_zero_or_pos t with h0 | h0
  · exfalso
    have hw:∀ x∈dat,wholeB x=true:=fun x hx=>by
     obtain ⟨k,hk,rfl⟩:=List.getElem_of_mem hx
     cases hb2:wholeB dat[k] with
     | true=>rfl
     |
      false =>
      rw [okSeg_no hk hb2 (.inr h0)] at hs
      cases hs
    rw [cutM_no hw] at q3
    cases q3
  exact h0
 have hlz2:=hlz ht0
 refine aG ?_
 refine aI ?_ (decide_eq_false (show ¬(↑i:Int)<(↑i:Int) from (by omega)))
 refine ev_fin (go Tryz.tbs_ok 1000 ?_)
 refine aC (T8 (b1) (x6) (x7)) [4] [] fun ⟨x100,x101⟩ h102=>?_
 refine aD (T9 (b1) (x100) (x101)) [2,4,0] [.inl 0] (fun v0_=>[.box (b1) 49 [vP q,vI D.starts,.bq (bd),vI ↑b,vI ↑t],.fact (DiskM q r.fst)]) fun _ h103=>?_
 refine aJ ?_
 refine aJ ?_ (dec_yes (by with_reducible assumption))
 refine aC T10 [4] [] fun _ h104=>?_
 refine aJ ?_ (ne_yes (by with_reducible assumption))
 exact ev_fin ⟨trivial,_,rfl,(),rfl,trivial,aF [4]⟩
set_option maxHeartbeats 8000000 in
theorem openCut (q:Nat) (D:DK) (hD:okD D) (h:D.down=false) (ho:okN (namesD D)=true) (hs:okSeg (tailsM (namesD D)) (dataD D)=true) (hre:(runD (remL (staleM (namesD D))) D).2=0) (zc:Nat) (hc:cutM (dataD D)=some zc)
 (R:DK × Int) (hR:R=truncD (runD (remL (staleM (namesD D))) D).1 (endM (baseM (namesD D)) (tailsM (namesD D))) (zc:Nat)) (hR2:R.2=0):Triple Tryz.prog 12 [pP q] [DiskM q D] [TabA] (Nat × Option Addr × Nat) (fun (p,C,c)=>.tuple #[pP p,.slice C (payM (dataD D)).length c,.int .i64 0]) (fun _=>True) (fun (p,C,c)=>[WalM p q ⟨D.starts,false,baseM (namesD D),tailsM (namesD D)⟩,DiskM q R.1,Row 9 1 C (payM (dataD D)).length c ((payM (dataD D)).flatMap encS)]):=by
 unfold WalM ptW
 unfold dataD at hc ⊢
 have T1:=startsM q D hD
 have T2:=upM q D hD
 rw [h] at T2
 have T3:=namesM q D hD
 have hfew:=hD.few
 unfold dataD at hs
 obtain ⟨L,hL⟩:∃ L,L=D.files.map nameEG:=⟨_,rfl⟩
 obtain ⟨n,hn⟩:∃ n,n=D.files.length:=⟨_,rfl⟩
 have hnl:n=L.length:=by rw [hL,hn,List.length_map]
 have hLN:namesD D=L:=hL.symm
 rw [hLN] at ho hs
 rw [←hL,←hn] at T3
 have T4:=fun A c=>lookR A L n c hnl (by omega)
 rw [ho] at T4
 have hbt:=last_le L
 obtain ⟨b,hb⟩:∃ b,b=baseM L:=⟨_,rfl⟩
 obtain ⟨t,ht⟩:∃ t,t=tailsM L:=⟨_,rfl⟩
 rw [←hb,←ht] at hbt hs T4
 have T5:=segsT b t (by omega) (by omega)
 obtain ⟨S,hS⟩:∃ S,S=segsM b t:=⟨_,rfl⟩
 rw [←hS] at hs T5
 obtain ⟨m,hm⟩:∃ m,m=S.length:=⟨_,rfl⟩
 rw [←hm] at T5
 have hm1:m≤16:=by rw [hm,hS,hb,ht];have:=segs_few L;omega
 obtain ⟨dat,hdat⟩:∃ dat,dat=S.map fun x=>(readD D x).1:=⟨_,rfl⟩
 rw [←hdat] at hs
 have hdl:dat.length=m:=by rw [hdat,List.length_map,hm]
 have hget:∀ i (hi:i<S.length),dat[i]? = some (readD D S[i]).1:=fun i hi=>by rw [hdat,List.getElem?_map,List.getElem?_eq_getElem hi];rfl
 rw [hLN,←hb,←ht,←hS,←hdat] at hc ⊢
 rw [hLN,←hb,←ht] at hR
 rw [hLN] at hre
 obtain ⟨la,hla⟩:∃ la,la=endM b t:=⟨_,rfl⟩
 have hlz:0<t→¬ la=(⟨#[]⟩:ByteArray):=fun ht q=>by
  have:=congrArg ByteArray.size q
  rw [hla] at this
  unfold endM at this
  rw [if_neg (by omega)] at this
  have h2:=nmB_pos 115 (b+t)
  rw [this] at h2
  exact absurd h2 (by decide)
 obtain ⟨sl,hsl⟩:∃ sl,sl=staleM L:=⟨_,rfl⟩
 rw [←hsl] at T4
 have hsn:sl.length≤1000:=by rw [hsl];have:=stale_len L;omega
 obtain ⟨ns,hns⟩:∃ ns,ns=sl.length:=⟨_,rfl⟩
 rw [←hns] at T4 hsn
 have T8:=fun p A c=>removedF p q D.starts (b:Nat) (t:Nat) A ns c sl hns (by omega)
 have T9:=fun p ia ic=>doA p q D.starts false (b:Nat) (t:Nat) ia ic (remL sl) D hD
 unfold ptW at T9
 have hD1:okD (runD (remL sl) D).1:=runD_ok remL_ok hD
 obtain ⟨r,hr⟩:∃ r,r=runD (remL sl) D:=⟨_,rfl⟩
 rw [←hr] at T9 hD1
 obtain ⟨bd,hbd⟩:∃ bd,bd=(false || badE r.2):=⟨_,rfl⟩
 rw [←hbd] at T9
 obtain ⟨fs,hfs⟩:∃ fs,fs=remL sl:=⟨_,rfl⟩
 rw [←hfs] at T9
 replace T8:∀ p A c,Triple Tryz.prog 41 [pP p,.slice A ns c] [Row 9 1 A ns c (sl.flatMap encS)] [] FnV (fun v=>.func (.func v.1) #[] v.2) (fun _=>True) (fun it=>[IterA p q D.starts (b:Nat) (t:Nat) it fs]):=fun p A c=>by
  rw [hfs]
  exact T8 p A c
 rw [←hsl,←hfs,hfs,←hr] at hre hR
 rw [←hla] at hR
 rw [hre,show (false || badE 0)=false from rfl] at hbd
 rw [hre,hbd] at T9
 have T10:=truncM q r.1 la (zc:Nat) hD1
 rw [←hR,hR2] at T10
 refine aT Tryz.func12 [vP q] [.fact (DiskM q D)] (fun E=>?_) ⟨trivial,trivial⟩
 refine go_fact (Row 9 1 none 0 0 (([]:List ByteArray).flatMap encS)) (Row.nilE _ _) ?_
 refine aG ?_
 refine aC T1 [0] [] fun _ h0=>?_
 refine ev_new fun b1=>?_
 refine aC T2 [0] [] fun _ h2=>?_
 refine aI ?_
 refine aC T3 [0] [] fun ⟨x3,x4⟩ h5=>?_
 refine aC (T4 (x3) (x4)) [] [.inl 0,.inr 3] fun ⟨x6,x7⟩ h8=>?_
 refine ev_new fun b9=>?_
 refine aI ?_
 refine aC T5 [] [.inl 0] fun ⟨x10,x11⟩ h12=>?_
 refine ev_stop (go_loopR [2,3,4,10,11,12,13,14,15,16,17,18,23,30,33,34,40,43,47,48,49,50,51,52,53,54,55,56,57,58,59,60,61,62,63,64,65,66,67,68,69,70,71,72,73,74,75,76,77,78,79,80,81,82] (fun (i,C,z,e,_,cut,en)=>[(10,vL C z e),(11,.va (.string cut)),(12,vI en),(47,vI (i:Nat))]) (fun (_,C,z,e,M,_)=>[(1,.fact (Row 9 1 C z e (M.flatMap encS)))]) (fun (i,_,z,_,M,cut,en)=>i≤m∧z=M.length∧z≤i*2000000∧M=payM (dat.take i)∧cutAt t dat la i cut en) (fun (i,_)=>m-i) ((0,none,0,0,[],⟨#[]⟩,0):Nat × Option Addr × Nat × Nat × List ByteArray × ByteArray × Int) ⟨Nat.zero_le _,rfl,Nat.zero_le _,rfl,.inl ⟨rfl,rfl,fun k x hk=>absurd hk (by omega)⟩⟩ aS (fun x_ h_=>?_))
 obtain ⟨i,C,z,e,M,cut,en⟩:=x_
 obtain ⟨hi,hz,hz2,hM,hup⟩:=h_
 rcases Nat.lt_or_ge i m with him | him
 · have hiS:i<S.length:=by omega
   obtain ⟨x,hx⟩:∃ x,x=(readD D S[i]).1:=⟨_,rfl⟩
   have hxs:=read_size hD S[i]
   have hgx:=hget i hiS
   have T6:=readM q D S[i] hD
   rw [←hx] at hxs hgx T6
   have T7:=wholeT x (by omega)
   have hwl:=whole_len x
   have hzl:z+(wholeM x).1.length≤(i+1)*2000000:=by rw [Nat.succ_mul];omega
   have hzm:z+(wholeM x).1.length≤100000000:=by have:(i+1)*2000000≤16*2000000:=Nat.mul_le_mul_right _ (by omega);omega
   have hst:=payM_step (dat:=dat) (i:=i) (by omega)
   have hxe:dat[i]'(by omega)=x:=by
    have:=hgx
    rw [List.getElem?_eq_getElem (by omega)] at this
    exact Option.some.inj this
   rw [hxe,←hM] at hst
   have hno:wholeB x=false→¬ (i+1<m∨t=0):=fun hw h2=>by
    have:=okSeg_no (t:=t) (dat:=dat) (k:=i) (by omega) (by rw [hxe];exact hw) (by rw [hdl];exact h2)
    rw [hs] at this
    cases this
   refine aG ?_
   refine aJ ?_ (decide_eq_true (show (↑i:Int)<(↑m:Int) from (by omega)))
   refine ev_stop (go_index0 (sz:=1) Tryz.tbs_ok (.inr 6) (i) rfl rfl rfl rfl rfl rfl (by omega) rfl Row.at0 (fun g60 e61=>?_))
   subst e61
   refine aG ?_
   have l62:i<(S).length:=(by omega)
   refine ev_stop (go_loadE Tryz.tbs_ok (.inr 6) (i) 0 rfl rfl rfl rfl (fun _ h=>Row.rd h) (by omega) (fun _=>rfl) (by omega) l62 (by decide) ?_)
   refine aG ?_
   refine aC T6 [0] [] fun _ h63=>?_
   refine aC T7 [] [] fun ⟨x64,x65⟩ h66=>?_
   refine ev_if_lt (fun h67=>?_) (fun h67=>?_)
   refine aG ?_
   refine wO (m-1) ?_
   refine ev_if_lt (fun h68=>?_) (fun h68=>?_)
   refine aG ?_
   rotate_left
   refine aG ?_
   refine ev_if_eq (fun h69=>?_) (fun h69=>?_)
   refine aG ?_
   rotate_left
   refine aG ?_
   refine ev_stop (go_appendE (sz:=1) (M:=[_]) (enc:=encS) Tryz.tbs_ok [1] [] (.inr 7) (M) ((wholeM x).fst) ((M)++((wholeM x).fst)) (z+(wholeM x).fst.length) rfl rfl rfl rfl rfl rfl rfl (by decide) rfl (by decide) (fun _ p=>starH_one.1 p) rfl (fun _ h=>Row.rd h) (by first | rfl | simp) (by first | rfl | omega) (aM (z+(wholeM x).fst.length)) (aN (z+(wholeM x).fst.length)) (fun _ _=>aL) (fun A70 c71 h72=>?_))
   refine aG ?_
   refine wN (i+1) ?_
   refine ev_fin (round_next ((i+1,A70,z+(wholeM x).fst.length,c71,M++(wholeM x).fst,S[i],(↑(wholeM x).snd:Int))) (?_:i+1≤m∧z+(wholeM x).fst.length=(M++(wholeM x).fst).length∧z+(wholeM x).fst.length≤(i+1)*2000000∧M++(wholeM x).fst=payM (List.take (i+1) dat)∧cutAt t dat la (i+1) S[i] (↑(wholeM x).snd:Int)) (show m-(i+1)<m-i from (by omega)) aS)
   rotate_left
   refine aG ?_
   refine ev_stop (go_appendE (sz:=1) (M:=[_]) (enc:=encS) Tryz.tbs_ok [1] [] (.inr 7) (M) ((wholeM x).fst) ((M)++((wholeM x).fst)) (z+(wholeM x).fst.length) rfl rfl rfl rfl rfl rfl rfl (by decide) rfl (by decide) (fun _ p=>starH_one.1 p) rfl (fun _ h=>Row.rd h) (by first | rfl | simp) (by first | rfl | omega) (aM (z+(wholeM x).fst.length)) (aN (z+(wholeM x).fst.length)) (fun _ _=>aL) (fun A73 c74 h75=>?_))
   refine aG ?_
   refine wN (i+1) ?_
   refine ev_fin (round_next ((i+1,A73,z+(wholeM x).fst.length,c74,M++(wholeM x).fst,cut,en)) (?_:i+1≤m∧z+(wholeM x).fst.length=(M++(wholeM x).fst).length∧z+(wholeM x).fst.length≤(i+1)*2000000∧M++(wholeM x).fst=payM (List.take (i+1) dat)∧cutAt t dat la (i+1) cut en) (show m-(i+1)<m-i from (by omega)) aS)
   rotate_left
   · exact absurd (by omega) (hno (whole_no (by omega)))
   · exact absurd (by omega) (hno (whole_no (by omega)))
   · refine ⟨by omega,by rw [List.length_append,hz],hzl,hst.symm,?_⟩
     have hi1:i+1=m:=by omega
     have ht1:0<t:=by omega
     have hc:S[i]=la:=by subst hS;rw [hla];exact seg_last ht1 (by omega) _
     rw [hc]
     exact cutAt_torn hgx (by omega) (whole_no (by omega))
   exact ⟨by omega,by rw [List.length_append,hz],hzl,hst.symm,cutAt_whole hup (by omega) hgx (whole_yes (by omega))⟩
 obtain rfl:i=m:=by omega
 rw [List.take_of_length_le (by omega)] at hM
 rw [←hM,←hz]
 rw [←hdl] at hup
 rcases cutAt_end hup with ⟨_,_,q3⟩ | ⟨q1,z',q2,q3⟩
 · rw [q3] at hc
   cases hc
 rw [q3] at hc
 cases hc
 subst q1 q2
 have ht0:0<t:=by
  rcases Nat.eq_zero_or_pos t with h0 | h0
  · exfalso
    have hw:∀ x∈dat,wholeB x=true:=fun x hx=>by
     obtain ⟨k,hk,rfl⟩:=List.getElem_of_mem hx
     cases hb2:wholeB dat[k] with
     | true=>rfl
     |
      false =>
      rw [okSeg_no hk hb2 (.inr h0)] at hs
      cases hs
    rw [cutM_no hw] at q3
    cases q3
  exact h0
 have hlz2:=hlz ht0
 refine aG ?_
 refine aI ?_ (decide_eq_false (show ¬(↑i:Int)<(↑i:Int) from (by omega)))
 refine ev_fin (go Tryz.tbs_ok 1000 ?_)
 refine aC (T8 (b1) (x6) (x7)) [4] [] fun ⟨x100,x101⟩ h102=>?_
 refine aD (T9 (b1) (x100) (x101)) [2,4,0] [.inl 0] (fun v0_=>[.box (b1) 49 [vP q,vI D.starts,.bl false,vI ↑b,vI ↑t],.fact (DiskM q r.fst)]) fun _ h103=>?_
 refine aJ ?_
 refine aJ ?_ (dec_yes (by with_reducible assumption))
 refine aC T10 [4] [] fun _ h104=>?_
 refine aI ?_
 exact ev_fin ⟨trivial,_,rfl,((b1,C,e)),rfl,trivial,aF [2,4,1]⟩
set_option maxHeartbeats 8000000 in
theorem openWhole (q:Nat) (D:DK) (hD:okD D) (h:D.down=false) (ho:okN (namesD D)=true) (hs:okSeg (tailsM (namesD D)) (dataD D)=true) (hre:(runD (remL (staleM (namesD D))) D).2=0) (hc:cutM (dataD D)=none):Triple Tryz.prog 12 [pP q] [DiskM q D] [TabA] (Nat × Option Addr × Nat) (fun (p,C,c)=>.tuple #[pP p,.slice C (payM (dataD D)).length c,.int .i64 0]) (fun _=>True) (fun (p,C,c)=>[WalM p q ⟨D.starts,false,baseM (namesD D),tailsM (namesD D)⟩,DiskM q (runD (remL (staleM (namesD D))) D).1,Row 9 1 C (payM (dataD D)).length c ((payM (dataD D)).flatMap encS)]):=by
 unfold WalM ptW
 unfold dataD at hc ⊢
 have T1:=startsM q D hD
 have T2:=upM q D hD
 rw [h] at T2
 have T3:=namesM q D hD
 have hfew:=hD.few
 unfold dataD at hs
 obtain ⟨L,hL⟩:∃ L,L=D.files.map nameEG:=⟨_,rfl⟩
 obtain ⟨n,hn⟩:∃ n,n=D.files.length:=⟨_,rfl⟩
 have hnl:n=L.length:=by rw [hL,hn,List.length_map]
 have hLN:namesD D=L:=hL.symm
 rw [hLN] at ho hs
 rw [←hL,←hn] at T3
 have T4:=fun A c=>lookR A L n c hnl (by omega)
 rw [ho] at T4
 have hbt:=last_le L
 obtain ⟨b,hb⟩:∃ b,b=baseM L:=⟨_,rfl⟩
 obtain ⟨t,ht⟩:∃ t,t=tailsM L:=⟨_,rfl⟩
 rw [←hb,←ht] at hbt hs T4
 have T5:=segsT b t (by omega) (by omega)
 obtain ⟨S,hS⟩:∃ S,S=segsM b t:=⟨_,rfl⟩
 rw [←hS] at hs T5
 obtain ⟨m,hm⟩:∃ m,m=S.length:=⟨_,rfl⟩
 rw [←hm] at T5
 have hm1:m≤16:=by rw [hm,hS,hb,ht];have:=segs_few L;omega
 obtain ⟨dat,hdat⟩:∃ dat,dat=S.map fun x=>(readD D x).1:=⟨_,rfl⟩
 rw [←hdat] at hs
 have hdl:dat.length=m:=by rw [hdat,List.length_map,hm]
 have hget:∀ i (hi:i<S.length),dat[i]? = some (readD D S[i]).1:=fun i hi=>by rw [hdat,List.getElem?_map,List.getElem?_eq_getElem hi];rfl
 rw [hLN] at hre ⊢
 rw [hLN] at hc
 rw [←hb,←ht,←hS,←hdat] at hc ⊢
 obtain ⟨la,hla⟩:∃ la,la=endM b t:=⟨_,rfl⟩
 have hlz:0<t→¬ la=(⟨#[]⟩:ByteArray):=fun ht q=>by
  have:=congrArg ByteArray.size q
  rw [hla] at this
  unfold endM at this
  rw [if_neg (by omega)] at this
  have h2:=nmB_pos 115 (b+t)
  rw [this] at h2
  exact absurd h2 (by decide)
 obtain ⟨sl,hsl⟩:∃ sl,sl=staleM L:=⟨_,rfl⟩
 rw [←hsl] at T4
 have hsn:sl.length≤1000:=by rw [hsl];have:=stale_len L;omega
 obtain ⟨ns,hns⟩:∃ ns,ns=sl.length:=⟨_,rfl⟩
 rw [←hns] at T4 hsn
 have T8:=fun p A c=>removedF p q D.starts (b:Nat) (t:Nat) A ns c sl hns (by omega)
 have T9:=fun p ia ic=>doA p q D.starts false (b:Nat) (t:Nat) ia ic (remL sl) D hD
 unfold ptW at T9
 have hD1:okD (runD (remL sl) D).1:=runD_ok remL_ok hD
 obtain ⟨r,hr⟩:∃ r,r=runD (remL sl) D:=⟨_,rfl⟩
 rw [←hr] at T9 hD1
 obtain ⟨bd,hbd⟩:∃ bd,bd=(false || badE r.2):=⟨_,rfl⟩
 rw [←hbd] at T9
 obtain ⟨fs,hfs⟩:∃ fs,fs=remL sl:=⟨_,rfl⟩
 rw [←hfs] at T9
 replace T8:∀ p A c,Triple Tryz.prog 41 [pP p,.slice A ns c] [Row 9 1 A ns c (sl.flatMap encS)] [] FnV (fun v=>.func (.func v.1) #[] v.2) (fun _=>True) (fun it=>[IterA p q D.starts (b:Nat) (t:Nat) it fs]):=fun p A c=>by
  rw [hfs]
  exact T8 p A c
 rw [←hsl,←hfs,hfs,←hr] at hre ⊢
 rw [hre,show (false || badE 0)=false from rfl] at hbd
 rw [hre,hbd] at T9
 refine aT Tryz.func12 [vP q] [.fact (DiskM q D)] (fun E=>?_) ⟨trivial,trivial⟩
 refine go_fact (Row 9 1 none 0 0 (([]:List ByteArray).flatMap encS)) (Row.nilE _ _) ?_
 refine aG ?_
 refine aC T1 [0] [] fun _ h0=>?_
 refine ev_new fun b1=>?_
 refine aC T2 [0] [] fun _ h2=>?_
 refine aI ?_
 refine aC T3 [0] [] fun ⟨x3,x4⟩ h5=>?_
 refine aC (T4 (x3) (x4)) [] [.inl 0,.inr 3] fun ⟨x6,x7⟩ h8=>?_
 refine ev_new fun b9=>?_
 refine aI ?_
 refine aC T5 [] [.inl 0] fun ⟨x10,x11⟩ h12=>?_
 refine ev_stop (go_loopR [2,3,4,10,11,12,13,14,15,16,17,18,23,30,33,34,40,43,47,48,49,50,51,52,53,54,55,56,57,58,59,60,61,62,63,64,65,66,67,68,69,70,71,72,73,74,75,76,77,78,79,80,81,82] (fun (i,C,z,e,_,cut,en)=>[(10,vL C z e),(11,.va (.string cut)),(12,vI en),(47,vI (i:Nat))]) (fun (_,C,z,e,M,_)=>[(1,.fact (Row 9 1 C z e (M.flatMap encS)))]) (fun (i,_,z,_,M,cut,en)=>i≤m∧z=M.length∧z≤i*2000000∧M=payM (dat.take i)∧cutAt t dat la i cut en) (fun (i,_)=>m-i) ((0,none,0,0,[],⟨#[]⟩,0):Nat × Option Addr × Nat × Nat × List ByteArray × ByteArray × Int) ⟨Nat.zero_le _,rfl,Nat.zero_le _,rfl,.inl ⟨rfl,rfl,fun k x hk=>absurd hk (by omega)⟩⟩ aS (fun x_ h_=>?_))
 obtain ⟨i,C,z,e,M,cut,en⟩:=x_
 obtain ⟨hi,hz,hz2,hM,hup⟩:=h_
 rcases Nat.lt_or_ge i m with him | him
 · have hiS:i<S.length:=by omega
   obtain ⟨x,hx⟩:∃ x,x=(readD D S[i]).1:=⟨_,rfl⟩
   have hxs:=read_size hD S[i]
   have hgx:=hget i hiS
   have T6:=readM q D S[i] hD
   rw [←hx] at hxs hgx T6
   have T7:=wholeT x (by omega)
   have hwl:=whole_len x
   have hzl:z+(wholeM x).1.length≤(i+1)*2000000:=by rw [Nat.succ_mul];omega
   have hzm:z+(wholeM x).1.length≤100000000:=by have:(i+1)*2000000≤16*2000000:=Nat.mul_le_mul_right _ (by omega);omega
   have hst:=payM_step (dat:=dat) (i:=i) (by omega)
   have hxe:dat[i]'(by omega)=x:=by
    have:=hgx
    rw [List.getElem?_eq_getElem (by omega)] at this
    exact Option.some.inj this
   rw [hxe,←hM] at hst
   have hno:wholeB x=false→¬ (i+1<m∨t=0):=fun hw h2=>by
    have:=okSeg_no (t:=t) (dat:=dat) (k:=i) (by omega) (by rw [hxe];exact hw) (by rw [hdl];exact h2)
    rw [hs] at this
    cases this
   refine aG ?_
   refine aJ ?_ (decide_eq_true (show (↑i:Int)<(↑m:Int) from (by omega)))
   refine ev_stop (go_index0 (sz:=1) Tryz.tbs_ok (.inr 6) (i) rfl rfl rfl rfl rfl rfl (by omega) rfl Row.at0 (fun g60 e61=>?_))
   subst e61
   refine aG ?_
   have l62:i<(S).length:=(by omega)
   refine ev_stop (go_loadE Tryz.tbs_ok (.inr 6) (i) 0 rfl rfl rfl rfl (fun _ h=>Row.rd h) (by omega) (fun _=>rfl) (by omega) l62 (by decide) ?_)
   refine aG ?_
   refine aC T6 [0] [] fun _ h63=>?_
   refine aC T7 [] [] fun ⟨x64,x65⟩ h66=>?_
   refine ev_if_lt (fun h67=>?_) (fun h67=>?_)
   refine aG ?_
   refine wO (m-1) ?_
   refine ev_if_lt (fun h68=>?_) (fun h68=>?_)
   refine aG ?_
   rotate_left
   refine aG ?_
   refine ev_if_eq (fun h69=>?_) (fun h69=>?_)
   refine aG ?_
   rotate_left
   refine aG ?_
   refine ev_stop (go_appendE (sz:=1) (M:=[_]) (enc:=encS) Tryz.tbs_ok [1] [] (.inr 7) (M) ((wholeM x).fst) ((M)++((wholeM x).fst)) (z+(wholeM x).fst.length) rfl rfl rfl rfl rfl rfl rfl (by decide) rfl (by decide) (fun _ p=>starH_one.1 p) rfl (fun _ h=>Row.rd h) (by first | rfl | simp) (by first | rfl | omega) (aM (z+(wholeM x).fst.length)) (aN (z+(wholeM x).fst.length)) (fun _ _=>aL) (fun A70 c71 h72=>?_))
   refine aG ?_
   refine wN (i+1) ?_
   refine ev_fin (round_next ((i+1,A70,z+(wholeM x).fst.length,c71,M++(wholeM x).fst,S[i],(↑(wholeM x).snd:Int))) (?_:i+1≤m∧z+(wholeM x).fst.length=(M++(wholeM x).fst).length∧z+(wholeM x).fst.length≤(i+1)*2000000∧M++(wholeM x).fst=payM (List.take (i+1) dat)∧cutAt t dat la (i+1) S[i] (↑(wholeM x).snd:Int)) (show m-(i+1)<m-i from (by omega)) aS)
   rotate_left
   refine aG ?_
   refine ev_stop (go_appendE (sz:=1) (M:=[_]) (enc:=encS) Tryz.tbs_ok [1] [] (.inr 7) (M) ((wholeM x).fst) ((M)++((wholeM x).fst)) (z+(wholeM x).fst.length) rfl rfl rfl rfl rfl rfl rfl (by decide) rfl (by decide) (fun _ p=>starH_one.1 p) rfl (fun _ h=>Row.rd h) (by first | rfl | simp) (by first | rfl | omega) (aM (z+(wholeM x).fst.length)) (aN (z+(wholeM x).fst.length)) (fun _ _=>aL) (fun A73 c74 h75=>?_))
   refine aG ?_
   refine wN (i+1) ?_
   refine ev_fin (round_next ((i+1,A73,z+(wholeM x).fst.length,c74,M++(wholeM x).fst,cut,en)) (?_:i+1≤m∧z+(wholeM x).fst.length=(M++(wholeM x).fst).length∧z+(wholeM x).fst.length≤(i+1)*2000000∧M++(wholeM x).fst=payM (List.take (i+1) dat)∧cutAt t dat la (i+1) cut en) (show m-(i+1)<m-i from (by omega)) aS)
   rotate_left
   · exact absurd (by omega) (hno (whole_no (by omega)))
   · exact absurd (by omega) (hno (whole_no (by omega)))
   · refine ⟨by omega,by rw [List.length_append,hz],hzl,hst.symm,?_⟩
     have hi1:i+1=m:=by omega
     have ht1:0<t:=by omega
     have hc:S[i]=la:=by subst hS;rw [hla];exact seg_last ht1 (by omega) _
     rw [hc]
     exact cutAt_torn hgx (by omega) (whole_no (by omega))
   exact ⟨by omega,by rw [List.length_append,hz],hzl,hst.symm,cutAt_whole hup (by omega) hgx (whole_yes (by omega))⟩
 obtain rfl:i=m:=by omega
 rw [List.take_of_length_le (by omega)] at hM
 rw [←hM,←hz]
 rw [←hdl] at hup
 rcases cutAt_end hup with ⟨q1,q2,q3⟩ | ⟨q1,z',q2,q3⟩
 · subst q1 q2
   refine aG ?_
   refine aI ?_ (decide_eq_false (show ¬(↑i:Int)<(↑i:Int) from (by omega)))
   refine ev_fin (go Tryz.tbs_ok 1000 ?_)
   refine aC (T8 (b1) (x6) (x7)) [4] [] fun ⟨x100,x101⟩ h102=>?_
   refine aD (T9 (b1) (x100) (x101)) [2,4,0] [.inl 0] (fun v0_=>[.box (b1) 49 [vP q,vI D.starts,.bl false,vI ↑b,vI ↑t],.fact (DiskM q r.fst)]) fun _ h103=>?_
   refine aJ (aI (aI ?_))
   exact ev_fin ⟨trivial,_,rfl,((b1,C,e)),rfl,trivial,aF [2,4,1]⟩
 rw [q3] at hc
 cases hc
theorem openErr (q:Nat) (D:DK) (hD:okD D) (h:(openD D).2.1≠0):Triple Tryz.prog 12 [pP q] [DiskM q D] [TabA] Unit (fun _=>.tuple #[.pointer none,.slice none 0 0,.int .i64 (openD D).2.1]) (fun _=>True) (fun _=>[DiskM q (openD D).1]):=by
 unfold openD at h ⊢
 cases hd:D.down with
 |
  true =>
  rw [if_pos rfl]
  exact openDown q D hD hd
 |
  false =>
  rw [hd,if_neg (by decide)] at h
  rw [if_neg (by decide)]
  cases ho:okN (namesD D) with
  |
   false =>
   rw [if_pos (.inl rfl)]
   exact openOdd q D hD hd ho
  |
   true =>
   cases hs:okSeg (tailsM (namesD D)) (dataD D) with
   |
    false =>
    rw [if_pos (.inr rfl)]
    exact openBroke q D hD hd ho hs
   |
    true =>
    rw [ho,hs,if_neg (by decide)] at h
    rw [if_neg (by decide)]
    by_cases hr:(runD (remL (staleM (namesD D))) D).2=0
    · rw [if_neg (by simpa using hr)] at h ⊢
      cases hc:cutM (dataD D) with
      |
       none =>
       rw [hc] at h
       exact absurd rfl h
      |
       some z =>
       rw [hc] at h
       exact openCutE q D hD hd ho hs hr z hc _ rfl h
    rw [if_pos hr]
    exact openRem q D hD hd ho hs hr
theorem openOk (q:Nat) (D:DK) (hD:okD D) (h:(openD D).2.1=0):Triple Tryz.prog 12 [pP q] [DiskM q D] [TabA] (Nat × Option Addr × Nat) (fun (p,C,c)=>.tuple #[pP p,.slice C (openD D).2.2.2.length c,.int .i64 0]) (fun _=>True) (fun (p,C,c)=>[WalM p q (openD D).2.2.1,DiskM q (openD D).1,Row 9 1 C (openD D).2.2.2.length c ((openD D).2.2.2.flatMap encS)]):=by
 unfold openD at h ⊢
 cases hd:D.down with
 |
  true =>
  rw [hd,if_pos rfl] at h
  cases h
 |
  false =>
  rw [hd,if_neg (by decide)] at h
  rw [if_neg (by decide)]
  cases ho:okN (namesD D) with
  |
   false =>
   rw [ho,if_pos (.inl rfl)] at h
   cases h
  |
   true =>
   cases hs:okSeg (tailsM (namesD D)) (dataD D) with
   |
    false =>
    rw [hs,if_pos (.inr rfl)] at h
    cases h
   |
    true =>
    rw [ho,hs,if_neg (by decide)] at h
    rw [if_neg (by decide)]
    by_cases hr:(runD (remL (staleM (namesD D))) D).2=0
    · rw [if_neg (by simpa using hr)] at h ⊢
      cases hc:cutM (dataD D) with
      | none=>exact openWhole q D hD hd ho hs hr hc
      |
       some z =>
       rw [hc] at h
       exact openCut q D hD hd ho hs hr z hc _ rfl h
    rw [if_pos hr] at h
    exact absurd h hr
theorem open_ok {D:DK} (hD:okD D):okD (openD D).1:=by
 unfold openD
 split
 · exact hD
 split
 · exact hD
 have h1:okD (runD (remL (staleM (namesD D))) D).1:=runD_ok remL_ok hD
 dsimp only
 split
 · exact h1
 dsimp only
 split
 · exact h1
 exact trunc_ok h1 _ _
def tB:ByteArray:=⟨#[116]⟩
def ckL3 (F:ByteArray) (n:Nat):List (DK→DK × Int):=[fun D=>appD D tB F,fun D=>syncD D tB,fun D=>renD D tB (nmB 99 n)]
def ckW (W:WK) (D:DK) (ps:List ByteArray):WK × DK × Int :=
 if askW W.s W.bad D≠0 then (W,D,askW W.s W.bad D)
 else if (framedM ps).2≠0 then (W,D,(framedM ps).2)
 else if 999999999≤W.b+W.t then (W,D,40)
 else
  let r:=runD (ckL3 (framedM ps).1 (W.b+W.t+1)) D
  if r.2≠0 then (⟨W.s,W.bad || badE r.2,W.b,W.t⟩,r.1,r.2)
  else
   let r2:=runD (remL (staleM (namesD r.1))) r.1
   (⟨W.s,W.bad || badE r2.2,baseM (namesD r.1),tailsM (namesD r.1)⟩,r2.1,r2.2)
theorem ckL3_ok {F:ByteArray} {n:Nat}:∀ f∈ckL3 F n,∀ D,okD D→okD (f D).1:=fun f hf D h=>by
 simp only [ckL3,List.mem_cons,List.not_mem_nil,or_false] at hf
 rcases hf with rfl | rfl | rfl
 · exact app_ok h _ _
 · exact sync_ok h _
 exact ren_ok h _ _
theorem renC (p q bw bn:Nat) (s:Int) (bad:Bool) (b t:Int) (n:Nat) (hn:n≤999999999) (D:DK) (hD:okD D) :
 Triple Tryz.prog 55 [pP bw,pP bn] [Pt bw 29 [pP p],Pt bn 3 [.int .i64 (n:Nat)],ptW p q s bad b t,DiskM q D] [TabA] Unit (fun _=>.int .i64 (renD D tB (nmB 99 n)).2) (fun _=>True) (fun _=>[Pt bw 29 [pP p],Pt bn 3 [.int .i64 (n:Nat)],ptW p q s bad b t,DiskM q (renD D tB (nmB 99 n)).1]):=by
 have T1:Triple Tryz.prog 56 [pP q,.string ⟨#[116]⟩,.string (⟨#[99]⟩++decB n)] [DiskM q D] [] Unit (fun _=>.int .i64 (renD D tB (nmB 99 n)).2) (fun _=>True) (fun _=>[DiskM q (renD D tB (nmB 99 n)).1]):=renM q D tB (nmB 99 n) hD
 have T2:=itoaT n (by omega)
 have hz:=decB_size n (by omega)
 have h99:(⟨#[99]⟩:ByteArray).size=1:=rfl
 obtain ⟨R,hR⟩:∃ R,R=renD D tB (nmB 99 n):=⟨_,rfl⟩
 rw [←hR] at T1 ⊢
 refine aT Tryz.func55 [.pt 0 bw 0,.pt 1 bn 0] [.box bw 29 [.pt 2 p 0],.box bn 3 [vI (n:Nat)],.box p 49 [vP q,vI s,.bq bad,vI b,vI t],.fact (DiskM q D)] (fun E=>?_) ⟨rfl,rfl,trivial⟩
 refine aG ?_
 refine ev_stop (go_draw Tryz.tbs_ok false [0,1,2] [(0,true),(1,true),(2,true),(3,true),(4,true),(5,false),(6,false),(7,false),(8,false)] rfl ?_)
 refine aG (aE ?_)
 refine aC T2 [] [.inl 0] fun _ h0=>?_
 refine aE ?_
 refine ev_stop (go_bin (.va _) trivial rfl rfl rfl rfl rfl (by decide) (by decide) (fun w=>cat_run (by omega) w) ?_)
 refine aG (aE ?_)
 refine aC T1 [3] [] fun _ h1=>?_
 refine aE (aK ?_)
 exact ev_fin ⟨trivial,_,rfl,(),rfl,trivial,aF [0,1,2,3]⟩
theorem one3 (p q:Nat) (s b t:Int) (bx bw bn:Nat) (n:Nat) (hn:n≤999999999) (a1:FuncId) (c1:Array Value) (a2:FuncId) (c2:Array Value) (f1 f2 f3:DK→DK × Int) (hf3:f3=fun D=>renD D tB (nmB 99 n)) :
 Triple Tryz.prog 50 [.slice (some ⟨bx,0,none⟩) 3 3] [ChgA p q s b t (a1,c1) f1,ChgA p q s b t (a2,c2) f2,Pt bn 3 [.int .i64 (n:Nat)],Pt bx 40 [.func (.func a1) #[] c1,.func (.func a2) #[] c2,.func (.func 55) #[] #[pP bw,pP bn]]] [] FnV (fun v=>.func (.func v.1) #[] v.2) (fun _=>True) (fun it=>[IterK p q s b t (Pt bw 29 [pP p]) it [f1,f2,f3]]):=by
 subst hf3
 refine Triple.pre (α:={ C:Asn × Asn // ChgOf p q s b t C.1 (fnV (a1,c1)) f1∧ChgOf p q s b t C.2 (fnV (a2,c2)) f2 }) (M:=fun C=>[C.1.1,C.1.2,Pt bn 3 [.int .i64 (n:Nat)],Pt bx 40 [.func (.func a1) #[] c1,.func (.func a2) #[] c2,.func (.func 55) #[] #[pP bw,pP bn]]]) (fun h z=>?_) fun ⟨(C1,C2),h1,h2⟩=>?_
 · obtain ⟨C1,z⟩:=starH_ex.1 z
   obtain ⟨h1,z⟩:=starH_pure.1 (starH_star.1 z)
   obtain ⟨C2,z⟩:=starH_ex.1 (starH_swap z)
   obtain ⟨h2,z⟩:=starH_pure.1 (starH_star.1 z)
   exact ⟨⟨(C1,C2),h1,h2⟩,starH_swap z⟩
 refine ((oneF (some ⟨bx,0,none⟩) 3 3).frame _).imp fun bs _=>⟨(134,#[pP bs]),rfl,trivial,fun h z=>starH_one.2 ?_⟩
 obtain ⟨C,hC⟩:∃ C,C=Asn.star [C1,C2,Pt bw 29 [pP p],Pt bn 3 [.int .i64 (n:Nat)]]:=⟨_,rfl⟩
 have g1:ChgOf p q s b t C (fnV (a1,c1)) f1:=h1.wide (R:=Asn.star [C2,Pt bw 29 [pP p],Pt bn 3 [.int .i64 (n:Nat)]]) fun h=>by
  rw [hC]
  exact ⟨fun z=>starH_tail (fun _ z=>starH_one.2 (star_holds.2 z)) (star_holds.1 z),fun z=>star_holds.2 (starH_tail (fun _ z=>star_holds.1 (starH_one.1 z)) z)⟩
 have g2:ChgOf p q s b t C (fnV (a2,c2)) f2:=h2.wide (R:=Asn.star [C1,Pt bw 29 [pP p],Pt bn 3 [.int .i64 (n:Nat)]]) fun h=>by
  rw [hC]
  exact ⟨fun z=>starH_tail (fun _ z=>starH_one.2 (star_holds.2 z)) (starH_swap (star_holds.1 z)),fun z=>star_holds.2 (starH_swap (starH_tail (fun _ z=>star_holds.1 (starH_one.1 z)) z))⟩
 have g3:ChgOf p q s b t C (.func (.func 55) #[] #[pP bw,pP bn]) (fun D=>renD D tB (nmB 99 n)):=by
  refine ChgOf.wide (C:=Asn.star [Pt bw 29 [pP p],Pt bn 3 [.int .i64 (n:Nat)]]) (R:=Asn.star [C1,C2]) ⟨_,_,rfl,show HasFn 55 from ⟨by decide,by decide,by decide⟩,fun D h=>ren_ok h _ _,fun bad D hD=>?_⟩ fun h=>?_
  · exact (renC p q bw bn s bad b t n hn D hD).shape (fun h z=>starH_star.1 z) (fun _ h z=>starH_star.2 z)
  rw [hC]
  constructor
  · intro z
    exact starH_star.2 (starH_perm (l:=Asn.star [C1,C2]::[Pt bw 29 [pP p],Pt bn 3 [.int .i64 (n:Nat)]]) ((List.Perm.swap _ _ _).trans (.cons _ (.swap _ _ _))) (starH_star.2 (star_holds.1 z)))
  intro z
  exact star_holds.2 ((starH_star (l:=[C1,C2])).1 (starH_perm (l:=[Pt bw 29 [pP p],Pt bn 3 [.int .i64 (n:Nat)]]++[Asn.star [C1,C2]]) ((List.Perm.cons _ (.swap _ _ _)).trans (.swap _ _ _)) (starH_star.1 z)))
 have hI:=valuesI p q bs s b t (some ⟨bx,0,none⟩) 3 3 [(a1,c1),(a2,c2),(55,#[pP bw,pP bn])] [f1,f2,fun D=>renD D tB (nmB 99 n)] C rfl (by decide) rfl (fun i v' f' e1 e2=>by
  match i with
  | 0=>cases e1;cases e2;exact g1
  | 1=>cases e1;cases e2;exact g2
  | 2=>cases e1;cases e2;exact g3
  | i+3=>simp at e1)
 obtain ⟨Rw,hRw⟩:∃ Rw,Rw=Row 40 1 (some ⟨bx,0,none⟩) 3 3 ([(a1,c1),(a2,c2),((55:FuncId),(#[pP bw,pP bn]:Array Value))].flatMap encV):=⟨_,rfl⟩
 rw [←hRw] at hI
 refine ⟨Asn.star [Pt bs 133 [.slice (some ⟨bx,0,none⟩) 3 3],Rw,C1,C2,Pt bn 3 [.int .i64 (n:Nat)]],star_holds.2 (starH_pure.2 ⟨hI.shape fun h=>?_,?_⟩)⟩
 · constructor
   · intro z
     have z1:=(starH_star (l:=[_,_,_,_,_])).1 (star_holds.1 z)
     refine star_holds.2 (starH_tail (fun _ z=>starH_tail (fun _ z=>?_) z) z1)
     rw [hC]
     exact starH_one.2 (star_holds.2 (starH_tail (fun _ z=>starH_tail (fun _ z=>starH_swap z) z) z))
   intro z
   have z1:=star_holds.1 z
   rw [hC] at z1
   refine star_holds.2 ((starH_star (l:=[_,_,_,_,_])).2 (starH_tail (fun _ z=>starH_tail (fun _ z=>?_) z) z1))
   exact starH_tail (fun _ z=>starH_tail (fun _ z=>starH_swap z) z) (star_holds.1 (starH_one.1 z))
 refine starH_star.2 ?_
 have z1:Asn.starH [Pt bs 133 [.slice (some ⟨bx,0,none⟩) 3 3],C1,C2,Pt bn 3 [.int .i64 (n:Nat)],Rw] h:=starH_tail (fun _ z=>starH_tail (fun _ z=>starH_tail (fun _ z=>starH_tail (fun _ z=>starH_one.2 (by
  rw [hRw]
  exact Pt.row (starH_one.1 z) (n:=3) rfl (by decide))) z) z) z) z
 refine starH_perm ?_ z1
 refine .cons _ ?_
 exact List.perm_append_comm (l₁:=[C1,C2,Pt bn 3 [.int .i64 (n:Nat)]]) (l₂:=[Rw])
abbrev CkT (p q:Nat) (A:Option Addr) (np cp:Nat) (ps:List ByteArray) (s:Int) (bad:Bool) (b t:Nat) (D:DK) (R:WK × DK × Int):Prop :=
 Triple Tryz.prog 21 [pP p,.slice A np cp] [Pt p 49 [pP q,.int .i64 s,.bool bad,.int .i64 (b:Nat),.int .i64 (t:Nat)],DiskM q D] [TabA,Rd 1 A np (ps.flatMap encS)] Unit (fun _=>.int .i64 R.2.2) (fun _=>True) (fun _=>[Pt p 49 [pP q,.int .i64 R.1.s,.bool R.1.bad,.int .i64 (R.1.b:Nat),.int .i64 (R.1.t:Nat)],DiskM q R.2.1])
set_option maxHeartbeats 8000000 in
theorem ckWT (p q:Nat) (W:WK) (D:DK) (A:Option Addr) (ps:List ByteArray) (np cp:Nat) (hp:np=ps.length) (hp1:np≤10000) (hp2:∀ p∈ps,p.size≤900000000) (hD:okD D) (hW:okW W) :
 Triple Tryz.prog 21 [pP p,.slice A np cp] [WalM p q W,DiskM q D] [TabA,Rd 1 A np (ps.flatMap encS)] Unit (fun _=>.int .i64 (ckW W D ps).2.2) (fun _=>True) (fun _=>[WalM p q (ckW W D ps).1,DiskM q (ckW W D ps).2.1]):=by
 obtain ⟨s,bad,b,t⟩:=W
 replace hW:b+t≤999999999:=hW
 have TA:=askT p q s bad b t D hD
 have TF:=framedT A ps np cp hp hp1 hp2
 obtain ⟨R,hR⟩:∃ R,R=ckW ⟨s,bad,b,t⟩ D ps:=⟨_,rfl⟩
 unfold WalM ptW
 unfold ptW at TA
 rw [←hR]
 show CkT p q A np cp ps s bad b t D R
 unfold ckW at hR
 dsimp only at hR
 rcases ask_cases s bad D with h | h
 · rw [h] at TA hR
   rw [if_neg (by decide)] at hR
   by_cases hf:(framedM ps).2=0
   · rw [hf] at TF hR
     rw [if_neg (by decide)] at hR
     have hF:=framed_size hf
     obtain ⟨F,hFe⟩:∃ F,F=(framedM ps).1:=⟨_,rfl⟩
     rw [←hFe] at hR hF TF
     have hF2:F.size≤100000000:=by rw [←hp] at hF;omega
     have TL:=Proofs.YtjlfdfmkofbccaaGreatDoor.lastT b t (by omega)
     by_cases h99:999999999≤b+t
     · rw [if_pos h99] at hR
       subst hR
       refine aT Tryz.func21 [.pt 0 p 0,vL A np cp] [.box p 49 [vP q,vI s,.bq bad,vI (b:Nat),vI (t:Nat)],.fact (DiskM q D)] (fun E=>?_) ⟨rfl,trivial,trivial⟩
       refine aG ?_
       refine ev_new fun b0=>?_
       refine aD TA [0,1] [] (fun v0_=>[.box (p) 49 [vP q,vI s,.bq (bad),vI ↑b,vI ↑t],.fact (DiskM q D)]) fun _ h1=>?_
       refine aI ?_
       refine aC TF [] [.inl 1] fun _ h2=>?_
       refine aI ?_
       refine aC TL [] [] fun _ h3=>?_
       refine aJ ?_ (decide_eq_true (show (↑(b+t):Int) ≥ 999999999 from (by omega)))
       exact ev_fin ⟨trivial,_,rfl,(),rfl,trivial,aF [0,1]⟩
     rw [if_neg h99] at hR
     obtain ⟨f1,hf1⟩:∃ f:DK→DK × Int,f=fun D=>appD D tB F:=⟨_,rfl⟩
     obtain ⟨f2,hf2⟩:∃ f:DK→DK × Int,f=fun D=>syncD D tB:=⟨_,rfl⟩
     obtain ⟨f3,hf3⟩:∃ f:DK→DK × Int,f=fun D=>renD D tB (nmB 99 (b+t+1)):=⟨_,rfl⟩
     have hD1:okD (runD (ckL3 F (b+t+1)) D).1:=runD_ok ckL3_ok hD
     have he:ckL3 F (b+t+1)=[f1,f2,f3]:=by rw [hf1,hf2,hf3];rfl
     rw [he] at hR hD1
     have TP1:Triple Tryz.prog 51 [pP p,.string ⟨#[116]⟩,.string F] [] [] FnV (fun v=>.func (.func v.1) #[] v.2) (fun _=>True) (fun v=>[ChgA p q s b t v f1]):=by
      rw [hf1]
      exact putF p q s b t tB F hF2
     have TP2:Triple Tryz.prog 52 [pP p,.string ⟨#[116]⟩] [] [] FnV (fun v=>.func (.func v.1) #[] v.2) (fun _=>True) (fun v=>[ChgA p q s b t v f2]):=by
      rw [hf2]
      exact syncF p q s b t tB
     have TO:=fun bx bw bn a1 c1 a2 c2=>one3 p q s b t bx bw bn (b+t+1) (by omega) a1 c1 a2 c2 f1 f2 f3 hf3
     have TD:=fun ia ic bw=>doK p q s bad b t (Pt bw 29 [pP p]) ia ic [f1,f2,f3] D hD
     unfold ptW at TD
     obtain ⟨G,hG⟩:∃ G,G=runD [f1,f2,f3] D:=⟨_,rfl⟩
     rw [←hG] at TD hR hD1
     by_cases hg:G.2=0
     · rw [hg,bad_zero] at TD
       rw [if_neg (by simpa using hg)] at hR
       have TN:=namesM q G.1 hD1
       have hfew:=hD1.few
       obtain ⟨L,hL⟩:∃ L,L=G.1.files.map nameEG:=⟨_,rfl⟩
       obtain ⟨n,hn⟩:∃ n,n=G.1.files.length:=⟨_,rfl⟩
       have hnl:n=L.length:=by rw [hL,hn,List.length_map]
       have hLN:namesD G.1=L:=hL.symm
       rw [hLN] at hR
       rw [←hL,←hn] at TN
       have TK:=fun A c=>lookR A L n c hnl (by omega)
       obtain ⟨o,ho⟩:∃ o,o=okN L:=⟨_,rfl⟩
       rw [←ho] at TK
       obtain ⟨b',hb'⟩:∃ b',b'=baseM L:=⟨_,rfl⟩
       obtain ⟨t',ht'⟩:∃ t',t'=tailsM L:=⟨_,rfl⟩
       obtain ⟨sl,hsl⟩:∃ sl,sl=staleM L:=⟨_,rfl⟩
       have hsn:sl.length≤1000:=by rw [hsl];have:=stale_len L;omega
       rw [←hb',←ht',←hsl] at TK hR
       obtain ⟨ns,hns⟩:∃ ns,ns=sl.length:=⟨_,rfl⟩
       rw [←hns] at TK hsn
       obtain ⟨fs,hfs⟩:∃ fs,fs=remL sl:=⟨_,rfl⟩
       have T8:∀ A c,Triple Tryz.prog 41 [pP p,.slice A ns c] [Row 9 1 A ns c (sl.flatMap encS)] [] FnV (fun v=>.func (.func v.1) #[] v.2) (fun _=>True) (fun it=>[IterA p q s (b':Nat) (t':Nat) it fs]):=fun A c=>by
        rw [hfs]
        exact removedF p q s (b':Nat) (t':Nat) A ns c sl hns (by omega)
       have T9:=fun ia ic=>doA p q s bad (b':Nat) (t':Nat) ia ic fs G.1 hD1
       unfold ptW at T9
       rw [←hfs] at hR
       obtain ⟨H,hH⟩:∃ H,H=runD fs G.1:=⟨_,rfl⟩
       rw [←hH] at T9 hR
       obtain ⟨bd,hbd⟩:∃ bd,bd=(bad || badE H.2):=⟨_,rfl⟩
       rw [←hbd] at T9 hR
       subst hR
       refine aT Tryz.func21 [.pt 0 p 0,vL A np cp] [.box p 49 [vP q,vI s,.bq bad,vI (b:Nat),vI (t:Nat)],.fact (DiskM q D)] (fun E=>?_) ⟨rfl,trivial,trivial⟩
       refine aG ?_
       refine ev_new fun b0=>?_
       refine aD TA [0,1] [] (fun v0_=>[.box (p) 49 [vP q,vI s,.bq (bad),vI ↑b,vI ↑t],.fact (DiskM q D)]) fun _ h1=>?_
       refine aI ?_
       refine aC TF [] [.inl 1] fun _ h2=>?_
       refine aI ?_
       refine aC TL [] [] fun _ h3=>?_
       refine aI ?_ (decide_eq_false (show ¬(↑(b+t):Int) ≥ 999999999 from (by omega)))
       refine aC TL [] [] fun _ h4=>?_
       refine wN (b+t+1) ?_
       refine ev_new fun b5=>?_
       refine ev_stop (go_draw Tryz.tbs_ok false [2] [(0,true),(1,true),(2,true),(4,true),(6,true),(3,false),(5,false),(7,false),(8,false),(9,false),(10,false)] rfl ?_)
       refine aG (aE ?_)
       refine aC TP1 [] [] fun ⟨x6,x7⟩ h8=>?_
       refine aE ?_
       refine aC TP2 [] [] fun ⟨x9,x10⟩ h11=>?_
       refine aE ?_
       refine ev_new fun b12=>?_
       refine aE ?_
       refine aC (TO (b12) (b0) (b5) (x6) (x7) (x9) (x10)) [4,5,3,6] [] fun ⟨x13,x14⟩ h15=>?_
       refine aE ?_
       refine ev_call (TD (x13) (x14) (b0)) [0,1,2,4] [.inl 0] (fun v0_=>[.box (p) 49 [vP q,vI s,.bq (bad),vI ↑b,vI ↑t],.fact (DiskM q G.fst),.box (b0) 29 [SV.pt 0 p 0]]) rfl rfl (by decide) rfl (by simp) (fun _=>rfl) (fun _=>(newsOk_box (by repeat (first | exact trivial | refine ⟨rfl,?_⟩ | refine ⟨trivial,?_⟩)) (newsOk_fact (newsOk_box (by repeat (first | exact trivial | refine ⟨rfl,?_⟩ | refine ⟨trivial,?_⟩)) (newsOk_nil _))))) (fun _=>aL) (fun _ h16=>?_)
       refine aG (aE (aK (aI ?_)))
       refine aC TN [1] [] fun ⟨x17,x18⟩ h19=>?_
       refine aC (TK (x17) (x18)) [] [.inl 0,.inr 7] fun ⟨x20,x21⟩ h22=>?_
       refine ev_new fun b23=>?_
       refine ev_stop (go_draw Tryz.tbs_ok false [2] [(0,true),(1,true),(2,true),(3,false),(4,false),(5,false)] rfl ?_)
       refine aG (aE ?_)
       refine aC (T8 (x20) (x21)) [8] [] fun ⟨x24,x25⟩ h26=>?_
       refine aE ?_
       refine aD (T9 (x24) (x25)) [0,8,1] [.inl 0] (fun v0_=>[.box (p) 49 [vP q,vI s,.bq (bd),vI ↑b',vI ↑t'],.fact (DiskM q H.fst)]) fun _ h27=>?_
       refine aE (aK ?_)
       exact ev_fin ⟨trivial,_,rfl,(),rfl,trivial,aF [0,8]⟩
     rw [if_pos hg] at hR
     obtain ⟨bd,hbd⟩:∃ bd,bd=(bad || badE G.2):=⟨_,rfl⟩
     rw [←hbd] at TD hR
     subst hR
     refine aT Tryz.func21 [.pt 0 p 0,vL A np cp] [.box p 49 [vP q,vI s,.bq bad,vI (b:Nat),vI (t:Nat)],.fact (DiskM q D)] (fun E=>?_) ⟨rfl,trivial,trivial⟩
     refine aG ?_
     refine ev_new fun b0=>?_
     refine aD TA [0,1] [] (fun v0_=>[.box (p) 49 [vP q,vI s,.bq (bad),vI ↑b,vI ↑t],.fact (DiskM q D)]) fun _ h1=>?_
     refine aI ?_
     refine aC TF [] [.inl 1] fun _ h2=>?_
     refine aI ?_
     refine aC TL [] [] fun _ h3=>?_
     refine aI ?_ (decide_eq_false (show ¬(↑(b+t):Int) ≥ 999999999 from (by omega)))
     refine aC TL [] [] fun _ h4=>?_
     refine wN (b+t+1) ?_
     refine ev_new fun b5=>?_
     refine ev_stop (go_draw Tryz.tbs_ok false [2] [(0,true),(1,true),(2,true),(4,true),(6,true),(3,false),(5,false),(7,false),(8,false),(9,false),(10,false)] rfl ?_)
     refine aG (aE ?_)
     refine aC TP1 [] [] fun ⟨x6,x7⟩ h8=>?_
     refine aE ?_
     refine aC TP2 [] [] fun ⟨x9,x10⟩ h11=>?_
     refine aE ?_
     refine ev_new fun b12=>?_
     refine aE ?_
     refine aC (TO (b12) (b0) (b5) (x6) (x7) (x9) (x10)) [4,5,3,6] [] fun ⟨x13,x14⟩ h15=>?_
     refine aE ?_
     refine ev_call (TD (x13) (x14) (b0)) [0,1,2,4] [.inl 0] (fun v0_=>[.box (p) 49 [vP q,vI s,.bq (bd),vI ↑b,vI ↑t],.fact (DiskM q G.fst),.box (b0) 29 [SV.pt 0 p 0]]) rfl rfl (by decide) rfl (by simp) (fun _=>rfl) (fun _=>(newsOk_box (by repeat (first | exact trivial | refine ⟨rfl,?_⟩ | refine ⟨trivial,?_⟩)) (newsOk_fact (newsOk_box (by repeat (first | exact trivial | refine ⟨rfl,?_⟩ | refine ⟨trivial,?_⟩)) (newsOk_nil _))))) (fun _=>aL) (fun _ h16=>?_)
     refine aG (aE (aK ?_))
     refine aJ ?_ (ne_yes (by with_reducible assumption))
     exact ev_fin ⟨trivial,_,rfl,(),rfl,trivial,aF [0,1]⟩
   rw [if_pos hf] at hR
   subst hR
   refine aT Tryz.func21 [.pt 0 p 0,vL A np cp] [.box p 49 [vP q,vI s,.bq bad,vI (b:Nat),vI (t:Nat)],.fact (DiskM q D)] (fun E=>?_) ⟨rfl,trivial,trivial⟩
   refine aG ?_
   refine ev_new fun b0=>?_
   refine aD TA [0,1] [] (fun v0_=>[.box (p) 49 [vP q,vI s,.bq (bad),vI ↑b,vI ↑t],.fact (DiskM q D)]) fun _ h1=>?_
   refine aI ?_
   refine aC TF [] [.inl 1] fun _ h2=>?_
   refine aJ ?_ (ne_yes (by with_reducible assumption))
   exact ev_fin ⟨trivial,_,rfl,(),rfl,trivial,aF [0,1]⟩
 rw [h] at TA hR
 rw [if_pos (by decide)] at hR
 subst hR
 refine aT Tryz.func21 [.pt 0 p 0,vL A np cp] [.box p 49 [vP q,vI s,.bq bad,vI (b:Nat),vI (t:Nat)],.fact (DiskM q D)] (fun E=>?_) ⟨rfl,trivial,trivial⟩
 refine aG ?_
 refine ev_new fun b0=>?_
 refine aD TA [0,1] [] (fun v0_=>[.box (p) 49 [vP q,vI s,.bq (bad),vI ↑b,vI ↑t],.fact (DiskM q D)]) fun _ h1=>?_
 refine aJ ?_
 exact ev_fin ⟨trivial,_,rfl,(),rfl,trivial,aF [0,1]⟩
def encH3 (D:DK):List Value:=[.int .i64 D.most,.int .i64 D.starts,.bool D.down]
theorem RefD.peek3 {r:Nat} {D:DK} {h:Hp} (q:(RefD r D).holds h):(Rd 3 (some ⟨r,0,none⟩) 1 ([D].flatMap encH3)).holds h:=by
 obtain ⟨x,q⟩:=q
 obtain ⟨h1,h2,d,a,b,p,q⟩:=star_holds.1 q
 have p1:=Asn.mono _ a p
 refine ⟨rfl,fun v hv=>?_,fun _=>⟨r,0,_,_,_,rfl,p1.1,rfl⟩⟩
 simp only [List.flatMap_cons,List.flatMap_nil,List.append_nil,encH3,List.mem_cons,List.not_mem_nil,or_false] at hv
 rcases hv with rfl | rfl | rfl<;>rfl
def segN (b t:Nat):Nat:=(segsM b t).length
theorem segN_pos {b t:Nat} (h:0<t):0<segN b t:=by
 unfold segN segsM
 rw [List.length_append,List.length_map,List.length_range]
 omega
theorem seg_lastN {b t:Nat} (h:0<t):∃ hi:segN b t-1<(segsM b t).length,(segsM b t)[segN b t-1]'hi=nmB 115 (b+t):=by
 have h2:=segN_pos (b:=b) h
 refine ⟨by unfold segN at *;omega,?_⟩
 obtain ⟨t,rfl⟩:∃ t',t=t'+1:=⟨t-1,by omega⟩
 unfold segN
 simp only [segsM_one]
 rw [List.getElem_append_right (by simp)]
 simp only [List.length_append,List.length_cons,List.length_nil,List.getElem_singleton]
 rfl
theorem segN_eq (b t:Nat):segN b t=t+(if 0<b then 1 else 0):=by
 unfold segN segsM
 rw [List.length_append,List.length_map,List.length_range]
 split<;>simp<;>omega
def ptV (w r:Nat) (W:WK) (A:Option Addr) (c:Nat):Asn:=Pt w 139 [pP r,.int .i64 (W.b:Nat),.slice A (segN W.b W.t) c,.bool (decide (0<W.t)),.int .i64 W.s,.bool W.bad]
def rowV (W:WK) (A:Option Addr) (c:Nat):Asn:=Row 9 1 A (segN W.b W.t) c ((segsM W.b W.t).flatMap encS)
abbrev ptU (w r b:Nat) (A:Option Addr) (n c:Nat) (l:Bool) (s:Int) (bad:Bool):Asn:=Pt w 139 [pP r,.int .i64 (b:Nat),.slice A n c,.bool l,.int .i64 s,.bool bad]
theorem rData (w r b:Nat) (A:Option Addr) (n c:Nat) (l:Bool) (s:Int) (bad:Bool) (D:DK) (x:ByteArray) (hD:okD D):Triple Tryz.prog 109 [pP w,.string x] [ptU w r b A n c l s bad,RefD r D] [] Unit (fun _=>.string (readD D x).1) (fun _=>True) (fun _=>[ptU w r b A n c l s bad,RefD r D]):=by
 have T1:=qRead r D x hD
 refine aT Tryz.func109 [.pt 0 w 0,.va (.string x)] [.box w 139 [vP r,vI (b:Nat),vL A n c,.bq l,vI s,.bq bad],.fact (RefD r D)] (fun E=>?_) ⟨rfl,trivial,trivial⟩
 refine aG ?_
 refine aC T1 [1] [] fun _ h0=>?_
 exact ev_fin ⟨trivial,_,rfl,(),rfl,trivial,aF [0,1]⟩
theorem rTold (w r b:Nat) (A:Option Addr) (n c:Nat) (l:Bool) (s:Int) (bad:Bool) (e:Int):Triple Tryz.prog 113 [pP w,.int .i64 e] [ptU w r b A n c l s bad] [] Unit (fun _=>.int .i64 e) (fun _=>True) (fun _=>[ptU w r b A n c l s (bad || badE e)]):=by
 by_cases h:e=0∨e=40
 · have hb:(bad || badE e)=bad:=by unfold badE;rcases h with h | h<;>subst h<;>simp
   rw [hb]
   refine aT Tryz.func113 [.pt 0 w 0,vI e] [.box w 139 [vP r,vI (b:Nat),vL A n c,.bq l,vI s,.bq bad]] (fun E=>?_) ⟨rfl,trivial,trivial⟩
   rcases h with h | h
   · subst h
     refine aG (aI ?_)
     exact ev_fin ⟨trivial,_,rfl,(),rfl,trivial,aF [0]⟩
   subst h
   refine aG (aJ (aI ?_))
   exact ev_fin ⟨trivial,_,rfl,(),rfl,trivial,aF [0]⟩
 have hb:(bad || badE e)=true:=by unfold badE;simp;omega
 rw [hb]
 refine aT Tryz.func113 [.pt 0 w 0,vI e] [.box w 139 [vP r,vI (b:Nat),vL A n c,.bq l,vI s,.bq bad]] (fun E=>?_) ⟨rfl,trivial,trivial⟩
 refine aG ?_
 refine aJ ?_ (ne_yes (show ¬e=0 from (by omega)))
 refine aJ ?_ (ne_yes (show ¬e=40 from (by omega)))
 exact ev_fin ⟨trivial,_,rfl,(),rfl,trivial,aF [0]⟩
theorem rOver (w r b:Nat) (A:Option Addr) (n c:Nat) (l:Bool) (s:Int) (bad:Bool) (D:DK):Triple Tryz.prog 112 [pP w] [ptU w r b A n c l s bad,RefD r D] [] Unit (fun _=>.bool (askW s bad D != 0)) (fun _=>True) (fun _=>[ptU w r b A n c l s bad,RefD r D]):=by
 refine aT Tryz.func112 [.pt 0 w 0] [.box w 139 [vP r,vI (b:Nat),vL A n c,.bq l,vI s,.bq bad],.fact (RefD r D)] (fun E=>?_) ⟨rfl,trivial⟩
 unfold askW
 cases bad with
 | true =>
  refine go Tryz.tbs_ok 1000 ?_
  refine ev_stop (go_draw Tryz.tbs_ok false [0] [(0,true),(1,true),(2,true),(3,true),(4,true),(5,true),(6,true),(7,true),(8,true),(9,true),(10,true),(11,true),(12,true),(13,true),(14,true),(15,true),(16,true),(17,true),(18,true),(19,true),(20,true),(21,true),(22,true),(23,true),(24,true),(25,true),(26,true),(27,false)] rfl ?_)
  refine aG (aE (aJ (aE (aK ?_))))
  exact ev_fin ⟨trivial,_,rfl,(),rfl,trivial,aF [0,1]⟩
 |
  false =>
  cases hd:D.down with
  | true =>
   refine go Tryz.tbs_ok 1000 ?_
   refine ev_stop (go_draw Tryz.tbs_ok false [0,1] [(0,true),(1,true),(2,true),(3,true),(4,true),(5,true),(6,true),(7,true),(8,true),(9,true),(10,true),(11,true),(12,true),(13,true),(14,true),(15,true),(16,true),(17,true),(18,true),(19,true),(20,true),(21,true),(22,true),(23,true),(24,true),(25,true),(26,true),(27,false)] rfl ?_)
   refine aG (aE (aI (aE ?_)))
   have l0:0<([D]).length:=by simp
   refine ev_stop (tk_loadE Tryz.tbs_ok (.inr 1) 0 2 aB rfl rfl rfl rfl rfl (fun _ h=>RefD.peek3 h) (by omega) (fun _=>rfl) (by omega) l0 (by decide) ?_)
   refine aG (aE ?_)
   refine aJ ?_ (by assumption)
   refine aE (aK ?_)
   exact ev_fin ⟨trivial,_,rfl,(),rfl,trivial,aF [0,1]⟩
  |
   false =>
   by_cases hs:D.starts=s
   · rw [show (D.starts==s)=true from by simpa using hs]
     refine aG ?_
     refine ev_stop (go_draw Tryz.tbs_ok false [0,1] [(0,true),(1,true),(2,true),(3,true),(4,true),(5,true),(6,true),(7,true),(8,true),(9,true),(10,true),(11,true),(12,true),(13,true),(14,true),(15,true),(16,true),(17,true),(18,true),(19,true),(20,true),(21,true),(22,true),(23,true),(24,true),(25,true),(26,true),(27,false)] rfl ?_)
     refine aG (aE (aI (aE ?_)))
     have l0:0<([D]).length:=by simp
     refine ev_stop (tk_loadE Tryz.tbs_ok (.inr 1) 0 2 aB rfl rfl rfl rfl rfl (fun _ h=>RefD.peek3 h) (by omega) (fun _=>rfl) (by omega) l0 (by decide) ?_)
     refine aG (aE ?_)
     refine aI ?_ (by assumption)
     refine aE ?_
     have l1:0<([D]).length:=by simp
     refine ev_stop (tk_loadE Tryz.tbs_ok (.inr 1) 0 1 aB rfl rfl rfl rfl rfl (fun _ h=>RefD.peek3 h) (by omega) (fun _=>rfl) (by omega) l1 (by decide) ?_)
     refine aG (aE (aK ?_))
     refine ev_fin ⟨trivial,_,rfl,(),?_,trivial,aF [0,1]⟩
     exact congrArg Value.bool (show (!(D.starts==s))=_ by simp [hs])
   rw [show (D.starts==s)=false from by simpa using hs]
   refine aG ?_
   refine ev_stop (go_draw Tryz.tbs_ok false [0,1] [(0,true),(1,true),(2,true),(3,true),(4,true),(5,true),(6,true),(7,true),(8,true),(9,true),(10,true),(11,true),(12,true),(13,true),(14,true),(15,true),(16,true),(17,true),(18,true),(19,true),(20,true),(21,true),(22,true),(23,true),(24,true),(25,true),(26,true),(27,false)] rfl ?_)
   refine aG (aE (aI (aE ?_)))
   have l0:0<([D]).length:=by simp
   refine ev_stop (tk_loadE Tryz.tbs_ok (.inr 1) 0 2 aB rfl rfl rfl rfl rfl (fun _ h=>RefD.peek3 h) (by omega) (fun _=>rfl) (by omega) l0 (by decide) ?_)
   refine aG (aE ?_)
   refine aI ?_ (by assumption)
   refine aE ?_
   have l1:0<([D]).length:=by simp
   refine ev_stop (tk_loadE Tryz.tbs_ok (.inr 1) 0 1 aB rfl rfl rfl rfl rfl (fun _ h=>RefD.peek3 h) (by omega) (fun _=>rfl) (by omega) l1 (by decide) ?_)
   refine aG (aE (aK ?_))
   refine ev_fin ⟨trivial,_,rfl,(),?_,trivial,aF [0,1]⟩
   exact congrArg Value.bool (show (!(D.starts==s))=_ by simp [hs])
theorem rGreat (w r b t:Nat) (A:Option Addr) (c:Nat) (l:Bool) (s:Int) (bad:Bool) (hb:b+t≤999999999):Triple Tryz.prog 116 [pP w] [ptU w r b A (segN b t) c l s bad] [] Unit (fun _=>.int .i64 ((b+t:Nat):Int)) (fun _=>True) (fun _=>[ptU w r b A (segN b t) c l s bad]):=by
 have he:=segN_eq b t
 obtain ⟨n,hn⟩:∃ n,n=segN b t:=⟨_,rfl⟩
 rw [←hn] at he ⊢
 refine aT Tryz.func116 [.pt 0 w 0] [.box w 139 [vP r,vI (b:Nat),vL A n c,.bq l,vI s,.bq bad]] (fun E=>?_) ⟨rfl,trivial⟩
 by_cases h:0<b
 · rw [if_pos h] at he
   refine aG ?_
   refine ev_stop (go_draw Tryz.tbs_ok false [0] [(0,true),(1,true),(2,true),(3,true),(4,true),(5,true),(6,true),(7,true),(8,true),(9,true),(10,false)] rfl ?_)
   refine aG (aE ?_)
   refine wN (b+n) ?_
   refine aK ?_
   refine aJ ?_ (decide_eq_true (show (↑b:Int) > 0 from (by omega)))
   refine wO (b+n-1) ?_
   refine ev_fin ⟨trivial,_,rfl,(),?_,trivial,aF [0]⟩
   exact congrArg (Value.int IntKind.i64) (by omega)
 rw [if_neg h] at he
 refine aG ?_
 refine ev_stop (go_draw Tryz.tbs_ok false [0] [(0,true),(1,true),(2,true),(3,true),(4,true),(5,true),(6,true),(7,true),(8,true),(9,true),(10,false)] rfl ?_)
 refine aG (aE ?_)
 refine wN (b+n) ?_
 refine aK ?_
 refine aI ?_ (decide_eq_false (show ¬(↑b:Int) > 0 from (by omega)))
 refine ev_fin ⟨trivial,_,rfl,(),?_,trivial,aF [0]⟩
 exact congrArg (Value.int IntKind.i64) (by omega)
end Go.Proofs.YtjlfdfmkofbccaaGreatDoor
namespace Go.Sy
open Go
theorem go_fork3 {P:Program} {E:Entry} {Q:Exit→St→Prop} {ops:Array Oper} {full:Bool} {held:List (Nat × Res)} {ro0:List Asn} {r:List It} {st:St} {i:Nat} {b:Bool} {p:List (Nat × Bool)} {listed:List Bool} (i1 i2 i3:Nat) (p1 p2 p3:List (Nat × Bool)) (o1 o2 o3:Oper)
 (hh:heldOk held st.res∧ro0=st.ro) (hready:Region.ready .any ops listed.toArray=[i1,i2,i3]) (hl1:p1.length=p.length) (hl2:p2.length=p.length) (hl3:p3.length=p.length) (ho1:ops.toList[i1]? = some o1) (ho2:ops.toList[i2]? = some o2) (ho3:ops.toList[i3]? = some o3)
 (h1:Go P E (.o ops [o1] :: .d ops full held ro0 p1 (listed.set i1 true)::r) st Q) (h2:Go P E (.o ops [o2] :: .d ops full held ro0 p2 (listed.set i2 true)::r) st Q) (h3:Go P E (.o ops [o3] :: .d ops full held ro0 p3 (listed.set i3 true)::r) st Q) :
 Go P E (.d ops full held ro0 ((i,b)::p) listed::r) st Q:=by
 obtain ⟨hh,hro⟩:=hh
 subst hro
 intro a w hR
 obtain ⟨hs,hi,hres⟩:=hR.res
 refine ⟨fun _=>heldW_of hh hres,?_⟩
 show wpD P ops (post P r (Fin Q E)) (HeldW held st.ro) full (p.length+1) listed.toArray a w
 refine ⟨(fun h0=>by (rw [hready] at h0;cases h0)),fun j hj=>?_⟩
 rw [hready] at hj
 have key:∀ j o q,ops.toList[j]? = some o→q.length=p.length→Go P E (.o ops [o] :: .d ops full held st.ro q (listed.set j true)::r) st Q →
  wpOp P ops (post P r (Fin Q E)) j (fun a' w'=>(needS ops full (listed.toArray.setIfInBounds j true)→HeldW held st.ro w')∧wpD P ops (post P r (Fin Q E)) (HeldW held st.ro) full p.length (listed.toArray.setIfInBounds j true) a' w') a w:=fun j o q ho hq hgo=>by
  have ho':ops[j]? = some o:=by simpa using ho
  refine wpOp_mono (fun a' w' h2=>?_) (wpOp_of_list (Q:=post P (.d ops full held st.ro q (listed.set j true)::r) (Fin Q E)) (Q':=post P r (Fin Q E)) ho' (fun c a w hq=>hq) (fun hl=>hl) (hgo a w hR))
  rw [List.setIfInBounds_toArray,←hq]
  exact h2
 rcases List.mem_cons.1 hj with rfl | hj
 · exact key _ _ _ ho1 hl1 h1
 rcases List.mem_cons.1 hj with rfl | hj
 · exact key _ _ _ ho2 hl2 h2
 rw [List.mem_singleton.1 hj]
 exact key _ _ _ ho3 hl3 h3
end Go.Sy

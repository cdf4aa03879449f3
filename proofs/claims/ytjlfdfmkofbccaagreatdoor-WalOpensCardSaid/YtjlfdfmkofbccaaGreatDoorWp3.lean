/-
  What is proved: the texts that the claims share, part 3 of 7, each text behind the other. Conditions: none.
-/
import Derived.RangeFuncLeaves
import Derived.RangeFuncRecord
import Derived.RangeFuncCalls
import Derived.TacticsIn
import Derived.Scope
import Derived.Lib.AppendStr
import Derived.Lib.UnsafeStr
import Derived.Lib.Builder
import Derived.Laws.IdiomStrings
import Derived.Laws.BytesArg
import Derived.Shelf.LaysM
import Derived.Shelf.Strconv.Itoa3
import Derived.Test.YtjlfdfmkofbccaaGreatDoorProg
import Derived.Test.YtjlfdfmkofbccaaGreatDoorRows
import Derived.Lib.AppendIntMem
import Derived.Test.YtjlfdfmkofbccaaGreatDoorWp2
set_option maxRecDepth 100000
namespace Go.Proofs.YtjlfdfmkofbccaaGreatDoor
open Go.Sy
theorem renameTN (p:Nat) (m s:Int) (A:Option Addr) (n c:Nat) (B:Option Addr) (k d:Nat) (L:List Fl) (hn:n=L.length) (h1:n≤1000) (x y:ByteArray) (hh:hasF L x=true) (hi':posF L x<L.length) (hF:okF L) (ho:oddS y=false) (hh2:hasF (L.eraseIdx (posF L x)) y=true) (hm:0<m) (hs:riseF L):Triple Tryz.prog 56 [pP p,.string x,.string y] [Pt p 52 [.int .i64 m,.int .i64 s,.bool false,.slice A n c,.nilFunc,.slice B k d],Row 89 3 A n c (L.flatMap encF)] [] (Unit) (fun _=>.int .i64 0) (fun _=>True) (fun _=>[Pt p 52 [.int .i64 m,.int .i64 s,.bool false,.slice A (n-1) c,.nilFunc,.slice B k d],Row 89 3 A (n-1) c (((L.eraseIdx (posF L x)).set (posF (L.eraseIdx (posF L x)) y) ⟨y,(L[posF L x]'hi').d,(L[posF L x]'hi').s⟩).flatMap encF)]):=by
 have T1:=askP p m s false A n c (.nilFunc) B k d hm
 have T2:=findT p m s false A n c (.nilFunc) B k d L x hn h1 hs
 have hi:posF L x<L.length:=(has_pos hs hh).1
 rw [hh] at T2
 have TO:=oddT y
 rw [ho] at TO
 have TD:=fun bd ba bt=>renameDoT p m s false A n c (.nilFunc) B k d L hn h1 hs bd ba bt (posF L x) y hi hh2
 refine aT Tryz.func56 [.pt 0 p 0,.va (.string x),.va (.string y)] [.box p 52 [vI m,vI s,.va (.bool false),vL A n c,.va (.nilFunc),vL B k d],.fact (Row 89 3 A n c (L.flatMap encF))] (fun E=>?_) ⟨rfl,trivial,trivial,trivial⟩
 refine aG ?_
 refine ev_new fun b0=>?_
 refine ev_new fun b1=>?_
 refine ev_inline Tryz.tbs_ok Tryz.func88 rfl rfl ?_
 refine aG ?_
 refine aD T1 [0] [] (fun v0_=>[.box (p) 52 [vI m,vI s,.bl false,vL A n c,.va (Value.nilFunc),vL B k d]]) fun _ h2=>?_
 refine aI ?_
 refine aD T2 [0,1] [] (fun v0_=>[.box (p) 52 [vI m,vI s,.bl false,vL A n c,.va (Value.nilFunc),vL B k d],.fact (Row 89 3 A n c (List.flatMap encF L))]) fun _ h3=>?_
 refine aI ?_
 refine ev_inline Tryz.tbs_ok Tryz.func104 rfl rfl ?_
 refine aG ?_
 refine ev_new fun b4=>?_
 refine aC TO [] [] fun _ h5=>?_
 refine aI ?_
 refine ev_inline Tryz.tbs_ok Tryz.func78 rfl rfl ?_
 refine aG ?_
 refine ev_call (TD (b0) (b4) (b1)) [0,1,2,4,3] [] (fun v0_=>[.box (p) 52 [vI m,vI s,.bl false,vL A (n-1) c,.va (Value.nilFunc),vL B k d],.fact (Row 89 3 A (n-1) c (List.flatMap encF ((L.eraseIdx (posF L x)).set (posF (L.eraseIdx (posF L x)) y) { n:=y,d:=L[posF L x].d,s:=L[posF L x].s:Fl }))),.box (b0) 25 [SV.pt 0 p 0],.box (b4) 3 [vI (↑(posF L x):Int)],.box (b1) 9 [.va (Value.string y)]]) rfl rfl (by decide) rfl (by simp) (fun _=>rfl) (fun _=>(newsOk_box (by repeat (first | exact trivial | refine ⟨rfl,?_⟩ | refine ⟨trivial,?_⟩)) (newsOk_fact (newsOk_box (by repeat (first | exact trivial | refine ⟨rfl,?_⟩ | refine ⟨trivial,?_⟩)) (newsOk_box (by repeat (first | exact trivial | refine ⟨rfl,?_⟩ | refine ⟨trivial,?_⟩)) (newsOk_box (by repeat (first | exact trivial | refine ⟨rfl,?_⟩ | refine ⟨trivial,?_⟩)) (newsOk_nil _))))))) (fun _=>aL) (fun _ h6=>?_)
 refine aG ?_
 refine ev_fin ⟨trivial,aL,_,rfl,?_⟩
 refine aG ?_
 refine ev_fin ⟨trivial,aL,_,rfl,?_⟩
 refine aG ?_
 refine ev_fin ⟨trivial,aL,_,rfl,?_⟩
 refine aG ?_
 exact ev_fin ⟨trivial,_,rfl,(),rfl,trivial,aF [0,1]⟩
theorem renameTG (p:Nat) (m s:Int) (A:Option Addr) (n c:Nat) (B:Option Addr) (k d:Nat) (L:List Fl) (hn:n=L.length) (h1:n≤1000) (x y:ByteArray) (hh:hasF L x=true) (hi':posF L x<L.length) (hF:okF L) (ho:oddS y=false) (hh2:hasF (L.eraseIdx (posF L x)) y=true) (hm:0<m) (hs:riseF L) (nb:Nat) (q:Int) (K:List Int) (hq:0<q) (hq2:q≤9223372036854775807):Triple Tryz.prog 56 [pP p,.string x,.string y] [Pt p 52 [.int .i64 m,.int .i64 s,.bool false,.slice A n c,.func (.func 58) #[] #[pP nb],.slice B k d],Row 89 3 A n c (L.flatMap encF),Pt nb 3 [.int .i64 q],Row 3 1 B k d (K.flatMap encN)] [] (Unit) (fun _=>.int .i64 0) (fun _=>True) (fun _=>[Pt p 52 [.int .i64 m,.int .i64 s,.bool false,.slice A (n-1) c,.func (.func 58) #[] #[pP nb],.slice B k d],Row 89 3 A (n-1) c (((L.eraseIdx (posF L x)).set (posF (L.eraseIdx (posF L x)) y) ⟨y,(L[posF L x]'hi').d,(L[posF L x]'hi').s⟩).flatMap encF),Pt nb 3 [.int .i64 (q-1)],Row 3 1 B k d (K.flatMap encN)]):=by
 have T1:=askP p m s false A n c (.func (.func 58) #[] #[pP nb]) B k d hm
 have T2:=findT p m s false A n c (.func (.func 58) #[] #[pP nb]) B k d L x hn h1 hs
 have hi:posF L x<L.length:=(has_pos hs hh).1
 rw [hh] at T2
 have TO:=oddT y
 rw [ho] at TO
 have TD:=fun bd ba bt=>renameDoT p m s false A n c (.func (.func 58) #[] #[pP nb]) B k d L hn h1 hs bd ba bt (posF L x) y hi hh2
 have TF:=failT nb q (by omega) (by omega)
 rw [decide_eq_false (show ¬ q-1<0 by omega)] at TF
 refine aT Tryz.func56 [.pt 0 p 0,.va (.string x),.va (.string y)] [.box p 52 [vI m,vI s,.va (.bool false),vL A n c,.va (.func (.func 58) #[] #[pP nb]),vL B k d],.fact (Row 89 3 A n c (L.flatMap encF)),.box nb 3 [vI q],.fact (Row 3 1 B k d (K.flatMap encN))] (fun E=>?_) ⟨rfl,trivial,trivial,trivial⟩
 refine aG ?_
 refine ev_new fun b0=>?_
 refine ev_new fun b1=>?_
 refine ev_inline Tryz.tbs_ok Tryz.func88 rfl rfl ?_
 refine aG ?_
 refine aD T1 [0] [] (fun v0_=>[.box (p) 52 [vI m,vI s,.bl false,vL A n c,.va (Value.func (Fn.func 58) #[] #[Value.pointer (some { block:=nb,off:=0:Addr })]),vL B k d]]) fun _ h2=>?_
 refine aI ?_
 refine aD T2 [0,1] [] (fun v0_=>[.box (p) 52 [vI m,vI s,.bl false,vL A n c,.va (Value.func (Fn.func 58) #[] #[Value.pointer (some { block:=nb,off:=0:Addr })]),vL B k d],.fact (Row 89 3 A n c (List.flatMap encF L))]) fun _ h3=>?_
 refine aI ?_
 refine ev_inline Tryz.tbs_ok Tryz.func104 rfl rfl ?_
 refine aG ?_
 refine ev_new fun b4=>?_
 refine aC TO [] [] fun _ h5=>?_
 refine aI ?_
 refine ev_inline Tryz.tbs_ok Tryz.func78 rfl rfl ?_
 refine aG ?_
 refine aD TF [2] [] (fun v0_=>[.box (nb) 3 [vI (q-1)]]) fun _ h6=>?_
 refine aJ ?_
 refine ev_call (TD (b0) (b4) (b1)) [0,1,4,6,5] [] (fun v0_=>[.box (p) 52 [vI m,vI s,.bl false,vL A (n-1) c,.va (Value.func (Fn.func 58) #[] #[Value.pointer (some { block:=nb,off:=0:Addr })]),vL B k d],.fact (Row 89 3 A (n-1) c (List.flatMap encF ((L.eraseIdx (posF L x)).set (posF (L.eraseIdx (posF L x)) y) { n:=y,d:=L[posF L x].d,s:=L[posF L x].s:Fl }))),.box (b0) 25 [SV.pt 0 p 0],.box (b4) 3 [vI (↑(posF L x):Int)],.box (b1) 9 [.va (Value.string y)]]) rfl rfl (by decide) rfl (by simp) (fun _=>rfl) (fun _=>(newsOk_box (by repeat (first | exact trivial | refine ⟨rfl,?_⟩ | refine ⟨trivial,?_⟩)) (newsOk_fact (newsOk_box (by repeat (first | exact trivial | refine ⟨rfl,?_⟩ | refine ⟨trivial,?_⟩)) (newsOk_box (by repeat (first | exact trivial | refine ⟨rfl,?_⟩ | refine ⟨trivial,?_⟩)) (newsOk_box (by repeat (first | exact trivial | refine ⟨rfl,?_⟩ | refine ⟨trivial,?_⟩)) (newsOk_nil _))))))) (fun _=>aL) (fun _ h7=>?_)
 refine aG (aI ?_)
 refine ev_fin ⟨trivial,aL,_,rfl,?_⟩
 refine aG ?_
 refine ev_fin ⟨trivial,aL,_,rfl,?_⟩
 refine aG ?_
 refine ev_fin ⟨trivial,aL,_,rfl,?_⟩
 refine aG ?_
 exact ev_fin ⟨trivial,_,rfl,(),rfl,trivial,aF [0,1,2,3]⟩
theorem renameTS (p:Nat) (m s:Int) (A:Option Addr) (n c:Nat) (B:Option Addr) (k d:Nat) (L:List Fl) (hn:n=L.length) (h1:n≤1000) (x y:ByteArray) (hh:hasF L x=true) (hi':posF L x<L.length) (hF:okF L) (ho:oddS y=false) (hh2:hasF (L.eraseIdx (posF L x)) y=true) (hm:0<m) (hs:riseF L) (nb:Nat) (q:Int) (K:List Int) (hq:q=0) (hk:k=K.length):Triple Tryz.prog 56 [pP p,.string x,.string y] [Pt p 52 [.int .i64 m,.int .i64 s,.bool false,.slice A n c,.func (.func 58) #[] #[pP nb],.slice B k d],Row 89 3 A n c (L.flatMap encF),Pt nb 3 [.int .i64 q],Row 3 1 B k d (K.flatMap encN)] [] (Unit) (fun _=>.int .i64 41) (fun _=>True) (fun _=>[Pt p 52 [.int .i64 m,.int .i64 s,.bool true,.slice A n c,.nilFunc,.slice B k d],Row 89 3 A n c ((crashF L K).flatMap encF),Pt nb 3 [.int .i64 (q-1)],Row 3 1 B k d (K.flatMap encN)]):=by
 have T1:=askP p m s false A n c (.func (.func 58) #[] #[pP nb]) B k d hm
 have T2:=findT p m s false A n c (.func (.func 58) #[] #[pP nb]) B k d L x hn h1 hs
 have hi:posF L x<L.length:=(has_pos hs hh).1
 rw [hh] at T2
 have TO:=oddT y
 rw [ho] at TO
 have TD:=fun bd ba bt=>renameDoT p m s false A n c (.func (.func 58) #[] #[pP nb]) B k d L hn h1 hs bd ba bt (posF L x) y hi hh2
 have TC:=(crashT p m s A (n) c (.func (.func 58) #[] #[pP nb]) B k d (L) B k d K hm hn h1 hk hF).reads (N':=[Row 3 1 B k d (K.flatMap encN)]) (fun X hX=>⟨_,List.mem_cons_self,fun _ q=>by rw [List.mem_singleton.1 hX];exact Row.rd q⟩)
 have TF:=failT nb q (by omega) (by omega)
 rw [decide_eq_true (show q-1<0 by omega)] at TF
 refine aT Tryz.func56 [.pt 0 p 0,.va (.string x),.va (.string y)] [.box p 52 [vI m,vI s,.va (.bool false),vL A n c,.va (.func (.func 58) #[] #[pP nb]),vL B k d],.fact (Row 89 3 A n c (L.flatMap encF)),.box nb 3 [vI q],.fact (Row 3 1 B k d (K.flatMap encN))] (fun E=>?_) ⟨rfl,trivial,trivial,trivial⟩
 refine aG ?_
 refine ev_new fun b0=>?_
 refine ev_new fun b1=>?_
 refine ev_inline Tryz.tbs_ok Tryz.func88 rfl rfl ?_
 refine aG ?_
 refine aD T1 [0] [] (fun v0_=>[.box (p) 52 [vI m,vI s,.bl false,vL A n c,.va (Value.func (Fn.func 58) #[] #[Value.pointer (some { block:=nb,off:=0:Addr })]),vL B k d]]) fun _ h2=>?_
 refine aI ?_
 refine aD T2 [0,1] [] (fun v0_=>[.box (p) 52 [vI m,vI s,.bl false,vL A n c,.va (Value.func (Fn.func 58) #[] #[Value.pointer (some { block:=nb,off:=0:Addr })]),vL B k d],.fact (Row 89 3 A n c (List.flatMap encF L))]) fun _ h3=>?_
 refine aI ?_
 refine ev_inline Tryz.tbs_ok Tryz.func104 rfl rfl ?_
 refine aG ?_
 refine ev_new fun b4=>?_
 refine aC TO [] [] fun _ h5=>?_
 refine aI ?_
 refine ev_inline Tryz.tbs_ok Tryz.func78 rfl rfl ?_
 refine aG ?_
 refine aD TF [2] [] (fun v0_=>[.box (nb) 3 [vI (q-1)]]) fun _ h6=>?_
 refine aI (aJ ?_)
 refine aD TC [0,1] [.inr 3] (fun v0_=>[.box (p) 52 [vI m,vI s,.bl true,vL A n c,.va (Value.nilFunc),vL B k d],.fact (Row 89 3 A n c (List.flatMap encF (crashF L K)))]) fun _ h7=>?_
 refine ev_fin ⟨trivial,aL,_,rfl,?_⟩
 refine aG ?_
 refine ev_fin ⟨trivial,aL,_,rfl,?_⟩
 refine aG ?_
 refine ev_fin ⟨trivial,aL,_,rfl,?_⟩
 refine aG ?_
 exact ev_fin ⟨trivial,_,rfl,(),rfl,trivial,aF [0,1,2,3]⟩
theorem renameFN (p:Nat) (m s:Int) (A:Option Addr) (n c:Nat) (B:Option Addr) (k d:Nat) (L:List Fl) (hn:n=L.length) (h1:n≤1000) (x y:ByteArray) (hh:hasF L x=true) (hi':posF L x<L.length) (hF:okF L) (ho:oddS y=false) (hh2:hasF (L.eraseIdx (posF L x)) y=false) (hm:0<m) (hs:riseF L):Triple Tryz.prog 56 [pP p,.string x,.string y] [Pt p 52 [.int .i64 m,.int .i64 s,.bool false,.slice A n c,.nilFunc,.slice B k d],Row 89 3 A n c (L.flatMap encF)] [] (Option Addr × Nat) (fun _=>.int .i64 0) (fun _=>True) (fun (A2,c2)=>[Pt p 52 [.int .i64 m,.int .i64 s,.bool false,.slice A2 (n-1+1) c2,.nilFunc,.slice B k d],Row 89 3 A2 (n-1+1) c2 (((L.eraseIdx (posF L x)).take (posF (L.eraseIdx (posF L x)) y)++⟨y,(L[posF L x]'hi').d,(L[posF L x]'hi').s⟩::(L.eraseIdx (posF L x)).drop (posF (L.eraseIdx (posF L x)) y)).flatMap encF)]):=by
 have T1:=askP p m s false A n c (.nilFunc) B k d hm
 have T2:=findT p m s false A n c (.nilFunc) B k d L x hn h1 hs
 have hi:posF L x<L.length:=(has_pos hs hh).1
 rw [hh] at T2
 have TO:=oddT y
 rw [ho] at TO
 have TD:=fun bd ba bt=>renameDoF p m s false A n c (.nilFunc) B k d L hn h1 hs bd ba bt (posF L x) y hi hh2
 refine aT Tryz.func56 [.pt 0 p 0,.va (.string x),.va (.string y)] [.box p 52 [vI m,vI s,.va (.bool false),vL A n c,.va (.nilFunc),vL B k d],.fact (Row 89 3 A n c (L.flatMap encF))] (fun E=>?_) ⟨rfl,trivial,trivial,trivial⟩
 refine aG ?_
 refine ev_new fun b0=>?_
 refine ev_new fun b1=>?_
 refine ev_inline Tryz.tbs_ok Tryz.func88 rfl rfl ?_
 refine aG ?_
 refine aD T1 [0] [] (fun v0_=>[.box (p) 52 [vI m,vI s,.bl false,vL A n c,.va (Value.nilFunc),vL B k d]]) fun _ h2=>?_
 refine aI ?_
 refine aD T2 [0,1] [] (fun v0_=>[.box (p) 52 [vI m,vI s,.bl false,vL A n c,.va (Value.nilFunc),vL B k d],.fact (Row 89 3 A n c (List.flatMap encF L))]) fun _ h3=>?_
 refine aI ?_
 refine ev_inline Tryz.tbs_ok Tryz.func104 rfl rfl ?_
 refine aG ?_
 refine ev_new fun b4=>?_
 refine aC TO [] [] fun _ h5=>?_
 refine aI ?_
 refine ev_inline Tryz.tbs_ok Tryz.func78 rfl rfl ?_
 refine aG ?_
 refine ev_call (TD (b0) (b4) (b1)) [0,1,2,4,3] [] (fun (v0_,v1_)=>[.box (p) 52 [vI m,vI s,.bl false,vL v0_ (n-1+1) v1_,.va (Value.nilFunc),vL B k d],.fact (Row 89 3 v0_ (n-1+1) v1_ (List.flatMap encF (List.take (posF (L.eraseIdx (posF L x)) y) (L.eraseIdx (posF L x))++{ n:=y,d:=L[posF L x].d,s:=L[posF L x].s:Fl }::List.drop (posF (L.eraseIdx (posF L x)) y) (L.eraseIdx (posF L x))))),.box (b0) 25 [SV.pt 0 p 0],.box (b4) 3 [vI (↑(posF L x):Int)],.box (b1) 9 [.va (Value.string y)]]) rfl rfl (by decide) rfl (by simp) (fun _=>rfl) (fun _=>(newsOk_box (by repeat (first | exact trivial | refine ⟨rfl,?_⟩ | refine ⟨trivial,?_⟩)) (newsOk_fact (newsOk_box (by repeat (first | exact trivial | refine ⟨rfl,?_⟩ | refine ⟨trivial,?_⟩)) (newsOk_box (by repeat (first | exact trivial | refine ⟨rfl,?_⟩ | refine ⟨trivial,?_⟩)) (newsOk_box (by repeat (first | exact trivial | refine ⟨rfl,?_⟩ | refine ⟨trivial,?_⟩)) (newsOk_nil _))))))) (fun _=>aL) (fun ⟨x6,x7⟩ h8=>?_)
 refine aG ?_
 refine ev_fin ⟨trivial,aL,_,rfl,?_⟩
 refine aG ?_
 refine ev_fin ⟨trivial,aL,_,rfl,?_⟩
 refine aG ?_
 refine ev_fin ⟨trivial,aL,_,rfl,?_⟩
 refine aG ?_
 exact ev_fin ⟨trivial,_,rfl,((x6,x7)),rfl,trivial,aF [0,1]⟩
theorem renameFG (p:Nat) (m s:Int) (A:Option Addr) (n c:Nat) (B:Option Addr) (k d:Nat) (L:List Fl) (hn:n=L.length) (h1:n≤1000) (x y:ByteArray) (hh:hasF L x=true) (hi':posF L x<L.length) (hF:okF L) (ho:oddS y=false) (hh2:hasF (L.eraseIdx (posF L x)) y=false) (hm:0<m) (hs:riseF L) (nb:Nat) (q:Int) (K:List Int) (hq:0<q) (hq2:q≤9223372036854775807):Triple Tryz.prog 56 [pP p,.string x,.string y] [Pt p 52 [.int .i64 m,.int .i64 s,.bool false,.slice A n c,.func (.func 58) #[] #[pP nb],.slice B k d],Row 89 3 A n c (L.flatMap encF),Pt nb 3 [.int .i64 q],Row 3 1 B k d (K.flatMap encN)] [] (Option Addr × Nat) (fun _=>.int .i64 0) (fun _=>True) (fun (A2,c2)=>[Pt p 52 [.int .i64 m,.int .i64 s,.bool false,.slice A2 (n-1+1) c2,.func (.func 58) #[] #[pP nb],.slice B k d],Row 89 3 A2 (n-1+1) c2 (((L.eraseIdx (posF L x)).take (posF (L.eraseIdx (posF L x)) y)++⟨y,(L[posF L x]'hi').d,(L[posF L x]'hi').s⟩::(L.eraseIdx (posF L x)).drop (posF (L.eraseIdx (posF L x)) y)).flatMap encF),Pt nb 3 [.int .i64 (q-1)],Row 3 1 B k d (K.flatMap encN)]):=by
 have T1:=askP p m s false A n c (.func (.func 58) #[] #[pP nb]) B k d hm
 have T2:=findT p m s false A n c (.func (.func 58) #[] #[pP nb]) B k d L x hn h1 hs
 have hi:posF L x<L.length:=(has_pos hs hh).1
 rw [hh] at T2
 have TO:=oddT y
 rw [ho] at TO
 have TD:=fun bd ba bt=>renameDoF p m s false A n c (.func (.func 58) #[] #[pP nb]) B k d L hn h1 hs bd ba bt (posF L x) y hi hh2
 have TF:=failT nb q (by omega) (by omega)
 rw [decide_eq_false (show ¬ q-1<0 by omega)] at TF
 refine aT Tryz.func56 [.pt 0 p 0,.va (.string x),.va (.string y)] [.box p 52 [vI m,vI s,.va (.bool false),vL A n c,.va (.func (.func 58) #[] #[pP nb]),vL B k d],.fact (Row 89 3 A n c (L.flatMap encF)),.box nb 3 [vI q],.fact (Row 3 1 B k d (K.flatMap encN))] (fun E=>?_) ⟨rfl,trivial,trivial,trivial⟩
 refine aG ?_
 refine ev_new fun b0=>?_
 refine ev_new fun b1=>?_
 refine ev_inline Tryz.tbs_ok Tryz.func88 rfl rfl ?_
 refine aG ?_
 refine aD T1 [0] [] (fun v0_=>[.box (p) 52 [vI m,vI s,.bl false,vL A n c,.va (Value.func (Fn.func 58) #[] #[Value.pointer (some { block:=nb,off:=0:Addr })]),vL B k d]]) fun _ h2=>?_
 refine aI ?_
 refine aD T2 [0,1] [] (fun v0_=>[.box (p) 52 [vI m,vI s,.bl false,vL A n c,.va (Value.func (Fn.func 58) #[] #[Value.pointer (some { block:=nb,off:=0:Addr })]),vL B k d],.fact (Row 89 3 A n c (List.flatMap encF L))]) fun _ h3=>?_
 refine aI ?_
 refine ev_inline Tryz.tbs_ok Tryz.func104 rfl rfl ?_
 refine aG ?_
 refine ev_new fun b4=>?_
 refine aC TO [] [] fun _ h5=>?_
 refine aI ?_
 refine ev_inline Tryz.tbs_ok Tryz.func78 rfl rfl ?_
 refine aG ?_
 refine aD TF [2] [] (fun v0_=>[.box (nb) 3 [vI (q-1)]]) fun _ h6=>?_
 refine aJ ?_
 refine ev_call (TD (b0) (b4) (b1)) [0,1,4,6,5] [] (fun (v0_,v1_)=>[.box (p) 52 [vI m,vI s,.bl false,vL v0_ (n-1+1) v1_,.va (Value.func (Fn.func 58) #[] #[Value.pointer (some { block:=nb,off:=0:Addr })]),vL B k d],.fact (Row 89 3 v0_ (n-1+1) v1_ (List.flatMap encF (List.take (posF (L.eraseIdx (posF L x)) y) (L.eraseIdx (posF L x))++{ n:=y,d:=L[posF L x].d,s:=L[posF L x].s:Fl }::List.drop (posF (L.eraseIdx (posF L x)) y) (L.eraseIdx (posF L x))))),.box (b0) 25 [SV.pt 0 p 0],.box (b4) 3 [vI (↑(posF L x):Int)],.box (b1) 9 [.va (Value.string y)]]) rfl rfl (by decide) rfl (by simp) (fun _=>rfl) (fun _=>(newsOk_box (by repeat (first | exact trivial | refine ⟨rfl,?_⟩ | refine ⟨trivial,?_⟩)) (newsOk_fact (newsOk_box (by repeat (first | exact trivial | refine ⟨rfl,?_⟩ | refine ⟨trivial,?_⟩)) (newsOk_box (by repeat (first | exact trivial | refine ⟨rfl,?_⟩ | refine ⟨trivial,?_⟩)) (newsOk_box (by repeat (first | exact trivial | refine ⟨rfl,?_⟩ | refine ⟨trivial,?_⟩)) (newsOk_nil _))))))) (fun _=>aL) (fun ⟨x7,x8⟩ h9=>?_)
 refine aG (aI ?_)
 refine ev_fin ⟨trivial,aL,_,rfl,?_⟩
 refine aG ?_
 refine ev_fin ⟨trivial,aL,_,rfl,?_⟩
 refine aG ?_
 refine ev_fin ⟨trivial,aL,_,rfl,?_⟩
 refine aG ?_
 exact ev_fin ⟨trivial,_,rfl,((x7,x8)),rfl,trivial,aF [0,1,2,3]⟩
theorem renameFS (p:Nat) (m s:Int) (A:Option Addr) (n c:Nat) (B:Option Addr) (k d:Nat) (L:List Fl) (hn:n=L.length) (h1:n≤1000) (x y:ByteArray) (hh:hasF L x=true) (hi':posF L x<L.length) (hF:okF L) (ho:oddS y=false) (hh2:hasF (L.eraseIdx (posF L x)) y=false) (hm:0<m) (hs:riseF L) (nb:Nat) (q:Int) (K:List Int) (hq:q=0) (hk:k=K.length):Triple Tryz.prog 56 [pP p,.string x,.string y] [Pt p 52 [.int .i64 m,.int .i64 s,.bool false,.slice A n c,.func (.func 58) #[] #[pP nb],.slice B k d],Row 89 3 A n c (L.flatMap encF),Pt nb 3 [.int .i64 q],Row 3 1 B k d (K.flatMap encN)] [] (Unit) (fun _=>.int .i64 41) (fun _=>True) (fun _=>[Pt p 52 [.int .i64 m,.int .i64 s,.bool true,.slice A n c,.nilFunc,.slice B k d],Row 89 3 A n c ((crashF L K).flatMap encF),Pt nb 3 [.int .i64 (q-1)],Row 3 1 B k d (K.flatMap encN)]):=by
 have T1:=askP p m s false A n c (.func (.func 58) #[] #[pP nb]) B k d hm
 have T2:=findT p m s false A n c (.func (.func 58) #[] #[pP nb]) B k d L x hn h1 hs
 have hi:posF L x<L.length:=(has_pos hs hh).1
 rw [hh] at T2
 have TO:=oddT y
 rw [ho] at TO
 have TD:=fun bd ba bt=>renameDoF p m s false A n c (.func (.func 58) #[] #[pP nb]) B k d L hn h1 hs bd ba bt (posF L x) y hi hh2
 have TC:=(crashT p m s A (n) c (.func (.func 58) #[] #[pP nb]) B k d (L) B k d K hm hn h1 hk hF).reads (N':=[Row 3 1 B k d (K.flatMap encN)]) (fun X hX=>⟨_,List.mem_cons_self,fun _ q=>by rw [List.mem_singleton.1 hX];exact Row.rd q⟩)
 have TF:=failT nb q (by omega) (by omega)
 rw [decide_eq_true (show q-1<0 by omega)] at TF
 refine aT Tryz.func56 [.pt 0 p 0,.va (.string x),.va (.string y)] [.box p 52 [vI m,vI s,.va (.bool false),vL A n c,.va (.func (.func 58) #[] #[pP nb]),vL B k d],.fact (Row 89 3 A n c (L.flatMap encF)),.box nb 3 [vI q],.fact (Row 3 1 B k d (K.flatMap encN))] (fun E=>?_) ⟨rfl,trivial,trivial,trivial⟩
 refine aG ?_
 refine ev_new fun b0=>?_
 refine ev_new fun b1=>?_
 refine ev_inline Tryz.tbs_ok Tryz.func88 rfl rfl ?_
 refine aG ?_
 refine aD T1 [0] [] (fun v0_=>[.box (p) 52 [vI m,vI s,.bl false,vL A n c,.va (Value.func (Fn.func 58) #[] #[Value.pointer (some { block:=nb,off:=0:Addr })]),vL B k d]]) fun _ h2=>?_
 refine aI ?_
 refine aD T2 [0,1] [] (fun v0_=>[.box (p) 52 [vI m,vI s,.bl false,vL A n c,.va (Value.func (Fn.func 58) #[] #[Value.pointer (some { block:=nb,off:=0:Addr })]),vL B k d],.fact (Row 89 3 A n c (List.flatMap encF L))]) fun _ h3=>?_
 refine aI ?_
 refine ev_inline Tryz.tbs_ok Tryz.func104 rfl rfl ?_
 refine aG ?_
 refine ev_new fun b4=>?_
 refine aC TO [] [] fun _ h5=>?_
 refine aI ?_
 refine ev_inline Tryz.tbs_ok Tryz.func78 rfl rfl ?_
 refine aG ?_
 refine aD TF [2] [] (fun v0_=>[.box (nb) 3 [vI (q-1)]]) fun _ h6=>?_
 refine aI (aJ ?_)
 refine aD TC [0,1] [.inr 3] (fun v0_=>[.box (p) 52 [vI m,vI s,.bl true,vL A n c,.va (Value.nilFunc),vL B k d],.fact (Row 89 3 A n c (List.flatMap encF (crashF L K)))]) fun _ h7=>?_
 refine ev_fin ⟨trivial,aL,_,rfl,?_⟩
 refine aG ?_
 refine ev_fin ⟨trivial,aL,_,rfl,?_⟩
 refine aG ?_
 refine ev_fin ⟨trivial,aL,_,rfl,?_⟩
 refine aG ?_
 exact ev_fin ⟨trivial,_,rfl,(),rfl,trivial,aF [0,1,2,3]⟩
theorem appendTN (p:Nat) (m s:Int) (A:Option Addr) (n c:Nat) (B:Option Addr) (k d:Nat) (L:List Fl) (hn:n=L.length) (h1:n≤1000) (x y:ByteArray) (hh:hasF L x=true) (ho:oddS x=false) (hb:sumD L≤1000000000) (hm2:m≤1048576) (hy:(y.size:Int)≤m-sumD L) (hi':posF L x<L.length) (hz:(L[posF L x]'hi').d.size+y.size≤1000000000) (hF2:okF (L.set (posF L x) ⟨(L[posF L x]'hi').n,(L[posF L x]'hi').d++y,(L[posF L x]'hi').s⟩)) (hm:0<m) (hs:riseF L):Triple Tryz.prog 32 [pP p,.string x,.string y] [Pt p 52 [.int .i64 m,.int .i64 s,.bool false,.slice A n c,.nilFunc,.slice B k d],Row 89 3 A n c (L.flatMap encF)] [] (Unit) (fun _=>.int .i64 0) (fun _=>True) (fun _=>[Pt p 52 [.int .i64 m,.int .i64 s,.bool false,.slice A n c,.nilFunc,.slice B k d],Row 89 3 A n c ((L.set (posF L x) ⟨(L[posF L x]'hi').n,(L[posF L x]'hi').d++y,(L[posF L x]'hi').s⟩).flatMap encF)]):=by
 have T1:=askP p m s false A n c (.nilFunc) B k d hm
 have T2:=findT p m s false A n c (.nilFunc) B k d L x hn h1 hs
 rw [hh] at T2
 have TO:=oddT x
 rw [ho] at TO
 have TS:=sizeT p m s false A n c (.nilFunc) B k d L hm hn h1 hb
 have hi:posF L x<L.length:=(has_pos hs hh).1
 have TD:=fun bk bd ba bx bs=>appendDoT p m s false A n c (.nilFunc) B k d L hn h1 bk bd ba bx bs (posF L x) x y hi hz
 refine aT Tryz.func32 [.pt 0 p 0,.va (.string x),.va (.string y)] [.box p 52 [vI m,vI s,.va (.bool false),vL A n c,.va (.nilFunc),vL B k d],.fact (Row 89 3 A n c (L.flatMap encF))] (fun E=>?_) ⟨rfl,trivial,trivial,trivial⟩
 refine aG ?_
 refine ev_new fun b0=>?_
 refine ev_new fun b1=>?_
 refine ev_new fun b2=>?_
 refine aD T1 [0] [] (fun v0_=>[.box (p) 52 [vI m,vI s,.bl false,vL A n c,.va (Value.nilFunc),vL B k d]]) fun _ h3=>?_
 refine aI ?_
 refine aD T2 [0,1] [] (fun v0_=>[.box (p) 52 [vI m,vI s,.bl false,vL A n c,.va (Value.nilFunc),vL B k d],.fact (Row 89 3 A n c (List.flatMap encF L))]) fun _ h4=>?_
 refine ev_new fun b5=>?_
 refine ev_new fun b6=>?_
 refine aC TO [] [] fun _ h7=>?_
 refine aI (aI ?_)
 refine ev_stop (go_draw Tryz.tbs_ok false [0,2,4] [(0,true),(1,true),(2,true),(3,true),(4,true),(5,true),(6,true),(7,false),(8,false),(9,false),(10,false)] rfl ?_)
 refine aG (aE ?_)
 refine aD TS [0,1] [] (fun v0_=>[.box (p) 52 [vI m,vI s,.bl false,vL A n c,.va (Value.nilFunc),vL B k d],.fact (Row 89 3 A n c (List.flatMap encF L))]) fun _ h8=>?_
 refine aE ?_
 refine w6 ?_
 refine aE (aE (aK ?_))
 refine aI ?_ (decide_eq_false (show ¬(↑y.size:Int) > m-(↑(sumD L):Int) from (by omega)))
 refine ev_inline Tryz.tbs_ok Tryz.func78 rfl rfl ?_
 refine aG ?_
 refine ev_call (TD (b6) (b0) (b5) (b1) (b2)) [0,1,6,2,5,3,4] [] (fun v0_=>[.box (p) 52 [vI m,vI s,.bl false,vL A n c,.va (Value.nilFunc),vL B k d],.fact (Row 89 3 A n c (List.flatMap encF (L.set (posF L x) { n:=L[posF L x].n,d:=L[posF L x].d++y,s:=L[posF L x].s:Fl }))),.box (b6) 4 [.bl true],.box (b0) 25 [SV.pt 0 p 0],.box (b5) 3 [vI (↑(posF L x):Int)],.box (b1) 9 [.va (Value.string x)],.box (b2) 9 [.va (Value.string y)]]) rfl rfl (by decide) rfl (by simp) (fun _=>rfl) (fun _=>(newsOk_box (by repeat (first | exact trivial | refine ⟨rfl,?_⟩ | refine ⟨trivial,?_⟩)) (newsOk_fact (newsOk_box (by repeat (first | exact trivial | refine ⟨rfl,?_⟩ | refine ⟨trivial,?_⟩)) (newsOk_box (by repeat (first | exact trivial | refine ⟨rfl,?_⟩ | refine ⟨trivial,?_⟩)) (newsOk_box (by repeat (first | exact trivial | refine ⟨rfl,?_⟩ | refine ⟨trivial,?_⟩)) (newsOk_box (by repeat (first | exact trivial | refine ⟨rfl,?_⟩ | refine ⟨trivial,?_⟩)) (newsOk_box (by repeat (first | exact trivial | refine ⟨rfl,?_⟩ | refine ⟨trivial,?_⟩)) (newsOk_nil _))))))))) (fun _=>aL) (fun _ h9=>?_)
 refine aG ?_
 refine ev_fin ⟨trivial,aL,_,rfl,?_⟩
 refine aG ?_
 exact ev_fin ⟨trivial,_,rfl,(),rfl,trivial,aF [0,1]⟩
theorem appendTG (p:Nat) (m s:Int) (A:Option Addr) (n c:Nat) (B:Option Addr) (k d:Nat) (L:List Fl) (hn:n=L.length) (h1:n≤1000) (x y:ByteArray) (hh:hasF L x=true) (ho:oddS x=false) (hb:sumD L≤1000000000) (hm2:m≤1048576) (hy:(y.size:Int)≤m-sumD L) (hi':posF L x<L.length) (hz:(L[posF L x]'hi').d.size+y.size≤1000000000) (hF2:okF (L.set (posF L x) ⟨(L[posF L x]'hi').n,(L[posF L x]'hi').d++y,(L[posF L x]'hi').s⟩)) (hm:0<m) (hs:riseF L) (nb:Nat) (q:Int) (K:List Int) (hq:0<q) (hq2:q≤9223372036854775807):Triple Tryz.prog 32 [pP p,.string x,.string y] [Pt p 52 [.int .i64 m,.int .i64 s,.bool false,.slice A n c,.func (.func 58) #[] #[pP nb],.slice B k d],Row 89 3 A n c (L.flatMap encF),Pt nb 3 [.int .i64 q],Row 3 1 B k d (K.flatMap encN)] [] (Unit) (fun _=>.int .i64 0) (fun _=>True) (fun _=>[Pt p 52 [.int .i64 m,.int .i64 s,.bool false,.slice A n c,.func (.func 58) #[] #[pP nb],.slice B k d],Row 89 3 A n c ((L.set (posF L x) ⟨(L[posF L x]'hi').n,(L[posF L x]'hi').d++y,(L[posF L x]'hi').s⟩).flatMap encF),Pt nb 3 [.int .i64 (q-1)],Row 3 1 B k d (K.flatMap encN)]):=by
 have T1:=askP p m s false A n c (.func (.func 58) #[] #[pP nb]) B k d hm
 have T2:=findT p m s false A n c (.func (.func 58) #[] #[pP nb]) B k d L x hn h1 hs
 rw [hh] at T2
 have TO:=oddT x
 rw [ho] at TO
 have TS:=sizeT p m s false A n c (.func (.func 58) #[] #[pP nb]) B k d L hm hn h1 hb
 have hi:posF L x<L.length:=(has_pos hs hh).1
 have TD:=fun bk bd ba bx bs=>appendDoT p m s false A n c (.func (.func 58) #[] #[pP nb]) B k d L hn h1 bk bd ba bx bs (posF L x) x y hi hz
 have TF:=failT nb q (by omega) (by omega)
 rw [decide_eq_false (show ¬ q-1<0 by omega)] at TF
 refine aT Tryz.func32 [.pt 0 p 0,.va (.string x),.va (.string y)] [.box p 52 [vI m,vI s,.va (.bool false),vL A n c,.va (.func (.func 58) #[] #[pP nb]),vL B k d],.fact (Row 89 3 A n c (L.flatMap encF)),.box nb 3 [vI q],.fact (Row 3 1 B k d (K.flatMap encN))] (fun E=>?_) ⟨rfl,trivial,trivial,trivial⟩
 refine aG ?_
 refine ev_new fun b0=>?_
 refine ev_new fun b1=>?_
 refine ev_new fun b2=>?_
 refine aD T1 [0] [] (fun v0_=>[.box (p) 52 [vI m,vI s,.bl false,vL A n c,.va (Value.func (Fn.func 58) #[] #[Value.pointer (some { block:=nb,off:=0:Addr })]),vL B k d]]) fun _ h3=>?_
 refine aI ?_
 refine aD T2 [0,1] [] (fun v0_=>[.box (p) 52 [vI m,vI s,.bl false,vL A n c,.va (Value.func (Fn.func 58) #[] #[Value.pointer (some { block:=nb,off:=0:Addr })]),vL B k d],.fact (Row 89 3 A n c (List.flatMap encF L))]) fun _ h4=>?_
 refine ev_new fun b5=>?_
 refine ev_new fun b6=>?_
 refine aC TO [] [] fun _ h7=>?_
 refine aI (aI ?_)
 refine ev_stop (go_draw Tryz.tbs_ok false [0,4,6] [(0,true),(1,true),(2,true),(3,true),(4,true),(5,true),(6,true),(7,false),(8,false),(9,false),(10,false)] rfl ?_)
 refine aG (aE ?_)
 refine aD TS [0,1] [] (fun v0_=>[.box (p) 52 [vI m,vI s,.bl false,vL A n c,.va (Value.func (Fn.func 58) #[] #[Value.pointer (some { block:=nb,off:=0:Addr })]),vL B k d],.fact (Row 89 3 A n c (List.flatMap encF L))]) fun _ h8=>?_
 refine aE ?_
 refine w6 ?_
 refine aE (aE (aK ?_))
 refine aI ?_ (decide_eq_false (show ¬(↑y.size:Int) > m-(↑(sumD L):Int) from (by omega)))
 refine ev_inline Tryz.tbs_ok Tryz.func78 rfl rfl ?_
 refine aG ?_
 refine aD TF [2] [] (fun v0_=>[.box (nb) 3 [vI (q-1)]]) fun _ h9=>?_
 refine aJ ?_
 refine ev_call (TD (b6) (b0) (b5) (b1) (b2)) [0,1,8,4,7,5,6] [] (fun v0_=>[.box (p) 52 [vI m,vI s,.bl false,vL A n c,.va (Value.func (Fn.func 58) #[] #[Value.pointer (some { block:=nb,off:=0:Addr })]),vL B k d],.fact (Row 89 3 A n c (List.flatMap encF (L.set (posF L x) { n:=L[posF L x].n,d:=L[posF L x].d++y,s:=L[posF L x].s:Fl }))),.box (b6) 4 [.bl true],.box (b0) 25 [SV.pt 0 p 0],.box (b5) 3 [vI (↑(posF L x):Int)],.box (b1) 9 [.va (Value.string x)],.box (b2) 9 [.va (Value.string y)]]) rfl rfl (by decide) rfl (by simp) (fun _=>rfl) (fun _=>(newsOk_box (by repeat (first | exact trivial | refine ⟨rfl,?_⟩ | refine ⟨trivial,?_⟩)) (newsOk_fact (newsOk_box (by repeat (first | exact trivial | refine ⟨rfl,?_⟩ | refine ⟨trivial,?_⟩)) (newsOk_box (by repeat (first | exact trivial | refine ⟨rfl,?_⟩ | refine ⟨trivial,?_⟩)) (newsOk_box (by repeat (first | exact trivial | refine ⟨rfl,?_⟩ | refine ⟨trivial,?_⟩)) (newsOk_box (by repeat (first | exact trivial | refine ⟨rfl,?_⟩ | refine ⟨trivial,?_⟩)) (newsOk_box (by repeat (first | exact trivial | refine ⟨rfl,?_⟩ | refine ⟨trivial,?_⟩)) (newsOk_nil _))))))))) (fun _=>aL) (fun _ h10=>?_)
 refine aG (aI ?_)
 refine ev_fin ⟨trivial,aL,_,rfl,?_⟩
 refine aG ?_
 exact ev_fin ⟨trivial,_,rfl,(),rfl,trivial,aF [0,1,2,3]⟩
theorem appendTS (p:Nat) (m s:Int) (A:Option Addr) (n c:Nat) (B:Option Addr) (k d:Nat) (L:List Fl) (hn:n=L.length) (h1:n≤1000) (x y:ByteArray) (hh:hasF L x=true) (ho:oddS x=false) (hb:sumD L≤1000000000) (hm2:m≤1048576) (hy:(y.size:Int)≤m-sumD L) (hi':posF L x<L.length) (hz:(L[posF L x]'hi').d.size+y.size≤1000000000) (hF2:okF (L.set (posF L x) ⟨(L[posF L x]'hi').n,(L[posF L x]'hi').d++y,(L[posF L x]'hi').s⟩)) (hm:0<m) (hs:riseF L) (nb:Nat) (q:Int) (K:List Int) (hq:q=0) (hk:k=K.length):Triple Tryz.prog 32 [pP p,.string x,.string y] [Pt p 52 [.int .i64 m,.int .i64 s,.bool false,.slice A n c,.func (.func 58) #[] #[pP nb],.slice B k d],Row 89 3 A n c (L.flatMap encF),Pt nb 3 [.int .i64 q],Row 3 1 B k d (K.flatMap encN)] [] (Unit) (fun _=>.int .i64 41) (fun _=>True) (fun _=>[Pt p 52 [.int .i64 m,.int .i64 s,.bool true,.slice A n c,.nilFunc,.slice B k d],Row 89 3 A n c ((crashF (L.set (posF L x) ⟨(L[posF L x]'hi').n,(L[posF L x]'hi').d++y,(L[posF L x]'hi').s⟩) K).flatMap encF),Pt nb 3 [.int .i64 (q-1)],Row 3 1 B k d (K.flatMap encN)]):=by
 have T1:=askP p m s false A n c (.func (.func 58) #[] #[pP nb]) B k d hm
 have T2:=findT p m s false A n c (.func (.func 58) #[] #[pP nb]) B k d L x hn h1 hs
 rw [hh] at T2
 have TO:=oddT x
 rw [ho] at TO
 have TS:=sizeT p m s false A n c (.func (.func 58) #[] #[pP nb]) B k d L hm hn h1 hb
 have hi:posF L x<L.length:=(has_pos hs hh).1
 have TD:=fun bk bd ba bx bs=>appendDoT p m s false A n c (.func (.func 58) #[] #[pP nb]) B k d L hn h1 bk bd ba bx bs (posF L x) x y hi hz
 have TC:=(crashT p m s A (n) c (.func (.func 58) #[] #[pP nb]) B k d (L.set (posF L x) ⟨(L[posF L x]'hi').n,(L[posF L x]'hi').d++y,(L[posF L x]'hi').s⟩) B k d K hm (by rw [List.length_set];exact hn) h1 hk hF2).reads (N':=[Row 3 1 B k d (K.flatMap encN)]) (fun X hX=>⟨_,List.mem_cons_self,fun _ q=>by rw [List.mem_singleton.1 hX];exact Row.rd q⟩)
 have TF:=failT nb q (by omega) (by omega)
 rw [decide_eq_true (show q-1<0 by omega)] at TF
 refine aT Tryz.func32 [.pt 0 p 0,.va (.string x),.va (.string y)] [.box p 52 [vI m,vI s,.va (.bool false),vL A n c,.va (.func (.func 58) #[] #[pP nb]),vL B k d],.fact (Row 89 3 A n c (L.flatMap encF)),.box nb 3 [vI q],.fact (Row 3 1 B k d (K.flatMap encN))] (fun E=>?_) ⟨rfl,trivial,trivial,trivial⟩
 refine aG ?_
 refine ev_new fun b0=>?_
 refine ev_new fun b1=>?_
 refine ev_new fun b2=>?_
 refine aD T1 [0] [] (fun v0_=>[.box (p) 52 [vI m,vI s,.bl false,vL A n c,.va (Value.func (Fn.func 58) #[] #[Value.pointer (some { block:=nb,off:=0:Addr })]),vL B k d]]) fun _ h3=>?_
 refine aI ?_
 refine aD T2 [0,1] [] (fun v0_=>[.box (p) 52 [vI m,vI s,.bl false,vL A n c,.va (Value.func (Fn.func 58) #[] #[Value.pointer (some { block:=nb,off:=0:Addr })]),vL B k d],.fact (Row 89 3 A n c (List.flatMap encF L))]) fun _ h4=>?_
 refine ev_new fun b5=>?_
 refine ev_new fun b6=>?_
 refine aC TO [] [] fun _ h7=>?_
 refine aI (aI ?_)
 refine ev_stop (go_draw Tryz.tbs_ok false [0,4,6] [(0,true),(1,true),(2,true),(3,true),(4,true),(5,true),(6,true),(7,false),(8,false),(9,false),(10,false)] rfl ?_)
 refine aG (aE ?_)
 refine aD TS [0,1] [] (fun v0_=>[.box (p) 52 [vI m,vI s,.bl false,vL A n c,.va (Value.func (Fn.func 58) #[] #[Value.pointer (some { block:=nb,off:=0:Addr })]),vL B k d],.fact (Row 89 3 A n c (List.flatMap encF L))]) fun _ h8=>?_
 refine aE ?_
 refine w6 ?_
 refine aE (aE (aK ?_))
 refine aI ?_ (decide_eq_false (show ¬(↑y.size:Int) > m-(↑(sumD L):Int) from (by omega)))
 refine ev_inline Tryz.tbs_ok Tryz.func78 rfl rfl ?_
 refine aG ?_
 refine aD TF [2] [] (fun v0_=>[.box (nb) 3 [vI (q-1)]]) fun _ h9=>?_
 refine aI ?_
 refine ev_call (TD (b6) (b0) (b5) (b1) (b2)) [0,1,8,4,7,5,6] [] (fun v0_=>[.box (p) 52 [vI m,vI s,.bl false,vL A n c,.va (Value.func (Fn.func 58) #[] #[Value.pointer (some { block:=nb,off:=0:Addr })]),vL B k d],.fact (Row 89 3 A n c (List.flatMap encF (L.set (posF L x) { n:=L[posF L x].n,d:=L[posF L x].d++y,s:=L[posF L x].s:Fl }))),.box (b6) 4 [.bl true],.box (b0) 25 [SV.pt 0 p 0],.box (b5) 3 [vI (↑(posF L x):Int)],.box (b1) 9 [.va (Value.string x)],.box (b2) 9 [.va (Value.string y)]]) rfl rfl (by decide) rfl (by simp) (fun _=>rfl) (fun _=>(newsOk_box (by repeat (first | exact trivial | refine ⟨rfl,?_⟩ | refine ⟨trivial,?_⟩)) (newsOk_fact (newsOk_box (by repeat (first | exact trivial | refine ⟨rfl,?_⟩ | refine ⟨trivial,?_⟩)) (newsOk_box (by repeat (first | exact trivial | refine ⟨rfl,?_⟩ | refine ⟨trivial,?_⟩)) (newsOk_box (by repeat (first | exact trivial | refine ⟨rfl,?_⟩ | refine ⟨trivial,?_⟩)) (newsOk_box (by repeat (first | exact trivial | refine ⟨rfl,?_⟩ | refine ⟨trivial,?_⟩)) (newsOk_box (by repeat (first | exact trivial | refine ⟨rfl,?_⟩ | refine ⟨trivial,?_⟩)) (newsOk_nil _))))))))) (fun _=>aL) (fun _ h10=>?_)
 refine aG (aJ ?_)
 refine aD TC [0,1] [.inr 3] (fun v0_=>[.box (p) 52 [vI m,vI s,.bl true,vL A n c,.va (Value.nilFunc),vL B k d],.fact (Row 89 3 A n c (List.flatMap encF (crashF (L.set (posF L x) { n:=L[posF L x].n,d:=L[posF L x].d++y,s:=L[posF L x].s:Fl }) K)))]) fun _ h11=>?_
 refine ev_fin ⟨trivial,aL,_,rfl,?_⟩
 refine aG ?_
 exact ev_fin ⟨trivial,_,rfl,(),rfl,trivial,aF [0,1,2,3]⟩
theorem appendFN (p:Nat) (m s:Int) (A:Option Addr) (n c:Nat) (B:Option Addr) (k d:Nat) (L:List Fl) (hn:n=L.length) (h1:n≤1000) (x y:ByteArray) (hh:hasF L x=false) (ho:oddS x=false) (hb:sumD L≤1000000000) (hm2:m≤1048576) (hy:(y.size:Int)≤m-sumD L) (hn16:n≠16) (h999:n≤999) (hF2:okF (L.take (posF L x)++⟨x,y,0⟩::L.drop (posF L x))) (hm:0<m) (hs:riseF L):Triple Tryz.prog 32 [pP p,.string x,.string y] [Pt p 52 [.int .i64 m,.int .i64 s,.bool false,.slice A n c,.nilFunc,.slice B k d],Row 89 3 A n c (L.flatMap encF)] [] (Option Addr × Nat) (fun _=>.int .i64 0) (fun _=>True) (fun (A2,c2)=>[Pt p 52 [.int .i64 m,.int .i64 s,.bool false,.slice A2 (n+1) c2,.nilFunc,.slice B k d],Row 89 3 A2 (n+1) c2 ((L.take (posF L x)++⟨x,y,0⟩::L.drop (posF L x)).flatMap encF)]):=by
 have T1:=askP p m s false A n c (.nilFunc) B k d hm
 have T2:=findT p m s false A n c (.nilFunc) B k d L x hn h1 hs
 rw [hh] at T2
 have TO:=oddT x
 rw [ho] at TO
 have TS:=sizeT p m s false A n c (.nilFunc) B k d L hm hn h1 hb
 have hp:=posF_le L x
 have TD:=fun bk bd ba bx bs=>appendDoF p m s false A n c (.nilFunc) B k d L hn h1 bk bd ba bx bs (posF L x) x y (by omega) (by omega)
 refine aT Tryz.func32 [.pt 0 p 0,.va (.string x),.va (.string y)] [.box p 52 [vI m,vI s,.va (.bool false),vL A n c,.va (.nilFunc),vL B k d],.fact (Row 89 3 A n c (L.flatMap encF))] (fun E=>?_) ⟨rfl,trivial,trivial,trivial⟩
 refine aG ?_
 refine ev_new fun b0=>?_
 refine ev_new fun b1=>?_
 refine ev_new fun b2=>?_
 refine aD T1 [0] [] (fun v0_=>[.box (p) 52 [vI m,vI s,.bl false,vL A n c,.va (Value.nilFunc),vL B k d]]) fun _ h3=>?_
 refine aI ?_
 refine aD T2 [0,1] [] (fun v0_=>[.box (p) 52 [vI m,vI s,.bl false,vL A n c,.va (Value.nilFunc),vL B k d],.fact (Row 89 3 A n c (List.flatMap encF L))]) fun _ h4=>?_
 refine ev_new fun b5=>?_
 refine ev_new fun b6=>?_
 refine aC TO [] [] fun _ h7=>?_
 refine aI (aJ ?_)
 refine aI ?_ (beq_eq_false_iff_ne.2 (show ¬(↑n:Int)=16 from (by omega)))
 refine ev_stop (go_draw Tryz.tbs_ok false [0,2,4] [(0,true),(1,true),(2,true),(3,true),(4,true),(5,true),(6,true),(7,false),(8,false),(9,false),(10,false)] rfl ?_)
 refine aG (aE ?_)
 refine aD TS [0,1] [] (fun v0_=>[.box (p) 52 [vI m,vI s,.bl false,vL A n c,.va (Value.nilFunc),vL B k d],.fact (Row 89 3 A n c (List.flatMap encF L))]) fun _ h8=>?_
 refine aE ?_
 refine w6 ?_
 refine aE (aE (aK ?_))
 refine aI ?_ (decide_eq_false (show ¬(↑y.size:Int) > m-(↑(sumD L):Int) from (by omega)))
 refine ev_inline Tryz.tbs_ok Tryz.func78 rfl rfl ?_
 refine aG ?_
 refine ev_call (TD (b6) (b0) (b5) (b1) (b2)) [0,1,6,2,5,3,4] [] (fun (v0_,v1_)=>[.box (p) 52 [vI m,vI s,.bl false,vL v0_ (n+1) v1_,.va (Value.nilFunc),vL B k d],.fact (Row 89 3 v0_ (n+1) v1_ (List.flatMap encF (List.take (posF L x) L++{ n:=x,d:=y,s:=0:Fl }::List.drop (posF L x) L))),.box (b6) 4 [.bl false],.box (b0) 25 [SV.pt 0 p 0],.box (b5) 3 [vI (↑(posF L x):Int)],.box (b1) 9 [.va (Value.string x)],.box (b2) 9 [.va (Value.string y)]]) rfl rfl (by decide) rfl (by simp) (fun _=>rfl) (fun _=>(newsOk_box (by repeat (first | exact trivial | refine ⟨rfl,?_⟩ | refine ⟨trivial,?_⟩)) (newsOk_fact (newsOk_box (by repeat (first | exact trivial | refine ⟨rfl,?_⟩ | refine ⟨trivial,?_⟩)) (newsOk_box (by repeat (first | exact trivial | refine ⟨rfl,?_⟩ | refine ⟨trivial,?_⟩)) (newsOk_box (by repeat (first | exact trivial | refine ⟨rfl,?_⟩ | refine ⟨trivial,?_⟩)) (newsOk_box (by repeat (first | exact trivial | refine ⟨rfl,?_⟩ | refine ⟨trivial,?_⟩)) (newsOk_box (by repeat (first | exact trivial | refine ⟨rfl,?_⟩ | refine ⟨trivial,?_⟩)) (newsOk_nil _))))))))) (fun _=>aL) (fun ⟨x9,x10⟩ h11=>?_)
 refine aG ?_
 refine ev_fin ⟨trivial,aL,_,rfl,?_⟩
 refine aG ?_
 exact ev_fin ⟨trivial,_,rfl,((x9,x10)),rfl,trivial,aF [0,1]⟩
theorem appendFG (p:Nat) (m s:Int) (A:Option Addr) (n c:Nat) (B:Option Addr) (k d:Nat) (L:List Fl) (hn:n=L.length) (h1:n≤1000) (x y:ByteArray) (hh:hasF L x=false) (ho:oddS x=false) (hb:sumD L≤1000000000) (hm2:m≤1048576) (hy:(y.size:Int)≤m-sumD L) (hn16:n≠16) (h999:n≤999) (hF2:okF (L.take (posF L x)++⟨x,y,0⟩::L.drop (posF L x))) (hm:0<m) (hs:riseF L) (nb:Nat) (q:Int) (K:List Int) (hq:0<q) (hq2:q≤9223372036854775807):Triple Tryz.prog 32 [pP p,.string x,.string y] [Pt p 52 [.int .i64 m,.int .i64 s,.bool false,.slice A n c,.func (.func 58) #[] #[pP nb],.slice B k d],Row 89 3 A n c (L.flatMap encF),Pt nb 3 [.int .i64 q],Row 3 1 B k d (K.flatMap encN)] [] (Option Addr × Nat) (fun _=>.int .i64 0) (fun _=>True) (fun (A2,c2)=>[Pt p 52 [.int .i64 m,.int .i64 s,.bool false,.slice A2 (n+1) c2,.func (.func 58) #[] #[pP nb],.slice B k d],Row 89 3 A2 (n+1) c2 ((L.take (posF L x)++⟨x,y,0⟩::L.drop (posF L x)).flatMap encF),Pt nb 3 [.int .i64 (q-1)],Row 3 1 B k d (K.flatMap encN)]):=by
 have T1:=askP p m s false A n c (.func (.func 58) #[] #[pP nb]) B k d hm
 have T2:=findT p m s false A n c (.func (.func 58) #[] #[pP nb]) B k d L x hn h1 hs
 rw [hh] at T2
 have TO:=oddT x
 rw [ho] at TO
 have TS:=sizeT p m s false A n c (.func (.func 58) #[] #[pP nb]) B k d L hm hn h1 hb
 have hp:=posF_le L x
 have TD:=fun bk bd ba bx bs=>appendDoF p m s false A n c (.func (.func 58) #[] #[pP nb]) B k d L hn h1 bk bd ba bx bs (posF L x) x y (by omega) (by omega)
 have TF:=failT nb q (by omega) (by omega)
 rw [decide_eq_false (show ¬ q-1<0 by omega)] at TF
 refine aT Tryz.func32 [.pt 0 p 0,.va (.string x),.va (.string y)] [.box p 52 [vI m,vI s,.va (.bool false),vL A n c,.va (.func (.func 58) #[] #[pP nb]),vL B k d],.fact (Row 89 3 A n c (L.flatMap encF)),.box nb 3 [vI q],.fact (Row 3 1 B k d (K.flatMap encN))] (fun E=>?_) ⟨rfl,trivial,trivial,trivial⟩
 refine aG ?_
 refine ev_new fun b0=>?_
 refine ev_new fun b1=>?_
 refine ev_new fun b2=>?_
 refine aD T1 [0] [] (fun v0_=>[.box (p) 52 [vI m,vI s,.bl false,vL A n c,.va (Value.func (Fn.func 58) #[] #[Value.pointer (some { block:=nb,off:=0:Addr })]),vL B k d]]) fun _ h3=>?_
 refine aI ?_
 refine aD T2 [0,1] [] (fun v0_=>[.box (p) 52 [vI m,vI s,.bl false,vL A n c,.va (Value.func (Fn.func 58) #[] #[Value.pointer (some { block:=nb,off:=0:Addr })]),vL B k d],.fact (Row 89 3 A n c (List.flatMap encF L))]) fun _ h4=>?_
 refine ev_new fun b5=>?_
 refine ev_new fun b6=>?_
 refine aC TO [] [] fun _ h7=>?_
 refine aI (aJ ?_)
 refine aI ?_ (beq_eq_false_iff_ne.2 (show ¬(↑n:Int)=16 from (by omega)))
 refine ev_stop (go_draw Tryz.tbs_ok false [0,4,6] [(0,true),(1,true),(2,true),(3,true),(4,true),(5,true),(6,true),(7,false),(8,false),(9,false),(10,false)] rfl ?_)
 refine aG (aE ?_)
 refine aD TS [0,1] [] (fun v0_=>[.box (p) 52 [vI m,vI s,.bl false,vL A n c,.va (Value.func (Fn.func 58) #[] #[Value.pointer (some { block:=nb,off:=0:Addr })]),vL B k d],.fact (Row 89 3 A n c (List.flatMap encF L))]) fun _ h8=>?_
 refine aE ?_
 refine w6 ?_
 refine aE (aE (aK ?_))
 refine aI ?_ (decide_eq_false (show ¬(↑y.size:Int) > m-(↑(sumD L):Int) from (by omega)))
 refine ev_inline Tryz.tbs_ok Tryz.func78 rfl rfl ?_
 refine aG ?_
 refine aD TF [2] [] (fun v0_=>[.box (nb) 3 [vI (q-1)]]) fun _ h9=>?_
 refine aJ ?_
 refine ev_call (TD (b6) (b0) (b5) (b1) (b2)) [0,1,8,4,7,5,6] [] (fun (v0_,v1_)=>[.box (p) 52 [vI m,vI s,.bl false,vL v0_ (n+1) v1_,.va (Value.func (Fn.func 58) #[] #[Value.pointer (some { block:=nb,off:=0:Addr })]),vL B k d],.fact (Row 89 3 v0_ (n+1) v1_ (List.flatMap encF (List.take (posF L x) L++{ n:=x,d:=y,s:=0:Fl }::List.drop (posF L x) L))),.box (b6) 4 [.bl false],.box (b0) 25 [SV.pt 0 p 0],.box (b5) 3 [vI (↑(posF L x):Int)],.box (b1) 9 [.va (Value.string x)],.box (b2) 9 [.va (Value.string y)]]) rfl rfl (by decide) rfl (by simp) (fun _=>rfl) (fun _=>(newsOk_box (by repeat (first | exact trivial | refine ⟨rfl,?_⟩ | refine ⟨trivial,?_⟩)) (newsOk_fact (newsOk_box (by repeat (first | exact trivial | refine ⟨rfl,?_⟩ | refine ⟨trivial,?_⟩)) (newsOk_box (by repeat (first | exact trivial | refine ⟨rfl,?_⟩ | refine ⟨trivial,?_⟩)) (newsOk_box (by repeat (first | exact trivial | refine ⟨rfl,?_⟩ | refine ⟨trivial,?_⟩)) (newsOk_box (by repeat (first | exact trivial | refine ⟨rfl,?_⟩ | refine ⟨trivial,?_⟩)) (newsOk_box (by repeat (first | exact trivial | refine ⟨rfl,?_⟩ | refine ⟨trivial,?_⟩)) (newsOk_nil _))))))))) (fun _=>aL) (fun ⟨x10,x11⟩ h12=>?_)
 refine aG (aI ?_)
 refine ev_fin ⟨trivial,aL,_,rfl,?_⟩
 refine aG ?_
 exact ev_fin ⟨trivial,_,rfl,((x10,x11)),rfl,trivial,aF [0,1,2,3]⟩
theorem appendFS (p:Nat) (m s:Int) (A:Option Addr) (n c:Nat) (B:Option Addr) (k d:Nat) (L:List Fl) (hn:n=L.length) (h1:n≤1000) (x y:ByteArray) (hh:hasF L x=false) (ho:oddS x=false) (hb:sumD L≤1000000000) (hm2:m≤1048576) (hy:(y.size:Int)≤m-sumD L) (hn16:n≠16) (h999:n≤999) (hF2:okF (L.take (posF L x)++⟨x,y,0⟩::L.drop (posF L x))) (hm:0<m) (hs:riseF L) (nb:Nat) (q:Int) (K:List Int) (hq:q=0) (hk:k=K.length):Triple Tryz.prog 32 [pP p,.string x,.string y] [Pt p 52 [.int .i64 m,.int .i64 s,.bool false,.slice A n c,.func (.func 58) #[] #[pP nb],.slice B k d],Row 89 3 A n c (L.flatMap encF),Pt nb 3 [.int .i64 q],Row 3 1 B k d (K.flatMap encN)] [] (Option Addr × Nat) (fun _=>.int .i64 41) (fun _=>True) (fun (A2,c2)=>[Pt p 52 [.int .i64 m,.int .i64 s,.bool true,.slice A2 (n+1) c2,.nilFunc,.slice B k d],Row 89 3 A2 (n+1) c2 ((crashF (L.take (posF L x)++⟨x,y,0⟩::L.drop (posF L x)) K).flatMap encF),Pt nb 3 [.int .i64 (q-1)],Row 3 1 B k d (K.flatMap encN)]):=by
 have T1:=askP p m s false A n c (.func (.func 58) #[] #[pP nb]) B k d hm
 have T2:=findT p m s false A n c (.func (.func 58) #[] #[pP nb]) B k d L x hn h1 hs
 rw [hh] at T2
 have TO:=oddT x
 rw [ho] at TO
 have TS:=sizeT p m s false A n c (.func (.func 58) #[] #[pP nb]) B k d L hm hn h1 hb
 have hp:=posF_le L x
 have TD:=fun bk bd ba bx bs=>appendDoF p m s false A n c (.func (.func 58) #[] #[pP nb]) B k d L hn h1 bk bd ba bx bs (posF L x) x y (by omega) (by omega)
 have TC:=fun A2 c2=>(crashT p m s A2 (n+1) c2 (.func (.func 58) #[] #[pP nb]) B k d (L.take (posF L x)++⟨x,y,0⟩::L.drop (posF L x)) B k d K hm (by rw [List.length_append,List.length_take,List.length_cons,List.length_drop];omega) (by omega) hk hF2).reads (N':=[Row 3 1 B k d (K.flatMap encN)]) (fun X hX=>⟨_,List.mem_cons_self,fun _ q=>by rw [List.mem_singleton.1 hX];exact Row.rd q⟩)
 have TF:=failT nb q (by omega) (by omega)
 rw [decide_eq_true (show q-1<0 by omega)] at TF
 refine aT Tryz.func32 [.pt 0 p 0,.va (.string x),.va (.string y)] [.box p 52 [vI m,vI s,.va (.bool false),vL A n c,.va (.func (.func 58) #[] #[pP nb]),vL B k d],.fact (Row 89 3 A n c (L.flatMap encF)),.box nb 3 [vI q],.fact (Row 3 1 B k d (K.flatMap encN))] (fun E=>?_) ⟨rfl,trivial,trivial,trivial⟩
 refine aG ?_
 refine ev_new fun b0=>?_
 refine ev_new fun b1=>?_
 refine ev_new fun b2=>?_
 refine aD T1 [0] [] (fun v0_=>[.box (p) 52 [vI m,vI s,.bl false,vL A n c,.va (Value.func (Fn.func 58) #[] #[Value.pointer (some { block:=nb,off:=0:Addr })]),vL B k d]]) fun _ h3=>?_
 refine aI ?_
 refine aD T2 [0,1] [] (fun v0_=>[.box (p) 52 [vI m,vI s,.bl false,vL A n c,.va (Value.func (Fn.func 58) #[] #[Value.pointer (some { block:=nb,off:=0:Addr })]),vL B k d],.fact (Row 89 3 A n c (List.flatMap encF L))]) fun _ h4=>?_
 refine ev_new fun b5=>?_
 refine ev_new fun b6=>?_
 refine aC TO [] [] fun _ h7=>?_
 refine aI (aJ ?_)
 refine aI ?_ (beq_eq_false_iff_ne.2 (show ¬(↑n:Int)=16 from (by omega)))
 refine ev_stop (go_draw Tryz.tbs_ok false [0,4,6] [(0,true),(1,true),(2,true),(3,true),(4,true),(5,true),(6,true),(7,false),(8,false),(9,false),(10,false)] rfl ?_)
 refine aG (aE ?_)
 refine aD TS [0,1] [] (fun v0_=>[.box (p) 52 [vI m,vI s,.bl false,vL A n c,.va (Value.func (Fn.func 58) #[] #[Value.pointer (some { block:=nb,off:=0:Addr })]),vL B k d],.fact (Row 89 3 A n c (List.flatMap encF L))]) fun _ h8=>?_
 refine aE ?_
 refine w6 ?_
 refine aE (aE (aK ?_))
 refine aI ?_ (decide_eq_false (show ¬(↑y.size:Int) > m-(↑(sumD L):Int) from (by omega)))
 refine ev_inline Tryz.tbs_ok Tryz.func78 rfl rfl ?_
 refine aG ?_
 refine aD TF [2] [] (fun v0_=>[.box (nb) 3 [vI (q-1)]]) fun _ h9=>?_
 refine aI ?_
 refine ev_call (TD (b6) (b0) (b5) (b1) (b2)) [0,1,8,4,7,5,6] [] (fun (v0_,v1_)=>[.box (p) 52 [vI m,vI s,.bl false,vL v0_ (n+1) v1_,.va (Value.func (Fn.func 58) #[] #[Value.pointer (some { block:=nb,off:=0:Addr })]),vL B k d],.fact (Row 89 3 v0_ (n+1) v1_ (List.flatMap encF (List.take (posF L x) L++{ n:=x,d:=y,s:=0:Fl }::List.drop (posF L x) L))),.box (b6) 4 [.bl false],.box (b0) 25 [SV.pt 0 p 0],.box (b5) 3 [vI (↑(posF L x):Int)],.box (b1) 9 [.va (Value.string x)],.box (b2) 9 [.va (Value.string y)]]) rfl rfl (by decide) rfl (by simp) (fun _=>rfl) (fun _=>(newsOk_box (by repeat (first | exact trivial | refine ⟨rfl,?_⟩ | refine ⟨trivial,?_⟩)) (newsOk_fact (newsOk_box (by repeat (first | exact trivial | refine ⟨rfl,?_⟩ | refine ⟨trivial,?_⟩)) (newsOk_box (by repeat (first | exact trivial | refine ⟨rfl,?_⟩ | refine ⟨trivial,?_⟩)) (newsOk_box (by repeat (first | exact trivial | refine ⟨rfl,?_⟩ | refine ⟨trivial,?_⟩)) (newsOk_box (by repeat (first | exact trivial | refine ⟨rfl,?_⟩ | refine ⟨trivial,?_⟩)) (newsOk_box (by repeat (first | exact trivial | refine ⟨rfl,?_⟩ | refine ⟨trivial,?_⟩)) (newsOk_nil _))))))))) (fun _=>aL) (fun ⟨x10,x11⟩ h12=>?_)
 refine aG (aJ ?_)
 refine aD (TC (x10) (x11)) [0,1] [.inr 3] (fun v0_=>[.box (p) 52 [vI m,vI s,.bl true,vL x10 (n+1) x11,.va (Value.nilFunc),vL B k d],.fact (Row 89 3 x10 (n+1) x11 (List.flatMap encF (crashF (List.take (posF L x) L++{ n:=x,d:=y,s:=0:Fl }::List.drop (posF L x) L) K)))]) fun _ h13=>?_
 refine ev_fin ⟨trivial,aL,_,rfl,?_⟩
 refine aG ?_
 exact ev_fin ⟨trivial,_,rfl,((x10,x11)),rfl,trivial,aF [0,1,2,3]⟩
theorem appendDown (p:Nat) (m s:Int) (A:Option Addr) (n c:Nat) (fv:Value) (B:Option Addr) (k d:Nat) (x y:ByteArray) (hm:0<m):Triple Tryz.prog 32 [pP p,.string x,.string y] [Pt p 52 [.int .i64 m,.int .i64 s,.bool true,.slice A n c,fv,.slice B k d]] [] (Unit) (fun _=>.int .i64 41) (fun _=>True) (fun _=>[Pt p 52 [.int .i64 m,.int .i64 s,.bool true,.slice A n c,fv,.slice B k d]]):=by
 have T1:=askP p m s true A n c fv B k d hm
 refine aT Tryz.func32 [.pt 0 p 0,.va (.string x),.va (.string y)] [.box p 52 [vI m,vI s,.va (.bool true),vL A n c,.va fv,vL B k d]] (fun E=>?_) ⟨rfl,trivial,trivial,trivial⟩
 refine aG ?_
 refine ev_new fun b0=>?_
 refine ev_new fun b1=>?_
 refine ev_new fun b2=>?_
 refine aD T1 [0] [] (fun v0_=>[.box (p) 52 [vI m,vI s,.bl true,vL A n c,.va (fv),vL B k d]]) fun _ h3=>?_
 refine aJ ?_
 exact ev_fin ⟨trivial,_,rfl,(),rfl,trivial,aF [0]⟩
theorem syncDown (p:Nat) (m s:Int) (A:Option Addr) (n c:Nat) (fv:Value) (B:Option Addr) (k d:Nat) (x:ByteArray) (hm:0<m):Triple Tryz.prog 102 [pP p,.string x] [Pt p 52 [.int .i64 m,.int .i64 s,.bool true,.slice A n c,fv,.slice B k d]] [] (Unit) (fun _=>.int .i64 41) (fun _=>True) (fun _=>[Pt p 52 [.int .i64 m,.int .i64 s,.bool true,.slice A n c,fv,.slice B k d]]):=by
 have T1:=askP p m s true A n c fv B k d hm
 refine aT Tryz.func102 [.pt 0 p 0,.va (.string x)] [.box p 52 [vI m,vI s,.va (.bool true),vL A n c,.va fv,vL B k d]] (fun E=>?_) ⟨rfl,trivial,trivial⟩
 refine aG ?_
 refine ev_new fun b0=>?_
 refine ev_inline Tryz.tbs_ok Tryz.func88 rfl rfl ?_
 refine aG ?_
 refine aD T1 [0] [] (fun v0_=>[.box (p) 52 [vI m,vI s,.bl true,vL A n c,.va (fv),vL B k d]]) fun _ h1=>?_
 refine aJ ?_
 refine ev_fin ⟨trivial,aL,_,rfl,?_⟩
 refine aG ?_
 exact ev_fin ⟨trivial,_,rfl,(),rfl,trivial,aF [0]⟩
theorem syncGone (p:Nat) (m s:Int) (A:Option Addr) (n c:Nat) (fv:Value) (B:Option Addr) (k d:Nat) (L:List Fl) (hn:n=L.length) (h1:n≤1000) (x:ByteArray) (hm:0<m) (hs:riseF L) (hh:hasF L x=false):Triple Tryz.prog 102 [pP p,.string x] [Pt p 52 [.int .i64 m,.int .i64 s,.bool false,.slice A n c,fv,.slice B k d],Row 89 3 A n c (L.flatMap encF)] [] (Unit) (fun _=>.int .i64 4) (fun _=>True) (fun _=>[Pt p 52 [.int .i64 m,.int .i64 s,.bool false,.slice A n c,fv,.slice B k d],Row 89 3 A n c (L.flatMap encF)]):=by
 have T1:=askP p m s false A n c fv B k d hm
 have T2:=findT p m s false A n c fv B k d L x hn h1 hs
 rw [hh] at T2
 refine aT Tryz.func102 [.pt 0 p 0,.va (.string x)] [.box p 52 [vI m,vI s,.va (.bool false),vL A n c,.va fv,vL B k d],.fact (Row 89 3 A n c (L.flatMap encF))] (fun E=>?_) ⟨rfl,trivial,trivial⟩
 refine aG ?_
 refine ev_new fun b0=>?_
 refine ev_inline Tryz.tbs_ok Tryz.func88 rfl rfl ?_
 refine aG ?_
 refine aD T1 [0] [] (fun v0_=>[.box (p) 52 [vI m,vI s,.bl false,vL A n c,.va (fv),vL B k d]]) fun _ h1=>?_
 refine aI ?_
 refine aD T2 [0,1] [] (fun v0_=>[.box (p) 52 [vI m,vI s,.bl false,vL A n c,.va (fv),vL B k d],.fact (Row 89 3 A n c (List.flatMap encF L))]) fun _ h2=>?_
 refine aJ ?_
 refine ev_fin ⟨trivial,aL,_,rfl,?_⟩
 refine aG ?_
 exact ev_fin ⟨trivial,_,rfl,(),rfl,trivial,aF [0,1]⟩
theorem truncDown (p:Nat) (m s:Int) (A:Option Addr) (n c:Nat) (fv:Value) (B:Option Addr) (k d:Nat) (x:ByteArray) (z:Int) (hm:0<m):Triple Tryz.prog 42 [pP p,.string x,.int .i64 z] [Pt p 52 [.int .i64 m,.int .i64 s,.bool true,.slice A n c,fv,.slice B k d]] [] (Unit) (fun _=>.int .i64 41) (fun _=>True) (fun _=>[Pt p 52 [.int .i64 m,.int .i64 s,.bool true,.slice A n c,fv,.slice B k d]]):=by
 have T1:=askP p m s true A n c fv B k d hm
 refine aT Tryz.func42 [.pt 0 p 0,.va (.string x),vI z] [.box p 52 [vI m,vI s,.va (.bool true),vL A n c,.va fv,vL B k d]] (fun E=>?_) ⟨rfl,trivial,trivial,trivial⟩
 refine aG ?_
 refine ev_new fun b0=>?_
 refine ev_new fun b1=>?_
 refine ev_inline Tryz.tbs_ok Tryz.func88 rfl rfl ?_
 refine aG ?_
 refine aD T1 [0] [] (fun v0_=>[.box (p) 52 [vI m,vI s,.bl true,vL A n c,.va (fv),vL B k d]]) fun _ h2=>?_
 refine aJ ?_
 refine ev_fin ⟨trivial,aL,_,rfl,?_⟩
 refine aG ?_
 exact ev_fin ⟨trivial,_,rfl,(),rfl,trivial,aF [0]⟩
theorem truncGone (p:Nat) (m s:Int) (A:Option Addr) (n c:Nat) (fv:Value) (B:Option Addr) (k d:Nat) (L:List Fl) (hn:n=L.length) (h1:n≤1000) (x:ByteArray) (z:Int) (hm:0<m) (hs:riseF L) (hh:hasF L x=false):Triple Tryz.prog 42 [pP p,.string x,.int .i64 z] [Pt p 52 [.int .i64 m,.int .i64 s,.bool false,.slice A n c,fv,.slice B k d],Row 89 3 A n c (L.flatMap encF)] [] (Unit) (fun _=>.int .i64 4) (fun _=>True) (fun _=>[Pt p 52 [.int .i64 m,.int .i64 s,.bool false,.slice A n c,fv,.slice B k d],Row 89 3 A n c (L.flatMap encF)]):=by
 have T1:=askP p m s false A n c fv B k d hm
 have T2:=findT p m s false A n c fv B k d L x hn h1 hs
 rw [hh] at T2
 refine aT Tryz.func42 [.pt 0 p 0,.va (.string x),vI z] [.box p 52 [vI m,vI s,.va (.bool false),vL A n c,.va fv,vL B k d],.fact (Row 89 3 A n c (L.flatMap encF))] (fun E=>?_) ⟨rfl,trivial,trivial,trivial⟩
 refine aG ?_
 refine ev_new fun b0=>?_
 refine ev_new fun b1=>?_
 refine ev_inline Tryz.tbs_ok Tryz.func88 rfl rfl ?_
 refine aG ?_
 refine aD T1 [0] [] (fun v0_=>[.box (p) 52 [vI m,vI s,.bl false,vL A n c,.va (fv),vL B k d]]) fun _ h2=>?_
 refine aI ?_
 refine aD T2 [0,1] [] (fun v0_=>[.box (p) 52 [vI m,vI s,.bl false,vL A n c,.va (fv),vL B k d],.fact (Row 89 3 A n c (List.flatMap encF L))]) fun _ h3=>?_
 refine aJ ?_
 refine ev_fin ⟨trivial,aL,_,rfl,?_⟩
 refine aG ?_
 exact ev_fin ⟨trivial,_,rfl,(),rfl,trivial,aF [0,1]⟩
theorem renameDown (p:Nat) (m s:Int) (A:Option Addr) (n c:Nat) (fv:Value) (B:Option Addr) (k d:Nat) (x y:ByteArray) (hm:0<m):Triple Tryz.prog 56 [pP p,.string x,.string y] [Pt p 52 [.int .i64 m,.int .i64 s,.bool true,.slice A n c,fv,.slice B k d]] [] (Unit) (fun _=>.int .i64 41) (fun _=>True) (fun _=>[Pt p 52 [.int .i64 m,.int .i64 s,.bool true,.slice A n c,fv,.slice B k d]]):=by
 have T1:=askP p m s true A n c fv B k d hm
 refine aT Tryz.func56 [.pt 0 p 0,.va (.string x),.va (.string y)] [.box p 52 [vI m,vI s,.va (.bool true),vL A n c,.va fv,vL B k d]] (fun E=>?_) ⟨rfl,trivial,trivial,trivial⟩
 refine aG ?_
 refine ev_new fun b0=>?_
 refine ev_new fun b1=>?_
 refine ev_inline Tryz.tbs_ok Tryz.func88 rfl rfl ?_
 refine aG ?_
 refine aD T1 [0] [] (fun v0_=>[.box (p) 52 [vI m,vI s,.bl true,vL A n c,.va (fv),vL B k d]]) fun _ h2=>?_
 refine aJ ?_
 refine ev_fin ⟨trivial,aL,_,rfl,?_⟩
 refine aG ?_
 exact ev_fin ⟨trivial,_,rfl,(),rfl,trivial,aF [0]⟩
theorem renameGone (p:Nat) (m s:Int) (A:Option Addr) (n c:Nat) (fv:Value) (B:Option Addr) (k d:Nat) (L:List Fl) (hn:n=L.length) (h1:n≤1000) (x y:ByteArray) (hm:0<m) (hs:riseF L) (hh:hasF L x=false):Triple Tryz.prog 56 [pP p,.string x,.string y] [Pt p 52 [.int .i64 m,.int .i64 s,.bool false,.slice A n c,fv,.slice B k d],Row 89 3 A n c (L.flatMap encF)] [] (Unit) (fun _=>.int .i64 4) (fun _=>True) (fun _=>[Pt p 52 [.int .i64 m,.int .i64 s,.bool false,.slice A n c,fv,.slice B k d],Row 89 3 A n c (L.flatMap encF)]):=by
 have T1:=askP p m s false A n c fv B k d hm
 have T2:=findT p m s false A n c fv B k d L x hn h1 hs
 rw [hh] at T2
 refine aT Tryz.func56 [.pt 0 p 0,.va (.string x),.va (.string y)] [.box p 52 [vI m,vI s,.va (.bool false),vL A n c,.va fv,vL B k d],.fact (Row 89 3 A n c (L.flatMap encF))] (fun E=>?_) ⟨rfl,trivial,trivial,trivial⟩
 refine aG ?_
 refine ev_new fun b0=>?_
 refine ev_new fun b1=>?_
 refine ev_inline Tryz.tbs_ok Tryz.func88 rfl rfl ?_
 refine aG ?_
 refine aD T1 [0] [] (fun v0_=>[.box (p) 52 [vI m,vI s,.bl false,vL A n c,.va (fv),vL B k d]]) fun _ h2=>?_
 refine aI ?_
 refine aD T2 [0,1] [] (fun v0_=>[.box (p) 52 [vI m,vI s,.bl false,vL A n c,.va (fv),vL B k d],.fact (Row 89 3 A n c (List.flatMap encF L))]) fun _ h3=>?_
 refine aJ ?_
 refine ev_fin ⟨trivial,aL,_,rfl,?_⟩
 refine aG ?_
 exact ev_fin ⟨trivial,_,rfl,(),rfl,trivial,aF [0,1]⟩
theorem removeDown (p:Nat) (m s:Int) (A:Option Addr) (n c:Nat) (fv:Value) (B:Option Addr) (k d:Nat) (x:ByteArray) (hm:0<m):Triple Tryz.prog 93 [pP p,.string x] [Pt p 52 [.int .i64 m,.int .i64 s,.bool true,.slice A n c,fv,.slice B k d]] [] (Unit) (fun _=>.int .i64 41) (fun _=>True) (fun _=>[Pt p 52 [.int .i64 m,.int .i64 s,.bool true,.slice A n c,fv,.slice B k d]]):=by
 have T1:=askP p m s true A n c fv B k d hm
 refine aT Tryz.func93 [.pt 0 p 0,.va (.string x)] [.box p 52 [vI m,vI s,.va (.bool true),vL A n c,.va fv,vL B k d]] (fun E=>?_) ⟨rfl,trivial,trivial⟩
 refine aG ?_
 refine ev_new fun b0=>?_
 refine ev_inline Tryz.tbs_ok Tryz.func88 rfl rfl ?_
 refine aG ?_
 refine aD T1 [0] [] (fun v0_=>[.box (p) 52 [vI m,vI s,.bl true,vL A n c,.va (fv),vL B k d]]) fun _ h1=>?_
 refine aJ ?_
 refine ev_fin ⟨trivial,aL,_,rfl,?_⟩
 refine aG ?_
 exact ev_fin ⟨trivial,_,rfl,(),rfl,trivial,aF [0]⟩
theorem removeGone (p:Nat) (m s:Int) (A:Option Addr) (n c:Nat) (fv:Value) (B:Option Addr) (k d:Nat) (L:List Fl) (hn:n=L.length) (h1:n≤1000) (x:ByteArray) (hm:0<m) (hs:riseF L) (hh:hasF L x=false):Triple Tryz.prog 93 [pP p,.string x] [Pt p 52 [.int .i64 m,.int .i64 s,.bool false,.slice A n c,fv,.slice B k d],Row 89 3 A n c (L.flatMap encF)] [] (Unit) (fun _=>.int .i64 4) (fun _=>True) (fun _=>[Pt p 52 [.int .i64 m,.int .i64 s,.bool false,.slice A n c,fv,.slice B k d],Row 89 3 A n c (L.flatMap encF)]):=by
 have T1:=askP p m s false A n c fv B k d hm
 have T2:=findT p m s false A n c fv B k d L x hn h1 hs
 rw [hh] at T2
 refine aT Tryz.func93 [.pt 0 p 0,.va (.string x)] [.box p 52 [vI m,vI s,.va (.bool false),vL A n c,.va fv,vL B k d],.fact (Row 89 3 A n c (L.flatMap encF))] (fun E=>?_) ⟨rfl,trivial,trivial⟩
 refine aG ?_
 refine ev_new fun b0=>?_
 refine ev_inline Tryz.tbs_ok Tryz.func88 rfl rfl ?_
 refine aG ?_
 refine aD T1 [0] [] (fun v0_=>[.box (p) 52 [vI m,vI s,.bl false,vL A n c,.va (fv),vL B k d]]) fun _ h1=>?_
 refine aI ?_
 refine aD T2 [0,1] [] (fun v0_=>[.box (p) 52 [vI m,vI s,.bl false,vL A n c,.va (fv),vL B k d],.fact (Row 89 3 A n c (List.flatMap encF L))]) fun _ h2=>?_
 refine aJ ?_
 refine ev_fin ⟨trivial,aL,_,rfl,?_⟩
 refine aG ?_
 exact ev_fin ⟨trivial,_,rfl,(),rfl,trivial,aF [0,1]⟩
theorem readDown (p:Nat) (m s:Int) (A:Option Addr) (n c:Nat) (fv:Value) (B:Option Addr) (k d:Nat) (x:ByteArray) (hm:0<m):Triple Tryz.prog 38 [pP p,.string x] [Pt p 52 [.int .i64 m,.int .i64 s,.bool true,.slice A n c,fv,.slice B k d]] [] (Unit) (fun _=>.tuple #[.string ByteArray.empty,.int .i64 41]) (fun _=>True) (fun _=>[Pt p 52 [.int .i64 m,.int .i64 s,.bool true,.slice A n c,fv,.slice B k d]]):=by
 have T1:=askP p m s true A n c fv B k d hm
 refine aT Tryz.func38 [.pt 0 p 0,.va (.string x)] [.box p 52 [vI m,vI s,.va (.bool true),vL A n c,.va fv,vL B k d]] (fun E=>?_) ⟨rfl,trivial,trivial⟩
 refine aG ?_
 refine ev_new fun b0=>?_
 refine ev_new fun b1=>?_
 refine ev_inline Tryz.tbs_ok Tryz.func88 rfl rfl ?_
 refine aG ?_
 refine aD T1 [0] [] (fun v0_=>[.box (p) 52 [vI m,vI s,.bl true,vL A n c,.va (fv),vL B k d]]) fun _ h2=>?_
 refine aJ ?_
 refine ev_fin ⟨trivial,aL,_,rfl,?_⟩
 refine aG ?_
 exact ev_fin ⟨trivial,_,rfl,(),rfl,trivial,aF [0]⟩
theorem readGone (p:Nat) (m s:Int) (A:Option Addr) (n c:Nat) (fv:Value) (B:Option Addr) (k d:Nat) (L:List Fl) (hn:n=L.length) (h1:n≤1000) (x:ByteArray) (hm:0<m) (hs:riseF L) (hh:hasF L x=false):Triple Tryz.prog 38 [pP p,.string x] [Pt p 52 [.int .i64 m,.int .i64 s,.bool false,.slice A n c,fv,.slice B k d],Row 89 3 A n c (L.flatMap encF)] [] (Unit) (fun _=>.tuple #[.string ByteArray.empty,.int .i64 4]) (fun _=>True) (fun _=>[Pt p 52 [.int .i64 m,.int .i64 s,.bool false,.slice A n c,fv,.slice B k d],Row 89 3 A n c (L.flatMap encF)]):=by
 have T1:=askP p m s false A n c fv B k d hm
 have T2:=findT p m s false A n c fv B k d L x hn h1 hs
 rw [hh] at T2
 refine aT Tryz.func38 [.pt 0 p 0,.va (.string x)] [.box p 52 [vI m,vI s,.va (.bool false),vL A n c,.va fv,vL B k d],.fact (Row 89 3 A n c (L.flatMap encF))] (fun E=>?_) ⟨rfl,trivial,trivial⟩
 refine aG ?_
 refine ev_new fun b0=>?_
 refine ev_new fun b1=>?_
 refine ev_inline Tryz.tbs_ok Tryz.func88 rfl rfl ?_
 refine aG ?_
 refine aD T1 [0] [] (fun v0_=>[.box (p) 52 [vI m,vI s,.bl false,vL A n c,.va (fv),vL B k d]]) fun _ h2=>?_
 refine aI ?_
 refine aD T2 [0,1] [] (fun v0_=>[.box (p) 52 [vI m,vI s,.bl false,vL A n c,.va (fv),vL B k d],.fact (Row 89 3 A n c (List.flatMap encF L))]) fun _ h3=>?_
 refine aJ ?_
 refine ev_fin ⟨trivial,aL,_,rfl,?_⟩
 refine aG ?_
 exact ev_fin ⟨trivial,_,rfl,(),rfl,trivial,aF [0,1]⟩
theorem crashDown (p:Nat) (m s:Int) (A:Option Addr) (n c:Nat) (fv:Value) (B:Option Addr) (k d:Nat) (Q:Option Addr) (kq dq:Nat) (hm:0<m):Triple Tryz.prog 13 [pP p,.slice Q kq dq] [Pt p 52 [.int .i64 m,.int .i64 s,.bool true,.slice A n c,fv,.slice B k d]] [] (Unit) (fun _=>.int .i64 41) (fun _=>True) (fun _=>[Pt p 52 [.int .i64 m,.int .i64 s,.bool true,.slice A n c,fv,.slice B k d]]):=by
 have T1:=askP p m s true A n c fv B k d hm
 refine aT Tryz.func13 [.pt 0 p 0,vL Q kq dq] [.box p 52 [vI m,vI s,.va (.bool true),vL A n c,.va fv,vL B k d]] (fun E=>?_) ⟨rfl,trivial,trivial⟩
 refine aG ?_
 refine aD T1 [0] [] (fun v0_=>[.box (p) 52 [vI m,vI s,.bl true,vL A n c,.va (fv),vL B k d]]) fun _ h0=>?_
 refine aJ ?_
 exact ev_fin ⟨trivial,_,rfl,(),rfl,trivial,aF [0]⟩
theorem failDown (p:Nat) (m s:Int) (A:Option Addr) (n c:Nat) (fv:Value) (B:Option Addr) (k d:Nat) (z:Int) (Q:Option Addr) (kq dq:Nat) (hm:0<m):Triple Tryz.prog 25 [pP p,.int .i64 z,.slice Q kq dq] [Pt p 52 [.int .i64 m,.int .i64 s,.bool true,.slice A n c,fv,.slice B k d]] [] (Unit) (fun _=>.int .i64 41) (fun _=>True) (fun _=>[Pt p 52 [.int .i64 m,.int .i64 s,.bool true,.slice A n c,fv,.slice B k d]]):=by
 have T1:=askP p m s true A n c fv B k d hm
 refine aT Tryz.func25 [.pt 0 p 0,vI z,vL Q kq dq] [.box p 52 [vI m,vI s,.va (.bool true),vL A n c,.va fv,vL B k d]] (fun E=>?_) ⟨rfl,trivial,trivial,trivial⟩
 refine aG ?_
 refine ev_new fun b0=>?_
 refine aD T1 [0] [] (fun v0_=>[.box (p) 52 [vI m,vI s,.bl true,vL A n c,.va (fv),vL B k d]]) fun _ h1=>?_
 refine aJ ?_
 exact ev_fin ⟨trivial,_,rfl,(),rfl,trivial,aF [0]⟩
theorem truncArg (p:Nat) (m s:Int) (A:Option Addr) (n c:Nat) (fv:Value) (B:Option Addr) (k d:Nat) (L:List Fl) (hn:n=L.length) (h1:n≤1000) (x:ByteArray) (z:Int) (hm:0<m) (hs:riseF L) (hh:hasF L x=true) (hi':posF L x<L.length) (hz:z<0∨(((L[posF L x]'hi').d.size:Nat):Int)<z):Triple Tryz.prog 42 [pP p,.string x,.int .i64 z] [Pt p 52 [.int .i64 m,.int .i64 s,.bool false,.slice A n c,fv,.slice B k d],Row 89 3 A n c (L.flatMap encF)] [] (Unit) (fun _=>.int .i64 2) (fun _=>True) (fun _=>[Pt p 52 [.int .i64 m,.int .i64 s,.bool false,.slice A n c,fv,.slice B k d],Row 89 3 A n c (L.flatMap encF)]):=by
 have T1:=askP p m s false A n c fv B k d hm
 have T2:=findT p m s false A n c fv B k d L x hn h1 hs
 rw [hh] at T2
 have hi:posF L x<L.length:=(has_pos hs hh).1
 refine aT Tryz.func42 [.pt 0 p 0,.va (.string x),vI z] [.box p 52 [vI m,vI s,.va (.bool false),vL A n c,.va fv,vL B k d],.fact (Row 89 3 A n c (L.flatMap encF))] (fun E=>?_) ⟨rfl,trivial,trivial,trivial⟩
 refine aG ?_
 refine ev_new fun b0=>?_
 refine ev_new fun b1=>?_
 refine ev_inline Tryz.tbs_ok Tryz.func88 rfl rfl ?_
 refine aG ?_
 refine aD T1 [0] [] (fun v0_=>[.box (p) 52 [vI m,vI s,.bl false,vL A n c,.va (fv),vL B k d]]) fun _ h2=>?_
 refine aI ?_
 refine aD T2 [0,1] [] (fun v0_=>[.box (p) 52 [vI m,vI s,.bl false,vL A n c,.va (fv),vL B k d],.fact (Row 89 3 A n c (List.flatMap encF L))]) fun _ h3=>?_
 refine aI ?_
 refine ev_inline Tryz.tbs_ok Tryz.func94 rfl rfl ?_
 refine aG ?_
 refine ev_stop (go_index0 (sz:=3) Tryz.tbs_ok (.inr 1) (posF L x) rfl rfl rfl rfl rfl rfl (by omega) rfl Row.at0 (fun g4 e5=>?_))
 subst e5
 refine aG ?_
 refine ev_new fun b6=>?_
 refine ev_stop (go_draw Tryz.tbs_ok true [0,1,2,3,4] [(0,true),(1,true),(2,true),(3,true),(4,true),(5,true),(6,true),(7,true),(8,true),(9,true),(10,true)] rfl ?_)
 refine aG (aE ?_)
 refine ev_if_lt (fun h7=>?_) (fun h7=>?_)
 refine aG (aE ?_)
 refine ev_fin ⟨trivial,aL,_,rfl,?_⟩
 refine aG ?_
 refine ev_fin ⟨trivial,aL,_,rfl,?_⟩
 refine aG ?_
 exact ev_fin ⟨trivial,_,rfl,(),rfl,trivial,aF [0,1]⟩
 refine aG (aE ?_)
 have l8:posF L x<(L).length:=(by omega)
 refine ev_stop (tk_loadE Tryz.tbs_ok (.inr 1) (posF L x) 1 aB rfl rfl rfl rfl rfl (fun _ h=>Row.rd h) (by omega) (fun _=>rfl) (by omega) l8 (by decide) ?_)
 refine aG (aE ?_)
 refine aJ ?_ (decide_eq_true (show z > (↑L[posF L x].d.size:Int) from (by omega)))
 refine ev_fin ⟨trivial,aL,_,rfl,?_⟩
 refine aG ?_
 refine ev_fin ⟨trivial,aL,_,rfl,?_⟩
 refine aG ?_
 exact ev_fin ⟨trivial,_,rfl,(),rfl,trivial,aF [0,1]⟩
theorem renameArg (p:Nat) (m s:Int) (A:Option Addr) (n c:Nat) (fv:Value) (B:Option Addr) (k d:Nat) (L:List Fl) (hn:n=L.length) (h1:n≤1000) (x y:ByteArray) (hm:0<m) (hs:riseF L) (hh:hasF L x=true) (ho:oddS y=true):Triple Tryz.prog 56 [pP p,.string x,.string y] [Pt p 52 [.int .i64 m,.int .i64 s,.bool false,.slice A n c,fv,.slice B k d],Row 89 3 A n c (L.flatMap encF)] [] (Unit) (fun _=>.int .i64 2) (fun _=>True) (fun _=>[Pt p 52 [.int .i64 m,.int .i64 s,.bool false,.slice A n c,fv,.slice B k d],Row 89 3 A n c (L.flatMap encF)]):=by
 have T1:=askP p m s false A n c fv B k d hm
 have T2:=findT p m s false A n c fv B k d L x hn h1 hs
 rw [hh] at T2
 have TO:=oddT y
 rw [ho] at TO
 refine aT Tryz.func56 [.pt 0 p 0,.va (.string x),.va (.string y)] [.box p 52 [vI m,vI s,.va (.bool false),vL A n c,.va fv,vL B k d],.fact (Row 89 3 A n c (L.flatMap encF))] (fun E=>?_) ⟨rfl,trivial,trivial,trivial⟩
 refine aG ?_
 refine ev_new fun b0=>?_
 refine ev_new fun b1=>?_
 refine ev_inline Tryz.tbs_ok Tryz.func88 rfl rfl ?_
 refine aG ?_
 refine aD T1 [0] [] (fun v0_=>[.box (p) 52 [vI m,vI s,.bl false,vL A n c,.va (fv),vL B k d]]) fun _ h2=>?_
 refine aI ?_
 refine aD T2 [0,1] [] (fun v0_=>[.box (p) 52 [vI m,vI s,.bl false,vL A n c,.va (fv),vL B k d],.fact (Row 89 3 A n c (List.flatMap encF L))]) fun _ h3=>?_
 refine aI ?_
 refine ev_inline Tryz.tbs_ok Tryz.func104 rfl rfl ?_
 refine aG ?_
 refine ev_new fun b4=>?_
 refine aC TO [] [] fun _ h5=>?_
 refine aJ ?_
 refine ev_fin ⟨trivial,aL,_,rfl,?_⟩
 refine aG ?_
 refine ev_fin ⟨trivial,aL,_,rfl,?_⟩
 refine aG ?_
 exact ev_fin ⟨trivial,_,rfl,(),rfl,trivial,aF [0,1]⟩
theorem readT (p:Nat) (m s:Int) (A:Option Addr) (n c:Nat) (fv:Value) (B:Option Addr) (k d:Nat) (L:List Fl) (hn:n=L.length) (h1:n≤1000) (x:ByteArray) (hm:0<m) (hs:riseF L) (hh:hasF L x=true) (hi':posF L x<L.length):Triple Tryz.prog 38 [pP p,.string x] [Pt p 52 [.int .i64 m,.int .i64 s,.bool false,.slice A n c,fv,.slice B k d],Row 89 3 A n c (L.flatMap encF)] [] (Unit) (fun _=>.tuple #[.string (L[posF L x]'hi').d,.int .i64 0]) (fun _=>True) (fun _=>[Pt p 52 [.int .i64 m,.int .i64 s,.bool false,.slice A n c,fv,.slice B k d],Row 89 3 A n c (L.flatMap encF)]):=by
 have T1:=askP p m s false A n c fv B k d hm
 have T2:=findT p m s false A n c fv B k d L x hn h1 hs
 rw [hh] at T2
 have hi:posF L x<L.length:=(has_pos hs hh).1
 refine aT Tryz.func38 [.pt 0 p 0,.va (.string x)] [.box p 52 [vI m,vI s,.va (.bool false),vL A n c,.va fv,vL B k d],.fact (Row 89 3 A n c (L.flatMap encF))] (fun E=>?_) ⟨rfl,trivial,trivial⟩
 refine aG ?_
 refine ev_new fun b0=>?_
 refine ev_new fun b1=>?_
 refine ev_inline Tryz.tbs_ok Tryz.func88 rfl rfl ?_
 refine aG ?_
 refine aD T1 [0] [] (fun v0_=>[.box (p) 52 [vI m,vI s,.bl false,vL A n c,.va (fv),vL B k d]]) fun _ h2=>?_
 refine aI ?_
 refine aD T2 [0,1] [] (fun v0_=>[.box (p) 52 [vI m,vI s,.bl false,vL A n c,.va (fv),vL B k d],.fact (Row 89 3 A n c (List.flatMap encF L))]) fun _ h3=>?_
 refine aI ?_
 refine ev_inline Tryz.tbs_ok Tryz.func89 rfl rfl ?_
 refine aG ?_
 refine ev_stop (go_index0 (sz:=3) Tryz.tbs_ok (.inr 1) (posF L x) rfl rfl rfl rfl rfl rfl (by omega) rfl Row.at0 (fun g4 e5=>?_))
 subst e5
 refine aG ?_
 have l6:posF L x<(L).length:=(by omega)
 refine ev_stop (go_loadE Tryz.tbs_ok (.inr 1) (posF L x) 1 rfl rfl rfl rfl (fun _ h=>Row.rd h) (by omega) (fun _=>rfl) (by omega) l6 (by decide) ?_)
 refine aG ?_
 refine ev_fin ⟨trivial,aL,_,rfl,?_⟩
 refine aG ?_
 refine ev_fin ⟨trivial,aL,_,rfl,?_⟩
 refine aG ?_
 exact ev_fin ⟨trivial,_,rfl,(),rfl,trivial,aF [0,1]⟩
theorem appendArg (p:Nat) (m s:Int) (A:Option Addr) (n c:Nat) (fv:Value) (B:Option Addr) (k d:Nat) (L:List Fl) (hn:n=L.length) (h1:n≤1000) (x y:ByteArray) (hm:0<m) (hs:riseF L) (ho:oddS x=true):Triple Tryz.prog 32 [pP p,.string x,.string y] [Pt p 52 [.int .i64 m,.int .i64 s,.bool false,.slice A n c,fv,.slice B k d],Row 89 3 A n c (L.flatMap encF)] [] (Unit) (fun _=>.int .i64 2) (fun _=>True) (fun _=>[Pt p 52 [.int .i64 m,.int .i64 s,.bool false,.slice A n c,fv,.slice B k d],Row 89 3 A n c (L.flatMap encF)]):=by
 have T1:=askP p m s false A n c fv B k d hm
 have T2:=findT p m s false A n c fv B k d L x hn h1 hs
 have TO:=oddT x
 rw [ho] at TO
 refine aT Tryz.func32 [.pt 0 p 0,.va (.string x),.va (.string y)] [.box p 52 [vI m,vI s,.va (.bool false),vL A n c,.va fv,vL B k d],.fact (Row 89 3 A n c (L.flatMap encF))] (fun E=>?_) ⟨rfl,trivial,trivial,trivial⟩
 refine aG ?_
 refine ev_new fun b0=>?_
 refine ev_new fun b1=>?_
 refine ev_new fun b2=>?_
 refine aD T1 [0] [] (fun v0_=>[.box (p) 52 [vI m,vI s,.bl false,vL A n c,.va (fv),vL B k d]]) fun _ h3=>?_
 refine aI ?_
 refine aD T2 [0,1] [] (fun v0_=>[.box (p) 52 [vI m,vI s,.bl false,vL A n c,.va (fv),vL B k d],.fact (Row 89 3 A n c (List.flatMap encF L))]) fun _ h4=>?_
 refine ev_new fun b5=>?_
 refine ev_new fun b6=>?_
 refine aC TO [] [] fun _ h7=>?_
 refine aJ ?_
 exact ev_fin ⟨trivial,_,rfl,(),rfl,trivial,aF [0,1]⟩
theorem appendFull1 (p:Nat) (m s:Int) (A:Option Addr) (n c:Nat) (fv:Value) (B:Option Addr) (k d:Nat) (L:List Fl) (hn:n=L.length) (h1:n≤1000) (x y:ByteArray) (hm:0<m) (hs:riseF L) (ho:oddS x=false) (hh:hasF L x=false) (hn16:n=16):Triple Tryz.prog 32 [pP p,.string x,.string y] [Pt p 52 [.int .i64 m,.int .i64 s,.bool false,.slice A n c,fv,.slice B k d],Row 89 3 A n c (L.flatMap encF)] [] (Unit) (fun _=>.int .i64 40) (fun _=>True) (fun _=>[Pt p 52 [.int .i64 m,.int .i64 s,.bool false,.slice A n c,fv,.slice B k d],Row 89 3 A n c (L.flatMap encF)]):=by
 have T1:=askP p m s false A n c fv B k d hm
 have T2:=findT p m s false A n c fv B k d L x hn h1 hs
 rw [hh] at T2
 have TO:=oddT x
 rw [ho] at TO
 refine aT Tryz.func32 [.pt 0 p 0,.va (.string x),.va (.string y)] [.box p 52 [vI m,vI s,.va (.bool false),vL A n c,.va fv,vL B k d],.fact (Row 89 3 A n c (L.flatMap encF))] (fun E=>?_) ⟨rfl,trivial,trivial,trivial⟩
 refine aG ?_
 refine ev_new fun b0=>?_
 refine ev_new fun b1=>?_
 refine ev_new fun b2=>?_
 refine aD T1 [0] [] (fun v0_=>[.box (p) 52 [vI m,vI s,.bl false,vL A n c,.va (fv),vL B k d]]) fun _ h3=>?_
 refine aI ?_
 refine aD T2 [0,1] [] (fun v0_=>[.box (p) 52 [vI m,vI s,.bl false,vL A n c,.va (fv),vL B k d],.fact (Row 89 3 A n c (List.flatMap encF L))]) fun _ h4=>?_
 refine ev_new fun b5=>?_
 refine ev_new fun b6=>?_
 refine aC TO [] [] fun _ h7=>?_
 refine aI (aJ ?_)
 refine aJ ?_ (beq_iff_eq.2 (show (↑n:Int)=16 from (by omega)))
 refine aJ ?_ (beq_iff_eq.2 (show (↑n:Int)=16 from (by omega)))
 exact ev_fin ⟨trivial,_,rfl,(),rfl,trivial,aF [0,1]⟩
theorem appendFull2T (p:Nat) (m s:Int) (A:Option Addr) (n c:Nat) (fv:Value) (B:Option Addr) (k d:Nat) (L:List Fl) (hn:n=L.length) (h1:n≤1000) (x y:ByteArray) (hm:0<m) (hm2:m≤1048576) (hb:sumD L≤1000000000) (hs:riseF L) (ho:oddS x=false) (hh:hasF L x=true) (hy:m-sumD L<(y.size:Int)):Triple Tryz.prog 32 [pP p,.string x,.string y] [Pt p 52 [.int .i64 m,.int .i64 s,.bool false,.slice A n c,fv,.slice B k d],Row 89 3 A n c (L.flatMap encF)] [] (Unit) (fun _=>.int .i64 40) (fun _=>True) (fun _=>[Pt p 52 [.int .i64 m,.int .i64 s,.bool false,.slice A n c,fv,.slice B k d],Row 89 3 A n c (L.flatMap encF)]):=by
 have T1:=askP p m s false A n c fv B k d hm
 have T2:=findT p m s false A n c fv B k d L x hn h1 hs
 rw [hh] at T2
 have TO:=oddT x
 rw [ho] at TO
 have TS:=sizeT p m s false A n c fv B k d L hm hn h1 hb
 refine aT Tryz.func32 [.pt 0 p 0,.va (.string x),.va (.string y)] [.box p 52 [vI m,vI s,.va (.bool false),vL A n c,.va fv,vL B k d],.fact (Row 89 3 A n c (L.flatMap encF))] (fun E=>?_) ⟨rfl,trivial,trivial,trivial⟩
 refine aG ?_
 refine ev_new fun b0=>?_
 refine ev_new fun b1=>?_
 refine ev_new fun b2=>?_
 refine aD T1 [0] [] (fun v0_=>[.box (p) 52 [vI m,vI s,.bl false,vL A n c,.va (fv),vL B k d]]) fun _ h3=>?_
 refine aI ?_
 refine aD T2 [0,1] [] (fun v0_=>[.box (p) 52 [vI m,vI s,.bl false,vL A n c,.va (fv),vL B k d],.fact (Row 89 3 A n c (List.flatMap encF L))]) fun _ h4=>?_
 refine ev_new fun b5=>?_
 refine ev_new fun b6=>?_
 refine aC TO [] [] fun _ h7=>?_
 refine aI (aI ?_)
 refine ev_stop (go_draw Tryz.tbs_ok false [0,2,4] [(0,true),(1,true),(2,true),(3,true),(4,true),(5,true),(6,true),(7,false),(8,false),(9,false),(10,false)] rfl ?_)
 refine aG (aE ?_)
 refine aD TS [0,1] [] (fun v0_=>[.box (p) 52 [vI m,vI s,.bl false,vL A n c,.va (fv),vL B k d],.fact (Row 89 3 A n c (List.flatMap encF L))]) fun _ h8=>?_
 refine aE ?_
 refine w6 ?_
 refine aE (aE (aK ?_))
 refine aJ ?_ (decide_eq_true (by with_reducible assumption))
 exact ev_fin ⟨trivial,_,rfl,(),rfl,trivial,aF [0,1]⟩
theorem appendFull2F (p:Nat) (m s:Int) (A:Option Addr) (n c:Nat) (fv:Value) (B:Option Addr) (k d:Nat) (L:List Fl) (hn:n=L.length) (h1:n≤1000) (x y:ByteArray) (hm:0<m) (hm2:m≤1048576) (hb:sumD L≤1000000000) (hs:riseF L) (ho:oddS x=false) (hh:hasF L x=false) (hn16:n≠16) (hy:m-sumD L<(y.size:Int)):Triple Tryz.prog 32 [pP p,.string x,.string y] [Pt p 52 [.int .i64 m,.int .i64 s,.bool false,.slice A n c,fv,.slice B k d],Row 89 3 A n c (L.flatMap encF)] [] (Unit) (fun _=>.int .i64 40) (fun _=>True) (fun _=>[Pt p 52 [.int .i64 m,.int .i64 s,.bool false,.slice A n c,fv,.slice B k d],Row 89 3 A n c (L.flatMap encF)]):=by
 have T1:=askP p m s false A n c fv B k d hm
 have T2:=findT p m s false A n c fv B k d L x hn h1 hs
 rw [hh] at T2
 have TO:=oddT x
 rw [ho] at TO
 have TS:=sizeT p m s false A n c fv B k d L hm hn h1 hb
 refine aT Tryz.func32 [.pt 0 p 0,.va (.string x),.va (.string y)] [.box p 52 [vI m,vI s,.va (.bool false),vL A n c,.va fv,vL B k d],.fact (Row 89 3 A n c (L.flatMap encF))] (fun E=>?_) ⟨rfl,trivial,trivial,trivial⟩
 refine aG ?_
 refine ev_new fun b0=>?_
 refine ev_new fun b1=>?_
 refine ev_new fun b2=>?_
 refine aD T1 [0] [] (fun v0_=>[.box (p) 52 [vI m,vI s,.bl false,vL A n c,.va (fv),vL B k d]]) fun _ h3=>?_
 refine aI ?_
 refine aD T2 [0,1] [] (fun v0_=>[.box (p) 52 [vI m,vI s,.bl false,vL A n c,.va (fv),vL B k d],.fact (Row 89 3 A n c (List.flatMap encF L))]) fun _ h4=>?_
 refine ev_new fun b5=>?_
 refine ev_new fun b6=>?_
 refine aC TO [] [] fun _ h7=>?_
 refine aI (aJ ?_)
 refine aI ?_ (beq_eq_false_iff_ne.2 (show ¬(↑n:Int)=16 from (by omega)))
 refine ev_stop (go_draw Tryz.tbs_ok false [0,2,4] [(0,true),(1,true),(2,true),(3,true),(4,true),(5,true),(6,true),(7,false),(8,false),(9,false),(10,false)] rfl ?_)
 refine aG (aE ?_)
 refine aD TS [0,1] [] (fun v0_=>[.box (p) 52 [vI m,vI s,.bl false,vL A n c,.va (fv),vL B k d],.fact (Row 89 3 A n c (List.flatMap encF L))]) fun _ h8=>?_
 refine aE ?_
 refine w6 ?_
 refine aE (aE (aK ?_))
 refine aJ ?_ (decide_eq_true (by with_reducible assumption))
 exact ev_fin ⟨trivial,_,rfl,(),rfl,trivial,aF [0,1]⟩
theorem startUp (p:Nat) (m s:Int) (A:Option Addr) (n c:Nat) (fv:Value) (B:Option Addr) (k d:Nat) (hm:0<m):Triple Tryz.prog 14 [pP p] [Pt p 52 [.int .i64 m,.int .i64 s,.bool false,.slice A n c,fv,.slice B k d]] [] (Unit) (fun _=>.int .i64 2) (fun _=>True) (fun _=>[Pt p 52 [.int .i64 m,.int .i64 s,.bool false,.slice A n c,fv,.slice B k d]]):=by
 have T1:=askP p m s false A n c fv B k d hm
 refine aT Tryz.func14 [.pt 0 p 0] [.box p 52 [vI m,vI s,.va (.bool false),vL A n c,.va fv,vL B k d]] (fun E=>?_) ⟨rfl,trivial⟩
 refine aG ?_
 refine aD T1 [0] [] (fun v0_=>[.box (p) 52 [vI m,vI s,.bl false,vL A n c,.va (fv),vL B k d]]) fun _ h0=>?_
 refine aI (aJ ?_)
 exact ev_fin ⟨trivial,_,rfl,(),rfl,trivial,aF [0]⟩
theorem startDown (p:Nat) (m s:Int) (A:Option Addr) (n c:Nat) (fv:Value) (B:Option Addr) (k d:Nat) (hm:0<m) (h0:0≤s) (h1:s≤1000000000):Triple Tryz.prog 14 [pP p] [Pt p 52 [.int .i64 m,.int .i64 s,.bool true,.slice A n c,fv,.slice B k d]] [] (Unit) (fun _=>.int .i64 0) (fun _=>True) (fun _=>[Pt p 52 [.int .i64 m,.int .i64 (s+1),.bool false,.slice A n c,fv,.slice B k d]]):=by
 have T1:=askP p m s true A n c fv B k d hm
 refine aT Tryz.func14 [.pt 0 p 0] [.box p 52 [vI m,vI s,.va (.bool true),vL A n c,.va fv,vL B k d]] (fun E=>?_) ⟨rfl,trivial⟩
 refine aG ?_
 refine aD T1 [0] [] (fun v0_=>[.box (p) 52 [vI m,vI s,.bl true,vL A n c,.va (fv),vL B k d]]) fun _ h0=>?_
 refine aJ ?_
 refine w6 ?_
 exact ev_fin ⟨trivial,_,rfl,(),rfl,trivial,aF [0]⟩
theorem newErr (z:Int) (hz:z<1∨1048576<z):Triple Tryz.prog 11 [.int .i64 z] [] [] (Unit) (fun _=>.tuple #[.pointer none,.int .i64 2]) (fun _=>True) (fun _=>[]):=by
 refine aT Tryz.func11 [vI z] [] (fun E=>?_) ⟨trivial,trivial⟩
 refine aG ?_
 refine ev_if_lt (fun h0=>?_) (fun h0=>?_)
 refine aG ?_
 refine ev_fin ⟨trivial,_,rfl,(()),rfl,(by trivial),Frm.nil _⟩
 refine aG ?_
 refine aJ ?_ (decide_eq_true (show z > 1048576 from (by omega)))
 refine ev_fin ⟨trivial,_,rfl,(()),rfl,(by trivial),Frm.nil _⟩
theorem newOk (z:Int) (hz:1≤z) (hz2:z≤1048576):Triple Tryz.prog 11 [.int .i64 z] [] [] (Nat) (fun p=>.tuple #[pP p,.int .i64 0]) (fun _=>True) (fun p=>[Pt p 52 [.int .i64 z,.int .i64 0,.bool false,.slice none 0 0,.nilFunc,.slice none 0 0]]):=by
 refine aT Tryz.func11 [vI z] [] (fun E=>?_) ⟨trivial,trivial⟩
 refine aG ?_
 refine aI ?_ (decide_eq_false (show ¬z<1 from (by omega)))
 refine aI ?_ (decide_eq_false (show ¬z > 1048576 from (by omega)))
 refine ev_new fun b0=>?_
 exact ev_fin ⟨trivial,_,rfl,(b0),rfl,trivial,aF [0]⟩
theorem cloneT (Q:Option Addr) (kq dq:Nat) (K:List Int) (hk:kq=K.length) (h1:kq≤100000):Triple Tryz.prog 57 [.slice Q kq dq] [] [Rd 1 Q kq (K.flatMap encN)] (Option Addr × Nat) (fun (B,d)=>.slice B kq d) (fun _=>True) (fun (B,d)=>[Row 3 1 B kq d (K.flatMap encN)]):=by
 refine aT Tryz.func57 [vL Q kq dq] [] (fun E=>?_) ⟨trivial,trivial⟩
 cases Q with
 |
  none =>
  refine go_know (.inl 0) (Rd 1 none kq (K.flatMap encN)) rfl (p:=kq=0) (fun h q=>by
   rcases Nat.eq_zero_or_pos kq with h1 | h1
   · exact h1
   obtain ⟨_,_,_,_,_,e,_⟩:=q.2.2 h1
   cases e) fun h0=>?_
  obtain rfl:K=[]:=List.eq_nil_of_length_eq_zero (by omega)
  subst h0
  refine go_fact (Row 3 1 none 0 0 (([]:List Int).flatMap encN)) (Row.nilE _ _) ?_
  refine aG (aJ ?_)
  exact ev_fin ⟨trivial,_,rfl,((none,0)),rfl,trivial,aF [0]⟩
 | some g =>
  refine go Tryz.tbs_ok 1000 ?_
  refine aI ?_
  refine ev_new fun b0=>?_
  refine ev_stop (go_appendE (sz:=1) (M:=[_]) (enc:=encN) Tryz.tbs_ok [0] [some b0] (.inl 0) ([]) (K) (K) (kq) rfl rfl rfl rfl rfl rfl rfl (by decide) rfl (by decide) (fun _ p=>Pt.row (starH_one.1 p) rfl (by decide)) rfl (fun _ h=>h) (by first | rfl | simp) (by first | rfl | omega) (aM (kq)) (aN (kq)) (fun _ _=>aL) (fun A1 c2 h3=>?_))
  refine aG ?_
  exact ev_fin ⟨trivial,_,rfl,((A1,c2)),rfl,trivial,aF [1]⟩
theorem failArg (p:Nat) (m s:Int) (A:Option Addr) (n c:Nat) (fv:Value) (B:Option Addr) (k d:Nat) (z:Int) (Q:Option Addr) (kq dq:Nat) (hm:0<m) (hz:z<0):Triple Tryz.prog 25 [pP p,.int .i64 z,.slice Q kq dq] [Pt p 52 [.int .i64 m,.int .i64 s,.bool false,.slice A n c,fv,.slice B k d]] [] (Unit) (fun _=>.int .i64 2) (fun _=>True) (fun _=>[Pt p 52 [.int .i64 m,.int .i64 s,.bool false,.slice A n c,fv,.slice B k d]]):=by
 have T1:=askP p m s false A n c fv B k d hm
 refine aT Tryz.func25 [.pt 0 p 0,vI z,vL Q kq dq] [.box p 52 [vI m,vI s,.va (.bool false),vL A n c,.va fv,vL B k d]] (fun E=>?_) ⟨rfl,trivial,trivial,trivial⟩
 refine aG ?_
 refine ev_new fun b0=>?_
 refine aD T1 [0] [] (fun v0_=>[.box (p) 52 [vI m,vI s,.bl false,vL A n c,.va (fv),vL B k d]]) fun _ h1=>?_
 refine aI ?_
 refine aJ ?_ (decide_eq_true (by with_reducible assumption))
 exact ev_fin ⟨trivial,_,rfl,(),rfl,trivial,aF [0]⟩
theorem failOk (p:Nat) (m s:Int) (A:Option Addr) (n c:Nat) (fv:Value) (B:Option Addr) (k d:Nat) (z:Int) (Q:Option Addr) (kq dq:Nat) (K:List Int) (hm:0<m) (hz:0≤z) (hk:kq=K.length) (h1:kq≤100000):Triple Tryz.prog 25 [pP p,.int .i64 z,.slice Q kq dq] [Pt p 52 [.int .i64 m,.int .i64 s,.bool false,.slice A n c,fv,.slice B k d]] [Rd 1 Q kq (K.flatMap encN)] (Nat × Option Addr × Nat) (fun _=>.int .i64 0) (fun _=>True) (fun (nb,B2,d2)=>[Pt p 52 [.int .i64 m,.int .i64 s,.bool false,.slice A n c,.func (.func 58) #[] #[pP nb],.slice B2 kq d2],Pt nb 3 [.int .i64 z],Row 3 1 B2 kq d2 (K.flatMap encN)]):=by
 have T1:=askP p m s false A n c fv B k d hm
 have TC:=cloneT Q kq dq K hk h1
 refine aT Tryz.func25 [.pt 0 p 0,vI z,vL Q kq dq] [.box p 52 [vI m,vI s,.va (.bool false),vL A n c,.va fv,vL B k d]] (fun E=>?_) ⟨rfl,trivial,trivial,trivial⟩
 refine aG ?_
 refine ev_new fun b0=>?_
 refine aD T1 [0] [] (fun v0_=>[.box (p) 52 [vI m,vI s,.bl false,vL A n c,.va (fv),vL B k d]]) fun _ h1=>?_
 refine aI ?_
 refine aI ?_ (decide_eq_false (show ¬z<0 from (by omega)))
 refine aC TC [] [.inl 0] fun ⟨x2,x3⟩ h4=>?_
 exact ev_fin ⟨trivial,_,rfl,((b0,x2,x3)),rfl,trivial,aF [0,1,2]⟩
structure DK where
 most:Int
 starts:Int
 down:Bool
 files:List Fl
 fails:Option Int
 keep:List Int
 deriving DecidableEq
def ptD (p:Nat) (m s:Int) (dn:Bool) (A:Option Addr) (n c:Nat) (fv:Value) (B:Option Addr) (k d:Nat):Asn:=Pt p 52 [.int .i64 m,.int .i64 s,.bool dn,.slice A n c,fv,.slice B k d]
def rowF (A:Option Addr) (n c:Nat) (L:List Fl):Asn:=Row 89 3 A n c (L.flatMap encF)
def rowN (B:Option Addr) (k d:Nat) (K:List Int):Asn:=Row 3 1 B k d (K.flatMap encN)
def ptN (nb:Nat) (q:Int):Asn:=Pt nb 3 [.int .i64 q]
def fvOf (f:Option Int) (nb:Nat):Value:=match f with | none=>.nilFunc | some _=>.func (.func 58) #[] #[pP nb]
def failA (f:Option Int) (nb:Nat):List Asn:=match f with | none=>[] | some q=>[ptN nb q]
structure DA where
 A:Option Addr
 c:Nat
 nb:Nat
 B:Option Addr
 d:Nat
def DiskM (p:Nat) (D:DK):Asn:=Asn.ex fun x:DA=>Asn.star ([ptD p D.most D.starts D.down x.A D.files.length x.c (fvOf D.fails x.nb) x.B D.keep.length x.d,rowF x.A D.files.length x.c D.files]++(failA D.fails x.nb++[rowN x.B D.keep.length x.d D.keep]))
theorem DiskM.pre {p:Nat} {D:DK} (h:Hp) (q:Asn.starH [DiskM p D] h):∃ x:DA,Asn.starH ([ptD p D.most D.starts D.down x.A D.files.length x.c (fvOf D.fails x.nb) x.B D.keep.length x.d,rowF x.A D.files.length x.c D.files]++(failA D.fails x.nb++[rowN x.B D.keep.length x.d D.keep])) h:=by
 obtain ⟨x,q⟩:=starH_one.1 q
 exact ⟨x,star_holds.1 q⟩
theorem DiskM.put {p:Nat} {D:DK} (x:DA) {h:Hp} (q:Asn.starH ([ptD p D.most D.starts D.down x.A D.files.length x.c (fvOf D.fails x.nb) x.B D.keep.length x.d,rowF x.A D.files.length x.c D.files]++(failA D.fails x.nb++[rowN x.B D.keep.length x.d D.keep])) h):Asn.starH [DiskM p D] h:=starH_one.2 ⟨x,star_holds.2 q⟩
theorem starH_drop (l:List Asn) (A:Asn) (r:List Asn) {h:Hp} (q:Asn.starH (l++A::r) h):Asn.starH (l++r) h:=by
 induction l generalizing h with
 |
  nil =>
  obtain ⟨h1,h2,d,a,b,p,q⟩:=q
  exact Asn.starH_mono _ b q
 |
  cons B l ih =>
  obtain ⟨h1,h2,d,a,b,p,q⟩:=q
  exact ⟨h1,h2,d,a,b,p,ih q⟩
def chg (D:DK) (late:Bool) (L2:List Fl):DK × Int :=
 match D.fails with
 | none=>(⟨D.most,D.starts,D.down,L2,none,D.keep⟩,0)
 | some q=>if 0<q then (⟨D.most,D.starts,D.down,L2,some (q-1),D.keep⟩,0) else (⟨D.most,D.starts,true,crashF (if late then L2 else D.files) D.keep,none,D.keep⟩,41)
theorem liftChg {p:Nat} {fn:FuncId} {args:List Value} (m s:Int) (L:List Fl) (fl:Option Int) (K:List Int) (late:Bool) (L2:List Fl) (hfl:∀ q,fl=some q→0≤q∧q≤9223372036854775807)
 (hN:∀ A c B d,Triple Tryz.prog fn args [ptD p m s false A L.length c .nilFunc B K.length d,rowF A L.length c L] [] (Option Addr × Nat) (fun _=>.int .i64 0) (fun _=>True) (fun x=>[ptD p m s false x.1 L2.length x.2 .nilFunc B K.length d,rowF x.1 L2.length x.2 L2]))
 (hG:∀ A c B d nb q,0<q→q≤9223372036854775807→Triple Tryz.prog fn args [ptD p m s false A L.length c (fvOf (some q) nb) B K.length d,rowF A L.length c L,ptN nb q,rowN B K.length d K] [] (Option Addr × Nat) (fun _=>.int .i64 0) (fun _=>True) (fun x=>[ptD p m s false x.1 L2.length x.2 (fvOf (some q) nb) B K.length d,rowF x.1 L2.length x.2 L2,ptN nb (q-1),rowN B K.length d K]))
 (hS:∀ A c B d nb q,q=0→Triple Tryz.prog fn args [ptD p m s false A L.length c (fvOf (some q) nb) B K.length d,rowF A L.length c L,ptN nb q,rowN B K.length d K] [] (Option Addr × Nat) (fun _=>.int .i64 41) (fun _=>True) (fun x=>[ptD p m s true x.1 (if late then L2 else L).length x.2 .nilFunc B K.length d,rowF x.1 (if late then L2 else L).length x.2 (crashF (if late then L2 else L) K),ptN nb (q-1),rowN B K.length d K])) :
 Triple Tryz.prog fn args [DiskM p ⟨m,s,false,L,fl,K⟩] [] Unit (fun _=>.int .i64 (chg ⟨m,s,false,L,fl,K⟩ late L2).2) (fun _=>True) (fun _=>[DiskM p (chg ⟨m,s,false,L,fl,K⟩ late L2).1]):=by
 refine Triple.pre DiskM.pre fun ⟨A,c,nb,B,d⟩=>?_
 cases fl with
 | none=>exact ((hN A c B d).frame [rowN B K.length d K]).imp fun x _=>⟨(),rfl,trivial,fun h q=>DiskM.put ⟨x.1,x.2,nb,B,d⟩ q⟩
 |
  some q =>
  obtain ⟨h1,h2⟩:=hfl q rfl
  unfold chg
  by_cases hq:0<q
  · simp only [hq,if_true]
    exact (hG A c B d nb q hq h2).imp fun x _=>⟨(),rfl,trivial,fun h q=>DiskM.put ⟨x.1,x.2,nb,B,d⟩ q⟩
  simp only [hq,if_false]
  refine (hS A c B d nb q (by omega)).imp fun x _=>⟨(),rfl,trivial,fun h q=>DiskM.put ⟨x.1,x.2,nb,B,d⟩ ?_⟩
  rw [show (crashF (if late=true then L2 else L) K).length=(if late then L2 else L).length from crashF_len _ _]
  exact starH_drop [_,_] _ [_] q
theorem liftAsk {p:Nat} {fn:FuncId} {args:List Value} {X:Type} {ret:X→Value} {good:X→Prop} (D:DK) (N:List Asn)
 (hN:∀ A c fv B d,Triple Tryz.prog fn args [ptD p D.most D.starts D.down A D.files.length c fv B D.keep.length d,rowF A D.files.length c D.files] N X ret good (fun _=>[ptD p D.most D.starts D.down A D.files.length c fv B D.keep.length d,rowF A D.files.length c D.files])) :
 Triple Tryz.prog fn args [DiskM p D] N X ret good (fun _=>[DiskM p D]) :=
 Triple.pre DiskM.pre fun ⟨A,c,nb,B,d⟩=>((hN A c _ B d).frame _).imp fun x hx=>⟨x,rfl,hx,fun _ q=>DiskM.put ⟨A,c,nb,B,d⟩ q⟩
theorem liftPt {p:Nat} {fn:FuncId} {args:List Value} {X:Type} {ret:X→Value} {good:X→Prop} (D:DK) (N:List Asn)
 (hN:∀ A c fv B d,Triple Tryz.prog fn args [ptD p D.most D.starts D.down A D.files.length c fv B D.keep.length d] N X ret good (fun _=>[ptD p D.most D.starts D.down A D.files.length c fv B D.keep.length d])) :
 Triple Tryz.prog fn args [DiskM p D] N X ret good (fun _=>[DiskM p D]) :=
 Triple.pre DiskM.pre fun ⟨A,c,nb,B,d⟩=>((hN A c _ B d).frame _).imp fun x hx=>⟨x,rfl,hx,fun _ q=>DiskM.put ⟨A,c,nb,B,d⟩ q⟩
structure okD (D:DK):Prop where
 most:0<D.most∧D.most≤1048576
 rise:riseF D.files
 sure:∀ f∈D.files,0≤f.s∧f.s≤f.d.size
 room:(sumD D.files:Int)≤D.most
 few:D.files.length≤16
 names:∀ f∈D.files,oddS f.n=false
 fails:∀ q,D.fails=some q→0≤q∧q≤9223372036854775807
theorem sumD_mem {L:List Fl} {f:Fl} (h:f∈L):f.d.size≤sumD L:=by
 obtain ⟨j,hj,rfl⟩:=List.getElem_of_mem h
 have h1:=sumD_step hj
 have h2:=sumD_take L (j+1)
 omega
theorem okD.okF {D:DK} (h:okD D):Proofs.YtjlfdfmkofbccaaGreatDoor.okF D.files:=fun f hf=>by
 have h1:=h.sure f hf
 have h2:=sumD_mem hf
 have h3:=h.room
 have h4:=h.most
 exact ⟨h1.1,h1.2,by omega⟩
/-! the files behind what is done -/
def setF (L:List Fl) (x:ByteArray) (g:Fl→Fl):List Fl:=match L[posF L x]? with | some f=>L.set (posF L x) (g f) | none=>L
def insF (L:List Fl) (f:Fl):List Fl:=L.take (posF L f.n)++f::L.drop (posF L f.n)
def putFl (L:List Fl) (f:Fl):List Fl:=if hasF L f.n then L.set (posF L f.n) f else insF L f
def renF (L:List Fl) (x y:ByteArray):List Fl:=match L[posF L x]? with | some f=>putFl (L.eraseIdx (posF L x)) ⟨y,f.d,f.s⟩ | none=>L
def appF (L:List Fl) (x y:ByteArray):List Fl:=if hasF L x then setF L x (fun f=>⟨f.n,f.d++y,f.s⟩) else insF L ⟨x,y,0⟩
theorem setF_eq {L:List Fl} {x:ByteArray} {g:Fl→Fl} (h:posF L x<L.length):setF L x g=L.set (posF L x) (g L[posF L x]):=by
 unfold setF
 rw [List.getElem?_eq_getElem h]
def getF (L:List Fl) (x:ByteArray):ByteArray:=match L[posF L x]? with | some f=>f.d | none=>.empty
theorem getF_eq {L:List Fl} {x:ByteArray} (h:posF L x<L.length):getF L x=L[posF L x].d:=by
 unfold getF
 rw [List.getElem?_eq_getElem h]
/-! what the functions do -/
def syncD (D:DK) (x:ByteArray):DK × Int:=if D.down then (D,41) else if hasF D.files x then chg D false (setF D.files x fun f=>⟨f.n,f.d,(f.d.size:Nat)⟩) else (D,4)
def truncD (D:DK) (x:ByteArray) (z:Int):DK × Int:=if D.down then (D,41) else if hasF D.files x then (if z<0∨((getF D.files x).size:Int)<z then (D,2) else chg D false (setF D.files x fun f=>⟨f.n,f.d.extract 0 z.toNat,min f.s z⟩)) else (D,4)
def renD (D:DK) (x y:ByteArray):DK × Int:=if D.down then (D,41) else if hasF D.files x then (if oddS y then (D,2) else chg D false (renF D.files x y)) else (D,4)
def remD (D:DK) (x:ByteArray):DK × Int:=if D.down then (D,41) else if hasF D.files x then chg D false (D.files.eraseIdx (posF D.files x)) else (D,4)
def appD (D:DK) (x y:ByteArray):DK × Int:=if D.down then (D,41) else if oddS x then (D,2) else if (hasF D.files x=false∧D.files.length=16)∨D.most-sumD D.files<(y.size:Int) then (D,40) else chg D true (appF D.files x y)
def readD (D:DK) (x:ByteArray):ByteArray × Int:=if D.down then (.empty,41) else if hasF D.files x then (getF D.files x,0) else (.empty,4)
def crashD (D:DK) (K:List Int):DK × Int:=if D.down then (D,41) else (⟨D.most,D.starts,true,crashF D.files K,none,D.keep⟩,0)
def failD (D:DK) (z:Int) (K:List Int):DK × Int:=if D.down then (D,41) else if z<0 then (D,2) else (⟨D.most,D.starts,D.down,D.files,some z,K⟩,0)
def startD (D:DK):DK × Int:=if D.down then (⟨D.most,D.starts+1,false,D.files,D.fails,D.keep⟩,0) else (D,2)
theorem syncM (p:Nat) (D:DK) (x:ByteArray) (ok:okD D):Triple Tryz.prog 102 [pP p,.string x] [DiskM p D] [] Unit (fun _=>.int .i64 (syncD D x).2) (fun _=>True) (fun _=>[DiskM p (syncD D x).1]):=by
 have hF:=ok.okF
 have hs:=ok.rise
 have hm:=ok.most.1
 have h1:D.files.length≤1000:=Nat.le_trans ok.few (by decide)
 have hfl:=ok.fails
 obtain ⟨m,s,dn,L,fl,K⟩:=D
 simp only [syncD]
 cases dn with
 | true=>exact liftPt ⟨m,s,true,L,fl,K⟩ [] fun A c fv B d=>syncDown p m s A L.length c fv B K.length d x hm
 |
  false =>
  simp only [Bool.false_eq_true,if_false]
  cases hh:hasF L x with
  | false=>exact liftAsk ⟨m,s,false,L,fl,K⟩ [] fun A c fv B d=>syncGone p m s A L.length c fv B K.length d L rfl h1 x hm hs hh
  |
   true =>
   obtain ⟨hi,_⟩:=has_pos hs hh
   rw [if_pos rfl,setF_eq hi]
   refine liftChg m s L fl K false _ hfl (fun A c B d=>?_) (fun A c B d nb q hq hq2=>?_) (fun A c B d nb q hq=>?_)
   · exact (syncN p m s A L.length c B K.length d L rfl h1 x hh hi hF hm hs).imp fun _ _=>⟨(A,c),rfl,trivial,fun h q=>by rw [List.length_set];exact q⟩
   · exact (syncG p m s A L.length c B K.length d L rfl h1 x hh hi hF hm hs nb q K hq hq2).imp fun _ _=>⟨(A,c),rfl,trivial,fun h q=>by rw [List.length_set];exact q⟩
   exact (syncS p m s A L.length c B K.length d L rfl h1 x hh hi hF hm hs nb q K hq rfl).imp fun _ _=>⟨(A,c),rfl,trivial,fun h q=>q⟩
theorem truncM (p:Nat) (D:DK) (x:ByteArray) (z:Int) (ok:okD D):Triple Tryz.prog 42 [pP p,.string x,.int .i64 z] [DiskM p D] [] Unit (fun _=>.int .i64 (truncD D x z).2) (fun _=>True) (fun _=>[DiskM p (truncD D x z).1]):=by
 have hF:=ok.okF
 have hs:=ok.rise
 have hm:=ok.most.1
 have h1:D.files.length≤1000:=Nat.le_trans ok.few (by decide)
 have hfl:=ok.fails
 obtain ⟨m,s,dn,L,fl,K⟩:=D
 simp only [truncD]
 cases dn with
 | true=>exact liftPt ⟨m,s,true,L,fl,K⟩ [] fun A c fv B d=>truncDown p m s A L.length c fv B K.length d x z hm
 |
  false =>
  simp only [Bool.false_eq_true,if_false]
  cases hh:hasF L x with
  | false=>exact liftAsk ⟨m,s,false,L,fl,K⟩ [] fun A c fv B d=>truncGone p m s A L.length c fv B K.length d L rfl h1 x z hm hs hh
  |
   true =>
   obtain ⟨hi,_⟩:=has_pos hs hh
   rw [if_pos rfl]
   rw [getF_eq hi]
   by_cases hz:z<0∨((L[posF L x].d.size:Nat):Int)<z
   · rw [if_pos hz]
     exact liftAsk ⟨m,s,false,L,fl,K⟩ [] fun A c fv B d=>truncArg p m s A L.length c fv B K.length d L rfl h1 x z hm hs hh hi hz
   rw [if_neg hz,setF_eq hi]
   have hz1:0≤z:=by omega
   have hz2:z≤L[posF L x].d.size:=by omega
   refine liftChg m s L fl K false _ hfl (fun A c B d=>?_) (fun A c B d nb q hq hq2=>?_) (fun A c B d nb q hq=>?_)
   · exact (truncN p m s A L.length c B K.length d L rfl h1 x z hh hi hF hz1 hz2 hm hs).imp fun _ _=>⟨(A,c),rfl,trivial,fun h q=>by rw [List.length_set];exact q⟩
   · exact (truncG p m s A L.length c B K.length d L rfl h1 x z hh hi hF hz1 hz2 hm hs nb q K hq hq2).imp fun _ _=>⟨(A,c),rfl,trivial,fun h q=>by rw [List.length_set];exact q⟩
   exact (truncS p m s A L.length c B K.length d L rfl h1 x z hh hi hF hz1 hz2 hm hs nb q K hq rfl).imp fun _ _=>⟨(A,c),rfl,trivial,fun h q=>q⟩
theorem remM (p:Nat) (D:DK) (x:ByteArray) (ok:okD D):Triple Tryz.prog 93 [pP p,.string x] [DiskM p D] [] Unit (fun _=>.int .i64 (remD D x).2) (fun _=>True) (fun _=>[DiskM p (remD D x).1]):=by
 have hF:=ok.okF
 have hs:=ok.rise
 have hm:=ok.most.1
 have h1:D.files.length≤1000:=Nat.le_trans ok.few (by decide)
 have hfl:=ok.fails
 obtain ⟨m,s,dn,L,fl,K⟩:=D
 simp only [remD]
 cases dn with
 | true=>exact liftPt ⟨m,s,true,L,fl,K⟩ [] fun A c fv B d=>removeDown p m s A L.length c fv B K.length d x hm
 |
  false =>
  simp only [Bool.false_eq_true,if_false]
  cases hh:hasF L x with
  | false=>exact liftAsk ⟨m,s,false,L,fl,K⟩ [] fun A c fv B d=>removeGone p m s A L.length c fv B K.length d L rfl h1 x hm hs hh
  |
   true =>
   obtain ⟨hi,_⟩:=has_pos hs hh
   rw [if_pos rfl]
   have hl:(L.eraseIdx (posF L x)).length=L.length-1:=by rw [List.length_eraseIdx_of_lt hi]
   refine liftChg m s L fl K false _ hfl (fun A c B d=>?_) (fun A c B d nb q hq hq2=>?_) (fun A c B d nb q hq=>?_)
   · exact (removeN p m s A L.length c B K.length d L rfl h1 x hh hi hF hm hs).imp fun _ _=>⟨(A,c),rfl,trivial,fun h q=>by rw [hl];exact q⟩
   · exact (removeG p m s A L.length c B K.length d L rfl h1 x hh hi hF hm hs nb q K hq hq2).imp fun _ _=>⟨(A,c),rfl,trivial,fun h q=>by rw [hl];exact q⟩
   exact (removeS p m s A L.length c B K.length d L rfl h1 x hh hi hF hm hs nb q K hq rfl).imp fun _ _=>⟨(A,c),rfl,trivial,fun h q=>q⟩
theorem renM (p:Nat) (D:DK) (x y:ByteArray) (ok:okD D):Triple Tryz.prog 56 [pP p,.string x,.string y] [DiskM p D] [] Unit (fun _=>.int .i64 (renD D x y).2) (fun _=>True) (fun _=>[DiskM p (renD D x y).1]):=by
 have hF:=ok.okF
 have hs:=ok.rise
 have hm:=ok.most.1
 have h1:D.files.length≤1000:=Nat.le_trans ok.few (by decide)
 have hfl:=ok.fails
 obtain ⟨m,s,dn,L,fl,K⟩:=D
 simp only [renD]
 cases dn with
 | true=>exact liftPt ⟨m,s,true,L,fl,K⟩ [] fun A c fv B d=>renameDown p m s A L.length c fv B K.length d x y hm
 |
  false =>
  simp only [Bool.false_eq_true,if_false]
  cases hh:hasF L x with
  | false=>exact liftAsk ⟨m,s,false,L,fl,K⟩ [] fun A c fv B d=>renameGone p m s A L.length c fv B K.length d L rfl h1 x y hm hs hh
  |
   true =>
   obtain ⟨hi,_⟩:=has_pos hs hh
   rw [if_pos rfl]
   cases ho:oddS y with
   | true=>exact liftAsk ⟨m,s,false,L,fl,K⟩ [] fun A c fv B d=>renameArg p m s A L.length c fv B K.length d L rfl h1 x y hm hs hh ho
   |
    false =>
    have hl:(L.eraseIdx (posF L x)).length=L.length-1:=by rw [List.length_eraseIdx_of_lt hi]
    have hp:=posF_le (L.eraseIdx (posF L x)) y
    have hr:renF L x y=putFl (L.eraseIdx (posF L x)) ⟨y,L[posF L x].d,L[posF L x].s⟩:=by
     unfold renF
     rw [List.getElem?_eq_getElem hi]
    rw [hr,if_neg (by decide)]
    unfold putFl
    cases hh2:hasF (L.eraseIdx (posF L x)) y with
    |
     true =>
     rw [if_pos rfl]
     refine liftChg m s L fl K false _ hfl (fun A c B d=>?_) (fun A c B d nb q hq hq2=>?_) (fun A c B d nb q hq=>?_)
     · exact (renameTN p m s A L.length c B K.length d L rfl h1 x y hh hi hF ho hh2 hm hs).imp fun _ _=>⟨(A,c),rfl,trivial,fun h q=>by rw [List.length_set,hl];exact q⟩
     · exact (renameTG p m s A L.length c B K.length d L rfl h1 x y hh hi hF ho hh2 hm hs nb q K hq hq2).imp fun _ _=>⟨(A,c),rfl,trivial,fun h q=>by rw [List.length_set,hl];exact q⟩
     exact (renameTS p m s A L.length c B K.length d L rfl h1 x y hh hi hF ho hh2 hm hs nb q K hq rfl).imp fun _ _=>⟨(A,c),rfl,trivial,fun h q=>q⟩
    |
     false =>
     rw [if_neg (by decide)]
     have hl2:(insF (L.eraseIdx (posF L x)) ⟨y,L[posF L x].d,L[posF L x].s⟩).length=L.length-1+1:=by
      unfold insF
      simp only [List.length_append,List.length_take,List.length_cons,List.length_drop]
      omega
     refine liftChg m s L fl K false _ hfl (fun A c B d=>?_) (fun A c B d nb q hq hq2=>?_) (fun A c B d nb q hq=>?_)
     · exact (renameFN p m s A L.length c B K.length d L rfl h1 x y hh hi hF ho hh2 hm hs).imp fun (A2,c2) _=>⟨(A2,c2),rfl,trivial,fun h q=>by rw [hl2];exact q⟩
     · exact (renameFG p m s A L.length c B K.length d L rfl h1 x y hh hi hF ho hh2 hm hs nb q K hq hq2).imp fun (A2,c2) _=>⟨(A2,c2),rfl,trivial,fun h q=>by rw [hl2];exact q⟩
     exact (renameFS p m s A L.length c B K.length d L rfl h1 x y hh hi hF ho hh2 hm hs nb q K hq rfl).imp fun _ _=>⟨(A,c),rfl,trivial,fun h q=>q⟩
theorem starH_tail {A:Asn} {l l':List Asn} (hl:∀ h,Asn.starH l h→Asn.starH l' h) {h:Hp} (q:Asn.starH (A::l) h):Asn.starH (A::l') h:=by
 obtain ⟨h1,h2,d,a,b,p,q⟩:=q
 exact ⟨h1,h2,d,a,b,p,hl _ q⟩
theorem starH_sink (l:List Asn) {A:Asn} {h:Hp} (q:Asn.starH (A::l) h):Asn.starH (l++[A]) h:=by
 induction l generalizing h with
 | nil=>exact q
 | cons B l ih=>exact starH_tail (fun h q=>ih q) (starH_swap q)
theorem insF_len (L:List Fl) (f:Fl):(insF L f).length=L.length+1:=by
 have hp:=posF_le L f.n
 unfold insF
 simp only [List.length_append,List.length_take,List.length_cons,List.length_drop]
 omega
theorem insF_mem {L:List Fl} {f g:Fl} (h:g∈insF L f):g=f∨g∈L:=by
 unfold insF at h
 rcases List.mem_append.1 h with h | h
 · exact .inr (List.mem_of_mem_take h)
 rcases List.mem_cons.1 h with h | h
 · exact .inl h
 exact .inr (List.mem_of_mem_drop h)
theorem appM (p:Nat) (D:DK) (x y:ByteArray) (ok:okD D) (hy:y.size≤100000000):Triple Tryz.prog 32 [pP p,.string x,.string y] [DiskM p D] [] Unit (fun _=>.int .i64 (appD D x y).2) (fun _=>True) (fun _=>[DiskM p (appD D x y).1]):=by
 have hF:=ok.okF
 have hs:=ok.rise
 have hm:=ok.most.1
 have hm2:=ok.most.2
 have hfew:=ok.few
 have hroom:=ok.room
 have h1:D.files.length≤1000:=Nat.le_trans ok.few (by decide)
 have hfl:=ok.fails
 obtain ⟨m,s,dn,L,fl,K⟩:=D
 replace hF:okF L:=hF
 replace hs:riseF L:=hs
 replace hm:0<m:=hm
 replace hm2:m≤1048576:=hm2
 replace hfew:L.length≤16:=hfew
 replace hroom:(sumD L:Int)≤m:=hroom
 replace h1:L.length≤1000:=h1
 simp only [appD]
 have hb:sumD L≤1000000000:=by omega
 cases dn with
 | true=>exact liftPt ⟨m,s,true,L,fl,K⟩ [] fun A c fv B d=>appendDown p m s A L.length c fv B K.length d x y hm
 |
  false =>
  simp only [Bool.false_eq_true,if_false]
  cases ho:oddS x with
  | true=>exact liftAsk ⟨m,s,false,L,fl,K⟩ [] fun A c fv B d=>appendArg p m s A L.length c fv B K.length d L rfl h1 x y hm hs ho
  |
   false =>
   rw [if_neg (by decide)]
   cases hh:hasF L x with
   |
    true =>
    obtain ⟨hi,_⟩:=has_pos hs hh
    have hFi:=hF _ (List.getElem_mem hi)
    have ha:appF L x y=L.set (posF L x) ⟨L[posF L x].n,L[posF L x].d++y,L[posF L x].s⟩:=by
     unfold appF
     rw [if_pos hh,setF_eq hi]
    by_cases hz:m-sumD L<(y.size:Int)
    · rw [if_pos (.inr hz)]
      exact liftAsk ⟨m,s,false,L,fl,K⟩ [] fun A c fv B d=>appendFull2T p m s A L.length c fv B K.length d L rfl h1 x y hm hm2 hb hs ho hh hz
    rw [if_neg (by
     rintro (⟨h,_⟩ | h); · cases h
     exact hz h),ha]
    have hy2:(y.size:Int)≤m-sumD L:=by omega
    have hz2:L[posF L x].d.size+y.size≤1000000000:=by
     have:=sumD_mem (List.getElem_mem hi)
     omega
    have hF2:okF (L.set (posF L x) ⟨L[posF L x].n,L[posF L x].d++y,L[posF L x].s⟩):=fun f hf=>by
     rcases List.mem_or_eq_of_mem_set hf with hf | rfl
     · exact hF f hf
     simp only [ByteArray.size_append]
     omega
    refine liftChg m s L fl K true _ hfl (fun A c B d=>?_) (fun A c B d nb q hq hq2=>?_) (fun A c B d nb q hq=>?_)
    · exact (appendTN p m s A L.length c B K.length d L rfl h1 x y hh ho hb hm2 hy2 hi hz2 hF2 hm hs).imp fun _ _=>⟨(A,c),rfl,trivial,fun h q=>by rw [List.length_set];exact q⟩
    · exact (appendTG p m s A L.length c B K.length d L rfl h1 x y hh ho hb hm2 hy2 hi hz2 hF2 hm hs nb q K hq hq2).imp fun _ _=>⟨(A,c),rfl,trivial,fun h q=>by rw [List.length_set];exact q⟩
    exact (appendTS p m s A L.length c B K.length d L rfl h1 x y hh ho hb hm2 hy2 hi hz2 hF2 hm hs nb q K hq rfl).imp fun _ _=>⟨(A,c),rfl,trivial,fun h q=>by rw [if_pos rfl,List.length_set];exact q⟩
   |
    false =>
    by_cases h16:L.length=16
    · rw [if_pos (.inl ⟨rfl,h16⟩)]
      exact liftAsk ⟨m,s,false,L,fl,K⟩ [] fun A c fv B d=>appendFull1 p m s A L.length c fv B K.length d L rfl h1 x y hm hs ho hh h16
    by_cases hz:m-sumD L<(y.size:Int)
    · rw [if_pos (.inr hz)]
      exact liftAsk ⟨m,s,false,L,fl,K⟩ [] fun A c fv B d=>appendFull2F p m s A L.length c fv B K.length d L rfl h1 x y hm hm2 hb hs ho hh h16 hz
    have ha:appF L x y=insF L ⟨x,y,0⟩:=by
     unfold appF
     rw [if_neg (by rw [hh];decide)]
    rw [if_neg (by
     rintro (⟨_,h⟩ | h); · exact h16 h
     exact hz h),ha]
    have hy2:(y.size:Int)≤m-sumD L:=by omega
    have hF2:okF (insF L ⟨x,y,0⟩):=fun f hf=>by
     rcases insF_mem hf with rfl | hf
     · exact ⟨Int.le_refl _,Int.natCast_nonneg _,by simp only;omega⟩
     exact hF f hf
    have hl:=insF_len L ⟨x,y,0⟩
    have h999:L.length≤999:=by omega
    refine liftChg m s L fl K true _ hfl (fun A c B d=>?_) (fun A c B d nb q hq hq2=>?_) (fun A c B d nb q hq=>?_)
    · exact (appendFN p m s A L.length c B K.length d L rfl h1 x y hh ho hb hm2 hy2 h16 h999 hF2 hm hs).imp fun (A2,c2) _=>⟨(A2,c2),rfl,trivial,fun h q=>by rw [hl];exact q⟩
    · exact (appendFG p m s A L.length c B K.length d L rfl h1 x y hh ho hb hm2 hy2 h16 h999 hF2 hm hs nb q K hq hq2).imp fun (A2,c2) _=>⟨(A2,c2),rfl,trivial,fun h q=>by rw [hl];exact q⟩
    exact (appendFS p m s A L.length c B K.length d L rfl h1 x y hh ho hb hm2 hy2 h16 h999 hF2 hm hs nb q K hq rfl).imp fun (A2,c2) _=>⟨(A2,c2),rfl,trivial,fun h q=>by rw [if_pos rfl,hl];exact q⟩
theorem readM (p:Nat) (D:DK) (x:ByteArray) (ok:okD D):Triple Tryz.prog 38 [pP p,.string x] [DiskM p D] [] Unit (fun _=>.tuple #[.string (readD D x).1,.int .i64 (readD D x).2]) (fun _=>True) (fun _=>[DiskM p D]):=by
 have hs:=ok.rise
 have hm:=ok.most.1
 have h1:D.files.length≤1000:=Nat.le_trans ok.few (by decide)
 obtain ⟨m,s,dn,L,fl,K⟩:=D
 simp only [readD]
 cases dn with
 | true=>exact liftPt ⟨m,s,true,L,fl,K⟩ [] fun A c fv B d=>readDown p m s A L.length c fv B K.length d x hm
 |
  false =>
  simp only [Bool.false_eq_true,if_false]
  cases hh:hasF L x with
  | false=>exact liftAsk ⟨m,s,false,L,fl,K⟩ [] fun A c fv B d=>readGone p m s A L.length c fv B K.length d L rfl h1 x hm hs hh
  |
   true =>
   obtain ⟨hi,_⟩:=has_pos hs hh
   rw [if_pos rfl,getF_eq hi]
   exact liftAsk ⟨m,s,false,L,fl,K⟩ [] fun A c fv B d=>readT p m s A L.length c fv B K.length d L rfl h1 x hm hs hh hi
theorem upM (p:Nat) (D:DK) (ok:okD D):Triple Tryz.prog 17 [pP p] [DiskM p D] [] Unit (fun _=>.bool (!D.down)) (fun _=>True) (fun _=>[DiskM p D]) :=
 liftPt D [] fun A c fv B d=>upT p D.most D.starts D.down A D.files.length c fv B D.keep.length d ok.most.1
theorem startsM (p:Nat) (D:DK) (ok:okD D):Triple Tryz.prog 35 [pP p] [DiskM p D] [] Unit (fun _=>.int .i64 D.starts) (fun _=>True) (fun _=>[DiskM p D]) :=
 liftPt D [] fun A c fv B d=>startsT p D.most D.starts D.down A D.files.length c fv B D.keep.length d ok.most.1
theorem namesM (p:Nat) (D:DK) (ok:okD D):Triple Tryz.prog 26 [pP p] [DiskM p D] [] (Option Addr × Nat) (fun (C,e)=>.slice C D.files.length e) (fun _=>True) (fun (C,e)=>[DiskM p D,Row 9 1 C D.files.length e ((D.files.map nameEG).flatMap encS)]) :=
 Triple.pre DiskM.pre fun ⟨A,c,nb,B,d⟩=>((namesT p D.most D.starts D.down A D.files.length c (fvOf D.fails nb) B D.keep.length d D.files ok.most.1 rfl (Nat.le_trans ok.few (by decide))).frame (failA D.fails nb++[rowN B D.keep.length d D.keep])).imp fun (C,e) _=>⟨(C,e),rfl,trivial,fun h q=>by
  have q2:=starH_tail (fun h q=>starH_tail (fun h q=>starH_sink (failA D.fails nb++[rowN B D.keep.length d D.keep]) q) q) q
  obtain ⟨h1,h2,d1,a,b,p1,p2⟩:=(starH_append (_::_::(failA D.fails nb++[rowN B D.keep.length d D.keep])) [_]).1 q2
  exact ⟨h1,h2,d1,a,b,starH_one.1 (DiskM.put ⟨A,c,nb,B,d⟩ p1),p2⟩⟩
theorem leftM (p:Nat) (D:DK) (ok:okD D):Triple Tryz.prog 71 [pP p] [DiskM p D] [] (Option Addr × Nat) (fun (C,e)=>.slice C D.files.length e) (fun _=>True) (fun (C,e)=>[DiskM p D,Row 3 1 C D.files.length e ((D.files.map leftEG).flatMap encN)]) :=
 Triple.pre DiskM.pre fun ⟨A,c,nb,B,d⟩=>((leftT p D.most D.starts D.down A D.files.length c (fvOf D.fails nb) B D.keep.length d D.files ok.most.1 rfl (Nat.le_trans ok.few (by decide)) ok.okF).frame (failA D.fails nb++[rowN B D.keep.length d D.keep])).imp fun (C,e) _=>⟨(C,e),rfl,trivial,fun h q=>by
  have q2:=starH_tail (fun h q=>starH_tail (fun h q=>starH_sink (failA D.fails nb++[rowN B D.keep.length d D.keep]) q) q) q
  obtain ⟨h1,h2,d1,a,b,p1,p2⟩:=(starH_append (_::_::(failA D.fails nb++[rowN B D.keep.length d D.keep])) [_]).1 q2
  exact ⟨h1,h2,d1,a,b,starH_one.1 (DiskM.put ⟨A,c,nb,B,d⟩ p1),p2⟩⟩
theorem crashM (p:Nat) (D:DK) (Q:Option Addr) (kq dq:Nat) (K:List Int) (ok:okD D) (hk:kq=K.length):Triple Tryz.prog 13 [pP p,.slice Q kq dq] [DiskM p D] [Rd 1 Q kq (K.flatMap encN)] Unit (fun _=>.int .i64 (crashD D K).2) (fun _=>True) (fun _=>[DiskM p (crashD D K).1]):=by
 have hF:=ok.okF
 have hm:=ok.most.1
 have h1:D.files.length≤1000:=Nat.le_trans ok.few (by decide)
 obtain ⟨m,s,dn,L,fl,K0⟩:=D
 simp only [crashD]
 cases dn with
 | true=>exact (liftPt ⟨m,s,true,L,fl,K0⟩ [] fun A c fv B d=>crashDown p m s A L.length c fv B K0.length d Q kq dq hm).reads (fun _ h=>(by cases h))
 |
  false =>
  simp only [Bool.false_eq_true,if_false]
  refine Triple.pre DiskM.pre fun ⟨A,c,nb,B,d⟩=>((crashT p m s A L.length c (fvOf fl nb) B K0.length d L Q kq dq K hm rfl h1 hk hF).frame _).imp fun _ _=>⟨(),rfl,trivial,fun h q=>DiskM.put ⟨A,c,nb,B,d⟩ ?_⟩
  simp only [crashF_len]
  cases fl with
  | none=>exact q
  | some z=>exact starH_drop [_,_] _ [_] q
theorem startM (p:Nat) (D:DK) (ok:okD D) (h0:0≤D.starts) (h1:D.starts≤1000000000):Triple Tryz.prog 14 [pP p] [DiskM p D] [] Unit (fun _=>.int .i64 (startD D).2) (fun _=>True) (fun _=>[DiskM p (startD D).1]):=by
 have hm:=ok.most.1
 obtain ⟨m,s,dn,L,fl,K⟩:=D
 simp only [startD]
 cases dn with
 | false=>exact liftPt ⟨m,s,false,L,fl,K⟩ [] fun A c fv B d=>startUp p m s A L.length c fv B K.length d hm
 | true=>exact Triple.pre DiskM.pre fun ⟨A,c,nb,B,d⟩=>((startDown p m s A L.length c (fvOf fl nb) B K.length d hm h0 h1).frame _).imp fun _ _=>⟨(),rfl,trivial,fun h q=>DiskM.put ⟨A,c,nb,B,d⟩ q⟩
theorem failM (p:Nat) (D:DK) (z:Int) (Q:Option Addr) (kq dq:Nat) (K:List Int) (ok:okD D) (hk:kq=K.length) (hk2:kq≤100000):Triple Tryz.prog 25 [pP p,.int .i64 z,.slice Q kq dq] [DiskM p D] [Rd 1 Q kq (K.flatMap encN)] Unit (fun _=>.int .i64 (failD D z K).2) (fun _=>True) (fun _=>[DiskM p (failD D z K).1]):=by
 have hm:=ok.most.1
 obtain ⟨m,s,dn,L,fl,K0⟩:=D
 simp only [failD]
 cases dn with
 | true=>exact (liftPt ⟨m,s,true,L,fl,K0⟩ [] fun A c fv B d=>failDown p m s A L.length c fv B K0.length d z Q kq dq hm).reads (fun _ h=>(by cases h))
 |
  false =>
  simp only [Bool.false_eq_true,if_false]
  by_cases hz:z<0
  · rw [if_pos hz]
    exact (liftPt ⟨m,s,false,L,fl,K0⟩ [] fun A c fv B d=>failArg p m s A L.length c fv B K0.length d z Q kq dq hm hz).reads (fun _ h=>(by cases h))
  rw [if_neg hz]
  refine Triple.pre DiskM.pre fun ⟨A,c,nb,B,d⟩=>((failOk p m s A L.length c (fvOf fl nb) B K0.length d z Q kq dq K hm (by omega) hk hk2).frame _).imp fun (nb2,B2,d2) _=>⟨(),rfl,trivial,fun h q=>DiskM.put ⟨A,c,nb2,B2,d2⟩ ?_⟩
  subst hk
  obtain ⟨h1,h2,d3,a,b,q1,q2⟩:=(starH_append [_,_,_,_] (failA fl nb++[rowN B K0.length d K0])).1 q
  exact Asn.starH_mono _ a (starH_tail (fun h q=>starH_swap (starH_tail (fun h q=>starH_swap q) q)) q1)
theorem newM (z:Int) (hz:1≤z) (hz2:z≤1048576):Triple Tryz.prog 11 [.int .i64 z] [] [] Nat (fun p=>.tuple #[pP p,.int .i64 0]) (fun _=>True) (fun p=>[DiskM p ⟨z,0,false,[],none,[]⟩]) :=
 (newOk z hz hz2).imp fun p _=>⟨p,rfl,trivial,fun h q=>DiskM.put ⟨none,0,0,none,0⟩ ⟨h,Hp.emp,(Hp.emp_dis _).symm,Hp.le_refl _,Hp.emp_le _,starH_one.1 q,⟨Hp.emp,Hp.emp,Hp.emp_dis _,Hp.emp_le _,Hp.emp_le _,Row.nil _ _ _,starH_one.2 (Row.nil _ _ _)⟩⟩⟩
theorem posF_split {L:List Fl} (hs:riseF L) (x:ByteArray):(∀ y∈L.take (posF L x),ltS y.n x)∧∀ y∈L.drop (posF L x),¬ ltS y.n x:=by
 induction L with
 | nil=>exact ⟨fun y h=>by simp at h,fun y h=>by simp at h⟩
 |
  cons z L ih =>
  obtain ⟨h1,h2⟩:=List.pairwise_cons.1 hs
  obtain ⟨i1,i2⟩:=ih h2
  by_cases hz:ltS z.n x
  · have:posF (z::L) x=posF L x+1:=by unfold posF;rw [List.countP_cons];simp [hz]
    rw [this]
    refine ⟨fun y hy=>?_,fun y hy=>i2 y (by simpa using hy)⟩
    rw [List.take_succ_cons] at hy
    rcases List.mem_cons.1 hy with rfl | hy
    · exact hz
    exact i1 y hy
  have hn:∀ y∈z::L,¬ ltS y.n x:=fun y hy=>by
   rcases List.mem_cons.1 hy with rfl | hy
   · exact hz
   exact fun h=>hz ((h1 y hy).trans h)
  have:posF (z::L) x=0:=by
   unfold posF
   exact List.countP_eq_zero.2 fun y hy=>by simpa using hn y hy
  rw [this]
  exact ⟨fun y hy=>by simp at hy,fun y hy=>hn y (by simpa using hy)⟩
theorem hasF_iff {L:List Fl} {x:ByteArray}:hasF L x=true↔∃ f∈L,f.n=x:=by
 unfold hasF
 rw [List.any_eq_true]
 simp
theorem hasF_no {L:List Fl} {x:ByteArray}:hasF L x=false↔∀ f∈L,f.n≠x:=by
 unfold hasF
 rw [List.any_eq_false]
 simp
theorem riseF_ins {L:List Fl} (hs:riseF L) {f:Fl} (h:hasF L f.n=false):riseF (insF L f):=by
 obtain ⟨h1,h2⟩:=posF_split hs f.n
 unfold insF riseF
 rw [List.pairwise_append,List.pairwise_cons]
 have hlt:∀ y∈L.drop (posF L f.n),ltS f.n y.n:=fun y hy=>by
  by_cases h3:ltS f.n y.n
  · exact h3
  exact absurd (ltS.total (h2 y hy) h3) (hasF_no.1 h y (List.mem_of_mem_drop hy))
 refine ⟨hs.sublist (List.take_sublist _ _),⟨hlt,hs.sublist (List.drop_sublist _ _)⟩,fun y hy z hz=>?_⟩
 rcases List.mem_cons.1 hz with rfl | hz
 · exact h1 y hy
 exact (h1 y hy).trans (hlt z hz)
theorem riseF_names {L M:List Fl} (e:M.map (·.n)=L.map (·.n)) (hs:riseF L):riseF M:=by
 unfold riseF at *
 have h1:(L.map (·.n)).Pairwise ltS:=List.pairwise_map.2 hs
 rw [←e] at h1
 exact List.pairwise_map.1 h1
theorem set_names {L:List Fl} {i:Nat} (h:i<L.length) {f:Fl} (e:f.n=L[i].n):(L.set i f).map (·.n)=L.map (·.n):=by
 rw [List.map_set]
 apply List.ext_getElem
 · simp
 intro q h1 h2
 rw [List.getElem_set]
 split
 · rename_i e2;subst e2;simp [e]
 rfl
theorem setF_names {L:List Fl} {x:ByteArray} {g:Fl→Fl} (hg:∀ f,(g f).n=f.n):(setF L x g).map (·.n)=L.map (·.n):=by
 unfold setF
 split
 · rename_i f hf
   obtain ⟨h,rfl⟩:=List.getElem?_eq_some_iff.1 hf
   exact set_names h (hg _)
 rfl
theorem crashF_names (L:List Fl) (K:List Int):(crashF L K).map (·.n)=L.map (·.n):=by
 apply List.ext_getElem
 · simp [crashF_len]
 intro q h1 h2
 have hq:q<L.length:=by simpa using h2
 rw [List.getElem_map,List.getElem_map,crashF_at L K hq]
 unfold keep1
 split<;>rfl
/-! how many bytes -/
theorem sumD_cons (f:Fl) (L:List Fl):sumD (f::L)=f.d.size+sumD L:=by unfold sumD;simp
theorem sumD_append (L M:List Fl):sumD (L++M)=sumD L+sumD M:=by unfold sumD;simp
theorem sumD_split {L:List Fl} {i:Nat} (h:i<L.length):sumD L=sumD (L.take i)+L[i].d.size+sumD (L.drop (i+1)):=by
 conv=>lhs;rw [←List.take_append_drop i L,List.drop_eq_getElem_cons h]
 rw [sumD_append,sumD_cons]
 omega
theorem sumD_set {L:List Fl} {i:Nat} (h:i<L.length) (f:Fl):sumD (L.set i f)+L[i].d.size=sumD L+f.d.size:=by
 have h2:i<(L.set i f).length:=by rw [List.length_set];exact h
 rw [sumD_split h,sumD_split h2,List.getElem_set_self,List.take_set,List.drop_set_of_lt (by omega),List.set_eq_of_length_le (by rw [List.length_take];omega)]
 omega
theorem sumD_erase {L:List Fl} {i:Nat} (h:i<L.length):sumD (L.eraseIdx i)+L[i].d.size=sumD L:=by
 rw [sumD_split h,List.eraseIdx_eq_take_drop_succ,sumD_append]
 omega
theorem sumD_ins (L:List Fl) (f:Fl):sumD (insF L f)=sumD L+f.d.size:=by
 unfold insF
 conv=>rhs;rw [←List.take_append_drop (posF L f.n) L]
 rw [sumD_append,sumD_append,sumD_cons]
 omega
theorem sumD_le {L M:List Fl} (hl:M.length=L.length) (h:∀ i (h1:i<M.length) (h2:i<L.length),M[i].d.size≤L[i].d.size):sumD M≤sumD L:=by
 induction L generalizing M with
 | nil=>rw [List.eq_nil_of_length_eq_zero hl];exact Nat.le_refl _
 |
  cons x L ih =>
  cases M with
  | nil=>cases hl
  |
   cons y M =>
   rw [sumD_cons,sumD_cons]
   have h0:=h 0 (by simp) (by simp)
   have:=ih (M:=M) (by simpa using hl) fun i h1 h2=>h (i+1) (by simpa using h1) (by simpa using h2)
   simp only [List.getElem_cons_zero] at h0
   omega
theorem keep1_ok {f:Fl} (h0:0≤f.s) (h1:f.s≤f.d.size) (k:Option Int):0≤(keep1 k f).s∧(keep1 k f).s=(keep1 k f).d.size∧(keep1 k f).d.size≤f.d.size∧f.s≤(keep1 k f).s:=by
 unfold keep1
 split
 · simp only [ByteArray.size_extract]
   omega
 simp only [ByteArray.size_extract]
 omega
/-! that files stay as they ought to be -/
structure okL (m:Int) (L:List Fl):Prop where
 rise:riseF L
 sure:∀ f∈L,0≤f.s∧f.s≤f.d.size
 room:(sumD L:Int)≤m
 few:L.length≤16
 names:∀ f∈L,oddS f.n=false
theorem okD.okL {D:DK} (h:okD D):Proofs.YtjlfdfmkofbccaaGreatDoor.okL D.most D.files:=⟨h.rise,h.sure,h.room,h.few,h.names⟩
theorem okL.crash {m:Int} {L:List Fl} (h:okL m L) (K:List Int):okL m (crashF L K):=by
 have hk:∀ i (h1:i<(crashF L K).length) (h2:i<L.length),(crashF L K)[i].d.size≤L[i].d.size:=fun i h1 h2=>by
  rw [crashF_at L K h2]
  have:=h.sure _ (List.getElem_mem h2)
  exact (keep1_ok this.1 this.2 _).2.2.1
 refine ⟨riseF_names (crashF_names L K) h.rise,fun f hf=>?_,?_,by rw [crashF_len];exact h.few,fun f hf=>?_⟩
 · obtain ⟨i,hi,rfl⟩:=List.getElem_of_mem hf
   rw [crashF_len] at hi
   rw [crashF_at L K hi]
   have:=h.sure _ (List.getElem_mem hi)
   have:=keep1_ok this.1 this.2 K[i]?
   omega
 · have:=sumD_le (crashF_len L K) hk
   have:=h.room
   omega
 have:f.n∈(crashF L K).map (·.n):=List.mem_map_of_mem hf
 rw [crashF_names] at this
 obtain ⟨g,hg,e⟩:=List.mem_map.1 this
 rw [←e]
 exact h.names g hg
theorem okL.set {m:Int} {L:List Fl} (h:okL m L) {x:ByteArray} {g:Fl→Fl} (hi:posF L x<L.length) (hg:(g L[posF L x]).n=L[posF L x].n) (hs:0≤(g L[posF L x]).s∧(g L[posF L x]).s≤(g L[posF L x]).d.size) (hr:(sumD L:Int)+(g L[posF L x]).d.size≤m+L[posF L x].d.size):okL m (setF L x g):=by
 rw [setF_eq hi]
 refine ⟨riseF_names (set_names hi hg) h.rise,fun f hf=>?_,?_,by rw [List.length_set];exact h.few,fun f hf=>?_⟩
 · rcases List.mem_or_eq_of_mem_set hf with hf | rfl
   · exact h.sure f hf
   exact hs
 · have:=sumD_set hi (g L[posF L x])
   omega
 rcases List.mem_or_eq_of_mem_set hf with hf | rfl
 · exact h.names f hf
 rw [hg];exact h.names _ (List.getElem_mem hi)
theorem okL.erase {m:Int} {L:List Fl} (h:okL m L) {i:Nat} (hi:i<L.length):okL m (L.eraseIdx i):=by
 have hs:(L.eraseIdx i).Sublist L:=List.eraseIdx_sublist _ _
 have:=sumD_erase hi
 have hr:=h.room
 exact ⟨h.rise.sublist hs,fun f hf=>h.sure f (hs.subset hf),by omega,Nat.le_trans hs.length_le h.few,fun f hf=>h.names f (hs.subset hf)⟩
theorem okL.put {m:Int} {L:List Fl} (h:okL m L) {f:Fl} (hl:L.length<16) (ho:oddS f.n=false) (hs:0≤f.s∧f.s≤f.d.size) (hr:(sumD L:Int)+f.d.size≤m):okL m (putFl L f):=by
 unfold putFl
 cases hh:hasF L f.n with
 |
  true =>
  obtain ⟨hi,e⟩:=has_pos h.rise hh
  rw [if_pos rfl]
  have:=sumD_set hi f
  refine ⟨riseF_names (set_names hi e.symm) h.rise,fun g hg=>?_,by omega,by rw [List.length_set];exact h.few,fun g hg=>?_⟩
  · rcases List.mem_or_eq_of_mem_set hg with hg | rfl
    · exact h.sure g hg
    exact hs
  rcases List.mem_or_eq_of_mem_set hg with hg | rfl
  · exact h.names g hg
  exact ho
 |
  false =>
  rw [if_neg (by decide)]
  refine ⟨riseF_ins h.rise hh,fun g hg=>?_,by rw [sumD_ins];omega,by rw [insF_len];omega,fun g hg=>?_⟩
  · rcases insF_mem hg with rfl | hg
    · exact hs
    exact h.sure g hg
  rcases insF_mem hg with rfl | hg
  · exact ho
  exact h.names g hg
theorem okD.of {D:DK} (h1:0<D.most∧D.most≤1048576) (h2:Proofs.YtjlfdfmkofbccaaGreatDoor.okL D.most D.files) (h3:∀ q,D.fails=some q→0≤q∧q≤9223372036854775807):okD D:=⟨h1,h2.rise,h2.sure,h2.room,h2.few,h2.names,h3⟩
theorem chg_ok {D:DK} (h:okD D) (late:Bool) {L2:List Fl} (h2:okL D.most L2):okD (chg D late L2).1:=by
 have hf:=h.fails
 unfold chg
 split
 · exact okD.of h.most h2 fun q hq=>by cases hq
 rename_i q hq
 have:=hf q hq
 split
 · exact okD.of h.most h2 fun q' hq'=>by cases hq';omega
 refine okD.of h.most ?_ fun q hq=>by cases hq
 cases late
 · exact h.okL.crash _
 exact h2.crash _
theorem sync_ok {D:DK} (h:okD D) (x:ByteArray):okD (syncD D x).1:=by
 unfold syncD
 split
 · exact h
 split
 · rename_i hh
   obtain ⟨hi,_⟩:=has_pos h.rise hh
   have:=h.room
   exact chg_ok h _ (h.okL.set hi rfl ⟨Int.natCast_nonneg _,Int.le_refl _⟩ (by simp only;omega))
 exact h
theorem trunc_ok {D:DK} (h:okD D) (x:ByteArray) (z:Int):okD (truncD D x z).1:=by
 unfold truncD
 split
 · exact h
 split
 · rename_i hh
   obtain ⟨hi,_⟩:=has_pos h.rise hh
   have hr:=h.room
   have hs:=h.sure _ (List.getElem_mem hi)
   split
   · exact h
   rename_i hz
   rw [getF_eq hi] at hz
   refine chg_ok h _ (h.okL.set hi rfl ?_ ?_)
   · simp only [ByteArray.size_extract]
     omega
   simp only [ByteArray.size_extract]
   omega
 exact h
theorem rem_ok {D:DK} (h:okD D) (x:ByteArray):okD (remD D x).1:=by
 unfold remD
 split
 · exact h
 split
 · rename_i hh
   obtain ⟨hi,_⟩:=has_pos h.rise hh
   exact chg_ok h _ (h.okL.erase hi)
 exact h
theorem renF_ok {m:Int} {L:List Fl} (h:okL m L) {x y:ByteArray} (hh:hasF L x=true) (ho:oddS y=false):okL m (renF L x y):=by
 obtain ⟨hi,_⟩:=has_pos h.rise hh
 have hr:renF L x y=putFl (L.eraseIdx (posF L x)) ⟨y,L[posF L x].d,L[posF L x].s⟩:=by
  unfold renF
  rw [List.getElem?_eq_getElem hi]
 rw [hr]
 have h1:=sumD_erase hi
 have h2:=h.room
 have h3:=h.few
 exact (h.erase hi).put (by rw [List.length_eraseIdx_of_lt hi];omega) ho (h.sure L[posF L x] (List.getElem_mem hi)) (by simp only;omega)
theorem ren_ok {D:DK} (h:okD D) (x y:ByteArray):okD (renD D x y).1:=by
 unfold renD
 split
 · exact h
 split
 · rename_i hh
   split
   · exact h
   rename_i ho
   exact chg_ok h _ (renF_ok h.okL hh (by simpa using ho))
 exact h
theorem appF_sum {L:List Fl} (hs:riseF L) (x y:ByteArray):sumD (appF L x y)=sumD L+y.size:=by
 unfold appF
 split
 · rename_i hh
   obtain ⟨hi,_⟩:=has_pos hs hh
   rw [setF_eq hi]
   have:=sumD_set hi ⟨L[posF L x].n,L[posF L x].d++y,L[posF L x].s⟩
   simp only [ByteArray.size_append] at this
   omega
 rw [sumD_ins]
theorem appF_ok {m:Int} {L:List Fl} (h:okL m L) {x y:ByteArray} (ho:oddS x=false) (hn:hasF L x=true∨L.length≠16) (hr:(y.size:Int)≤m-sumD L):okL m (appF L x y):=by
 unfold appF
 cases hh:hasF L x with
 |
  true =>
  obtain ⟨hi,_⟩:=has_pos h.rise hh
  have hs:=h.sure _ (List.getElem_mem hi)
  rw [if_pos rfl]
  refine h.set hi rfl ?_ ?_
  · simp only [ByteArray.size_append]
    omega
  simp only [ByteArray.size_append]
  omega
 |
  false =>
  rw [if_neg (by decide)]
  have h3:=h.few
  have hn:L.length≠16:=by
   rcases hn with hn | hn
   · rw [hh] at hn;cases hn
   exact hn
  have:=h.put (f:=⟨x,y,0⟩) (by omega) ho ⟨Int.le_refl _,Int.natCast_nonneg _⟩ (by simp only;omega)
  unfold putFl at this
  rwa [if_neg (by simp only [hh];decide)] at this
theorem app_ok {D:DK} (h:okD D) (x y:ByteArray):okD (appD D x y).1:=by
 unfold appD
 split
 · exact h
 split
 · exact h
 rename_i ho
 split
 · exact h
 rename_i hf
 refine chg_ok h _ (appF_ok h.okL (by simpa using ho) ?_ (by omega))
 cases hh:hasF D.files x with
 | true=>exact .inl rfl
 | false=>exact .inr fun e=>hf (.inl ⟨hh,e⟩)
theorem crash_ok {D:DK} (h:okD D) (K:List Int):okD (crashD D K).1:=by
 unfold crashD
 split
 · exact h
 exact okD.of h.most (h.okL.crash K) fun q hq=>by cases hq
theorem start_ok {D:DK} (h:okD D):okD (startD D).1:=by
 unfold startD
 split
 · exact okD.of h.most h.okL h.fails
 exact h
theorem fail_ok {D:DK} (h:okD D) (z:Int) (hz:z≤9223372036854775807) (K:List Int):okD (failD D z K).1:=by
 unfold failD
 split
 · exact h
 split
 · exact h
 exact okD.of h.most h.okL fun q hq=>by cases hq;omega
theorem new_ok {z:Int} (h1:1≤z) (h2:z≤1048576):okD ⟨z,0,false,[],none,[]⟩ :=
 okD.of ⟨by simp only;omega,h2⟩ ⟨List.Pairwise.nil,fun f h=>(by cases h),by simp [sumD];omega,Nat.zero_le _,fun f h=>(by cases h)⟩ fun q hq=>by cases hq
theorem find_at {L:List Fl} (hs:riseF L) {i:Nat} (hi:i<L.length):hasF L L[i].n=true∧posF L L[i].n=i:=by
 have h1:hasF L L[i].n=true:=hasF_iff.2 ⟨_,List.getElem_mem hi,rfl⟩
 refine ⟨h1,?_⟩
 obtain ⟨h2,h3⟩:=has_pos hs h1
 rcases Nat.lt_trichotomy (posF L L[i].n) i with h | h | h
 · exact absurd (List.pairwise_iff_getElem.1 hs _ _ h2 hi h) (by rw [h3];exact ltS.irrefl _)
 · exact h
 exact absurd (List.pairwise_iff_getElem.1 hs _ _ hi h2 h) (by rw [h3];exact ltS.irrefl _)
theorem name_at {L:List Fl} (hs:riseF L) {i j:Nat} (hi:i<L.length) (hj:j<L.length) (e:L[i].n=L[j].n):i=j:=by
 have h1:=(find_at hs hi).2
 have h2:=(find_at hs hj).2
 rw [e] at h1
 omega
theorem erase_mem {L:List Fl} (hs:riseF L) {i:Nat} (hi:i<L.length) {f:Fl} (h:f∈L.eraseIdx i):f∈L∧f.n≠L[i].n:=by
 refine ⟨(List.eraseIdx_sublist _ _).subset h,fun e=>?_⟩
 obtain ⟨j,hj,h2,rfl⟩:=List.mem_eraseIdx_iff_getElem.1 h
 exact h2 (name_at hs hj hi e)
theorem renF_eq {L:List Fl} {x y:ByteArray} (hi:posF L x<L.length):renF L x y=putFl (L.eraseIdx (posF L x)) ⟨y,L[posF L x].d,L[posF L x].s⟩:=by
 unfold renF
 rw [List.getElem?_eq_getElem hi]
theorem sameInts (A B:Option Addr) (L M:List Int) (m c n d:Nat) (hm:m=L.length) (hn:n=M.length) (h1:m≤1000000) :
 Triple Tryz.prog 70 [.slice A m c,.slice B n d] [] [Rd 1 A m (L.flatMap encN),Rd 1 B n (M.flatMap encN)] Unit (fun _=>.bool (decide (L=M))) (fun _=>True) (fun _=>[]):=by
 refine aT Tryz.func70 [vL A m c,vL B n d] [] (fun E=>?_) ⟨trivial,trivial,trivial⟩
 refine aG ?_
 refine ev_if_ne (fun h0=>?_) (fun h0=>?_)
 refine aG ?_
 refine ev_fin ⟨trivial,_,rfl,(()),?_,(by trivial),Frm.nil _⟩
 rotate_left
 refine aG ?_
 rotate_left
 · exact congrArg Value.bool (decide_eq_false (fun e=>by rw [e] at hm;omega)).symm
 have hmn:m=n:=by omega
 refine ev_stop (go_loopR [4,5,11,12,13,14,15,16,17,18,19,20,21,22,23,24,25] (fun i=>[(5,vI (i:Nat))]) (fun _=>[]) (fun i=>i≤m∧L.take i=M.take i) (fun i=>m-i) (0:Nat) ⟨Nat.zero_le _,rfl⟩ aS (fun i h_=>?_))
 obtain ⟨hi,hi2⟩:=h_
 refine aG ?_
 refine ev_if_lt (fun h20=>?_) (fun h20=>?_)
 refine aG ?_
 refine ev_stop (go_draw Tryz.tbs_ok true [] [(0,true),(1,true),(2,true),(3,true),(4,true),(5,true),(6,true),(7,true),(8,true)] rfl ?_)
 refine aG (aE ?_)
 refine ev_stop (tk_indexE (sz:=1) Tryz.tbs_ok (.inl 0) (i) aB rfl rfl rfl rfl rfl rfl rfl (by omega) rfl (fun _ h=>h) (fun g21 o23 e22=>?_))
 subst e22
 refine aG (aE ?_)
 have l24:i<(L).length:=(by omega)
 refine ev_stop (tk_loadE Tryz.tbs_ok (.inl 0) (i) 0 aB rfl rfl rfl rfl rfl (fun _ h=>h) (by omega) (fun _=>rfl) (by omega) l24 (by decide) ?_)
 refine aG (aE ?_)
 refine ev_stop (tk_indexE (sz:=1) Tryz.tbs_ok (.inl 1) (i) aB rfl rfl rfl rfl rfl rfl rfl (by omega) rfl (fun _ h=>h) (fun g25 o27 e26=>?_))
 subst e26
 refine aG (aE ?_)
 have l28:i<(M).length:=(by omega)
 refine ev_stop (tk_loadE Tryz.tbs_ok (.inl 1) (i) 0 aB rfl rfl rfl rfl rfl (fun _ h=>h) (by omega) (fun _=>rfl) (by omega) l28 (by decide) ?_)
 refine aG (aE ?_)
 refine ev_if_ne (fun h29=>?_) (fun h29=>?_)
 refine aG ?_
 refine ev_fin ⟨trivial,_,rfl,(()),?_,(by trivial),Frm.nil _⟩
 rotate_left
 refine aG ?_
 refine wN (i+1) ?_
 refine ev_fin (round_next (i+1) (?_:i+1≤m∧List.take (i+1) L=List.take (i+1) M) (show m-(i+1)<m-i from (by omega)) aS)
 rotate_left
 refine aG ?_
 refine ev_fin (go Tryz.tbs_ok 1000 ?_)
 refine ev_fin ⟨trivial,_,rfl,(()),?_,(by trivial),Frm.nil _⟩
 rotate_left
 · exact congrArg Value.bool (decide_eq_false (fun e=>by subst e;exact h29 rfl)).symm
 · refine ⟨by omega,?_⟩
   rw [←List.take_append_getElem l24,←List.take_append_getElem l28,hi2]
   rw [h29]
 refine congrArg Value.bool (decide_eq_true ?_).symm
 rw [List.take_of_length_le (by omega),List.take_of_length_le (by omega)] at hi2
 exact hi2
theorem sameTexts (A B:Option Addr) (L M:List ByteArray) (m c n d:Nat) (hm:m=L.length) (hn:n=M.length) (h1:m≤1000000) :
 Triple Tryz.prog 24 [.slice A m c,.slice B n d] [] [Rd 1 A m (L.flatMap encS),Rd 1 B n (M.flatMap encS)] Unit (fun _=>.bool (decide (L=M))) (fun _=>True) (fun _=>[]):=by
 refine aT Tryz.func24 [vL A m c,vL B n d] [] (fun E=>?_) ⟨trivial,trivial,trivial⟩
 refine aG ?_
 refine ev_if_ne (fun h0=>?_) (fun h0=>?_)
 refine aG ?_
 refine ev_fin ⟨trivial,_,rfl,(()),?_,(by trivial),Frm.nil _⟩
 rotate_left
 refine aG ?_
 rotate_left
 · exact congrArg Value.bool (decide_eq_false (fun e=>by rw [e] at hm;omega)).symm
 have hmn:m=n:=by omega
 refine ev_stop (go_loopR [4,5,11,12,13,14,15,16,17,18,19,20,21,22,23,24,25] (fun i=>[(5,vI (i:Nat))]) (fun _=>[]) (fun i=>i≤m∧L.take i=M.take i) (fun i=>m-i) (0:Nat) ⟨Nat.zero_le _,rfl⟩ aS (fun i h_=>?_))
 obtain ⟨hi,hi2⟩:=h_
 refine aG ?_
 refine ev_if_lt (fun h20=>?_) (fun h20=>?_)
 refine aG ?_
 refine ev_stop (go_draw Tryz.tbs_ok true [] [(0,true),(1,true),(2,true),(3,true),(4,true),(5,true),(6,true),(7,true),(8,true)] rfl ?_)
 refine aG (aE ?_)
 refine ev_stop (tk_indexE (sz:=1) Tryz.tbs_ok (.inl 0) (i) aB rfl rfl rfl rfl rfl rfl rfl (by omega) rfl (fun _ h=>h) (fun g21 o23 e22=>?_))
 subst e22
 refine aG (aE ?_)
 have l24:i<(L).length:=(by omega)
 refine ev_stop (tk_loadE Tryz.tbs_ok (.inl 0) (i) 0 aB rfl rfl rfl rfl rfl (fun _ h=>h) (by omega) (fun _=>rfl) (by omega) l24 (by decide) ?_)
 refine aG (aE ?_)
 refine ev_stop (tk_indexE (sz:=1) Tryz.tbs_ok (.inl 1) (i) aB rfl rfl rfl rfl rfl rfl rfl (by omega) rfl (fun _ h=>h) (fun g25 o27 e26=>?_))
 subst e26
 refine aG (aE ?_)
 have l28:i<(M).length:=(by omega)
 refine ev_stop (tk_loadE Tryz.tbs_ok (.inl 1) (i) 0 aB rfl rfl rfl rfl rfl (fun _ h=>h) (by omega) (fun _=>rfl) (by omega) l28 (by decide) ?_)
 refine aG (aE ?_)
 refine ev_if_nd (fun h29=>?_) (fun h29=>?_)
 refine aG ?_
 refine ev_fin ⟨trivial,_,rfl,(()),?_,(by trivial),Frm.nil _⟩
 rotate_left
 refine aG ?_
 refine wN (i+1) ?_
 refine ev_fin (round_next (i+1) (?_:i+1≤m∧List.take (i+1) L=List.take (i+1) M) (show m-(i+1)<m-i from (by omega)) aS)
 rotate_left
 refine aG ?_
 refine ev_fin (go Tryz.tbs_ok 1000 ?_)
 refine ev_fin ⟨trivial,_,rfl,(()),?_,(by trivial),Frm.nil _⟩
 rotate_left
 · exact congrArg Value.bool (decide_eq_false (fun e=>by subst e;exact h29 rfl)).symm
 · refine ⟨by omega,?_⟩
   rw [←List.take_append_getElem l24,←List.take_append_getElem l28,hi2]
   rw [h29]
 refine congrArg Value.bool (decide_eq_true ?_).symm
 rw [List.take_of_length_le (by omega),List.take_of_length_le (by omega)] at hi2
 exact hi2
theorem sameTextsR (A B:Option Addr) (L M:List ByteArray) (m c n d:Nat) (hm:m=L.length) (hn:n=M.length) (h1:m≤1000000) :
 Triple Tryz.prog 24 [.slice A m c,.slice B n d] [] [Row 9 1 A m c (L.flatMap encS),Row 9 1 B n d (M.flatMap encS)] Unit (fun _=>.bool (decide (L=M))) (fun _=>True) (fun _=>[]) :=
 (sameTexts A B L M m c n d hm hn h1).reads fun X hX=>by
  simp only [List.mem_cons,List.not_mem_nil,or_false] at hX
  rcases hX with rfl | rfl
  · exact ⟨_,List.mem_cons_self,fun _ q=>Row.rd q⟩
  exact ⟨_,List.mem_cons_of_mem _ List.mem_cons_self,fun _ q=>Row.rd q⟩
theorem sameIntsR (A B:Option Addr) (L M:List Int) (m c n d:Nat) (hm:m=L.length) (hn:n=M.length) (h1:m≤1000000) :
 Triple Tryz.prog 70 [.slice A m c,.slice B n d] [] [Row 3 1 A m c (L.flatMap encN),Row 3 1 B n d (M.flatMap encN)] Unit (fun _=>.bool (decide (L=M))) (fun _=>True) (fun _=>[]) :=
 (sameInts A B L M m c n d hm hn h1).reads fun X hX=>by
  simp only [List.mem_cons,List.not_mem_nil,or_false] at hX
  rcases hX with rfl | rfl
  · exact ⟨_,List.mem_cons_self,fun _ q=>Row.rd q⟩
  exact ⟨_,List.mem_cons_of_mem _ List.mem_cons_self,fun _ q=>Row.rd q⟩
end Go.Proofs.YtjlfdfmkofbccaaGreatDoor
namespace Go.Sy
open Go.RowKit
/-! the fence that lets all in,and its rounds -/
def Wd (F:Fence):Prop:=F=Fence.wide∨∃ k,F=Fence.wide.inRound k
theorem Wd.calls {F:Fence} (hF:Wd F) {n:Nat} {P:Program} {f:FuncId} {args:Array Value} {w:World} {R:Ending→World→Prop} (h:Calls P f args w R):CallsIn F n P f args w R:=by
 rcases hF with rfl | ⟨k,rfl⟩
 · exact callsIn_wide.2 h
 exact CallsIn.inRound k (callsIn_wide.2 h)
theorem Wd.rows {F:Fence} (hF:Wd F) {n:Nat} {P:Program} {row:String} {args:Array Value} {w:World} {R:Value→World→Prop} (h:Rows P row args w R):RowsIn F n P row args w R:=by
 rcases hF with rfl | ⟨k,rfl⟩
 · exact fun c cs _=>let ⟨v,w',r,s⟩:=h c cs;⟨v,w',r,stepsIn_wide.2 s⟩
 exact fun c cs _=>let ⟨v,w',r,s⟩:=h c cs;⟨v,w',r,stepsIn_wide.2 s⟩
theorem Wd.fn {F:Fence} (hF:Wd F) (f:FuncId):F.fn f:=by rcases hF with rfl | ⟨k,rfl⟩<;>trivial
theorem Wd.depth {F:Fence} (hF:Wd F) {p:Prop}:F.depth.isSome=true→p:=by rcases hF with rfl | ⟨k,rfl⟩<;>intro h<;>cases h
theorem Wd.upon {F:Fence} (hF:Wd F) {n:Nat} {P:Program} {o:Oper} {a:Act} {next:Act→World→Prop} {Q:Exit→Act→World→Prop} {r:Result Next} (h:o.upon P a next Q r):o.uponIn F n P a next Q r:=by
 cases r with
 |
  ok x w =>
  cases x with
  | value v=>exact h
  | skip=>exact h
  | defer d=>exact h
  | enter f args=>exact ⟨hF.depth,hF.calls (Calls.mono h fun e w' q=>by cases e<;>exact q)⟩
  | row r args=>exact ⟨hF.depth,hF.rows h⟩
  | _=>exact h.elim
 | halt x w=>cases x<;>first | exact h | exact h.elim
theorem wpListIn_of {F:Fence} (hF:Wd F) {n:Nat} {P:Program} {ops:Array Oper} {Q:Exit→Act→World→Prop} (hQ:¬ LetsOut Q):∀ (l:List Oper) (a:Act) (w:World),(F.round≠none→∀ o∈l,∀ c,o.op ≠ .defer c)→wpList P ops Q l a w→wpListIn F n P ops Q l a w:=by
 intro l
 induction l with
 | nil=>exact fun a w _ h=>h
 |
  cons o l ih =>
  intro a w hd h
  have ih':∀ a w,wpList P ops Q l a w→wpListIn F n P ops Q l a w:=fun a w=>ih a w (fun hr o ho=>hd hr o (List.mem_cons_of_mem _ ho))
  unfold wpList at h
  unfold wpListIn
  by_cases hw:Region.wanted o (yielded ops a.tmps)=true
  · rw [if_pos hw] at h ⊢
    rcases h with h | ⟨_,h⟩
    · have e:(o.semAt F.round a.eval)=execOp a.eval o:=by
       cases hr:F.round with
       | none=>rfl
       | some k=>exact Oper.semAt_some k _ _ (hd (by rw [hr];simp) o List.mem_cons_self)
      refine ⟨fun f _=>hF.fn f,?_⟩
      rw [e]
      refine hF.upon (Q:=Q) ?_
      have key:∀ {r:Result Next},o.upon P a (wpList P ops Q l) Q r→o.upon P a (wpListIn F n P ops Q l) Q r:=by
       intro r h
       cases r with
       |
        ok x w =>
        cases x with
        | value v=>exact ih' _ _ h
        | skip=>exact ih' _ _ h
        | defer d=>exact ih' _ _ h
        | enter f args=>exact Calls.mono h fun e w' q=>by cases e<;>first | exact ih' _ _ q | exact q
        | row r args=>exact Rows.mono h fun v w' q=>ih' _ _ q
        | _=>exact h.elim
       | halt x w=>cases x<;>first | exact h | exact h.elim
      exact key h
    exact (hQ h).elim
  rw [if_neg hw] at h ⊢
  exact ⟨fun f _=>hF.fn f,ih' _ _ h⟩
theorem wpListIn_mono {F:Fence} {n:Nat} {P:Program} {ops:Array Oper} {Q Q':Exit→Act→World→Prop} (hq:∀ e a w,Q e a w→Q' e a w):∀ (l:List Oper) (a:Act) (w:World),wpListIn F n P ops Q l a w→wpListIn F n P ops Q' l a w:=by
 have hout:LetsOut Q→LetsOut Q':=fun ⟨a,w,h⟩=>⟨a,w,hq _ _ _ h⟩
 intro l
 induction l with
 | nil=>exact fun a w h=>hq _ _ _ h
 |
  cons o l ih =>
  intro a w h
  unfold wpListIn at h ⊢
  by_cases hw:Region.wanted o (yielded ops a.tmps)=true
  · rw [if_pos hw] at h ⊢
    refine ⟨h.1,?_⟩
    have h:=h.2
    revert h
    generalize (o.semAt F.round a.eval).run P w=r
    intro h
    cases r with
    |
     ok x w =>
     cases x with
     | value v=>exact ih _ _ h
     | skip=>exact ih _ _ h
     | defer d=>exact ih _ _ h
     | enter f args=>exact ⟨h.1,h.2.1,fun cs hr=>let ⟨e,w',fr,r,s⟩:=h.2.2 cs hr;⟨e,w',fr,by cases e<;>first | exact ih _ _ r | exact hq _ _ _ r | exact hout r,s⟩⟩
     | row r args=>exact ⟨h.1,RowsIn.mono h.2 fun v w' q=>ih _ _ q⟩
     | round l' f tm asv bo=>exact ⟨h.1,RoundIn.mono h.2 fun e w' q=>by cases e<;>first | exact ih _ _ q | exact hq _ _ _ q | exact hout q⟩
     | _=>exact h.elim
    | halt x w=>cases x<;>first | exact hq _ _ _ h | exact h.elim
  rw [if_neg hw] at h ⊢
  exact ⟨h.1,ih _ _ h.2⟩
theorem wpListIn_append {F:Fence} {n:Nat} {P:Program} {ops:Array Oper} {Q:Exit→Act→World→Prop} (l2:List Oper):∀ (l1:List Oper) (a:Act) (w:World),wpListIn F n P ops (Exit.then (wpListIn F n P ops Q l2) Q) l1 a w→wpListIn F n P ops Q (l1++l2) a w:=by
 intro l1
 induction l1 with
 | nil=>exact fun a w h=>h
 |
  cons o l ih =>
  intro a w h
  unfold wpListIn at h
  show wpListIn F n P ops Q (o::(l++l2)) a w
  unfold wpListIn
  by_cases hw:Region.wanted o (yielded ops a.tmps)=true
  · rw [if_pos hw] at h ⊢
    refine ⟨h.1,?_⟩
    have h:=h.2
    revert h
    generalize (o.semAt F.round a.eval).run P w=r
    intro h
    cases r with
    |
     ok x w =>
     cases x with
     | value v=>exact ih _ _ h
     | skip=>exact ih _ _ h
     | defer d=>exact ih _ _ h
     | enter f args=>exact ⟨h.1,h.2.1,fun cs hr=>let ⟨e,w',fr,r,s⟩:=h.2.2 cs hr;⟨e,w',fr,by cases e<;>first | exact ih _ _ r | exact r,s⟩⟩
     | row r args=>exact ⟨h.1,RowsIn.mono h.2 fun v w' q=>ih _ _ q⟩
     | round l' f tm asv bo=>exact ⟨h.1,RoundIn.mono h.2 fun e w' q=>by cases e<;>first | exact ih _ _ q | exact q⟩
     | _=>exact h.elim
    | halt x w=>cases x<;>first | exact h | exact h.elim
  rw [if_neg hw] at h ⊢
  exact ⟨h.1,ih _ _ h.2⟩
def Ob (b:Nat) (o:Obj):Asn:=⟨fun h=>h b=some o,fun e x=>e _ _ x⟩
theorem ResOk.obj {E:Entry} {res:List Res} {ro:List Asn} {w:World} {hs:Nat→Hp} {hi:Hp} (h:ResOk E res ro w hs hi) {r b:Nat} {o:Obj} (o':Obj)
 (hr:res[r]? = some (.fact (Ob b o))):ResOk E (res.set r (.fact (Ob b o'))) ro (w.putObj b o') (upd hs r (Hp.one b o')) hi:=by
 have hb:hs r b=some o:=h.holds r _ hr
 have hw:w.heap[b]? = some o:=h.le r b _ hb
 have hrl:=(List.getElem?_eq_some_iff.1 hr).1
 have hbl:b<w.heap.size:=(Array.getElem?_eq_some_iff.1 hw).1
 have hn:hp (w.putObj b o') b=some o':=World.putObj_heap_same hbl
 refine h.step (Hp.one b o) (fun i=>i=r) ⟨rfl,rfl,rfl,by simp,fun k _ hk=>World.putObj_heap_other (fun e=>by subst e;rw [Hp.one_self] at hk;cases hk)⟩ ?_ (fun i hi=>if_neg hi) ?_ ?_ ?_ ?_ ?_
 · intro c hc
   by_cases x:c=b
   · subst x;exact ⟨r,rfl,by rw [hb];simp⟩
   exact absurd (Hp.one_none x) hc
 · rintro i rfl
   simp only [upd,if_true]
   exact Hp.one_le hn
 · rintro i rfl c hc
   left
   simp only [upd,if_true] at hc
   by_cases x:c=b
   · subst x;rw [Hp.one_self];simp
   exact absurd (Hp.one_none x) hc
 · rintro i j rfl rfl hij;exact absurd rfl hij
 · intro i x hx
   rw [List.getElem?_set] at hx
   by_cases c:r=i
   · subst c
     simp only [if_true,hrl] at hx
     cases hx
     simp only [upd,if_true,Res.asn]
     exact Hp.one_self _ _
   rw [if_neg c] at hx
   simp only [upd,if_neg (Ne.symm c)]
   exact h.holds i x hx
 rw [blkAt_set _ _ _ (fun y hy=>by rw [hr] at hy;cases hy;rfl)]
 intro x hx
 rcases List.mem_or_eq_of_mem_set hx with hx | hx
 · exact h.cells x hx
 subst hx;trivial
theorem ResOk.allocObj {E:Entry} {res:List Res} {ro:List Asn} {w:World} {hs:Nat→Hp} {hi:Hp} (h:ResOk E res ro w hs hi) (o:Obj) :
 ResOk E (res++[.fact (Ob w.heap.size o)]) ro (w.alloc o) (upd hs res.length (Hp.one w.heap.size o)) hi:=by
 refine h.step Hp.emp (fun i=>i=res.length) (Ext.alloc w _) (fun b hb=>absurd rfl hb) (fun i hi=>if_neg hi) ?_ ?_ ?_ ?_ ?_
 · rintro i rfl
   simp only [upd,if_true]
   exact Hp.one_le (hp_alloc w _)
 · rintro i rfl b hb
   right
   simp only [upd,if_true] at hb
   by_cases x:b=w.heap.size
   · omega
   exact absurd (Hp.one_none x) hb
 · rintro i j rfl rfl hij;exact absurd rfl hij
 · intro i x hx
   by_cases c:i=res.length
   · subst c
     rw [List.getElem?_append_right (Nat.le_refl _)] at hx
     simp at hx
     subst hx
     simp only [upd,if_true,Res.asn]
     exact Hp.one_self _ _
   have hl:i<res.length:=by
    have:=(List.getElem?_eq_some_iff.1 hx).1
    simp at this;omega
   rw [List.getElem?_append_left hl] at hx
   simp only [upd,if_neg c]
   exact h.holds i x hx
 intro x hx
 rcases List.mem_append.1 hx with hx | hx
 · have:=h.cells x hx
   cases x with
   | box b t c=>exact ⟨SV.goodL_mono (blkAt_append _ _) this.1,this.2⟩
   | fact A=>trivial
   | dead b=>trivial
 simp at hx
 subst hx
 trivial
def YAt (P:Program) (l:Nat) (args:Array Value) (w:World) (R:Ending→World→Prop):Prop :=
 ∃ fn tmps assign body,(Instr.yield l args).run P w = .ok (.round l fn tmps assign body) w∧RoundIn Fence.wide 0 P l fn tmps assign body w R
theorem YAt.mono {P:Program} {l:Nat} {args:Array Value} {w:World} {R R':Ending→World→Prop} (h:YAt P l args w R) (hr:∀ e w',R e w'→R' e w'):YAt P l args w R' :=
 let ⟨fn,tmps,asv,bo,h1,h2⟩:=h;⟨fn,tmps,asv,bo,h1,RoundIn.mono h2 hr⟩
def YTriple (P:Program) (l:Nat) (args:List Value) (M N:List Asn) (X:Type) (ret:X→Value) (good:X→Prop) (post:X→List Asn):Prop :=
 ∀ (w:World) (hm hn:Hp),hm.le (hp w)→hn.le (hp w)→hm.dis hn→Asn.starH M hm→(∀ A∈N,A.holds hn) →
  YAt P l args.toArray w fun e w'=>∃ (x:X) (hm':Hp),e = .returned (ret x)∧good x∧Asn.starH (post x) hm'∧hm'.le (hp w')∧Ext hm w w' ∧
   (∀ b,hm' b≠none→hm b≠none∨w.heap.size≤b)
def YStep (P:Program) (E:Entry) (ops:Array Oper) (l:List Oper) (r:List It) (st:St) (Q:Exit→St→Prop):Prop :=
 ∀ a w,R E st a w→wpListIn Fence.wide 0 P ops (post P r (Fin Q E)) l a w
theorem noOut {P:Program} {E:Entry} {r:List It} {Q:Exit→St→Prop}:¬ LetsOut (post P r (Fin Q E)):=fun ⟨_,_,h⟩=>by
 rw [post_out] at h
 exact h
theorem go_yield {P:Program} {E:Entry} {Q:Exit→St→Prop} {id:Nat} {ops:Array Oper} {r:List It} {st:St} (l1 l2:List Oper) (hl:ops.toList=l1++l2)
 (h:Go P E [.o ops l1] st (fun e st1=>e = .normal∧YStep P E ops l2 r st1 Q)):Go P E (.c (.region id ops false)::r) st Q:=fun a w hR=>by
 show (Code.region id ops false).wp P (post P r (Fin Q E)) a w
 refine (wpIn_wide (n:=0)).1 (wpIn_region_list ?_)
 rw [hl]
 refine wpListIn_append l2 l1 a w ?_
 have h1:=wpListIn_of (n:=0) (F:=Fence.wide) (.inl rfl) (fun ⟨_,_,q⟩=>q) l1 a w (fun q=>absurd rfl q) (h a w hR)
 refine wpListIn_mono (fun e a w q=>?_) l1 a w h1
 cases e with
 | normal=>obtain ⟨st1,⟨_,q⟩,hR'⟩:=q;exact q a w hR'
 | panic c=>exact q.elim
 | outgrown=>exact q.elim
 | ret=>obtain ⟨st1,⟨q,_⟩,_⟩:=q;cases q
 | exit j=>obtain ⟨st1,⟨q,_⟩,_⟩:=q;cases q
 | goto j=>obtain ⟨st1,⟨q,_⟩,_⟩:=q;cases q
theorem ystep {P:Program} {E:Entry} {Q:Exit→St→Prop} {ops:Array Oper} {r:List It} {st:St} {o:Oper} {l l2:List Oper} (hl:l=o::l2) {yl:Nat} {f:Operand} {asv:Array Operand} {ts:Array TypeId}
 (hg:o.guard=none) (ho:o.op = .call { callee:=.value f,args:=asv,argTypes:=ts }) (hf:(ev st.fr f).den = .func (.yield yl) #[] #[]) (hf2:(ev st.fr f).isNo=false) {args:List Value}
 (hargs:SV.denL (asv.toList.map (ev st.fr))=args) (hno:noNo (asv.toList.map (ev st.fr))=true)
 {M N:List Asn} {X:Type} {ret:X→Value} {good:X→Prop} {after:X→List Asn} (T:YTriple P yl args M N X ret good after)
 (sel:List Nat) (nsel:List (Sum Nat Nat)) (news:X→List Res)
 (hsel:sel.map (asnAt st.res)=M.map some) (hnd:sel.Nodup) (hn:nsel.map (lent st)=N.map some) (hapart:∀ i,Sum.inr i∈nsel→i ∉ sel)
 (hnews:∀ x,(news x).map Res.asn=after x) (hok:∀ x,newsOk (blkAt (place st.res sel (news x))) (news x)) (hb:∀ x,blkLe st.res (place st.res sel (news x)))
 (h:∀ x,good x→Go P E (.o ops l2::r) (St.put ⟨st.fr,place st.res sel (news x),st.ro⟩ o.dst (normV (ret x))) Q):YStep P E ops l r st Q:=by
 subst hl
 intro a w hR
 unfold wpListIn
 rw [if_pos (by simp [Region.wanted,hg])]
 refine ⟨fun _ _=>trivial,?_⟩
 obtain ⟨hs,hi,hres⟩:=hR.res
 subst hargs
 classical
 let hn':Hp:=fun b=>if ∃ i∈sel,hs i b≠none then none else hp w b
 have hnw:hn'.le (hp w):=fun b o e=>by
  by_cases c:∃ i∈sel,hs i b≠none
  · simp only [hn',if_pos c] at e;cases e
  simpa only [hn',if_neg c] using e
 have hdis:(selH w hs sel).dis hn':=fun b=>by
  by_cases c:∃ i∈sel,hs i b≠none
  · right;simp only [hn',if_pos c]
  left;unfold selH;rw [if_neg c]
 have hM:Asn.starH M (selH w hs sel):=selH_star hres.le hres.dis hres.holds hsel hnd
 have hN:∀ A∈N,A.holds hn':=fun A hA=>by
  obtain ⟨k,hk⟩:=List.mem_iff_getElem?.1 hA
  have h1:(nsel.map (lent st))[k]? = (N.map some)[k]? := by rw [hn]
  rw [List.getElem?_map,List.getElem?_map,hk] at h1
  cases e:nsel[k]? with
  | none=>rw [e] at h1;cases h1
  |
   some s =>
   rw [e] at h1
   simp only [Option.map_some,Option.some.injEq] at h1
   cases s with
   |
    inl i =>
    refine A.mono (h:=hi) (fun b o e=>?_) (hres.rholds A (List.mem_of_getElem? h1))
    have c:¬ ∃ i∈sel,hs i b≠none:=fun ⟨j,_,hj⟩=>by
     rcases hres.rdis j b with y | y
     · exact hj y
     rw [y] at e;cases e
    simp only [hn',if_neg c]
    exact hres.rle b o e
   |
    inr i =>
    obtain ⟨x,hx,rfl⟩:=asnAt_spec h1
    refine x.asn.mono (h:=hs i) (fun b o e'=>?_) (hres.holds i x hx)
    have c:¬ ∃ i∈sel,hs i b≠none:=fun ⟨j,hj',hj⟩=>by
     rcases hres.dis i j (fun ee=>hapart i (List.mem_of_getElem? e) (ee ▸ hj')) b with y | y
     · rw [y] at e';cases e'
     exact hj y
    simp only [hn',if_neg c]
    exact hres.le i b o e'
 obtain ⟨fn,tmps,assign,body,hy,hr⟩:=T w (selH w hs sel) hn' (selH_le _ _ _) hnw hdis hM hN
 have hd:=noNo_den hR.fr asv.toList (fun x hx hno'=>by
  have:=List.all_eq_true.1 hno (ev st.fr x) (List.mem_map_of_mem hx)
  rw [hno'] at this
  cases this)
 have hfe:a.eval f = .func (.yield yl) #[] #[]:=by rw [ev_denv hR.fr rfl hf2];exact hf
 have hrun:(o.semAt Fence.wide.round a.eval).run P w = .ok (.round yl fn tmps assign body) w:=by
  show (execOp a.eval o).run P w=_
  have e:asv.map a.eval=(SV.denL (asv.toList.map (ev st.fr))).toArray:=by
   rw [←hd];exact Array.ext' (by simp)
  simp only [execOp,ho,resolve,Deferred.ofValue,hfe,invoke,Sem.run_bind,Sem.run_pure,Result.andThen_ok]
  rw [show (#[]++asv.map a.eval)=asv.map a.eval from Array.ext' (by simp),e]
  exact hy
 rw [hrun]
 refine ⟨fun q=>(by cases q),RoundIn.mono hr fun e w' he=>?_⟩
 obtain ⟨x,hm',rfl,hgd,hpost,hle',hext,hnew⟩:=he
 rw [←hnews x] at hpost
 obtain ⟨hs',hR'⟩:=place_ok hres sel _ selH_C (news x) hm' hpost hle' hext hnew (hok x) (hb x)
 have hR2:R E ⟨st.fr,place st.res sel (news x),st.ro⟩ a w':=⟨hR.fr.mono (blkLe_spec (hb x)),hs',hi,hR'⟩
 have hR3:=hR2.put o.dst (x:=normV (ret x)) (v:=ret x) (by
  have:=SV.is_den (normV (ret x))
  rwa [normV_den] at this) (normV_good _ _)
 exact wpListIn_of (.inl rfl) noOut l2 _ _ (fun q=>absurd rfl q) (h x hgd _ _ hR3)
def GoR (k:Nat) (P:Program) (E:Entry) (c:Code) (st:St) (Q:Exit→St→Prop):Prop:=∀ a w,R E st a w→c.wpIn (Fence.wide.inRound k) 0 P (Fin Q E) a w
def noDef (o:Oper):Bool:=match o.op with | .defer _=>false | _=>true
section
variable {k:Nat} {P:Program} {E:Entry} {st:St} {Q:Exit→St→Prop}
theorem goR_seq {x y:Code} (h:GoR k P E x st (fun e st1=>match e with | .normal=>GoR k P E y st1 Q | e=>Q e st1)):GoR k P E (.seq x y) st Q:=fun a w hR =>
 wpIn_seq (wpIn_mono (h a w hR) fun e a w q=>by
  cases e with
  | normal=>obtain ⟨st1,q,hR⟩:=q;exact q a w hR
  | panic c=>exact q.elim
  | outgrown=>exact q.elim
  | _=>exact q)
theorem goR_block {id:Nat} {x:Code} (h:GoR k P E x st (fun e st1=>match e with | .exit j=>if j=id then Q .normal st1 else Q (.exit j) st1 | e=>Q e st1)):GoR k P E (.block id x) st Q:=fun a w hR =>
 wpIn_block (wpIn_mono (h a w hR) fun e a w q=>by
  cases e with
  |
   exit j =>
   obtain ⟨st1,q,hR⟩:=q
   by_cases c:j=id
   · simp only [c,if_true] at q
     simp only [Exit.inBlock,c,if_true]
     exact ⟨st1,q,hR⟩
   simp only [c,if_false] at q
   simp only [Exit.inBlock,c,if_false]
   exact ⟨st1,q,hR⟩
  | panic c=>exact q.elim
  | outgrown=>exact q.elim
  | _=>exact q)
theorem goR_skip (h:Q .normal st):GoR k P E .skip st Q:=fun _ _ hR=>wpIn_skip ⟨st,h,hR⟩
theorem goR_exit {id:Nat} (h:Q (.exit id) st):GoR k P E (.exit id) st Q:=fun _ _ hR=>wpIn_exit ⟨st,h,hR⟩
theorem goR_cond {c:Operand} {x y:Code} {b:Bool} (hc:asBoolS (ev st.fr c)=some b) (h1:b=true→GoR k P E x st Q) (h2:b=false→GoR k P E y st Q):GoR k P E (.cond c x y) st Q:=fun a w hR =>
 wpIn_cond_split ((ev_den hR.fr rfl (asBoolS_no hc)).trans (asBoolS_den hc)) (fun e=>h1 e a w hR) (fun e=>h2 e a w hR)
theorem goR_region {id:Nat} {ops:Array Oper} (hd:ops.toList.all noDef=true) (h:Go P E [.o ops ops.toList] st Q):GoR k P E (.region id ops false) st Q:=fun a w hR=>by
 refine wpIn_region_list (wpListIn_of (.inr ⟨k,rfl⟩) (fun ⟨_,_,q⟩=>q) ops.toList a w (fun _ o ho c e=>?_) (h a w hR))
 have:=List.all_eq_true.1 hd o ho
 unfold noDef at this
 rw [e] at this
 cases this
end
theorem yt_intro {P:Program} {l:Nat} {rec:Loop} {t:Tmp} (hst:rec.state = .ready) (hpd:rec.pending=none) (hps:rec.params = #[t]) {fr:List SV} {res0 res:List Res} (hfr:FrOk fr res0 { tmps:=rec.tmps,defers:=[] })
 (hblk:∀ r b,blkAt res0 r=some b→blkAt res r=some b) (i:Nat) (hi:res[i]? = some (.fact (Ob l (.loop rec)))) {v:SV} (hvg:v.good (blkAt res))
 (hcells:∀ x∈res,match x with | .box _ _ cs=>SV.goodL (blkAt res) cs | _=>True) {N:List Asn} {X:Type} {ret:X→Value} {good:X→Prop} {after:X→List Asn}
 (h:∀ E,GoR l P E rec.assign ⟨fr.set t v,res,N⟩ (fun e st1=>e = .normal∧st1.res[i]? = some (.fact (Ob l (.loop rec))) ∧
  GoR l P E rec.body ⟨st1.fr,st1.res.set i (.fact (Ob l (.loop { rec with state:=.busy }))),st1.ro⟩ (fun e st2=>st2.res[i]? = some (.fact (Ob l (.loop { rec with state:=.busy })))∧∃ x,good x ∧
   (match e with
    | .normal=>ret x = .bool true∧Frm (st2.res.set i (.fact (Ob l (.loop rec)))) (after x)
    | .exit j=>ret x = .bool false∧Frm (st2.res.set i (.fact (Ob l (.loop { rec with state:=.done,pending:=some (.exit j) })))) (after x)
    | _=>False)))) :
 YTriple P l [v.den] (res.map Res.asn) N X ret good after:=by
 intro w hm hn hmw hnw hd hM hN
 obtain ⟨hs,h1,h2,h3⟩:=Asn.starH_split _ hM
 have hres:ResOk ⟨w,hm⟩ res N w (fun i=>if i<res.length then hs i else Hp.emp) hn:=by
  refine ⟨fun i=>?_,fun i j hij=>?_,fun i x hx=>?_,hnw,fun i=>?_,hN,Ext.refl _ _,fun i b hb=>?_,fun x hx=>?_⟩
  · split
    · exact (h1 i).trans hmw
    exact Hp.emp_le _
  · split
    · split
      · exact h2 i j hij
      exact Hp.dis_emp _
    exact Hp.emp_dis _
  · have hlt:=(List.getElem?_eq_some_iff.1 hx).1
    rw [if_pos hlt]
    exact h3 i _ (by rw [List.getElem?_map,hx];rfl)
  · split
    · exact hd.mono (h1 i) (Hp.le_refl _)
    exact Hp.emp_dis _
  · split at hb
    · left;intro e;exact hb (Hp.le_none (h1 i) e)
    exact absurd rfl hb
  have:=hcells x hx
  cases x with
  |
   box b t cs =>
   refine ⟨this,fun y hy=>?_⟩
   obtain ⟨i,hi⟩:=List.mem_iff_getElem?.1 hx
   have h4:(Res.asn (.box b t cs)).holds (hs i):=h3 i _ (by rw [List.getElem?_map,hi];rfl)
   exact h4.2 _ (by rw [SV.denL_eq];exact List.mem_map_of_mem hy)
  | fact A=>trivial
  | dead b=>trivial
 have hlp:w.heap[l]? = some (.loop rec):=hres.le i l _ (hres.holds i _ hi)
 have hy:=run_yield (P:=P) (args := #[v.den]) hlp (by rw [hps];rfl)
 refine ⟨_,_,_,_,hy,roundIn_of_wpIn trivial ?_⟩
 have htm:((rec.params.zip #[v.den]).foldl (fun tmps (t,a)=>tmps.setIfInBounds t a) rec.tmps)=rec.tmps.setIfInBounds t v.den:=by rw [hps,←Array.foldl_toList];simp
 rw [htm]
 have hfr2:FrOk (fr.set t v) res { tmps:=rec.tmps.setIfInBounds t v.den,defers:=[] }:=(hfr.mono hblk).put t (SV.is_den v) hvg
 refine wpIn_mono (h ⟨w,hm⟩ _ w ⟨hfr2,_,_,hres⟩) fun e a1 w1 q=>?_
 have no:∀ {e:Exit} (_:e ≠ .normal) {Z:St→Prop},¬ (∃ st1,(e = .normal∧Z st1)∧R ⟨w,hm⟩ st1 a1 w1):=fun hne _ ⟨_,⟨e,_⟩,_⟩=>hne e
 cases e with
 |
  normal =>
  obtain ⟨st1,⟨_,hi1,hb⟩,hR1⟩:=q
  obtain ⟨hs1,hi1',hr1⟩:=hR1.res
  have hl1:w1.heap[l]? = some (.loop rec):=hr1.le i l _ (hr1.holds i _ hi1)
  refine ⟨_,run_beginRound hl1 hst,?_⟩
  have hr2:=hr1.obj (.loop { rec with state:=.busy }) hi1
  have hbe:blkAt (st1.res.set i (.fact (Ob l (.loop { rec with state:=.busy }))))=blkAt st1.res:=blkAt_set _ _ _ (fun y hy=>by rw [hi1] at hy;cases hy;rfl)
  refine wpIn_mono (hb a1 _ ⟨hR1.fr.mono (fun r b e=>by rw [hbe];exact e),_,_,hr2⟩) fun e a2 w2 q=>?_
  have fin:∀ st2,R ⟨w,hm⟩ st2 a2 w2→st2.res[i]? = some (.fact (Ob l (.loop { rec with state:=.busy })))→∀ (jump:Option Code) (x:X) (rec':Loop),rec'={ rec with state:=if jump.isNone then .ready else .done,pending:=jump }→good x→ret x = .bool jump.isNone →
   Frm (st2.res.set i (.fact (Ob l (.loop rec')))) (after x) →
   ∃ v w',(Instr.endRound l jump).run P w2 = .ok v w'∧∃ (x:X) (hm':Hp),(Ending.returned v) = .returned (ret x)∧good x∧Asn.starH (after x) hm'∧hm'.le (hp w')∧Ext hm w w'∧(∀ b,hm' b≠none→hm b≠none∨w.heap.size≤b):=by
   rintro st2 hR2 hi2 jump x rec' rfl hg hx hfrm
   obtain ⟨hs2,hi2',hr2⟩:=hR2.res
   have hl2:w2.heap[l]? = some (.loop { rec with state:=.busy }):=hr2.le i l _ (hr2.holds i _ hi2)
   have hr3:=hr2.obj (.loop { rec with state:=if jump.isNone then .ready else .done,pending:=jump }) hi2
   obtain ⟨h',a1,a2,a3⟩:=hfrm _ hr3.dis hr3.holds _ hr3.le
   refine ⟨_,_,run_endRound jump hl2,x,h',by rw [hx],hg,a1,a2,hr3.ext,fun b hb=>?_⟩
   obtain ⟨i,_,hi⟩:=a3 b hb
   exact hr3.old i b hi
  cases e with
  |
   normal =>
   obtain ⟨st2,⟨hi2,x,hg,hx,hf⟩,hR2⟩:=q
   exact fin st2 hR2 hi2 none x rec (by cases rec;simp_all) hg hx hf
  |
   exit j =>
   obtain ⟨st2,⟨hi2,x,hg,hx,hf⟩,hR2⟩:=q
   exact fin st2 hR2 hi2 (some (.exit j)) x _ rfl hg hx hf
  | ret=>obtain ⟨_,⟨_,_,_,q⟩,_⟩:=q;exact q.elim
  | goto j=>obtain ⟨_,⟨_,_,_,q⟩,_⟩:=q;exact q.elim
  | panic c=>exact q.elim
  | outgrown=>exact q.elim
 | ret=>exact (no (by simp) q).elim
 | exit j=>exact (no (by simp) q).elim
 | goto j=>exact (no (by simp) q).elim
 | panic c=>exact q.elim
 | outgrown=>exact q.elim
def sh (a:Act) (ds:List Deferred):Act:={ a with defers:=a.defers++ds }
def Shift (ds:List Deferred) (Q:Exit→Act→World→Prop):Exit→Act→World→Prop:=fun e a w=>∃ a0,a=sh a0 ds∧Q e a0 w
theorem sh_eval (a:Act) (ds:List Deferred):(sh a ds).eval=a.eval:=by funext x;cases x<;>rfl
theorem sh_put (a:Act) (ds:List Deferred) (d:Option Tmp) (v:Value):(sh a ds).put d v=sh (a.put d v) ds:=by cases d<;>rfl
theorem wpList_shift {P:Program} {ops:Array Oper} {Q:Exit→Act→World→Prop} (ds:List Deferred):∀ (l:List Oper) (a:Act) (w:World),wpList P ops Q l a w→wpList P ops (Shift ds Q) l (sh a ds) w:=by
 intro l
 induction l with
 | nil=>exact fun a w h=>⟨a,rfl,h⟩
 |
  cons o l ih =>
  intro a w h
  unfold wpList at h ⊢
  by_cases hw:Region.wanted o (yielded ops a.tmps)=true
  · rw [if_pos hw] at h
    rw [if_pos (show Region.wanted o (yielded ops (sh a ds).tmps)=true from hw)]
    rcases h with h | ⟨h,hq⟩
    · left
      unfold Oper.wp at h ⊢
      rw [sh_eval]
      revert h
      generalize (execOp a.eval o).run P w=r
      intro h
      have hnext:∀ (v:Value) w',wpList P ops Q l (a.put o.dst v) w'→wpList P ops (Shift ds Q) l ((sh a ds).put o.dst v) w':=fun v w' h=>by rw [sh_put];exact ih _ _ h
      have hout:LetsOut Q→LetsOut (Shift ds Q):=fun ⟨a,w,q⟩=>⟨_,w,a,rfl,q⟩
      cases r with
      |
       ok x w =>
       cases x with
       | value v=>exact hnext _ _ h
       | skip=>exact hnext _ _ h
       |
        defer d =>
        have:=ih _ _ h
        show wpList P ops (Shift ds Q) l (({ sh a ds with defers:=d::(sh a ds).defers }:Act).put o.dst undef) w
        have e:({ sh a ds with defers:=d::(sh a ds).defers }:Act)=sh { a with defers:=d::a.defers } ds:=rfl
        rw [e,sh_put]
        exact this
       | enter f args=>exact Calls.mono h fun e w' q=>by cases e<;>first | exact hnext _ _ q | exact ⟨_,rfl,q⟩ | exact hout q
       | row r args=>exact Rows.mono h fun v w' q=>hnext _ _ q
       | _=>exact h.elim
      | halt x w=>cases x<;>first | exact ⟨_,rfl,h⟩ | exact h.elim
    right
    refine ⟨?_,let ⟨a,w,q⟩:=hq;⟨_,w,a,rfl,q⟩⟩
    unfold Oper.asks at h ⊢
    rw [sh_eval]
    exact h
  rw [if_neg hw] at h
  rw [if_neg (show ¬ Region.wanted o (yielded ops (sh a ds).tmps)=true from hw),sh_put]
  exact ih _ _ h
theorem star_one {l r:List Asn} {h:Hp}:Asn.starH (Asn.star l::r) h↔Asn.starH (l++r) h:=by
 rw [starH_append]
 constructor
 · rintro ⟨h1,h2,d,a,b,p,q⟩
   exact ⟨h1,h2,d,a,b,star_holds.1 p,q⟩
 rintro ⟨h1,h2,d,a,b,p,q⟩
 exact ⟨h1,h2,d,a,b,star_holds.2 p,q⟩
theorem YTriple.pre {P:Program} {l:Nat} {args:List Value} {M N M':List Asn} {X:Type} {ret:X→Value} {good:X→Prop} {post post':X→List Asn}
 (hM:∀ h,Asn.starH M h→Asn.starH M' h) (hp:∀ x h,Asn.starH (post' x) h→Asn.starH (post x) h) (T:YTriple P l args M' N X ret good post'):YTriple P l args M N X ret good post :=
 fun w hm hn h1 h2 h3 h4 h5=>(T w hm hn h1 h2 h3 (hM _ h4) h5).mono fun e w' he=>by
  obtain ⟨x,hm',a,b,c,d⟩:=he
  exact ⟨x,hm',a,b,hp _ _ c,d⟩
theorem Triple.shape {P:Program} {f:FuncId} {args:List Value} {M N M':List Asn} {X:Type} {ret:X→Value} {good:X→Prop} {post post':X→List Asn} (T:Triple P f args M' N X ret good post')
 (hM:∀ h,Asn.starH M h→Asn.starH M' h) (hp:∀ x h,Asn.starH (post' x) h→Asn.starH (post x) h):Triple P f args M N X ret good post :=
 fun w hm hn h1 h2 h3 h4 h5=>(T w hm hn h1 h2 h3 (hM _ h4) h5).mono fun e w' he=>by
  obtain ⟨x,hm',a,b,c,d⟩:=he
  exact ⟨x,hm',a,b,hp _ _ c,d⟩
def EndsM (T:Tab) (fn:Func) (X:Type) (ret:X→Value) (good:X→Prop) (post:X→List Asn) (E:Entry):Exit→Act→World→Prop:=fun e a w =>
 (match e with | .normal=>True | .ret=>True | _=>False)∧∃ a0 D i st,a=sh a0 [{ target:=.collected D,args := #[] }]∧R E st a0 w∧st.res[i]? = some (.fact (Ob D (.deferred (some [])))) ∧
  ∃ svs,retS T ⟨st.fr,st.res.set i (.fact (Ob D (.deferred none))),st.ro⟩ fn.results.toList=some svs∧∃ x,retV svs=ret x∧good x∧Frm (st.res.set i (.fact (Ob D (.deferred none)))) (post x)
theorem triple_range {P:Program} {T:Tbs} (hT:TbsOk P T) {f:FuncId} {fn:Func} {c:Code} (hf:P.funcs[f]? = some fn) (hb:fn.body=some c) (svs:List SV) (res:List Res) {N:List Asn} {X:Type} {ret:X→Value} {good:X→Prop} {post:X→List Asn}
 (hgood:SV.goodL (blkAt res) svs) (hno:noNo svs=true) (hcells:∀ x∈res,match x with | .box _ _ cs=>SV.goodL (blkAt res) cs | _=>True)
 (h:∀ E a w,R E ⟨svs++List.replicate (fn.ntmps-svs.length) (.va undef),res,N⟩ a w→c.wpIn Fence.wide 0 P (EndsM T.tab fn X ret good post E) a w) :
 Triple P f (SV.denL svs) (res.map Res.asn) N X ret good post:=by
 intro w hm hn hmw hnw hd hM hN
 obtain ⟨hs,h1,h2,h3⟩:=Asn.starH_split _ hM
 have hres:ResOk ⟨w,hm⟩ res N w (fun i=>if i<res.length then hs i else Hp.emp) hn:=by
  refine ⟨fun i=>?_,fun i j hij=>?_,fun i x hx=>?_,hnw,fun i=>?_,hN,Ext.refl _ _,fun i b hb=>?_,fun x hx=>?_⟩
  · split
    · exact (h1 i).trans hmw
    exact Hp.emp_le _
  · split
    · split
      · exact h2 i j hij
      exact Hp.dis_emp _
    exact Hp.emp_dis _
  · have hlt:=(List.getElem?_eq_some_iff.1 hx).1
    rw [if_pos hlt]
    exact h3 i _ (by rw [List.getElem?_map,hx];rfl)
  · split
    · exact hd.mono (h1 i) (Hp.le_refl _)
    exact Hp.emp_dis _
  · split at hb
    · left;intro e;exact hb (Hp.le_none (h1 i) e)
    exact absurd rfl hb
  have:=hcells x hx
  cases x with
  |
   box b t cs =>
   refine ⟨this,fun y hy=>?_⟩
   obtain ⟨i,hi⟩:=List.mem_iff_getElem?.1 hx
   have h4:(Res.asn (.box b t cs)).holds (hs i):=h3 i _ (by rw [List.getElem?_map,hi];rfl)
   exact h4.2 _ (by rw [SV.denL_eq];exact List.mem_map_of_mem hy)
  | fact A=>trivial
  | dead b=>trivial
 refine callsIn_wide.1 (callsIn_of_wp_marks (n:=0) hf hb trivial (wpIn_mono (h ⟨w,hm⟩ { tmps:=(SV.denL svs).toArray++Array.replicate (fn.ntmps-(SV.denL svs).toArray.size) undef,defers:=[] } w ⟨⟨?_,?_,?_,rfl⟩,_,_,hres⟩) fun e a w' hq=>?_))
 rotate_right
 · have key:LeavesInM Fence.wide 0 P fn a.tmps (fun e w'=>∃ (x:X) (hm':Hp),e = .returned (ret x)∧good x∧Asn.starH (post x) hm'∧hm'.le (hp w')∧Ext hm w w'∧(∀ b,hm' b≠none→hm b≠none∨w.heap.size≤b)) a.defers .returning w':=by
    obtain ⟨_,a0,D,i,st,rfl,hR,hi,svs',hsv,x,hx,hg,hfrm⟩:=hq
    obtain ⟨hs',hi',hres'⟩:=hR.res
    have hD:w'.heap[D]? = some (.deferred (some [])):=hres'.le i D _ (hres'.holds i _ hi)
    have hr2:=hres'.obj (.deferred none) hi
    have hbe:blkAt (st.res.set i (.fact (Ob D (.deferred none))))=blkAt st.res:=blkAt_set _ _ _ (fun y hy=>by rw [hi] at hy;cases hy;rfl)
    have hR2:R ⟨w,hm⟩ ⟨st.fr,st.res.set i (.fact (Ob D (.deferred none))),st.ro⟩ a0 (w'.putObj D (.deferred none)):=⟨hR.fr.mono (fun r b e=>by rw [hbe];exact e),_,_,hr2⟩
    obtain ⟨h',b1,b2,b3⟩:=hfrm _ hr2.dis hr2.holds _ hr2.le
    have hde:(sh a0 [{ target:=.collected D,args := #[] }]).defers=[{ target:=.collected D,args := #[] }]:=by
     show a0.defers++_=_
     rw [hR.fr.defers]
     rfl
    rw [hde]
    refine ⟨by simp,.inl ⟨D,_,rfl,run_takeDeferred hD,?_⟩⟩
    show ∃ v,_∧_
    refine ⟨_,results_ok hT.tab hR2 hsv,x,h',by rw [hx],hg,b1,b2,hr2.ext,fun b hb=>?_⟩
    obtain ⟨i,_,hi⟩:=b3 b hb
    exact hr2.old i b hi
   cases e with
   | normal=>exact key
   | ret=>exact key
   | exit id=>exact hq.1.elim
   | goto id=>exact hq.1.elim
   | panic c=>exact hq.1.elim
   | outgrown=>exact hq.1.elim
 · simp [SV.denL_eq]
 · intro t x hx
   simp only [Array.getD_eq_getD_getElem?,List.getElem?_append] at hx ⊢
   by_cases hl:t<svs.length
   · rw [if_pos hl] at hx
     have hnx:x ≠ .no:=fun e=>by
      have:=List.all_eq_true.1 hno x (List.mem_of_getElem? hx)
      rw [e] at this;cases this
     have:((SV.denL svs).toArray++Array.replicate (fn.ntmps-(SV.denL svs).toArray.size) undef)[t]? = some x.den:=by
      rw [Array.getElem?_append_left (by simpa [SV.denL_eq] using hl)]
      simp [SV.denL_eq,hx]
     rw [this]
     exact SV.is_den x
   rw [if_neg hl] at hx
   rw [List.getElem?_replicate] at hx
   split at hx
   · cases hx
     have:((SV.denL svs).toArray++Array.replicate (fn.ntmps-(SV.denL svs).toArray.size) undef)[t]?.getD undef=undef:=by
      rw [Array.getElem?_append_right (by simp [SV.denL_eq];omega)]
      rw [Array.getElem?_replicate]
      split<;>rfl
     rw [this]
     rfl
   cases hx
 intro x hx
 rcases List.mem_append.1 hx with hx | hx
 · exact (SV.goodL_iff _ _).1 hgood x hx
 rw [List.eq_of_mem_replicate hx];trivial
/-! what a range over a function does -/
theorem Wd.wide:Wd Fence.wide:=.inl rfl
theorem range_in {P:Program} {T:Tbs} (hT:TbsOk P T) {E:Entry} {st:St} {g:Operand} {t:Tmp} {assign body:Code} {Q:Exit→Act→World→Prop} {a:Act} {w:World} (hR:R E st a w) {gf:FuncId} {lb:Array Value}
 (hg:(ev st.fr g).den = .func (.func gf) #[] lb) (hg2:(ev st.fr g).isNo=false) (hk:T.lo≤gf∧gf<T.nf∧T.ex.all (fun e => !(e==gf))=true)
 (h:∀ (fn:FuncId) (D L:Nat) (rec:Loop),rec={ state:=.ready,pending:=none,fn,tmps:=a.tmps,params := #[t],assign,body,defers:=D }→FrOk st.fr st.res { tmps:=rec.tmps,defers:=[] } →
  CallEv P E gf (.va (.func (.yield L) #[] #[])::lb.toList.map vaS) ⟨st.fr,st.res++[.fact (Ob D (.deferred (some []))),.fact (Ob L (.loop rec))],st.ro⟩ (fun _ st' =>
   ∃ i rec',st'.res[i]? = some (.fact (Ob L (.loop rec')))∧rec'.state ≠ .busy∧(rec'.pending=none∨∃ j,rec'.pending=some (.exit j)) ∧
    ∀ w',R E ⟨st'.fr,st'.res.set i (.fact (Ob L (.loop { rec' with state:=.exhausted }))),st'.ro⟩ a w'→Q (match rec'.pending with | some (.exit j)=>.exit j | _=>.normal) (sh a [{ target:=.collected D,args := #[] }]) w')) :
 (Code.rangeFunc g #[t] assign body).wpIn Fence.wide 0 P Q a w:=by
 refine wpIn_rangeFunc fun fn _=>?_
 obtain ⟨hs,hi,hres⟩:=hR.res
 obtain ⟨rec,hrec⟩:∃ rec:Loop,rec={ state:=.ready,pending:=none,fn,tmps:=a.tmps,params := #[t],assign,body,defers:=w.heap.size }:=⟨_,rfl⟩
 have h1:=hres.allocObj (.deferred (some []))
 have h2:=h1.allocObj (.loop rec)
 rw [World.size_alloc] at h2
 have hfr0:FrOk st.fr st.res { tmps:=rec.tmps,defers:=[] }:=by
  rw [hrec]
  exact ⟨hR.fr.size,hR.fr.is,hR.fr.good,rfl⟩
 have hcall:=h fn w.heap.size (w.heap.size+1) rec hrec hfr0 _ _ _ (by
  have e:st.res++[.fact (Ob w.heap.size (.deferred (some []))),.fact (Ob (w.heap.size+1) (.loop rec))]=(st.res++[.fact (Ob w.heap.size (.deferred (some [])))])++[.fact (Ob (w.heap.size+1) (.loop rec))]:=by simp
  show ResOk E (st.res++[.fact (Ob w.heap.size (.deferred (some []))),.fact (Ob (w.heap.size+1) (.loop rec))]) st.ro _ _ _
  rw [e]
  exact h2) ⟨trivial,(SV.goodL_iff _ _).2 fun y hy=>by
   obtain ⟨x,_,rfl⟩:=List.mem_map.1 hy
   exact vaS_good _ _⟩
 have hge:a.eval g = .func (.func gf) #[] lb:=by rw [ev_denv hR.fr rfl hg2];exact hg
 obtain ⟨f',hf,hb,hname⟩:=hT.fns gf hk
 have hcf:∀ (asv:Array Value) (w:World),(callFunc gf asv).run P w = .ok (.enter gf asv) w:=fun asv w=>by
  have h1:f'.name ≠ "runtime.NumGoroutine" := by simpa using hname
  have h2:f'.body≠none:=by rintro e;rw [e] at hb;cases hb
  simp [callFunc,hf,h1,h2]
 refine ⟨w.heap.size+1,[{ target:=.collected w.heap.size,args := #[] }],(w.alloc (.deferred (some []))).alloc (.loop rec),{ target:=.fn (.func gf) lb,args := #[.func (.yield (w.heap.size+1)) #[] #[]] },(w.alloc (.deferred (some []))).alloc (.loop rec),gf,
  #[.func (.yield (w.heap.size+1)) #[] #[]]++lb,(w.alloc (.deferred (some []))).alloc (.loop rec),?_,?_,fun _ _=>trivial,?_,fun q=>(by cases q),?_⟩
 · rw [hrec];exact run_enterLoop_outer _ _ _ _ _
 · simp only [resolve,hge]
   simp [go_sem]
 · simp [invoke,go_sem,hcf]
 have e2:(SV.denL (.va (.func (.yield (w.heap.size+1)) #[] #[])::lb.toList.map vaS)).toArray = #[.func (.yield (w.heap.size+1)) #[] #[]]++lb:=by
  refine Array.ext' ?_
  simp [SV.denL,SV.den,denL_va]
 rw [e2] at hcall
 refine Wd.wide.calls (Calls.mono hcall fun e w3 he=>?_)
 obtain ⟨sv,st',rfl,_,hfr,hblk,⟨hs',hi',hres'⟩,i,rec',hi2,hst,hpd,hq⟩:=he
 have hl3:w3.heap[w.heap.size+1]? = some (.loop rec'):=hres'.le i _ _ (hres'.holds i _ hi2)
 have h4:=hres'.obj (.loop { rec' with state:=.exhausted }) hi2
 have hbe:blkAt (st'.res.set i (.fact (Ob (w.heap.size+1) (.loop { rec' with state:=.exhausted }))))=blkAt st'.res:=blkAt_set _ _ _ (fun y hy=>by rw [hi2] at hy;cases hy;rfl)
 have hR4:R E ⟨st'.fr,st'.res.set i (.fact (Ob (w.heap.size+1) (.loop { rec' with state:=.exhausted }))),st'.ro⟩ a (w3.putObj (w.heap.size+1) (.loop { rec' with state:=.exhausted })) :=
  ⟨by rw [hfr];exact hR.fr.mono (fun r b e=>by rw [hbe];exact hblk r b (blkAt_append _ _ r b e)),_,_,h4⟩
 have hqq:=hq _ hR4
 have hact:({ a with defers:=[{ target:=.collected w.heap.size,args := #[] }]++a.defers }:Act)=sh a [{ target:=.collected w.heap.size,args := #[] }]:=by
  show ({ a with defers:=_ }:Act)={ a with defers:=a.defers++_ }
  rw [hR.fr.defers]
  rfl
 rw [hact]
 refine ⟨rec'.pending,_,run_endLoop hl3 hst,?_⟩
 rcases hpd with hpd | ⟨j,hpd⟩
 · rw [hpd] at hqq ⊢
   exact hqq
 rw [hpd] at hqq ⊢
 exact wpIn_exit hqq
theorem go_callv {P:Program} {T:Tbs} (hT:TbsOk P T) {E:Entry} {Q:Exit→St→Prop} {ops:Array Oper} {o:Oper} {l:List Oper} {r:List It} {st:St} {f:Operand} {ts:Array TypeId} {fn:FuncId} {caps:Array Value}
 (hg:o.guard=none) (ho:o.op = .call { callee:=.value f,args := #[],argTypes:=ts }) (hf:ev st.fr f = .va (.func (.func fn) #[] caps)) (hk:T.lo≤fn∧fn<T.nf∧T.ex.all (fun e => !(e==fn))=true)
 (h:outSat P E Q (.call fn (caps.toList.map vaS) o.dst (.o ops l::r) st)):Go P E (.o ops (o::l)::r) st Q:=by
 refine Go.step fun a w hR=>⟨by simp [Region.wanted,hg],?_⟩
 have hc:calleeS st.fr { callee:=.value f,args := #[],argTypes:=ts }=some (fn,caps.toList.map vaS):=by simp [calleeS,hf]
 have hn:noNo (caps.toList.map vaS)=true:=List.all_eq_true.2 fun x hx=>by
  obtain ⟨y,_,rfl⟩:=List.mem_map.1 hx
  cases y<;>rfl
 obtain ⟨h1,h2⟩:=callee_run hT hR.fr ho hc hn hk w
 exact call_wp hR h1 h2 h (fun sv st' hgo a' w' hR'=>hgo a' w' hR')
theorem YTriple.mpure {P:Program} {l:Nat} {args:List Value} {C:Asn} {p:Prop} {rest N:List Asn} {X:Type} {ret:X→Value} {good:X→Prop} {post:X→List Asn}
 (T:p→YTriple P l args (C::rest) N X ret good post):YTriple P l args [C,Asn.star (Asn.pure p::rest)] N X ret good post :=
 fun w hm hn h1 h2 h3 h4 h5=>by
  obtain ⟨k1,k2,d,a,b,hc,q⟩:=h4
  obtain ⟨m1,m2,d2,a2,b2,hp,hr⟩:=starH_one.1 q
  exact T hp w hm hn h1 h2 h3 ⟨k1,m2,d.mono (Hp.le_refl _) b2,a,b2.trans b,hc,hr⟩ h5
theorem starH_pk {C:Asn} {p:Prop} {rest:List Asn} {h:Hp} (hp:p) (q:Asn.starH (C::rest) h):Asn.starH [C,Asn.star (Asn.pure p::rest)] h:=by
 obtain ⟨k1,k2,d,a,b,hc,q⟩:=q
 exact ⟨k1,k2,d,a,b,hc,starH_one.2 ⟨Hp.emp,k2,Hp.emp_dis _,Hp.emp_le _,Hp.le_refl _,hp,q⟩⟩
theorem callEv {P:Program} {f:FuncId} {args:List Value} {M N:List Asn} {X:Type} {ret:X→Value} {good:X→Prop} {after:X→List Asn} (T:Triple P f args M N X ret good after)
 {E:Entry} {K:SV→St→Prop} {svs:List SV} {st:St} (sel:List Nat) (nsel:List (Sum Nat Nat)) (news:X→List Res)
 (hargs:SV.denL svs=args) (hsel:sel.map (asnAt st.res)=M.map some) (hnd:sel.Nodup) (hn:nsel.map (lent st)=N.map some) (hapart:∀ i,Sum.inr i∈nsel→i ∉ sel)
 (hnews:∀ x,(news x).map Res.asn=after x) (hok:∀ x,newsOk (blkAt (place st.res sel (news x))) (news x)) (hb:∀ x,blkLe st.res (place st.res sel (news x)))
 (h:∀ x,good x→K (normV (ret x)) ⟨st.fr,place st.res sel (news x),st.ro⟩):CallEv P E f svs st K:=by
 intro w hs hi hR _
 subst hargs
 classical
 let hn':Hp:=fun b=>if ∃ i∈sel,hs i b≠none then none else hp w b
 have hnw:hn'.le (hp w):=fun b o e=>by
  by_cases c:∃ i∈sel,hs i b≠none
  · simp only [hn',if_pos c] at e;cases e
  simpa only [hn',if_neg c] using e
 have hdis:(selH w hs sel).dis hn':=fun b=>by
  by_cases c:∃ i∈sel,hs i b≠none
  · right;simp only [hn',if_pos c]
  left;unfold selH;rw [if_neg c]
 have hM:Asn.starH M (selH w hs sel):=selH_star hR.le hR.dis hR.holds hsel hnd
 have hN:∀ A∈N,A.holds hn':=fun A hA=>by
  obtain ⟨k,hk⟩:=List.mem_iff_getElem?.1 hA
  have h1:(nsel.map (lent st))[k]? = (N.map some)[k]? := by rw [hn]
  rw [List.getElem?_map,List.getElem?_map,hk] at h1
  cases e:nsel[k]? with
  | none=>rw [e] at h1;cases h1
  |
   some s =>
   rw [e] at h1
   simp only [Option.map_some,Option.some.injEq] at h1
   cases s with
   |
    inl i =>
    refine A.mono (h:=hi) (fun b o e=>?_) (hR.rholds A (List.mem_of_getElem? h1))
    have c:¬ ∃ i∈sel,hs i b≠none:=fun ⟨j,_,hj⟩=>by
     rcases hR.rdis j b with y | y
     · exact hj y
     rw [y] at e;cases e
    simp only [hn',if_neg c]
    exact hR.rle b o e
   |
    inr i =>
    obtain ⟨x,hx,rfl⟩:=asnAt_spec h1
    refine x.asn.mono (h:=hs i) (fun b o e'=>?_) (hR.holds i x hx)
    have c:¬ ∃ i∈sel,hs i b≠none:=fun ⟨j,hj',hj⟩=>by
     rcases hR.dis i j (fun ee=>hapart i (List.mem_of_getElem? e) (ee ▸ hj')) b with y | y
     · rw [y] at e';cases e'
     exact hj y
    simp only [hn',if_neg c]
    exact hR.le i b o e'
 refine (T w (selH w hs sel) hn' (selH_le _ _ _) hnw hdis hM hN).mono fun e w' he=>?_
 obtain ⟨x,hm',rfl,hg,hpost,hle',hext,hnew⟩:=he
 refine ⟨normV (ret x),⟨st.fr,place st.res sel (news x),st.ro⟩,by rw [normV_den],normV_good _ _,rfl,blkLe_spec (hb x),?_,h x hg⟩
 rw [←hnews x] at hpost
 obtain ⟨hs',hR'⟩:=place_ok hR sel _ selH_C (news x) hm' hpost hle' hext hnew (hok x) (hb x)
 exact ⟨hs',hi,hR'⟩
theorem wide_seq {P:Program} {E:Entry} {st:St} {x y:Code} {Q:Exit→Act→World→Prop} (h:Go P E [.c x] st (fun e st1=>e = .normal∧∀ a w,R E st1 a w→y.wpIn Fence.wide 0 P Q a w)):∀ a w,R E st a w→(Code.seq x y).wpIn Fence.wide 0 P Q a w:=fun a w hR =>
 wpIn_seq (wpIn_mono (wpIn_wide.2 (h a w hR)) fun e a w q=>by
  have no:∀ {e:Exit} (_:e ≠ .normal) {Z:St→Prop},¬ (∃ st1,(e = .normal∧Z st1)∧R E st1 a w):=fun hne _ ⟨_,⟨e,_⟩,_⟩=>hne e
  cases e with
  | normal=>obtain ⟨st1,⟨_,q⟩,hR⟩:=q;exact q a w hR
  | panic c=>exact q.elim
  | outgrown=>exact q.elim
  | ret=>exact (no (by simp) q).elim
  | exit j=>exact (no (by simp) q).elim
  | goto j=>exact (no (by simp) q).elim)
theorem wide_behind {P:Program} {E:Entry} {st:St} {id:Nat} {ops:Array Oper} {y:Code} {Q:Exit→Act→World→Prop} (ds:List Deferred) (h:Go P E [.o ops ops.toList] st (fun e st1=>e = .normal∧∀ a w,R E st1 a w→y.wpIn Fence.wide 0 P Q (sh a ds) w)) :
 ∀ a w,R E st a w→(Code.seq (.region id ops false) y).wpIn Fence.wide 0 P Q (sh a ds) w:=fun a w hR=>by
 refine wpIn_seq (wpIn_mono (wpIn_region_list (wpListIn_of Wd.wide (Q:=Shift ds (Fin _ E)) (fun ⟨_,_,_,_,q⟩=>q) _ _ _ (fun q=>absurd rfl q) (wpList_shift ds ops.toList a w (h a w hR)))) fun e a w q=>?_)
 obtain ⟨a0,rfl,q⟩:=q
 have no:∀ {e:Exit} (_:e ≠ .normal) {Z:St→Prop},¬ (∃ st1,(e = .normal∧Z st1)∧R E st1 a0 w):=fun hne _ ⟨_,⟨e,_⟩,_⟩=>hne e
 cases e with
 | normal=>obtain ⟨st1,⟨_,q⟩,hR⟩:=q;exact q a0 w hR
 | panic c=>exact q.elim
 | outgrown=>exact q.elim
 | ret=>exact (no (by simp) q).elim
 | exit j=>exact (no (by simp) q).elim
 | goto j=>exact (no (by simp) q).elim
def encC (b:UInt8):List Value:=[.int .u8 (b.toNat:Int)]
theorem encC_flat (l:List UInt8):l.flatMap encC=l.map fun b=>Value.int .u8 (b.toNat:Int):=by
 induction l with
 | nil=>rfl
 | cons b l ih=>simp [encC,ih]
theorem encC_ones (l:List UInt8):∀ c∈l.flatMap encC,c.oneCell'=true:=by
 rw [encC_flat]
 intro c hc
 obtain ⟨b,_,rfl⟩:=List.mem_map.1 hc
 rfl
theorem encC_str (s:ByteArray):Lib.strCells s=s.data.toList.flatMap encC:=by rw [encC_flat];rfl
theorem size_data (s:ByteArray):s.data.toList.length=s.size:=by rw [Array.length_toList];rfl
theorem freeze_cells {w:World} {g:Nat} {cur:Array Value} {e:TypeId} {fz:Nat × Nat} (hg:w.heap[g]? = some (.cells cur e fz)) (n:Nat):∃ fz',(w.freeze ⟨g,0,none⟩ n).heap[g]? = some (.cells cur e fz'):=by
 unfold World.freeze
 by_cases h0:n=0
 · rw [if_pos h0];exact ⟨fz,hg⟩
 rw [if_neg h0]
 simp only [Array.getElem?_modify,if_true,hg]
 exact ⟨_,rfl⟩
theorem freeze_other {w:World} {g:Nat} (n k:Nat) (hk:k≠g):(w.freeze ⟨g,0,none⟩ n).heap[k]? = w.heap[k]? := by
 unfold World.freeze
 by_cases h0:n=0
 · rw [if_pos h0]
 rw [if_neg h0]
 simp only [Array.getElem?_modify]
 rw [if_neg (fun e=>hk e.symm)]
theorem freeze_same (w:World) (g n:Nat):(w.freeze ⟨g,0,none⟩ n).os=w.os∧(w.freeze ⟨g,0,none⟩ n).tape=w.tape∧(w.freeze ⟨g,0,none⟩ n).output=w.output∧(w.freeze ⟨g,0,none⟩ n).heap.size=w.heap.size:=by
 unfold World.freeze
 by_cases h0:n=0
 · rw [if_pos h0];exact ⟨rfl,rfl,rfl,rfl⟩
 rw [if_neg h0];exact ⟨rfl,rfl,rfl,by simp⟩
section
variable {P:Program} {T:Tbs} {E:Entry} {Q:Exit→St→Prop} {ops:Array Oper} {l:List Oper} {r:List It} {st:St}
theorem tk_of (hT:TbsOk P T) {t:TypeId} {k:TK} (h:(te T.tab t).map (·.k)=some k):∃ u,P.underlying t=some u∧tkOf u=k:=by
 cases hq:te T.tab t with
 | none=>rw [hq] at h;cases h
 |
  some e =>
  rw [hq] at h
  obtain ⟨i,u,z,_,hu,_,hk,_⟩:=te_spec hT.tab hq
  simp only [Option.map_some,Option.some.injEq] at h
  exact ⟨u,hu,hk.symm.trans h⟩
theorem und_str (hT:TbsOk P T) {t:TypeId} (h:(te T.tab t).map (·.k)=some .string):P.underlying t=some .string:=by
 obtain ⟨u,hu,hk⟩:=tk_of hT h
 cases u<;>simp [tkOf] at hk
 exact hu
theorem und_slice (hT:TbsOk P T) {t e:TypeId} (h:(te T.tab t).map (·.k)=some (.slice e)):P.underlying t=some (.slice e):=by
 obtain ⟨u,hu,hk⟩:=tk_of hT h
 cases u<;>simp [tkOf] at hk
 subst hk
 exact hu
theorem und_int (hT:TbsOk P T) {t:TypeId} {k:IntKind} (h:(te T.tab t).map (·.k)=some (.int k)):P.underlying t=some (.int k):=by
 obtain ⟨u,hu,hk⟩:=tk_of hT h
 cases u<;>simp [tkOf] at hk
 subst hk
 exact hu
theorem go_bytesOf (hT:TbsOk P T) {dst:Option Tmp} {src d e:TypeId} {x:Operand} {ty:TypeId} {pos:String} {after:Array Edge} {gd:Option (Nat × Bool)} {s:ByteArray}
 (hg:guardS ops st.fr ⟨dst,.convert src d x,ty,pos,after,gd⟩ = .run) (hx:(ev st.fr x).den = .string s) (hxno:(ev st.fr x).isNo=false)
 (hs:(te T.tab src).map (·.k)=some .string) (hd:(te T.tab d).map (·.k)=some (.slice e)) (he:(te T.tab e).map (·.k)=some (.int .u8))
 (h:∀ b c,Go P E (.o ops l::r) (St.put ⟨st.fr,st.res++[.fact (Rd 1 (some ⟨b,0,none⟩) s.size (s.data.toList.flatMap encC))],st.ro⟩ dst (.va (.slice (some ⟨b,0,none⟩) s.size c))) Q) :
 Go P E (.o ops (⟨dst,.convert src d x,ty,pos,after,gd⟩::l)::r) st Q:=by
 refine Go.step fun a w hR=>⟨by have:=guard_spec hR.fr (ops:=ops) ⟨dst,.convert src d x,ty,pos,after,gd⟩;rw [hg] at this;exact this,?_⟩
 obtain ⟨hs',hi',hres⟩:=hR.res
 have hrun:=run_bytes_of_string (P:=P) w src d e s (und_str hT hs) (und_slice hT hd) (und_int hT he)
 obtain ⟨o,ho⟩:∃ o,o=Obj.cells (bytesRow s (grownCap w s.size 0 e)) e ((bytesRow s (grownCap w s.size 0 e)).size,(bytesRow s (grownCap w s.size 0 e)).size+1):=⟨_,rfl⟩
 rw [←ho] at hrun
 have hnew:=hres.allocObj o
 have hfact:∀ k:Hp,(Ob w.heap.size o).holds k→(Rd 1 (some ⟨w.heap.size,0,none⟩) s.size (s.data.toList.flatMap encC)).holds k:=fun k hk=>by
  refine ⟨by simp [encC_flat,size_data],encC_ones _,fun _=>⟨w.heap.size,0,_,_,_,rfl,by rw [ho] at hk;exact hk,?_⟩⟩
  have e1:(bytesRow s (grownCap w s.size 0 e)).toList=s.data.toList.flatMap encC++List.replicate (grownCap w s.size 0 e-s.size) (Value.int .u8 0):=by
   simp [bytesRow,encC_flat]
  rw [e1,List.drop_zero,List.take_left' (by simp [encC_flat,size_data])]
 have hext:Ext Hp.emp w (w.drew.alloc o):=⟨rfl,rfl,rfl,by simp,fun b hb _=>Below.heap_alloc w.drew o b hb⟩
 have hres2:ResOk E (st.res++[.fact (Rd 1 (some ⟨w.heap.size,0,none⟩) s.size (s.data.toList.flatMap encC))]) st.ro (w.drew.alloc o) (upd hs' st.res.length (Hp.one w.heap.size o)) hi':=by
  refine ⟨fun i=>hnew.le i,hnew.dis,fun i x hx=>?_,hnew.rle,hnew.rdis,hnew.rholds,⟨hnew.ext.os,hnew.ext.tape,hnew.ext.output,hnew.ext.size,hnew.ext.block⟩,hnew.old,fun x hx=>?_⟩
  · by_cases c:i=st.res.length
    · subst c
      rw [List.getElem?_append_right (Nat.le_refl _)] at hx
      simp at hx
      subst hx
      exact hfact _ (hnew.holds st.res.length (.fact (Ob w.heap.size o)) (by rw [List.getElem?_append_right (Nat.le_refl _)];simp))
    have hl:i<st.res.length:=by
     have:=(List.getElem?_eq_some_iff.1 hx).1
     simp at this;omega
    rw [List.getElem?_append_left hl] at hx
    exact hnew.holds i x (by rw [List.getElem?_append_left hl];exact hx)
  rcases List.mem_append.1 hx with hx | hx
  · have h1:=hnew.cells x (List.mem_append_left _ hx)
    cases x with
    |
     box b t cs =>
     refine ⟨?_,h1.2⟩
     have h0:=(hres.cells _ hx).1
     exact SV.goodL_mono (blkAt_append _ _) h0
    | fact A=>trivial
    | dead b=>trivial
  simp at hx;subst hx;trivial
 refine wp_value (v:=.slice (some ⟨w.heap.size,0,none⟩) s.size (grownCap w s.size 0 e)) (w':=w.drew.alloc o) ?_ (h w.heap.size (grownCap w s.size 0 e) _ _ ?_)
 · simp [execOp,ev_denv hR.fr rfl hxno,hx,hrun]
 have hR':R E ⟨st.fr,st.res++[.fact (Rd 1 (some ⟨w.heap.size,0,none⟩) s.size (s.data.toList.flatMap encC))],st.ro⟩ a (w.drew.alloc o):=⟨hR.fr.mono (blkAt_append _ _),_,_,hres2⟩
 exact hR'.put dst (x:=.va (.slice (some ⟨w.heap.size,0,none⟩) s.size (grownCap w s.size 0 e))) rfl trivial
theorem string_run (hT:TbsOk P T) {src d e:TypeId} {A:Option Addr} {n c:Nat} {bs:List UInt8} (hs:(te T.tab src).map (·.k)=some (.slice e)) (hd:(te T.tab d).map (·.k)=some .string) (he:(te T.tab e).map (·.k)=some (.int .u8))
 (hn:n=bs.length) {w:World} (hB:(Rd 1 A n (bs.flatMap encC)).holds (hp w)):(convert src d (.slice A n c)).run P w = .ok (.string ⟨bs.toArray⟩) w:=by
 obtain ⟨h1,h2,h3⟩:=hB
 cases A with
 |
  none =>
  have h0:n=0:=by
   rcases Nat.eq_zero_or_pos n with h | h
   · exact h
   obtain ⟨g,o,cur,e,fz,h,_⟩:=h3 h;cases h
  subst h0
  have:bs=[]:=List.eq_nil_of_length_eq_zero hn.symm
  subst this
  rw [run_convert_bytes_string w src d e none 0 c (und_slice hT hs) (und_int hT he) (und_str hT hd)]
  rfl
 |
  some a =>
  subst hn
  refine run_convert_bytes_back w src d e a c bs (und_slice hT hs) (und_int hT he) (und_str hT hd) fun j hj=>?_
  obtain ⟨g,o,cur,e2,fz,hA,hcur,htk⟩:=h3 (by omega)
  cases hA
  have hcur:w.heap[g]? = some (.cells cur e2 fz):=hcur
  rw [addr_add,cell_of_row w g _ _ e2 fz hcur]
  have h5:((cur.toList.drop o).take (bs.length*1))[j]? = (bs.flatMap encC)[j]? := by rw [htk]
  rw [encC_flat,List.getElem?_map,List.getElem?_eq_getElem hj,List.getElem?_take,if_pos (by omega),List.getElem?_drop] at h5
  simpa using h5
theorem go_stringOf (hT:TbsOk P T) {dst:Option Tmp} {src d e:TypeId} {x:Operand} {ty:TypeId} {pos:String} {after:Array Edge} {gd:Option (Nat × Bool)} {A:Option Addr} {n c:Nat} (bs:List UInt8) {B:Asn} (s:Sum Nat Nat)
 (hg:guardS ops st.fr ⟨dst,.convert src d x,ty,pos,after,gd⟩ = .run) (hx:(ev st.fr x).den = .slice A n c) (hxno:(ev st.fr x).isNo=false)
 (hs:(te T.tab src).map (·.k)=some (.slice e)) (hd:(te T.tab d).map (·.k)=some .string) (he:(te T.tab e).map (·.k)=some (.int .u8))
 (hsrc:has st s B) (hn:n=bs.length) (hB:∀ h,B.holds h→(Rd 1 A n (bs.flatMap encC)).holds h)
 (h:Go P E (.o ops l::r) (st.put dst (.va (.string ⟨bs.toArray⟩))) Q):Go P E (.o ops (⟨dst,.convert src d x,ty,pos,after,gd⟩::l)::r) st Q :=
 go_val (o:=⟨dst,.convert src d x,ty,pos,after,gd⟩) hg (.va (.string ⟨bs.toArray⟩)) trivial (fun a w hR=>by
  obtain ⟨hs',hi',hres⟩:=hR.res
  have:=string_run (P:=P) hT (c:=c) hs hd he hn (hB _ (has_holds hsrc hres))
  simp [execOp,ev_denv hR.fr rfl hxno,hx,this,SV.den]) h
theorem byte_run (hT:TbsOk P T) {dst:Option Tmp} {t:TypeId} {x i:Operand} {ty:TypeId} {pos:String} {after:Array Edge} {gd:Option (Nat × Bool)} {s:ByteArray} {k:IntKind} (j:Nat) {fr:List SV} {res:List Res} {a:Act} (hF:FrOk fr res a)
 (hx:(ev fr x).den = .string s) (hxno:(ev fr x).isNo=false) (hi:(ev fr i).den = .int k (j:Int)) (hino:(ev fr i).isNo=false) (ht:(te T.tab t).map (·.k)=some .string) (hj:j<s.size) (w:World) :
 (execOp a.eval ⟨dst,.index t x i,ty,pos,after,gd⟩).run P w = .ok (.value (.int .u8 (s[j].toNat:Int))) w:=by
 have hb:s[j]? = some s[j]:=by rw [getElem?_pos s j hj]
 simp [execOp,ev_denv hF rfl hxno,hx,ev_denv hF rfl hino,hi,Instr.index,asIntOf,run_underlying (und_str hT ht),hb]
theorem go_byte (hT:TbsOk P T) {dst:Option Tmp} {t:TypeId} {x i:Operand} {ty:TypeId} {pos:String} {after:Array Edge} {gd:Option (Nat × Bool)} {s:ByteArray} {k:IntKind} (j:Nat)
 (hg:guardS ops st.fr ⟨dst,.index t x i,ty,pos,after,gd⟩ = .run) (hx:(ev st.fr x).den = .string s) (hxno:(ev st.fr x).isNo=false) (hi:(ev st.fr i).den = .int k (j:Int)) (hino:(ev st.fr i).isNo=false) (ht:(te T.tab t).map (·.k)=some .string)
 (hj:j<s.size) (h:Go P E (.o ops l::r) (st.put dst (.va (.int .u8 (s[j].toNat:Int)))) Q):Go P E (.o ops (⟨dst,.index t x i,ty,pos,after,gd⟩::l)::r) st Q :=
 go_val (o:=⟨dst,.index t x i,ty,pos,after,gd⟩) hg (.va (.int .u8 (s[j].toNat:Int))) trivial (fun _ w hR=>byte_run hT j hR.fr hx hxno hi hino ht hj w) h
theorem append_str_at (w:World) (t u ty e:TypeId) (i:TypeInfo) (ht:P.underlying t=some (.slice e)) (hu:P.underlying u=some .string) (hi:P.info? e=some i) (hz:i.zero=some (.int .u8 0)) (hs:i.size=1) (hby:i.bytes=1)
 (v:Value) (n:Nat) (xs:List Value) (hown:w.ownsRow 0 e 1 v n xs) (s:ByteArray) (h63:n+s.size≤maxLen) (hbytes:n+s.size≤140737488355328) :
 ∃ v' w',(Builtin.append_ #[t,u] ty #[v,.string s]).run P w = .ok v' w'∧w'.ownsRow 0 e 1 v' (n+s.size) (xs++Lib.strCells s)∧w.grownBy w' v.ownBlock ∧
  (v' = .slice none 0 0→v = .slice none 0 0∧s.size=0)∧(v'.ownBlock=v.ownBlock∨∃ g,v'.ownBlock=some g∧w.heap.size≤g):=by
 obtain ⟨v',w',h1,h2,h3,h4⟩:=Lib.run_append_own_string (P:=P) w 0 t u ty e i ht hu hi hz hs hby v n xs hown s h63 hbytes (Nat.zero_le _)
 refine ⟨v',w',h1,h2,h3,h4.1,?_⟩
 have hxl:xs.length=n:=by simpa using hown.1
 rcases hown.2 with ⟨rfl,rfl⟩ | ⟨g,cap,cur,rfl,_,hg,hnc,hcm,hcs,htake⟩
 · have hx:xs=[]:=List.eq_nil_of_length_eq_zero hxl
   subst hx
   obtain ⟨v2,w2,k1,k2,_⟩:=Lib.run_append_own_string (P:=P) w w.heap.size t u ty e i ht hu hi hz hs hby (.slice none 0 0) 0 [] (World.ownsRow_nil w _ e 1) s h63 hbytes (Nat.le_refl _)
   rw [h1] at k1
   cases k1
   rcases k2.2 with ⟨rfl,_⟩ | ⟨g,cap,cur,rfl,hb,_⟩
   · exact .inl rfl
   exact .inr ⟨g,rfl,hb⟩
 by_cases hroom:n+s.size≤cap
 · have hr:=Lib.run_append_room_string (P:=P) w t u ty e i ht hu hi hs g n cap cur hg s hroom (by simp at hcs;omega)
   rw [h1] at hr
   cases hr
   exact .inl rfl
 have hsmall:n+s.size≤9223372036854775807:=by simp only [maxLen] at h63;omega
 have hr:=Lib.run_append_grow_string (P:=P) w t u ty e i (.int .u8 0) ht hu hi hz ⟨g,0,none⟩ n cap xs (by rw [hs];simpa using hxl) (hown.cells (g:=g) rfl) s (by omega) (by omega) (by rw [hby];exact growslice_fits (by omega) (by omega))
 rw [h1] at hr
 cases hr
 exact .inr ⟨_,rfl,Nat.le_refl _⟩
theorem go_appendS (hT:TbsOk P T) {dst:Option Tmp} {s x:Operand} {t u ty:TypeId} {pos:String} {after:Array Edge} {gd:Option (Nat × Bool)} {A:Option Addr} {n c et:Nat} {bs:List UInt8} {y:ByteArray} (i:Nat)
 (hg:guardS ops st.fr ⟨dst,.call { callee:=.builtin .append,args := #[s,x],argTypes := #[t,u] },ty,pos,after,gd⟩ = .run)
 (hs:(ev st.fr s).den = .slice A n c) (hsno:(ev st.fr s).isNo=false) (hx:(ev st.fr x).den = .string y) (hxno:(ev st.fr x).isNo=false)
 (ht:(te T.tab t).map (·.k)=some (.slice et)) (hu:(te T.tab u).map (·.k)=some .string) (hinfo:(P.info? et).map (fun i=>(i.zero,i.size,i.bytes))=some (some (.int .u8 0),1,1))
 (hi:st.res[i]? = some (.fact (Row et 1 A n c (bs.flatMap encC)))) (hmax:n+y.size≤1000000000)
 (h:∀ A2 c2,n+y.size≤c2→Go P E (.o ops l::r) (St.put ⟨st.fr,st.res.set i (.fact (Row et 1 A2 (n+y.size) c2 ((bs++y.data.toList).flatMap encC))),st.ro⟩ dst (.va (.slice A2 (n+y.size) c2))) Q) :
 Go P E (.o ops (⟨dst,.call { callee:=.builtin .append,args := #[s,x],argTypes := #[t,u] },ty,pos,after,gd⟩::l)::r) st Q:=by
 refine Go.step fun a w hR=>⟨by have:=guard_spec hR.fr (ops:=ops) ⟨dst,.call { callee:=.builtin .append,args := #[s,x],argTypes := #[t,u] },ty,pos,after,gd⟩;rw [hg] at this;exact this,?_⟩
 obtain ⟨hs',hi',hres⟩:=hR.res
 have hil:=(List.getElem?_eq_some_iff.1 hi).1
 have hsel:[i].map (asnAt st.res)=[Row et 1 A n c (bs.flatMap encC)].map some:=by simp [asnAt_fact hi]
 have hrow:(Row et 1 A n c (bs.flatMap encC)).holds (selH w hs' [i]):=starH_one.1 (selH_star hres.le hres.dis hres.holds hsel (by simp))
 have hown:=row_owns hrow (selH_le _ _ _)
 obtain ⟨i2,hi2,hi3⟩:=Option.map_eq_some_iff.1 hinfo
 simp only [Prod.mk.injEq] at hi3
 have hml:n+y.size≤maxLen:=by unfold maxLen;omega
 obtain ⟨v',w',hrun,hown',hgrown,hnil,hwhere⟩:=append_str_at (P:=P) (ty:=ty) w t u et i2 (und_slice hT ht) (und_str hT hu) hi2 hi3.1 hi3.2.1 hi3.2.2 (.slice A n c) n _ hown y hml (by omega)
 rw [encC_str,←List.flatMap_append] at hown'
 obtain ⟨A2,c2,rfl,hrow'⟩:=owns_row hown' (encC_ones _)
 obtain ⟨k,hk1,hk2,hk3⟩:=own_le (w':=w') (.slice A2 (n+y.size) c2)
 have hext:Ext (selH w hs' [i]) w w':=⟨hgrown.os,hgrown.tape,hgrown.output,hgrown.size,fun b hb hn=>hgrown.block b hb (fun e=>by
  rcases hrow.2.2 with ⟨rfl,_⟩ | ⟨g,cur,rfl,hgc,_⟩
  · simp [Value.ownBlock] at e
  simp [Value.ownBlock] at e;subst e;rw [hgc] at hn;cases hn)⟩
 have hnew:∀ b,k b≠none→selH w hs' [i] b≠none∨w.heap.size≤b:=fun b hb=>by
  have h1:=hk3 b hb
  rcases hwhere with hw1 | ⟨g,hw1,hw2⟩
  · rw [hw1] at h1
    left
    rcases hrow.2.2 with ⟨rfl,_⟩ | ⟨g,cur,rfl,hgc,_⟩
    · cases h1
    simp only [Value.ownBlock,Option.some.injEq] at h1
    subst h1
    rw [hgc];simp
  rw [hw1] at h1
  cases h1
  exact .inr hw2
 have hrowN:=hrow' k hk2
 have hplace:=place_ok hres [i] (selH w hs' [i]) selH_C [.fact (Row et 1 A2 (n+y.size) c2 ((bs++y.data.toList).flatMap encC))] k (starH_one.2 hrowN) hk1 hext hnew (newsOk_fact (newsOk_nil _)) (by rw [place_one hil];exact blkLe_set _ hi)
 rw [place_one hil] at hplace
 obtain ⟨hs2',hres'⟩:=hplace
 refine wp_value (v:=.slice A2 (n+y.size) c2) (w':=w') ?_ (h A2 c2 ?_ _ _ ?_)
 · simp [execOp,resolve,invoke,builtin,ev_denv hR.fr rfl hsno,ev_denv hR.fr rfl hxno,hs,hx,hrun]
 · rcases hrowN.2.2 with ⟨_,h1,h2⟩ | ⟨g,cur,_,_,h1,_⟩
   · omega
   exact h1
 have hR':R E ⟨st.fr,st.res.set i (.fact (Row et 1 A2 (n+y.size) c2 ((bs++y.data.toList).flatMap encC))),st.ro⟩ a w':=⟨hR.fr.mono (blkLe_spec (blkLe_set _ hi)),hs2',hi',hres'⟩
 exact hR'.put dst (x:=.va (.slice A2 (n+y.size) c2)) rfl trivial
/-! a pointer that is no type's -/
theorem box_shape {st:St} {a:Act} {w:World} (hR:R E st a w) {rr b:Nat} {t:TypeId} {cs:List SV} (hb:st.res[rr]? = some (.box b t cs)):w.shape? b=some (t,cs.length):=by
 obtain ⟨hs',hi',hres⟩:=hR.res
 have:=hres.boxW rr b t cs hb
 unfold World.shape?
 rw [this]
 simp [SV.denL_eq]
theorem go_toUnsafe {dst:Option Tmp} {src d t e:TypeId} {x:Operand} {ty:TypeId} {pos:String} {after:Array Edge} {gd:Option (Nat × Bool)} {rr b off:Nat} {cs:List SV}
 (hg:guardS ops st.fr ⟨dst,.convert src d x,ty,pos,after,gd⟩ = .run) (hx:ev st.fr x = .pt rr b off) (hs:P.underlying src=some (.pointer t)) (hd:P.underlying d=some .unsafePointer)
 (hsz:(P.info? t).map (fun i=>decide (i.size=0))=some false) (hb:st.res[rr]? = some (.box b e cs)) (hoff:off<cs.length)
 (h:Go P E (.o ops l::r) (st.put dst (.pt rr b off)) Q):Go P E (.o ops (⟨dst,.convert src d x,ty,pos,after,gd⟩::l)::r) st Q :=
 go_val (o:=⟨dst,.convert src d x,ty,pos,after,gd⟩) hg (.pt rr b off) (by simp [SV.good,blkAt,hb,Res.blk]) (fun a w hR=>by
  obtain ⟨i,hi,hz⟩:=Option.map_eq_some_iff.1 hsz
  have:=Lib.run_to_unsafe (P:=P) (w:=w) ⟨b,off,none⟩ hs hd hi (by simpa using hz) (box_shape hR hb) hoff
  simp [execOp,ev_denv hR.fr rfl (show (ev st.fr x).isNo=false by rw [hx];rfl),hx,this,SV.den]) h
theorem go_fromUnsafe {dst:Option Tmp} {src d u e:TypeId} {x:Operand} {ty:TypeId} {pos:String} {after:Array Edge} {gd:Option (Nat × Bool)} {rr b off:Nat} {cs:List SV}
 (hg:guardS ops st.fr ⟨dst,.convert src d x,ty,pos,after,gd⟩ = .run) (hx:ev st.fr x = .pt rr b off) (hs:P.underlying src=some .unsafePointer) (hd:P.underlying d=some (.pointer u))
 (hu:(P.info? u).isSome=true) (hb:st.res[rr]? = some (.box b e cs)) (hlies:liesAt P P.depth e (cs.length / P.cellsOf e) off u 1=true)
 (h:Go P E (.o ops l::r) (st.put dst (.pt rr b off)) Q):Go P E (.o ops (⟨dst,.convert src d x,ty,pos,after,gd⟩::l)::r) st Q :=
 go_val (o:=⟨dst,.convert src d x,ty,pos,after,gd⟩) hg (.pt rr b off) (by simp [SV.good,blkAt,hb,Res.blk]) (fun a w hR=>by
  obtain ⟨j,hj⟩:=Option.isSome_iff_exists.1 hu
  have:=Lib.run_from_unsafe (P:=P) (w:=w) ⟨b,off,none⟩ hs hd hj (box_shape hR hb) hlies
  simp [execOp,ev_denv hR.fr rfl (show (ev st.fr x).isNo=false by rw [hx];rfl),hx,this,SV.den]) h
end
end Go.Sy
namespace Go.Proofs
open Go.Shelf
def Tryz.laysM171_ren:Go.Shelf.Ren:=⟨fun | 171=>54 | 243=>103 | 246=>137 | 283=>149 | 284=>150 | 285=>151 | 286=>152 | 129=>160 | 317=>159 | 318=>161 | 319=>162 | 320=>163 | 337=>166 | 338=>167 | n=>n,fun | 3=>3 | 9=>9 | 2=>2 | 4=>4 | 171=>166 | 0=>0 | 53=>160 | 37=>60 | 5=>5 | 173=>169 | 212=>176 | 51=>161 | 20=>20 | 213=>177 | 46=>159 | 232=>183 | 233=>184 | n=>n,fun | 17=>0 | 18=>1 | 19=>2 | n=>n⟩
theorem Tryz.laysM171:Go.Proofs.LaysM.n171 Tryz.prog Tryz.laysM171_ren:={
 mixed:=by kernel_rfl
 f129:=Tryz.func160.trans (congrArg some (by kernel_rfl))
 f171:=Tryz.func54.trans (congrArg some (by kernel_rfl))
 f243:=Tryz.func103.trans (congrArg some (by kernel_rfl))
 f246:=Tryz.func137.trans (congrArg some (by kernel_rfl))
 f283:=Tryz.func149.trans (congrArg some (by kernel_rfl))
 f284:=Tryz.func150.trans (congrArg some (by kernel_rfl))
 f285:=Tryz.func151.trans (congrArg some (by kernel_rfl))
 f286:=Tryz.func152.trans (congrArg some (by kernel_rfl))
 f317:=Tryz.func159.trans (congrArg some (by kernel_rfl))
 f318:=Tryz.func161.trans (congrArg some (by kernel_rfl))
 f319:=Tryz.func162.trans (congrArg some (by kernel_rfl))
 f320:=Tryz.func163.trans (congrArg some (by kernel_rfl))
 f337:=Tryz.func166.trans (congrArg some (by kernel_rfl))
 f338:=Tryz.func167.trans (congrArg some (by kernel_rfl))
 t0:=Tryz.underlying0
 a0:=Tryz.isAgg0
 z0:=Tryz.sizeOf0
 v0:=Tryz.zeroValue0
 t2:=Tryz.underlying2
 a2:=Tryz.isAgg2
 z2:=Tryz.sizeOf2
 v2:=Tryz.zeroValue2
 t3:=Tryz.underlying3
 a3:=Tryz.isAgg3
 z3:=Tryz.sizeOf3
 v3:=Tryz.zeroValue3
 t4:=Tryz.underlying4
 a4:=Tryz.isAgg4
 z4:=Tryz.sizeOf4
 v4:=Tryz.zeroValue4
 t5:=Tryz.underlying5
 a5:=Tryz.isAgg5
 z5:=Tryz.sizeOf5
 v5:=Tryz.zeroValue5
 t9:=Tryz.underlying9
 a9:=Tryz.isAgg9
 z9:=Tryz.sizeOf9
 v9:=Tryz.zeroValue9
 t20:=Tryz.underlying20
 a20:=Tryz.isAgg20
 z20:=Tryz.sizeOf20
 v20:=Tryz.zeroValue20
 t37:=Tryz.underlying60
 a37:=Tryz.isAgg60
 z37:=Tryz.sizeOf60
 v37:=Tryz.zeroValue60
 t46:=Tryz.underlying159
 a46:=Tryz.isAgg159
 z46:=Tryz.sizeOf159
 v46:=Tryz.zeroValue159
 t51:=Tryz.underlying161
 a51:=Tryz.isAgg161
 z51:=Tryz.sizeOf161
 v51:=Tryz.zeroValue161
 t53:=Tryz.underlying160
 a53:=Tryz.isAgg160
 z53:=Tryz.sizeOf160
 v53:=Tryz.zeroValue160
 t171:=Tryz.underlying166
 a171:=Tryz.isAgg166
 z171:=Tryz.sizeOf166
 v171:=Tryz.zeroValue166
 t173:=Tryz.underlying169
 a173:=Tryz.isAgg169
 z173:=Tryz.sizeOf169
 v173:=Tryz.zeroValue169
 t212:=Tryz.underlying176
 a212:=Tryz.isAgg176
 z212:=Tryz.sizeOf176
 v212:=Tryz.zeroValue176
 t213:=Tryz.underlying177
 a213:=Tryz.isAgg177
 z213:=Tryz.sizeOf177
 t232:=Tryz.underlying183
 a232:=Tryz.isAgg183
 z232:=Tryz.sizeOf183
 v232:=Tryz.zeroValue183
 t233:=Tryz.underlying184
 a233:=Tryz.isAgg184
 z233:=Tryz.sizeOf184
 v233:=Tryz.zeroValue184
 g17:=by kernel_rfl
 g18:=by kernel_rfl
 g19:=by kernel_rfl
 i0:=by kernel_rfl
 i2:=by kernel_rfl
 i3:=by kernel_rfl
 i4:=by kernel_rfl
 i5:=by kernel_rfl
 i9:=by kernel_rfl
 i20:=by kernel_rfl
 i37:=by kernel_rfl
 i46:=by kernel_rfl
 i51:=by kernel_rfl
 i53:=by kernel_rfl
 i171:=by kernel_rfl
 i173:=by kernel_rfl
 i212:=by kernel_rfl
 i232:=by kernel_rfl
 i233:=by kernel_rfl
 m17:=by kernel_rfl
 m18:=by kernel_rfl
 m19:=by kernel_rfl }
end Go.Proofs
namespace Go.Sy
def decL (n:Nat):List UInt8:=if n<10 then [UInt8.ofNat (48+n)] else decL (n / 10)++[UInt8.ofNat (48+n % 10)]
termination_by n
theorem decL_small {n:Nat} (h:n<10):decL n=[UInt8.ofNat (48+n)]:=by rw [decL,if_pos h]
theorem decL_great {n:Nat} (h:10≤n):decL n=decL (n / 10)++[UInt8.ofNat (48+n % 10)]:=by rw [decL,if_neg (by omega)]
def digL:Nat→List UInt8→Option Nat
 | acc,[]=>some acc
 | acc,c::r=>if c.toNat<48∨57<c.toNat then none else digL (10*acc+(c.toNat-48)) r
def numM (c:UInt8):List UInt8→Nat
 | []=>0
 | x::r=>if x=c∧r≠[]∧r.length≤9∧r.head? ≠ some 48 then (digL 0 r).getD 0 else 0
theorem digL_append:∀ (l r:List UInt8) (acc:Nat),digL acc (l++r)=(digL acc l).bind fun a=>digL a r
 | [],r,acc=>rfl
 |
  c::l,r,acc=>by
  simp only [List.cons_append,digL]
  split
  · rfl
  exact digL_append l r _
theorem digL_dec:∀ n:Nat,digL 0 (decL n)=some n:=by
 intro n
 induction n using Nat.strongRecOn with
 |
  _ n ih =>
  rcases Nat.lt_or_ge n 10 with h | h
  · rw [decL_small h,digL,toNat_of (by omega),if_neg (by omega),digL]
    congr 1
    omega
  rw [decL_great h,digL_append,ih (n / 10) (Nat.div_lt_self (by omega) (by decide)),Option.bind_some,digL,toNat_of (by omega),if_neg (by omega),digL]
  congr 1
  omega
theorem decL_ne (n:Nat):decL n≠[]:=by
 rcases Nat.lt_or_ge n 10 with h | h
 · rw [decL_small h];simp
 rw [decL_great h];simp
theorem decL_head:∀ n:Nat,0<n→(decL n).head? ≠ some 48:=by
 intro n
 induction n using Nat.strongRecOn with
 |
  _ n ih =>
  intro h0
  rcases Nat.lt_or_ge n 10 with h | h
  · rw [decL_small h]
    intro e
    simp only [List.head?_cons,Option.some.injEq] at e
    have:=congrArg UInt8.toNat e
    rw [toNat_of (by omega)] at this
    have h48:(48:UInt8).toNat=48:=rfl
    omega
  rw [decL_great h,List.head?_append,Option.or_of_isSome (by cases hd:decL (n / 10) with | nil=>exact absurd hd (decL_ne _) | cons a l=>rfl)]
  exact ih (n / 10) (Nat.div_lt_self (by omega) (by decide)) (Nat.div_pos h (by decide))
theorem decL_len:∀ (k n:Nat),n<10 ^ (k+1)→(decL n).length≤k+1
 |
  0,n,h=>by
  rw [decL_small (by simpa using h)]
  exact Nat.le_refl _
 |
  k+1,n,h=>by
  rcases Nat.lt_or_ge n 10 with h1 | h1
  · rw [decL_small h1]
    simp
  rw [decL_great h1,List.length_append,List.length_singleton]
  have:=decL_len k (n / 10) (Nat.div_lt_of_lt_mul (by rw [←Nat.pow_succ'];exact h))
  omega
theorem num_name {c:UInt8} {n:Nat} (h0:0<n) (h:n≤999999999):numM c (c::decL n)=n:=by
 have hl:=decL_len 8 n (by have:(10:Nat) ^ (8+1)=1000000000:=rfl;omega)
 rw [numM,if_pos ⟨rfl,decL_ne n,hl,decL_head n h0⟩,digL_dec]
 rfl
theorem dec_dig:∀ (l:List UInt8) (acc n:Nat),digL acc l=some n→0<acc→decL n=decL acc++l
 |
  [],acc,n,h,_=>by
  cases h
  rw [List.append_nil]
 |
  c::l,acc,n,h,h0=>by
  rw [digL] at h
  split at h
  · cases h
  rename_i hc
  rw [dec_dig l _ n h (by omega),decL_great (by omega)]
  have h1:(10*acc+(c.toNat-48)) / 10=acc:=by omega
  have h2:(10*acc+(c.toNat-48)) % 10=c.toNat-48:=by omega
  rw [h1,h2,show 48+(c.toNat-48)=c.toNat by omega,UInt8.ofNat_toNat,List.append_assoc]
  rfl
theorem digL_lt:∀ (l:List UInt8) (acc n k:Nat),digL acc l=some n→acc<10 ^ k→n<10 ^ (k+l.length)
 | [],acc,n,k,h,h0=>by cases h;exact h0
 |
  c::l,acc,n,k,h,h0=>by
  rw [digL] at h
  split at h
  · cases h
  rename_i hc
  have:=digL_lt l _ n (k+1) h (by rw [Nat.pow_succ];omega)
  rw [List.length_cons,show k+(l.length+1)=k+1+l.length by omega]
  exact this
theorem name_num {c:UInt8} {x:List UInt8} {n:Nat} (h:numM c x=n) (h0:0<n):x=c::decL n∧n≤999999999:=by
 cases x with
 | nil=>rw [numM] at h;omega
 |
  cons y r =>
  rw [numM] at h
  split at h
  · rename_i hc
    obtain ⟨rfl,hr,hl,hh⟩:=hc
    cases hd:digL 0 r with
    | none=>rw [hd] at h;simp at h;omega
    |
     some m =>
     rw [hd] at h
     obtain rfl:m=n:=h
     have hlt:=digL_lt r 0 m 0 hd (by decide)
     have h9:(10:Nat) ^ (0+r.length)≤10 ^ 9:=Nat.pow_le_pow_right (by decide) (by omega)
     have h99:(10:Nat) ^ 9=1000000000:=rfl
     refine ⟨?_,by omega⟩
     cases r with
     | nil=>exact absurd rfl hr
     |
      cons z r =>
      rw [digL] at hd
      split at hd
      · cases hd
      rename_i hz
      have hz0:z.toNat≠48:=fun e=>hh (by
       rw [List.head?_cons]
       congr 1
       exact UInt8.toNat_inj.1 e)
      rw [dec_dig r _ m hd (by omega),decL_small (by omega),show 48+(10*0+(z.toNat-48))=z.toNat by omega,UInt8.ofNat_toNat]
      rfl
  omega
theorem decL_inj {m n:Nat} (h:decL m=decL n):m=n:=by
 have h1:=digL_dec m
 rw [h,digL_dec] at h1
 exact (Option.some.inj h1).symm
end Go.Sy
namespace Go.Proofs.YtjlfdfmkofbccaaGreatDoor
open Go.Sy Go.RowKit
def tabName:String:=Rows.walTornRow.named.getD 0 ""
def TabA:Asn:=⟨fun h=>∀ w,h.le (hp w)→Lib.TabIs Tryz.prog w tabName .u64 Lib.pow10Tab,fun e x w hw=>x w (e.trans hw)⟩
theorem dec_eq:∀ n:Nat,Lib.decDigits n=decL n:=by
 intro n
 induction n using Nat.strongRecOn with
 |
  _ n ih =>
  rw [Lib.decDigits,decL]
  by_cases h:n<10
  · rw [dif_pos h,if_pos h]
  rw [dif_neg h,if_neg h,ih (n / 10) (by omega)]
def decB (n:Nat):ByteArray:=⟨(decL n).toArray⟩
theorem itoaT (n:Nat) (h:n≤9223372036854775807):Triple Tryz.prog 54 [.int .i64 (n:Int)] [] [TabA] Unit (fun _=>.string (decB n)) (fun _=>True) (fun _=>[]):=by
 intro w hm hn h1 h2 h3 h4 h5
 have hT:Lib.TabIs Tryz.prog w tabName .u64 Lib.pow10Tab:=h5 TabA List.mem_cons_self w h2
 refine (Any.strconv_Itoa Tryz.laysM171 (n:Int) (by omega) (by omega) w hT).mono fun e w' he=>?_
 obtain ⟨rfl,k,os,rfl⟩:=he
 have hb:=Lib.below_grow w.heap.size w (Nat.le_refl _) k os
 refine ⟨(),Hp.emp,?_,trivial,trivial,Hp.emp_le _,⟨hb.os,hb.tape,hb.output,hb.size,fun b hl _=>hb.block b hl⟩,fun b q=>absurd rfl q⟩
 have e:Lib.itoa (n:Int)=decL n:=by
  unfold Lib.itoa
  rw [if_neg (by omega),Int.toNat_natCast,dec_eq]
 rw [e]
 rfl
open Go.Sy
theorem ext_list (x:ByteArray) (a b:Nat):(x.extract a b).data.toList=(x.data.toList.take b).drop a:=by
 rw [ByteArray.data_extract,Array.toList_extract]
 simp [List.extract_eq_take_drop,List.drop_take]
theorem ba_ext {a b:ByteArray} (h:a.data.toList=b.data.toList):a=b:=by
 cases a;cases b
 congr
 exact Array.ext' h
theorem ba_iff {a b:ByteArray}:a=b↔a.data.toList=b.data.toList:=⟨fun h=>by rw [h],ba_ext⟩
theorem digL_pre:∀ (r:List UInt8) (j:Nat) (acc:Nat),digL acc (r.take j)=none→digL acc r=none:=by
 intro r j acc h
 have:=digL_append (r.take j) (r.drop j) acc
 rw [List.take_append_drop,h] at this
 exact this
theorem numberT (x y:ByteArray) (ch:UInt8) (hy:y.data.toList=[ch]):Triple Tryz.prog 86 [.string x,.string y] [] [] Unit (fun _=>.int .i64 (numM ch x.data.toList:Nat)) (fun _=>True) (fun _=>[]):=by
 have hy1:y.size=1:=by rw [←size_data,hy];rfl
 have hx:=size_data x
 have hE:(x.extract y.size x.size).data.toList=x.data.toList.drop 1:=by
  rw [ext_list,hy1,←hx,List.take_length]
 have hEs:(x.extract y.size x.size).size=x.data.toList.length-1:=by
  rw [←size_data,hE,List.length_drop]
 have hP:x.extract 0 y.size=y↔x.data.toList.take 1=[ch]:=by
  rw [ba_iff,ext_list,hy,hy1,List.drop_zero]
 obtain ⟨l,hl⟩:∃ l,l=x.data.toList:=⟨_,rfl⟩
 rw [←hl] at hx hE hEs hP ⊢
 have hno:¬ l.take 1=[ch]→numM ch l=0:=fun h=>by
  cases l with
  | nil=>rfl
  |
   cons c r =>
   rw [numM,if_neg (fun q=>h (by rw [q.1];rfl))]
 have hyes:l.take 1=[ch]→numM ch l=if l.drop 1≠[]∧(l.drop 1).length≤9∧(l.drop 1).head? ≠ some 48 then (digL 0 (l.drop 1)).getD 0 else 0:=fun h=>by
  cases l with
  | nil=>cases h
  |
   cons c r =>
   simp only [List.take_succ_cons,List.take_zero,List.cons.injEq,and_true] at h
   rw [numM]
   simp [h]
 refine aT Tryz.func86 [.va (.string x),.va (.string y)] [] (fun E=>?_) ⟨trivial,trivial,trivial⟩
 refine aG ?_
 refine ev_inline Tryz.tbs_ok Tryz.func126 rfl rfl ?_
 refine aG ?_
 refine ev_inline Tryz.tbs_ok Tryz.func146 rfl rfl ?_
 refine aG ?_
 refine ev_inline Tryz.tbs_ok Tryz.func157 rfl rfl ?_
 refine aG ?_
 refine ev_if_lt (fun h0=>?_) (fun h0=>?_)
 refine aG ?_
 refine ev_stop (go_sliceS Tryz.tbs_ok (0) (y.size) rfl rfl rfl rfl rfl ⟨_,rfl⟩ (by omega) (by omega) ?_)
 refine aG ?_
 refine ev_fin ⟨trivial,aL,_,rfl,?_⟩
 refine aG ?_
 refine ev_if_nd (fun h1=>?_) (fun h1=>?_)
 refine aG ?_
 refine ev_fin ⟨trivial,aL,_,rfl,?_⟩
 refine aG ?_
 refine ev_fin ⟨trivial,aL,_,rfl,?_⟩
 refine aG ?_
 refine ev_fin ⟨trivial,_,rfl,(()),?_,(by trivial),Frm.nil _⟩
 rotate_left
 refine aG ?_
 refine ev_stop (go_sliceS Tryz.tbs_ok (y.size) (x.size) rfl rfl rfl rfl ⟨_,rfl⟩ rfl (by omega) (by omega) ?_)
 refine aG ?_
 refine ev_fin ⟨trivial,aL,_,rfl,?_⟩
 refine aG ?_
 refine ev_fin ⟨trivial,aL,_,rfl,?_⟩
 refine aG ?_
 refine ev_if_lt (fun h2=>?_) (fun h2=>?_)
 refine aG ?_
 refine ev_fin ⟨trivial,_,rfl,(()),?_,(by trivial),Frm.nil _⟩
 rotate_left
 refine aG ?_
 refine ev_if_lt (fun h3=>?_) (fun h3=>?_)
 refine aG ?_
 refine ev_fin ⟨trivial,_,rfl,(()),?_,(by trivial),Frm.nil _⟩
 rotate_left
 refine aG ?_
 refine ev_stop (go_bytesOf Tryz.tbs_ok rfl rfl rfl rfl rfl rfl (fun b4 c5=>?_))
 refine aG ?_
 rotate_left
 refine aG ?_
 refine ev_fin ⟨trivial,aL,_,rfl,?_⟩
 refine aG ?_
 refine ev_fin ⟨trivial,aL,_,rfl,?_⟩
 refine aG ?_
 refine ev_fin ⟨trivial,aL,_,rfl,?_⟩
 refine aG ?_
 refine ev_fin ⟨trivial,_,rfl,(()),?_,(by trivial),Frm.nil _⟩
 rotate_left
 · rw [hno (fun q=>h1 (hP.2 q))]
   rfl
 · rw [hyes (hP.1 h1),if_neg]
   · rfl
   rintro ⟨q,_⟩
   refine q (List.eq_nil_of_length_eq_zero ?_)
   have:=congrArg ByteArray.size h2
   rw [hEs] at this
   rw [List.length_drop]
   exact this
 · rw [hyes (hP.1 h1),if_neg]
   · rfl
   rintro ⟨_,q,_⟩
   rw [List.length_drop] at q
   omega
 · have hr0:l.drop 1≠[]:=fun q=>by
    have:=congrArg List.length q
    rw [List.length_drop] at this
    refine h2 (ba_ext (List.eq_nil_of_length_eq_zero ?_))
    rw [size_data,hEs]
    exact this
   have hr9:(l.drop 1).length≤9:=by
    rw [List.length_drop];omega
   have hl1:=hP.1 h1
   obtain ⟨R,hR⟩:∃ R,R=l.drop 1:=⟨_,rfl⟩
   rw [hyes hl1]
   rw [←hR] at hr0 hr9 hE ⊢
   obtain ⟨X,hX⟩:∃ X,X=x.extract y.size x.size:=⟨_,rfl⟩
   rw [←hX] at hE hEs h2 h3 ⊢
   have hXR:X.size=R.length:=by rw [←size_data,hE]
   have hX0:0<X.size:=by rw [hXR];exact List.length_pos_iff.2 hr0
   rw [hE]
   refine ev_stop (go_loopR [4,7,9,10,13,30,31,32,33,34,35,36,37,38,39,40,41,42,43,44,45,46] (fun (j,n)=>[(7,vI (n:Nat)),(30,vI (j:Nat))]) (fun _=>[]) (fun (j,n)=>j≤R.length∧digL 0 (R.take j)=some n) (fun (j,_)=>R.length-j) ((0,0):Nat × Nat) ⟨Nat.zero_le _,rfl⟩ aS (fun x_ h_=>?_))
   obtain ⟨j,n⟩:=x_
   obtain ⟨hj,hn⟩:=h_
   have hn9:n<1000000000:=by
    have:=digL_lt (R.take j) 0 n 0 hn (by decide)
    rw [List.length_take] at this
    have h9:min j R.length≤9:=Nat.le_trans (Nat.min_le_right _ _) hr9
    exact Nat.lt_of_lt_of_le this (Nat.le_trans (Nat.pow_le_pow_right (by decide) (by omega)) (by decide:10 ^ 9≤1000000000))
   have hstep:∀ hjl:j<R.length,digL 0 (R.take (j+1))=if R[j].toNat<48∨57<R[j].toNat then none else some (10*n+(R[j].toNat-48)):=fun hjl=>by
    rw [←List.take_append_getElem hjl,digL_append,hn]
    simp only [Option.bind_some,digL]
   rcases Nat.lt_or_ge j R.length with hjl | hjl
   · have hb:R[j].toNat<256:=UInt8.toNat_lt _
     have hs:=hstep hjl
     refine aG ?_
     refine aJ ?_ (decide_eq_true (show (↑j:Int)<(↑X.size:Int) from (by omega)))
     refine ev_stop (go_atE (sz:=1) Tryz.tbs_ok (j) rfl rfl rfl rfl rfl rfl (by omega) ?_)
     refine aG ?_
     have l20:j<(R).length:=(by omega)
     refine ev_stop (go_loadE Tryz.tbs_ok (.inr 0) (j) 0 rfl rfl rfl rfl (fun _ h=>h) (by omega) (fun _=>rfl) (by omega) l20 (by decide) ?_)
     refine aG ?_
     refine ev_if_lt (fun h21=>?_) (fun h21=>?_)
     refine aG ?_
     refine ev_fin ⟨trivial,_,rfl,(()),?_,(by trivial),Frm.nil _⟩
     rotate_left
     refine aG ?_
     refine ev_if_lt (fun h22=>?_) (fun h22=>?_)
     refine aG ?_
     refine ev_fin ⟨trivial,_,rfl,(()),?_,(by trivial),Frm.nil _⟩
     rotate_left
     refine aG ?_
     refine wN (10*n) ?_
     refine ev_wu8 (show 0≤(↑R[j].toNat:Int)-48∧(↑R[j].toNat:Int)-48<256 from (by constructor<;>omega)) ?_
     refine wO (R[j].toNat-48) ?_
     refine wN (10*n+(R[j].toNat-48)) ?_
     refine wN (j+1) ?_
     refine ev_fin (round_next ((j+1,10*n+(R[j].toNat-48))) (?_:j+1≤R.length∧digL 0 (List.take (j+1) R)=some (10*n+(R[j].toNat-48))) (show R.length-(j+1)<R.length-j from (by omega)) aS)
     rotate_left
     · rw [digL_pre R (j+1) 0 (by rw [hs,if_pos (.inl (by omega))])]
       simp [retV,SV.den]
     · rw [digL_pre R (j+1) 0 (by rw [hs,if_pos (.inr (by omega))])]
       simp [retV,SV.den]
     exact ⟨hjl,by rw [hs,if_neg (by omega)]⟩
   have hhead:R.head? = some (X[0]'hX0):=by
    rw [←hE,List.head?_eq_getElem?,List.getElem?_eq_getElem (by rw [size_data];exact hX0)]
    rfl
   have hnR:digL 0 R=some n:=by rw [←hn,List.take_of_length_le hjl]
   rw [hnR,hhead]
   refine aG ?_
   refine aI ?_ (decide_eq_false (show ¬(↑j:Int)<(↑X.size:Int) from (by omega)))
   refine ev_fin (go Tryz.tbs_ok 1000 ?_)
   refine ev_stop (go_byte Tryz.tbs_ok (0) rfl rfl rfl rfl rfl rfl (by omega) ?_)
   refine aG ?_
   refine ev_if_eq (fun h20=>?_) (fun h20=>?_)
   refine aG ?_
   refine ev_fin ⟨trivial,_,rfl,(()),?_,(by trivial),Frm.nil _⟩
   rotate_left
   refine aG ?_
   refine ev_fin ⟨trivial,_,rfl,(()),?_,(by trivial),Frm.nil _⟩
   rotate_left
   · rw [if_neg (fun q=>q.2.2 (congrArg some (UInt8.toNat_inj.1 (show _=48 by omega))))]
     rfl
   rw [if_pos ⟨hr0,hr9,fun q=>by
    have q:=Option.some.inj q
    rw [q] at h20
    exact h20 rfl⟩]
   rfl
 rw [hno (fun q=>?_)]
 · rfl
 have:=congrArg List.length q
 rw [List.length_take] at this
 simp at this
 omega
def nmB (c:UInt8) (n:Nat):ByteArray:=⟨#[c]⟩++decB n
theorem nmB_list (c:UInt8) (n:Nat):(nmB c n).data.toList=c::decL n:=by
 unfold nmB decB
 rw [ByteArray.data_append]
 simp
theorem nmB_size (c:UInt8) (n:Nat) (h:n≤9999999999):(nmB c n).size≤11:=by
 rw [←size_data,nmB_list]
 have:=decL_len 9 n (by omega)
 simp only [List.length_cons]
 omega
def memB (L:List ByteArray) (x:ByteArray):Bool:=L.any fun y=>decide (y=x)
theorem memB_iff {L:List ByteArray} {x:ByteArray}:memB L x=true↔x∈L:=by
 simp [memB]
def segsM (b t:Nat):List ByteArray:=(if 0<b then [nmB 99 b] else [])++(List.range t).map fun i=>nmB 115 (b+1+i)
theorem lastT (b t:Nat) (h:b+t≤9223372036854775807):Triple Tryz.prog 53 [.agg #[.int .i64 (b:Nat),.int .i64 (t:Nat)]] [] [] Unit (fun _=>.int .i64 ((b+t:Nat):Int)) (fun _=>True) (fun _=>[]):=by
 refine aT Tryz.func53 [.ag [vI (b:Nat),vI (t:Nat)]] [] (fun E=>?_) ⟨⟨trivial,trivial,trivial⟩,trivial⟩
 refine aG ?_
 refine ev_new fun b0=>?_
 refine wN (b+t) ?_
 refine ev_fin ⟨trivial,_,rfl,(()),rfl,(by trivial),Frm.nil _⟩
theorem indexT (A:Option Addr) (L:List ByteArray) (n c:Nat) (x:ByteArray) (hn:n=L.length) (h1:n≤1000000000):Triple Tryz.prog 127 [.slice A n c,.string x] [] [Rd 1 A n (L.flatMap encS)] Int (fun z=>.int .i64 z) (fun z=>0≤z↔x∈L) (fun _=>[]):=by
 refine aT Tryz.func127 [vL A n c,.va (.string x)] [] (fun E=>?_) ⟨trivial,trivial,trivial⟩
 refine aG ?_
 refine ev_stop (go_loopR [4,5,8,9,10,11,12,13,14,15,16,17,18] (fun j=>[(8,vI (j:Nat))]) (fun _=>[]) (fun j=>j≤n∧x ∉ L.take j) (fun j=>n-j) (0:Nat) ⟨Nat.zero_le _,by simp⟩ aS (fun j h_=>?_))
 obtain ⟨hj,hx⟩:=h_
 refine aG ?_
 refine ev_if_lt (fun h20=>?_) (fun h20=>?_)
 refine aG ?_
 refine ev_stop (go_indexE (sz:=1) Tryz.tbs_ok (.inl 0) (j) rfl rfl rfl rfl rfl rfl (by omega) rfl (fun _ h=>h) (fun g21 o23 e22=>?_))
 subst e22
 refine aG ?_
 have l24:j<(L).length:=(by omega)
 refine ev_stop (go_loadE Tryz.tbs_ok (.inl 0) (j) 0 rfl rfl rfl rfl (fun _ h=>h) (by omega) (fun _=>rfl) (by omega) l24 (by decide) ?_)
 refine aG ?_
 refine ev_if_lt (fun h25=>?_) (fun h25=>?_)
 refine aG ?_
 refine ev_fin ⟨trivial,_,rfl,((↑j:Int)),rfl,(by simp [*]),Frm.nil _⟩
 refine aG ?_
 refine wN (j+1) ?_
 refine ev_fin (round_next (j+1) (?_:j+1≤n∧¬x∈List.take (j+1) L) (show n-(j+1)<n-j from (by omega)) aS)
 rotate_left
 refine aG ?_
 refine ev_fin (go Tryz.tbs_ok 1000 ?_)
 refine ev_fin ⟨trivial,_,rfl,(-1),rfl,?_,Frm.nil _⟩
 rotate_left
 · refine ⟨by omega,fun q=>?_⟩
   rw [←List.take_append_getElem l24] at q
   rcases List.mem_append.1 q with q | q
   · exact hx q
   exact h25 (List.mem_singleton.1 q)
 refine ⟨fun q=>absurd q (by decide),fun q=>?_⟩
 rw [List.take_of_length_le (by omega)] at hx
 exact absurd q hx
theorem containsT (A:Option Addr) (L:List ByteArray) (n c:Nat) (x:ByteArray) (hn:n=L.length) (hn1:n≤1000000000):Triple Tryz.prog 87 [.slice A n c,.string x] [] [Rd 1 A n (L.flatMap encS)] Unit (fun _=>.bool (memB L x)) (fun _=>True) (fun _=>[]):=by
 have T1:=indexT A L n c x hn hn1
 refine aT Tryz.func87 [vL A n c,.va (.string x)] [] (fun E=>?_) ⟨trivial,trivial,trivial⟩
 refine aG ?_
 refine aC T1 [] [.inl 0] fun x0 h1=>?_
 refine ev_fin ⟨trivial,_,rfl,(()),?_,(by trivial),Frm.nil _⟩
 refine congrArg Value.bool ?_
 cases hb:memB L x with
 | true=>exact decide_eq_true (h1.2 (memB_iff.1 hb))
 |
  false =>
  refine decide_eq_false (fun q=>?_)
  rw [memB_iff.2 (h1.1 q)] at hb
  cases hb
def tailsG (L:List ByteArray) (b t:Nat):Nat:=if b+t<999999999∧memB L (nmB 115 (b+t+1))=true then tailsG L b (t+1) else t
termination_by 999999999-(b+t)
def baseM (L:List ByteArray):Nat:=L.foldl (fun b s=>max b (numM 99 s.data.toList)) 0
def staleB (b:Nat) (s:ByteArray):Bool:=decide (s=nmT) || (decide (0<numM 99 s.data.toList)&&decide (numM 99 s.data.toList<b)) || (decide (0<numM 115 s.data.toList)&&decide (numM 115 s.data.toList≤b))
where nmT:ByteArray:=⟨#[116]⟩
def oddB (b t:Nat) (s:ByteArray):Bool := !staleB b s&&((numM 99 s.data.toList==0&&numM 115 s.data.toList==0) || decide (b+t<numM 115 s.data.toList))
theorem decB_size (n:Nat) (h:n≤9999999999):(decB n).size≤10:=by
 rw [←size_data]
 have:=decL_len 9 n (by omega)
 exact this
theorem segsT (b t:Nat) (hb:b≤999999999) (ht:t≤999999999):Triple Tryz.prog 37 [.agg #[.int .i64 (b:Nat),.int .i64 (t:Nat)]] [] [TabA] (Option Addr × Nat) (fun (C,e)=>.slice C (segsM b t).length e) (fun _=>True) (fun (C,e)=>[Row 9 1 C (segsM b t).length e ((segsM b t).flatMap encS)]):=by
 have T1:=itoaT b (by omega)
 have hz:=decB_size b (by omega)
 refine aT Tryz.func37 [.ag [vI (b:Nat),vI (t:Nat)]] [] (fun E=>?_) ⟨⟨trivial,trivial,trivial⟩,trivial⟩
 refine go_fact (Row 9 1 none 0 0 (([]:List ByteArray).flatMap encS)) (Row.nilE _ _) ?_
 have h99:(⟨#[99]⟩:ByteArray).size=1:=rfl
 have h115:(⟨#[115]⟩:ByteArray).size=1:=rfl
 obtain ⟨P,hP⟩:∃ P,P=if 0<b then [nmB 99 b] else []:=⟨_,rfl⟩
 obtain ⟨p,hp⟩:∃ p,p=P.length:=⟨_,rfl⟩
 have hp1:p≤1:=by rw [hp,hP];split<;>simp
 have hS:segsM b t=P++(List.range t).map fun i=>nmB 115 (b+1+i):=by rw [hP];rfl
 have hlen:(segsM b t).length=p+t:=by rw [hS,hp];simp
 rw [hlen]
 refine aG ?_
 refine ev_new fun b0=>?_
 refine ev_join [0,3,8,9,10,11,12,13,14] (fun (C,e)=>[(3,vL C p e)]) (fun ((C,e):Option Addr × Nat)=>[(0,.fact (Row 9 1 C p e (P.flatMap encS)))]) (fun _=>True) (fun hif=>?_) (fun hif=>?_) (fun x_ h_=>?_)
 · have hb0:0<b:=by simpa using hif
   rw [if_pos hb0] at hP
   have e1:(⟨#[99]⟩:ByteArray)++decB b=nmB 99 b:=rfl
   subst hP
   subst hp
   refine aG ?_
   refine aC T1 [] [.inl 0] fun _ h10=>?_
   refine ev_stop (go_bin (.va _) trivial rfl rfl rfl rfl rfl (by decide) (by decide) (fun w=>cat_run (by omega) w) ?_)
   refine aG ?_
   refine ev_new fun b11=>?_
   refine ev_stop (go_appendE (sz:=1) (M:=[]) (enc:=encS) Tryz.tbs_ok [] [] (.inr 2) ([]) ([{ data := #[99]:ByteArray }++decB b]) ([{ data := #[99]:ByteArray }++decB b]) (1) rfl rfl rfl rfl rfl rfl rfl (by decide) rfl (by decide) (fun _ _=>Row.nil _ _ _) rfl (fun _ p=>Pt.rd p rfl) (by first | rfl | simp) (by first | rfl | omega) (aM (1)) (aN (1)) (fun _ _=>aL) (fun A12 c13 h14=>?_))
   refine aG ?_
   refine ev_moveJ 0 3 (by decide) rfl rfl aL ?_
   refine ev_fin (join_next ((A12,c13)) (show True from (by assumption))  aS)
 · have hb0:¬ 0<b:=by simpa using hif
   rw [if_neg hb0] at hP
   subst hP
   subst hp
   refine aG ?_
   refine ev_fin (join_next ((none,0)) (show True from (by trivial))  aS)
 obtain ⟨C,e⟩:=x_
 refine aG ?_
 refine ev_stop (go_loopR [3,4,17,18,19,20,21,22,23,24,25,26,27,28,29,30] (fun (i,C,q,e,_)=>[(3,vL C q e),(17,vI (i:Nat))]) (fun (_,C,q,e,M)=>[(0,.fact (Row 9 1 C q e (M.flatMap encS)))]) (fun (i,_,q,_,M)=>i≤t∧q=p+i∧M=P++(List.range i).map fun i=>nmB 115 (b+1+i)) (fun (i,_,_,_,_)=>t-i) ((0,C,p,e,P):Nat × Option Addr × Nat × Nat × List ByteArray) ⟨Nat.zero_le _,rfl,by simp⟩ aS (fun x_ h_=>?_))
 obtain ⟨i,C,q,e,M⟩:=x_
 obtain ⟨hi,hq,hM⟩:=h_
 have T2:=fun h=>itoaT (b+1+i) h
 have hz2:=fun h=>decB_size (b+1+i) h
 rcases Nat.lt_or_ge i t with hit | hit
 · refine aG ?_
   refine aJ ?_ (decide_eq_true (show (↑i:Int)<(↑t:Int) from (by omega)))
   refine wN (b+1) ?_
   refine wN (b+1+i) ?_
   refine aC (T2 (show b+1+i≤9223372036854775807 from (by omega))) [] [.inl 0] fun _ h40=>?_
   refine ev_stop (go_bin (.va _) trivial rfl rfl rfl rfl rfl (by decide) (by decide) (fun w=>cat_run (by omega) w) ?_)
   refine aG ?_
   refine ev_new fun b41=>?_
   refine ev_stop (go_appendE (sz:=1) (M:=[_]) (enc:=encS) Tryz.tbs_ok [0] [] (.inr 2) (M) ([{ data := #[115]:ByteArray }++decB (b+1+i)]) ((M)++([{ data := #[115]:ByteArray }++decB (b+1+i)])) (q+1) rfl rfl rfl rfl rfl rfl rfl (by decide) rfl (by decide) (fun _ p=>starH_one.1 p) rfl (fun _ p=>Pt.rd p rfl) (by first | rfl | simp) (by first | rfl | omega) (aM (q+1)) (aN (q+1)) (fun _ _=>aL) (fun A42 c43 h44=>?_))
   refine aG ?_
   refine wN (i+1) ?_
   refine ev_fin (round_next ((i+1,A42,q+1,c43,M++[{ data := #[115]:ByteArray }++decB (b+1+i)])) (?_:i+1≤t∧q+1=p+(i+1)∧M++[{ data := #[115]:ByteArray }++decB (b+1+i)]=P++List.map (fun i ↦ nmB 115 (b+1+i)) (List.range (i+1))) (show t-(i+1)<t-i from (by omega)) aS)
   exact ⟨hit,by omega,by rw [hM,List.range_succ,List.map_append,←List.append_assoc];rfl⟩
 obtain rfl:i=t:=by omega
 rw [←hS] at hM
 subst hM
 subst hq
 refine aG ?_
 refine aI ?_ (decide_eq_false (show ¬(↑i:Int)<(↑i:Int) from (by omega)))
 refine ev_fin (go Tryz.tbs_ok 1000 ?_)
 exact ev_fin ⟨trivial,_,rfl,((C,e)),rfl,trivial,aF [0]⟩
theorem numM_le (c:UInt8) (x:List UInt8):numM c x≤999999999:=by
 rcases Nat.eq_zero_or_pos (numM c x) with h | h
 · omega
 exact (name_num rfl h).2
theorem baseM_step {L:List ByteArray} {j:Nat} (hj:j<L.length):baseM (L.take (j+1))=max (baseM (L.take j)) (numM 99 L[j].data.toList):=by
 rw [←List.take_append_getElem hj]
 unfold baseM
 rw [List.foldl_append]
 rfl
theorem baseM_le (L:List ByteArray):baseM L≤999999999:=by
 unfold baseM
 have:∀ (L:List ByteArray) (b:Nat),b≤999999999→L.foldl (fun b s=>max b (numM 99 s.data.toList)) b≤999999999:=by
  intro L
  induction L with
  | nil=>exact fun b h=>h
  | cons x L ih=>exact fun b h=>ih _ (Nat.max_le.2 ⟨h,numM_le _ _⟩)
 exact this L 0 (by decide)
theorem tailsG_yes {L:List ByteArray} {b t:Nat} (h1:b+t<999999999) (h2:memB L (nmB 115 (b+t+1))=true):tailsG L b t=tailsG L b (t+1):=by
 rw [tailsG,if_pos ⟨h1,h2⟩]
theorem tailsG_no {L:List ByteArray} {b t:Nat} (h:¬ (b+t<999999999∧memB L (nmB 115 (b+t+1))=true)):tailsG L b t=t:=by
 rw [tailsG,if_neg h]
theorem tailsG_le (L:List ByteArray) (b:Nat):∀ (k t:Nat),999999999-(b+t)≤k→t≤tailsG L b t∧(b+t≤999999999→b+tailsG L b t≤999999999):=by
 intro k
 induction k with
 |
  zero =>
  intro t h
  rw [tailsG_no (fun q=>by omega)]
  exact ⟨Nat.le_refl _,fun h=>h⟩
 |
  succ k ih =>
  intro t h
  by_cases q:b+t<999999999∧memB L (nmB 115 (b+t+1))=true
  · rw [tailsG_yes q.1 q.2]
    obtain ⟨h1,h2⟩:=ih (t+1) (by omega)
    exact ⟨by omega,fun _=>h2 (by omega)⟩
  rw [tailsG_no q]
  exact ⟨Nat.le_refl _,fun h=>h⟩
def tailsM (L:List ByteArray):Nat:=tailsG L (baseM L) 0
theorem last_le (L:List ByteArray):baseM L+tailsM L≤999999999:=(tailsG_le L (baseM L) _ 0 (Nat.le_refl _)).2 (by have:=baseM_le L;omega)
def okN (L:List ByteArray):Bool := !L.any (oddB (baseM L) (tailsM L))
def staleM (L:List ByteArray):List ByteArray:=if okN L then L.filter (staleB (baseM L)) else []
theorem stale_iff {b:Nat} {x:ByteArray}:staleB b x=true↔(x=⟨#[116]⟩∨(0<numM 99 x.data.toList∧numM 99 x.data.toList<b)∨(0<numM 115 x.data.toList∧numM 115 x.data.toList≤b)):=by
 have e:staleB b x=true↔(x=staleB.nmT∨(0<numM 99 x.data.toList∧numM 99 x.data.toList<b)∨(0<numM 115 x.data.toList∧numM 115 x.data.toList≤b)):=by simp [staleB,or_assoc]
 exact e
theorem odd_iff {b t:Nat} {x:ByteArray}:oddB b t x=true↔(¬ staleB b x=true∧((numM 99 x.data.toList=0∧numM 115 x.data.toList=0)∨b+t<numM 115 x.data.toList)):=by
 simp [oddB]
theorem stale_yes {b T k q j:Nat} {L M:List ByteArray} (h:k<L.length) (hk:k<j) (hq:q=M.length) (hM:M=(L.take k).filter (staleB b)) (hO:(L.take k).any (oddB b T)=false) (hs:staleB b L[k]=true) :
 k+1≤j∧q+1=(M++[L[k]]).length∧M++[L[k]]=(L.take (k+1)).filter (staleB b)∧(L.take (k+1)).any (oddB b T)=false:=by
 have e:=List.take_append_getElem h
 have ho:oddB b T L[k]=false:=by unfold oddB;rw [hs];rfl
 rw [←e,List.filter_append,List.any_append,hO,←hM]
 refine ⟨by omega,by simp [hq],?_,by simp [ho]⟩
 rw [List.filter_cons_of_pos hs]
 rfl
theorem stale_no {b T k q j:Nat} {L M:List ByteArray} (h:k<L.length) (hk:k<j) (hq:q=M.length) (hM:M=(L.take k).filter (staleB b)) (hO:(L.take k).any (oddB b T)=false) (hs:¬ staleB b L[k]=true) (ho:¬ oddB b T L[k]=true) :
 k+1≤j∧q=M.length∧M=(L.take (k+1)).filter (staleB b)∧(L.take (k+1)).any (oddB b T)=false:=by
 have e:=List.take_append_getElem h
 rw [←e,List.filter_append,List.any_append,hO,←hM]
 refine ⟨by omega,hq,?_,by simpa using ho⟩
 rw [List.filter_cons_of_neg hs]
 simp
set_option maxHeartbeats 2000000 in
theorem lookT (A:Option Addr) (L:List ByteArray) (n c:Nat) (hn:n=L.length) (hn1:n≤1000000):Triple Tryz.prog 36 [.slice A n c] [] [TabA,Rd 1 A n (L.flatMap encS)] (Option Addr × Nat)
 (fun (C,e)=>.tuple #[.agg #[.int .i64 (baseM L:Nat),.int .i64 (tailsM L:Nat)],.slice C (staleM L).length e,.bool (okN L)]) (fun _=>True) (fun (C,e)=>[Row 9 1 C (staleM L).length e ((staleM L).flatMap encS)]):=by
 have TC:=fun x=>numberT x ⟨#[99]⟩ 99 rfl
 have TS:=fun x=>numberT x ⟨#[115]⟩ 115 rfl
 have h115:(⟨#[115]⟩:ByteArray).size=1:=rfl
 have hb9:=baseM_le L
 have hl9:=last_le L
 refine aT Tryz.func36 [vL A n c] [] (fun E=>?_) ⟨trivial,trivial⟩
 refine go_fact (Row 9 1 none 0 0 (([]:List ByteArray).flatMap encS)) (Row.nilE _ _) ?_
 refine go_fact (Row 9 1 none 0 0 (([]:List ByteArray).flatMap encS)) (Row.nilE _ _) ?_
 refine aG ?_
 refine ev_new fun b0=>?_
 refine ev_stop (go_loopR [6,13,14,15,16,17,18,19,20,21,22,23] (fun (j,_)=>[(13,vI (j:Nat))]) (fun (_,b)=>[(2,.box b0 47 [vI b,vI 0])]) (fun (j,b)=>j≤n∧b=(baseM (L.take j):Nat)) (fun (j,_)=>n-j) ((0,0):Nat × Int) ⟨Nat.zero_le _,rfl⟩ aS (fun x_ h_=>?_))
 obtain ⟨j,b⟩:=x_
 obtain ⟨hj,hb⟩:=h_
 have hbj:=baseM_le (L.take j)
 rcases Nat.lt_or_ge j n with hjn | hjn
 · have hn9:=numM_le 99 (L[j]'(by omega)).data.toList
   have hst:=baseM_step (L:=L) (j:=j) (by omega)
   refine aG ?_
   refine aJ ?_ (decide_eq_true (show (↑j:Int)<(↑n:Int) from (by omega)))
   refine ev_stop (go_indexE (sz:=1) Tryz.tbs_ok (.inl 1) (j) rfl rfl rfl rfl rfl rfl (by omega) rfl (fun _ h=>h) (fun g20 o22 e21=>?_))
   subst e21
   refine aG ?_
   have l23:j<(L).length:=(by omega)
   refine ev_stop (go_loadE Tryz.tbs_ok (.inl 1) (j) 0 rfl rfl rfl rfl (fun _ h=>h) (by omega) (fun _=>rfl) (by omega) l23 (by decide) ?_)
   refine aG ?_
   refine ev_stop (go_draw Tryz.tbs_ok false [2] [(0,true),(1,true),(2,true),(3,false),(4,false),(5,false),(6,false)] rfl ?_)
   refine aG (aE ?_)
   refine aC (TC (L[j])) [] [] fun _ h24=>?_
   refine aE (aE (aE (aK ?_)))
   refine wN (j+1) ?_
   refine ev_fin (round_next ((j+1,max b (↑(numM 99 L[j].data.toList):Int))) (show j+1≤n∧max b (↑(numM 99 L[j].data.toList):Int)=(↑(baseM (List.take (j+1) L)):Int) from (by omega)) (show n-(j+1)<n-j from (by omega)) aS)
 obtain rfl:j=n:=by omega
 rw [List.take_of_length_le (Nat.le_of_eq hn.symm)] at hb hbj
 obtain ⟨o,ho⟩:∃ o,o=okN L:=⟨_,rfl⟩
 obtain ⟨S,hS⟩:∃ S,S=staleM L:=⟨_,rfl⟩
 obtain ⟨T,hT⟩:∃ T,T=tailsM L:=⟨_,rfl⟩
 obtain ⟨b',hb'⟩:∃ b',b'=baseM L:=⟨_,rfl⟩
 have hT2:tailsG L b' 0=T:=by rw [hT,hb'];rfl
 rw [←ho,←hS,←hT,←hb']
 rw [←hT,←hb'] at hl9
 rw [←hb'] at hb hbj hb9
 subst hb
 obtain ⟨B,hB⟩:∃ B,B=999999999:=⟨_,rfl⟩
 obtain ⟨G,hG⟩:∃ G:Nat→Nat,G=tailsG L b':=⟨_,rfl⟩
 have hyes:∀ t,b'+t<B→memB L (nmB 115 (b'+t+1))=true→G t=G (t+1):=fun t h1 h2=>by rw [hG];exact tailsG_yes (by omega) h2
 have hno:∀ t,¬ (b'+t<B∧memB L (nmB 115 (b'+t+1))=true)→G t=t:=fun t h=>by rw [hG];exact tailsG_no (by rw [hB] at h;exact h)
 rw [←hG] at hT2
 refine aG ?_
 refine aI ?_ (decide_eq_false (show ¬(↑j:Int)<(↑j:Int) from (by omega)))
 refine ev_fin (go Tryz.tbs_ok 1000 ?_)
 refine ev_stop (go_loopR [24,25,26,27,28,29,30,31,32,33,34,35,36,37,38,39] (fun _=>[]) (fun (t:Nat)=>[(2,.box b0 47 [vI (b':Nat),vI (t:Nat)])]) (fun t=>G t=T∧b'+t≤B) (fun t=>B-(b'+t)) (0:Nat) ⟨hT2,(by omega)⟩ aS (fun t h_=>?_))
 obtain ⟨ht,ht2⟩:=h_
 have T1:=Proofs.YtjlfdfmkofbccaaGreatDoor.lastT b' t (by omega)
 have T2:=fun h=>itoaT (b'+t+1) h
 have hz:=fun h=>decB_size (b'+t+1) h
 have T3:=containsT A L j c (⟨#[115]⟩++decB (b'+t+1)) hn (by omega)
 refine go Tryz.tbs_ok 2 ?_
 refine ev_stop (go_joinR [24,25,26,27,28,29,30,31,32,33,34,35] (fun m=>[(35,.bq m)]) (fun (_:Bool)=>[]) (fun m=>(m=true→b'+t<B∧G t=G (t+1))∧(m=false→G t=t)) ?_ (fun x_ h_=>?_))
 · refine aG ?_
   refine aC T1 [] [] fun _ h60=>?_
   refine ev_if_lt (fun h61=>?_) (fun h61=>?_)
   refine aG ?_
   refine aC T1 [] [] fun _ h62=>?_
   refine wN (b'+t+1) ?_
   refine aC (T2 (show b'+t+1≤9223372036854775807 from (by omega))) [] [.inl 0] fun _ h63=>?_
   refine ev_stop (go_bin (.va _) trivial rfl rfl rfl rfl rfl (by decide) (by decide) (fun w=>cat_run (by omega) w) ?_)
   refine aG ?_
   refine aC T3 [] [.inl 1] fun _ h64=>?_
   refine ev_fin (join_next (memB L ({ data := #[115]:ByteArray }++decB (b'+t+1))) (?_:(memB L ({ data := #[115]:ByteArray }++decB (b'+t+1))=true→b'+t<B∧G t=G (t+1))∧(memB L ({ data := #[115]:ByteArray }++decB (b'+t+1))=false→G t=t))  aS)
   rotate_left
   refine aG ?_
   refine ev_slotJ 35 _ (.bq false) rfl rfl rfl (fun _=>trivial) ?_
   refine ev_fin (join_next (false) (?_:(false=true→b'+t<B∧G t=G (t+1))∧(false=false→G t=t))  aS)
   rotate_left
   · refine ⟨fun q=>⟨by omega,hyes t (by omega) q⟩,fun q=>hno t (fun q2=>?_)⟩
     have e:memB L (nmB 115 (b'+t+1))=memB L (⟨#[115]⟩++decB (b'+t+1)):=rfl
     rw [e,q] at q2
     cases q2.2
   exact ⟨fun q=>(by cases q),fun _=>hno t (fun q2=>by omega)⟩
 obtain ⟨hm1,hm2⟩:=h_
 cases x_ with
 |
  true =>
  obtain ⟨hm3,hm4⟩:=hm1 rfl
  refine aG (aJ ?_)
  refine wN (t+1) ?_
  refine ev_fin (round_next (t+1) (show G (t+1)=T∧b'+(t+1)≤B from (by omega)) (show B-(b'+(t+1))<B-(b'+t) from (by omega)) aS)
 |
  false =>
  have hm5:=hm2 rfl
  rw [ht] at hm5
  subst hm5
  refine aG (aI ?_)
  refine ev_fin (go Tryz.tbs_ok 1000 ?_)
  refine ev_stop (go_loopR [3,4,8,9,10,42,43,44,45,46,47,48,49,50,51,52,53,54,55,56,57,58,59,60,61,62,63,64,65,66,67,68,69,70,71,72,73,74,75,76,77,78,79,80,81,82,83,84,85] (fun (k,C,q,e,_)=>[(3,vL C q e),(42,vI (k:Nat))]) (fun (_,C,q,e,M)=>[(0,.fact (Row 9 1 C q e (M.flatMap encS)))]) (fun (k,C,q,e,M)=>k≤j∧q=M.length∧M=(L.take k).filter (staleB b')∧(L.take k).any (oddB b' T)=false) (fun (k,_,_,_,_)=>j-k) ((0,none,0,0,[]):Nat × Option Addr × Nat × Nat × List ByteArray) ⟨Nat.zero_le _,rfl,rfl,rfl⟩ aS (fun x_ h_=>?_))
  obtain ⟨k,C,q,e,M⟩:=x_
  obtain ⟨hk,hq,hM,hO⟩:=h_
  have hq9:q≤k:=by rw [hq,hM];exact Nat.le_trans (List.length_filter_le _ _) (by rw [List.length_take];exact Nat.min_le_left _ _)
  rcases Nat.lt_or_ge k j with hkj | hkj
  · obtain ⟨x,hx⟩:∃ x,x=L[k]'(by omega):=⟨_,rfl⟩
    have htk:L.take (k+1)=L.take k++[x]:=by rw [hx];exact (List.take_append_getElem (by omega)).symm
    have T1:=Proofs.YtjlfdfmkofbccaaGreatDoor.lastT b' T (by omega)
    have hn9:=numM_le 99 (L[k]'(by omega)).data.toList
    have hn8:=numM_le 115 (L[k]'(by omega)).data.toList
    have hodd:oddB b' T (L[k]'(by omega))=true→o=false∧S=[]:=by
     intro q
     have:okN L=false:=by
      unfold okN
      rw [←hb',←hT,List.any_eq_true.2 ⟨_,List.getElem_mem _,q⟩]
      rfl
     refine ⟨by rw [ho,this],?_⟩
     rw [hS]
     unfold staleM
     rw [this]
     rfl
    refine aG ?_
    refine aJ ?_ (decide_eq_true (show (↑k:Int)<(↑j:Int) from (by omega)))
    refine ev_stop (go_indexE (sz:=1) Tryz.tbs_ok (.inl 1) (k) rfl rfl rfl rfl rfl rfl (by omega) rfl (fun _ h=>h) (fun g120 o122 e121=>?_))
    subst e121
    refine aG ?_
    have l123:k<(L).length:=(by omega)
    refine ev_stop (go_loadE Tryz.tbs_ok (.inl 1) (k) 0 rfl rfl rfl rfl (fun _ h=>h) (by omega) (fun _=>rfl) (by omega) l123 (by decide) ?_)
    refine aG ?_
    refine aC (TC (L[k])) [] [] fun _ h124=>?_
    refine aC (TS (L[k])) [] [] fun _ h125=>?_
    refine ev_if_lt (fun h126=>?_) (fun h126=>?_)
    refine aG ?_
    refine aJ ?_ (decide_eq_true (by with_reducible assumption))
    refine ev_new fun b127=>?_
    refine ev_stop (go_appendE (sz:=1) (M:=[_]) (enc:=encS) Tryz.tbs_ok [0] [] (.inr 3) (M) ([L[k]]) ((M)++([L[k]])) (q+1) rfl rfl rfl rfl rfl rfl rfl (by decide) rfl (by decide) (fun _ p=>starH_one.1 p) rfl (fun _ p=>Pt.rd p rfl) (by first | rfl | simp) (by first | rfl | omega) (aM (q+1)) (aN (q+1)) (fun _ _=>aL) (fun A128 c129 h130=>?_))
    refine aG ?_
    refine wN (k+1) ?_
    refine ev_fin (round_next ((k+1,A128,q+1,c129,M++[L[k]])) (?_:k+1≤j∧q+1=(M++[L[k]]).length∧M++[L[k]]=List.filter (staleB b') (List.take (k+1) L)∧(List.take (k+1) L).any (oddB b' T)=false) (show j-(k+1)<j-k from (by omega)) aS)
    rotate_left
    refine aG ?_
    refine ev_if_lt (fun h131=>?_) (fun h131=>?_)
    refine aG ?_
    refine ev_if_lt (fun h132=>?_) (fun h132=>?_)
    refine aG ?_
    refine aJ ?_ (decide_eq_true (by with_reducible assumption))
    refine ev_new fun b133=>?_
    refine ev_stop (go_appendE (sz:=1) (M:=[_]) (enc:=encS) Tryz.tbs_ok [0] [] (.inr 3) (M) ([L[k]]) ((M)++([L[k]])) (q+1) rfl rfl rfl rfl rfl rfl rfl (by decide) rfl (by decide) (fun _ p=>starH_one.1 p) rfl (fun _ p=>Pt.rd p rfl) (by first | rfl | simp) (by first | rfl | omega) (aM (q+1)) (aN (q+1)) (fun _ _=>aL) (fun A134 c135 h136=>?_))
    refine aG ?_
    refine wN (k+1) ?_
    refine ev_fin (round_next ((k+1,A134,q+1,c135,M++[L[k]])) (?_:k+1≤j∧q+1=(M++[L[k]]).length∧M++[L[k]]=List.filter (staleB b') (List.take (k+1) L)∧(List.take (k+1) L).any (oddB b' T)=false) (show j-(k+1)<j-k from (by omega)) aS)
    rotate_left
    refine aG ?_
    refine ev_if_lt (fun h137=>?_) (fun h137=>?_)
    refine aG ?_
    refine ev_if_lt (fun h138=>?_) (fun h138=>?_)
    refine aG ?_
    refine ev_new fun b139=>?_
    refine ev_stop (go_appendE (sz:=1) (M:=[_]) (enc:=encS) Tryz.tbs_ok [0] [] (.inr 3) (M) ([L[k]]) ((M)++([L[k]])) (q+1) rfl rfl rfl rfl rfl rfl rfl (by decide) rfl (by decide) (fun _ p=>starH_one.1 p) rfl (fun _ p=>Pt.rd p rfl) (by first | rfl | simp) (by first | rfl | omega) (aM (q+1)) (aN (q+1)) (fun _ _=>aL) (fun A140 c141 h142=>?_))
    refine aG ?_
    refine wN (k+1) ?_
    refine ev_fin (round_next ((k+1,A140,q+1,c141,M++[L[k]])) (?_:k+1≤j∧q+1=(M++[L[k]]).length∧M++[L[k]]=List.filter (staleB b') (List.take (k+1) L)∧(List.take (k+1) L).any (oddB b' T)=false) (show j-(k+1)<j-k from (by omega)) aS)
    rotate_left
    refine aG ?_
    refine aI ?_ (beq_eq_false_iff_ne.2 (show ¬(↑(numM 99 L[k].data.toList):Int)=0 from (by omega)))
    refine aC T1 [] [] fun _ h143=>?_
    refine ev_if_lt (fun h144=>?_) (fun h144=>?_)
    refine aG ?_
    rotate_left
    refine aG ?_
    refine wN (k+1) ?_
    refine ev_fin (round_next ((k+1,C,q,e,M)) (?_:k+1≤j∧q=M.length∧M=List.filter (staleB b') (List.take (k+1) L)∧(List.take (k+1) L).any (oddB b' T)=false) (show j-(k+1)<j-k from (by omega)) aS)
    rotate_left
    refine aG ?_
    refine aI ?_ (beq_eq_false_iff_ne.2 (show ¬(↑(numM 99 L[k].data.toList):Int)=0 from (by omega)))
    refine aC T1 [] [] fun _ h145=>?_
    refine aI ?_ (decide_eq_false (show ¬(↑(numM 115 L[k].data.toList):Int) > (↑(b'+T):Int) from (by omega)))
    refine wN (k+1) ?_
    refine ev_fin (round_next ((k+1,C,q,e,M)) (?_:k+1≤j∧q=M.length∧M=List.filter (staleB b') (List.take (k+1) L)∧(List.take (k+1) L).any (oddB b' T)=false) (show j-(k+1)<j-k from (by omega)) aS)
    rotate_left
    refine aG ?_
    refine ev_if_lt (fun h146=>?_) (fun h146=>?_)
    refine aG ?_
    refine ev_if_lt (fun h147=>?_) (fun h147=>?_)
    refine aG ?_
    refine ev_new fun b148=>?_
    refine ev_stop (go_appendE (sz:=1) (M:=[_]) (enc:=encS) Tryz.tbs_ok [0] [] (.inr 3) (M) ([L[k]]) ((M)++([L[k]])) (q+1) rfl rfl rfl rfl rfl rfl rfl (by decide) rfl (by decide) (fun _ p=>starH_one.1 p) rfl (fun _ p=>Pt.rd p rfl) (by first | rfl | simp) (by first | rfl | omega) (aM (q+1)) (aN (q+1)) (fun _ _=>aL) (fun A149 c150 h151=>?_))
    refine aG ?_
    refine wN (k+1) ?_
    refine ev_fin (round_next ((k+1,A149,q+1,c150,M++[L[k]])) (?_:k+1≤j∧q+1=(M++[L[k]]).length∧M++[L[k]]=List.filter (staleB b') (List.take (k+1) L)∧(List.take (k+1) L).any (oddB b' T)=false) (show j-(k+1)<j-k from (by omega)) aS)
    rotate_left
    refine aG ?_
    refine aJ ?_ (beq_iff_eq.2 (show (↑(numM 99 L[k].data.toList):Int)=0 from (by omega)))
    refine aI ?_ (beq_eq_false_iff_ne.2 (show ¬(↑(numM 115 L[k].data.toList):Int)=0 from (by omega)))
    refine aC T1 [] [] fun _ h152=>?_
    refine ev_if_lt (fun h153=>?_) (fun h153=>?_)
    refine aG ?_
    rotate_left
    refine aG ?_
    refine wN (k+1) ?_
    refine ev_fin (round_next ((k+1,C,q,e,M)) (?_:k+1≤j∧q=M.length∧M=List.filter (staleB b') (List.take (k+1) L)∧(List.take (k+1) L).any (oddB b' T)=false) (show j-(k+1)<j-k from (by omega)) aS)
    rotate_left
    refine aG ?_
    refine aJ ?_ (beq_iff_eq.2 (show (↑(numM 99 L[k].data.toList):Int)=0 from (by omega)))
    refine aJ ?_ (beq_iff_eq.2 (show (↑(numM 115 L[k].data.toList):Int)=0 from (by omega)))
    refine aJ ?_ (beq_iff_eq.2 (show (↑(numM 115 L[k].data.toList):Int)=0 from (by omega)))
    rotate_left
    all_goals first
     | exact stale_yes (by assumption) hkj hq hM hO (stale_iff.2 (by first | exact .inl (by assumption) | exact .inr (.inl ⟨by omega,by omega⟩) | exact .inr (.inr ⟨by omega,by omega⟩)))
     | skip
    all_goals have hns:¬ staleB b' (L[k]'(by omega))=true:=fun q=>by rcases stale_iff.1 q with q | q | q<;>first | (exact absurd q (by assumption)) | omega
    all_goals first
     | exact stale_no (by assumption) hkj hq hM hO hns (fun q=>by have:=odd_iff.1 q;omega)
     | skip
    all_goals obtain ⟨ho1,hS1⟩:=hodd (odd_iff.2 ⟨hns,by omega⟩)
    all_goals clear ho hS hodd
    all_goals subst ho1 hS1
    · exact ev_fin ⟨trivial,_,rfl,((none,0)),rfl,trivial,aF [1]⟩
    · exact ev_fin ⟨trivial,_,rfl,((none,0)),rfl,trivial,aF [1]⟩
    exact ev_fin ⟨trivial,_,rfl,((none,0)),rfl,trivial,aF [1]⟩
  obtain rfl:k=j:=by omega
  have e1:L.take k=L:=List.take_of_length_le (Nat.le_of_eq hn.symm)
  rw [e1] at hM hO
  have e2:okN L=true:=by unfold okN;rw [←hb',←hT,hO];rfl
  have e3:S=M:=by rw [hS,hM];unfold staleM;rw [e2,if_pos rfl,←hb']
  rw [e2] at ho
  clear hS
  subst e3 ho hq
  refine aG ?_
  refine aI ?_ (decide_eq_false (show ¬(↑k:Int)<(↑k:Int) from (by omega)))
  refine ev_fin (go Tryz.tbs_ok 1000 ?_)
  exact ev_fin ⟨trivial,_,rfl,((C,e)),rfl,trivial,aF [0]⟩
end Go.Proofs.YtjlfdfmkofbccaaGreatDoor
namespace Go.Sy
open Go.RowKit
def shlOf (k:IntKind) (a b:Int):Int:=k.wrap (a*2 ^ (min b.toNat k.bits))
def shrOf (k:IntKind) (a b:Int):Int:=a.fdiv (2 ^ (min b.toNat k.bits))
def notOf (k:IntKind) (n:Int):Int:=bitsOf .xor k (if k.signed then -1 else k.max) n
section
variable {P:Program}
theorem shl_runE {t:TypeId} {k k':IntKind} {a b z:Int} (h:shlOf k a b=z) (hb:0≤b) (w:World):(binOp .shl t (.int k a) (.int k' b)).run P w = .ok (.int k z) w:=by
 rw [←h];exact shl_run hb w
theorem shr_runE {t:TypeId} {k k':IntKind} {a b z:Int} (h:shrOf k a b=z) (hb:0≤b) (w:World):(binOp .shr t (.int k a) (.int k' b)).run P w = .ok (.int k z) w:=by
 rw [←h];exact shr_run hb w
theorem bits_runE {op:BinOp} {t:TypeId} {k:IntKind} {a b z:Int} (h:bitsOf op k a b=z) (ho:op = .and∨op = .or∨op = .xor∨op = .andNot) (w:World):(binOp op t (.int k a) (.int k b)).run P w = .ok (.int k z) w:=by
 rw [←h];exact bits_run ho w
variable {T:Tbs} {E:Entry} {Q:Exit→St→Prop} {ops:Array Oper} {l:List Oper} {r:List It} {st:St}
theorem not_run {t:TypeId} {x:Operand} {fr:List SV} {res:List Res} {a:Act} (hF:FrOk fr res a) {k:IntKind} {n z:Int} (hx:(ev fr x).den = .int k n) (hxno:(ev fr x).isNo=false) (hz:notOf k n=z)
 {dst:Option Tmp} {ty:TypeId} {pos:String} {after:Array Edge} {gd:Option (Nat × Bool)} (w:World) :
 (execOp a.eval ⟨dst,.unOp .xor t x,ty,pos,after,gd⟩).run P w = .ok (.value (.int k z)) w:=by
 rw [←hz]
 simp [execOp,ev_denv hF rfl hxno,hx,Op.unary,Op.intBits,notOf,bitsOf]
theorem go_not {dst:Option Tmp} {t:TypeId} {x:Operand} {ty:TypeId} {pos:String} {after:Array Edge} {gd:Option (Nat × Bool)} {k:IntKind} {n:Int} (z:Int) (hz:notOf k n=z)
 (hg:guardS ops st.fr ⟨dst,.unOp .xor t x,ty,pos,after,gd⟩ = .run) (hx:(ev st.fr x).den = .int k n) (hxno:(ev st.fr x).isNo=false)
 (h:Go P E (.o ops l::r) (st.put dst (.va (.int k z))) Q):Go P E (.o ops (⟨dst,.unOp .xor t x,ty,pos,after,gd⟩::l)::r) st Q :=
 go_val (o:=⟨dst,.unOp .xor t x,ty,pos,after,gd⟩) hg (.va (.int k z)) trivial (fun _ w hR=>not_run hR.fr hx hxno hz w) h
end
/-! an array in a block -/
section
variable {P:Program} {T:Tbs} {E:Entry} {Q:Exit→St→Prop} {ops:Array Oper} {l:List Oper} {r:List It} {st:St}
theorem und_arr (hT:TbsOk P T) {t e n:Nat} (h:(te T.tab t).map (·.k)=some (.arr n e)):P.underlying t=some (.array n e):=by
 obtain ⟨u,hu,hk⟩:=tk_of hT h
 cases u<;>simp [tkOf] at hk
 obtain ⟨rfl,rfl⟩:=hk
 exact hu
theorem size_te (hT:TbsOk P T) {t sz:Nat} (h:(te T.tab t).map (·.size)=some sz) (w:World):(sizeOf t).run P w = .ok sz w:=by
 cases hq:te T.tab t with
 | none=>rw [hq] at h;cases h
 |
  some e =>
  rw [hq] at h
  simp only [Option.map_some,Option.some.injEq] at h
  subst h
  obtain ⟨i,u,z,hi,_,_,_,hs,_⟩:=te_spec hT.tab hq
  simp [sizeOf,typeInfo,hi,hs]
theorem indexArr_run (hT:TbsOk P T) {dst:Option Tmp} {t:TypeId} {x i:Operand} {ty:TypeId} {pos:String} {after:Array Edge} {gd:Option (Nat × Bool)} {rr b off n et sz:Nat} {k:IntKind} (j:Nat) {fr:List SV} {res:List Res} {a:Act} (hF:FrOk fr res a)
 (hx:ev fr x = .pt rr b off) (hi:(ev fr i).den = .int k (j:Int)) (hino:(ev fr i).isNo=false) (ht:(te T.tab t).map (·.k)=some (.arr n et)) (he:(te T.tab et).map (·.size)=some sz) (hj:j<n) (w:World) :
 (execOp a.eval ⟨dst,.indexAddr t x i,ty,pos,after,gd⟩).run P w = .ok (.value (.pointer (some ⟨b,off+j*sz,none⟩))) w:=by
 have hc:(0:Int)≤(j:Int)∧(j:Int)<(n:Int):=⟨by omega,by omega⟩
 simp [execOp,ev_denv hF rfl (show (ev fr x).isNo=false by rw [hx];rfl),hx,ev_denv hF rfl hino,hi,SV.den,Instr.indexAt,asIntOf,run_underlying (und_arr hT ht),Instr.sureAddr,size_te hT he,hc,addr_add]
 intro hh;omega
theorem go_indexArr (hT:TbsOk P T) {dst:Option Tmp} {t:TypeId} {x i:Operand} {ty:TypeId} {pos:String} {after:Array Edge} {gd:Option (Nat × Bool)} {rr b off n et sz:Nat} {k:IntKind} {c:Nat} (j:Nat)
 (hg:guardS ops st.fr ⟨dst,.indexAddr t x i,ty,pos,after,gd⟩ = .run)
 (hx:ev st.fr x = .pt rr b off) (hi:(ev st.fr i).den = .int k (j:Int)) (hino:(ev st.fr i).isNo=false) (ht:(te T.tab t).map (·.k)=some (.arr n et)) (he:(te T.tab et).map (·.size)=some sz) (hj:j<n)
 (hblk:blkAt st.res rr=some b) (hc:off+j*sz=c)
 (h:Go P E (.o ops l::r) (st.put dst (.pt rr b c)) Q):Go P E (.o ops (⟨dst,.indexAddr t x i,ty,pos,after,gd⟩::l)::r) st Q:=by
 subst hc
 exact go_val (o:=⟨dst,.indexAddr t x i,ty,pos,after,gd⟩) hg (.pt rr b (off+j*sz)) hblk (fun a w hR=>indexArr_run hT j hR.fr hx hi hino ht he hj w) h
theorem go_sliceArr (hT:TbsOk P T) {dst:Option Tmp} {t:TypeId} {x:Operand} {ty:TypeId} {pos:String} {after:Array Edge} {gd:Option (Nat × Bool)} {rr b off n et sz:Nat}
 (hg:guardS ops st.fr ⟨dst,.slice t x none none none,ty,pos,after,gd⟩ = .run)
 (hx:ev st.fr x = .pt rr b off) (ht:(te T.tab t).map (·.k)=some (.arr n et)) (he:(te T.tab et).map (·.size)=some sz)
 (h:Go P E (.o ops l::r) (st.put dst (.va (.slice (some ⟨b,off,none⟩) n n))) Q):Go P E (.o ops (⟨dst,.slice t x none none none,ty,pos,after,gd⟩::l)::r) st Q :=
 go_val (o:=⟨dst,.slice t x none none none,ty,pos,after,gd⟩) hg (.va (.slice (some ⟨b,off,none⟩) n n)) trivial (fun a w hR=>by
  have e0:(if n=0 then (⟨b,off,none⟩:Addr) else (⟨b,off,none⟩:Addr).add (0*sz))=⟨b,off,none⟩:=by
   split
   · rfl
   rw [addr_add];simp
  simp only [execOp,ev_denv hR.fr rfl (show (ev st.fr x).isNo=false by rw [hx];rfl),hx,SV.den,Instr.sliceAt,Sem.run_bind,run_underlying (und_arr hT ht),Result.andThen_ok,Instr.sureAddr,Sem.run_pure,Instr.sliceBounds,Option.map_none,size_te hT he,Nat.sub_zero,e0]) h
end
/-! the operations on natural numbers -/
theorem wrap_un {k:IntKind} (hk:k.signed=false) {n:Nat} (h:n<2 ^ k.bits):k.wrap (n:Int)=(n:Int):=by
 unfold IntKind.wrap
 simp only [hk,Bool.false_and]
 exact Int.emod_eq_of_lt (by omega) (by exact_mod_cast h)
theorem wrap_mod {k:IntKind} (hk:k.signed=false) (n:Nat):k.wrap (n:Int)=((n % 2 ^ k.bits:Nat):Int):=by
 unfold IntKind.wrap
 simp only [hk,Bool.false_and]
 push_cast
 rfl
theorem and_un {k:IntKind} (hk:k.signed=false) {a b:Nat} (ha:a<2 ^ k.bits) (hb:b<2 ^ k.bits):bitsOf .and k a b=((a &&& b:Nat):Int):=by
 unfold bitsOf
 simp only [BitVec.ofInt_natCast,BitVec.toNat_and,BitVec.toNat_ofNat,Nat.mod_eq_of_lt ha,Nat.mod_eq_of_lt hb]
 exact wrap_un hk (Nat.lt_of_le_of_lt Nat.and_le_left ha)
theorem or_un {k:IntKind} (hk:k.signed=false) {a b:Nat} (ha:a<2 ^ k.bits) (hb:b<2 ^ k.bits):bitsOf .or k a b=((a ||| b:Nat):Int):=by
 unfold bitsOf
 simp only [BitVec.ofInt_natCast,BitVec.toNat_or,BitVec.toNat_ofNat,Nat.mod_eq_of_lt ha,Nat.mod_eq_of_lt hb]
 exact wrap_un hk (Nat.or_lt_two_pow ha hb)
theorem xor_un {k:IntKind} (hk:k.signed=false) {a b:Nat} (ha:a<2 ^ k.bits) (hb:b<2 ^ k.bits):bitsOf .xor k a b=((a ^^^ b:Nat):Int):=by
 unfold bitsOf
 simp only [BitVec.ofInt_natCast,BitVec.toNat_xor,BitVec.toNat_ofNat,Nat.mod_eq_of_lt ha,Nat.mod_eq_of_lt hb]
 exact wrap_un hk (Nat.xor_lt_two_pow ha hb)
theorem andNot_un {k:IntKind} (hk:k.signed=false) {a b:Nat} (ha:a<2 ^ k.bits) (hb:b<2 ^ k.bits):bitsOf .andNot k a b=((a &&& (2 ^ k.bits-1-b):Nat):Int):=by
 unfold bitsOf
 simp only [BitVec.ofInt_natCast,BitVec.toNat_and,BitVec.toNat_not,BitVec.toNat_ofNat,Nat.mod_eq_of_lt ha,Nat.mod_eq_of_lt hb]
 exact wrap_un hk (Nat.lt_of_le_of_lt Nat.and_le_left ha)
theorem shr_un {k:IntKind} {a b:Nat} (hb:b≤k.bits):shrOf k a b=((a / 2 ^ b:Nat):Int):=by
 unfold shrOf
 rw [Int.toNat_natCast,Nat.min_eq_left hb]
 rw [Int.fdiv_eq_ediv_of_nonneg _ (by exact_mod_cast Nat.zero_le _)]
 push_cast
 rfl
theorem shl_un {k:IntKind} (hk:k.signed=false) {a b:Nat} (hb:b≤k.bits):shlOf k a b=((a*2 ^ b % 2 ^ k.bits:Nat):Int):=by
 unfold shlOf
 rw [Int.toNat_natCast,Nat.min_eq_left hb,←wrap_mod hk]
 push_cast
 rfl
end Go.Sy

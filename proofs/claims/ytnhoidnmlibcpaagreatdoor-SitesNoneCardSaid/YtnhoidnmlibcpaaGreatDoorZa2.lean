/-
  What is proved: the texts that the claims share, part 2 of 5, each text behind the other. Conditions: none.
-/
import Derived.Laws.MakeOwn
import Derived.Lib.Overlaps
import Derived.MapKept
import Derived.Test.YtnhoidnmlibcpaaGreatDoorRows
import Derived.RangeFuncLeaves
import Derived.RangeFuncRecord
import Derived.RangeFuncCalls
import Derived.TacticsIn
import Derived.Scope
import Derived.Lib.AppendStr
import Derived.Lib.UnsafeStr
import Derived.Lib.Builder
import Derived.Laws.IdiomStrings
import Derived.Laws.BytesArg
import Derived.Test.YtnhoidnmlibcpaaGreatDoorZa1
set_option maxRecDepth 100000
namespace Go.Sy
open Go.RowKit
theorem ev_wrapN {P:Program} {E:Entry} {Q:Exit→St→Prop} {e:Int} {c:Int→Out} (n:Nat) (hz : -9223372036854775808≤e∧e≤9223372036854775807) (hn:e=(n:Int)) (h:outSat P E Q (c (n:Int))):outSat P E Q (.wrap .i64 e c):=ev_wrap ((wrap64 hz).trans hn) h
theorem ne_no {x y:Int} (h:x=y):(!(x==y))=false:=by simp [h]
theorem ne_yes {x y:Int} (h:¬ x=y):(!(x==y))=true:=by simp [h]
def setsR:List Res→Nat→List (Nat × Res)→List Res
 | [],_,_=>[]
 |
  x::l,n,m=>match m with
  | []=>x::l
  | (t,y)::ts=>bif Nat.beq n t then y::setsR l n.succ ts else x::setsR l n.succ ((t,y)::ts)
def setR (l:List Res) (m:List (Nat × Res)):List Res:=setsR l 0 m
theorem go_loopR {P:Program} {E:Entry} {Q:Exit→St→Prop} {body:Code} {r:List It} {st:St} {ι:Type} (mods:List Nat) (keep:ι→List (Nat × SV)) (resI:ι→List (Nat × Res)) (Pre:ι→Prop) (m:ι→Nat) (i0:ι)
 (h0:Pre i0) (hst:StLe st ⟨setF (havoc st.fr mods) (keep i0),setR st.res (resI i0),st.ro⟩)
 (hround:∀ i,Pre i→Go P E [.c body] ⟨setF (havoc st.fr mods) (keep i),setR st.res (resI i),st.ro⟩ (Round P E r Q (fun i=>⟨setF (havoc st.fr mods) (keep i),setR st.res (resI i),st.ro⟩) Pre m i)) :
 Go P E (.c (.loop body)::r) st Q:=go_loop mods keep (fun i=>setR st.res (resI i)) Pre m i0 h0 hst hround
theorem go_fact {P:Program} {E:Entry} {Q:Exit→St→Prop} {todo:List It} {st:St} (A:Asn) (hA:∀ h,A.holds h) (h:Go P E todo ⟨st.fr,st.res++[.fact A],st.ro⟩ Q):Go P E todo st Q:=fun a w hR=>by
 obtain ⟨hs,hi,hres⟩:=hR.res
 have hlt:∀ {i:Nat} {x:Res},(st.res++[.fact A])[i]? = some x→(i<st.res.length∧st.res[i]? = some x)∨(i=st.res.length∧x = .fact A):=fun {i x} hx=>by
  rcases Nat.lt_or_ge i st.res.length with h1 | h1
  · rw [List.getElem?_append_left h1] at hx;exact .inl ⟨h1,hx⟩
  rw [List.getElem?_append_right h1] at hx
  have:=(List.getElem?_eq_some_iff.1 hx).1
  simp only [List.length_singleton] at this
  have e:i-st.res.length=0:=by omega
  rw [e] at hx
  simp at hx
  exact .inr ⟨by omega,hx.symm⟩
 refine h a w ⟨hR.fr.mono (blkAt_append _ _),fun i=>if i<st.res.length then hs i else Hp.emp,hi,fun i=>?_,fun i j hij=>?_,fun i x hx=>?_,hres.rle,fun i=>?_,hres.rholds,hres.ext,fun i b hb=>?_,fun x hx=>?_⟩
 · split
   · exact hres.le i
   exact Hp.emp_le _
 · split
   · split
     · exact hres.dis i j hij
     exact Hp.dis_emp _
   exact Hp.emp_dis _
 · rcases hlt hx with ⟨h1,h2⟩ | ⟨_,rfl⟩
   · rw [if_pos h1];exact hres.holds i x h2
   exact hA _
 · split
   · exact hres.rdis i
   exact Hp.emp_dis _
 · split at hb
   · exact hres.old i b hb
   exact absurd rfl hb
 rcases List.mem_append.1 hx with hx | hx
 · have:=hres.cells x hx
   cases x with
   | box b t cs=>exact ⟨SV.goodL_mono (blkAt_append _ _) this.1,this.2⟩
   | fact A=>trivial
   | dead b=>trivial
 obtain rfl:=List.mem_singleton.1 hx
 trivial
theorem Row.nilE {α:Type} {enc:α→List Value} (e sz:Nat) (h:Hp):(Row e sz none 0 0 (([]:List α).flatMap enc)).holds h:=Row.nil e sz h
theorem le_app {s n:Nat} (h:s≤1000000000) (e:n=s):n≤maxLen:=by unfold maxLen;omega
theorem le_appb {s n b:Nat} (h:s≤1000000000) (e:n=s) (hb:b≤100000):n*b≤140737488355328:=by
 have:=Nat.mul_le_mul h hb
 subst e
 omega
theorem Triple.lend {P:Program} {f:FuncId} {args:List Value} {M N:List Asn} {X:Type} {ret:X→Value} {good:X→Prop} {post:X→List Asn} (t:Triple P f args M N X ret good post) (F:List Asn) (hF:∀ h,Asn.starH F h→∀ A∈N,A.holds h) :
 Triple P f args (M++F) [] X ret good (fun x=>post x++F):=fun w hm _ h1 _ _ h4 _=>by
 obtain ⟨k1,k2,d,e1,e2,p1,p2⟩:=(starH_append M F).1 h4
 refine (t w k1 k2 (e1.trans h1) (e2.trans h1) d p1 (hF _ p2)).mono fun e w' ⟨x,hm',q1,q2,q3,q4,q5,q6⟩=>?_
 have hd:hm'.dis k2:=fun b=>by
  cases e1':hm' b with
  | none=>exact .inl rfl
  |
   some o =>
   right
   rcases q6 b (by rw [e1'];simp) with q | q
   · rcases d b with y | y
     · exact absurd y q
     exact y
   exact Hp.le_none (e2.trans h1) (hp_none q)
 have hk:k2.le (hp w'):=Ext.keep q5 d (e2.trans h1)
 refine ⟨x,Hp.join hm' k2,q1,q2,(starH_append _ _).2 ⟨hm',k2,hd,Hp.le_join_left _ _,Hp.le_join_right hd,q3,p2⟩,Hp.join_le q4 hk,?_,fun b hb=>?_⟩
 · exact ⟨q5.os,q5.tape,q5.output,q5.size,fun b hb hn'=>q5.block b hb (Hp.le_none e1 hn')⟩
 have hb':hm' b≠none∨k2 b≠none:=by
  rcases Classical.em (hm' b=none) with c | c
  · right
    intro c2
    exact hb (Hp.join_none.2 ⟨c,c2⟩)
  exact .inl c
 have up:∀ k:Hp,k.le hm→k b≠none→hm b≠none:=fun k hk hkb hmb=>hkb (Hp.le_none hk hmb)
 rcases hb' with c | c
 · rcases q6 b c with q | q
   · exact .inl (up k1 e1 q)
   exact .inr q
 exact .inl (up k2 e2 c)
theorem Triple.imp' {P:Program} {f:FuncId} {args:List Value} {M N:List Asn} {X Y:Type} {ret:X→Value} {good:X→Prop} {post:X→List Asn} {ret':Y→Value} {good':Y→Prop} {post':Y→List Asn}
 (t:Triple P f args M N X ret good post) (h:∀ x h,good x→Asn.starH (post x) h→∃ y,ret x=ret' y∧good' y∧Asn.starH (post' y) h):Triple P f args M N Y ret' good' post':=fun w hm hn h1 h2 h3 h4 h5 =>
 (t w hm hn h1 h2 h3 h4 h5).mono fun _ _ ⟨x,hm',e1,e2,e3,e4,e5,e6⟩=>let ⟨y,a,b,c⟩:=h x hm' e2 e3;⟨y,hm',by rw [e1,a],b,c,e4,e5,e6⟩
theorem go_boxfact {P:Program} {E:Entry} {Q:Exit→St→Prop} {todo:List It} {st:St} {b t:Nat} {cells:List SV} (i:Nat) (A:Asn) (hi:st.res[i]? = some (.box b t cells)) (hA:∀ h,(Pt b t (SV.denL cells)).holds h→A.holds h)
 (hb:blkLe st.res (place st.res [i] [.dead (some b),.fact A])) (h:Go P E todo ⟨st.fr,place st.res [i] [.dead (some b),.fact A],st.ro⟩ Q):Go P E todo st Q :=
 go_ghost [i] (M:=[Pt b t (SV.denL cells)]) (X:=Unit) (fun _=>[.dead (some b),.fact A]) (by simp [asnAt,hi,Res.asn]) (by simp) (fun h p=>⟨(),Hp.emp,h,Hp.emp_dis _,Hp.emp_le _,Hp.le_refl _,trivial,starH_one.2 (hA h (starH_one.1 p))⟩) (fun _ x hx=>by
  simp only [List.mem_cons,List.not_mem_nil,or_false] at hx
  rcases hx with rfl | rfl<;>trivial) (fun _=>hb) (fun _=>h)
theorem dec_no {p:Prop} [Decidable p] (h:p):(!decide p)=false:=by simp [h]
theorem ev_wu8 {P:Program} {E:Entry} {Q:Exit→St→Prop} {e:Int} {c:Int→Out} (hz:0≤e∧e<256) (h:outSat P E Q (c e)):outSat P E Q (.wrap .u8 e c):=by
 have hw:IntKind.u8.wrap e=e % 256:=by simp [IntKind.wrap,IntKind.bits,IntKind.signed]
 exact ev_wrap (z:=e) (by rw [hw];omega) h
theorem ev_wu64 {P:Program} {E:Entry} {Q:Exit→St→Prop} {e:Int} {c:Int→Out} (hz:0≤e∧e<18446744073709551616) (h:outSat P E Q (c e)):outSat P E Q (.wrap .u64 e c):=by
 have hw:IntKind.u64.wrap e=e % 18446744073709551616:=by simp [IntKind.wrap,IntKind.bits,IntKind.signed]
 exact ev_wrap (z:=e) (by rw [hw];omega) h
theorem ones_of {l:List Value} (h:l.all Value.oneCell'=true):∀ c∈l,c.oneCell'=true:=fun c hc=>List.all_eq_true.1 h c hc
theorem le_max {n:Nat} (h:n≤1000000000):n≤maxLen:=by unfold maxLen;omega
section
variable {P:Program} {T:Tbs} {E:Entry} {Q:Exit→St→Prop} {ops:Array Oper} {l:List Oper} {r:List It} {st:St} {α:Type} {enc:α→List Value}
theorem go_appendE (hT:TbsOk P T) {dst:Option Tmp} {s x:Operand} {t ty:TypeId} {pos:String} {after:Array Edge} {gd:Option (Nat × Bool)} {M:List Asn} {A A':Option Addr} {n c m c':Nat} {et sz bts:Nat} {B:Asn} (sel:List Nat) (pad:List (Option Nat)) (src:Sum Nat Nat) (L L2 L3:List α) (n':Nat)
 (hg:guardS ops st.fr ⟨dst,.call { callee:=.builtin .append,args := #[s,x],argTypes := #[t,t] },ty,pos,after,gd⟩ = .run)
 (hs:(ev st.fr s).den = .slice A n c) (hsno:(ev st.fr s).isNo=false) (hx:(ev st.fr x).den = .slice A' m c') (hxno:(ev st.fr x).isNo=false)
 (ht:(te T.tab t).map (·.k)=some (.slice et)) (he':(te T.tab et).map (fun e=>(e.size,e.bytes,e.zero.length))=some (sz,bts,sz)) (hpos:0<sz)
 (hsel:sel.map (asnAt st.res)=M.map some) (hnd:sel.Nodup) (hM:∀ h,Asn.starH M h→(Row et sz A n c (L.flatMap enc)).holds h)
 (hsrc:has st src B) (hB:∀ h,B.holds h→(Rd sz A' m (L2.flatMap enc)).holds h)
 (h3:L++L2=L3) (hn':n'=n+m) (hmax:n+m≤maxLen) (hbytes:(n+m)*bts≤140737488355328)
 (hb:∀ A2 c2,blkLe st.res (place st.res sel (deads pad++[.fact (Row et sz A2 n' c2 (L3.flatMap enc))])))
 (h:∀ A2 c2,n'≤c2→Go P E (.o ops l::r) (St.put ⟨st.fr,place st.res sel (deads pad++[.fact (Row et sz A2 n' c2 (L3.flatMap enc))]),st.ro⟩ dst (.va (.slice A2 n' c2))) Q) :
 Go P E (.o ops (⟨dst,.call { callee:=.builtin .append,args := #[s,x],argTypes := #[t,t] },ty,pos,after,gd⟩::l)::r) st Q :=
 go_append hT sel pad M A A' n c m c' (L.flatMap enc) (L2.flatMap enc) et sz bts src B hg hs (fun e=>by rw [e] at hsno;cases hsno) hx (fun e=>by rw [e] at hxno;cases hxno) ht he' hpos hsel hnd hM hsrc hB n' _ hn' (by rw [←h3];exact List.flatMap_append) hmax hbytes hb (fun A2 c2 _ hc=>h A2 c2 hc)
theorem go_front (hT:TbsOk P T) {dst:Option Tmp} {t:TypeId} {x:Operand} {lo hi mx:Option Operand} {ty:TypeId} {pos:String} {after:Array Edge} {gd:Option (Nat × Bool)} {A:Option Addr} {n c:Nat} {et sz:Nat} (hi' mx':Nat)
 (hg:guardS ops st.fr ⟨dst,.slice t x lo hi mx,ty,pos,after,gd⟩ = .run) (hx:(ev st.fr x).den = .slice A n c) (hxno:(ev st.fr x).isNo=false)
 (ht:(te T.tab t).map (·.k)=some (.slice et)) (he':(te T.tab et).map (·.size)=some sz)
 (hlo:bound st.fr lo 0 0) (hhi:bound st.fr hi n hi') (hmx:bound st.fr mx c mx') (hform:mx.isSome=true→hi.isSome=true) (h2:hi'≤mx') (h3:mx'≤c)
 (h:Go P E (.o ops l::r) (st.put dst (.va (.slice A hi' mx'))) Q):Go P E (.o ops (⟨dst,.slice t x lo hi mx,ty,pos,after,gd⟩::l)::r) st Q :=
 go_slice hT A A n c 0 hi' mx' et sz hg hx (fun e=>by rw [e] at hxno;cases hxno) ht he' hlo hhi hmx hform (Nat.zero_le _) h2 h3 (slice_zero _ _ _) h
theorem tk_front (hT:TbsOk P T) {full:Bool} {held:List (Nat × Res)} {ro0:List Asn} {q:Nat} {p:List (Nat × Bool)} {listed:List Bool} {dst:Option Tmp} {t:TypeId} {x:Operand} {lo hi mx:Option Operand} {ty:TypeId} {pos:String} {after:Array Edge} {gd:Option (Nat × Bool)} {A:Option Addr} {n c:Nat} {et sz:Nat} (hi' mx':Nat)
 (hchk:(heldOk held st.res∧ro0=st.ro)∧planOk ops full ((q,true)::p) listed=true) (ho:ops.toList[q]? = some ⟨dst,.slice t x lo hi mx,ty,pos,after,gd⟩)
 (hg:guardS ops st.fr ⟨dst,.slice t x lo hi mx,ty,pos,after,gd⟩ = .run) (hx:(ev st.fr x).den = .slice A n c) (hxno:(ev st.fr x).isNo=false)
 (ht:(te T.tab t).map (·.k)=some (.slice et)) (he':(te T.tab et).map (·.size)=some sz)
 (hlo:bound st.fr lo 0 0) (hhi:bound st.fr hi n hi') (hmx:bound st.fr mx c mx') (hform:mx.isSome=true→hi.isSome=true) (h2:hi'≤mx') (h3:mx'≤c)
 (h:Go P E (.d ops full held ro0 p (listed.set q true)::r) (st.put dst (.va (.slice A hi' mx'))) Q):Go P E (.d ops full held ro0 ((q,true)::p) listed::r) st Q :=
 tk_slice hT A A n c 0 hi' mx' et sz hchk ho hg hx (fun e=>by rw [e] at hxno;cases hxno) ht he' hlo hhi hmx hform (Nat.zero_le _) h2 h3 (slice_zero _ _ _) h
end
section
variable {P:Program} {T:Tbs} {E:Entry} {Q:Exit→St→Prop} {ops:Array Oper} {l:List Oper} {r:List It} {st:St}
theorem bin_run {dst:Option Tmp} {op:BinOp} {t yt:TypeId} {x y:Operand} {ty:TypeId} {pos:String} {after:Array Edge} {gd:Option (Nat × Bool)} {fr:List SV} {res:List Res} {a:Act} (hF:FrOk fr res a) {vx vy v:Value} {w:World}
 (hx:(ev fr x).den=vx) (hxno:(ev fr x).isNo=false) (hy:(ev fr y).den=vy) (hyno:(ev fr y).isNo=false) (h1:op ≠ .eql) (h2:op ≠ .neq) (hb:(binOp op t vx vy).run P w = .ok v w) :
 (execOp a.eval ⟨dst,.binOp op t x y yt,ty,pos,after,gd⟩).run P w = .ok (.value v) w:=by
 have e1:a.eval x=vx:=by rw [ev_denv hF rfl hxno,hx]
 have e2:a.eval y=vy:=by rw [ev_denv hF rfl hyno,hy]
 cases op<;>first | exact absurd rfl h1 | exact absurd rfl h2 | simp [execOp,e1,e2,eqGuard,hb]
theorem go_bin {dst:Option Tmp} {op:BinOp} {t yt:TypeId} {x y:Operand} {ty:TypeId} {pos:String} {after:Array Edge} {gd:Option (Nat × Bool)} {vx vy:Value} (v:SV) (hv:v.good (blkAt st.res))
 (hg:guardS ops st.fr ⟨dst,.binOp op t x y yt,ty,pos,after,gd⟩ = .run)
 (hx:(ev st.fr x).den=vx) (hxno:(ev st.fr x).isNo=false) (hy:(ev st.fr y).den=vy) (hyno:(ev st.fr y).isNo=false) (h1:op ≠ .eql) (h2:op ≠ .neq) (hb:∀ w,(binOp op t vx vy).run P w = .ok v.den w)
 (h:Go P E (.o ops l::r) (st.put dst v) Q):Go P E (.o ops (⟨dst,.binOp op t x y yt,ty,pos,after,gd⟩::l)::r) st Q :=
 go_val (o:=⟨dst,.binOp op t x y yt,ty,pos,after,gd⟩) hg v hv (fun _ w hR=>bin_run hR.fr hx hxno hy hyno h1 h2 (hb w)) h
theorem tk_bin {full:Bool} {held:List (Nat × Res)} {ro0:List Asn} {q:Nat} {p:List (Nat × Bool)} {listed:List Bool} {dst:Option Tmp} {op:BinOp} {t yt:TypeId} {x y:Operand} {ty:TypeId} {pos:String} {after:Array Edge} {gd:Option (Nat × Bool)} {vx vy:Value} (v:SV) (hv:v.good (blkAt st.res))
 (hchk:(heldOk held st.res∧ro0=st.ro)∧planOk ops full ((q,true)::p) listed=true) (ho:ops.toList[q]? = some ⟨dst,.binOp op t x y yt,ty,pos,after,gd⟩)
 (hg:guardS ops st.fr ⟨dst,.binOp op t x y yt,ty,pos,after,gd⟩ = .run)
 (hx:(ev st.fr x).den=vx) (hxno:(ev st.fr x).isNo=false) (hy:(ev st.fr y).den=vy) (hyno:(ev st.fr y).isNo=false) (h1:op ≠ .eql) (h2:op ≠ .neq) (hb:∀ w,(binOp op t vx vy).run P w = .ok v.den w)
 (h:Go P E (.d ops full held ro0 p (listed.set q true)::r) (st.put dst v) Q):Go P E (.d ops full held ro0 ((q,true)::p) listed::r) st Q :=
 tk_val (o:=⟨dst,.binOp op t x y yt,ty,pos,after,gd⟩) hchk ho hg v hv (fun _ w hF _=>bin_run hF hx hxno hy hyno h1 h2 (hb w)) h
theorem rem_run {t:TypeId} {k:IntKind} {a b:Int} (hb:b≠0) (w:World):(binOp .rem t (.int k a) (.int k b)).run P w = .ok (.int k (a.tmod b)) w:=by
 simp [binOp,Op.intDiv,hb]
def bitsOf (op:BinOp) (k:IntKind) (a b:Int):Int :=
 k.wrap ((match op with | .and=>BitVec.ofInt k.bits a &&& BitVec.ofInt k.bits b | .or=>BitVec.ofInt k.bits a ||| BitVec.ofInt k.bits b | .xor=>BitVec.ofInt k.bits a ^^^ BitVec.ofInt k.bits b | _=>BitVec.ofInt k.bits a &&& ~~~(BitVec.ofInt k.bits b)).toNat:Nat)
theorem bits_run {op:BinOp} {t:TypeId} {k:IntKind} {a b:Int} (ho:op = .and∨op = .or∨op = .xor∨op = .andNot) (w:World):(binOp op t (.int k a) (.int k b)).run P w = .ok (.int k (bitsOf op k a b)) w:=by
 rcases ho with rfl | rfl | rfl | rfl<;>simp [binOp,Op.intBits,bitsOf]
theorem shl_run {t:TypeId} {k k':IntKind} {a b:Int} (hb:0≤b) (w:World):(binOp .shl t (.int k a) (.int k' b)).run P w = .ok (.int k (k.wrap (a*2 ^ (min b.toNat k.bits)))) w:=by
 simp [binOp,Op.shift,show ¬ b<0 by omega]
theorem shr_run {t:TypeId} {k k':IntKind} {a b:Int} (hb:0≤b) (w:World):(binOp .shr t (.int k a) (.int k' b)).run P w = .ok (.int k (a.fdiv (2 ^ (min b.toNat k.bits)))) w:=by
 simp [binOp,Op.shift,show ¬ b<0 by omega]
theorem cat_run {t:TypeId} {a b:ByteArray} (hb:a.size+b.size≤9223372036854775807) (w:World):(binOp .add t (.string a) (.string b)).run P w = .ok (.string (a++b)) w:=by
 have h3:IntKind.i64.max=9223372036854775807:=rfl
 have:¬ (((a.size+b.size:Nat):Int) > IntKind.i64.max):=by rw [h3];omega
 simp only [binOp,Op.stringOp]
 rw [if_neg this]
 rfl
/-! slices of slices -/
def backA (A:Option Addr) (mx lo sz:Nat):Option Addr:=if mx=lo then A else A.map (·.add (lo*sz))
theorem go_back (hT:TbsOk P T) {dst:Option Tmp} {t:TypeId} {x:Operand} {lo hi mx:Option Operand} {ty:TypeId} {pos:String} {after:Array Edge} {gd:Option (Nat × Bool)} {A:Option Addr} {n c:Nat} {et sz:Nat} (lo' hi' mx':Nat)
 (hg:guardS ops st.fr ⟨dst,.slice t x lo hi mx,ty,pos,after,gd⟩ = .run) (hx:(ev st.fr x).den = .slice A n c) (hxno:(ev st.fr x).isNo=false)
 (ht:(te T.tab t).map (·.k)=some (.slice et)) (he':(te T.tab et).map (·.size)=some sz)
 (hlo:bound st.fr lo 0 lo') (hhi:bound st.fr hi n hi') (hmx:bound st.fr mx c mx') (hform:mx.isSome=true→hi.isSome=true) (h1:lo'≤hi') (h2:hi'≤mx') (h3:mx'≤c)
 (h:Go P E (.o ops l::r) (st.put dst (.va (.slice (backA A mx' lo' sz) (hi'-lo') (mx'-lo')))) Q):Go P E (.o ops (⟨dst,.slice t x lo hi mx,ty,pos,after,gd⟩::l)::r) st Q :=
 go_slice hT A _ n c lo' hi' mx' et sz hg hx (fun e=>by rw [e] at hxno;cases hxno) ht he' hlo hhi hmx hform h1 h2 h3 rfl h
theorem tk_back (hT:TbsOk P T) {full:Bool} {held:List (Nat × Res)} {ro0:List Asn} {q:Nat} {p:List (Nat × Bool)} {listed:List Bool} {dst:Option Tmp} {t:TypeId} {x:Operand} {lo hi mx:Option Operand} {ty:TypeId} {pos:String} {after:Array Edge} {gd:Option (Nat × Bool)} {A:Option Addr} {n c:Nat} {et sz:Nat} (lo' hi' mx':Nat)
 (hchk:(heldOk held st.res∧ro0=st.ro)∧planOk ops full ((q,true)::p) listed=true) (ho:ops.toList[q]? = some ⟨dst,.slice t x lo hi mx,ty,pos,after,gd⟩)
 (hg:guardS ops st.fr ⟨dst,.slice t x lo hi mx,ty,pos,after,gd⟩ = .run) (hx:(ev st.fr x).den = .slice A n c) (hxno:(ev st.fr x).isNo=false)
 (ht:(te T.tab t).map (·.k)=some (.slice et)) (he':(te T.tab et).map (·.size)=some sz)
 (hlo:bound st.fr lo 0 lo') (hhi:bound st.fr hi n hi') (hmx:bound st.fr mx c mx') (hform:mx.isSome=true→hi.isSome=true) (h1:lo'≤hi') (h2:hi'≤mx') (h3:mx'≤c)
 (h:Go P E (.d ops full held ro0 p (listed.set q true)::r) (st.put dst (.va (.slice (backA A mx' lo' sz) (hi'-lo') (mx'-lo')))) Q):Go P E (.d ops full held ro0 ((q,true)::p) listed::r) st Q :=
 tk_slice hT A _ n c lo' hi' mx' et sz hchk ho hg hx (fun e=>by rw [e] at hxno;cases hxno) ht he' hlo hhi hmx hform h1 h2 h3 rfl h
theorem rd_take {α:Type} {enc:α→List Value} {sz n k:Nat} {A:Option Addr} {L:List α} {h:Hp} (hlen:∀ x,(enc x).length=sz) (p:(Rd sz A n (L.flatMap enc)).holds h) (hk:k≤n):(Rd sz A k ((L.take k).flatMap enc)).holds h:=by
 rw [←flat_take hlen]
 exact Rd.sub p hk
theorem rd_part {α:Type} {enc:α→List Value} {sz n lo m mx:Nat} {A:Option Addr} {L:List α} {h:Hp} (hlen:∀ x,(enc x).length=sz) (p:(Rd sz A n (L.flatMap enc)).holds h) (hm:lo+m≤n) (hx:lo+m≤mx):(Rd sz (backA A mx lo sz) m (((L.take (lo+m)).drop lo).flatMap enc)).holds h:=by
 have q:=rd_take hlen p hm
 rcases Nat.eq_zero_or_pos m with h0 | h0
 · subst h0
   have e:(L.take (lo+0)).drop lo=[]:=List.drop_eq_nil_of_le (by simp;omega)
   rw [e]
   exact Rd.nil _ _ _
 obtain ⟨g,o,cur,e,fz,rfl,_⟩:=q.2.2 (by omega)
 have q2:=Rd.drop q (k:=lo) (by omega)
 rw [flat_drop hlen,show lo+m-lo=m by omega] at q2
 unfold backA
 rw [if_neg (by omega)]
 simpa [addr_add] using q2
theorem go_slot {todo:List It} (t:Nat) (x y:SV) (hx:st.fr[t]? = some x) (hno:x.isNo=false) (hxy:x.den=y.den) (hy:∀ β,y.good β) (h:Go P E todo ⟨st.fr.set t y,st.res,st.ro⟩ Q):Go P E todo st Q:=fun a w hR=>by
 refine h a w ⟨⟨by simp [hR.fr.size],fun i z hz=>?_,fun z hz=>?_,hR.fr.defers⟩,hR.res⟩
 · rw [List.getElem?_set] at hz
   split at hz
   · rename_i e
     subst e
     split at hz
     · cases hz
       have h1:=SV.den_of_is (hR.fr.is _ _ hx) (fun e=>by rw [e] at hno;cases hno)
       rw [h1,hxy]
       exact SV.is_den _
     cases hz
   exact hR.fr.is i z hz
 rcases List.mem_or_eq_of_mem_set hz with hz | rfl
 · exact hR.fr.good z hz
 exact hy _
end
open Go
theorem Row.cap {e sz n c:Nat} {A:Option Addr} {cs:List Value} {h:Hp} (p:(Row e sz A n c cs).holds h):n≤c:=by
 rcases p.2.2 with ⟨_,h,_⟩ | ⟨_,_,_,_,h,_⟩<;>omega
theorem move_star {A B:Asn} {h:Hp} (q:Asn.starH [A,B] h):Asn.starH ([Res.fact B,Res.dead none].map Res.asn) h:=by
 obtain ⟨_,h2,_,_,b,_,q⟩:=q
 exact ⟨h2,Hp.emp,Hp.dis_emp _,b,Hp.emp_le _,starH_one.1 q,starH_one.2 trivial⟩
theorem Triple.ofRow {P:Program} {f:FuncId} {args:List Value} {M:List Asn} {X:Type} {ret:X→Value} {good:X→Prop} {post:X→List Asn} {sz n:Nat} {A:Option Addr} {cs:List Value} (e c:Nat) (t:Triple P f args M [Rd sz A n cs] X ret good post):Triple P f args M [Row e sz A n c cs] X ret good post :=
 t.reads fun _ hX=>by
  rw [List.mem_singleton.1 hX]
  exact ⟨_,List.mem_singleton.2 rfl,fun _ q=>Row.rd q⟩
section
variable {P:Program} {T:Tbs} {E:Entry} {Q:Exit→St→Prop} {ops:Array Oper} {l:List Oper} {r:List It} {st:St} {α:Type} {enc:α→List Value}
theorem R_slot {t:Nat} {x y:SV} {a:Act} {w:World} (hx:st.fr[t]? = some x) (hno:x.isNo=false) (hxy:x.den=y.den) (hy:∀ β,y.good β) (hR:R E st a w):R E ⟨st.fr.set t y,st.res,st.ro⟩ a w:=by
 refine ⟨⟨by simp [hR.fr.size],fun i z hz=>?_,fun z hz=>?_,hR.fr.defers⟩,hR.res⟩
 · rw [List.getElem?_set] at hz
   split at hz
   · rename_i e
     subst e
     split at hz
     · cases hz
       have h1:=SV.den_of_is (hR.fr.is _ _ hx) (fun e=>by rw [e] at hno;cases hno)
       rw [h1,hxy]
       exact SV.is_den _
     cases hz
   exact hR.fr.is i z hz
 rcases List.mem_or_eq_of_mem_set hz with hz | rfl
 · exact hR.fr.good z hz
 exact hy _
theorem over_lists {sz o k:Nat} (hlen:∀ x,(enc x).length=sz) {L L2:List α} (h1:o+k≤L.length) (h2:k≤L2.length) (rest:List Value) :
 over (L.flatMap enc++rest) (o*sz) ((L2.take k).flatMap enc)=(L.take o++L2.take k++L.drop (o+k)).flatMap enc++rest:=by
 have hv:((L2.take k).flatMap enc).length=k*sz:=by rw [flat_len hlen,List.length_take,Nat.min_eq_left h2]
 have hl:(L.flatMap enc).length=L.length*sz:=flat_len hlen L
 have m1:(o+k)*sz≤L.length*sz:=Nat.mul_le_mul_right _ h1
 have m2:(o+k)*sz=o*sz+k*sz:=Nat.add_mul _ _ _
 unfold over
 rw [hv,←m2,List.take_append_of_le_length (by omega),List.drop_append_of_le_length (by omega),flat_take hlen,flat_drop hlen]
 simp [List.flatMap_append,List.append_assoc]
theorem backA_at {g mx lo sz:Nat} (h:lo<mx):backA (some ⟨g,0,none⟩) mx lo sz=some ⟨g,lo*sz,none⟩:=by
 unfold backA
 rw [if_neg (by omega)]
 simp [addr_add]
theorem go_copyE (hT:TbsOk P T) {dst:Option Tmp} {dT sT:TypeId} {x y:Operand} {ty:TypeId} {pos:String} {after:Array Edge} {gd:Option (Nat × Bool)} {g n c dl dc sl sc e et sz:Nat} {A1 A2:Option Addr} {B:Asn} (i o k:Nat) (s:Sum Nat Nat) (L L2 L3:List α)
 (hg:guardS ops st.fr ⟨dst,.call { callee:=.builtin .copy,args := #[x,y],argTypes := #[dT,sT] },ty,pos,after,gd⟩ = .run)
 (hx:(ev st.fr x).den = .slice A1 dl dc) (hxno:(ev st.fr x).isNo=false) (hy:(ev st.fr y).den = .slice A2 sl sc) (hyno:(ev st.fr y).isNo=false)
 (ht:(te T.tab dT).map (·.k)=some (.slice et)) (he':(te T.tab et).map (·.size)=some sz) (hpos:0<sz)
 (hi:st.res[i]? = some (.fact (Row e sz (some ⟨g,0,none⟩) n c (L.flatMap enc)))) (hA1:A1=some ⟨g,o*sz,none⟩)
 (hsrc:has st s B) (hB:∀ h,B.holds h→(Rd sz A2 sl (L2.flatMap enc)).holds h) (hlen:∀ x,(enc x).length=sz)
 (hk:k=Nat.min sl dl) (hfit:o+dl≤n) (h3:L.take o++L2.take k++L.drop (o+k)=L3)
 (h:Go P E (.o ops l::r) (St.put ⟨st.fr,st.res.set i (.fact (Row e sz (some ⟨g,0,none⟩) n c (L3.flatMap enc))),st.ro⟩ dst (.va (.int .i64 (k:Nat)))) Q) :
 Go P E (.o ops (⟨dst,.call { callee:=.builtin .copy,args := #[x,y],argTypes := #[dT,sT] },ty,pos,after,gd⟩::l)::r) st Q:=by
 subst h3 hA1
 refine Go.step fun a w hR=>⟨by have:=guard_spec hR.fr (ops:=ops) ⟨dst,.call { callee:=.builtin .copy,args := #[x,y],argTypes := #[dT,sT] },ty,pos,after,gd⟩;rw [hg] at this;exact this,?_⟩
 obtain ⟨hs,hi0,hres⟩:=hR.res
 have hlt:=(List.getElem?_eq_some_iff.1 hi).1
 obtain ⟨r1,r2,r3⟩:=hB _ (has_holds hsrc hres)
 obtain ⟨⟨rest,hl1,h11,hnc,hcm,hrl⟩,hs1,hres1⟩:=place_ghost hres [i] (M:=[Row e sz (some ⟨g,0,none⟩) n c (L.flatMap enc)])
  (X:={rest:List Value // (L.flatMap enc).length=n*sz∧(∀ v∈L.flatMap enc,v.oneCell'=true)∧n≤c∧c≤maxLen∧(L.flatMap enc).length+rest.length=c*sz})
  (fun rest=>[.fact (Blk g e (L.flatMap enc++rest.1))]) (by simp [asnAt_fact hi]) (by simp) (fun hh p=>by
   obtain ⟨p1,p2,p3⟩:=starH_one.1 p
   rcases p3 with ⟨p3,_⟩ | ⟨g',cur,p3,p4,p5,p6,p7,p8⟩
   · cases p3
   cases p3
   refine ⟨⟨cur.toList.drop (n*sz),p1,p2,p5,p6,?_⟩,starH_one.2 ?_⟩
   · have:=Nat.mul_le_mul_right sz p5
     simp only [List.length_drop,Array.length_toList,p7,p1]
     omega
   show hh g=some (.cells (L.flatMap enc++cur.toList.drop (n*sz)).toArray e (0,0))
   rw [p4,←p8,List.take_append_drop,Array.toArray_toList]) (fun _=>newsOk_fact (newsOk_nil _)) (fun _=>by rw [place_one hlt];exact blkLe_set _ hi)
 have hL:L.length=n:=by
  rw [flat_len hlen] at hl1
  exact Nat.eq_of_mul_eq_mul_right hpos hl1
 have hL2:L2.length=sl:=by
  rw [flat_len hlen] at r1
  exact Nat.eq_of_mul_eq_mul_right hpos r1
 have hk1:k≤sl:=by rw [hk];exact Nat.min_le_left _ _
 have hk2:k≤dl:=by rw [hk];exact Nat.min_le_right _ _
 obtain ⟨vs,hvs⟩:∃ vs,vs=(L2.take k).flatMap enc:=⟨_,rfl⟩
 have hvl:vs.length=k*sz:=by rw [hvs,flat_len hlen,List.length_take,Nat.min_eq_left (by omega)]
 have hv1:∀ v∈vs,v.oneCell'=true:=fun v hv=>by
  rw [hvs] at hv
  obtain ⟨z,hz,hv⟩:=List.mem_flatMap.1 hv
  exact r2 v (List.mem_flatMap.2 ⟨z,List.mem_of_mem_take hz,hv⟩)
 have hov:=over_lists (enc:=enc) (L:=L) (L2:=L2) (o:=o) (k:=k) hlen (by omega) (by omega) rest
 rw [←hvs] at hov
 dsimp only at hres1
 rw [place_one hlt] at hres1
 have hi2:=set_fact hi (.fact (Blk g e (L.flatMap enc++rest)))
 have hlt2:=(List.getElem?_eq_some_iff.1 hi2).1
 obtain ⟨hw,hs2,hres2⟩:=write_res hres1 i g e (L.flatMap enc++rest) ((L.take o++L2.take k++L.drop (o+k)).flatMap enc++rest) (asnAt_fact hi2) (by rw [place_one hlt2];exact blkLe_set _ hi2)
 rw [place_one hlt2,List.set_set] at hres2
 have hi3:=set_fact hi (.fact (Blk g e ((L.take o++L2.take k++L.drop (o+k)).flatMap enc++rest)))
 have hlt3:=(List.getElem?_eq_some_iff.1 hi3).1
 have hl3:((L.take o++L2.take k++L.drop (o+k)).flatMap enc).length=n*sz:=by
  rw [flat_len hlen]
  congr 1
  simp only [List.length_append,List.length_take,List.length_drop]
  omega
 obtain ⟨_,hs3,hres3⟩:=place_ghost hres2 [i] (M:=[Blk g e ((L.take o++L2.take k++L.drop (o+k)).flatMap enc++rest)]) (X:=Unit)
  (fun _=>[.fact (Row e sz (some ⟨g,0,none⟩) n c ((L.take o++L2.take k++L.drop (o+k)).flatMap enc))]) (congrArg (fun x=>[x]) (asnAt_fact hi3)) (by simp) (fun hh p=>⟨(),starH_one.2 (Row.close (starH_one.1 p) hl3 (fun v hv=>by
   obtain ⟨z,hz,hv⟩:=List.mem_flatMap.1 hv
   rcases List.mem_append.1 hz with hz | hz
   · rcases List.mem_append.1 hz with hz | hz
     · exact h11 v (List.mem_flatMap.2 ⟨z,List.mem_of_mem_take hz,hv⟩)
     exact r2 v (List.mem_flatMap.2 ⟨z,List.mem_of_mem_take hz,hv⟩)
   exact h11 v (List.mem_flatMap.2 ⟨z,List.mem_of_mem_drop hz,hv⟩)) hnc hcm (by rw [hl3,←hl1];exact hrl))⟩) (fun _=>newsOk_fact (newsOk_nil _)) (fun _=>by rw [place_one hlt3];exact blkLe_set _ hi3)
 rw [place_one hlt3,List.set_set] at hres3
 have hR':R E ⟨st.fr,st.res.set i (.fact (Row e sz (some ⟨g,0,none⟩) n c ((L.take o++L2.take k++L.drop (o+k)).flatMap enc))),st.ro⟩ a (w.setRow g ((L.take o++L2.take k++L.drop (o+k)).flatMap enc++rest).toArray):=⟨hR.fr.mono (blkLe_spec (blkLe_set _ hi)),hs3,hi0,hres3⟩
 refine wp_value (w':=w.setRow g ((L.take o++L2.take k++L.drop (o+k)).flatMap enc++rest).toArray) (v:=.int .i64 (k:Nat)) ?_ (h _ _ (hR'.put dst (SV.is_den (.va (.int .i64 (k:Nat)))) trivial))
 obtain ⟨e1,he1,hsz⟩:∃ e,te T.tab et=some e∧e.size=sz:=by
  cases hq:te T.tab et with
  | none=>rw [hq] at he';cases he'
  | some e=>rw [hq] at he';exact ⟨e,rfl,by simpa using he'⟩
 subst hsz
 cases htt:te T.tab dT with
 | none=>rw [htt] at ht;cases ht
 |
  some et' =>
  rw [htt] at ht
  simp at ht
  obtain ⟨ii,u,zz,hii,hu,hz',hk',_⟩:=te_spec hT.tab htt
  obtain ⟨i2,u2,z2,hi2',hu2,hz2,hk2',hs2',_⟩:=te_spec hT.tab he1
  rw [ht] at hk'
  cases u<;>simp [tkOf] at hk'
  subst hk'
  have hrun:=run_copy_rows (P:=P) w dT sT ty et g (o*e1.size) dl dc A2 sl sc e1.size (L.flatMap enc++rest).toArray e vs hu (by rw [hi2'];simp [hs2']) hw (by rw [hvl,hk]) (by
   rcases Nat.eq_zero_or_pos sl with h0 | h0
   · cases A2 with
     | none=>exact .inl ⟨rfl,h0⟩
     | some a2=>exact .inr ⟨a2,rfl,fun j v hj=>by
      rw [List.eq_nil_of_length_eq_zero (show vs.length=0 by rw [hvl,show k=0 by omega,Nat.zero_mul])] at hj
      cases hj⟩
   obtain ⟨g2,o2,cur2,e2,fz,q1,q2,q3⟩:=r3 h0
   refine .inr ⟨_,q1,fun j v hj=>?_⟩
   have q4:w.heap[g2]? = some (.cells cur2 e2 fz):=q2
   rw [addr_add,cell_of_row w g2 _ _ e2 _ q4]
   have q5:vs=(cur2.toList.drop o2).take (k*e1.size):=by
    rw [hvs,←flat_take hlen,←q3,List.take_take,Nat.min_eq_left (Nat.mul_le_mul_right _ hk1)]
   rw [q5,List.getElem?_take] at hj
   split at hj
   · rw [List.getElem?_drop] at hj
     simpa using hj
   cases hj) (by simp only [List.size_toArray,List.length_append];rw [hvl,hl1,←Nat.add_mul];have:=Nat.mul_le_mul_right e1.size (show o+k≤n by omega);omega) hv1
  rw [show over (L.flatMap enc++rest).toArray.toList (o*e1.size) vs=(L.take o++L2.take k++L.drop (o+k)).flatMap enc++rest from hov] at hrun
  simp [execOp,resolve,invoke,builtin,SV.den_of_is (ev_is hR.fr x) (fun e=>by rw [e] at hxno;cases hxno),SV.den_of_is (ev_is hR.fr y) (fun e=>by rw [e] at hyno;cases hyno),hx,hy,hrun,←hk]
end
section
variable {P:Program} {T:Tbs} {E:Entry} {Q:Exit→St→Prop} {ops:Array Oper} {l:List Oper} {r:List It} {st:St} {α:Type} {enc:α→List Value}
theorem go_cap (hT:TbsOk P T) {dst:Option Tmp} {t:TypeId} {x:Operand} {ty:TypeId} {pos:String} {after:Array Edge} {gd:Option (Nat × Bool)} {A:Option Addr} {n c et:Nat}
 (hg:guardS ops st.fr ⟨dst,.call { callee:=.builtin .cap,args := #[x],argTypes := #[t] },ty,pos,after,gd⟩ = .run) (hx:(ev st.fr x).den = .slice A n c) (hxno:(ev st.fr x).isNo=false)
 (ht:(te T.tab t).map (·.k)=some (.slice et))
 (h:Go P E (.o ops l::r) (st.put dst (.va (.int .i64 (c:Nat)))) Q):Go P E (.o ops (⟨dst,.call { callee:=.builtin .cap,args := #[x],argTypes := #[t] },ty,pos,after,gd⟩::l)::r) st Q :=
 go_val (o:=⟨dst,.call { callee:=.builtin .cap,args := #[x],argTypes := #[t] },ty,pos,after,gd⟩) hg (.va (.int .i64 (c:Nat))) trivial (fun a w hR=>by
  cases htt:te T.tab t with
  | none=>rw [htt] at ht;cases ht
  |
   some et' =>
   rw [htt] at ht
   simp at ht
   obtain ⟨ii,u,zz,hii,hu,hz',hk,_⟩:=te_spec hT.tab htt
   rw [ht] at hk
   cases u<;>simp [tkOf] at hk
   simp [execOp,resolve,invoke,builtin,Builtin.cap_,SV.den_of_is (ev_is hR.fr x) (fun e=>by rw [e] at hxno;cases hxno),hx,run_underlying hu,goInt,SV.den]) h
theorem made_flat {z:Array Value} {sz c:Nat} (hz:z.size=sz):(madeCells z (c*sz)).toList=(List.replicate c ()).flatMap fun _=>z.toList:=by
 apply List.ext_getElem?
 intro k
 rw [Array.getElem?_toList]
 have hL:((List.replicate c ()).flatMap fun _=>z.toList).length=c*sz:=by
  rw [flat_len (sz:=sz) (fun _=>by simp [hz])];simp
 rcases Nat.lt_or_ge k (c*sz) with hk | hk
 · have hp:0<sz:=by
    rcases Nat.eq_zero_or_pos sz with h0 | h0
    · rw [h0] at hk;simp at hk
    exact h0
   have hq:k / sz<c:=by
    rw [Nat.div_lt_iff_lt_mul hp];exact hk
   have hm:k % sz<z.size:=by rw [hz];exact Nat.mod_lt _ hp
   have h1:=flat_drop (enc:=fun _:Unit=>z.toList) (sz:=sz) (fun _=>by simp [hz]) (List.replicate c ()) (k / sz)
   have h2:(((List.replicate c ()).flatMap fun _=>z.toList).drop (k / sz*sz))[k % sz]? = z[k % sz]? := by
    rw [h1,List.drop_replicate]
    obtain ⟨q,hq'⟩:∃ q,c-k / sz=q+1:=⟨c-k / sz-1,by omega⟩
    rw [hq',List.replicate_succ,List.flatMap_cons,List.getElem?_append_left (by simpa using hm),Array.getElem?_toList]
   rw [List.getElem?_drop,Nat.div_add_mod'] at h2
   rw [h2,madeCells,Array.getElem?_map,Array.getElem?_eq_getElem (by simpa using hk),Array.getElem?_eq_getElem hm]
   simp only [Option.map_some,Array.getElem_range,hz]
   rw [getElem!_pos _ _ (by rw [←hz] at *;exact hm)]
 rw [Array.getElem?_eq_none (by simpa [madeCells] using hk),List.getElem?_eq_none (by rw [hL];exact hk)]
theorem zero_made (z:Array Value) (n:Nat):Builtin.zeroCells z n=madeCells z (n*z.size):=rfl
theorem run_append_zeros (w:World) (t tn ty e:TypeId) (i:TypeInfo) (z:Value) (k kn:IntKind) (ht:P.underlying t=some (.slice e)) (htn:P.underlying tn=some (.int kn)) (hi:P.info? e=some i) (hz:i.zero=some z)
 (A:Option Addr) (n c q:Nat) (old:List Value) (hold:old.length=n*i.size) (hsrc:A=none∧n=0∨∃ a,A=some a∧∀ j v,old[j]? = some v→w.cell? (a.add j)=some v)
 (hq:0<q) (hneed:c<n+q) (hs:0<i.size) (h63:n+q≤maxLen) (h48:(n+q)*i.bytes≤140737488355328) :
 (Builtin.append_ #[t,tn] ty #[.slice A n c,.int k (q:Int)]).run P w =
  .ok (.slice (some ⟨w.heap.size,0,none⟩) (n+q) (grownCap w (n+q) c e)) (w.drew.alloc (.cells (old.toArray++Builtin.zeroCells z.cells q++Builtin.zeroCells z.cells (grownCap w (n+q) c e-(n+q))) e)):=by
 have hm:maxLen=9223372036854775807:=rfl
 rw [hm] at h63
 have hw:IntKind.i64.wrap (q:Int)=q:=by rw [IntKind.wrap_i64];omega
 have h63':¬ (9223372036854775807<(n:Int)+(q:Int)):=by omega
 have h48a:=growslice_fits (bytes:=i.bytes) hneed h48
 have h48':¬ (281474976710656<Builtin.nextslicecap (n+q) c*i.bytes):=by omega
 have h48i:¬ (281474976710656<(q:Int)*(i.bytes:Int)):=by
  rw [←Int.natCast_mul]
  have:q*i.bytes≤(n+q)*i.bytes:=Nat.mul_le_mul_right _ (by omega)
  omega
 have hneg:¬ ((q:Int)<0):=by omega
 have hns:¬ (q*i.size=0):=Nat.mul_ne_zero (by omega) (by omega)
 have hfit:¬ (n+q≤c):=by omega
 have hold':∀ W,(∀ x,W.cell? x=w.cell? x)→(Builtin.firstCells i.size n (.slice A n c)).run P W = .ok old.toArray W:=fun W hW=>by
  rcases hsrc with ⟨rfl,h0⟩ | ⟨a,rfl,h1⟩
  · subst h0
    have:old=[]:=List.eq_nil_of_length_eq_zero (by simpa using hold)
    subst this
    simp [Builtin.firstCells]
  have:=run_loadCells_list (P:=P) W a old (fun j v hj=>by rw [hW];exact h1 j v hj)
  rw [hold] at this
  simp [Builtin.firstCells,this]
 simp [Builtin.append_,run_underlying ht,run_underlying htn,sizeOf,typeInfo,zeroValue,hi,hz,asInt,asIntOf,hw,hneg,hns,h63',h48',h48i,hfit,Question.forced,hold' w.drew (fun _=>rfl),newRow,grownCap]
theorem flat_unit {z:α} {zs:List Value} (hz:enc z=zs) (q:Nat):(List.replicate q z).flatMap enc=(List.replicate q ()).flatMap fun _=>zs:=by
 induction q with
 | zero=>rfl
 | succ q ih=>rw [List.replicate_succ,List.replicate_succ,List.flatMap_cons,List.flatMap_cons,ih,hz]
theorem go_appendZ (hT:TbsOk P T) {dst:Option Tmp} {s x:Operand} {t tn ty:TypeId} {pos:String} {after:Array Edge} {gd:Option (Nat × Bool)} {A:Option Addr} {n c q:Nat} {k kn:IntKind} {zq:Int} {et sz bts:Nat} {zs:List Value} {B:Asn} (src:Sum Nat Nat) (L L3:List α) (z:α) (n':Nat)
 (hg:guardS ops st.fr ⟨dst,.call { callee:=.builtin .append,args := #[s,x],argTypes := #[t,tn] },ty,pos,after,gd⟩ = .run)
 (hs:(ev st.fr s).den = .slice A n c) (hsno:(ev st.fr s).isNo=false) (hx:ev st.fr x = .va (.int k zq)) (hzq:zq=(q:Int))
 (ht:(te T.tab t).map (·.k)=some (.slice et)) (htn:(te T.tab tn).map (·.k)=some (.int kn)) (he':(te T.tab et).map (fun e=>(e.size,e.bytes,e.zero))=some (sz,bts,zs)) (hpos:0<sz) (hlen:∀ x,(enc x).length=sz) (hz:enc z=zs) (hzone:zs.all Value.oneCell'=true)
 (hsrc:has st src B) (hB:∀ h,B.holds h→(Rd sz A n (L.flatMap enc)).holds h) (hq:0<q) (hneed:c<n+q)
 (h3:L++List.replicate q z=L3) (hn':n'=n+q) (hmax:n+q≤maxLen) (hbytes:(n+q)*bts≤140737488355328)
 (hb:∀ b c2,blkLe st.res (place st.res [] [.fact (Row et sz (some ⟨b,0,none⟩) n' c2 (L3.flatMap enc))]))
 (h:∀ b c2,n'≤c2→Go P E (.o ops l::r) (St.put ⟨st.fr,place st.res [] [.fact (Row et sz (some ⟨b,0,none⟩) n' c2 (L3.flatMap enc))],st.ro⟩ dst (.va (.slice (some ⟨b,0,none⟩) n' c2))) Q) :
 Go P E (.o ops (⟨dst,.call { callee:=.builtin .append,args := #[s,x],argTypes := #[t,tn] },ty,pos,after,gd⟩::l)::r) st Q:=by
 subst h3 hn' hzq
 obtain ⟨e,he,hsz,hbts,hzz⟩:∃ e,te T.tab et=some e∧e.size=sz∧e.bytes=bts∧e.zero=zs:=by
  cases hq:te T.tab et with
  | none=>rw [hq] at he';cases he'
  |
   some e =>
   rw [hq] at he'
   simp only [Option.map_some,Option.some.injEq,Prod.mk.injEq] at he'
   exact ⟨e,rfl,he'.1,he'.2.1,he'.2.2⟩
 subst hsz hbts hzz
 refine Go.step fun a w hR=>⟨by have:=guard_spec hR.fr (ops:=ops) ⟨dst,.call { callee:=.builtin .append,args := #[s,x],argTypes := #[t,tn] },ty,pos,after,gd⟩;rw [hg] at this;exact this,?_⟩
 obtain ⟨hs',hi',hres⟩:=hR.res
 obtain ⟨r1,r2,r3⟩:=hB _ (has_holds hsrc hres)
 cases htt:te T.tab t with
 | none=>rw [htt] at ht;cases ht
 | some et' =>
 cases htn2:te T.tab tn with
 | none=>rw [htn2] at htn;cases htn
 |
  some etn =>
  rw [htt] at ht
  simp at ht
  rw [htn2] at htn
  simp at htn
  obtain ⟨ii,u,zz,hii,hu,hz',hk,_⟩:=te_spec hT.tab htt
  obtain ⟨ii3,u3,zz3,hii3,hu3,hz3',hk3,_⟩:=te_spec hT.tab htn2
  obtain ⟨i2,u2,zv,hi2,hu2,hzv,hk2,hs2,hb2,hz2'⟩:=te_spec hT.tab he
  rw [ht] at hk
  cases u<;>simp [tkOf] at hk
  subst hk
  rw [htn] at hk3
  cases u3<;>simp [tkOf] at hk3
  subst hk3
  have hzl:zv.cells.size=e.size:=by
   have:=hlen z
   rw [hz,hz2'] at this
   simpa using this
  have hrun:=run_append_zeros (P:=P) w t tn ty et i2 zv k kn hu hu3 hi2 hzv A n c q (L.flatMap enc) (by rw [←hs2];exact r1) (by
   rcases Nat.eq_zero_or_pos n with h0 | h0
   · cases A with
     | none=>exact .inl ⟨rfl,h0⟩
     | some a2=>exact .inr ⟨a2,rfl,fun j v hj=>by
      rw [List.eq_nil_of_length_eq_zero (show (L.flatMap enc).length=0 by rw [r1,h0,Nat.zero_mul])] at hj
      cases hj⟩
   obtain ⟨g2,o2,cur2,e2,fz,q1,q2,q3⟩:=r3 h0
   refine .inr ⟨_,q1,fun j v hj=>?_⟩
   have q4:w.heap[g2]? = some (.cells cur2 e2 fz):=q2
   rw [addr_add,cell_of_row w g2 _ _ e2 _ q4]
   rw [←q3,List.getElem?_take] at hj
   split at hj
   · rw [List.getElem?_drop] at hj
     simpa using hj
   cases hj) hq hneed (by rw [←hs2];exact hpos) hmax (by rw [←hb2];exact hbytes)
  obtain ⟨C,hC⟩:∃ C,C=grownCap w (n+q) c et:=⟨_,rfl⟩
  have hC1:n+q≤C:=by rw [hC];exact grownCap_ge w _ _ _
  have hC2:C≤maxLen:=by rw [hC];exact grownCap_le_maxLen w _ _ _ hmax
  rw [←hC] at hrun
  have hcells:((L.flatMap enc).toArray++Builtin.zeroCells zv.cells q++Builtin.zeroCells zv.cells (C-(n+q))).toList=(L++List.replicate q z).flatMap enc++(List.replicate (C-(n+q)) ()).flatMap (fun _=>e.zero):=by
   rw [Array.toList_append,Array.toList_append,zero_made,zero_made,hzl,made_flat hzl,made_flat hzl,List.flatMap_append,flat_unit hz,hz2']
  have hlL:((L++List.replicate q z).flatMap enc).length=(n+q)*e.size:=by
   rw [List.flatMap_append,List.length_append,r1,flat_len hlen,List.length_replicate,Nat.add_mul]
  have hR2:=place_ok hres [] Hp.emp (fun b hb=>absurd rfl hb) [.fact (Row et e.size (some ⟨w.heap.size,0,none⟩) (n+q) C ((L++List.replicate q z).flatMap enc))] (Hp.one w.heap.size (.cells ((L.flatMap enc).toArray++Builtin.zeroCells zv.cells q++Builtin.zeroCells zv.cells (C-(n+q))) et)) ?_ (Hp.one_le (hp_alloc w.drew _)) ((⟨rfl,rfl,rfl,Nat.le_refl _,fun _ _ _=>rfl⟩:Ext Hp.emp w w.drew).trans (Ext.alloc w.drew _)) (fun b hb'=>?_) (newsOk_fact (newsOk_nil _)) (hb _ _)
  · obtain ⟨hs2',hres2⟩:=hR2
    refine wp_value (v:=.slice (some ⟨w.heap.size,0,none⟩) (n+q) C) (w':=w.drew.alloc (.cells ((L.flatMap enc).toArray++Builtin.zeroCells zv.cells q++Builtin.zeroCells zv.cells (C-(n+q))) et)) ?_ (h w.heap.size C hC1 _ _ ?_)
    · have h1:a.eval x = .int k (q:Int):=by rw [ev_denv hR.fr hx rfl];rfl
      simp [execOp,resolve,invoke,builtin,SV.den_of_is (ev_is hR.fr s) (fun e=>by rw [e] at hsno;cases hsno),hs,h1,hrun]
    have hR':R E ⟨st.fr,place st.res [] [.fact (Row et e.size (some ⟨w.heap.size,0,none⟩) (n+q) C ((L++List.replicate q z).flatMap enc))],st.ro⟩ a (w.drew.alloc (.cells ((L.flatMap enc).toArray++Builtin.zeroCells zv.cells q++Builtin.zeroCells zv.cells (C-(n+q))) et)):=⟨hR.fr.mono (blkLe_spec (hb _ _)),hs2',hi',hres2⟩
    exact hR'.put dst (x:=.va (.slice (some ⟨w.heap.size,0,none⟩) (n+q) C)) rfl trivial
  · refine starH_one.2 ⟨hlL,fun v hv=>?_,.inr ⟨w.heap.size,_,rfl,Hp.one_self _ _,hC1,hC2,?_,?_⟩⟩
    · rw [List.flatMap_append] at hv
      rcases List.mem_append.1 hv with hv | hv
      · exact r2 v hv
      rw [flat_unit hz] at hv
      obtain ⟨_,_,hv⟩:=List.mem_flatMap.1 hv
      exact List.all_eq_true.1 hzone v hv
    · rw [←Array.length_toList,hcells,List.length_append,hlL,flat_len (sz:=e.size) (fun _=>by rw [←hz];exact hlen z),List.length_replicate,←Nat.add_mul]
      congr 1
      omega
    rw [hcells,←hlL,List.take_append_of_le_length (Nat.le_refl _),List.take_length]
  right
  by_cases e:b=w.heap.size
  · omega
  exact absurd (Hp.one_none e) hb'
theorem go_copyX (hT:TbsOk P T) {dst:Option Tmp} {dT sT:TypeId} {x y:Operand} {ty:TypeId} {pos:String} {after:Array Edge} {gd:Option (Nat × Bool)} {g n c dl dc sl sc e et sz:Nat} {A1 A2:Option Addr} {B:Asn} (i o k:Nat) (s:Sum Nat Nat) (L L2 L3:List α)
 (hg:guardS ops st.fr ⟨dst,.call { callee:=.builtin .copy,args := #[x,y],argTypes := #[dT,sT] },ty,pos,after,gd⟩ = .run)
 (hx:(ev st.fr x).den = .slice A1 dl dc) (hxno:(ev st.fr x).isNo=false) (hy:(ev st.fr y).den = .slice A2 sl sc) (hyno:(ev st.fr y).isNo=false)
 (ht:(te T.tab dT).map (·.k)=some (.slice et)) (he':(te T.tab et).map (·.size)=some sz) (hpos:0<sz)
 (hi:st.res[i]? = some (.fact (Row e sz (some ⟨g,0,none⟩) n c (L.flatMap enc)))) (hA1:A1=some ⟨g,o*sz,none⟩)
 (hsrc:has st s B) (hB:∀ h,B.holds h→(Rd sz A2 k (L2.flatMap enc)).holds h) (hlen:∀ x,(enc x).length=sz)
 (hk:k=Nat.min sl dl) (h0k:0<k) (ho:o≤n) (hover:n≤o+k) (hfit:o+k≤c) (n':Nat) (hn':n'=o+k) (h3:L.take o++L2=L3)
 (h:Go P E (.o ops l::r) (St.put ⟨st.fr,st.res.set i (.fact (Row e sz (some ⟨g,0,none⟩) n' c (L3.flatMap enc))),st.ro⟩ dst (.va (.int .i64 (k:Nat)))) Q) :
 Go P E (.o ops (⟨dst,.call { callee:=.builtin .copy,args := #[x,y],argTypes := #[dT,sT] },ty,pos,after,gd⟩::l)::r) st Q:=by
 subst h3 hA1 hn'
 refine Go.step fun a w hR=>⟨by have:=guard_spec hR.fr (ops:=ops) ⟨dst,.call { callee:=.builtin .copy,args := #[x,y],argTypes := #[dT,sT] },ty,pos,after,gd⟩;rw [hg] at this;exact this,?_⟩
 obtain ⟨hs,hi0,hres⟩:=hR.res
 have hlt:=(List.getElem?_eq_some_iff.1 hi).1
 obtain ⟨r1,r2,r3⟩:=hB _ (has_holds hsrc hres)
 obtain ⟨⟨rest,hl1,h11,hnc,hcm,hrl⟩,hs1,hres1⟩:=place_ghost hres [i] (M:=[Row e sz (some ⟨g,0,none⟩) n c (L.flatMap enc)])
  (X:={rest:List Value // (L.flatMap enc).length=n*sz∧(∀ v∈L.flatMap enc,v.oneCell'=true)∧n≤c∧c≤maxLen∧(L.flatMap enc).length+rest.length=c*sz})
  (fun rest=>[.fact (Blk g e (L.flatMap enc++rest.1))]) (by simp [asnAt_fact hi]) (by simp) (fun hh p=>by
   obtain ⟨p1,p2,p3⟩:=starH_one.1 p
   rcases p3 with ⟨p3,_⟩ | ⟨g',cur,p3,p4,p5,p6,p7,p8⟩
   · cases p3
   cases p3
   refine ⟨⟨cur.toList.drop (n*sz),p1,p2,p5,p6,?_⟩,starH_one.2 ?_⟩
   · have:=Nat.mul_le_mul_right sz p5
     simp only [List.length_drop,Array.length_toList,p7,p1]
     omega
   show hh g=some (.cells (L.flatMap enc++cur.toList.drop (n*sz)).toArray e (0,0))
   rw [p4,←p8,List.take_append_drop,Array.toArray_toList]) (fun _=>newsOk_fact (newsOk_nil _)) (fun _=>by rw [place_one hlt];exact blkLe_set _ hi)
 have hL:L.length=n:=by
  rw [flat_len hlen] at hl1
  exact Nat.eq_of_mul_eq_mul_right hpos hl1
 have hL2:L2.length=k:=by
  rw [flat_len hlen] at r1
  exact Nat.eq_of_mul_eq_mul_right hpos r1
 have hk1:k≤sl:=by rw [hk];exact Nat.min_le_left _ _
 have hk2:k≤dl:=by rw [hk];exact Nat.min_le_right _ _
 obtain ⟨vs,hvs⟩:∃ vs,vs=L2.flatMap enc:=⟨_,rfl⟩
 have hvl:vs.length=k*sz:=by rw [hvs,flat_len hlen,hL2]
 have hv1:∀ v∈vs,v.oneCell'=true:=fun v hv=>by
  rw [hvs] at hv
  exact r2 v hv
 obtain ⟨rest2,hrest2⟩:∃ x,x=rest.drop ((o+k-n)*sz):=⟨_,rfl⟩
 have hov:over (L.flatMap enc++rest) (o*sz) vs=(L.take o++L2).flatMap enc++rest2:=by
  have m2:(o+k)*sz=o*sz+k*sz:=Nat.add_mul _ _ _
  have m3:o*sz≤n*sz:=Nat.mul_le_mul_right _ ho
  have m4:(o+k-n)*sz=(o+k)*sz-n*sz:=Nat.sub_mul _ _ _
  have m5:n*sz≤(o+k)*sz:=Nat.mul_le_mul_right _ hover
  unfold over
  rw [hvl,←m2,List.take_append_of_le_length (by omega),flat_take hlen,List.drop_append,List.drop_of_length_le (by omega),hvs,hrest2,hl1,m4,List.flatMap_append]
  rfl
 dsimp only at hres1
 rw [place_one hlt] at hres1
 have hi2:=set_fact hi (.fact (Blk g e (L.flatMap enc++rest)))
 have hlt2:=(List.getElem?_eq_some_iff.1 hi2).1
 obtain ⟨hw,hs2,hres2⟩:=write_res hres1 i g e (L.flatMap enc++rest) ((L.take o++L2).flatMap enc++rest2) (asnAt_fact hi2) (by rw [place_one hlt2];exact blkLe_set _ hi2)
 rw [place_one hlt2,List.set_set] at hres2
 have hi3:=set_fact hi (.fact (Blk g e ((L.take o++L2).flatMap enc++rest2)))
 have hlt3:=(List.getElem?_eq_some_iff.1 hi3).1
 have hl3:((L.take o++L2).flatMap enc).length=(o+k)*sz:=by
  rw [flat_len hlen]
  congr 1
  simp only [List.length_append,List.length_take]
  omega
 have hrl3:((L.take o++L2).flatMap enc).length+rest2.length=c*sz:=by
  have m3:(o+k)*sz≤c*sz:=Nat.mul_le_mul_right _ hfit
  have m4:(o+k-n)*sz=(o+k)*sz-n*sz:=Nat.sub_mul _ _ _
  have m5:n*sz≤(o+k)*sz:=Nat.mul_le_mul_right _ hover
  rw [hl3,hrest2,List.length_drop,m4]
  omega
 obtain ⟨_,hs3,hres3⟩:=place_ghost hres2 [i] (M:=[Blk g e ((L.take o++L2).flatMap enc++rest2)]) (X:=Unit)
  (fun _=>[.fact (Row e sz (some ⟨g,0,none⟩) (o+k) c ((L.take o++L2).flatMap enc))]) (congrArg (fun x=>[x]) (asnAt_fact hi3)) (by simp) (fun hh p=>⟨(),starH_one.2 (Row.close (starH_one.1 p) hl3 (fun v hv=>by
   obtain ⟨z,hz,hv⟩:=List.mem_flatMap.1 hv
   rcases List.mem_append.1 hz with hz | hz
   · exact h11 v (List.mem_flatMap.2 ⟨z,List.mem_of_mem_take hz,hv⟩)
   exact r2 v (List.mem_flatMap.2 ⟨z,hz,hv⟩)) hfit hcm hrl3)⟩) (fun _=>newsOk_fact (newsOk_nil _)) (fun _=>by rw [place_one hlt3];exact blkLe_set _ hi3)
 rw [place_one hlt3,List.set_set] at hres3
 have hR':R E ⟨st.fr,st.res.set i (.fact (Row e sz (some ⟨g,0,none⟩) (o+k) c ((L.take o++L2).flatMap enc))),st.ro⟩ a (w.setRow g ((L.take o++L2).flatMap enc++rest2).toArray):=⟨hR.fr.mono (blkLe_spec (blkLe_set _ hi)),hs3,hi0,hres3⟩
 refine wp_value (w':=w.setRow g ((L.take o++L2).flatMap enc++rest2).toArray) (v:=.int .i64 (k:Nat)) ?_ (h _ _ (hR'.put dst (SV.is_den (.va (.int .i64 (k:Nat)))) trivial))
 obtain ⟨e1,he1,hsz⟩:∃ e,te T.tab et=some e∧e.size=sz:=by
  cases hq:te T.tab et with
  | none=>rw [hq] at he';cases he'
  | some e=>rw [hq] at he';exact ⟨e,rfl,by simpa using he'⟩
 subst hsz
 cases htt:te T.tab dT with
 | none=>rw [htt] at ht;cases ht
 |
  some et' =>
  rw [htt] at ht
  simp at ht
  obtain ⟨ii,u,zz,hii,hu,hz',hk',_⟩:=te_spec hT.tab htt
  obtain ⟨i2,u2,z2,hi2',hu2,hz2,hk2',hs2',_⟩:=te_spec hT.tab he1
  rw [ht] at hk'
  cases u<;>simp [tkOf] at hk'
  subst hk'
  have hrun:=run_copy_rows (P:=P) w dT sT ty et g (o*e1.size) dl dc A2 sl sc e1.size (L.flatMap enc++rest).toArray e vs hu (by rw [hi2'];simp [hs2']) hw (by rw [hvl,hk]) (by
   obtain ⟨g2,o2,cur2,e2,fz,q1,q2,q3⟩:=r3 h0k
   refine .inr ⟨_,q1,fun j v hj=>?_⟩
   have q4:w.heap[g2]? = some (.cells cur2 e2 fz):=q2
   rw [addr_add,cell_of_row w g2 _ _ e2 _ q4]
   have q5:vs=(cur2.toList.drop o2).take (k*e1.size):=by
    rw [hvs,←q3]
   rw [q5,List.getElem?_take] at hj
   split at hj
   · rw [List.getElem?_drop] at hj
     simpa using hj
   cases hj) (by simp only [List.size_toArray,List.length_append];rw [hvl,hrl,←Nat.add_mul];exact Nat.mul_le_mul_right e1.size hfit) hv1
  rw [show over (L.flatMap enc++rest).toArray.toList (o*e1.size) vs=(L.take o++L2).flatMap enc++rest2 from hov] at hrun
  simp [execOp,resolve,invoke,builtin,SV.den_of_is (ev_is hR.fr x) (fun e=>by rw [e] at hxno;cases hxno),SV.den_of_is (ev_is hR.fr y) (fun e=>by rw [e] at hyno;cases hyno),hx,hy,hrun,←hk]
theorem go_ext {dst:Option Tmp} {f:FuncId} {fn:Func} {e:Array Value→Sem Value} {args:Array Operand} {ts:Array TypeId} {ty:TypeId} {pos:String} {after:Array Edge} {gd:Option (Nat × Bool)}
 (hf:P.funcs[f]? = some fn) (hname:(fn.name == "runtime.NumGoroutine")=false) (hb:fn.body.isNone=true) (hn:Extern.findNext fn=none) (he:Extern.find fn=some e)
 (hg:guardS ops st.fr ⟨dst,.call { callee:=.value (.func f),args:=args,argTypes:=ts },ty,pos,after,gd⟩ = .run) (x:SV) (hx:x.good (blkAt st.res))
 (hrun:∀ a w,R E st a w→(e (args.map a.eval)).run P w = .ok x.den w)
 (h:Go P E (.o ops l::r) (st.put dst x) Q):Go P E (.o ops (⟨dst,.call { callee:=.value (.func f),args:=args,argTypes:=ts },ty,pos,after,gd⟩::l)::r) st Q :=
 go_val (o:=⟨dst,.call { callee:=.value (.func f),args:=args,argTypes:=ts },ty,pos,after,gd⟩) hg x hx (fun a w hR=>by
  have h1:=run_callFunc_extern hf hname hb hn he (args.map a.eval) w
  rw [hrun a w hR] at h1
  have h2:a.eval (.func f) = .func (.func f) #[] #[]:=rfl
  have h3:(callFunc f (#[]++args.map a.eval ++ #[])).run P w = .ok (.value x.den) w:=by simpa using h1
  simp only [execOp,resolve,Deferred.ofValue,h2,invoke,Sem.run_bind,Sem.run_pure,Result.andThen_ok,h3]) h
theorem go_overlaps (hT:TbsOk P T) {dst:Option Tmp} {f:FuncId} {fn:Func} {x y:Operand} {tS tR:TypeId} {ts:Array TypeId} {ty:TypeId} {pos:String} {after:Array Edge} {gd:Option (Nat × Bool)} {vb g o m vc lb cb e1 e2 et sz n c:Nat} {cs1 cs2:List Value} (i j:Nat)
 (hf:P.funcs[f]? = some fn) (hname:(fn.name == "runtime.NumGoroutine")=false) (hb:fn.body.isNone=true) (hn:Extern.findNext fn=none) (he:Extern.find fn=some (Extern.SlicesOverlaps.overlaps #[tS,tS] #[tR]))
 (hg:guardS ops st.fr ⟨dst,.call { callee:=.value (.func f),args := #[x,y],argTypes:=ts },ty,pos,after,gd⟩ = .run)
 (hx:(ev st.fr x).den = .slice (some ⟨vb,0,none⟩) m vc) (hxno:(ev st.fr x).isNo=false) (hy:(ev st.fr y).den = .slice (some ⟨g,o,none⟩) lb cb) (hyno:(ev st.fr y).isNo=false)
 (ht:(te T.tab tS).map (·.k)=some (.slice et)) (he':(te T.tab et).map (·.size)=some sz) (hij:i≠j)
 (hi:asnAt st.res i=some (Pt vb e1 cs1)) (hj:st.res[j]? = some (.fact (Row e2 sz (some ⟨g,0,none⟩) n c cs2))) (hc:0<c*sz)
 (h:Go P E (.o ops l::r) (st.put dst (.bl false)) Q):Go P E (.o ops (⟨dst,.call { callee:=.value (.func f),args := #[x,y],argTypes:=ts },ty,pos,after,gd⟩::l)::r) st Q:=by
 refine go_ext hf hname hb hn he hg (.bl false) trivial (fun a w hR=>?_) h
 obtain ⟨hs,hi0,hres⟩:=hR.res
 obtain ⟨z,hz,hz2⟩:=asnAt_spec hi
 have q1:(hs i) vb=some (.cells cs1.toArray e1 (0,0)):=by
  have:=hres.holds i z hz
  rw [hz2] at this
  exact this.1
 have q2:=(hres.holds j _ hj).2.2
 obtain ⟨g',cur,p1,p2,p3,p4,p5,p6⟩:∃ g' cur,(some ⟨g,0,none⟩:Option Addr)=some ⟨g',0,none⟩∧(hs j) g'=some (.cells cur e2 (0,0))∧n≤c∧c≤maxLen∧cur.size=c*sz∧cur.toList.take (n*sz)=cs2:=by
  rcases q2 with ⟨q2,_⟩ | q2
  · cases q2
  exact q2
 cases p1
 have hne:vb≠g:=fun e=>by
  subst e
  have:=hres.dis i j hij vb
  rcases this with h1 | h1
  · rw [q1] at h1;cases h1
  rw [p2] at h1;cases h1
 have w1:w.heap[vb]? = some (.cells cs1.toArray e1 (0,0)):=hres.le i _ _ q1
 have w2:w.heap[g]? = some (.cells cur e2 (0,0)):=hres.le j _ _ p2
 obtain ⟨e1',he1,hsz⟩:∃ e,te T.tab et=some e∧e.size=sz:=by
  cases hq:te T.tab et with
  | none=>rw [hq] at he';cases he'
  | some e=>rw [hq] at he';exact ⟨e,rfl,by simpa using he'⟩
 subst hsz
 cases htt:te T.tab tS with
 | none=>rw [htt] at ht;cases ht
 |
  some et' =>
  rw [htt] at ht
  simp at ht
  obtain ⟨ii,u,zz,hii,hu,hz',hk',_⟩:=te_spec hT.tab htt
  obtain ⟨i2,u2,z2,hi2',hu2,hz2,hk2',hs2',_⟩:=te_spec hT.tab he1
  rw [ht] at hk'
  cases u<;>simp [tkOf] at hk'
  subst hk'
  have h1:a.eval x = .slice (some ⟨vb,0,none⟩) m vc:=by rw [←hx];exact SV.den_of_is (ev_is hR.fr x) (fun e=>by rw [e] at hxno;cases hxno)
  have h2:a.eval y = .slice (some ⟨g,o,none⟩) lb cb:=by rw [←hy];exact SV.den_of_is (ev_is hR.fr y) (fun e=>by rw [e] at hyno;cases hyno)
  have:=Lib.run_overlaps_apart (P:=P) w tS tR et hu e1'.size (fun w=>by simp [sizeOf,typeInfo,hi2',hs2']) ⟨vb,0,none⟩ ⟨g,o,none⟩ m vc lb cb hne e1 e2 cs1.toArray.size cur.size (by simp [World.shape?,w1]) (by simp [World.shape?,w2]) (by rw [p5];omega) (by simp [World.frozen?,w1]) (by simp [World.frozen?,w1])
  simpa [h1,h2,SV.den] using this
end
open Go Go.RowKit
variable {κ:Type}
def ixOf [DecidableEq κ] (ks:List κ) (k:κ):Option Nat:=ks.findIdx? fun q=>decide (k=q)
structure KeyOk [DecidableEq κ] (P:Program) (kt:TypeId) (encK:κ→Value):Prop where
 check:∀ (e:Bool) (k:κ) (w:World),(Instr.checkKey e 10000 kt (encK k)).run P w = .ok () w
 find:∀ (k:κ) (es:List MapEntry) (ks:List κ) (w:World),es.map (·.key)=ks.map encK→(Instr.findKey kt (encK k) es).run P w = .ok ((ixOf ks k).bind fun i=>(es[i]?).map fun e=>(i,e.val)) w
 bits:∀ k,Instr.sameBits 10000 (encK k) (encK k)=true
theorem asking [DecidableEq κ] {P:Program} {kt:TypeId} {encK:κ→Value} (heq:∀ (a b:κ) (w:World),(Op.equal kt (encK a) (encK b)).run P w = .ok (decide (a=b)) w) (k:κ) (w:World):∀ (es:List MapEntry) (ks:List κ) (i:Nat),es.map (·.key)=ks.map encK →
 (Instr.findAsking kt (encK k) es i).run P w = .ok ((ixOf ks k).bind fun j=>(es[j]?).map fun e=>(i+j,e.val)) w
 | [],[],i,_=>rfl
 | [],_::_,_,h=>by cases h
 | _::_,[],_,h=>by cases h
 |
  e::es,q::ks,i,h=>by
  simp only [List.map_cons,List.cons.injEq] at h
  obtain ⟨h1,h2⟩:=h
  rw [Instr.findAsking,Sem.run_bind,h1,heq]
  simp only [Result.andThen_ok]
  by_cases hk:k=q
  · simp [hk,ixOf,List.findIdx?_cons]
  have:=asking heq k w es ks (i+1) h2
  simp only [hk,decide_false,Bool.false_eq_true,if_false,this]
  unfold ixOf
  rw [List.findIdx?_cons]
  simp only [hk,decide_false,Bool.false_eq_true,if_false]
  cases List.findIdx? (fun q=>decide (k=q)) ks with
  | none=>rfl
  |
   some j =>
   simp only [Option.map_some,Option.bind_some,List.getElem?_cons_succ]
   rw [show i+1+j=i+(j+1) by omega]
theorem keyOk_of [DecidableEq κ] {P:Program} {kt:TypeId} {encK:κ→Value} {d:TypeDesc} (hu:P.underlying kt=some d) (hnow:∀ a b,Instr.sameNow d (encK a) (encK b)=none)
 (hcheck:∀ (e:Bool) (k:κ) (w:World),(Instr.checkKey e 10000 kt (encK k)).run P w = .ok () w) (heq:∀ (a b:κ) (w:World),(Op.equal kt (encK a) (encK b)).run P w = .ok (decide (a=b)) w)
 (hbits:∀ k,Instr.sameBits 10000 (encK k) (encK k)=true):KeyOk P kt encK where
 check:=hcheck
 bits:=hbits
 find k es ks w h:=by
  unfold Instr.findKey
  rw [Sem.run_bind,run_underlying hu]
  simp only [Result.andThen_ok]
  cases es with
  |
   nil =>
   cases ks with
   | nil=>rfl
   | cons q ks=>cases h
  |
   cons e es =>
   cases ks with
   | nil=>cases h
   |
    cons q ks =>
    have h1:e.key=encK q:=by simpa using congrArg (fun l=>l.head?) h
    have h2:Instr.findNow d (encK k) (e::es) 0=none:=by
     simp only [Instr.findNow,h1,hnow]
    rw [h2]
    have:=asking heq k w (e::es) (q::ks) 0 h
    simpa using this
def MapA (encK:κ→Value) (b:Nat) (es:List (κ × Value)):Asn :=
 ⟨fun h=>∃ (arr:Array MapEntry) (clock:Nat),h b=some (.map arr clock)∧arr.toList.map (fun e=>e.key)=es.map (fun p=>encK p.1)∧arr.toList.map (fun e=>e.val)=es.map (·.2),
  fun e ⟨a,c,h1,h2,h3⟩=>⟨a,c,e _ _ h1,h2,h3⟩⟩
def lookE [DecidableEq κ] (es:List (κ × Value)) (k:κ) (z:Value):Value:=match ixOf (es.map (·.1)) k with | some j=>((es[j]?).map (·.2)).getD z | none=>z
def putE [DecidableEq κ] (es:List (κ × Value)) (k:κ) (v:Value):List (κ × Value):=match ixOf (es.map (·.1)) k with | some j=>es.set j (k,v) | none=>es++[(k,v)]
def delE [DecidableEq κ] (es:List (κ × Value)) (k:κ):List (κ × Value):=match ixOf (es.map (·.1)) k with | some j=>es.eraseIdx j | none=>es
section
variable {P:Program} {T:Tbs} {E:Entry} {Q:Exit→St→Prop} {ops:Array Oper} {l:List Oper} {r:List It} {st:St} {encK:κ→Value}
theorem lookup_run [DecidableEq κ] (hT:TbsOk P T) {t kt et:TypeId} {b:Nat} {es:List (κ × Value)} (K:KeyOk P kt encK) (k:κ) (z:Value) {w:World} (hB:(MapA encK b es).holds (hp w))
 (ht:(te T.tab t).map (·.k)=some (.map kt et)) (hz:∀ w,(zeroValue et).run P w = .ok z w) :
 (Instr.lookup t (.map (some b)) (encK k) false).run P w = .ok (lookE es k z) w:=by
 obtain ⟨arr,clock,h1,h2,h3⟩:=hB
 have h1:w.heap[b]? = some (.map arr clock):=h1
 cases htt:te T.tab t with
 | none=>rw [htt] at ht;cases ht
 |
  some et' =>
  rw [htt] at ht
  simp at ht
  obtain ⟨ii,u,zz,hii,hu,hz',hk,_⟩:=te_spec hT.tab htt
  rw [ht] at hk
  cases u<;>simp [tkOf] at hk
  obtain ⟨rfl,rfl⟩:=hk
  have hf:=K.find k arr.toList (es.map (·.1)) w (by rw [h2,List.map_map];rfl)
  unfold lookE
  have hlen:arr.toList.length=es.length:=by simpa using congrArg List.length h3
  cases hix:ixOf (es.map (·.1)) k with
  |
   none =>
   rw [hix] at hf
   simp [Instr.lookup,run_underlying hu,MapKept.run_getObj_map h1,K.check,hf,hz,Result.andThen]
  |
   some j =>
   rw [hix] at hf
   have hj:j<es.length:=by
    have:=List.findIdx?_eq_some_iff_getElem.1 hix
    obtain ⟨hj,_⟩:=this
    simpa using hj
   have hj2:j<arr.toList.length:=by omega
   have e1:arr.toList[j].val=es[j].2:=by
    have:(arr.toList.map (fun e=>e.val))[j]? = (es.map (·.2))[j]? := by rw [h3]
    rw [List.getElem?_map,List.getElem?_map,List.getElem?_eq_getElem hj,List.getElem?_eq_getElem hj2] at this
    simpa using this
   simp only [Option.bind_some] at hf
   rw [List.getElem?_eq_getElem hj2] at hf
   simp only [Option.map_some] at hf
   simp [Instr.lookup,run_underlying hu,MapKept.run_getObj_map h1,K.check,hf,Result.andThen,List.getElem?_eq_getElem hj]
   simpa using e1
theorem go_lookup [DecidableEq κ] (hT:TbsOk P T) {dst:Option Tmp} {t kt et:TypeId} {x ix:Operand} {ty:TypeId} {pos:String} {after:Array Edge} {gd:Option (Nat × Bool)} {b:Nat} {B:Asn} (es:List (κ × Value)) (K:KeyOk P kt encK) (k:κ) (z v:Value) (s:Sum Nat Nat)
 (hg:guardS ops st.fr ⟨dst,.lookup t x ix false,ty,pos,after,gd⟩ = .run) (hx:(ev st.fr x).den = .map (some b)) (hxno:(ev st.fr x).isNo=false) (hk:(ev st.fr ix).den=encK k) (hkno:(ev st.fr ix).isNo=false)
 (ht:(te T.tab t).map (·.k)=some (.map kt et)) (hz:∀ w,(zeroValue et).run P w = .ok z w) (hs:has st s B) (hB:∀ h,B.holds h→(MapA encK b es).holds h) (hv:lookE es k z=v)
 (h:Go P E (.o ops l::r) (st.put dst (.va v)) Q):Go P E (.o ops (⟨dst,.lookup t x ix false,ty,pos,after,gd⟩::l)::r) st Q :=
 go_val (o:=⟨dst,.lookup t x ix false,ty,pos,after,gd⟩) hg (.va v) trivial (fun a w hR=>by
  obtain ⟨hs',hi',hres⟩:=hR.res
  have e1:a.eval x = .map (some b):=by rw [ev_denv hR.fr rfl hxno,hx]
  have e2:a.eval ix=encK k:=by rw [ev_denv hR.fr rfl hkno,hk]
  have:=lookup_run hT K k z (hB _ (has_holds hs hres)) ht hz
  simp [execOp,e1,e2,this,hv,SV.den]) h
theorem tk_lookup [DecidableEq κ] (hT:TbsOk P T) {full:Bool} {held:List (Nat × Res)} {ro0:List Asn} {q:Nat} {p:List (Nat × Bool)} {listed:List Bool} {dst:Option Tmp} {t kt et:TypeId} {x ix:Operand} {ty:TypeId} {pos:String} {after:Array Edge} {gd:Option (Nat × Bool)} {b:Nat} {B:Asn} (es:List (κ × Value)) (K:KeyOk P kt encK) (k:κ) (z v:Value) (s:Sum Nat Nat)
 (hchk:(heldOk held st.res∧ro0=st.ro)∧planOk ops full ((q,true)::p) listed=true) (ho:ops.toList[q]? = some ⟨dst,.lookup t x ix false,ty,pos,after,gd⟩)
 (hg:guardS ops st.fr ⟨dst,.lookup t x ix false,ty,pos,after,gd⟩ = .run) (hx:(ev st.fr x).den = .map (some b)) (hxno:(ev st.fr x).isNo=false) (hk:(ev st.fr ix).den=encK k) (hkno:(ev st.fr ix).isNo=false)
 (ht:(te T.tab t).map (·.k)=some (.map kt et)) (hz:∀ w,(zeroValue et).run P w = .ok z w) (hs:hasD held ro0 s B) (hB:∀ h,B.holds h→(MapA encK b es).holds h) (hv:lookE es k z=v)
 (h:Go P E (.d ops full held ro0 p (listed.set q true)::r) (st.put dst (.va v)) Q):Go P E (.d ops full held ro0 ((q,true)::p) listed::r) st Q :=
 tk_val (o:=⟨dst,.lookup t x ix false,ty,pos,after,gd⟩) hchk ho hg (.va v) trivial (fun a w hF hW=>by
  have e1:a.eval x = .map (some b):=by rw [ev_denv hF rfl hxno,hx]
  have e2:a.eval ix=encK k:=by rw [ev_denv hF rfl hkno,hk]
  have:=lookup_run hT K k z (hB _ (hasD_holds hs hW)) ht hz
  simp [execOp,e1,e2,this,hv,SV.den]) h
theorem go_lenMap (hT:TbsOk P T) {dst:Option Tmp} {t kt et:TypeId} {x:Operand} {ty:TypeId} {pos:String} {after:Array Edge} {gd:Option (Nat × Bool)} {b:Nat} {B:Asn} (es:List (κ × Value)) (s:Sum Nat Nat)
 (hg:guardS ops st.fr ⟨dst,.call { callee:=.builtin .len,args := #[x],argTypes := #[t] },ty,pos,after,gd⟩ = .run) (hx:(ev st.fr x).den = .map (some b)) (hxno:(ev st.fr x).isNo=false)
 (ht:(te T.tab t).map (·.k)=some (.map kt et)) (hs:has st s B) (hB:∀ h,B.holds h→(MapA encK b es).holds h)
 (h:Go P E (.o ops l::r) (st.put dst (.va (.int .i64 (es.length:Nat)))) Q):Go P E (.o ops (⟨dst,.call { callee:=.builtin .len,args := #[x],argTypes := #[t] },ty,pos,after,gd⟩::l)::r) st Q :=
 go_val (o:=⟨dst,.call { callee:=.builtin .len,args := #[x],argTypes := #[t] },ty,pos,after,gd⟩) hg (.va (.int .i64 (es.length:Nat))) trivial (fun a w hR=>by
  obtain ⟨hs',hi',hres⟩:=hR.res
  obtain ⟨arr,clock,h1,h2,h3⟩:=hB _ (has_holds hs hres)
  have h1:w.heap[b]? = some (.map arr clock):=h1
  have hlen:arr.toList.length=es.length:=by simpa using congrArg List.length h3
  have e1:a.eval x = .map (some b):=by rw [ev_denv hR.fr rfl hxno,hx]
  cases htt:te T.tab t with
  | none=>rw [htt] at ht;cases ht
  |
   some et' =>
   rw [htt] at ht
   simp at ht
   obtain ⟨ii,u,zz,hii,hu,hz',hk,_⟩:=te_spec hT.tab htt
   rw [ht] at hk
   cases u<;>simp [tkOf] at hk
   have hsz:arr.size=es.length:=by simpa using hlen
   simp [execOp,resolve,invoke,builtin,Builtin.len_,e1,run_underlying hu,MapKept.run_getObj_map h1,goInt,SV.den,hsz]) h
theorem map_res {res:List Res} {ro:List Asn} {w:World} {hs:Nat→Hp} {hi:Hp} (hres:ResOk E res ro w hs hi) (i b:Nat) (es:List (κ × Value)) (hi':asnAt res i=some (MapA encK b es)) :
 ∃ (arr:Array MapEntry) (clock:Nat),w.heap[b]? = some (.map arr clock)∧arr.toList.map (fun e=>e.key)=es.map (fun p=>encK p.1)∧arr.toList.map (fun e=>e.val)=es.map (·.2) ∧
  ∀ (es':List (κ × Value)) (arr':Array MapEntry) (clock':Nat),arr'.toList.map (fun e=>e.key)=es'.map (fun p=>encK p.1)→arr'.toList.map (fun e=>e.val)=es'.map (·.2)→blkLe res (place res [i] [.fact (MapA encK b es')]) →
   ∃ hs',ResOk E (place res [i] [.fact (MapA encK b es')]) ro { w with heap:=w.heap.setIfInBounds b (.map arr' clock') } hs' hi:=by
 have hM:=selH_star hres.le hres.dis hres.holds (sel:=[i]) (M:=[MapA encK b es]) (by simp [hi']) (by simp)
 obtain ⟨arr,clock,hg,h2,h3⟩:=starH_one.1 hM
 have hw:w.heap[b]? = some (.map arr clock):=selH_le _ _ _ _ _ hg
 have hlt:b<w.heap.size:=(Array.getElem?_eq_some_iff.1 hw).1
 refine ⟨arr,clock,hw,h2,h3,fun es' arr' clock' k1 k2 hb=>?_⟩
 have hrow:({ w with heap:=w.heap.setIfInBounds b (.map arr' clock') }:World).heap[b]? = some (.map arr' clock'):=by simp [hlt]
 refine place_ok (w':={ w with heap:=w.heap.setIfInBounds b (.map arr' clock') }) hres [i] (selH w hs [i]) selH_C [.fact (MapA encK b es')] (Hp.one b (.map arr' clock')) (starH_one.2 ⟨arr',clock',Hp.one_self _ _,k1,k2⟩) (Hp.one_le hrow) ⟨rfl,rfl,rfl,by simp,fun b' _ hn=>?_⟩ (fun b' hne=>?_) (newsOk_fact (newsOk_nil _)) hb
 · have hne:b'≠b:=fun e=>by subst e;rw [hg] at hn;cases hn
   simp [Ne.symm hne]
 left
 by_cases e:b'=b
 · subst e;rw [hg];simp
 exact absurd (Hp.one_none e) hne
theorem List.map_eraseIdx' {α β:Type} (f:α→β) (l:List α) (j:Nat):(l.eraseIdx j).map f=(l.map f).eraseIdx j:=by
 rw [List.eraseIdx_eq_take_drop_succ,List.eraseIdx_eq_take_drop_succ,List.map_append,List.map_take,List.map_drop]
theorem ixOf_lt [DecidableEq κ] {ks:List κ} {k:κ} {j:Nat} (h:ixOf ks k=some j):∃ hj:j<ks.length,ks[j]=k:=by
 obtain ⟨hj,h1,_⟩:=List.findIdx?_eq_some_iff_getElem.1 h
 exact ⟨hj,(of_decide_eq_true h1).symm⟩
theorem go_mapUpdate [DecidableEq κ] (hT:TbsOk P T) {t kt et:TypeId} {x ix y:Operand} {ty:TypeId} {pos:String} {after:Array Edge} {gd:Option (Nat × Bool)} {b:Nat} (i:Nat) (es es':List (κ × Value)) (K:KeyOk P kt encK) (k:κ) (v:Value)
 (hg:guardS ops st.fr ⟨none,.mapUpdate t x ix y,ty,pos,after,gd⟩ = .run) (hx:(ev st.fr x).den = .map (some b)) (hxno:(ev st.fr x).isNo=false) (hk:(ev st.fr ix).den=encK k) (hkno:(ev st.fr ix).isNo=false) (hy:(ev st.fr y).den=v) (hyno:(ev st.fr y).isNo=false)
 (ht:(te T.tab t).map (·.k)=some (.map kt et)) (hi:st.res[i]? = some (.fact (MapA encK b es))) (hes:putE es k v=es')
 (h:Go P E (.o ops l::r) ⟨st.fr,st.res.set i (.fact (MapA encK b es')),st.ro⟩ Q):Go P E (.o ops (⟨none,.mapUpdate t x ix y,ty,pos,after,gd⟩::l)::r) st Q:=by
 subst hes
 refine Go.step fun a w hR=>⟨by have:=guard_spec hR.fr (ops:=ops) ⟨none,.mapUpdate t x ix y,ty,pos,after,gd⟩;rw [hg] at this;exact this,?_⟩
 obtain ⟨hs,hi0,hres⟩:=hR.res
 have hlt:=(List.getElem?_eq_some_iff.1 hi).1
 obtain ⟨arr,clock,hw,h2,h3,hup⟩:=map_res hres i b es (asnAt_fact hi)
 have e1:a.eval x = .map (some b):=by rw [ev_denv hR.fr rfl hxno,hx]
 have e2:a.eval ix=encK k:=by rw [ev_denv hR.fr rfl hkno,hk]
 have e3:a.eval y=v:=by rw [ev_denv hR.fr rfl hyno,hy]
 have hlen:arr.toList.length=es.length:=by simpa using congrArg List.length h3
 have hsz:arr.size=es.length:=by simpa using hlen
 cases htt:te T.tab t with
 | none=>rw [htt] at ht;cases ht
 |
  some et' =>
  rw [htt] at ht
  simp at ht
  obtain ⟨ii,u,zz,hii,hu,hz',hk',_⟩:=te_spec hT.tab htt
  rw [ht] at hk'
  cases u<;>simp [tkOf] at hk'
  obtain ⟨rfl,rfl⟩:=hk'
  have hf:=K.find k arr.toList (es.map (·.1)) w (by rw [h2,List.map_map];rfl)
  cases hix:ixOf (es.map (·.1)) k with
  |
   none =>
   rw [hix] at hf
   obtain ⟨hs2,hres2⟩:=hup (es++[(k,v)]) (arr.push { key:=encK k,val:=v,born:=clock }) (clock+1) (by simp [h2]) (by simp [h3]) (by rw [place_one hlt];exact blkLe_set _ hi)
   rw [place_one hlt] at hres2
   have hp:putE es k v=es++[(k,v)]:=by unfold putE;rw [hix]
   rw [hp] at h
   refine wp_skip' (w':=_) ?_ (h _ _ ⟨hR.fr.mono (blkLe_spec (blkLe_set _ hi)),hs2,hi0,hres2⟩)
   simp [execOp,e1,e2,e3,Instr.mapUpdate,run_underlying hu,MapKept.run_getObj_map hw,K.check,hf,MapKept.run_setObj_map _ hw,Result.andThen]
  |
   some j =>
   obtain ⟨hj,hkj⟩:=ixOf_lt hix
   rw [hix] at hf
   simp only [Option.bind_some] at hf
   have hj1:j<es.length:=by simpa using hj
   have hj2:j<arr.toList.length:=by omega
   have hj3:j<arr.size:=by omega
   rw [List.getElem?_eq_getElem hj2] at hf
   simp only [Option.map_some] at hf
   have ekey:arr[j].key=encK k:=by
    have:(arr.toList.map (fun e=>e.key))[j]? = (es.map (fun p=>encK p.1))[j]? := by rw [h2]
    rw [List.getElem?_map,List.getElem?_map,List.getElem?_eq_getElem hj2,List.getElem?_eq_getElem hj1] at this
    simp only [Option.map_some,Option.some.injEq,Array.getElem_toList] at this
    rw [this]
    congr 1
    simpa using hkj
   obtain ⟨hs2,hres2⟩:=hup (es.set j (k,v)) (arr.modify j fun e=>{ e with key:=encK k,val:=v }) clock (by
    apply List.ext_getElem?
    intro q
    have:=congrArg (fun l=>l[q]?) h2
    simp only [List.getElem?_map] at this ⊢
    rw [Array.toList_modify,List.getElem?_modify,List.getElem?_set]
    by_cases e:j=q
    · subst e;simp [hj1,hj3]
    · simpa [e] using this) (by
    apply List.ext_getElem?
    intro q
    have:=congrArg (fun l=>l[q]?) h3
    simp only [List.getElem?_map] at this ⊢
    rw [Array.toList_modify,List.getElem?_modify,List.getElem?_set]
    by_cases e:j=q
    · subst e;simp [hj1,hj3]
    simpa [e] using this) (by rw [place_one hlt];exact blkLe_set _ hi)
   rw [place_one hlt] at hres2
   have hp:putE es k v=es.set j (k,v):=by unfold putE;rw [hix]
   rw [hp] at h
   refine wp_skip' (w':=_) ?_ (h _ _ ⟨hR.fr.mono (blkLe_spec (blkLe_set _ hi)),hs2,hi0,hres2⟩)
   simp [execOp,e1,e2,e3,Instr.mapUpdate,run_underlying hu,MapKept.run_getObj_map hw,K.check,hf,MapKept.run_setObj_map _ hw,Result.andThen,Array.getElem?_eq_getElem hj3,ekey,Instr.keyThatStays,K.bits]
theorem go_delete [DecidableEq κ] (hT:TbsOk P T) {t tk kt et:TypeId} {x ix:Operand} {ty:TypeId} {pos:String} {after:Array Edge} {gd:Option (Nat × Bool)} {b:Nat} (i:Nat) (es es':List (κ × Value)) (K:KeyOk P kt encK) (k:κ)
 (hg:guardS ops st.fr ⟨none,.call { callee:=.builtin .delete,args := #[x,ix],argTypes := #[t,tk] },ty,pos,after,gd⟩ = .run) (hx:(ev st.fr x).den = .map (some b)) (hxno:(ev st.fr x).isNo=false) (hk:(ev st.fr ix).den=encK k) (hkno:(ev st.fr ix).isNo=false)
 (ht:(te T.tab t).map (·.k)=some (.map kt et)) (hi:st.res[i]? = some (.fact (MapA encK b es))) (hes:delE es k=es')
 (h:Go P E (.o ops l::r) ⟨st.fr,st.res.set i (.fact (MapA encK b es')),st.ro⟩ Q):Go P E (.o ops (⟨none,.call { callee:=.builtin .delete,args := #[x,ix],argTypes := #[t,tk] },ty,pos,after,gd⟩::l)::r) st Q:=by
 subst hes
 refine Go.step fun a w hR=>⟨by have:=guard_spec hR.fr (ops:=ops) ⟨none,.call { callee:=.builtin .delete,args := #[x,ix],argTypes := #[t,tk] },ty,pos,after,gd⟩;rw [hg] at this;exact this,?_⟩
 obtain ⟨hs,hi0,hres⟩:=hR.res
 have hlt:=(List.getElem?_eq_some_iff.1 hi).1
 obtain ⟨arr,clock,hw,h2,h3,hup⟩:=map_res hres i b es (asnAt_fact hi)
 have e1:a.eval x = .map (some b):=by rw [ev_denv hR.fr rfl hxno,hx]
 have e2:a.eval ix=encK k:=by rw [ev_denv hR.fr rfl hkno,hk]
 have hlen:arr.toList.length=es.length:=by simpa using congrArg List.length h3
 have hsz:arr.size=es.length:=by simpa using hlen
 cases htt:te T.tab t with
 | none=>rw [htt] at ht;cases ht
 |
  some et' =>
  rw [htt] at ht
  simp at ht
  obtain ⟨ii,u,zz,hii,hu,hz',hk',_⟩:=te_spec hT.tab htt
  rw [ht] at hk'
  cases u<;>simp [tkOf] at hk'
  obtain ⟨rfl,rfl⟩:=hk'
  have hf:=K.find k arr.toList (es.map (·.1)) w (by rw [h2,List.map_map];rfl)
  cases hix:ixOf (es.map (·.1)) k with
  |
   none =>
   rw [hix] at hf
   have hp:delE es k=es:=by unfold delE;rw [hix]
   obtain ⟨hs2,hres2⟩:=hup es arr clock h2 h3 (by rw [place_one hlt];exact blkLe_set _ hi)
   rw [place_one hlt] at hres2
   rw [hp] at h
   refine wp_value (v:=.tuple #[]) (w':=_) ?_ (h _ _ ⟨hR.fr.mono (blkLe_spec (blkLe_set _ hi)),hs2,hi0,hres2⟩)
   simp [execOp,resolve,invoke,builtin,Builtin.delete_,e1,e2,run_underlying hu,MapKept.run_getObj_map hw,K.check,hf,MapKept.run_setObj_map _ hw,Result.andThen]
  |
   some j =>
   obtain ⟨hj,hkj⟩:=ixOf_lt hix
   rw [hix] at hf
   simp only [Option.bind_some] at hf
   have hj1:j<es.length:=by simpa using hj
   have hj2:j<arr.toList.length:=by omega
   have hj3:j<arr.size:=by omega
   rw [List.getElem?_eq_getElem hj2] at hf
   simp only [Option.map_some] at hf
   have hp:delE es k=es.eraseIdx j:=by unfold delE;rw [hix]
   obtain ⟨hs2,hres2⟩:=hup (es.eraseIdx j) (arr.eraseIdxIfInBounds j) clock (by
    rw [Array.toList_eraseIdxIfInBounds,List.map_eraseIdx',List.map_eraseIdx',h2]) (by
    rw [Array.toList_eraseIdxIfInBounds,List.map_eraseIdx',List.map_eraseIdx',h3]) (by rw [place_one hlt];exact blkLe_set _ hi)
   rw [place_one hlt] at hres2
   rw [hp] at h
   refine wp_value (v:=.tuple #[]) (w':=_) ?_ (h _ _ ⟨hR.fr.mono (blkLe_spec (blkLe_set _ hi)),hs2,hi0,hres2⟩)
   simp [execOp,resolve,invoke,builtin,Builtin.delete_,e1,e2,run_underlying hu,MapKept.run_getObj_map hw,K.check,hf,MapKept.run_setObj_map _ hw,Result.andThen]
theorem go_makeMap {dst:Option Tmp} {t:TypeId} {ty:TypeId} {pos:String} {after:Array Edge} {gd:Option (Nat × Bool)} (encK:κ→Value)
 (hg:guardS ops st.fr ⟨dst,.makeMap t none,ty,pos,after,gd⟩ = .run)
 (hb:∀ b,blkLe st.res (place st.res [] [.fact (MapA encK b [])]))
 (h:∀ b,Go P E (.o ops l::r) (St.put ⟨st.fr,place st.res [] [.fact (MapA encK b [])],st.ro⟩ dst (.va (.map (some b)))) Q):Go P E (.o ops (⟨dst,.makeMap t none,ty,pos,after,gd⟩::l)::r) st Q:=by
 refine Go.step fun a w hR=>⟨by have:=guard_spec hR.fr (ops:=ops) ⟨dst,.makeMap t none,ty,pos,after,gd⟩;rw [hg] at this;exact this,?_⟩
 obtain ⟨hs',hi',hres⟩:=hR.res
 obtain ⟨hs2,hres2⟩:=place_ok hres [] Hp.emp (fun b hb=>absurd rfl hb) [.fact (MapA encK w.heap.size [])] (Hp.one w.heap.size (.map #[] 0)) (starH_one.2 ⟨#[],0,Hp.one_self _ _,rfl,rfl⟩) (Hp.one_le (hp_alloc w _)) (Ext.alloc w _) (fun b hb'=>by
  right
  by_cases e:b=w.heap.size
  · omega
  exact absurd (Hp.one_none e) hb') (newsOk_fact (newsOk_nil _)) (hb _)
 refine wp_value (v:=.map (some w.heap.size)) (w':=w.alloc (.map #[] 0)) ?_ (h w.heap.size _ _ (R.put (st:=⟨st.fr,place st.res [] [.fact (MapA encK w.heap.size [])],st.ro⟩) ⟨hR.fr.mono (blkLe_spec (hb _)),hs2,hi',hres2⟩ dst (x:=.va (.map (some w.heap.size))) rfl trivial))
 simp [execOp,Instr.makeMap]
end
end Go.Sy
namespace Go.Sy
open Go
section
variable {P:Program} {T:Tbs} {E:Entry} {Q:Exit→St→Prop} {ops:Array Oper} {l:List Oper} {r:List It} {st:St} {α:Type} {enc:α→List Value}
theorem go_clear (hT:TbsOk P T) {dT:TypeId} {x:Operand} {ty:TypeId} {pos:String} {after:Array Edge} {gd:Option (Nat × Bool)} {g n c dl dc e et sz:Nat} {A1:Option Addr} {zs:List Value} (i o:Nat) (L L3:List α) (z:α)
 (hg:guardS ops st.fr ⟨none,.call { callee:=.builtin .clear,args := #[x],argTypes := #[dT] },ty,pos,after,gd⟩ = .run)
 (hx:(ev st.fr x).den = .slice A1 dl dc) (hxno:(ev st.fr x).isNo=false)
 (ht:(te T.tab dT).map (·.k)=some (.slice et)) (he':(te T.tab et).map (fun e=>(e.size,e.zero))=some (sz,zs)) (hpos:0<sz) (hz:enc z=zs) (hzone:zs.all Value.oneCell'=true)
 (hi:st.res[i]? = some (.fact (Row e sz (some ⟨g,0,none⟩) n c (L.flatMap enc)))) (hA1:A1=some ⟨g,o*sz,none⟩)
 (hlen:∀ x,(enc x).length=sz) (hdl:0<dl) (hfit:o+dl≤n) (h3:L.take o++List.replicate dl z++L.drop (o+dl)=L3)
 (h:Go P E (.o ops l::r) ⟨st.fr,st.res.set i (.fact (Row e sz (some ⟨g,0,none⟩) n c (L3.flatMap enc))),st.ro⟩ Q) :
 Go P E (.o ops (⟨none,.call { callee:=.builtin .clear,args := #[x],argTypes := #[dT] },ty,pos,after,gd⟩::l)::r) st Q:=by
 subst h3 hA1
 refine Go.step fun a w hR=>⟨by have:=guard_spec hR.fr (ops:=ops) ⟨none,.call { callee:=.builtin .clear,args := #[x],argTypes := #[dT] },ty,pos,after,gd⟩;rw [hg] at this;exact this,?_⟩
 obtain ⟨hs,hi0,hres⟩:=hR.res
 have hlt:=(List.getElem?_eq_some_iff.1 hi).1
 obtain ⟨⟨rest,hl1,h11,hnc,hcm,hrl⟩,hs1,hres1⟩:=place_ghost hres [i] (M:=[Row e sz (some ⟨g,0,none⟩) n c (L.flatMap enc)])
  (X:={rest:List Value // (L.flatMap enc).length=n*sz∧(∀ v∈L.flatMap enc,v.oneCell'=true)∧n≤c∧c≤maxLen∧(L.flatMap enc).length+rest.length=c*sz})
  (fun rest=>[.fact (Blk g e (L.flatMap enc++rest.1))]) (by simp [asnAt_fact hi]) (by simp) (fun hh p=>by
   obtain ⟨p1,p2,p3⟩:=starH_one.1 p
   rcases p3 with ⟨p3,_⟩ | ⟨g',cur,p3,p4,p5,p6,p7,p8⟩
   · cases p3
   cases p3
   refine ⟨⟨cur.toList.drop (n*sz),p1,p2,p5,p6,?_⟩,starH_one.2 ?_⟩
   · have:=Nat.mul_le_mul_right sz p5
     simp only [List.length_drop,Array.length_toList,p7,p1]
     omega
   show hh g=some (.cells (L.flatMap enc++cur.toList.drop (n*sz)).toArray e (0,0))
   rw [p4,←p8,List.take_append_drop,Array.toArray_toList]) (fun _=>newsOk_fact (newsOk_nil _)) (fun _=>by rw [place_one hlt];exact blkLe_set _ hi)
 have hL:L.length=n:=by
  rw [flat_len hlen] at hl1
  exact Nat.eq_of_mul_eq_mul_right hpos hl1
 obtain ⟨vs,hvs⟩:∃ vs,vs=(List.replicate dl z).flatMap enc:=⟨_,rfl⟩
 have hvl:vs.length=dl*sz:=by rw [hvs,flat_len hlen,List.length_replicate]
 have hv1:∀ v∈vs,v.oneCell'=true:=fun v hv=>by
  rw [hvs,flat_unit hz] at hv
  obtain ⟨_,_,hv⟩:=List.mem_flatMap.1 hv
  exact List.all_eq_true.1 hzone v hv
 have hov:=over_lists (enc:=enc) (L:=L) (L2:=List.replicate dl z) (o:=o) (k:=dl) hlen (by omega) (by simp) rest
 rw [show (List.replicate dl z).take dl=List.replicate dl z by simp,←hvs] at hov
 dsimp only at hres1
 rw [place_one hlt] at hres1
 have hi2:=set_fact hi (.fact (Blk g e (L.flatMap enc++rest)))
 have hlt2:=(List.getElem?_eq_some_iff.1 hi2).1
 obtain ⟨hw,hs2,hres2⟩:=write_res hres1 i g e (L.flatMap enc++rest) ((L.take o++List.replicate dl z++L.drop (o+dl)).flatMap enc++rest) (asnAt_fact hi2) (by rw [place_one hlt2];exact blkLe_set _ hi2)
 rw [place_one hlt2,List.set_set] at hres2
 have hi3:=set_fact hi (.fact (Blk g e ((L.take o++List.replicate dl z++L.drop (o+dl)).flatMap enc++rest)))
 have hlt3:=(List.getElem?_eq_some_iff.1 hi3).1
 have hl3:((L.take o++List.replicate dl z++L.drop (o+dl)).flatMap enc).length=n*sz:=by
  rw [flat_len hlen]
  congr 1
  simp only [List.length_append,List.length_take,List.length_drop,List.length_replicate]
  omega
 obtain ⟨_,hs3,hres3⟩:=place_ghost hres2 [i] (M:=[Blk g e ((L.take o++List.replicate dl z++L.drop (o+dl)).flatMap enc++rest)]) (X:=Unit)
  (fun _=>[.fact (Row e sz (some ⟨g,0,none⟩) n c ((L.take o++List.replicate dl z++L.drop (o+dl)).flatMap enc))]) (congrArg (fun x=>[x]) (asnAt_fact hi3)) (by simp) (fun hh p=>⟨(),starH_one.2 (Row.close (starH_one.1 p) hl3 (fun v hv=>by
   obtain ⟨q,hz,hv⟩:=List.mem_flatMap.1 hv
   rcases List.mem_append.1 hz with hz | hz
   · rcases List.mem_append.1 hz with hz | hz
     · exact h11 v (List.mem_flatMap.2 ⟨q,List.mem_of_mem_take hz,hv⟩)
     exact hv1 v (by rw [hvs];exact List.mem_flatMap.2 ⟨q,hz,hv⟩)
   exact h11 v (List.mem_flatMap.2 ⟨q,List.mem_of_mem_drop hz,hv⟩)) hnc hcm (by rw [hl3,←hl1];exact hrl))⟩) (fun _=>newsOk_fact (newsOk_nil _)) (fun _=>by rw [place_one hlt3];exact blkLe_set _ hi3)
 rw [place_one hlt3,List.set_set] at hres3
 have hR':R E ⟨st.fr,st.res.set i (.fact (Row e sz (some ⟨g,0,none⟩) n c ((L.take o++List.replicate dl z++L.drop (o+dl)).flatMap enc))),st.ro⟩ a (w.setRow g ((L.take o++List.replicate dl z++L.drop (o+dl)).flatMap enc++rest).toArray):=⟨hR.fr.mono (blkLe_spec (blkLe_set _ hi)),hs3,hi0,hres3⟩
 refine wp_value (w':=w.setRow g ((L.take o++List.replicate dl z++L.drop (o+dl)).flatMap enc++rest).toArray) (v:=.tuple #[]) ?_ (h _ _ hR')
 obtain ⟨e1,he1,hsz,hzz⟩:∃ e,te T.tab et=some e∧e.size=sz∧e.zero=zs:=by
  cases hq:te T.tab et with
  | none=>rw [hq] at he';cases he'
  |
   some e =>
   rw [hq] at he'
   simp only [Option.map_some,Option.some.injEq,Prod.mk.injEq] at he'
   exact ⟨e,rfl,he'.1,he'.2⟩
 subst hsz hzz
 cases htt:te T.tab dT with
 | none=>rw [htt] at ht;cases ht
 |
  some et' =>
  rw [htt] at ht
  simp at ht
  obtain ⟨ii,u,zz,hii,hu,hz',hk',_⟩:=te_spec hT.tab htt
  obtain ⟨i2,u2,zv,hi2',hu2,hz2,hk2',hs2',_,hz2'⟩:=te_spec hT.tab he1
  rw [ht] at hk'
  cases u<;>simp [tkOf] at hk'
  subst hk'
  have hzl:zv.cells.size=e1.size:=by
   have:=hlen z
   rw [hz,hz2'] at this
   simpa using this
  have hcs:(Builtin.zeroCells zv.cells dl).toList=vs:=by
   rw [zero_made,hzl,made_flat hzl,hvs,flat_unit hz,hz2']
  have hst:=run_storeCells_at P g (o*e1.size) e vs 0 (L.flatMap enc++rest).toArray w hw (by
   simp only [Nat.add_zero,List.size_toArray,List.length_append]
   rw [hvl,hl1,←Nat.add_mul]
   have:=Nat.mul_le_mul_right e1.size hfit
   omega) hv1
  simp only [Nat.add_zero] at hst
  obtain ⟨q,rfl⟩:∃ q,dl=q+1:=⟨dl-1,by omega⟩
  have hx2:a.eval x = .slice (some ⟨g,o*e1.size,none⟩) (q+1) dc:=by rw [←hx];exact SV.den_of_is (ev_is hR.fr x) (fun e=>by rw [e] at hxno;cases hxno)
  have hrun:(Builtin.clear_ #[dT] ty #[.slice (some ⟨g,o*e1.size,none⟩) (q+1) dc]).run P w = .ok (.tuple #[]) (w.setRow g (over (L.flatMap enc++rest) (o*e1.size) vs).toArray):=by
   simp [Builtin.clear_,run_underlying hu,zeroValue,typeInfo,hi2',hz2,hcs,hst,over]
  rw [hov] at hrun
  simp only [execOp,resolve,invoke,builtin,Sem.run_bind,Sem.run_pure,Result.andThen_ok,List.map_toArray,List.map_cons,List.map_nil,hx2,hrun]
end
open Go.RowKit
theorem bl_irrefl:∀ a:List UInt8,Op.bytesLess a a=false
 | []=>rfl
 | x::a=>by simp [Op.bytesLess,bl_irrefl a]
theorem bl_trans:∀ {a b c:List UInt8},Op.bytesLess a b=true→Op.bytesLess b c=true→Op.bytesLess a c=true
 | a,[],_,h,_=>by cases a<;>simp [Op.bytesLess] at h
 | a,y::b,[],_,h=>by simp [Op.bytesLess] at h
 | [],_::_,_::_,_,_=>rfl
 |
  x::a,y::b,z::c,h1,h2=>by
  simp only [Op.bytesLess,Bool.or_eq_true,Bool.and_eq_true,decide_eq_true_eq,beq_iff_eq] at h1 h2 ⊢
  rcases h1 with h1 | ⟨rfl,h1⟩
  · rcases h2 with h2 | ⟨rfl,h2⟩
    · exact .inl (UInt8.lt_trans h1 h2)
    exact .inl h1
  rcases h2 with h2 | ⟨rfl,h2⟩
  · exact .inl h2
  exact .inr ⟨rfl,bl_trans h1 h2⟩
theorem bl_total:∀ {a b:List UInt8},Op.bytesLess a b=false→Op.bytesLess b a=false→a=b
 | [],[],_,_=>rfl
 | [],_::_,h,_=>by simp [Op.bytesLess] at h
 | _::_,[],_,h=>by simp [Op.bytesLess] at h
 |
  x::a,y::b,h1,h2=>by
  simp only [Op.bytesLess,Bool.or_eq_false_iff,Bool.and_eq_false_imp,decide_eq_false_iff_not,beq_iff_eq] at h1 h2
  have e:x=y:=UInt8.le_antisymm (UInt8.not_lt.1 h2.1) (UInt8.not_lt.1 h1.1)
  subst e
  rw [bl_total (h1.2 rfl) (h2.2 rfl)]
def ltS (a b:ByteArray):Prop:=Op.bytesLess a.data.toList b.data.toList=true
instance (a b:ByteArray):Decidable (ltS a b):=by unfold ltS;exact inferInstance
theorem ltS.irrefl (a:ByteArray):¬ ltS a a:=by unfold ltS;rw [bl_irrefl];decide
theorem ltS.trans {a b c:ByteArray} (h1:ltS a b) (h2:ltS b c):ltS a c:=bl_trans h1 h2
theorem ltS.total {a b:ByteArray} (h1:¬ ltS a b) (h2:¬ ltS b a):a=b:=by
 unfold ltS at h1 h2
 have:=bl_total (by simpa using h1) (by simpa using h2)
 obtain ⟨a⟩:=a
 obtain ⟨b⟩:=b
 exact congrArg ByteArray.mk (Array.toList_inj.1 this)
theorem ltS.asymm {a b:ByteArray} (h1:ltS a b):¬ ltS b a:=fun h2=>ltS.irrefl a (h1.trans h2)
theorem ltS.ne {a b:ByteArray} (h1:ltS a b):a≠b:=fun e=>ltS.irrefl a (by rw [←e] at h1;exact h1)
theorem lts_dec (a b:ByteArray):Op.bytesLess a.toList b.toList=decide (ltS a b):=by
 rw [ByteArray.toList_eq,ByteArray.toList_eq,Bool.eq_iff_iff,decide_eq_true_iff]
 exact Iff.rfl
theorem les_dec (a b:ByteArray):(Op.bytesLess a.toList b.toList || a.toList==b.toList)=decide (¬ ltS b a):=by
 rw [lts_dec,bytes_beq,Bool.eq_iff_iff,Bool.or_eq_true,decide_eq_true_iff,decide_eq_true_iff,decide_eq_true_iff]
 constructor
 · rintro (h | rfl)
   · exact h.asymm
   exact ltS.irrefl _
 intro h
 by_cases h2:ltS a b
 · exact .inl h2
 exact .inr (ltS.total h2 h)
section
variable {P:Program} {T:Tbs} {E:Entry} {Q:Exit→St→Prop} {ops:Array Oper} {l:List Oper} {r:List It} {st:St}
theorem lss_runS {t:TypeId} {a b:ByteArray} (w:World):(binOp .lss t (.string a) (.string b)).run P w = .ok (.bool (decide (ltS a b))) w:=by
 simp only [binOp,Op.stringOp,lts_dec];rfl
theorem gtr_runS {t:TypeId} {a b:ByteArray} (w:World):(binOp .gtr t (.string a) (.string b)).run P w = .ok (.bool (decide (ltS b a))) w:=by
 simp only [binOp,Op.stringOp,les_dec,decide_not,Bool.not_not];rfl
theorem dec_yes {p:Prop} [Decidable p] (h:¬ p):(!decide p)=true:=by simp [h]
theorem ev_if_nd {p:Prop} [Decidable p] {t1 t2:List It} {s1 s2:St} (h1:¬ p→Go P E t1 s1 Q) (h2:p→Go P E t2 s2 Q):outSat P E Q (.iff (!decide p) t1 s1 t2 s2) :=
 ⟨fun h=>h1 (by simpa using h),fun h=>h2 (by simpa using h)⟩
/-! s[lo:hi] -/
theorem sliceS_run (hT:TbsOk P T) {dst:Option Tmp} {t:TypeId} {x:Operand} {lo hi:Option Operand} {ty:TypeId} {pos:String} {after:Array Edge} {gd:Option (Nat × Bool)} (s:ByteArray) (lo' hi':Nat) {fr:List SV} {res:List Res} {a:Act} (hF:FrOk fr res a)
 (hx:(ev fr x).den = .string s) (hxno:(ev fr x).isNo=false) (ht:(te T.tab t).map (·.k)=some .string)
 (hlo:bound fr lo 0 lo') (hhi:bound fr hi s.size hi') (h1:lo'≤hi') (h2:hi'≤s.size) (w:World) :
 (execOp a.eval ⟨dst,.slice t x lo hi none,ty,pos,after,gd⟩).run P w = .ok (.value (.string (s.extract lo' hi'))) w:=by
 obtain ⟨e,he,hk⟩:∃ e,te T.tab t=some e∧e.k = .string:=by
  cases hq:te T.tab t with
  | none=>rw [hq] at ht;cases ht
  | some e=>rw [hq] at ht;exact ⟨e,rfl,by simpa using ht⟩
 obtain ⟨i,u,z,hi1,hu,hz,hk',_⟩:=te_spec hT.tab he
 have hus:u = .string:=by
  rw [hk] at hk'
  cases u<;>simp [tkOf] at hk' ⊢
 subst hus
 have e1:a.eval x = .string s:=by rw [ev_denv hF rfl hxno,hx]
 have hl:∀ (o:Option Operand) d n,bound fr o d n→match o with | none=>n=d | some o=>∃ k,a.eval o = .int k (n:Int):=by
  intro o d n hb
  cases o with
  | none=>exact hb
  |
   some o =>
   obtain ⟨k,hk⟩:=hb
   exact ⟨k,by rw [ev_denv hF rfl (by rw [hk];rfl),hk];rfl⟩
 have hlo2:=hl _ _ _ hlo
 have hhi2:=hl _ _ _ hhi
 cases lo with
 |
  none =>
  cases hi with
  | none=>subst hlo2 hhi2;simp [execOp,e1,Instr.sliceAt,Instr.slice,run_underlying hu,Instr.sliceBounds]
  |
   some oh =>
   obtain ⟨k2,k2h⟩:=hhi2
   subst hlo2
   simp [execOp,e1,k2h,Instr.sliceAt,Instr.slice,run_underlying hu,Instr.sliceBounds,sliceBound_run h2]
 |
  some ol =>
  obtain ⟨k1,k1h⟩:=hlo2
  cases hi with
  | none=>subst hhi2;simp [execOp,e1,k1h,Instr.sliceAt,Instr.slice,run_underlying hu,Instr.sliceBounds,sliceBound_run h1]
  |
   some oh =>
   obtain ⟨k2,k2h⟩:=hhi2
   simp [execOp,e1,k1h,k2h,Instr.sliceAt,Instr.slice,run_underlying hu,Instr.sliceBounds,sliceBound_run h1,sliceBound_run h2]
theorem go_sliceS (hT:TbsOk P T) {dst:Option Tmp} {t:TypeId} {x:Operand} {lo hi:Option Operand} {ty:TypeId} {pos:String} {after:Array Edge} {gd:Option (Nat × Bool)} {s:ByteArray} (lo' hi':Nat)
 (hg:guardS ops st.fr ⟨dst,.slice t x lo hi none,ty,pos,after,gd⟩ = .run) (hx:(ev st.fr x).den = .string s) (hxno:(ev st.fr x).isNo=false) (ht:(te T.tab t).map (·.k)=some .string)
 (hlo:bound st.fr lo 0 lo') (hhi:bound st.fr hi s.size hi') (h1:lo'≤hi') (h2:hi'≤s.size)
 (h:Go P E (.o ops l::r) (st.put dst (.va (.string (s.extract lo' hi')))) Q):Go P E (.o ops (⟨dst,.slice t x lo hi none,ty,pos,after,gd⟩::l)::r) st Q :=
 go_val (o:=⟨dst,.slice t x lo hi none,ty,pos,after,gd⟩) hg (.va (.string (s.extract lo' hi'))) trivial (fun _ w hR=>sliceS_run hT s lo' hi' hR.fr hx hxno ht hlo hhi h1 h2 w) h
theorem tk_sliceS (hT:TbsOk P T) {full:Bool} {held:List (Nat × Res)} {ro0:List Asn} {q:Nat} {p:List (Nat × Bool)} {listed:List Bool} {dst:Option Tmp} {t:TypeId} {x:Operand} {lo hi:Option Operand} {ty:TypeId} {pos:String} {after:Array Edge} {gd:Option (Nat × Bool)} {s:ByteArray} (lo' hi':Nat)
 (hchk:(heldOk held st.res∧ro0=st.ro)∧planOk ops full ((q,true)::p) listed=true) (ho:ops.toList[q]? = some ⟨dst,.slice t x lo hi none,ty,pos,after,gd⟩)
 (hg:guardS ops st.fr ⟨dst,.slice t x lo hi none,ty,pos,after,gd⟩ = .run) (hx:(ev st.fr x).den = .string s) (hxno:(ev st.fr x).isNo=false) (ht:(te T.tab t).map (·.k)=some .string)
 (hlo:bound st.fr lo 0 lo') (hhi:bound st.fr hi s.size hi') (h1:lo'≤hi') (h2:hi'≤s.size)
 (h:Go P E (.d ops full held ro0 p (listed.set q true)::r) (st.put dst (.va (.string (s.extract lo' hi')))) Q):Go P E (.d ops full held ro0 ((q,true)::p) listed::r) st Q :=
 tk_val (o:=⟨dst,.slice t x lo hi none,ty,pos,after,gd⟩) hchk ho hg (.va (.string (s.extract lo' hi'))) trivial (fun _a w hF _=>sliceS_run hT s lo' hi' hF hx hxno ht hlo hhi h1 h2 w) h
end
/-! both ways of an 'if' come together -/
def Join (P:Program) (E:Entry) (r:List It) (Q:Exit→St→Prop) {ι:Type} (I:ι→St) (Pre:ι→Prop) (e:Exit) (st:St):Prop :=
 match e with
 | .normal=>∀ a w,R E st a w→∃ i,Pre i∧R E (I i) a w
 | e=>wayOut P E r Q e st
theorem go_join {P:Program} {E:Entry} {Q:Exit→St→Prop} {c:Code} {r:List It} {st:St} {ι:Type} {I:ι→St} {Pre:ι→Prop} (h1:Go P E [.c c] st (Join P E r Q I Pre)) (h2:∀ i,Pre i→Go P E r (I i) Q):Go P E (.c c::r) st Q:=by
 intro a w hR
 refine Code.wp_mono (fun e a' w' hq=>?_) (h1 a w hR)
 cases e with
 |
  normal =>
  obtain ⟨st',hq,hR'⟩:=hq
  obtain ⟨i,h3,h4⟩:=hq a' w' hR'
  exact h2 i h3 a' w' h4
 |
  exit id =>
  obtain ⟨st',hq,hR'⟩:=hq
  simp only [Join,wayOut] at hq
  show post P r (Fin Q E) (.exit id) a' w'
  split at hq
  · rename_i r' hp
    rw [post_pop hp]
    exact hq a' w' hR'
  rename_i hp
  rw [post_exit hp]
  exact ⟨st',hq,hR'⟩
 |
  ret =>
  obtain ⟨st',hq,hR'⟩:=hq
  show post P r (Fin Q E) .ret a' w'
  rw [post_ret]
  exact ⟨st',hq,hR'⟩
 | goto l=>obtain ⟨st',hq,_⟩:=hq;exact hq.elim
 | panic c=>exact hq.elim
 | outgrown=>exact hq.elim
theorem ev_join {P:Program} {E:Entry} {Q:Exit→St→Prop} {b:Bool} {x y:Code} {r:List It} {st s2:St} {ι:Type} (mods:List Nat) (keep:ι→List (Nat × SV)) (resI:ι→List (Nat × Res)) (Pre:ι→Prop)
 (h1:b=true→Go P E [.c x] st (Join P E r Q (fun i=>⟨setF (havoc st.fr mods) (keep i),setR st.res (resI i),st.ro⟩) Pre))
 (h2:b=false→Go P E [.c y] s2 (Join P E r Q (fun i=>⟨setF (havoc st.fr mods) (keep i),setR st.res (resI i),st.ro⟩) Pre))
 (h:∀ i,Pre i→Go P E r ⟨setF (havoc st.fr mods) (keep i),setR st.res (resI i),st.ro⟩ Q):outSat P E Q (.iff b (.c x::r) st (.c y::r) s2) :=
 ⟨fun e=>go_join (h1 e) h,fun e=>go_join (h2 e) h⟩
theorem join_next {P:Program} {E:Entry} {r:List It} {Q:Exit→St→Prop} {ι:Type} {I:ι→St} {Pre:ι→Prop} {st:St} (i:ι) (h1:Pre i) (h3:StLe st (I i)):Join P E r Q I Pre .normal st:=fun _ _ hR=>⟨i,h1,h3.R hR⟩
theorem go_joinR {P:Program} {E:Entry} {Q:Exit→St→Prop} {c:Code} {r:List It} {st:St} {ι:Type} (mods:List Nat) (keep:ι→List (Nat × SV)) (resI:ι→List (Nat × Res)) (Pre:ι→Prop)
 (h1:Go P E [.c c] st (Join P E r Q (fun i=>⟨setF (havoc st.fr mods) (keep i),setR st.res (resI i),st.ro⟩) Pre))
 (h:∀ i,Pre i→Go P E r ⟨setF (havoc st.fr mods) (keep i),setR st.res (resI i),st.ro⟩ Q):Go P E (.c c::r) st Q:=go_join h1 h
theorem ev_moveJ {P:Program} {E:Entry} {r:List It} {Q:Exit→St→Prop} {ι:Type} {I:ι→St} {Pre:ι→Prop} {st:St} (i j:Nat) {A B:Asn} (hij:i≠j) (hi:st.res[i]? = some (.fact A)) (hj:st.res[j]? = some (.fact B))
 (hb:blkLe st.res (place st.res [i,j] [.fact B,.dead none])) (h:outSat P E (Join P E r Q I Pre) (.fin .normal ⟨st.fr,place st.res [i,j] [.fact B,.dead none],st.ro⟩)):outSat P E (Join P E r Q I Pre) (.fin .normal st):=fun a w hR=>by
 have g:Join P E r Q I Pre .normal ⟨st.fr,place st.res [i,j] [.fact B,.dead none],st.ro⟩:=h
 obtain ⟨hs,hi',hres⟩:=hR.res
 obtain ⟨x,hs',hR'⟩:=place_ghost hres [i,j] (M:=[A,B]) (X:=Unit) (fun _=>[.fact B,.dead none]) (by simp [asnAt_fact hi,asnAt_fact hj]) (by simp [hij]) (fun h q=>⟨(),move_star q⟩) (fun _=>newsOk_fact fun x hx=>by rw [List.mem_singleton.1 hx];trivial) (fun _=>hb)
 exact g a w ⟨hR.fr.mono (blkLe_spec hb),hs',hi',hR'⟩
theorem ev_slotJ {P:Program} {E:Entry} {r':List It} {Q':Exit→St→Prop} {ι:Type} {I:ι→St} {Pre:ι→Prop} {st:St} (t:Nat) (x y:SV) (hx:st.fr[t]? = some x) (hno:x.isNo=false) (hxy:x.den=y.den) (hy:∀ β,y.good β)
 (h:outSat P E (Join P E r' Q' I Pre) (.fin .normal ⟨st.fr.set t y,st.res,st.ro⟩)):outSat P E (Join P E r' Q' I Pre) (.fin .normal st):=fun a w hR=>by
 have g:Join P E r' Q' I Pre .normal ⟨st.fr.set t y,st.res,st.ro⟩:=h
 exact g a w (R_slot hx hno hxy hy hR)
theorem Triple.nfree {P:Program} {f:FuncId} {args:List Value} {M N:List Asn} {X:Type} {ret:X→Value} {good:X→Prop} {post:X→List Asn} (T:Triple P f args M N X ret good post) (h:∀ A∈N,∀ h,A.holds h):Triple P f args M [] X ret good post :=
 fun w hm hn h1 h2 h3 h4 _=>T w hm hn h1 h2 h3 h4 fun A hA=>h A hA _
def putL (f:Nat):List UInt8:=if f<128 then [UInt8.ofNat f] else UInt8.ofNat (f % 128+128)::putL (f / 128)
termination_by f
def getL:Nat→Nat→List UInt8→Option (Nat × Nat)
 | _,_,[]=>none
 | i,acc,c::r=>if 10≤i then none else if 128≤c.toNat then getL (i+1) (acc+(c.toNat-128)*128 ^ i) r
  else if (c.toNat=0∧0<i)∨(i=9∧1<c.toNat) then none else some (acc+c.toNat*128 ^ i,i+1)
theorem putL_small {f:Nat} (h:f<128):putL f=[UInt8.ofNat f]:=by rw [putL,if_pos h]
theorem putL_great {f:Nat} (h:128≤f):putL f=UInt8.ofNat (f % 128+128)::putL (f / 128):=by rw [putL,if_neg (by omega)]
theorem toNat_of {n:Nat} (h:n<256):(UInt8.ofNat n).toNat=n:=by
 rw [UInt8.toNat_ofNat']
 exact Nat.mod_eq_of_lt h
theorem putL_pos (f:Nat):0<(putL f).length:=by
 rcases Nat.lt_or_ge f 128 with h | h
 · rw [putL_small h];exact Nat.one_pos
 rw [putL_great h];exact Nat.succ_pos _
theorem pow128 (i:Nat):128 ^ (i+1)=128*128 ^ i:=by rw [Nat.pow_succ,Nat.mul_comm]
theorem get_put:∀ (k f i acc:Nat) (r:List UInt8),f<128 ^ k→i+k≤9→(0<f∨i=0)→getL i acc (putL f++r)=some (acc+f*128 ^ i,i+(putL f).length)
 |
  0,f,i,acc,r,h,hi,h0=>by
  have:f=0:=by simpa using h
  subst this
  have hi0:i=0:=by omega
  subst hi0
  rw [putL_small (by decide),List.singleton_append,getL,if_neg (by omega),toNat_of (by decide),if_neg (by omega),if_neg (by omega)]
  rfl
 |
  k+1,f,i,acc,r,h,hi,h0=>by
  rcases Nat.lt_or_ge f 128 with h1 | h1
  · rw [putL_small h1,List.singleton_append,getL,if_neg (by omega),toNat_of (by omega),if_neg (by omega),if_neg (by omega)]
    rfl
  rw [putL_great h1,List.cons_append,getL,if_neg (by omega),toNat_of (by omega),if_pos (by omega)]
  rw [get_put k (f / 128) (i+1) _ r (Nat.div_lt_of_lt_mul (by rw [←pow128];exact h)) (by omega) (.inl (Nat.div_pos h1 (by decide)))]
  have e:f % 128+128-128=f % 128:=by omega
  rw [e,pow128]
  have h3:acc+f % 128*128 ^ i+f / 128*(128*128 ^ i)=acc+f*128 ^ i:=by
   have h4:f / 128*(128*128 ^ i)=(128*(f / 128))*128 ^ i:=by rw [Nat.mul_comm 128 (f / 128),Nat.mul_assoc]
   rw [h4,Nat.add_assoc,←Nat.add_mul,Nat.add_comm (f % 128),Nat.div_add_mod]
  rw [h3,List.length_cons,show i+1+(putL (f / 128)).length=i+((putL (f / 128)).length+1) by omega]
theorem get_cut:∀ (f i acc:Nat) (l t:List UInt8),l++t=putL f→t≠[]→getL i acc l=none:=by
 intro f
 induction f using Nat.strongRecOn with
 |
  _ f ih =>
  intro i acc l t h ht
  cases l with
  | nil=>rfl
  |
   cons c l =>
   rcases Nat.lt_or_ge f 128 with h1 | h1
   · rw [putL_small h1] at h
     simp only [List.cons_append,List.cons.injEq,List.append_eq_nil_iff] at h
     exact absurd h.2.2 ht
   rw [putL_great h1,List.cons_append,List.cons.injEq] at h
   rw [getL]
   split
   · rfl
   rw [h.1,toNat_of (by omega),if_pos (by omega)]
   exact ih (f / 128) (Nat.div_lt_self (by omega) (by decide)) _ _ l t h.2 ht
theorem getL_some:∀ (l:List UInt8) (i acc F k:Nat),getL i acc l=some (F,k)→i<k∧k≤i+l.length∧acc≤F
 | [],_,_,_,_,h=>by cases h
 |
  c::l,i,acc,F,k,h=>by
  rw [getL] at h
  split at h
  · cases h
  split at h
  · have:=getL_some l _ _ _ _ h
    simp only [List.length_cons]
    omega
  split at h
  · cases h
  cases h
  simp only [List.length_cons]
  omega
section
variable (ck:List UInt8→List UInt8)
def frameL (p:List UInt8):List UInt8:=putL (2*p.length)++(ck (putL (2*p.length)++p)++p)
def nextL (l:List UInt8):Option (List UInt8 × Nat) :=
 match getL 0 0 l with
 | none=>none
 |
  some (F,k)=>if F % 2=1∨16384<F∨l.length<k+4+F / 2 then none
  else if ck (l.take k++(l.drop (k+4)).take (F / 2))=(l.drop k).take 4 then some ((l.drop (k+4)).take (F / 2),k+4+F / 2) else none
variable {ck}
theorem nextL_some {l p:List UInt8} {n:Nat} (h:nextL ck l=some (p,n)):5≤n∧n≤l.length∧p.length≤8192:=by
 unfold nextL at h
 split at h
 · cases h
 rename_i F k hg
 obtain ⟨h1,h2,_⟩:=getL_some _ _ _ _ _ hg
 split at h
 · cases h
 split at h
 · cases h
   rw [List.length_take,List.length_drop]
   omega
 cases h
variable (hck:∀ l,(ck l).length=4)
include hck
theorem next_frame {p:List UInt8} (hp:p.length≤8192) (r:List UInt8):nextL ck (frameL ck p++r)=some (p,(frameL ck p).length):=by
 have hf:2*p.length<128 ^ 3:=by have:(128:Nat) ^ 3=2097152:=rfl;omega
 obtain ⟨m,hm⟩:∃ m,m=putL (2*p.length):=⟨_,rfl⟩
 have hg:getL 0 0 (m++(ck (m++p)++p++r))=some (2*p.length,m.length):=by
  have:=get_put 3 (2*p.length) 0 0 (ck (m++p)++p++r) hf (by omega) (.inr rfl)
  rw [←hm] at this
  rw [this]
  simp
 have hl:frameL ck p++r=m++(ck (m++p)++p++r):=by unfold frameL;rw [←hm];simp
 have hk:=hck (m++p)
 have hd:(m++(ck (m++p)++p++r)).drop m.length=ck (m++p)++p++r:=List.drop_left
 have hd4:(m++(ck (m++p)++p++r)).drop (m.length+4)=p++r:=by
  rw [←List.drop_drop,hd,List.append_assoc,←hk,List.drop_left]
 unfold nextL
 rw [hl,hg]
 simp only
 have h2:2*p.length / 2=p.length:=by omega
 rw [h2,hd4,hd,List.take_left,List.take_left,List.append_assoc,←hk,List.take_left,if_pos rfl,if_neg (by simp only [List.length_append];omega),hk]
 congr 2
 unfold frameL
 rw [←hm]
 simp only [List.length_append]
 omega
theorem next_cut {p l t:List UInt8} (hp:p.length≤8192) (h:l++t=frameL ck p) (ht:t≠[]):nextL ck l=none:=by
 have hf:2*p.length<128 ^ 3:=by have:(128:Nat) ^ 3=2097152:=rfl;omega
 obtain ⟨m,hm⟩:∃ m,m=putL (2*p.length):=⟨_,rfl⟩
 unfold frameL at h
 rw [←hm] at h
 have hk:=hck (m++p)
 have htl:0<t.length:=List.length_pos_iff.2 ht
 rcases Nat.lt_or_ge l.length m.length with h1 | h1
 · have h3:l++m.drop l.length=m:=by
    have e:=congrArg (fun z=>z.take m.length) h
    simp only [List.take_left] at e
    rw [List.take_append,List.take_of_length_le (by omega)] at e
    have e2:=congrArg (fun z=>z.drop l.length) e
    simp only [List.drop_left] at e2
    rw [←e2]
    exact e
   unfold nextL
   rw [get_cut (2*p.length) 0 0 l (m.drop l.length) (by rw [h3,hm]) (fun e=>by
    have:=congrArg List.length e
    rw [List.length_drop] at this
    simp only [List.length_nil] at this
    omega)]
 obtain ⟨r,rfl⟩:∃ r,l=m++r:=⟨l.drop m.length,by
  have e:=congrArg (fun z=>z.take m.length) h
  simp only [List.take_left] at e
  rw [List.take_append_of_le_length h1] at e
  conv=>lhs;rw [←List.take_append_drop m.length l,e]⟩
 have hg:getL 0 0 (m++r)=some (2*p.length,m.length):=by
  have:=get_put 3 (2*p.length) 0 0 r hf (by omega) (.inr rfl)
  rw [←hm] at this
  rw [this]
  simp
 have hll:=congrArg List.length h
 simp only [List.length_append] at hll
 unfold nextL
 rw [hg]
 simp only
 rw [if_pos (by simp only [List.length_append];omega)]
end
theorem get_is_put:∀ (l:List UInt8) (i acc F k:Nat),getL i acc l=some (F,k)→∃ f,F=acc+f*128 ^ i∧l.take (k-i)=putL f∧(0<f∨i=0)∧i<k∧k≤10∧k=i+(putL f).length
 | [],_,_,_,_,h=>by cases h
 |
  c::l,i,acc,F,k,h=>by
  rw [getL] at h
  split at h
  · cases h
  rename_i hi
  split at h
  · rename_i hc
    obtain ⟨f,e1,e2,e3,e4,e5,e6⟩:=get_is_put l (i+1) _ F k h
    have hf:0<f:=by
     rcases e3 with e3 | e3
     · exact e3
     omega
    have hlt:=UInt8.toNat_lt c
    refine ⟨(c.toNat-128)+128*f,?_,?_,.inl (by omega),by omega,e5,?_⟩
    · rw [e1,pow128,Nat.add_mul,Nat.mul_left_comm f 128,Nat.mul_assoc,Nat.add_assoc]
    · rw [show k-i=(k-(i+1))+1 by omega,List.take_succ_cons,putL_great (by omega),e2]
      have h1:(c.toNat-128+128*f) % 128+128=c.toNat:=by omega
      have h2:(c.toNat-128+128*f) / 128=f:=by omega
      rw [h1,h2,UInt8.ofNat_toNat]
    rw [putL_great (by omega),List.length_cons]
    have h2:(c.toNat-128+128*f) / 128=f:=by omega
    rw [h2]
    omega
  rename_i hc
  split at h
  · cases h
  rename_i h0
  cases h
  refine ⟨c.toNat,rfl,?_,by omega,by omega,by omega,?_⟩
  · rw [show i+1-i=0+1 by omega,List.take_succ_cons,List.take_zero,putL_small (by omega),UInt8.ofNat_toNat]
  rw [putL_small (by omega)]
  rfl
section
variable {ck:List UInt8→List UInt8}
theorem next_is_frame {l p:List UInt8} {n:Nat} (h:nextL ck l=some (p,n)):p.length≤8192∧l.take n=frameL ck p∧n≤l.length:=by
 have h0:=nextL_some h
 refine ⟨h0.2.2,?_,h0.2.1⟩
 unfold nextL at h
 split at h
 · cases h
 rename_i F k hg
 obtain ⟨f,e1,e2,_,_,_,e6⟩:=get_is_put _ _ _ _ _ hg
 simp only [Nat.pow_zero,Nat.mul_one,Nat.zero_add,Nat.sub_zero] at e1 e2 e6
 subst e1
 split at h
 · cases h
 rename_i hc
 split at h
 · rename_i hs
   simp only [Option.some.injEq,Prod.mk.injEq] at h
   obtain ⟨h1,h2⟩:=h
   have hpl:p.length=F / 2:=by
    rw [←h1,List.length_take,List.length_drop]
    omega
   have hF:2*p.length=F:=by omega
   rw [h1] at hs
   unfold frameL
   rw [hF,←e2,hs,←h2]
   have e3:l.take (k+4+F / 2)=l.take k++((l.drop k).take 4++(l.drop (k+4)).take (F / 2)):=by
    rw [List.take_add,List.take_add,List.append_assoc]
   rw [e3,h1]
 cases h
variable (ck)
def wholeG:Nat→List UInt8→List (List UInt8) × Nat
 | 0,_=>([],0)
 |
  f+1,l=>match nextL ck l with
  | none=>([],0)
  | some (p,n)=>(p::(wholeG f (l.drop n)).1,n+(wholeG f (l.drop n)).2)
def wholeL (l:List UInt8):List (List UInt8) × Nat:=wholeG ck l.length l
def framesL (ps:List (List UInt8)):List UInt8:=ps.flatMap (frameL ck)
variable {ck}
theorem wholeG_more:∀ (f g:Nat) (l:List UInt8),l.length≤f→l.length≤g→wholeG ck f l=wholeG ck g l
 |
  0,g,l,h,_=>by
  obtain rfl:=List.eq_nil_of_length_eq_zero (Nat.le_zero.1 h)
  cases g<;>rfl
 |
  f+1,0,l,_,h=>by
  obtain rfl:=List.eq_nil_of_length_eq_zero (Nat.le_zero.1 h)
  rfl
 |
  f+1,g+1,l,h1,h2=>by
  simp only [wholeG]
  cases hn:nextL ck l with
  | none=>rfl
  |
   some x =>
   obtain ⟨p,n⟩:=x
   have:=nextL_some hn
   simp only
   rw [wholeG_more f g (l.drop n) (by rw [List.length_drop];omega) (by rw [List.length_drop];omega)]
theorem wholeL_none {l:List UInt8} (h:nextL ck l=none):wholeL ck l=([],0):=by
 unfold wholeL
 cases hl:l.length with
 | zero=>rfl
 | succ k=>simp only [wholeG,h]
theorem wholeL_some {l p:List UInt8} {n:Nat} (h:nextL ck l=some (p,n)):wholeL ck l=(p::(wholeL ck (l.drop n)).1,n+(wholeL ck (l.drop n)).2):=by
 have h0:=nextL_some h
 unfold wholeL
 cases hl:l.length with
 | zero=>omega
 |
  succ k =>
  simp only [wholeG,h]
  rw [wholeG_more k (l.drop n).length (l.drop n) (by rw [List.length_drop];omega) (Nat.le_refl _)]
theorem framesL_cons (p:List UInt8) (ps:List (List UInt8)):framesL ck (p::ps)=frameL ck p++framesL ck ps:=rfl
theorem framesL_append (ps qs:List (List UInt8)):framesL ck (ps++qs)=framesL ck ps++framesL ck qs:=List.flatMap_append
theorem wholeL_spec:∀ (n:Nat) (l:List UInt8),l.length≤n→(∀ p∈(wholeL ck l).1,p.length≤8192)∧l.take (wholeL ck l).2=framesL ck (wholeL ck l).1∧(wholeL ck l).2≤l.length∧nextL ck (l.drop (wholeL ck l).2)=none
 |
  0,l,h=>by
  obtain rfl:=List.eq_nil_of_length_eq_zero (Nat.le_zero.1 h)
  exact ⟨fun p hp=>(by cases hp),rfl,Nat.le_refl _,rfl⟩
 |
  n+1,l,h=>by
  cases hn:nextL ck l with
  |
   none =>
   rw [wholeL_none hn]
   exact ⟨fun p hp=>(by cases hp),rfl,Nat.zero_le _,hn⟩
  |
   some x =>
   obtain ⟨p,k⟩:=x
   have h0:=nextL_some hn
   obtain ⟨h1,h2,h3⟩:=next_is_frame hn
   obtain ⟨i1,i2,i3,i4⟩:=wholeL_spec n (l.drop k) (by rw [List.length_drop];omega)
   rw [wholeL_some hn]
   refine ⟨fun q hq=>?_,?_,?_,?_⟩
   · rcases List.mem_cons.1 hq with rfl | hq
     · exact h1
     exact i1 q hq
   · rw [List.take_add,h2,i2]
     rfl
   · rw [List.length_drop] at i3
     simp only
     omega
   rw [←List.drop_drop]
   exact i4
variable (hck:∀ l,(ck l).length=4)
include hck
theorem frameL_len (p:List UInt8):5≤(frameL ck p).length:=by
 unfold frameL
 simp only [List.length_append,hck]
 have:=putL_pos (2*p.length)
 omega
theorem whole_frames:∀ (ps:List (List UInt8)) (r:List UInt8),(∀ p∈ps,p.length≤8192)→wholeL ck (framesL ck ps++r)=(ps++(wholeL ck r).1,(framesL ck ps).length+(wholeL ck r).2)
 | [],r,_=>by simp [framesL]
 |
  p::ps,r,h=>by
  have hn:=next_frame hck (h p List.mem_cons_self) (framesL ck ps++r)
  rw [framesL_cons,List.append_assoc,wholeL_some hn,List.drop_left,whole_frames ps r (fun q hq=>h q (List.mem_cons_of_mem _ hq))]
  simp only [List.cons_append,List.length_append,Prod.mk.injEq,true_and]
  omega
theorem whole_cut:∀ (qs:List (List UInt8)) (l t:List UInt8),(∀ p∈qs,p.length≤8192)→l++t=framesL ck qs →
 ∃ k,k≤qs.length∧wholeL ck l=(qs.take k,(framesL ck (qs.take k)).length)∧∀ j,j≤qs.length→(framesL ck (qs.take j)).length≤l.length→j≤k
 |
  [],l,t,_,h=>by
  have:l=[]:=(List.append_eq_nil_iff.1 h).1
  subst this
  exact ⟨0,Nat.le_refl _,rfl,fun j hj _=>hj⟩
 |
  q::qs,l,t,hq,h=>by
  rw [framesL_cons] at h
  rcases Nat.lt_or_ge l.length (frameL ck q).length with h1 | h1
  · have e:l++(frameL ck q).drop l.length=frameL ck q:=by
     have e1:=congrArg (fun z=>z.take (frameL ck q).length) h
     simp only [List.take_left] at e1
     rw [List.take_append,List.take_of_length_le (by omega)] at e1
     have e2:=congrArg (fun z=>z.drop l.length) e1
     simp only [List.drop_left] at e2
     rw [←e2]
     exact e1
    have hn:=next_cut hck (hq q List.mem_cons_self) e (fun e=>by
     have:=congrArg List.length e
     rw [List.length_drop] at this
     simp only [List.length_nil] at this
     omega)
    refine ⟨0,Nat.zero_le _,by rw [wholeL_none hn];rfl,fun j hj hle=>?_⟩
    cases j with
    | zero=>exact Nat.le_refl _
    |
     succ j =>
     rw [List.take_succ_cons,framesL_cons,List.length_append] at hle
     omega
  obtain ⟨r,rfl⟩:∃ r,l=frameL ck q++r:=⟨l.drop (frameL ck q).length,by
   have e:=congrArg (fun z=>z.take (frameL ck q).length) h
   simp only [List.take_left] at e
   rw [List.take_append_of_le_length h1] at e
   conv=>lhs;rw [←List.take_append_drop (frameL ck q).length l,e]⟩
  rw [List.append_assoc] at h
  obtain ⟨k,hk,e,hmax⟩:=whole_cut qs r t (fun p hp=>hq p (List.mem_cons_of_mem _ hp)) (List.append_cancel_left h)
  refine ⟨k+1,Nat.succ_le_succ hk,?_,fun j hj hle=>?_⟩
  · rw [wholeL_some (next_frame hck (hq q List.mem_cons_self) r),List.drop_left,e]
    simp only [List.take_succ_cons,framesL_cons,List.length_append]
  cases j with
  | zero=>exact Nat.zero_le _
  |
   succ j =>
   rw [List.take_succ_cons,framesL_cons,List.length_append,List.length_append] at hle
   exact Nat.succ_le_succ (hmax j (Nat.le_of_succ_le_succ hj) (by omega))
end
end Go.Sy
namespace Go.Proofs
open Go.Sy
def Tryz.tab:Tab :=
 [some { k:=TK.other,size:=1,bytes:=0,zero:=[Value.tuple #[]] },
  some { k:=TK.func,size:=1,bytes:=8,zero:=[Value.nilFunc] },
  some { k:=TK.int IntKind.i64,size:=1,bytes:=8,zero:=[Value.int IntKind.i64 (0)] },
  some { k:=TK.int IntKind.i64,size:=1,bytes:=8,zero:=[Value.int IntKind.i64 (0)] },
  some { k:=TK.bool,size:=1,bytes:=1,zero:=[Value.bool false] },
  some { k:=TK.int IntKind.u8,size:=1,bytes:=1,zero:=[Value.int IntKind.u8 (0)] },
  some { k:=TK.int IntKind.u8,size:=1,bytes:=1,zero:=[Value.int IntKind.u8 (0)] },
  some
   {
    k:=TK.struct [(0,2),(1,3),(2,4),(3,6)],size:=4,bytes:=24,
    zero :=
     [Value.int IntKind.i64 (0),Value.int IntKind.i64 (0),Value.bool false,
      Value.int IntKind.u8 (0)] },
  some
   {
    k:=TK.struct [(0,2),(1,3),(2,4),(3,6)],size:=4,bytes:=24,
    zero :=
     [Value.int IntKind.i64 (0),Value.int IntKind.i64 (0),Value.bool false,
      Value.int IntKind.u8 (0)] },
  some { k:=TK.string,size:=1,bytes:=16,zero:=[Value.string ByteArray.empty] },
  some { k:=TK.string,size:=1,bytes:=16,zero:=[Value.string ByteArray.empty] },
  some { k:=TK.string,size:=1,bytes:=16,zero:=[Value.string ByteArray.empty] },
  some { k:=TK.int IntKind.u64,size:=1,bytes:=8,zero:=[Value.int IntKind.u64 (0)] },
  some
   {
    k:=TK.struct [(0,9),(1,12)],size:=2,bytes:=24,
    zero:=[Value.string ByteArray.empty,Value.int IntKind.u64 (0)] },
  some
   {
    k:=TK.struct [(0,9),(1,12)],size:=2,bytes:=24,
    zero:=[Value.string ByteArray.empty,Value.int IntKind.u64 (0)] },
  some { k:=TK.ptr 382,size:=1,bytes:=8,zero:=[Value.pointer none] },
  some { k:=TK.ptr 385,size:=1,bytes:=8,zero:=[Value.pointer none] },
  some { k:=TK.ptr 392,size:=1,bytes:=8,zero:=[Value.pointer none] },
  some { k:=TK.struct [(0,17)],size:=1,bytes:=8,zero:=[Value.pointer none] },
  some { k:=TK.struct [(0,17)],size:=1,bytes:=8,zero:=[Value.pointer none] },
  some { k:=TK.other,size:=1,bytes:=16,zero:=[Value.nilIface] },
  some { k:=TK.int IntKind.i32,size:=1,bytes:=4,zero:=[Value.int IntKind.i32 (0)] },
  some
   {
    k:=TK.struct [(0,3),(1,3),(2,3),(3,3),(4,3)],size:=5,bytes:=40,
    zero :=
     [Value.int IntKind.i64 (0),Value.int IntKind.i64 (0),Value.int IntKind.i64 (0),
      Value.int IntKind.i64 (0),Value.int IntKind.i64 (0)] },
  some
   {
    k:=TK.struct [(0,3),(1,3),(2,3),(3,3),(4,3)],size:=5,bytes:=40,
    zero :=
     [Value.int IntKind.i64 (0),Value.int IntKind.i64 (0),Value.int IntKind.i64 (0),
      Value.int IntKind.i64 (0),Value.int IntKind.i64 (0)] },
  some { k:=TK.slice 127,size:=1,bytes:=24,zero:=[Value.slice none 0 0] },
  some
   {
    k:=TK.struct [(0,3),(1,3),(2,3)],size:=3,bytes:=24,
    zero :=
     [Value.int IntKind.i64 (0),Value.int IntKind.i64 (0),
      Value.int IntKind.i64 (0)] },
  some
   {
    k:=TK.struct [(0,3),(1,3),(2,3)],size:=3,bytes:=24,
    zero :=
     [Value.int IntKind.i64 (0),Value.int IntKind.i64 (0),
      Value.int IntKind.i64 (0)] },
  some
   {
    k :=
     TK.struct [(0,3),(1,3),(2,3),(3,3),(4,3),(5,3),(6,3),(7,3),(8,3),(9,24),(10,23),(15,26)],
    size:=18,bytes:=160,
    zero :=
     [Value.int IntKind.i64 (0),Value.int IntKind.i64 (0),Value.int IntKind.i64 (0),
      Value.int IntKind.i64 (0),Value.int IntKind.i64 (0),Value.int IntKind.i64 (0),
      Value.int IntKind.i64 (0),Value.int IntKind.i64 (0),Value.int IntKind.i64 (0),
      Value.slice none 0 0,Value.int IntKind.i64 (0),Value.int IntKind.i64 (0),
      Value.int IntKind.i64 (0),Value.int IntKind.i64 (0),Value.int IntKind.i64 (0),
      Value.int IntKind.i64 (0),Value.int IntKind.i64 (0),
      Value.int IntKind.i64 (0)] },
  some
   {
    k :=
     TK.struct [(0,3),(1,3),(2,3),(3,3),(4,3),(5,3),(6,3),(7,3),(8,3),(9,24),(10,23),(15,26)],
    size:=18,bytes:=160,
    zero :=
     [Value.int IntKind.i64 (0),Value.int IntKind.i64 (0),Value.int IntKind.i64 (0),
      Value.int IntKind.i64 (0),Value.int IntKind.i64 (0),Value.int IntKind.i64 (0),
      Value.int IntKind.i64 (0),Value.int IntKind.i64 (0),Value.int IntKind.i64 (0),
      Value.slice none 0 0,Value.int IntKind.i64 (0),Value.int IntKind.i64 (0),
      Value.int IntKind.i64 (0),Value.int IntKind.i64 (0),Value.int IntKind.i64 (0),
      Value.int IntKind.i64 (0),Value.int IntKind.i64 (0),
      Value.int IntKind.i64 (0)] },
  some { k:=TK.slice 3,size:=1,bytes:=24,zero:=[Value.slice none 0 0] },
  some
   {
    k:=TK.struct [(0,5),(1,3),(2,3),(3,23),(8,28),(26,29)],size:=27,bytes:=248,
    zero :=
     [Value.int IntKind.u8 (0),Value.int IntKind.i64 (0),Value.int IntKind.i64 (0),
      Value.int IntKind.i64 (0),Value.int IntKind.i64 (0),Value.int IntKind.i64 (0),
      Value.int IntKind.i64 (0),Value.int IntKind.i64 (0),Value.int IntKind.i64 (0),
      Value.int IntKind.i64 (0),Value.int IntKind.i64 (0),Value.int IntKind.i64 (0),
      Value.int IntKind.i64 (0),Value.int IntKind.i64 (0),Value.int IntKind.i64 (0),
      Value.int IntKind.i64 (0),Value.int IntKind.i64 (0),Value.slice none 0 0,
      Value.int IntKind.i64 (0),Value.int IntKind.i64 (0),Value.int IntKind.i64 (0),
      Value.int IntKind.i64 (0),Value.int IntKind.i64 (0),Value.int IntKind.i64 (0),
      Value.int IntKind.i64 (0),Value.int IntKind.i64 (0),Value.slice none 0 0] },
  some
   {
    k:=TK.struct [(0,5),(1,3),(2,3),(3,23),(8,28),(26,29)],size:=27,bytes:=248,
    zero :=
     [Value.int IntKind.u8 (0),Value.int IntKind.i64 (0),Value.int IntKind.i64 (0),
      Value.int IntKind.i64 (0),Value.int IntKind.i64 (0),Value.int IntKind.i64 (0),
      Value.int IntKind.i64 (0),Value.int IntKind.i64 (0),Value.int IntKind.i64 (0),
      Value.int IntKind.i64 (0),Value.int IntKind.i64 (0),Value.int IntKind.i64 (0),
      Value.int IntKind.i64 (0),Value.int IntKind.i64 (0),Value.int IntKind.i64 (0),
      Value.int IntKind.i64 (0),Value.int IntKind.i64 (0),Value.slice none 0 0,
      Value.int IntKind.i64 (0),Value.int IntKind.i64 (0),Value.int IntKind.i64 (0),
      Value.int IntKind.i64 (0),Value.int IntKind.i64 (0),Value.int IntKind.i64 (0),
      Value.int IntKind.i64 (0),Value.int IntKind.i64 (0),Value.slice none 0 0] },
  some { k:=TK.func,size:=1,bytes:=8,zero:=[Value.nilFunc] },
  some { k:=TK.slice 31,size:=1,bytes:=24,zero:=[Value.slice none 0 0] },
  some { k:=TK.func,size:=1,bytes:=8,zero:=[Value.nilFunc] },
  some { k:=TK.ptr 67,size:=1,bytes:=8,zero:=[Value.pointer none] },
  some { k:=TK.int IntKind.i64,size:=1,bytes:=8,zero:=[Value.int IntKind.i64 (0)] },
  some { k:=TK.slice 28,size:=1,bytes:=24,zero:=[Value.slice none 0 0] },
  some { k:=TK.slice 72,size:=1,bytes:=24,zero:=[Value.slice none 0 0] },
  some
   {
    k:=TK.other,size:=1,bytes:=0,
    zero :=
     [Value.tuple { toList:=[Value.slice none 0 0,Value.slice none 0 0,Value.int IntKind.i64 (0)] }] },
  some { k:=TK.func,size:=1,bytes:=8,zero:=[Value.nilFunc] },
  some { k:=TK.slice 129,size:=1,bytes:=24,zero:=[Value.slice none 0 0] },
  some
   {
    k:=TK.other,size:=1,bytes:=0,
    zero:=[Value.tuple { toList:=[Value.slice none 0 0,Value.int IntKind.i64 (0)] }] },
  some { k:=TK.func,size:=1,bytes:=8,zero:=[Value.nilFunc] },
  some
   {
    k:=TK.struct [(0,3),(1,3),(2,24),(3,3)],size:=4,bytes:=48,
    zero :=
     [Value.int IntKind.i64 (0),Value.int IntKind.i64 (0),Value.slice none 0 0,
      Value.int IntKind.i64 (0)] },
  some
   {
    k:=TK.struct [(0,3),(1,3),(2,24),(3,3)],size:=4,bytes:=48,
    zero :=
     [Value.int IntKind.i64 (0),Value.int IntKind.i64 (0),Value.slice none 0 0,
      Value.int IntKind.i64 (0)] },
  some
   {
    k:=TK.other,size:=1,bytes:=0,
    zero :=
     [Value.tuple
      {
       toList :=
        [Value.agg
         {
          toList :=
           [Value.int IntKind.i64 (0),Value.int IntKind.i64 (0),Value.slice none 0 0,
            Value.int IntKind.i64 (0)] },
         Value.int IntKind.i64 (0)] }] },
  some { k:=TK.func,size:=1,bytes:=8,zero:=[Value.nilFunc] },
  some
   {
    k:=TK.other,size:=1,bytes:=0,
    zero:=[Value.tuple { toList:=[Value.int IntKind.i64 (0),Value.bool false] }] },
  some { k:=TK.func,size:=1,bytes:=8,zero:=[Value.nilFunc] },
  some { k:=TK.func,size:=1,bytes:=8,zero:=[Value.nilFunc] },
  some { k:=TK.func,size:=1,bytes:=8,zero:=[Value.nilFunc] },
  some { k:=TK.func,size:=1,bytes:=8,zero:=[Value.nilFunc] },
  some { k:=TK.func,size:=1,bytes:=8,zero:=[Value.nilFunc] },
  some { k:=TK.func,size:=1,bytes:=8,zero:=[Value.nilFunc] },
  some { k:=TK.func,size:=1,bytes:=8,zero:=[Value.nilFunc] },
  some { k:=TK.func,size:=1,bytes:=8,zero:=[Value.nilFunc] },
  some { k:=TK.ptr 184,size:=1,bytes:=8,zero:=[Value.pointer none] },
  some { k:=TK.ptr 102,size:=1,bytes:=8,zero:=[Value.pointer none] },
  some { k:=TK.ptr 170,size:=1,bytes:=8,zero:=[Value.pointer none] },
  some { k:=TK.ptr 152,size:=1,bytes:=8,zero:=[Value.pointer none] },
  some
   {
    k:=TK.arr 4 60,size:=4,bytes:=32,
    zero:=[Value.pointer none,Value.pointer none,Value.pointer none,Value.pointer none] },
  some { k:=TK.ptr 105,size:=1,bytes:=8,zero:=[Value.pointer none] },
  some
   {
    k:=TK.arr 4 62,size:=4,bytes:=32,
    zero:=[Value.pointer none,Value.pointer none,Value.pointer none,Value.pointer none] },
  some
   {
    k:=TK.arr 4 3,size:=4,bytes:=32,
    zero :=
     [Value.int IntKind.i64 (0),Value.int IntKind.i64 (0),Value.int IntKind.i64 (0),
      Value.int IntKind.i64 (0)] },
  some { k:=TK.ptr 134,size:=1,bytes:=8,zero:=[Value.pointer none] },
  some
   {
    k :=
     TK.struct
      [(
       0,3),(1,3),(2,57),(3,3),(4,58),(5,59),(6,61),(10,63),(14,64),(18,65),(19,37),
       (20,38)],
    size:=21,bytes:=200,
    zero :=
     [Value.int IntKind.i64 (0),Value.int IntKind.i64 (0),Value.pointer none,
      Value.int IntKind.i64 (0),Value.pointer none,Value.pointer none,Value.pointer none,
      Value.pointer none,Value.pointer none,Value.pointer none,Value.pointer none,Value.pointer none,
      Value.pointer none,Value.pointer none,Value.int IntKind.i64 (0),
      Value.int IntKind.i64 (0),Value.int IntKind.i64 (0),Value.int IntKind.i64 (0),
      Value.pointer none,Value.slice none 0 0,Value.slice none 0 0] },
  some
   {
    k :=
     TK.struct
      [(
       0,3),(1,3),(2,57),(3,3),(4,58),(5,59),(6,61),(10,63),(14,64),(18,65),(19,37),
       (20,38)],
    size:=21,bytes:=200,
    zero :=
     [Value.int IntKind.i64 (0),Value.int IntKind.i64 (0),Value.pointer none,
      Value.int IntKind.i64 (0),Value.pointer none,Value.pointer none,Value.pointer none,
      Value.pointer none,Value.pointer none,Value.pointer none,Value.pointer none,Value.pointer none,
      Value.pointer none,Value.pointer none,Value.int IntKind.i64 (0),
      Value.int IntKind.i64 (0),Value.int IntKind.i64 (0),Value.int IntKind.i64 (0),
      Value.pointer none,Value.slice none 0 0,Value.slice none 0 0] },
  some
   {
    k:=TK.other,size:=1,bytes:=0,
    zero:=[Value.tuple { toList:=[Value.pointer none,Value.int IntKind.i64 (0)] }] },
  some { k:=TK.func,size:=1,bytes:=8,zero:=[Value.nilFunc] },
  some { k:=TK.func,size:=1,bytes:=8,zero:=[Value.nilFunc] },
  some
   {
    k:=TK.struct [(0,3),(1,3),(2,26)],size:=5,bytes:=40,
    zero :=
     [Value.int IntKind.i64 (0),Value.int IntKind.i64 (0),Value.int IntKind.i64 (0),
      Value.int IntKind.i64 (0),Value.int IntKind.i64 (0)] },
  some
   {
    k:=TK.struct [(0,3),(1,3),(2,26)],size:=5,bytes:=40,
    zero :=
     [Value.int IntKind.i64 (0),Value.int IntKind.i64 (0),Value.int IntKind.i64 (0),
      Value.int IntKind.i64 (0),Value.int IntKind.i64 (0)] },
  some { k:=TK.func,size:=1,bytes:=8,zero:=[Value.nilFunc] },
  some { k:=TK.func,size:=1,bytes:=8,zero:=[Value.nilFunc] },
  some { k:=TK.slice 112,size:=1,bytes:=24,zero:=[Value.slice none 0 0] },
  some
   {
    k:=TK.other,size:=1,bytes:=0,
    zero:=[Value.tuple { toList:=[Value.slice none 0 0,Value.int IntKind.i64 (0)] }] },
  some { k:=TK.func,size:=1,bytes:=8,zero:=[Value.nilFunc] },
  some
   {
    k:=TK.arr 4 24,size:=4,bytes:=96,
    zero:=[Value.slice none 0 0,Value.slice none 0 0,Value.slice none 0 0,Value.slice none 0 0] },
  some { k:=TK.func,size:=1,bytes:=8,zero:=[Value.nilFunc] },
  some { k:=TK.func,size:=1,bytes:=8,zero:=[Value.nilFunc] },
  some
   {
    k:=TK.other,size:=1,bytes:=0,
    zero :=
     [Value.tuple
      {
       toList :=
        [Value.agg
         {
          toList :=
           [Value.int IntKind.i64 (0),Value.int IntKind.i64 (0),
            Value.int IntKind.i64 (0)] },
         Value.bool false] }] },
  some { k:=TK.func,size:=1,bytes:=8,zero:=[Value.nilFunc] },
  some { k:=TK.func,size:=1,bytes:=8,zero:=[Value.nilFunc] },
  some { k:=TK.func,size:=1,bytes:=8,zero:=[Value.nilFunc] },
  some { k:=TK.func,size:=1,bytes:=8,zero:=[Value.nilFunc] },
  some { k:=TK.func,size:=1,bytes:=8,zero:=[Value.nilFunc] },
  some { k:=TK.func,size:=1,bytes:=8,zero:=[Value.nilFunc] },
  some { k:=TK.func,size:=1,bytes:=8,zero:=[Value.nilFunc] },
  some { k:=TK.func,size:=1,bytes:=8,zero:=[Value.nilFunc] },
  some { k:=TK.func,size:=1,bytes:=8,zero:=[Value.nilFunc] },
  some { k:=TK.func,size:=1,bytes:=8,zero:=[Value.nilFunc] },
  some { k:=TK.func,size:=1,bytes:=8,zero:=[Value.nilFunc] },
  some { k:=TK.func,size:=1,bytes:=8,zero:=[Value.nilFunc] },
  some { k:=TK.func,size:=1,bytes:=8,zero:=[Value.nilFunc] },
  some
   {
    k:=TK.other,size:=1,bytes:=0,
    zero:=[Value.tuple { toList:=[Value.pointer none,Value.int IntKind.i64 (0)] }] },
  some { k:=TK.func,size:=1,bytes:=8,zero:=[Value.nilFunc] },
  some { k:=TK.ptr 195,size:=1,bytes:=8,zero:=[Value.pointer none] },
  some
   {
    k:=TK.arr 4 45,size:=16,bytes:=192,
    zero :=
     [Value.int IntKind.i64 (0),Value.int IntKind.i64 (0),Value.slice none 0 0,
      Value.int IntKind.i64 (0),Value.int IntKind.i64 (0),Value.int IntKind.i64 (0),
      Value.slice none 0 0,Value.int IntKind.i64 (0),Value.int IntKind.i64 (0),
      Value.int IntKind.i64 (0),Value.slice none 0 0,Value.int IntKind.i64 (0),
      Value.int IntKind.i64 (0),Value.int IntKind.i64 (0),Value.slice none 0 0,
      Value.int IntKind.i64 (0)] },
  some
   {
    k:=TK.struct [(0,98),(16,75)],size:=17,bytes:=216,
    zero :=
     [Value.int IntKind.i64 (0),Value.int IntKind.i64 (0),Value.slice none 0 0,
      Value.int IntKind.i64 (0),Value.int IntKind.i64 (0),Value.int IntKind.i64 (0),
      Value.slice none 0 0,Value.int IntKind.i64 (0),Value.int IntKind.i64 (0),
      Value.int IntKind.i64 (0),Value.slice none 0 0,Value.int IntKind.i64 (0),
      Value.int IntKind.i64 (0),Value.int IntKind.i64 (0),Value.slice none 0 0,
      Value.int IntKind.i64 (0),Value.slice none 0 0] },
  some
   {
    k:=TK.struct [(0,98),(16,75)],size:=17,bytes:=216,
    zero :=
     [Value.int IntKind.i64 (0),Value.int IntKind.i64 (0),Value.slice none 0 0,
      Value.int IntKind.i64 (0),Value.int IntKind.i64 (0),Value.int IntKind.i64 (0),
      Value.slice none 0 0,Value.int IntKind.i64 (0),Value.int IntKind.i64 (0),
      Value.int IntKind.i64 (0),Value.slice none 0 0,Value.int IntKind.i64 (0),
      Value.int IntKind.i64 (0),Value.int IntKind.i64 (0),Value.slice none 0 0,
      Value.int IntKind.i64 (0),Value.slice none 0 0] },
  some
   {
    k:=TK.struct [(0,97),(1,100),(18,3),(19,4)],size:=20,bytes:=240,
    zero :=
     [Value.pointer none,Value.int IntKind.i64 (0),Value.int IntKind.i64 (0),
      Value.slice none 0 0,Value.int IntKind.i64 (0),Value.int IntKind.i64 (0),
      Value.int IntKind.i64 (0),Value.slice none 0 0,Value.int IntKind.i64 (0),
      Value.int IntKind.i64 (0),Value.int IntKind.i64 (0),Value.slice none 0 0,
      Value.int IntKind.i64 (0),Value.int IntKind.i64 (0),Value.int IntKind.i64 (0),
      Value.slice none 0 0,Value.int IntKind.i64 (0),Value.slice none 0 0,
      Value.int IntKind.i64 (0),Value.bool false] },
  some
   {
    k:=TK.struct [(0,97),(1,100),(18,3),(19,4)],size:=20,bytes:=240,
    zero :=
     [Value.pointer none,Value.int IntKind.i64 (0),Value.int IntKind.i64 (0),
      Value.slice none 0 0,Value.int IntKind.i64 (0),Value.int IntKind.i64 (0),
      Value.int IntKind.i64 (0),Value.slice none 0 0,Value.int IntKind.i64 (0),
      Value.int IntKind.i64 (0),Value.int IntKind.i64 (0),Value.slice none 0 0,
      Value.int IntKind.i64 (0),Value.int IntKind.i64 (0),Value.int IntKind.i64 (0),
      Value.slice none 0 0,Value.int IntKind.i64 (0),Value.slice none 0 0,
      Value.int IntKind.i64 (0),Value.bool false] },
  some
   {
    k:=TK.arr 7 3,size:=7,bytes:=56,
    zero :=
     [Value.int IntKind.i64 (0),Value.int IntKind.i64 (0),Value.int IntKind.i64 (0),
      Value.int IntKind.i64 (0),Value.int IntKind.i64 (0),Value.int IntKind.i64 (0),
      Value.int IntKind.i64 (0)] },
  some
   {
    k:=TK.struct [(0,3),(1,3),(2,3),(3,3),(4,103),(11,103),(18,4),(19,3)],size:=20,bytes:=160,
    zero :=
     [Value.int IntKind.i64 (0),Value.int IntKind.i64 (0),Value.int IntKind.i64 (0),
      Value.int IntKind.i64 (0),Value.int IntKind.i64 (0),Value.int IntKind.i64 (0),
      Value.int IntKind.i64 (0),Value.int IntKind.i64 (0),Value.int IntKind.i64 (0),
      Value.int IntKind.i64 (0),Value.int IntKind.i64 (0),Value.int IntKind.i64 (0),
      Value.int IntKind.i64 (0),Value.int IntKind.i64 (0),Value.int IntKind.i64 (0),
      Value.int IntKind.i64 (0),Value.int IntKind.i64 (0),Value.int IntKind.i64 (0),
      Value.bool false,Value.int IntKind.i64 (0)] },
  some
   {
    k:=TK.struct [(0,3),(1,3),(2,3),(3,3),(4,103),(11,103),(18,4),(19,3)],size:=20,bytes:=160,
    zero :=
     [Value.int IntKind.i64 (0),Value.int IntKind.i64 (0),Value.int IntKind.i64 (0),
      Value.int IntKind.i64 (0),Value.int IntKind.i64 (0),Value.int IntKind.i64 (0),
      Value.int IntKind.i64 (0),Value.int IntKind.i64 (0),Value.int IntKind.i64 (0),
      Value.int IntKind.i64 (0),Value.int IntKind.i64 (0),Value.int IntKind.i64 (0),
      Value.int IntKind.i64 (0),Value.int IntKind.i64 (0),Value.int IntKind.i64 (0),
      Value.int IntKind.i64 (0),Value.int IntKind.i64 (0),Value.int IntKind.i64 (0),
      Value.bool false,Value.int IntKind.i64 (0)] },
  some { k:=TK.func,size:=1,bytes:=8,zero:=[Value.nilFunc] },
  some
   {
    k:=TK.struct [(0,3),(1,3),(2,3),(3,3),(4,3),(5,3),(6,24),(7,75)],size:=8,bytes:=96,
    zero :=
     [Value.int IntKind.i64 (0),Value.int IntKind.i64 (0),Value.int IntKind.i64 (0),
      Value.int IntKind.i64 (0),Value.int IntKind.i64 (0),Value.int IntKind.i64 (0),
      Value.slice none 0 0,Value.slice none 0 0] },
  some
   {
    k:=TK.struct [(0,3),(1,3),(2,3),(3,3),(4,3),(5,3),(6,24),(7,75)],size:=8,bytes:=96,
    zero :=
     [Value.int IntKind.i64 (0),Value.int IntKind.i64 (0),Value.int IntKind.i64 (0),
      Value.int IntKind.i64 (0),Value.int IntKind.i64 (0),Value.int IntKind.i64 (0),
      Value.slice none 0 0,Value.slice none 0 0] },
  some { k:=TK.func,size:=1,bytes:=8,zero:=[Value.nilFunc] },
  some { k:=TK.func,size:=1,bytes:=8,zero:=[Value.nilFunc] },
  some
   {
    k:=TK.struct [(0,3),(1,3)],size:=2,bytes:=16,
    zero:=[Value.int IntKind.i64 (0),Value.int IntKind.i64 (0)] },
  some
   {
    k:=TK.struct [(0,3),(1,3)],size:=2,bytes:=16,
    zero:=[Value.int IntKind.i64 (0),Value.int IntKind.i64 (0)] },
  some { k:=TK.slice 122,size:=1,bytes:=24,zero:=[Value.slice none 0 0] },
  some
   {
    k:=TK.arr 4 113,size:=4,bytes:=96,
    zero:=[Value.slice none 0 0,Value.slice none 0 0,Value.slice none 0 0,Value.slice none 0 0] },
  some
   {
    k:=TK.struct [(0,3),(1,4),(2,3),(3,3)],size:=4,bytes:=32,
    zero :=
     [Value.int IntKind.i64 (0),Value.bool false,Value.int IntKind.i64 (0),
      Value.int IntKind.i64 (0)] },
  some
   {
    k:=TK.struct [(0,3),(1,4),(2,3),(3,3)],size:=4,bytes:=32,
    zero :=
     [Value.int IntKind.i64 (0),Value.bool false,Value.int IntKind.i64 (0),
      Value.int IntKind.i64 (0)] },
  some
   {
    k:=TK.other,size:=1,bytes:=0,
    zero :=
     [Value.tuple
      {
       toList :=
        [Value.agg
         {
          toList :=
           [Value.int IntKind.i64 (0),Value.bool false,Value.int IntKind.i64 (0),
            Value.int IntKind.i64 (0)] },
         Value.slice none 0 0] }] },
  some { k:=TK.func,size:=1,bytes:=8,zero:=[Value.nilFunc] },
  some { k:=TK.map 3 3,size:=1,bytes:=8,zero:=[Value.map none] },
  some { k:=TK.slice 125,size:=1,bytes:=24,zero:=[Value.slice none 0 0] },
  some
   {
    k:=TK.struct [(0,3),(1,3),(2,120)],size:=3,bytes:=40,
    zero:=[Value.int IntKind.i64 (0),Value.int IntKind.i64 (0),Value.slice none 0 0] },
  some
   {
    k:=TK.struct [(0,3),(1,3),(2,120)],size:=3,bytes:=40,
    zero:=[Value.int IntKind.i64 (0),Value.int IntKind.i64 (0),Value.slice none 0 0] },
  some { k:=TK.func,size:=1,bytes:=8,zero:=[Value.nilFunc] },
  some
   {
    k:=TK.struct [(0,3),(1,3)],size:=2,bytes:=16,
    zero:=[Value.int IntKind.i64 (0),Value.int IntKind.i64 (0)] },
  some
   {
    k:=TK.struct [(0,3),(1,3)],size:=2,bytes:=16,
    zero:=[Value.int IntKind.i64 (0),Value.int IntKind.i64 (0)] },
  some
   {
    k:=TK.struct [(0,3),(1,23)],size:=6,bytes:=48,
    zero :=
     [Value.int IntKind.i64 (0),Value.int IntKind.i64 (0),Value.int IntKind.i64 (0),
      Value.int IntKind.i64 (0),Value.int IntKind.i64 (0),
      Value.int IntKind.i64 (0)] },
  some
   {
    k:=TK.struct [(0,3),(1,23)],size:=6,bytes:=48,
    zero :=
     [Value.int IntKind.i64 (0),Value.int IntKind.i64 (0),Value.int IntKind.i64 (0),
      Value.int IntKind.i64 (0),Value.int IntKind.i64 (0),
      Value.int IntKind.i64 (0)] },
  some
   {
    k:=TK.struct [(0,112),(2,23),(7,122)],size:=10,bytes:=96,
    zero :=
     [Value.int IntKind.i64 (0),Value.int IntKind.i64 (0),Value.int IntKind.i64 (0),
      Value.int IntKind.i64 (0),Value.int IntKind.i64 (0),Value.int IntKind.i64 (0),
      Value.int IntKind.i64 (0),Value.int IntKind.i64 (0),Value.int IntKind.i64 (0),
      Value.slice none 0 0] },
  some
   {
    k:=TK.struct [(0,112),(2,23),(7,122)],size:=10,bytes:=96,
    zero :=
     [Value.int IntKind.i64 (0),Value.int IntKind.i64 (0),Value.int IntKind.i64 (0),
      Value.int IntKind.i64 (0),Value.int IntKind.i64 (0),Value.int IntKind.i64 (0),
      Value.int IntKind.i64 (0),Value.int IntKind.i64 (0),Value.int IntKind.i64 (0),
      Value.slice none 0 0] },
  some { k:=TK.func,size:=1,bytes:=8,zero:=[Value.nilFunc] },
  some { k:=TK.func,size:=1,bytes:=8,zero:=[Value.nilFunc] },
  some { k:=TK.map 163 29,size:=1,bytes:=8,zero:=[Value.map none] },
  some { k:=TK.struct [(0,132)],size:=1,bytes:=8,zero:=[Value.map none] },
  some { k:=TK.struct [(0,132)],size:=1,bytes:=8,zero:=[Value.map none] },
  some { k:=TK.slice 140,size:=1,bytes:=24,zero:=[Value.slice none 0 0] },
  some { k:=TK.func,size:=1,bytes:=8,zero:=[Value.nilFunc] },
  some { k:=TK.ptr 23,size:=1,bytes:=8,zero:=[Value.pointer none] },
  some { k:=TK.ptr 3,size:=1,bytes:=8,zero:=[Value.pointer none] },
  some
   {
    k:=TK.struct [(0,138),(1,3),(2,3)],size:=3,bytes:=24,
    zero:=[Value.pointer none,Value.int IntKind.i64 (0),Value.int IntKind.i64 (0)] },
  some
   {
    k:=TK.struct [(0,138),(1,3),(2,3)],size:=3,bytes:=24,
    zero:=[Value.pointer none,Value.int IntKind.i64 (0),Value.int IntKind.i64 (0)] },
  some { k:=TK.func,size:=1,bytes:=8,zero:=[Value.nilFunc] },
  some { k:=TK.func,size:=1,bytes:=8,zero:=[Value.nilFunc] },
  some { k:=TK.func,size:=1,bytes:=8,zero:=[Value.nilFunc] },
  some { k:=TK.func,size:=1,bytes:=8,zero:=[Value.nilFunc] },
  some { k:=TK.func,size:=1,bytes:=8,zero:=[Value.nilFunc] },
  some { k:=TK.slice 108,size:=1,bytes:=24,zero:=[Value.slice none 0 0] },
  some
   {
    k:=TK.other,size:=1,bytes:=0,
    zero:=[Value.tuple { toList:=[Value.slice none 0 0,Value.slice none 0 0] }] },
  some { k:=TK.func,size:=1,bytes:=8,zero:=[Value.nilFunc] },
  some
   {
    k:=TK.arr 7 4,size:=7,bytes:=7,
    zero :=
     [Value.bool false,Value.bool false,Value.bool false,Value.bool false,Value.bool false,Value.bool false,
      Value.bool false] },
  some
   {
    k:=TK.arr 7 45,size:=28,bytes:=336,
    zero :=
     [Value.int IntKind.i64 (0),Value.int IntKind.i64 (0),Value.slice none 0 0,
      Value.int IntKind.i64 (0),Value.int IntKind.i64 (0),Value.int IntKind.i64 (0),
      Value.slice none 0 0,Value.int IntKind.i64 (0),Value.int IntKind.i64 (0),
      Value.int IntKind.i64 (0),Value.slice none 0 0,Value.int IntKind.i64 (0),
      Value.int IntKind.i64 (0),Value.int IntKind.i64 (0),Value.slice none 0 0,
      Value.int IntKind.i64 (0),Value.int IntKind.i64 (0),Value.int IntKind.i64 (0),
      Value.slice none 0 0,Value.int IntKind.i64 (0),Value.int IntKind.i64 (0),
      Value.int IntKind.i64 (0),Value.slice none 0 0,Value.int IntKind.i64 (0),
      Value.int IntKind.i64 (0),Value.int IntKind.i64 (0),Value.slice none 0 0,
      Value.int IntKind.i64 (0)] },
  some
   {
    k:=TK.struct [(0,3),(1,3),(2,3),(3,3),(4,3),(5,149),(12,150)],size:=40,bytes:=384,
    zero :=
     [Value.int IntKind.i64 (0),Value.int IntKind.i64 (0),Value.int IntKind.i64 (0),
      Value.int IntKind.i64 (0),Value.int IntKind.i64 (0),Value.bool false,Value.bool false,
      Value.bool false,Value.bool false,Value.bool false,Value.bool false,Value.bool false,
      Value.int IntKind.i64 (0),Value.int IntKind.i64 (0),Value.slice none 0 0,
      Value.int IntKind.i64 (0),Value.int IntKind.i64 (0),Value.int IntKind.i64 (0),
      Value.slice none 0 0,Value.int IntKind.i64 (0),Value.int IntKind.i64 (0),
      Value.int IntKind.i64 (0),Value.slice none 0 0,Value.int IntKind.i64 (0),
      Value.int IntKind.i64 (0),Value.int IntKind.i64 (0),Value.slice none 0 0,
      Value.int IntKind.i64 (0),Value.int IntKind.i64 (0),Value.int IntKind.i64 (0),
      Value.slice none 0 0,Value.int IntKind.i64 (0),Value.int IntKind.i64 (0),
      Value.int IntKind.i64 (0),Value.slice none 0 0,Value.int IntKind.i64 (0),
      Value.int IntKind.i64 (0),Value.int IntKind.i64 (0),Value.slice none 0 0,
      Value.int IntKind.i64 (0)] },
  some
   {
    k:=TK.struct [(0,3),(1,3),(2,3),(3,3),(4,3),(5,149),(12,150)],size:=40,bytes:=384,
    zero :=
     [Value.int IntKind.i64 (0),Value.int IntKind.i64 (0),Value.int IntKind.i64 (0),
      Value.int IntKind.i64 (0),Value.int IntKind.i64 (0),Value.bool false,Value.bool false,
      Value.bool false,Value.bool false,Value.bool false,Value.bool false,Value.bool false,
      Value.int IntKind.i64 (0),Value.int IntKind.i64 (0),Value.slice none 0 0,
      Value.int IntKind.i64 (0),Value.int IntKind.i64 (0),Value.int IntKind.i64 (0),
      Value.slice none 0 0,Value.int IntKind.i64 (0),Value.int IntKind.i64 (0),
      Value.int IntKind.i64 (0),Value.slice none 0 0,Value.int IntKind.i64 (0),
      Value.int IntKind.i64 (0),Value.int IntKind.i64 (0),Value.slice none 0 0,
      Value.int IntKind.i64 (0),Value.int IntKind.i64 (0),Value.int IntKind.i64 (0),
      Value.slice none 0 0,Value.int IntKind.i64 (0),Value.int IntKind.i64 (0),
      Value.int IntKind.i64 (0),Value.slice none 0 0,Value.int IntKind.i64 (0),
      Value.int IntKind.i64 (0),Value.int IntKind.i64 (0),Value.slice none 0 0,
      Value.int IntKind.i64 (0)] },
  some { k:=TK.func,size:=1,bytes:=8,zero:=[Value.nilFunc] },
  some { k:=TK.func,size:=1,bytes:=8,zero:=[Value.nilFunc] },
  some { k:=TK.slice 45,size:=1,bytes:=24,zero:=[Value.slice none 0 0] },
  some { k:=TK.func,size:=1,bytes:=8,zero:=[Value.nilFunc] },
  some
   {
    k:=TK.other,size:=1,bytes:=0,
    zero :=
     [Value.tuple
      {
       toList :=
        [Value.slice none 0 0,Value.int IntKind.i64 (0),Value.int IntKind.i64 (0)] }] },
  some { k:=TK.func,size:=1,bytes:=8,zero:=[Value.nilFunc] },
  some
   {
    k:=TK.other,size:=1,bytes:=0,
    zero:=[Value.tuple { toList:=[Value.pointer none,Value.int IntKind.i64 (0)] }] },
  some { k:=TK.func,size:=1,bytes:=8,zero:=[Value.nilFunc] },
  some { k:=TK.func,size:=1,bytes:=8,zero:=[Value.nilFunc] },
  some
   {
    k:=TK.struct [(0,3),(1,3)],size:=2,bytes:=16,
    zero:=[Value.int IntKind.i64 (0),Value.int IntKind.i64 (0)] },
  some
   {
    k:=TK.struct [(0,3),(1,3)],size:=2,bytes:=16,
    zero:=[Value.int IntKind.i64 (0),Value.int IntKind.i64 (0)] },
  some { k:=TK.func,size:=1,bytes:=8,zero:=[Value.nilFunc] },
  some
   {
    k:=TK.struct [(0,3),(1,3)],size:=2,bytes:=16,
    zero:=[Value.int IntKind.i64 (0),Value.int IntKind.i64 (0)] },
  some
   {
    k:=TK.struct [(0,3),(1,3)],size:=2,bytes:=16,
    zero:=[Value.int IntKind.i64 (0),Value.int IntKind.i64 (0)] },
  some
   {
    k:=TK.other,size:=1,bytes:=0,
    zero :=
     [Value.tuple
      {
       toList :=
        [Value.agg { toList:=[Value.int IntKind.i64 (0),Value.int IntKind.i64 (0)] },
         Value.bool false] }] },
  some { k:=TK.map 3 166,size:=1,bytes:=8,zero:=[Value.map none] },
  some
   {
    k:=TK.struct [(0,4),(1,3),(2,168)],size:=3,bytes:=24,
    zero:=[Value.bool false,Value.int IntKind.i64 (0),Value.map none] },
  some
   {
    k:=TK.struct [(0,4),(1,3),(2,168)],size:=3,bytes:=24,
    zero:=[Value.bool false,Value.int IntKind.i64 (0),Value.map none] },
  some
   {
    k:=TK.other,size:=1,bytes:=0,
    zero:=[Value.tuple { toList:=[Value.int IntKind.i64 (0),Value.int IntKind.i64 (0)] }] },
  some { k:=TK.func,size:=1,bytes:=8,zero:=[Value.nilFunc] },
  some
   {
    k:=TK.other,size:=1,bytes:=0,
    zero:=[Value.tuple { toList:=[Value.pointer none,Value.int IntKind.i64 (0)] }] },
  some { k:=TK.func,size:=1,bytes:=8,zero:=[Value.nilFunc] },
  some { k:=TK.func,size:=1,bytes:=8,zero:=[Value.nilFunc] },
  some { k:=TK.slice 9,size:=1,bytes:=24,zero:=[Value.slice none 0 0] },
  some
   {
    k:=TK.other,size:=1,bytes:=0,
    zero :=
     [Value.tuple { toList:=[Value.string ByteArray.empty,Value.int IntKind.i64 (0)] }] },
  some { k:=TK.func,size:=1,bytes:=8,zero:=[Value.nilFunc] },
  some { k:=TK.func,size:=1,bytes:=8,zero:=[Value.nilFunc] },
  some { k:=TK.func,size:=1,bytes:=8,zero:=[Value.nilFunc] },
  some { k:=TK.func,size:=1,bytes:=8,zero:=[Value.nilFunc] },
  some { k:=TK.slice 187,size:=1,bytes:=24,zero:=[Value.slice none 0 0] },
  some
   {
    k:=TK.struct [(0,3),(1,3),(2,4),(3,182),(4,34),(5,29)],size:=6,bytes:=80,
    zero :=
     [Value.int IntKind.i64 (0),Value.int IntKind.i64 (0),Value.bool false,
      Value.slice none 0 0,Value.nilFunc,Value.slice none 0 0] },
  some
   {
    k:=TK.struct [(0,3),(1,3),(2,4),(3,182),(4,34),(5,29)],size:=6,bytes:=80,
    zero :=
     [Value.int IntKind.i64 (0),Value.int IntKind.i64 (0),Value.bool false,
      Value.slice none 0 0,Value.nilFunc,Value.slice none 0 0] },
  some { k:=TK.ptr 187,size:=1,bytes:=8,zero:=[Value.pointer none] },
  some
   {
    k:=TK.struct [(0,9),(1,9),(2,3)],size:=3,bytes:=40,
    zero :=
     [Value.string ByteArray.empty,Value.string ByteArray.empty,
      Value.int IntKind.i64 (0)] },
  some
   {
    k:=TK.struct [(0,9),(1,9),(2,3)],size:=3,bytes:=40,
    zero :=
     [Value.string ByteArray.empty,Value.string ByteArray.empty,
      Value.int IntKind.i64 (0)] },
  some
   {
    k:=TK.other,size:=1,bytes:=0,
    zero:=[Value.tuple { toList:=[Value.pointer none,Value.int IntKind.i64 (0)] }] },
  some { k:=TK.func,size:=1,bytes:=8,zero:=[Value.nilFunc] },
  some { k:=TK.func,size:=1,bytes:=8,zero:=[Value.nilFunc] },
  some { k:=TK.func,size:=1,bytes:=8,zero:=[Value.nilFunc] },
  some
   {
    k:=TK.struct [(0,3),(1,3)],size:=2,bytes:=16,
    zero:=[Value.int IntKind.i64 (0),Value.int IntKind.i64 (0)] },
  some
   {
    k:=TK.struct [(0,3),(1,3)],size:=2,bytes:=16,
    zero:=[Value.int IntKind.i64 (0),Value.int IntKind.i64 (0)] },
  some
   {
    k:=TK.struct [(0,57),(1,3),(2,4),(3,193)],size:=5,bytes:=40,
    zero :=
     [Value.pointer none,Value.int IntKind.i64 (0),Value.bool false,Value.int IntKind.i64 (0),
      Value.int IntKind.i64 (0)] },
  some
   {
    k:=TK.struct [(0,57),(1,3),(2,4),(3,193)],size:=5,bytes:=40,
    zero :=
     [Value.pointer none,Value.int IntKind.i64 (0),Value.bool false,Value.int IntKind.i64 (0),
      Value.int IntKind.i64 (0)] },
  some { k:=TK.func,size:=1,bytes:=8,zero:=[Value.nilFunc] },
  some { k:=TK.func,size:=1,bytes:=8,zero:=[Value.nilFunc] },
  some { k:=TK.func,size:=1,bytes:=8,zero:=[Value.nilFunc] },
  some { k:=TK.func,size:=1,bytes:=8,zero:=[Value.nilFunc] },
  some { k:=TK.func,size:=1,bytes:=8,zero:=[Value.nilFunc] },
  some { k:=TK.func,size:=1,bytes:=8,zero:=[Value.nilFunc] },
  some { k:=TK.func,size:=1,bytes:=8,zero:=[Value.nilFunc] },
  some { k:=TK.func,size:=1,bytes:=8,zero:=[Value.nilFunc] },
  some { k:=TK.func,size:=1,bytes:=8,zero:=[Value.nilFunc] },
  some { k:=TK.func,size:=1,bytes:=8,zero:=[Value.nilFunc] },
  some { k:=TK.map 208 3,size:=1,bytes:=8,zero:=[Value.map none] },
  some { k:=TK.struct [(0,3)],size:=1,bytes:=8,zero:=[Value.int IntKind.i64 (0)] },
  some { k:=TK.struct [(0,3)],size:=1,bytes:=8,zero:=[Value.int IntKind.i64 (0)] },
  some { k:=TK.func,size:=1,bytes:=8,zero:=[Value.nilFunc] },
  some { k:=TK.func,size:=1,bytes:=8,zero:=[Value.nilFunc] },
  some { k:=TK.func,size:=1,bytes:=8,zero:=[Value.nilFunc] },
  some { k:=TK.func,size:=1,bytes:=8,zero:=[Value.nilFunc] },
  some { k:=TK.func,size:=1,bytes:=8,zero:=[Value.nilFunc] },
  some { k:=TK.func,size:=1,bytes:=8,zero:=[Value.nilFunc] },
  some
   {
    k:=TK.arr 11 3,size:=11,bytes:=88,
    zero :=
     [Value.int IntKind.i64 (0),Value.int IntKind.i64 (0),Value.int IntKind.i64 (0),
      Value.int IntKind.i64 (0),Value.int IntKind.i64 (0),Value.int IntKind.i64 (0),
      Value.int IntKind.i64 (0),Value.int IntKind.i64 (0),Value.int IntKind.i64 (0),
      Value.int IntKind.i64 (0),Value.int IntKind.i64 (0)] },
  some { k:=TK.func,size:=1,bytes:=8,zero:=[Value.nilFunc] },
  some { k:=TK.func,size:=1,bytes:=8,zero:=[Value.nilFunc] },
  some { k:=TK.func,size:=1,bytes:=8,zero:=[Value.nilFunc] },
  some { k:=TK.func,size:=1,bytes:=8,zero:=[Value.nilFunc] },
  some { k:=TK.func,size:=1,bytes:=8,zero:=[Value.nilFunc] },
  some { k:=TK.func,size:=1,bytes:=8,zero:=[Value.nilFunc] },
  some { k:=TK.func,size:=1,bytes:=8,zero:=[Value.nilFunc] },
  some { k:=TK.func,size:=1,bytes:=8,zero:=[Value.nilFunc] },
  some { k:=TK.func,size:=1,bytes:=8,zero:=[Value.nilFunc] },
  some { k:=TK.slice 5,size:=1,bytes:=24,zero:=[Value.slice none 0 0] },
  some { k:=TK.func,size:=1,bytes:=8,zero:=[Value.nilFunc] },
  some { k:=TK.func,size:=1,bytes:=8,zero:=[Value.nilFunc] },
  some { k:=TK.func,size:=1,bytes:=8,zero:=[Value.nilFunc] },
  some { k:=TK.func,size:=1,bytes:=8,zero:=[Value.nilFunc] },
  some { k:=TK.func,size:=1,bytes:=8,zero:=[Value.nilFunc] },
  some { k:=TK.func,size:=1,bytes:=8,zero:=[Value.nilFunc] },
  some { k:=TK.func,size:=1,bytes:=8,zero:=[Value.nilFunc] },
  some { k:=TK.func,size:=1,bytes:=8,zero:=[Value.nilFunc] },
  some { k:=TK.func,size:=1,bytes:=8,zero:=[Value.nilFunc] },
  some
   {
    k:=TK.other,size:=1,bytes:=0,
    zero :=
     [Value.tuple
      {
       toList :=
        [Value.agg { toList:=[Value.int IntKind.i64 (0),Value.int IntKind.i64 (0)] },
         Value.slice none 0 0,Value.bool false] }] },
  some { k:=TK.func,size:=1,bytes:=8,zero:=[Value.nilFunc] },
  some { k:=TK.func,size:=1,bytes:=8,zero:=[Value.nilFunc] },
  some { k:=TK.func,size:=1,bytes:=8,zero:=[Value.nilFunc] },
  some
   {
    k:=TK.other,size:=1,bytes:=0,
    zero :=
     [Value.tuple { toList:=[Value.pointer none,Value.slice none 0 0,Value.int IntKind.i64 (0)] }] },
  some { k:=TK.func,size:=1,bytes:=8,zero:=[Value.nilFunc] },
  some
   {
    k:=TK.other,size:=1,bytes:=0,
    zero :=
     [Value.tuple
      {
       toList :=
        [Value.agg
         {
          toList :=
           [Value.int IntKind.i64 (0),Value.int IntKind.i64 (0),
            Value.int IntKind.i64 (0),Value.int IntKind.i64 (0),
            Value.int IntKind.i64 (0),Value.int IntKind.i64 (0),
            Value.slice none 0 0,Value.slice none 0 0] },
         Value.int IntKind.i64 (0)] }] },
  some { k:=TK.func,size:=1,bytes:=8,zero:=[Value.nilFunc] },
  some
   {
    k:=TK.other,size:=1,bytes:=0,
    zero :=
     [Value.tuple
      {
       toList :=
        [Value.agg
         {
          toList :=
           [Value.int IntKind.i64 (0),Value.int IntKind.i64 (0),Value.slice none 0 0,
            Value.int IntKind.i64 (0),Value.int IntKind.i64 (0),
            Value.int IntKind.i64 (0),Value.slice none 0 0,
            Value.int IntKind.i64 (0),Value.int IntKind.i64 (0),
            Value.int IntKind.i64 (0),Value.slice none 0 0,
            Value.int IntKind.i64 (0),Value.int IntKind.i64 (0),
            Value.int IntKind.i64 (0),Value.slice none 0 0,
            Value.int IntKind.i64 (0),Value.slice none 0 0] },
         Value.bool false] }] },
  some { k:=TK.func,size:=1,bytes:=8,zero:=[Value.nilFunc] },
  some { k:=TK.func,size:=1,bytes:=8,zero:=[Value.nilFunc] },
  some { k:=TK.slice 55,size:=1,bytes:=24,zero:=[Value.slice none 0 0] },
  some { k:=TK.func,size:=1,bytes:=8,zero:=[Value.nilFunc] },
  some { k:=TK.func,size:=1,bytes:=8,zero:=[Value.nilFunc] },
  some { k:=TK.func,size:=1,bytes:=8,zero:=[Value.nilFunc] },
  some { k:=TK.func,size:=1,bytes:=8,zero:=[Value.nilFunc] },
  some { k:=TK.func,size:=1,bytes:=8,zero:=[Value.nilFunc] },
  some { k:=TK.other,size:=1,bytes:=16,zero:=[Value.nilIface] },
  some { k:=TK.other,size:=1,bytes:=16,zero:=[Value.nilIface] },
  some { k:=TK.func,size:=1,bytes:=8,zero:=[Value.nilFunc] },
  some { k:=TK.int IntKind.u64,size:=1,bytes:=8,zero:=[Value.int IntKind.u64 (0)] },
  some { k:=TK.func,size:=1,bytes:=8,zero:=[Value.nilFunc] },
  some { k:=TK.func,size:=1,bytes:=8,zero:=[Value.nilFunc] },
  some { k:=TK.func,size:=1,bytes:=8,zero:=[Value.nilFunc] },
  some { k:=TK.func,size:=1,bytes:=8,zero:=[Value.nilFunc] },
  some { k:=TK.func,size:=1,bytes:=8,zero:=[Value.nilFunc] },
  some { k:=TK.func,size:=1,bytes:=8,zero:=[Value.nilFunc] },
  some { k:=TK.func,size:=1,bytes:=8,zero:=[Value.nilFunc] },
  some
   {
    k:=TK.other,size:=1,bytes:=0,
    zero :=
     [Value.tuple
      {
       toList :=
        [Value.agg
         {
          toList :=
           [Value.int IntKind.i64 (0),Value.int IntKind.i64 (0),Value.slice none 0 0,
            Value.int IntKind.i64 (0)] },
         Value.bool false] }] },
  some { k:=TK.func,size:=1,bytes:=8,zero:=[Value.nilFunc] },
  some { k:=TK.ptr 146,size:=1,bytes:=8,zero:=[Value.pointer none] },
  some { k:=TK.func,size:=1,bytes:=8,zero:=[Value.nilFunc] },
  some { k:=TK.slice 269,size:=1,bytes:=24,zero:=[Value.slice none 0 0] },
  some
   {
    k:=TK.struct [(0,3),(1,3)],size:=2,bytes:=16,
    zero:=[Value.int IntKind.i64 (0),Value.int IntKind.i64 (0)] },
  some
   {
    k:=TK.struct [(0,3),(1,3)],size:=2,bytes:=16,
    zero:=[Value.int IntKind.i64 (0),Value.int IntKind.i64 (0)] },
  some { k:=TK.func,size:=1,bytes:=8,zero:=[Value.nilFunc] },
  some { k:=TK.func,size:=1,bytes:=8,zero:=[Value.nilFunc] },
  some { k:=TK.func,size:=1,bytes:=8,zero:=[Value.nilFunc] },
  some { k:=TK.func,size:=1,bytes:=8,zero:=[Value.nilFunc] },
  some { k:=TK.func,size:=1,bytes:=8,zero:=[Value.nilFunc] },
  some { k:=TK.func,size:=1,bytes:=8,zero:=[Value.nilFunc] },
  some { k:=TK.ptr 278,size:=1,bytes:=8,zero:=[Value.pointer none] },
  some
   { k:=TK.struct [(0,276),(1,225)],size:=2,bytes:=32,zero:=[Value.pointer none,Value.slice none 0 0] },
  some
   { k:=TK.struct [(0,276),(1,225)],size:=2,bytes:=32,zero:=[Value.pointer none,Value.slice none 0 0] },
  some { k:=TK.func,size:=1,bytes:=8,zero:=[Value.nilFunc] },
  some { k:=TK.other,size:=1,bytes:=16,zero:=[Value.nilIface] },
  some { k:=TK.other,size:=1,bytes:=16,zero:=[Value.nilIface] },
  some
   {
    k:=TK.other,size:=1,bytes:=0,
    zero:=[Value.tuple { toList:=[Value.int IntKind.i64 (0),Value.nilIface] }] },
  some { k:=TK.func,size:=1,bytes:=8,zero:=[Value.nilFunc] },
  some { k:=TK.func,size:=1,bytes:=8,zero:=[Value.nilFunc] },
  some { k:=TK.func,size:=1,bytes:=8,zero:=[Value.nilFunc] },
  some { k:=TK.func,size:=1,bytes:=8,zero:=[Value.nilFunc] },
  some { k:=TK.func,size:=1,bytes:=8,zero:=[Value.nilFunc] },
  some { k:=TK.func,size:=1,bytes:=8,zero:=[Value.nilFunc] },
  some { k:=TK.func,size:=1,bytes:=8,zero:=[Value.nilFunc] },
  some { k:=TK.func,size:=1,bytes:=8,zero:=[Value.nilFunc] },
  some { k:=TK.func,size:=1,bytes:=8,zero:=[Value.nilFunc] },
  some { k:=TK.func,size:=1,bytes:=8,zero:=[Value.nilFunc] },
  some { k:=TK.func,size:=1,bytes:=8,zero:=[Value.nilFunc] },
  some { k:=TK.func,size:=1,bytes:=8,zero:=[Value.nilFunc] },
  some
   {
    k:=TK.other,size:=1,bytes:=0,
    zero:=[Value.tuple { toList:=[Value.slice none 0 0,Value.int IntKind.i64 (0)] }] },
  some { k:=TK.func,size:=1,bytes:=8,zero:=[Value.nilFunc] },
  some { k:=TK.func,size:=1,bytes:=8,zero:=[Value.nilFunc] },
  some { k:=TK.ptr 300,size:=1,bytes:=8,zero:=[Value.pointer none] },
  some
   {
    k:=TK.struct [(0,9),(1,3),(2,4)],size:=3,bytes:=32,
    zero:=[Value.string ByteArray.empty,Value.int IntKind.i64 (0),Value.bool false] },
  some
   {
    k:=TK.struct [(0,9),(1,3),(2,4)],size:=3,bytes:=32,
    zero:=[Value.string ByteArray.empty,Value.int IntKind.i64 (0),Value.bool false] },
  some { k:=TK.func,size:=1,bytes:=8,zero:=[Value.nilFunc] },
  some { k:=TK.func,size:=1,bytes:=8,zero:=[Value.nilFunc] },
  some { k:=TK.func,size:=1,bytes:=8,zero:=[Value.nilFunc] },
  some { k:=TK.func,size:=1,bytes:=8,zero:=[Value.nilFunc] },
  some { k:=TK.func,size:=1,bytes:=8,zero:=[Value.nilFunc] },
  some { k:=TK.func,size:=1,bytes:=8,zero:=[Value.nilFunc] },
  some { k:=TK.func,size:=1,bytes:=8,zero:=[Value.nilFunc] },
  some { k:=TK.func,size:=1,bytes:=8,zero:=[Value.nilFunc] },
  some { k:=TK.func,size:=1,bytes:=8,zero:=[Value.nilFunc] },
  some { k:=TK.struct [],size:=0,bytes:=0,zero:=[] },
  some { k:=TK.struct [],size:=0,bytes:=0,zero:=[] },
  some { k:=TK.struct [(0,311)],size:=0,bytes:=0,zero:=[] },
  some { k:=TK.struct [(0,311)],size:=0,bytes:=0,zero:=[] },
  some { k:=TK.struct [(0,313)],size:=0,bytes:=0,zero:=[] },
  some { k:=TK.struct [(0,313)],size:=0,bytes:=0,zero:=[] },
  some { k:=TK.func,size:=1,bytes:=8,zero:=[Value.nilFunc] },
  some { k:=TK.func,size:=1,bytes:=8,zero:=[Value.nilFunc] },
  some { k:=TK.func,size:=1,bytes:=8,zero:=[Value.nilFunc] },
  some { k:=TK.func,size:=1,bytes:=8,zero:=[Value.nilFunc] },
  some { k:=TK.func,size:=1,bytes:=8,zero:=[Value.nilFunc] },
  some { k:=TK.func,size:=1,bytes:=8,zero:=[Value.nilFunc] },
  some { k:=TK.func,size:=1,bytes:=8,zero:=[Value.nilFunc] },
  some { k:=TK.int IntKind.u64,size:=1,bytes:=8,zero:=[Value.int IntKind.u64 (0)] },
  some { k:=TK.func,size:=1,bytes:=8,zero:=[Value.nilFunc] },
  some { k:=TK.ptr 5,size:=1,bytes:=8,zero:=[Value.pointer none] },
  some { k:=TK.func,size:=1,bytes:=8,zero:=[Value.nilFunc] },
  some { k:=TK.func,size:=1,bytes:=8,zero:=[Value.nilFunc] },
  some { k:=TK.func,size:=1,bytes:=8,zero:=[Value.nilFunc] },
  some { k:=TK.func,size:=1,bytes:=8,zero:=[Value.nilFunc] },
  some { k:=TK.func,size:=1,bytes:=8,zero:=[Value.nilFunc] },
  some
   {
    k:=TK.other,size:=1,bytes:=0,
    zero:=[Value.tuple { toList:=[Value.string ByteArray.empty,Value.bool false] }] },
  some { k:=TK.func,size:=1,bytes:=8,zero:=[Value.nilFunc] },
  some { k:=TK.func,size:=1,bytes:=8,zero:=[Value.nilFunc] },
  some
   {
    k:=TK.other,size:=1,bytes:=0,
    zero :=
     [Value.tuple
      {
       toList :=
        [Value.string ByteArray.empty,Value.int IntKind.i64 (0),Value.bool false] }] },
  some { k:=TK.func,size:=1,bytes:=8,zero:=[Value.nilFunc] },
  some { k:=TK.slice 138,size:=1,bytes:=24,zero:=[Value.slice none 0 0] },
  some
   {
    k:=TK.other,size:=1,bytes:=0,
    zero :=
     [Value.tuple
      {
       toList :=
        [Value.int IntKind.i64 (0),Value.int IntKind.i64 (0),Value.bool false] }] },
  some { k:=TK.func,size:=1,bytes:=8,zero:=[Value.nilFunc] },
  some { k:=TK.func,size:=1,bytes:=8,zero:=[Value.nilFunc] },
  some
   {
    k:=TK.other,size:=1,bytes:=0,
    zero:=[Value.tuple { toList:=[Value.slice none 0 0,Value.bool false] }] },
  some { k:=TK.func,size:=1,bytes:=8,zero:=[Value.nilFunc] },
  some { k:=TK.func,size:=1,bytes:=8,zero:=[Value.nilFunc] },
  some { k:=TK.int IntKind.i64,size:=1,bytes:=8,zero:=[Value.int IntKind.i64 (0)] },
  some
   {
    k:=TK.other,size:=1,bytes:=0,
    zero:=[Value.tuple { toList:=[Value.int IntKind.i64 (0),Value.int IntKind.i64 (0)] }] },
  some { k:=TK.func,size:=1,bytes:=8,zero:=[Value.nilFunc] },
  some { k:=TK.func,size:=1,bytes:=8,zero:=[Value.nilFunc] },
  some { k:=TK.func,size:=1,bytes:=8,zero:=[Value.nilFunc] },
  some { k:=TK.func,size:=1,bytes:=8,zero:=[Value.nilFunc] },
  some { k:=TK.func,size:=1,bytes:=8,zero:=[Value.nilFunc] },
  some { k:=TK.int IntKind.u32,size:=1,bytes:=4,zero:=[Value.int IntKind.u32 (0)] },
  some { k:=TK.func,size:=1,bytes:=8,zero:=[Value.nilFunc] },
  some { k:=TK.slice 24,size:=1,bytes:=24,zero:=[Value.slice none 0 0] },
  some { k:=TK.func,size:=1,bytes:=8,zero:=[Value.nilFunc] },
  some { k:=TK.func,size:=1,bytes:=8,zero:=[Value.nilFunc] },
  some { k:=TK.func,size:=1,bytes:=8,zero:=[Value.nilFunc] },
  some
   {
    k:=TK.arr 4 5,size:=4,bytes:=4,
    zero :=
     [Value.int IntKind.u8 (0),Value.int IntKind.u8 (0),Value.int IntKind.u8 (0),
      Value.int IntKind.u8 (0)] },
  some { k:=TK.other,size:=1,bytes:=8,zero:=[Value.pointer none] },
  some { k:=TK.func,size:=1,bytes:=8,zero:=[Value.nilFunc] },
  some { k:=TK.func,size:=1,bytes:=8,zero:=[Value.nilFunc] },
  some { k:=TK.func,size:=1,bytes:=8,zero:=[Value.nilFunc] },
  some
   {
    k:=TK.arr 24 5,size:=24,bytes:=24,
    zero :=
     [Value.int IntKind.u8 (0),Value.int IntKind.u8 (0),Value.int IntKind.u8 (0),
      Value.int IntKind.u8 (0),Value.int IntKind.u8 (0),Value.int IntKind.u8 (0),
      Value.int IntKind.u8 (0),Value.int IntKind.u8 (0),Value.int IntKind.u8 (0),
      Value.int IntKind.u8 (0),Value.int IntKind.u8 (0),Value.int IntKind.u8 (0),
      Value.int IntKind.u8 (0),Value.int IntKind.u8 (0),Value.int IntKind.u8 (0),
      Value.int IntKind.u8 (0),Value.int IntKind.u8 (0),Value.int IntKind.u8 (0),
      Value.int IntKind.u8 (0),Value.int IntKind.u8 (0),Value.int IntKind.u8 (0),
      Value.int IntKind.u8 (0),Value.int IntKind.u8 (0),Value.int IntKind.u8 (0)] },
  some { k:=TK.func,size:=1,bytes:=8,zero:=[Value.nilFunc] },
  some
   {
    k:=TK.other,size:=1,bytes:=0,
    zero:=[Value.tuple { toList:=[Value.slice none 0 0,Value.string ByteArray.empty] }] },
  some { k:=TK.func,size:=1,bytes:=8,zero:=[Value.nilFunc] },
  some { k:=TK.int IntKind.u64,size:=1,bytes:=8,zero:=[Value.int IntKind.u64 (0)] },
  some { k:=TK.func,size:=1,bytes:=8,zero:=[Value.nilFunc] },
  some { k:=TK.func,size:=1,bytes:=8,zero:=[Value.nilFunc] },
  some { k:=TK.func,size:=1,bytes:=8,zero:=[Value.nilFunc] },
  some { k:=TK.func,size:=1,bytes:=8,zero:=[Value.nilFunc] },
  some { k:=TK.func,size:=1,bytes:=8,zero:=[Value.nilFunc] },
  some { k:=TK.func,size:=1,bytes:=8,zero:=[Value.nilFunc] },
  some { k:=TK.func,size:=1,bytes:=8,zero:=[Value.nilFunc] },
  some
   {
    k:=TK.arr 20 323,size:=20,bytes:=160,
    zero :=
     [Value.int IntKind.u64 (0),Value.int IntKind.u64 (0),Value.int IntKind.u64 (0),
      Value.int IntKind.u64 (0),Value.int IntKind.u64 (0),Value.int IntKind.u64 (0),
      Value.int IntKind.u64 (0),Value.int IntKind.u64 (0),Value.int IntKind.u64 (0),
      Value.int IntKind.u64 (0),Value.int IntKind.u64 (0),Value.int IntKind.u64 (0),
      Value.int IntKind.u64 (0),Value.int IntKind.u64 (0),Value.int IntKind.u64 (0),
      Value.int IntKind.u64 (0),Value.int IntKind.u64 (0),Value.int IntKind.u64 (0),
      Value.int IntKind.u64 (0),Value.int IntKind.u64 (0)] },
  some
   {
    k:=TK.arr 65 5,size:=65,bytes:=65,
    zero :=
     [Value.int IntKind.u8 (0),Value.int IntKind.u8 (0),Value.int IntKind.u8 (0),
      Value.int IntKind.u8 (0),Value.int IntKind.u8 (0),Value.int IntKind.u8 (0),
      Value.int IntKind.u8 (0),Value.int IntKind.u8 (0),Value.int IntKind.u8 (0),
      Value.int IntKind.u8 (0),Value.int IntKind.u8 (0),Value.int IntKind.u8 (0),
      Value.int IntKind.u8 (0),Value.int IntKind.u8 (0),Value.int IntKind.u8 (0),
      Value.int IntKind.u8 (0),Value.int IntKind.u8 (0),Value.int IntKind.u8 (0),
      Value.int IntKind.u8 (0),Value.int IntKind.u8 (0),Value.int IntKind.u8 (0),
      Value.int IntKind.u8 (0),Value.int IntKind.u8 (0),Value.int IntKind.u8 (0),
      Value.int IntKind.u8 (0),Value.int IntKind.u8 (0),Value.int IntKind.u8 (0),
      Value.int IntKind.u8 (0),Value.int IntKind.u8 (0),Value.int IntKind.u8 (0),
      Value.int IntKind.u8 (0),Value.int IntKind.u8 (0),Value.int IntKind.u8 (0),
      Value.int IntKind.u8 (0),Value.int IntKind.u8 (0),Value.int IntKind.u8 (0),
      Value.int IntKind.u8 (0),Value.int IntKind.u8 (0),Value.int IntKind.u8 (0),
      Value.int IntKind.u8 (0),Value.int IntKind.u8 (0),Value.int IntKind.u8 (0),
      Value.int IntKind.u8 (0),Value.int IntKind.u8 (0),Value.int IntKind.u8 (0),
      Value.int IntKind.u8 (0),Value.int IntKind.u8 (0),Value.int IntKind.u8 (0),
      Value.int IntKind.u8 (0),Value.int IntKind.u8 (0),Value.int IntKind.u8 (0),
      Value.int IntKind.u8 (0),Value.int IntKind.u8 (0),Value.int IntKind.u8 (0),
      Value.int IntKind.u8 (0),Value.int IntKind.u8 (0),Value.int IntKind.u8 (0),
      Value.int IntKind.u8 (0),Value.int IntKind.u8 (0),Value.int IntKind.u8 (0),
      Value.int IntKind.u8 (0),Value.int IntKind.u8 (0),Value.int IntKind.u8 (0),
      Value.int IntKind.u8 (0),Value.int IntKind.u8 (0)] },
  some { k:=TK.func,size:=1,bytes:=8,zero:=[Value.nilFunc] },
  some { k:=TK.ptr 365,size:=1,bytes:=8,zero:=[Value.pointer none] },
  some
   {
    k:=TK.other,size:=1,bytes:=0,
    zero:=[Value.tuple { toList:=[Value.int IntKind.i64 (0),Value.int IntKind.i64 (0)] }] },
  some { k:=TK.func,size:=1,bytes:=8,zero:=[Value.nilFunc] },
  some
   {
    k:=TK.arr 32 5,size:=32,bytes:=32,
    zero :=
     [Value.int IntKind.u8 (0),Value.int IntKind.u8 (0),Value.int IntKind.u8 (0),
      Value.int IntKind.u8 (0),Value.int IntKind.u8 (0),Value.int IntKind.u8 (0),
      Value.int IntKind.u8 (0),Value.int IntKind.u8 (0),Value.int IntKind.u8 (0),
      Value.int IntKind.u8 (0),Value.int IntKind.u8 (0),Value.int IntKind.u8 (0),
      Value.int IntKind.u8 (0),Value.int IntKind.u8 (0),Value.int IntKind.u8 (0),
      Value.int IntKind.u8 (0),Value.int IntKind.u8 (0),Value.int IntKind.u8 (0),
      Value.int IntKind.u8 (0),Value.int IntKind.u8 (0),Value.int IntKind.u8 (0),
      Value.int IntKind.u8 (0),Value.int IntKind.u8 (0),Value.int IntKind.u8 (0),
      Value.int IntKind.u8 (0),Value.int IntKind.u8 (0),Value.int IntKind.u8 (0),
      Value.int IntKind.u8 (0),Value.int IntKind.u8 (0),Value.int IntKind.u8 (0),
      Value.int IntKind.u8 (0),Value.int IntKind.u8 (0)] },
  some
   {
    k:=TK.arr 64 5,size:=64,bytes:=64,
    zero :=
     [Value.int IntKind.u8 (0),Value.int IntKind.u8 (0),Value.int IntKind.u8 (0),
      Value.int IntKind.u8 (0),Value.int IntKind.u8 (0),Value.int IntKind.u8 (0),
      Value.int IntKind.u8 (0),Value.int IntKind.u8 (0),Value.int IntKind.u8 (0),
      Value.int IntKind.u8 (0),Value.int IntKind.u8 (0),Value.int IntKind.u8 (0),
      Value.int IntKind.u8 (0),Value.int IntKind.u8 (0),Value.int IntKind.u8 (0),
      Value.int IntKind.u8 (0),Value.int IntKind.u8 (0),Value.int IntKind.u8 (0),
      Value.int IntKind.u8 (0),Value.int IntKind.u8 (0),Value.int IntKind.u8 (0),
      Value.int IntKind.u8 (0),Value.int IntKind.u8 (0),Value.int IntKind.u8 (0),
      Value.int IntKind.u8 (0),Value.int IntKind.u8 (0),Value.int IntKind.u8 (0),
      Value.int IntKind.u8 (0),Value.int IntKind.u8 (0),Value.int IntKind.u8 (0),
      Value.int IntKind.u8 (0),Value.int IntKind.u8 (0),Value.int IntKind.u8 (0),
      Value.int IntKind.u8 (0),Value.int IntKind.u8 (0),Value.int IntKind.u8 (0),
      Value.int IntKind.u8 (0),Value.int IntKind.u8 (0),Value.int IntKind.u8 (0),
      Value.int IntKind.u8 (0),Value.int IntKind.u8 (0),Value.int IntKind.u8 (0),
      Value.int IntKind.u8 (0),Value.int IntKind.u8 (0),Value.int IntKind.u8 (0),
      Value.int IntKind.u8 (0),Value.int IntKind.u8 (0),Value.int IntKind.u8 (0),
      Value.int IntKind.u8 (0),Value.int IntKind.u8 (0),Value.int IntKind.u8 (0),
      Value.int IntKind.u8 (0),Value.int IntKind.u8 (0),Value.int IntKind.u8 (0),
      Value.int IntKind.u8 (0),Value.int IntKind.u8 (0),Value.int IntKind.u8 (0),
      Value.int IntKind.u8 (0),Value.int IntKind.u8 (0),Value.int IntKind.u8 (0),
      Value.int IntKind.u8 (0),Value.int IntKind.u8 (0),Value.int IntKind.u8 (0),
      Value.int IntKind.u8 (0)] },
  some
   {
    k:=TK.struct [(0,17),(1,17),(2,17),(3,9)],size:=4,bytes:=40,
    zero:=[Value.pointer none,Value.pointer none,Value.pointer none,Value.string ByteArray.empty] },
  some
   {
    k:=TK.struct [(0,17),(1,17),(2,17),(3,9)],size:=4,bytes:=40,
    zero:=[Value.pointer none,Value.pointer none,Value.pointer none,Value.string ByteArray.empty] },
  some { k:=TK.arr 0 16,size:=0,bytes:=0,zero:=[] },
  some { k:=TK.struct [(0,383)],size:=0,bytes:=0,zero:=[] },
  some { k:=TK.struct [(0,383)],size:=0,bytes:=0,zero:=[] },
  some { k:=TK.int IntKind.u8,size:=1,bytes:=1,zero:=[Value.int IntKind.u8 (0)] },
  some { k:=TK.int IntKind.u8,size:=1,bytes:=1,zero:=[Value.int IntKind.u8 (0)] },
  some { k:=TK.func,size:=1,bytes:=8,zero:=[Value.nilFunc] },
  some { k:=TK.int IntKind.i32,size:=1,bytes:=4,zero:=[Value.int IntKind.i32 (0)] },
  some { k:=TK.int IntKind.i32,size:=1,bytes:=4,zero:=[Value.int IntKind.i32 (0)] },
  some
   {
    k :=
     TK.struct
      [(0,12),(1,12),(2,350),(3,386),(4,5),(5,5),(6,387),(7,388),(8,325),(9,389),(10,390)],
    size:=11,bytes:=48,
    zero :=
     [Value.int IntKind.u64 (0),Value.int IntKind.u64 (0),Value.int IntKind.u32 (0),
      Value.int IntKind.u8 (0),Value.int IntKind.u8 (0),Value.int IntKind.u8 (0),
      Value.int IntKind.u8 (0),Value.nilFunc,Value.pointer none,Value.int IntKind.i32 (0),
      Value.int IntKind.i32 (0)] },
  some
   {
    k :=
     TK.struct
      [(0,12),(1,12),(2,350),(3,386),(4,5),(5,5),(6,387),(7,388),(8,325),(9,389),(10,390)],
    size:=11,bytes:=48,
    zero :=
     [Value.int IntKind.u64 (0),Value.int IntKind.u64 (0),Value.int IntKind.u32 (0),
      Value.int IntKind.u8 (0),Value.int IntKind.u8 (0),Value.int IntKind.u8 (0),
      Value.int IntKind.u8 (0),Value.nilFunc,Value.pointer none,Value.int IntKind.i32 (0),
      Value.int IntKind.i32 (0)] }]
theorem Tryz.tab_ok:TabOk Tryz.prog Tryz.tab:=tabOk_of (n:=393) (by kernel_rfl)
def Tryz.tbs:Tbs:=⟨Tryz.tab,2,332,[169,245,275,300,301,302,303,304,305,306,307,308,309,310,311,312,313,314,315,316,317,318,324,325,326,327,328,329,330]⟩
theorem Tryz.tbs_ok:TbsOk Tryz.prog Tryz.tbs:=⟨by kernel_rfl,Tryz.tab_ok,fns_of (by kernel_rfl)⟩
end Go.Proofs
namespace Go.Sy
open Go
/-! words for cells -/
abbrev pP (p:Nat):Value:=.pointer (some ⟨p,0,none⟩)
abbrev vP (p:Nat):SV:=.va (.pointer (some ⟨p,0,none⟩))
abbrev vI (z:Int):SV:=.va (.int .i64 z)
abbrev vL (A:Option Addr) (n c:Nat):SV:=.va (.slice A n c)
theorem aG {E:Entry} {Q:Exit→St→Prop} {l:List It} {st:St} (h:outSat Proofs.Tryz.prog E Q (Sy.start Proofs.Tryz.tbs 1000 l st)):Go Proofs.Tryz.prog E l st Q:=go Proofs.Tryz.tbs_ok 1000 h
theorem aE {P:Program} {E:Entry} {Q:Exit→St→Prop} {a b c:Prop} {o:Out} (h:outSat P E Q o) (ha:a:=by repeat (first | exact trivial | refine ⟨rfl,?_⟩)) (hb:b:=by rfl) (hc:c:=by kernel_rfl):outSat P E Q (.need ((a∧b)∧c) o):=ev_need ⟨⟨ha,hb⟩,hc⟩ h
theorem aK {P:Program} {E:Entry} {Q:Exit→St→Prop} {c:Prop} {o:Out} (h:outSat P E Q o) (hc:c:=by kernel_rfl):outSat P E Q (.need c o):=ev_need hc h
theorem aI {E:Entry} {Q:Exit→St→Prop} {b:Bool} {t1 t2:List It} {s1 s2:St} (h:outSat Proofs.Tryz.prog E Q (Sy.start Proofs.Tryz.tbs 1000 t2 s2)) (hb:b=false:=by rfl):outSat Proofs.Tryz.prog E Q (.iff b t1 s1 t2 s2):=ev_if_no hb (aG h)
theorem aJ {E:Entry} {Q:Exit→St→Prop} {b:Bool} {t1 t2:List It} {s1 s2:St} (h:outSat Proofs.Tryz.prog E Q (Sy.start Proofs.Tryz.tbs 1000 t1 s1)) (hb:b=true:=by rfl):outSat Proofs.Tryz.prog E Q (.iff b t1 s1 t2 s2):=ev_if_yes hb (aG h)
theorem aC {f:FuncId} {args:List Value} {M N:List Asn} {X:Type} {ret:X→Value} {good:X→Prop} {after:X→List Asn} (T:Triple Proofs.Tryz.prog f args M N X ret good after) {E:Entry} {Q:Exit→St→Prop} {svs:List SV} {d:Option Tmp} {todo:List It} {st:St} (sel:List Nat) (nsel:List (Nat ⊕ Nat))
 (h:∀ x,good x→outSat Proofs.Tryz.prog E Q (Sy.start Proofs.Tryz.tbs 1000 todo ((⟨st.fr,place st.res sel (List.map Res.fact (after x)),st.ro⟩:St).put d (normV (ret x)))))
 (h1:SV.denL svs=args:=by rfl) (h2:List.map (asnAt st.res) sel=List.map some M:=by rfl) (h3:sel.Nodup:=by decide) (h4:List.map (lent st) nsel=List.map some N:=by rfl) (h5:∀ i,Sum.inr i∈nsel→¬ i∈sel:=by simp) (h6:∀ x,blkLe st.res (place st.res sel (List.map Res.fact (after x))):=by intro _;repeat (first | exact trivial | refine ⟨rfl,?_⟩)) :
 outSat Proofs.Tryz.prog E Q (.call f svs d todo st):=ev_callF T sel nsel h1 h2 h3 h4 h5 h6 fun x hx=>aG (h x hx)
theorem aD {f:FuncId} {args:List Value} {M N:List Asn} {X:Type} {ret:X→Value} {good:X→Prop} {after:X→List Asn} (T:Triple Proofs.Tryz.prog f args M N X ret good after) {E:Entry} {Q:Exit→St→Prop} {svs:List SV} {d:Option Tmp} {todo:List It} {st:St} (sel:List Nat) (nsel:List (Nat ⊕ Nat)) (news:X→List Res)
 (h:∀ x,good x→outSat Proofs.Tryz.prog E Q (Sy.start Proofs.Tryz.tbs 1000 todo ((⟨st.fr,place st.res sel (news x),st.ro⟩:St).put d (normV (ret x)))))
 (h1:SV.denL svs=args:=by rfl) (h2:List.map (asnAt st.res) sel=List.map some M:=by rfl) (h3:sel.Nodup:=by decide) (h4:List.map (lent st) nsel=List.map some N:=by rfl) (h5:∀ i,Sum.inr i∈nsel→¬ i∈sel:=by simp) (h6:∀ x,List.map Res.asn (news x)=after x:=by intro _;rfl)
 (h7:∀ x,newsOk (blkAt (place st.res sel (news x))) (news x):=by intro _;repeat (first | exact newsOk_nil _ | refine newsOk_fact ?_ | refine newsOk_box (by simp [SV.good,SV.goodL]) ?_)) (h8:∀ x,blkLe st.res (place st.res sel (news x)):=by intro _;repeat (first | exact trivial | refine ⟨rfl,?_⟩)) :
 outSat Proofs.Tryz.prog E Q (.call f svs d todo st):=ev_call T sel nsel news h1 h2 h3 h4 h5 h6 h7 h8 fun x hx=>aG (h x hx)
theorem aF {res:List Res} {l:List Asn} (sel:List Nat) (h1:sel.map (asnAt res)=l.map some:=by rfl) (h2:sel.Nodup:=by decide):Frm res l:=Frm.sel sel h1 h2
theorem aT {f:FuncId} {fn:Func} {c:Code} (hf:Proofs.Tryz.prog.funcs[f]? = some fn) (svs:List SV) (res:List Res) {N:List Asn} {X:Type} {ret:X→Value} {good:X→Prop} {post:X→List Asn}
 (h:∀ E,Go Proofs.Tryz.prog E [.c c] ⟨svs++List.replicate (fn.ntmps-svs.length) (.va undef),res,N⟩ (Ends Proofs.Tryz.tbs.tab fn X ret good post)) (hgood:SV.goodL (blkAt res) svs) (hb:fn.body=some c:=by rfl) (hno:noNo svs=true:=by rfl) (hcells:∀ x∈res,match x with | .box _ _ cs=>SV.goodL (blkAt res) cs | _=>True:=by simp [SV.good,SV.goodL,blkAt,Res.blk]) :
 Triple Proofs.Tryz.prog f (SV.denL svs) (res.map Res.asn) N X ret good post:=triple_intro Proofs.Tryz.tbs_ok hf hb svs res hgood hno hcells h
theorem aL {a:Prop} (h:a:=by repeat (first | exact trivial | refine ⟨rfl,?_⟩)):a:=h
theorem aB {a b c:Prop} (ha:a:=by repeat (first | exact trivial | refine ⟨rfl,?_⟩)) (hb:b:=by rfl) (hc:c:=by kernel_rfl):(a∧b)∧c:=⟨⟨ha,hb⟩,hc⟩
theorem aS {st st':St} (h1:FrLe st.fr st'.fr:=by exact ⟨by kernel_rfl,by kernel_rfl⟩) (h2:ResLe st.res st'.res:=by exact ⟨_,rfl⟩) (h3:∃ t,st.ro=st'.ro++t:=by exact ⟨_,rfl⟩) (h4:st'.fr.all (SV.in_ st'.res.length)=true:=by kernel_rfl) (h5:st'.res.all (resIn st'.res.length)=true:=by kernel_rfl):StLe st st':=⟨h1,h2,h3,h4,h5⟩
theorem wN {P:Program} {E:Entry} {Q:Exit→St→Prop} {e:Int} {c:Int→Out} (n:Nat) (h:outSat P E Q (c (n:Int))) (hz : -9223372036854775808≤e∧e≤9223372036854775807:=by constructor<;>omega) (hn:e=(n:Int):=by rfl):outSat P E Q (.wrap .i64 e c):=ev_wrapN n hz hn h
theorem wO {P:Program} {E:Entry} {Q:Exit→St→Prop} {e:Int} {c:Int→Out} (n:Nat) (h:outSat P E Q (c (n:Int))) (hz : -9223372036854775808≤e∧e≤9223372036854775807:=by constructor<;>omega) (hn:e=(n:Int):=by omega):outSat P E Q (.wrap .i64 e c):=ev_wrapN n hz hn h
theorem w6 {P:Program} {E:Entry} {Q:Exit→St→Prop} {e:Int} {c:Int→Out} (h:outSat P E Q (c e)) (hz : -9223372036854775808≤e∧e≤9223372036854775807:=by constructor<;>omega):outSat P E Q (.wrap .i64 e c):=ev_w64 hz h
theorem aM {n:Nat} (s:Nat) (h:s≤1000000000:=by omega) (e:n=s:=by first | rfl | omega):n≤maxLen:=le_app h e
theorem aN {n b:Nat} (s:Nat) (h:s≤1000000000:=by omega) (e:n=s:=by first | rfl | omega) (hb:b≤100000:=by decide):n*b≤140737488355328:=le_appb h e hb
open Go.RowKit
/-! the fence that lets all in,and its rounds -/
def Wd (F:Fence):Prop:=F=Fence.wide∨∃ k,F=Fence.wide.inRound k
theorem Wd.calls {F:Fence} (hF:Wd F) {n:Nat} {P:Program} {f:FuncId} {args:Array Value} {w:World} {R:Ending→World→Prop} (h:Calls P f args w R):CallsIn F n P f args w R:=by
 rcases hF with rfl | ⟨k,rfl⟩
 · exact callsIn_wide.2 h
 exact CallsIn.inRound k (callsIn_wide.2 h)
theorem Wd.rows {F:Fence} (hF:Wd F) {n:Nat} {P:Program} {row:String} {args:Array Value} {w:World} {R:Value→World→Prop} (h:Rows P row args w R):RowsIn F n P row args w R:=by
 rcases hF with rfl | ⟨k,rfl⟩
 · exact fun c cs _=>let ⟨v,w',r,s⟩:=h c cs;⟨v,w',r,stepsIn_wide.2 s⟩
 exact fun c cs _=>let ⟨v,w',r,s⟩:=h c cs;⟨v,w',r,stepsIn_wide.2 s⟩
theorem Wd.fn {F:Fence} (hF:Wd F) (f:FuncId):F.fn f:=by rcases hF with rfl | ⟨k,rfl⟩<;>trivial
theorem Wd.depth {F:Fence} (hF:Wd F) {p:Prop}:F.depth.isSome=true→p:=by rcases hF with rfl | ⟨k,rfl⟩<;>intro h<;>cases h
theorem Wd.upon {F:Fence} (hF:Wd F) {n:Nat} {P:Program} {o:Oper} {a:Act} {next:Act→World→Prop} {Q:Exit→Act→World→Prop} {r:Result Next} (h:o.upon P a next Q r):o.uponIn F n P a next Q r:=by
 cases r with
 |
  ok x w =>
  cases x with
  | value v=>exact h
  | skip=>exact h
  | defer d=>exact h
  | enter f args=>exact ⟨hF.depth,hF.calls (Calls.mono h fun e w' q=>by cases e<;>exact q)⟩
  | row r args=>exact ⟨hF.depth,hF.rows h⟩
  | _=>exact h.elim
 | halt x w=>cases x<;>first | exact h | exact h.elim
theorem wpListIn_of {F:Fence} (hF:Wd F) {n:Nat} {P:Program} {ops:Array Oper} {Q:Exit→Act→World→Prop} (hQ:¬ LetsOut Q):∀ (l:List Oper) (a:Act) (w:World),(F.round≠none→∀ o∈l,∀ c,o.op ≠ .defer c)→wpList P ops Q l a w→wpListIn F n P ops Q l a w:=by
 intro l
 induction l with
 | nil=>exact fun a w _ h=>h
 |
  cons o l ih =>
  intro a w hd h
  have ih':∀ a w,wpList P ops Q l a w→wpListIn F n P ops Q l a w:=fun a w=>ih a w (fun hr o ho=>hd hr o (List.mem_cons_of_mem _ ho))
  unfold wpList at h
  unfold wpListIn
  by_cases hw:Region.wanted o (yielded ops a.tmps)=true
  · rw [if_pos hw] at h ⊢
    rcases h with h | ⟨_,h⟩
    · have e:(o.semAt F.round a.eval)=execOp a.eval o:=by
       cases hr:F.round with
       | none=>rfl
       | some k=>exact Oper.semAt_some k _ _ (hd (by rw [hr];simp) o List.mem_cons_self)
      refine ⟨fun f _=>hF.fn f,?_⟩
      rw [e]
      refine hF.upon (Q:=Q) ?_
      have key:∀ {r:Result Next},o.upon P a (wpList P ops Q l) Q r→o.upon P a (wpListIn F n P ops Q l) Q r:=by
       intro r h
       cases r with
       |
        ok x w =>
        cases x with
        | value v=>exact ih' _ _ h
        | skip=>exact ih' _ _ h
        | defer d=>exact ih' _ _ h
        | enter f args=>exact Calls.mono h fun e w' q=>by cases e<;>first | exact ih' _ _ q | exact q
        | row r args=>exact Rows.mono h fun v w' q=>ih' _ _ q
        | _=>exact h.elim
       | halt x w=>cases x<;>first | exact h | exact h.elim
      exact key h
    exact (hQ h).elim
  rw [if_neg hw] at h ⊢
  exact ⟨fun f _=>hF.fn f,ih' _ _ h⟩
theorem wpListIn_mono {F:Fence} {n:Nat} {P:Program} {ops:Array Oper} {Q Q':Exit→Act→World→Prop} (hq:∀ e a w,Q e a w→Q' e a w):∀ (l:List Oper) (a:Act) (w:World),wpListIn F n P ops Q l a w→wpListIn F n P ops Q' l a w:=by
 have hout:LetsOut Q→LetsOut Q':=fun ⟨a,w,h⟩=>⟨a,w,hq _ _ _ h⟩
 intro l
 induction l with
 | nil=>exact fun a w h=>hq _ _ _ h
 |
  cons o l ih =>
  intro a w h
  unfold wpListIn at h ⊢
  by_cases hw:Region.wanted o (yielded ops a.tmps)=true
  · rw [if_pos hw] at h ⊢
    refine ⟨h.1,?_⟩
    have h:=h.2
    revert h
    generalize (o.semAt F.round a.eval).run P w=r
    intro h
    cases r with
    |
     ok x w =>
     cases x with
     | value v=>exact ih _ _ h
     | skip=>exact ih _ _ h
     | defer d=>exact ih _ _ h
     | enter f args=>exact ⟨h.1,h.2.1,fun cs hr=>let ⟨e,w',fr,r,s⟩:=h.2.2 cs hr;⟨e,w',fr,by cases e<;>first | exact ih _ _ r | exact hq _ _ _ r | exact hout r,s⟩⟩
     | row r args=>exact ⟨h.1,RowsIn.mono h.2 fun v w' q=>ih _ _ q⟩
     | round l' f tm asv bo=>exact ⟨h.1,RoundIn.mono h.2 fun e w' q=>by cases e<;>first | exact ih _ _ q | exact hq _ _ _ q | exact hout q⟩
     | _=>exact h.elim
    | halt x w=>cases x<;>first | exact hq _ _ _ h | exact h.elim
  rw [if_neg hw] at h ⊢
  exact ⟨h.1,ih _ _ h.2⟩
theorem wpListIn_append {F:Fence} {n:Nat} {P:Program} {ops:Array Oper} {Q:Exit→Act→World→Prop} (l2:List Oper):∀ (l1:List Oper) (a:Act) (w:World),wpListIn F n P ops (Exit.then (wpListIn F n P ops Q l2) Q) l1 a w→wpListIn F n P ops Q (l1++l2) a w:=by
 intro l1
 induction l1 with
 | nil=>exact fun a w h=>h
 |
  cons o l ih =>
  intro a w h
  unfold wpListIn at h
  show wpListIn F n P ops Q (o::(l++l2)) a w
  unfold wpListIn
  by_cases hw:Region.wanted o (yielded ops a.tmps)=true
  · rw [if_pos hw] at h ⊢
    refine ⟨h.1,?_⟩
    have h:=h.2
    revert h
    generalize (o.semAt F.round a.eval).run P w=r
    intro h
    cases r with
    |
     ok x w =>
     cases x with
     | value v=>exact ih _ _ h
     | skip=>exact ih _ _ h
     | defer d=>exact ih _ _ h
     | enter f args=>exact ⟨h.1,h.2.1,fun cs hr=>let ⟨e,w',fr,r,s⟩:=h.2.2 cs hr;⟨e,w',fr,by cases e<;>first | exact ih _ _ r | exact r,s⟩⟩
     | row r args=>exact ⟨h.1,RowsIn.mono h.2 fun v w' q=>ih _ _ q⟩
     | round l' f tm asv bo=>exact ⟨h.1,RoundIn.mono h.2 fun e w' q=>by cases e<;>first | exact ih _ _ q | exact q⟩
     | _=>exact h.elim
    | halt x w=>cases x<;>first | exact h | exact h.elim
  rw [if_neg hw] at h ⊢
  exact ⟨h.1,ih _ _ h.2⟩
def Ob (b:Nat) (o:Obj):Asn:=⟨fun h=>h b=some o,fun e x=>e _ _ x⟩
theorem ResOk.obj {E:Entry} {res:List Res} {ro:List Asn} {w:World} {hs:Nat→Hp} {hi:Hp} (h:ResOk E res ro w hs hi) {r b:Nat} {o:Obj} (o':Obj)
 (hr:res[r]? = some (.fact (Ob b o))):ResOk E (res.set r (.fact (Ob b o'))) ro (w.putObj b o') (upd hs r (Hp.one b o')) hi:=by
 have hb:hs r b=some o:=h.holds r _ hr
 have hw:w.heap[b]? = some o:=h.le r b _ hb
 have hrl:=(List.getElem?_eq_some_iff.1 hr).1
 have hbl:b<w.heap.size:=(Array.getElem?_eq_some_iff.1 hw).1
 have hn:hp (w.putObj b o') b=some o':=World.putObj_heap_same hbl
 refine h.step (Hp.one b o) (fun i=>i=r) ⟨rfl,rfl,rfl,by simp,fun k _ hk=>World.putObj_heap_other (fun e=>by subst e;rw [Hp.one_self] at hk;cases hk)⟩ ?_ (fun i hi=>if_neg hi) ?_ ?_ ?_ ?_ ?_
 · intro c hc
   by_cases x:c=b
   · subst x;exact ⟨r,rfl,by rw [hb];simp⟩
   exact absurd (Hp.one_none x) hc
 · rintro i rfl
   simp only [upd,if_true]
   exact Hp.one_le hn
 · rintro i rfl c hc
   left
   simp only [upd,if_true] at hc
   by_cases x:c=b
   · subst x;rw [Hp.one_self];simp
   exact absurd (Hp.one_none x) hc
 · rintro i j rfl rfl hij;exact absurd rfl hij
 · intro i x hx
   rw [List.getElem?_set] at hx
   by_cases c:r=i
   · subst c
     simp only [if_true,hrl] at hx
     cases hx
     simp only [upd,if_true,Res.asn]
     exact Hp.one_self _ _
   rw [if_neg c] at hx
   simp only [upd,if_neg (Ne.symm c)]
   exact h.holds i x hx
 rw [blkAt_set _ _ _ (fun y hy=>by rw [hr] at hy;cases hy;rfl)]
 intro x hx
 rcases List.mem_or_eq_of_mem_set hx with hx | hx
 · exact h.cells x hx
 subst hx;trivial
theorem ResOk.allocObj {E:Entry} {res:List Res} {ro:List Asn} {w:World} {hs:Nat→Hp} {hi:Hp} (h:ResOk E res ro w hs hi) (o:Obj) :
 ResOk E (res++[.fact (Ob w.heap.size o)]) ro (w.alloc o) (upd hs res.length (Hp.one w.heap.size o)) hi:=by
 refine h.step Hp.emp (fun i=>i=res.length) (Ext.alloc w _) (fun b hb=>absurd rfl hb) (fun i hi=>if_neg hi) ?_ ?_ ?_ ?_ ?_
 · rintro i rfl
   simp only [upd,if_true]
   exact Hp.one_le (hp_alloc w _)
 · rintro i rfl b hb
   right
   simp only [upd,if_true] at hb
   by_cases x:b=w.heap.size
   · omega
   exact absurd (Hp.one_none x) hb
 · rintro i j rfl rfl hij;exact absurd rfl hij
 · intro i x hx
   by_cases c:i=res.length
   · subst c
     rw [List.getElem?_append_right (Nat.le_refl _)] at hx
     simp at hx
     subst hx
     simp only [upd,if_true,Res.asn]
     exact Hp.one_self _ _
   have hl:i<res.length:=by
    have:=(List.getElem?_eq_some_iff.1 hx).1
    simp at this;omega
   rw [List.getElem?_append_left hl] at hx
   simp only [upd,if_neg c]
   exact h.holds i x hx
 intro x hx
 rcases List.mem_append.1 hx with hx | hx
 · have:=h.cells x hx
   cases x with
   | box b t c=>exact ⟨SV.goodL_mono (blkAt_append _ _) this.1,this.2⟩
   | fact A=>trivial
   | dead b=>trivial
 simp at hx
 subst hx
 trivial
def YAt (P:Program) (l:Nat) (args:Array Value) (w:World) (R:Ending→World→Prop):Prop :=
 ∃ fn tmps assign body,(Instr.yield l args).run P w = .ok (.round l fn tmps assign body) w∧RoundIn Fence.wide 0 P l fn tmps assign body w R
theorem YAt.mono {P:Program} {l:Nat} {args:Array Value} {w:World} {R R':Ending→World→Prop} (h:YAt P l args w R) (hr:∀ e w',R e w'→R' e w'):YAt P l args w R' :=
 let ⟨fn,tmps,asv,bo,h1,h2⟩:=h;⟨fn,tmps,asv,bo,h1,RoundIn.mono h2 hr⟩
def YTriple (P:Program) (l:Nat) (args:List Value) (M N:List Asn) (X:Type) (ret:X→Value) (good:X→Prop) (post:X→List Asn):Prop :=
 ∀ (w:World) (hm hn:Hp),hm.le (hp w)→hn.le (hp w)→hm.dis hn→Asn.starH M hm→(∀ A∈N,A.holds hn) →
  YAt P l args.toArray w fun e w'=>∃ (x:X) (hm':Hp),e = .returned (ret x)∧good x∧Asn.starH (post x) hm'∧hm'.le (hp w')∧Ext hm w w' ∧
   (∀ b,hm' b≠none→hm b≠none∨w.heap.size≤b)
def YStep (P:Program) (E:Entry) (ops:Array Oper) (l:List Oper) (r:List It) (st:St) (Q:Exit→St→Prop):Prop :=
 ∀ a w,R E st a w→wpListIn Fence.wide 0 P ops (post P r (Fin Q E)) l a w
theorem noOut {P:Program} {E:Entry} {r:List It} {Q:Exit→St→Prop}:¬ LetsOut (post P r (Fin Q E)):=fun ⟨_,_,h⟩=>by
 rw [post_out] at h
 exact h
theorem go_yield {P:Program} {E:Entry} {Q:Exit→St→Prop} {id:Nat} {ops:Array Oper} {r:List It} {st:St} (l1 l2:List Oper) (hl:ops.toList=l1++l2)
 (h:Go P E [.o ops l1] st (fun e st1=>e = .normal∧YStep P E ops l2 r st1 Q)):Go P E (.c (.region id ops false)::r) st Q:=fun a w hR=>by
 show (Code.region id ops false).wp P (post P r (Fin Q E)) a w
 refine (wpIn_wide (n:=0)).1 (wpIn_region_list ?_)
 rw [hl]
 refine wpListIn_append l2 l1 a w ?_
 have h1:=wpListIn_of (n:=0) (F:=Fence.wide) (.inl rfl) (fun ⟨_,_,q⟩=>q) l1 a w (fun q=>absurd rfl q) (h a w hR)
 refine wpListIn_mono (fun e a w q=>?_) l1 a w h1
 cases e with
 | normal=>obtain ⟨st1,⟨_,q⟩,hR'⟩:=q;exact q a w hR'
 | panic c=>exact q.elim
 | outgrown=>exact q.elim
 | ret=>obtain ⟨st1,⟨q,_⟩,_⟩:=q;cases q
 | exit j=>obtain ⟨st1,⟨q,_⟩,_⟩:=q;cases q
 | goto j=>obtain ⟨st1,⟨q,_⟩,_⟩:=q;cases q
theorem ystep {P:Program} {E:Entry} {Q:Exit→St→Prop} {ops:Array Oper} {r:List It} {st:St} {o:Oper} {l l2:List Oper} (hl:l=o::l2) {yl:Nat} {f:Operand} {asv:Array Operand} {ts:Array TypeId}
 (hg:o.guard=none) (ho:o.op = .call { callee:=.value f,args:=asv,argTypes:=ts }) (hf:(ev st.fr f).den = .func (.yield yl) #[] #[]) (hf2:(ev st.fr f).isNo=false) {args:List Value}
 (hargs:SV.denL (asv.toList.map (ev st.fr))=args) (hno:noNo (asv.toList.map (ev st.fr))=true)
 {M N:List Asn} {X:Type} {ret:X→Value} {good:X→Prop} {after:X→List Asn} (T:YTriple P yl args M N X ret good after)
 (sel:List Nat) (nsel:List (Sum Nat Nat)) (news:X→List Res)
 (hsel:sel.map (asnAt st.res)=M.map some) (hnd:sel.Nodup) (hn:nsel.map (lent st)=N.map some) (hapart:∀ i,Sum.inr i∈nsel→i ∉ sel)
 (hnews:∀ x,(news x).map Res.asn=after x) (hok:∀ x,newsOk (blkAt (place st.res sel (news x))) (news x)) (hb:∀ x,blkLe st.res (place st.res sel (news x)))
 (h:∀ x,good x→Go P E (.o ops l2::r) (St.put ⟨st.fr,place st.res sel (news x),st.ro⟩ o.dst (normV (ret x))) Q):YStep P E ops l r st Q:=by
 subst hl
 intro a w hR
 unfold wpListIn
 rw [if_pos (by simp [Region.wanted,hg])]
 refine ⟨fun _ _=>trivial,?_⟩
 obtain ⟨hs,hi,hres⟩:=hR.res
 subst hargs
 classical
 let hn':Hp:=fun b=>if ∃ i∈sel,hs i b≠none then none else hp w b
 have hnw:hn'.le (hp w):=fun b o e=>by
  by_cases c:∃ i∈sel,hs i b≠none
  · simp only [hn',if_pos c] at e;cases e
  simpa only [hn',if_neg c] using e
 have hdis:(selH w hs sel).dis hn':=fun b=>by
  by_cases c:∃ i∈sel,hs i b≠none
  · right;simp only [hn',if_pos c]
  left;unfold selH;rw [if_neg c]
 have hM:Asn.starH M (selH w hs sel):=selH_star hres.le hres.dis hres.holds hsel hnd
 have hN:∀ A∈N,A.holds hn':=fun A hA=>by
  obtain ⟨k,hk⟩:=List.mem_iff_getElem?.1 hA
  have h1:(nsel.map (lent st))[k]? = (N.map some)[k]? := by rw [hn]
  rw [List.getElem?_map,List.getElem?_map,hk] at h1
  cases e:nsel[k]? with
  | none=>rw [e] at h1;cases h1
  |
   some s =>
   rw [e] at h1
   simp only [Option.map_some,Option.some.injEq] at h1
   cases s with
   |
    inl i =>
    refine A.mono (h:=hi) (fun b o e=>?_) (hres.rholds A (List.mem_of_getElem? h1))
    have c:¬ ∃ i∈sel,hs i b≠none:=fun ⟨j,_,hj⟩=>by
     rcases hres.rdis j b with y | y
     · exact hj y
     rw [y] at e;cases e
    simp only [hn',if_neg c]
    exact hres.rle b o e
   |
    inr i =>
    obtain ⟨x,hx,rfl⟩:=asnAt_spec h1
    refine x.asn.mono (h:=hs i) (fun b o e'=>?_) (hres.holds i x hx)
    have c:¬ ∃ i∈sel,hs i b≠none:=fun ⟨j,hj',hj⟩=>by
     rcases hres.dis i j (fun ee=>hapart i (List.mem_of_getElem? e) (ee ▸ hj')) b with y | y
     · rw [y] at e';cases e'
     exact hj y
    simp only [hn',if_neg c]
    exact hres.le i b o e'
 obtain ⟨fn,tmps,assign,body,hy,hr⟩:=T w (selH w hs sel) hn' (selH_le _ _ _) hnw hdis hM hN
 have hd:=noNo_den hR.fr asv.toList (fun x hx hno'=>by
  have:=List.all_eq_true.1 hno (ev st.fr x) (List.mem_map_of_mem hx)
  rw [hno'] at this
  cases this)
 have hfe:a.eval f = .func (.yield yl) #[] #[]:=by rw [ev_denv hR.fr rfl hf2];exact hf
 have hrun:(o.semAt Fence.wide.round a.eval).run P w = .ok (.round yl fn tmps assign body) w:=by
  show (execOp a.eval o).run P w=_
  have e:asv.map a.eval=(SV.denL (asv.toList.map (ev st.fr))).toArray:=by
   rw [←hd];exact Array.ext' (by simp)
  simp only [execOp,ho,resolve,Deferred.ofValue,hfe,invoke,Sem.run_bind,Sem.run_pure,Result.andThen_ok]
  rw [show (#[]++asv.map a.eval)=asv.map a.eval from Array.ext' (by simp),e]
  exact hy
 rw [hrun]
 refine ⟨fun q=>(by cases q),RoundIn.mono hr fun e w' he=>?_⟩
 obtain ⟨x,hm',rfl,hgd,hpost,hle',hext,hnew⟩:=he
 rw [←hnews x] at hpost
 obtain ⟨hs',hR'⟩:=place_ok hres sel _ selH_C (news x) hm' hpost hle' hext hnew (hok x) (hb x)
 have hR2:R E ⟨st.fr,place st.res sel (news x),st.ro⟩ a w':=⟨hR.fr.mono (blkLe_spec (hb x)),hs',hi,hR'⟩
 have hR3:=hR2.put o.dst (x:=normV (ret x)) (v:=ret x) (by
  have:=SV.is_den (normV (ret x))
  rwa [normV_den] at this) (normV_good _ _)
 exact wpListIn_of (.inl rfl) noOut l2 _ _ (fun q=>absurd rfl q) (h x hgd _ _ hR3)
def GoR (k:Nat) (P:Program) (E:Entry) (c:Code) (st:St) (Q:Exit→St→Prop):Prop:=∀ a w,R E st a w→c.wpIn (Fence.wide.inRound k) 0 P (Fin Q E) a w
def noDef (o:Oper):Bool:=match o.op with | .defer _=>false | _=>true
section
variable {k:Nat} {P:Program} {E:Entry} {st:St} {Q:Exit→St→Prop}
theorem goR_seq {x y:Code} (h:GoR k P E x st (fun e st1=>match e with | .normal=>GoR k P E y st1 Q | e=>Q e st1)):GoR k P E (.seq x y) st Q:=fun a w hR =>
 wpIn_seq (wpIn_mono (h a w hR) fun e a w q=>by
  cases e with
  | normal=>obtain ⟨st1,q,hR⟩:=q;exact q a w hR
  | panic c=>exact q.elim
  | outgrown=>exact q.elim
  | _=>exact q)
theorem goR_block {id:Nat} {x:Code} (h:GoR k P E x st (fun e st1=>match e with | .exit j=>if j=id then Q .normal st1 else Q (.exit j) st1 | e=>Q e st1)):GoR k P E (.block id x) st Q:=fun a w hR =>
 wpIn_block (wpIn_mono (h a w hR) fun e a w q=>by
  cases e with
  |
   exit j =>
   obtain ⟨st1,q,hR⟩:=q
   by_cases c:j=id
   · simp only [c,if_true] at q
     simp only [Exit.inBlock,c,if_true]
     exact ⟨st1,q,hR⟩
   simp only [c,if_false] at q
   simp only [Exit.inBlock,c,if_false]
   exact ⟨st1,q,hR⟩
  | panic c=>exact q.elim
  | outgrown=>exact q.elim
  | _=>exact q)
theorem goR_skip (h:Q .normal st):GoR k P E .skip st Q:=fun _ _ hR=>wpIn_skip ⟨st,h,hR⟩
theorem goR_exit {id:Nat} (h:Q (.exit id) st):GoR k P E (.exit id) st Q:=fun _ _ hR=>wpIn_exit ⟨st,h,hR⟩
theorem goR_cond {c:Operand} {x y:Code} {b:Bool} (hc:asBoolS (ev st.fr c)=some b) (h1:b=true→GoR k P E x st Q) (h2:b=false→GoR k P E y st Q):GoR k P E (.cond c x y) st Q:=fun a w hR =>
 wpIn_cond_split ((ev_den hR.fr rfl (asBoolS_no hc)).trans (asBoolS_den hc)) (fun e=>h1 e a w hR) (fun e=>h2 e a w hR)
theorem goR_region {id:Nat} {ops:Array Oper} (hd:ops.toList.all noDef=true) (h:Go P E [.o ops ops.toList] st Q):GoR k P E (.region id ops false) st Q:=fun a w hR=>by
 refine wpIn_region_list (wpListIn_of (.inr ⟨k,rfl⟩) (fun ⟨_,_,q⟩=>q) ops.toList a w (fun _ o ho c e=>?_) (h a w hR))
 have:=List.all_eq_true.1 hd o ho
 unfold noDef at this
 rw [e] at this
 cases this
end
theorem yt_intro {P:Program} {l:Nat} {rec:Loop} {t:Tmp} (hst:rec.state = .ready) (hpd:rec.pending=none) (hps:rec.params = #[t]) {fr:List SV} {res0 res:List Res} (hfr:FrOk fr res0 { tmps:=rec.tmps,defers:=[] })
 (hblk:∀ r b,blkAt res0 r=some b→blkAt res r=some b) (i:Nat) (hi:res[i]? = some (.fact (Ob l (.loop rec)))) {v:SV} (hvg:v.good (blkAt res))
 (hcells:∀ x∈res,match x with | .box _ _ cs=>SV.goodL (blkAt res) cs | _=>True) {N:List Asn} {X:Type} {ret:X→Value} {good:X→Prop} {after:X→List Asn}
 (h:∀ E,GoR l P E rec.assign ⟨fr.set t v,res,N⟩ (fun e st1=>e = .normal∧st1.res[i]? = some (.fact (Ob l (.loop rec))) ∧
  GoR l P E rec.body ⟨st1.fr,st1.res.set i (.fact (Ob l (.loop { rec with state:=.busy }))),st1.ro⟩ (fun e st2=>st2.res[i]? = some (.fact (Ob l (.loop { rec with state:=.busy })))∧∃ x,good x ∧
   (match e with
    | .normal=>ret x = .bool true∧Frm (st2.res.set i (.fact (Ob l (.loop rec)))) (after x)
    | .exit j=>ret x = .bool false∧Frm (st2.res.set i (.fact (Ob l (.loop { rec with state:=.done,pending:=some (.exit j) })))) (after x)
    | _=>False)))) :
 YTriple P l [v.den] (res.map Res.asn) N X ret good after:=by
 intro w hm hn hmw hnw hd hM hN
 obtain ⟨hs,h1,h2,h3⟩:=Asn.starH_split _ hM
 have hres:ResOk ⟨w,hm⟩ res N w (fun i=>if i<res.length then hs i else Hp.emp) hn:=by
  refine ⟨fun i=>?_,fun i j hij=>?_,fun i x hx=>?_,hnw,fun i=>?_,hN,Ext.refl _ _,fun i b hb=>?_,fun x hx=>?_⟩
  · split
    · exact (h1 i).trans hmw
    exact Hp.emp_le _
  · split
    · split
      · exact h2 i j hij
      exact Hp.dis_emp _
    exact Hp.emp_dis _
  · have hlt:=(List.getElem?_eq_some_iff.1 hx).1
    rw [if_pos hlt]
    exact h3 i _ (by rw [List.getElem?_map,hx];rfl)
  · split
    · exact hd.mono (h1 i) (Hp.le_refl _)
    exact Hp.emp_dis _
  · split at hb
    · left;intro e;exact hb (Hp.le_none (h1 i) e)
    exact absurd rfl hb
  have:=hcells x hx
  cases x with
  |
   box b t cs =>
   refine ⟨this,fun y hy=>?_⟩
   obtain ⟨i,hi⟩:=List.mem_iff_getElem?.1 hx
   have h4:(Res.asn (.box b t cs)).holds (hs i):=h3 i _ (by rw [List.getElem?_map,hi];rfl)
   exact h4.2 _ (by rw [SV.denL_eq];exact List.mem_map_of_mem hy)
  | fact A=>trivial
  | dead b=>trivial
 have hlp:w.heap[l]? = some (.loop rec):=hres.le i l _ (hres.holds i _ hi)
 have hy:=run_yield (P:=P) (args := #[v.den]) hlp (by rw [hps];rfl)
 refine ⟨_,_,_,_,hy,roundIn_of_wpIn trivial ?_⟩
 have htm:((rec.params.zip #[v.den]).foldl (fun tmps (t,a)=>tmps.setIfInBounds t a) rec.tmps)=rec.tmps.setIfInBounds t v.den:=by rw [hps,←Array.foldl_toList];simp
 rw [htm]
 have hfr2:FrOk (fr.set t v) res { tmps:=rec.tmps.setIfInBounds t v.den,defers:=[] }:=(hfr.mono hblk).put t (SV.is_den v) hvg
 refine wpIn_mono (h ⟨w,hm⟩ _ w ⟨hfr2,_,_,hres⟩) fun e a1 w1 q=>?_
 have no:∀ {e:Exit} (_:e ≠ .normal) {Z:St→Prop},¬ (∃ st1,(e = .normal∧Z st1)∧R ⟨w,hm⟩ st1 a1 w1):=fun hne _ ⟨_,⟨e,_⟩,_⟩=>hne e
 cases e with
 |
  normal =>
  obtain ⟨st1,⟨_,hi1,hb⟩,hR1⟩:=q
  obtain ⟨hs1,hi1',hr1⟩:=hR1.res
  have hl1:w1.heap[l]? = some (.loop rec):=hr1.le i l _ (hr1.holds i _ hi1)
  refine ⟨_,run_beginRound hl1 hst,?_⟩
  have hr2:=hr1.obj (.loop { rec with state:=.busy }) hi1
  have hbe:blkAt (st1.res.set i (.fact (Ob l (.loop { rec with state:=.busy }))))=blkAt st1.res:=blkAt_set _ _ _ (fun y hy=>by rw [hi1] at hy;cases hy;rfl)
  refine wpIn_mono (hb a1 _ ⟨hR1.fr.mono (fun r b e=>by rw [hbe];exact e),_,_,hr2⟩) fun e a2 w2 q=>?_
  have fin:∀ st2,R ⟨w,hm⟩ st2 a2 w2→st2.res[i]? = some (.fact (Ob l (.loop { rec with state:=.busy })))→∀ (jump:Option Code) (x:X) (rec':Loop),rec'={ rec with state:=if jump.isNone then .ready else .done,pending:=jump }→good x→ret x = .bool jump.isNone →
   Frm (st2.res.set i (.fact (Ob l (.loop rec')))) (after x) →
   ∃ v w',(Instr.endRound l jump).run P w2 = .ok v w'∧∃ (x:X) (hm':Hp),(Ending.returned v) = .returned (ret x)∧good x∧Asn.starH (after x) hm'∧hm'.le (hp w')∧Ext hm w w'∧(∀ b,hm' b≠none→hm b≠none∨w.heap.size≤b):=by
   rintro st2 hR2 hi2 jump x rec' rfl hg hx hfrm
   obtain ⟨hs2,hi2',hr2⟩:=hR2.res
   have hl2:w2.heap[l]? = some (.loop { rec with state:=.busy }):=hr2.le i l _ (hr2.holds i _ hi2)
   have hr3:=hr2.obj (.loop { rec with state:=if jump.isNone then .ready else .done,pending:=jump }) hi2
   obtain ⟨h',a1,a2,a3⟩:=hfrm _ hr3.dis hr3.holds _ hr3.le
   refine ⟨_,_,run_endRound jump hl2,x,h',by rw [hx],hg,a1,a2,hr3.ext,fun b hb=>?_⟩
   obtain ⟨i,_,hi⟩:=a3 b hb
   exact hr3.old i b hi
  cases e with
  |
   normal =>
   obtain ⟨st2,⟨hi2,x,hg,hx,hf⟩,hR2⟩:=q
   exact fin st2 hR2 hi2 none x rec (by cases rec;simp_all) hg hx hf
  |
   exit j =>
   obtain ⟨st2,⟨hi2,x,hg,hx,hf⟩,hR2⟩:=q
   exact fin st2 hR2 hi2 (some (.exit j)) x _ rfl hg hx hf
  | ret=>obtain ⟨_,⟨_,_,_,q⟩,_⟩:=q;exact q.elim
  | goto j=>obtain ⟨_,⟨_,_,_,q⟩,_⟩:=q;exact q.elim
  | panic c=>exact q.elim
  | outgrown=>exact q.elim
 | ret=>exact (no (by simp) q).elim
 | exit j=>exact (no (by simp) q).elim
 | goto j=>exact (no (by simp) q).elim
 | panic c=>exact q.elim
 | outgrown=>exact q.elim
def sh (a:Act) (ds:List Deferred):Act:={ a with defers:=a.defers++ds }
def Shift (ds:List Deferred) (Q:Exit→Act→World→Prop):Exit→Act→World→Prop:=fun e a w=>∃ a0,a=sh a0 ds∧Q e a0 w
theorem sh_eval (a:Act) (ds:List Deferred):(sh a ds).eval=a.eval:=by funext x;cases x<;>rfl
theorem sh_put (a:Act) (ds:List Deferred) (d:Option Tmp) (v:Value):(sh a ds).put d v=sh (a.put d v) ds:=by cases d<;>rfl
theorem wpList_shift {P:Program} {ops:Array Oper} {Q:Exit→Act→World→Prop} (ds:List Deferred):∀ (l:List Oper) (a:Act) (w:World),wpList P ops Q l a w→wpList P ops (Shift ds Q) l (sh a ds) w:=by
 intro l
 induction l with
 | nil=>exact fun a w h=>⟨a,rfl,h⟩
 |
  cons o l ih =>
  intro a w h
  unfold wpList at h ⊢
  by_cases hw:Region.wanted o (yielded ops a.tmps)=true
  · rw [if_pos hw] at h
    rw [if_pos (show Region.wanted o (yielded ops (sh a ds).tmps)=true from hw)]
    rcases h with h | ⟨h,hq⟩
    · left
      unfold Oper.wp at h ⊢
      rw [sh_eval]
      revert h
      generalize (execOp a.eval o).run P w=r
      intro h
      have hnext:∀ (v:Value) w',wpList P ops Q l (a.put o.dst v) w'→wpList P ops (Shift ds Q) l ((sh a ds).put o.dst v) w':=fun v w' h=>by rw [sh_put];exact ih _ _ h
      have hout:LetsOut Q→LetsOut (Shift ds Q):=fun ⟨a,w,q⟩=>⟨_,w,a,rfl,q⟩
      cases r with
      |
       ok x w =>
       cases x with
       | value v=>exact hnext _ _ h
       | skip=>exact hnext _ _ h
       |
        defer d =>
        have:=ih _ _ h
        show wpList P ops (Shift ds Q) l (({ sh a ds with defers:=d::(sh a ds).defers }:Act).put o.dst undef) w
        have e:({ sh a ds with defers:=d::(sh a ds).defers }:Act)=sh { a with defers:=d::a.defers } ds:=rfl
        rw [e,sh_put]
        exact this
       | enter f args=>exact Calls.mono h fun e w' q=>by cases e<;>first | exact hnext _ _ q | exact ⟨_,rfl,q⟩ | exact hout q
       | row r args=>exact Rows.mono h fun v w' q=>hnext _ _ q
       | _=>exact h.elim
      | halt x w=>cases x<;>first | exact ⟨_,rfl,h⟩ | exact h.elim
    right
    refine ⟨?_,let ⟨a,w,q⟩:=hq;⟨_,w,a,rfl,q⟩⟩
    unfold Oper.asks at h ⊢
    rw [sh_eval]
    exact h
  rw [if_neg hw] at h
  rw [if_neg (show ¬ Region.wanted o (yielded ops (sh a ds).tmps)=true from hw),sh_put]
  exact ih _ _ h
theorem star_one {l r:List Asn} {h:Hp}:Asn.starH (Asn.star l::r) h↔Asn.starH (l++r) h:=by
 rw [starH_append]
 constructor
 · rintro ⟨h1,h2,d,a,b,p,q⟩
   exact ⟨h1,h2,d,a,b,star_holds.1 p,q⟩
 rintro ⟨h1,h2,d,a,b,p,q⟩
 exact ⟨h1,h2,d,a,b,star_holds.2 p,q⟩
theorem YTriple.pre {P:Program} {l:Nat} {args:List Value} {M N M':List Asn} {X:Type} {ret:X→Value} {good:X→Prop} {post post':X→List Asn}
 (hM:∀ h,Asn.starH M h→Asn.starH M' h) (hp:∀ x h,Asn.starH (post' x) h→Asn.starH (post x) h) (T:YTriple P l args M' N X ret good post'):YTriple P l args M N X ret good post :=
 fun w hm hn h1 h2 h3 h4 h5=>(T w hm hn h1 h2 h3 (hM _ h4) h5).mono fun e w' he=>by
  obtain ⟨x,hm',a,b,c,d⟩:=he
  exact ⟨x,hm',a,b,hp _ _ c,d⟩
theorem Triple.shape {P:Program} {f:FuncId} {args:List Value} {M N M':List Asn} {X:Type} {ret:X→Value} {good:X→Prop} {post post':X→List Asn} (T:Triple P f args M' N X ret good post')
 (hM:∀ h,Asn.starH M h→Asn.starH M' h) (hp:∀ x h,Asn.starH (post' x) h→Asn.starH (post x) h):Triple P f args M N X ret good post :=
 fun w hm hn h1 h2 h3 h4 h5=>(T w hm hn h1 h2 h3 (hM _ h4) h5).mono fun e w' he=>by
  obtain ⟨x,hm',a,b,c,d⟩:=he
  exact ⟨x,hm',a,b,hp _ _ c,d⟩
def EndsM (T:Tab) (fn:Func) (X:Type) (ret:X→Value) (good:X→Prop) (post:X→List Asn) (E:Entry):Exit→Act→World→Prop:=fun e a w =>
 (match e with | .normal=>True | .ret=>True | _=>False)∧∃ a0 D i st,a=sh a0 [{ target:=.collected D,args := #[] }]∧R E st a0 w∧st.res[i]? = some (.fact (Ob D (.deferred (some [])))) ∧
  ∃ svs,retS T ⟨st.fr,st.res.set i (.fact (Ob D (.deferred none))),st.ro⟩ fn.results.toList=some svs∧∃ x,retV svs=ret x∧good x∧Frm (st.res.set i (.fact (Ob D (.deferred none)))) (post x)
theorem triple_range {P:Program} {T:Tbs} (hT:TbsOk P T) {f:FuncId} {fn:Func} {c:Code} (hf:P.funcs[f]? = some fn) (hb:fn.body=some c) (svs:List SV) (res:List Res) {N:List Asn} {X:Type} {ret:X→Value} {good:X→Prop} {post:X→List Asn}
 (hgood:SV.goodL (blkAt res) svs) (hno:noNo svs=true) (hcells:∀ x∈res,match x with | .box _ _ cs=>SV.goodL (blkAt res) cs | _=>True)
 (h:∀ E a w,R E ⟨svs++List.replicate (fn.ntmps-svs.length) (.va undef),res,N⟩ a w→c.wpIn Fence.wide 0 P (EndsM T.tab fn X ret good post E) a w) :
 Triple P f (SV.denL svs) (res.map Res.asn) N X ret good post:=by
 intro w hm hn hmw hnw hd hM hN
 obtain ⟨hs,h1,h2,h3⟩:=Asn.starH_split _ hM
 have hres:ResOk ⟨w,hm⟩ res N w (fun i=>if i<res.length then hs i else Hp.emp) hn:=by
  refine ⟨fun i=>?_,fun i j hij=>?_,fun i x hx=>?_,hnw,fun i=>?_,hN,Ext.refl _ _,fun i b hb=>?_,fun x hx=>?_⟩
  · split
    · exact (h1 i).trans hmw
    exact Hp.emp_le _
  · split
    · split
      · exact h2 i j hij
      exact Hp.dis_emp _
    exact Hp.emp_dis _
  · have hlt:=(List.getElem?_eq_some_iff.1 hx).1
    rw [if_pos hlt]
    exact h3 i _ (by rw [List.getElem?_map,hx];rfl)
  · split
    · exact hd.mono (h1 i) (Hp.le_refl _)
    exact Hp.emp_dis _
  · split at hb
    · left;intro e;exact hb (Hp.le_none (h1 i) e)
    exact absurd rfl hb
  have:=hcells x hx
  cases x with
  |
   box b t cs =>
   refine ⟨this,fun y hy=>?_⟩
   obtain ⟨i,hi⟩:=List.mem_iff_getElem?.1 hx
   have h4:(Res.asn (.box b t cs)).holds (hs i):=h3 i _ (by rw [List.getElem?_map,hi];rfl)
   exact h4.2 _ (by rw [SV.denL_eq];exact List.mem_map_of_mem hy)
  | fact A=>trivial
  | dead b=>trivial
 refine callsIn_wide.1 (callsIn_of_wp_marks (n:=0) hf hb trivial (wpIn_mono (h ⟨w,hm⟩ { tmps:=(SV.denL svs).toArray++Array.replicate (fn.ntmps-(SV.denL svs).toArray.size) undef,defers:=[] } w ⟨⟨?_,?_,?_,rfl⟩,_,_,hres⟩) fun e a w' hq=>?_))
 rotate_right
 · have key:LeavesInM Fence.wide 0 P fn a.tmps (fun e w'=>∃ (x:X) (hm':Hp),e = .returned (ret x)∧good x∧Asn.starH (post x) hm'∧hm'.le (hp w')∧Ext hm w w'∧(∀ b,hm' b≠none→hm b≠none∨w.heap.size≤b)) a.defers .returning w':=by
    obtain ⟨_,a0,D,i,st,rfl,hR,hi,svs',hsv,x,hx,hg,hfrm⟩:=hq
    obtain ⟨hs',hi',hres'⟩:=hR.res
    have hD:w'.heap[D]? = some (.deferred (some [])):=hres'.le i D _ (hres'.holds i _ hi)
    have hr2:=hres'.obj (.deferred none) hi
    have hbe:blkAt (st.res.set i (.fact (Ob D (.deferred none))))=blkAt st.res:=blkAt_set _ _ _ (fun y hy=>by rw [hi] at hy;cases hy;rfl)
    have hR2:R ⟨w,hm⟩ ⟨st.fr,st.res.set i (.fact (Ob D (.deferred none))),st.ro⟩ a0 (w'.putObj D (.deferred none)):=⟨hR.fr.mono (fun r b e=>by rw [hbe];exact e),_,_,hr2⟩
    obtain ⟨h',b1,b2,b3⟩:=hfrm _ hr2.dis hr2.holds _ hr2.le
    have hde:(sh a0 [{ target:=.collected D,args := #[] }]).defers=[{ target:=.collected D,args := #[] }]:=by
     show a0.defers++_=_
     rw [hR.fr.defers]
     rfl
    rw [hde]
    refine ⟨by simp,.inl ⟨D,_,rfl,run_takeDeferred hD,?_⟩⟩
    show ∃ v,_∧_
    refine ⟨_,results_ok hT.tab hR2 hsv,x,h',by rw [hx],hg,b1,b2,hr2.ext,fun b hb=>?_⟩
    obtain ⟨i,_,hi⟩:=b3 b hb
    exact hr2.old i b hi
   cases e with
   | normal=>exact key
   | ret=>exact key
   | exit id=>exact hq.1.elim
   | goto id=>exact hq.1.elim
   | panic c=>exact hq.1.elim
   | outgrown=>exact hq.1.elim
 · simp [SV.denL_eq]
 · intro t x hx
   simp only [Array.getD_eq_getD_getElem?,List.getElem?_append] at hx ⊢
   by_cases hl:t<svs.length
   · rw [if_pos hl] at hx
     have hnx:x ≠ .no:=fun e=>by
      have:=List.all_eq_true.1 hno x (List.mem_of_getElem? hx)
      rw [e] at this;cases this
     have:((SV.denL svs).toArray++Array.replicate (fn.ntmps-(SV.denL svs).toArray.size) undef)[t]? = some x.den:=by
      rw [Array.getElem?_append_left (by simpa [SV.denL_eq] using hl)]
      simp [SV.denL_eq,hx]
     rw [this]
     exact SV.is_den x
   rw [if_neg hl] at hx
   rw [List.getElem?_replicate] at hx
   split at hx
   · cases hx
     have:((SV.denL svs).toArray++Array.replicate (fn.ntmps-(SV.denL svs).toArray.size) undef)[t]?.getD undef=undef:=by
      rw [Array.getElem?_append_right (by simp [SV.denL_eq];omega)]
      rw [Array.getElem?_replicate]
      split<;>rfl
     rw [this]
     rfl
   cases hx
 intro x hx
 rcases List.mem_append.1 hx with hx | hx
 · exact (SV.goodL_iff _ _).1 hgood x hx
 rw [List.eq_of_mem_replicate hx];trivial
/-! what a range over a function does -/
theorem Wd.wide:Wd Fence.wide:=.inl rfl
theorem range_in {P:Program} {T:Tbs} (hT:TbsOk P T) {E:Entry} {st:St} {g:Operand} {t:Tmp} {assign body:Code} {Q:Exit→Act→World→Prop} {a:Act} {w:World} (hR:R E st a w) {gf:FuncId} {lb:Array Value}
 (hg:(ev st.fr g).den = .func (.func gf) #[] lb) (hg2:(ev st.fr g).isNo=false) (hk:T.lo≤gf∧gf<T.nf∧T.ex.all (fun e => !(e==gf))=true)
 (h:∀ (fn:FuncId) (D L:Nat) (rec:Loop),rec={ state:=.ready,pending:=none,fn,tmps:=a.tmps,params := #[t],assign,body,defers:=D }→FrOk st.fr st.res { tmps:=rec.tmps,defers:=[] } →
  CallEv P E gf (.va (.func (.yield L) #[] #[])::lb.toList.map vaS) ⟨st.fr,st.res++[.fact (Ob D (.deferred (some []))),.fact (Ob L (.loop rec))],st.ro⟩ (fun _ st' =>
   ∃ i rec',st'.res[i]? = some (.fact (Ob L (.loop rec')))∧rec'.state ≠ .busy∧(rec'.pending=none∨∃ j,rec'.pending=some (.exit j)) ∧
    ∀ w',R E ⟨st'.fr,st'.res.set i (.fact (Ob L (.loop { rec' with state:=.exhausted }))),st'.ro⟩ a w'→Q (match rec'.pending with | some (.exit j)=>.exit j | _=>.normal) (sh a [{ target:=.collected D,args := #[] }]) w')) :
 (Code.rangeFunc g #[t] assign body).wpIn Fence.wide 0 P Q a w:=by
 refine wpIn_rangeFunc fun fn _=>?_
 obtain ⟨hs,hi,hres⟩:=hR.res
 obtain ⟨rec,hrec⟩:∃ rec:Loop,rec={ state:=.ready,pending:=none,fn,tmps:=a.tmps,params := #[t],assign,body,defers:=w.heap.size }:=⟨_,rfl⟩
 have h1:=hres.allocObj (.deferred (some []))
 have h2:=h1.allocObj (.loop rec)
 rw [World.size_alloc] at h2
 have hfr0:FrOk st.fr st.res { tmps:=rec.tmps,defers:=[] }:=by
  rw [hrec]
  exact ⟨hR.fr.size,hR.fr.is,hR.fr.good,rfl⟩
 have hcall:=h fn w.heap.size (w.heap.size+1) rec hrec hfr0 _ _ _ (by
  have e:st.res++[.fact (Ob w.heap.size (.deferred (some []))),.fact (Ob (w.heap.size+1) (.loop rec))]=(st.res++[.fact (Ob w.heap.size (.deferred (some [])))])++[.fact (Ob (w.heap.size+1) (.loop rec))]:=by simp
  show ResOk E (st.res++[.fact (Ob w.heap.size (.deferred (some []))),.fact (Ob (w.heap.size+1) (.loop rec))]) st.ro _ _ _
  rw [e]
  exact h2) ⟨trivial,(SV.goodL_iff _ _).2 fun y hy=>by
   obtain ⟨x,_,rfl⟩:=List.mem_map.1 hy
   exact vaS_good _ _⟩
 have hge:a.eval g = .func (.func gf) #[] lb:=by rw [ev_denv hR.fr rfl hg2];exact hg
 obtain ⟨f',hf,hb,hname⟩:=hT.fns gf hk
 have hcf:∀ (asv:Array Value) (w:World),(callFunc gf asv).run P w = .ok (.enter gf asv) w:=fun asv w=>by
  have h1:f'.name ≠ "runtime.NumGoroutine" := by simpa using hname
  have h2:f'.body≠none:=by rintro e;rw [e] at hb;cases hb
  simp [callFunc,hf,h1,h2]
 refine ⟨w.heap.size+1,[{ target:=.collected w.heap.size,args := #[] }],(w.alloc (.deferred (some []))).alloc (.loop rec),{ target:=.fn (.func gf) lb,args := #[.func (.yield (w.heap.size+1)) #[] #[]] },(w.alloc (.deferred (some []))).alloc (.loop rec),gf,
  #[.func (.yield (w.heap.size+1)) #[] #[]]++lb,(w.alloc (.deferred (some []))).alloc (.loop rec),?_,?_,fun _ _=>trivial,?_,fun q=>(by cases q),?_⟩
 · rw [hrec];exact run_enterLoop_outer _ _ _ _ _
 · simp only [resolve,hge]
   simp [go_sem]
 · simp [invoke,go_sem,hcf]
 have e2:(SV.denL (.va (.func (.yield (w.heap.size+1)) #[] #[])::lb.toList.map vaS)).toArray = #[.func (.yield (w.heap.size+1)) #[] #[]]++lb:=by
  refine Array.ext' ?_
  simp [SV.denL,SV.den,denL_va]
 rw [e2] at hcall
 refine Wd.wide.calls (Calls.mono hcall fun e w3 he=>?_)
 obtain ⟨sv,st',rfl,_,hfr,hblk,⟨hs',hi',hres'⟩,i,rec',hi2,hst,hpd,hq⟩:=he
 have hl3:w3.heap[w.heap.size+1]? = some (.loop rec'):=hres'.le i _ _ (hres'.holds i _ hi2)
 have h4:=hres'.obj (.loop { rec' with state:=.exhausted }) hi2
 have hbe:blkAt (st'.res.set i (.fact (Ob (w.heap.size+1) (.loop { rec' with state:=.exhausted }))))=blkAt st'.res:=blkAt_set _ _ _ (fun y hy=>by rw [hi2] at hy;cases hy;rfl)
 have hR4:R E ⟨st'.fr,st'.res.set i (.fact (Ob (w.heap.size+1) (.loop { rec' with state:=.exhausted }))),st'.ro⟩ a (w3.putObj (w.heap.size+1) (.loop { rec' with state:=.exhausted })) :=
  ⟨by rw [hfr];exact hR.fr.mono (fun r b e=>by rw [hbe];exact hblk r b (blkAt_append _ _ r b e)),_,_,h4⟩
 have hqq:=hq _ hR4
 have hact:({ a with defers:=[{ target:=.collected w.heap.size,args := #[] }]++a.defers }:Act)=sh a [{ target:=.collected w.heap.size,args := #[] }]:=by
  show ({ a with defers:=_ }:Act)={ a with defers:=a.defers++_ }
  rw [hR.fr.defers]
  rfl
 rw [hact]
 refine ⟨rec'.pending,_,run_endLoop hl3 hst,?_⟩
 rcases hpd with hpd | ⟨j,hpd⟩
 · rw [hpd] at hqq ⊢
   exact hqq
 rw [hpd] at hqq ⊢
 exact wpIn_exit hqq
theorem go_callv {P:Program} {T:Tbs} (hT:TbsOk P T) {E:Entry} {Q:Exit→St→Prop} {ops:Array Oper} {o:Oper} {l:List Oper} {r:List It} {st:St} {f:Operand} {ts:Array TypeId} {fn:FuncId} {caps:Array Value}
 (hg:o.guard=none) (ho:o.op = .call { callee:=.value f,args := #[],argTypes:=ts }) (hf:ev st.fr f = .va (.func (.func fn) #[] caps)) (hk:T.lo≤fn∧fn<T.nf∧T.ex.all (fun e => !(e==fn))=true)
 (h:outSat P E Q (.call fn (caps.toList.map vaS) o.dst (.o ops l::r) st)):Go P E (.o ops (o::l)::r) st Q:=by
 refine Go.step fun a w hR=>⟨by simp [Region.wanted,hg],?_⟩
 have hc:calleeS st.fr { callee:=.value f,args := #[],argTypes:=ts }=some (fn,caps.toList.map vaS):=by simp [calleeS,hf]
 have hn:noNo (caps.toList.map vaS)=true:=List.all_eq_true.2 fun x hx=>by
  obtain ⟨y,_,rfl⟩:=List.mem_map.1 hx
  cases y<;>rfl
 obtain ⟨h1,h2⟩:=callee_run hT hR.fr ho hc hn hk w
 exact call_wp hR h1 h2 h (fun sv st' hgo a' w' hR'=>hgo a' w' hR')
theorem YTriple.mpure {P:Program} {l:Nat} {args:List Value} {C:Asn} {p:Prop} {rest N:List Asn} {X:Type} {ret:X→Value} {good:X→Prop} {post:X→List Asn}
 (T:p→YTriple P l args (C::rest) N X ret good post):YTriple P l args [C,Asn.star (Asn.pure p::rest)] N X ret good post :=
 fun w hm hn h1 h2 h3 h4 h5=>by
  obtain ⟨k1,k2,d,a,b,hc,q⟩:=h4
  obtain ⟨m1,m2,d2,a2,b2,hp,hr⟩:=starH_one.1 q
  exact T hp w hm hn h1 h2 h3 ⟨k1,m2,d.mono (Hp.le_refl _) b2,a,b2.trans b,hc,hr⟩ h5
theorem starH_pk {C:Asn} {p:Prop} {rest:List Asn} {h:Hp} (hp:p) (q:Asn.starH (C::rest) h):Asn.starH [C,Asn.star (Asn.pure p::rest)] h:=by
 obtain ⟨k1,k2,d,a,b,hc,q⟩:=q
 exact ⟨k1,k2,d,a,b,hc,starH_one.2 ⟨Hp.emp,k2,Hp.emp_dis _,Hp.emp_le _,Hp.le_refl _,hp,q⟩⟩
theorem callEv {P:Program} {f:FuncId} {args:List Value} {M N:List Asn} {X:Type} {ret:X→Value} {good:X→Prop} {after:X→List Asn} (T:Triple P f args M N X ret good after)
 {E:Entry} {K:SV→St→Prop} {svs:List SV} {st:St} (sel:List Nat) (nsel:List (Sum Nat Nat)) (news:X→List Res)
 (hargs:SV.denL svs=args) (hsel:sel.map (asnAt st.res)=M.map some) (hnd:sel.Nodup) (hn:nsel.map (lent st)=N.map some) (hapart:∀ i,Sum.inr i∈nsel→i ∉ sel)
 (hnews:∀ x,(news x).map Res.asn=after x) (hok:∀ x,newsOk (blkAt (place st.res sel (news x))) (news x)) (hb:∀ x,blkLe st.res (place st.res sel (news x)))
 (h:∀ x,good x→K (normV (ret x)) ⟨st.fr,place st.res sel (news x),st.ro⟩):CallEv P E f svs st K:=by
 intro w hs hi hR _
 subst hargs
 classical
 let hn':Hp:=fun b=>if ∃ i∈sel,hs i b≠none then none else hp w b
 have hnw:hn'.le (hp w):=fun b o e=>by
  by_cases c:∃ i∈sel,hs i b≠none
  · simp only [hn',if_pos c] at e;cases e
  simpa only [hn',if_neg c] using e
 have hdis:(selH w hs sel).dis hn':=fun b=>by
  by_cases c:∃ i∈sel,hs i b≠none
  · right;simp only [hn',if_pos c]
  left;unfold selH;rw [if_neg c]
 have hM:Asn.starH M (selH w hs sel):=selH_star hR.le hR.dis hR.holds hsel hnd
 have hN:∀ A∈N,A.holds hn':=fun A hA=>by
  obtain ⟨k,hk⟩:=List.mem_iff_getElem?.1 hA
  have h1:(nsel.map (lent st))[k]? = (N.map some)[k]? := by rw [hn]
  rw [List.getElem?_map,List.getElem?_map,hk] at h1
  cases e:nsel[k]? with
  | none=>rw [e] at h1;cases h1
  |
   some s =>
   rw [e] at h1
   simp only [Option.map_some,Option.some.injEq] at h1
   cases s with
   |
    inl i =>
    refine A.mono (h:=hi) (fun b o e=>?_) (hR.rholds A (List.mem_of_getElem? h1))
    have c:¬ ∃ i∈sel,hs i b≠none:=fun ⟨j,_,hj⟩=>by
     rcases hR.rdis j b with y | y
     · exact hj y
     rw [y] at e;cases e
    simp only [hn',if_neg c]
    exact hR.rle b o e
   |
    inr i =>
    obtain ⟨x,hx,rfl⟩:=asnAt_spec h1
    refine x.asn.mono (h:=hs i) (fun b o e'=>?_) (hR.holds i x hx)
    have c:¬ ∃ i∈sel,hs i b≠none:=fun ⟨j,hj',hj⟩=>by
     rcases hR.dis i j (fun ee=>hapart i (List.mem_of_getElem? e) (ee ▸ hj')) b with y | y
     · rw [y] at e';cases e'
     exact hj y
    simp only [hn',if_neg c]
    exact hR.le i b o e'
 refine (T w (selH w hs sel) hn' (selH_le _ _ _) hnw hdis hM hN).mono fun e w' he=>?_
 obtain ⟨x,hm',rfl,hg,hpost,hle',hext,hnew⟩:=he
 refine ⟨normV (ret x),⟨st.fr,place st.res sel (news x),st.ro⟩,by rw [normV_den],normV_good _ _,rfl,blkLe_spec (hb x),?_,h x hg⟩
 rw [←hnews x] at hpost
 obtain ⟨hs',hR'⟩:=place_ok hR sel _ selH_C (news x) hm' hpost hle' hext hnew (hok x) (hb x)
 exact ⟨hs',hi,hR'⟩
theorem wide_seq {P:Program} {E:Entry} {st:St} {x y:Code} {Q:Exit→Act→World→Prop} (h:Go P E [.c x] st (fun e st1=>e = .normal∧∀ a w,R E st1 a w→y.wpIn Fence.wide 0 P Q a w)):∀ a w,R E st a w→(Code.seq x y).wpIn Fence.wide 0 P Q a w:=fun a w hR =>
 wpIn_seq (wpIn_mono (wpIn_wide.2 (h a w hR)) fun e a w q=>by
  have no:∀ {e:Exit} (_:e ≠ .normal) {Z:St→Prop},¬ (∃ st1,(e = .normal∧Z st1)∧R E st1 a w):=fun hne _ ⟨_,⟨e,_⟩,_⟩=>hne e
  cases e with
  | normal=>obtain ⟨st1,⟨_,q⟩,hR⟩:=q;exact q a w hR
  | panic c=>exact q.elim
  | outgrown=>exact q.elim
  | ret=>exact (no (by simp) q).elim
  | exit j=>exact (no (by simp) q).elim
  | goto j=>exact (no (by simp) q).elim)
theorem wide_behind {P:Program} {E:Entry} {st:St} {id:Nat} {ops:Array Oper} {y:Code} {Q:Exit→Act→World→Prop} (ds:List Deferred) (h:Go P E [.o ops ops.toList] st (fun e st1=>e = .normal∧∀ a w,R E st1 a w→y.wpIn Fence.wide 0 P Q (sh a ds) w)) :
 ∀ a w,R E st a w→(Code.seq (.region id ops false) y).wpIn Fence.wide 0 P Q (sh a ds) w:=fun a w hR=>by
 refine wpIn_seq (wpIn_mono (wpIn_region_list (wpListIn_of Wd.wide (Q:=Shift ds (Fin _ E)) (fun ⟨_,_,_,_,q⟩=>q) _ _ _ (fun q=>absurd rfl q) (wpList_shift ds ops.toList a w (h a w hR)))) fun e a w q=>?_)
 obtain ⟨a0,rfl,q⟩:=q
 have no:∀ {e:Exit} (_:e ≠ .normal) {Z:St→Prop},¬ (∃ st1,(e = .normal∧Z st1)∧R E st1 a0 w):=fun hne _ ⟨_,⟨e,_⟩,_⟩=>hne e
 cases e with
 | normal=>obtain ⟨st1,⟨_,q⟩,hR⟩:=q;exact q a0 w hR
 | panic c=>exact q.elim
 | outgrown=>exact q.elim
 | ret=>exact (no (by simp) q).elim
 | exit j=>exact (no (by simp) q).elim
 | goto j=>exact (no (by simp) q).elim
def encC (b:UInt8):List Value:=[.int .u8 (b.toNat:Int)]
theorem encC_flat (l:List UInt8):l.flatMap encC=l.map fun b=>Value.int .u8 (b.toNat:Int):=by
 induction l with
 | nil=>rfl
 | cons b l ih=>simp [encC,ih]
theorem encC_ones (l:List UInt8):∀ c∈l.flatMap encC,c.oneCell'=true:=by
 rw [encC_flat]
 intro c hc
 obtain ⟨b,_,rfl⟩:=List.mem_map.1 hc
 rfl
theorem encC_str (s:ByteArray):Lib.strCells s=s.data.toList.flatMap encC:=by rw [encC_flat];rfl
theorem size_data (s:ByteArray):s.data.toList.length=s.size:=by rw [Array.length_toList];rfl
theorem freeze_cells {w:World} {g:Nat} {cur:Array Value} {e:TypeId} {fz:Nat × Nat} (hg:w.heap[g]? = some (.cells cur e fz)) (n:Nat):∃ fz',(w.freeze ⟨g,0,none⟩ n).heap[g]? = some (.cells cur e fz'):=by
 unfold World.freeze
 by_cases h0:n=0
 · rw [if_pos h0];exact ⟨fz,hg⟩
 rw [if_neg h0]
 simp only [Array.getElem?_modify,if_true,hg]
 exact ⟨_,rfl⟩
theorem freeze_other {w:World} {g:Nat} (n k:Nat) (hk:k≠g):(w.freeze ⟨g,0,none⟩ n).heap[k]? = w.heap[k]? := by
 unfold World.freeze
 by_cases h0:n=0
 · rw [if_pos h0]
 rw [if_neg h0]
 simp only [Array.getElem?_modify]
 rw [if_neg (fun e=>hk e.symm)]
theorem freeze_same (w:World) (g n:Nat):(w.freeze ⟨g,0,none⟩ n).os=w.os∧(w.freeze ⟨g,0,none⟩ n).tape=w.tape∧(w.freeze ⟨g,0,none⟩ n).output=w.output∧(w.freeze ⟨g,0,none⟩ n).heap.size=w.heap.size:=by
 unfold World.freeze
 by_cases h0:n=0
 · rw [if_pos h0];exact ⟨rfl,rfl,rfl,rfl⟩
 rw [if_neg h0];exact ⟨rfl,rfl,rfl,by simp⟩
section
variable {P:Program} {T:Tbs} {E:Entry} {Q:Exit→St→Prop} {ops:Array Oper} {l:List Oper} {r:List It} {st:St}
theorem tk_of (hT:TbsOk P T) {t:TypeId} {k:TK} (h:(te T.tab t).map (·.k)=some k):∃ u,P.underlying t=some u∧tkOf u=k:=by
 cases hq:te T.tab t with
 | none=>rw [hq] at h;cases h
 |
  some e =>
  rw [hq] at h
  obtain ⟨i,u,z,_,hu,_,hk,_⟩:=te_spec hT.tab hq
  simp only [Option.map_some,Option.some.injEq] at h
  exact ⟨u,hu,hk.symm.trans h⟩
theorem und_str (hT:TbsOk P T) {t:TypeId} (h:(te T.tab t).map (·.k)=some .string):P.underlying t=some .string:=by
 obtain ⟨u,hu,hk⟩:=tk_of hT h
 cases u<;>simp [tkOf] at hk
 exact hu
theorem und_slice (hT:TbsOk P T) {t e:TypeId} (h:(te T.tab t).map (·.k)=some (.slice e)):P.underlying t=some (.slice e):=by
 obtain ⟨u,hu,hk⟩:=tk_of hT h
 cases u<;>simp [tkOf] at hk
 subst hk
 exact hu
theorem und_int (hT:TbsOk P T) {t:TypeId} {k:IntKind} (h:(te T.tab t).map (·.k)=some (.int k)):P.underlying t=some (.int k):=by
 obtain ⟨u,hu,hk⟩:=tk_of hT h
 cases u<;>simp [tkOf] at hk
 subst hk
 exact hu
theorem go_bytesOf (hT:TbsOk P T) {dst:Option Tmp} {src d e:TypeId} {x:Operand} {ty:TypeId} {pos:String} {after:Array Edge} {gd:Option (Nat × Bool)} {s:ByteArray}
 (hg:guardS ops st.fr ⟨dst,.convert src d x,ty,pos,after,gd⟩ = .run) (hx:(ev st.fr x).den = .string s) (hxno:(ev st.fr x).isNo=false)
 (hs:(te T.tab src).map (·.k)=some .string) (hd:(te T.tab d).map (·.k)=some (.slice e)) (he:(te T.tab e).map (·.k)=some (.int .u8))
 (h:∀ b c,Go P E (.o ops l::r) (St.put ⟨st.fr,st.res++[.fact (Rd 1 (some ⟨b,0,none⟩) s.size (s.data.toList.flatMap encC))],st.ro⟩ dst (.va (.slice (some ⟨b,0,none⟩) s.size c))) Q) :
 Go P E (.o ops (⟨dst,.convert src d x,ty,pos,after,gd⟩::l)::r) st Q:=by
 refine Go.step fun a w hR=>⟨by have:=guard_spec hR.fr (ops:=ops) ⟨dst,.convert src d x,ty,pos,after,gd⟩;rw [hg] at this;exact this,?_⟩
 obtain ⟨hs',hi',hres⟩:=hR.res
 have hrun:=run_bytes_of_string (P:=P) w src d e s (und_str hT hs) (und_slice hT hd) (und_int hT he)
 obtain ⟨o,ho⟩:∃ o,o=Obj.cells (bytesRow s (grownCap w s.size 0 e)) e ((bytesRow s (grownCap w s.size 0 e)).size,(bytesRow s (grownCap w s.size 0 e)).size+1):=⟨_,rfl⟩
 rw [←ho] at hrun
 have hnew:=hres.allocObj o
 have hfact:∀ k:Hp,(Ob w.heap.size o).holds k→(Rd 1 (some ⟨w.heap.size,0,none⟩) s.size (s.data.toList.flatMap encC)).holds k:=fun k hk=>by
  refine ⟨by simp [encC_flat],encC_ones _,fun _=>⟨w.heap.size,0,_,_,_,rfl,by rw [ho] at hk;exact hk,?_⟩⟩
  have e1:(bytesRow s (grownCap w s.size 0 e)).toList=s.data.toList.flatMap encC++List.replicate (grownCap w s.size 0 e-s.size) (Value.int .u8 0):=by
   simp [bytesRow,encC_flat]
  rw [e1,List.drop_zero,List.take_left' (by simp [encC_flat])]
 have hext:Ext Hp.emp w (w.drew.alloc o):=⟨rfl,rfl,rfl,by simp,fun b hb _=>Below.heap_alloc w.drew o b hb⟩
 have hres2:ResOk E (st.res++[.fact (Rd 1 (some ⟨w.heap.size,0,none⟩) s.size (s.data.toList.flatMap encC))]) st.ro (w.drew.alloc o) (upd hs' st.res.length (Hp.one w.heap.size o)) hi':=by
  refine ⟨fun i=>hnew.le i,hnew.dis,fun i x hx=>?_,hnew.rle,hnew.rdis,hnew.rholds,⟨hnew.ext.os,hnew.ext.tape,hnew.ext.output,hnew.ext.size,hnew.ext.block⟩,hnew.old,fun x hx=>?_⟩
  · by_cases c:i=st.res.length
    · subst c
      rw [List.getElem?_append_right (Nat.le_refl _)] at hx
      simp at hx
      subst hx
      exact hfact _ (hnew.holds st.res.length (.fact (Ob w.heap.size o)) (by rw [List.getElem?_append_right (Nat.le_refl _)];simp))
    have hl:i<st.res.length:=by
     have:=(List.getElem?_eq_some_iff.1 hx).1
     simp at this;omega
    rw [List.getElem?_append_left hl] at hx
    exact hnew.holds i x (by rw [List.getElem?_append_left hl];exact hx)
  rcases List.mem_append.1 hx with hx | hx
  · have h1:=hnew.cells x (List.mem_append_left _ hx)
    cases x with
    |
     box b t cs =>
     refine ⟨?_,h1.2⟩
     have h0:=(hres.cells _ hx).1
     exact SV.goodL_mono (blkAt_append _ _) h0
    | fact A=>trivial
    | dead b=>trivial
  simp at hx;subst hx;trivial
 refine wp_value (v:=.slice (some ⟨w.heap.size,0,none⟩) s.size (grownCap w s.size 0 e)) (w':=w.drew.alloc o) ?_ (h w.heap.size (grownCap w s.size 0 e) _ _ ?_)
 · simp [execOp,ev_denv hR.fr rfl hxno,hx,hrun]
 have hR':R E ⟨st.fr,st.res++[.fact (Rd 1 (some ⟨w.heap.size,0,none⟩) s.size (s.data.toList.flatMap encC))],st.ro⟩ a (w.drew.alloc o):=⟨hR.fr.mono (blkAt_append _ _),_,_,hres2⟩
 exact hR'.put dst (x:=.va (.slice (some ⟨w.heap.size,0,none⟩) s.size (grownCap w s.size 0 e))) rfl trivial
theorem string_run (hT:TbsOk P T) {src d e:TypeId} {A:Option Addr} {n c:Nat} {bs:List UInt8} (hs:(te T.tab src).map (·.k)=some (.slice e)) (hd:(te T.tab d).map (·.k)=some .string) (he:(te T.tab e).map (·.k)=some (.int .u8))
 (hn:n=bs.length) {w:World} (hB:(Rd 1 A n (bs.flatMap encC)).holds (hp w)):(convert src d (.slice A n c)).run P w = .ok (.string ⟨bs.toArray⟩) w:=by
 obtain ⟨h1,h2,h3⟩:=hB
 cases A with
 |
  none =>
  have h0:n=0:=by
   rcases Nat.eq_zero_or_pos n with h | h
   · exact h
   obtain ⟨g,o,cur,e,fz,h,_⟩:=h3 h;cases h
  subst h0
  have:bs=[]:=List.eq_nil_of_length_eq_zero hn.symm
  subst this
  rw [run_convert_bytes_string w src d e none 0 c (und_slice hT hs) (und_int hT he) (und_str hT hd)]
  rfl
 |
  some a =>
  subst hn
  refine run_convert_bytes_back w src d e a c bs (und_slice hT hs) (und_int hT he) (und_str hT hd) fun j hj=>?_
  obtain ⟨g,o,cur,e2,fz,hA,hcur,htk⟩:=h3 (by omega)
  cases hA
  have hcur:w.heap[g]? = some (.cells cur e2 fz):=hcur
  rw [addr_add,cell_of_row w g _ _ e2 fz hcur]
  have h5:((cur.toList.drop o).take (bs.length*1))[j]? = (bs.flatMap encC)[j]? := by rw [htk]
  rw [encC_flat,List.getElem?_map,List.getElem?_eq_getElem hj,List.getElem?_take,if_pos (by omega),List.getElem?_drop] at h5
  simpa using h5
theorem go_stringOf (hT:TbsOk P T) {dst:Option Tmp} {src d e:TypeId} {x:Operand} {ty:TypeId} {pos:String} {after:Array Edge} {gd:Option (Nat × Bool)} {A:Option Addr} {n c:Nat} (bs:List UInt8) {B:Asn} (s:Sum Nat Nat)
 (hg:guardS ops st.fr ⟨dst,.convert src d x,ty,pos,after,gd⟩ = .run) (hx:(ev st.fr x).den = .slice A n c) (hxno:(ev st.fr x).isNo=false)
 (hs:(te T.tab src).map (·.k)=some (.slice e)) (hd:(te T.tab d).map (·.k)=some .string) (he:(te T.tab e).map (·.k)=some (.int .u8))
 (hsrc:has st s B) (hn:n=bs.length) (hB:∀ h,B.holds h→(Rd 1 A n (bs.flatMap encC)).holds h)
 (h:Go P E (.o ops l::r) (st.put dst (.va (.string ⟨bs.toArray⟩))) Q):Go P E (.o ops (⟨dst,.convert src d x,ty,pos,after,gd⟩::l)::r) st Q :=
 go_val (o:=⟨dst,.convert src d x,ty,pos,after,gd⟩) hg (.va (.string ⟨bs.toArray⟩)) trivial (fun a w hR=>by
  obtain ⟨hs',hi',hres⟩:=hR.res
  have:=string_run (P:=P) hT (c:=c) hs hd he hn (hB _ (has_holds hsrc hres))
  simp [execOp,ev_denv hR.fr rfl hxno,hx,this,SV.den]) h
theorem byte_run (hT:TbsOk P T) {dst:Option Tmp} {t:TypeId} {x i:Operand} {ty:TypeId} {pos:String} {after:Array Edge} {gd:Option (Nat × Bool)} {s:ByteArray} {k:IntKind} (j:Nat) {fr:List SV} {res:List Res} {a:Act} (hF:FrOk fr res a)
 (hx:(ev fr x).den = .string s) (hxno:(ev fr x).isNo=false) (hi:(ev fr i).den = .int k (j:Int)) (hino:(ev fr i).isNo=false) (ht:(te T.tab t).map (·.k)=some .string) (hj:j<s.size) (w:World) :
 (execOp a.eval ⟨dst,.index t x i,ty,pos,after,gd⟩).run P w = .ok (.value (.int .u8 (s[j].toNat:Int))) w:=by
 have hb:s[j]? = some s[j]:=by rw [getElem?_pos s j hj]
 simp [execOp,ev_denv hF rfl hxno,hx,ev_denv hF rfl hino,hi,Instr.index,asIntOf,run_underlying (und_str hT ht),hb]
theorem go_byte (hT:TbsOk P T) {dst:Option Tmp} {t:TypeId} {x i:Operand} {ty:TypeId} {pos:String} {after:Array Edge} {gd:Option (Nat × Bool)} {s:ByteArray} {k:IntKind} (j:Nat)
 (hg:guardS ops st.fr ⟨dst,.index t x i,ty,pos,after,gd⟩ = .run) (hx:(ev st.fr x).den = .string s) (hxno:(ev st.fr x).isNo=false) (hi:(ev st.fr i).den = .int k (j:Int)) (hino:(ev st.fr i).isNo=false) (ht:(te T.tab t).map (·.k)=some .string)
 (hj:j<s.size) (h:Go P E (.o ops l::r) (st.put dst (.va (.int .u8 (s[j].toNat:Int)))) Q):Go P E (.o ops (⟨dst,.index t x i,ty,pos,after,gd⟩::l)::r) st Q :=
 go_val (o:=⟨dst,.index t x i,ty,pos,after,gd⟩) hg (.va (.int .u8 (s[j].toNat:Int))) trivial (fun _ w hR=>byte_run hT j hR.fr hx hxno hi hino ht hj w) h
theorem append_str_at (w:World) (t u ty e:TypeId) (i:TypeInfo) (ht:P.underlying t=some (.slice e)) (hu:P.underlying u=some .string) (hi:P.info? e=some i) (hz:i.zero=some (.int .u8 0)) (hs:i.size=1) (hby:i.bytes=1)
 (v:Value) (n:Nat) (xs:List Value) (hown:w.ownsRow 0 e 1 v n xs) (s:ByteArray) (h63:n+s.size≤maxLen) (hbytes:n+s.size≤140737488355328) :
 ∃ v' w',(Builtin.append_ #[t,u] ty #[v,.string s]).run P w = .ok v' w'∧w'.ownsRow 0 e 1 v' (n+s.size) (xs++Lib.strCells s)∧w.grownBy w' v.ownBlock ∧
  (v' = .slice none 0 0→v = .slice none 0 0∧s.size=0)∧(v'.ownBlock=v.ownBlock∨∃ g,v'.ownBlock=some g∧w.heap.size≤g):=by
 obtain ⟨v',w',h1,h2,h3,h4⟩:=Lib.run_append_own_string (P:=P) w 0 t u ty e i ht hu hi hz hs hby v n xs hown s h63 hbytes (Nat.zero_le _)
 refine ⟨v',w',h1,h2,h3,h4.1,?_⟩
 have hxl:xs.length=n:=by simpa using hown.1
 rcases hown.2 with ⟨rfl,rfl⟩ | ⟨g,cap,cur,rfl,_,hg,hnc,hcm,hcs,htake⟩
 · have hx:xs=[]:=List.eq_nil_of_length_eq_zero hxl
   subst hx
   obtain ⟨v2,w2,k1,k2,_⟩:=Lib.run_append_own_string (P:=P) w w.heap.size t u ty e i ht hu hi hz hs hby (.slice none 0 0) 0 [] (World.ownsRow_nil w _ e 1) s h63 hbytes (Nat.le_refl _)
   rw [h1] at k1
   cases k1
   rcases k2.2 with ⟨rfl,_⟩ | ⟨g,cap,cur,rfl,hb,_⟩
   · exact .inl rfl
   exact .inr ⟨g,rfl,hb⟩
 by_cases hroom:n+s.size≤cap
 · have hr:=Lib.run_append_room_string (P:=P) w t u ty e i ht hu hi hs g n cap cur hg s hroom (by simp at hcs;omega)
   rw [h1] at hr
   cases hr
   exact .inl rfl
 have hsmall:n+s.size≤9223372036854775807:=by simp only [maxLen] at h63;omega
 have hr:=Lib.run_append_grow_string (P:=P) w t u ty e i (.int .u8 0) ht hu hi hz ⟨g,0,none⟩ n cap xs (by rw [hs];simpa using hxl) (hown.cells (g:=g) rfl) s (by omega) (by omega) (by rw [hby];exact growslice_fits (by omega) (by omega))
 rw [h1] at hr
 cases hr
 exact .inr ⟨_,rfl,Nat.le_refl _⟩
theorem go_appendS (hT:TbsOk P T) {dst:Option Tmp} {s x:Operand} {t u ty:TypeId} {pos:String} {after:Array Edge} {gd:Option (Nat × Bool)} {A:Option Addr} {n c et:Nat} {bs:List UInt8} {y:ByteArray} (i:Nat)
 (hg:guardS ops st.fr ⟨dst,.call { callee:=.builtin .append,args := #[s,x],argTypes := #[t,u] },ty,pos,after,gd⟩ = .run)
 (hs:(ev st.fr s).den = .slice A n c) (hsno:(ev st.fr s).isNo=false) (hx:(ev st.fr x).den = .string y) (hxno:(ev st.fr x).isNo=false)
 (ht:(te T.tab t).map (·.k)=some (.slice et)) (hu:(te T.tab u).map (·.k)=some .string) (hinfo:(P.info? et).map (fun i=>(i.zero,i.size,i.bytes))=some (some (.int .u8 0),1,1))
 (hi:st.res[i]? = some (.fact (Row et 1 A n c (bs.flatMap encC)))) (hmax:n+y.size≤1000000000)
 (h:∀ A2 c2,n+y.size≤c2→Go P E (.o ops l::r) (St.put ⟨st.fr,st.res.set i (.fact (Row et 1 A2 (n+y.size) c2 ((bs++y.data.toList).flatMap encC))),st.ro⟩ dst (.va (.slice A2 (n+y.size) c2))) Q) :
 Go P E (.o ops (⟨dst,.call { callee:=.builtin .append,args := #[s,x],argTypes := #[t,u] },ty,pos,after,gd⟩::l)::r) st Q:=by
 refine Go.step fun a w hR=>⟨by have:=guard_spec hR.fr (ops:=ops) ⟨dst,.call { callee:=.builtin .append,args := #[s,x],argTypes := #[t,u] },ty,pos,after,gd⟩;rw [hg] at this;exact this,?_⟩
 obtain ⟨hs',hi',hres⟩:=hR.res
 have hil:=(List.getElem?_eq_some_iff.1 hi).1
 have hsel:[i].map (asnAt st.res)=[Row et 1 A n c (bs.flatMap encC)].map some:=by simp [asnAt_fact hi]
 have hrow:(Row et 1 A n c (bs.flatMap encC)).holds (selH w hs' [i]):=starH_one.1 (selH_star hres.le hres.dis hres.holds hsel (by simp))
 have hown:=row_owns hrow (selH_le _ _ _)
 obtain ⟨i2,hi2,hi3⟩:=Option.map_eq_some_iff.1 hinfo
 simp only [Prod.mk.injEq] at hi3
 have hml:n+y.size≤maxLen:=by unfold maxLen;omega
 obtain ⟨v',w',hrun,hown',hgrown,hnil,hwhere⟩:=append_str_at (P:=P) (ty:=ty) w t u et i2 (und_slice hT ht) (und_str hT hu) hi2 hi3.1 hi3.2.1 hi3.2.2 (.slice A n c) n _ hown y hml (by omega)
 rw [encC_str,←List.flatMap_append] at hown'
 obtain ⟨A2,c2,rfl,hrow'⟩:=owns_row hown' (encC_ones _)
 obtain ⟨k,hk1,hk2,hk3⟩:=own_le (w':=w') (.slice A2 (n+y.size) c2)
 have hext:Ext (selH w hs' [i]) w w':=⟨hgrown.os,hgrown.tape,hgrown.output,hgrown.size,fun b hb hn=>hgrown.block b hb (fun e=>by
  rcases hrow.2.2 with ⟨rfl,_⟩ | ⟨g,cur,rfl,hgc,_⟩
  · simp [Value.ownBlock] at e
  simp [Value.ownBlock] at e;subst e;rw [hgc] at hn;cases hn)⟩
 have hnew:∀ b,k b≠none→selH w hs' [i] b≠none∨w.heap.size≤b:=fun b hb=>by
  have h1:=hk3 b hb
  rcases hwhere with hw1 | ⟨g,hw1,hw2⟩
  · rw [hw1] at h1
    left
    rcases hrow.2.2 with ⟨rfl,_⟩ | ⟨g,cur,rfl,hgc,_⟩
    · cases h1
    simp only [Value.ownBlock,Option.some.injEq] at h1
    subst h1
    rw [hgc];simp
  rw [hw1] at h1
  cases h1
  exact .inr hw2
 have hrowN:=hrow' k hk2
 have hplace:=place_ok hres [i] (selH w hs' [i]) selH_C [.fact (Row et 1 A2 (n+y.size) c2 ((bs++y.data.toList).flatMap encC))] k (starH_one.2 hrowN) hk1 hext hnew (newsOk_fact (newsOk_nil _)) (by rw [place_one hil];exact blkLe_set _ hi)
 rw [place_one hil] at hplace
 obtain ⟨hs2',hres'⟩:=hplace
 refine wp_value (v:=.slice A2 (n+y.size) c2) (w':=w') ?_ (h A2 c2 ?_ _ _ ?_)
 · simp [execOp,resolve,invoke,builtin,ev_denv hR.fr rfl hsno,ev_denv hR.fr rfl hxno,hs,hx,hrun]
 · rcases hrowN.2.2 with ⟨_,h1,h2⟩ | ⟨g,cur,_,_,h1,_⟩
   · omega
   exact h1
 have hR':R E ⟨st.fr,st.res.set i (.fact (Row et 1 A2 (n+y.size) c2 ((bs++y.data.toList).flatMap encC))),st.ro⟩ a w':=⟨hR.fr.mono (blkLe_spec (blkLe_set _ hi)),hs2',hi',hres'⟩
 exact hR'.put dst (x:=.va (.slice A2 (n+y.size) c2)) rfl trivial
/-! a pointer that is no type's -/
theorem box_shape {st:St} {a:Act} {w:World} (hR:R E st a w) {rr b:Nat} {t:TypeId} {cs:List SV} (hb:st.res[rr]? = some (.box b t cs)):w.shape? b=some (t,cs.length):=by
 obtain ⟨hs',hi',hres⟩:=hR.res
 have:=hres.boxW rr b t cs hb
 unfold World.shape?
 rw [this]
 simp [SV.denL_eq]
theorem go_toUnsafe {dst:Option Tmp} {src d t e:TypeId} {x:Operand} {ty:TypeId} {pos:String} {after:Array Edge} {gd:Option (Nat × Bool)} {rr b off:Nat} {cs:List SV}
 (hg:guardS ops st.fr ⟨dst,.convert src d x,ty,pos,after,gd⟩ = .run) (hx:ev st.fr x = .pt rr b off) (hs:P.underlying src=some (.pointer t)) (hd:P.underlying d=some .unsafePointer)
 (hsz:(P.info? t).map (fun i=>decide (i.size=0))=some false) (hb:st.res[rr]? = some (.box b e cs)) (hoff:off<cs.length)
 (h:Go P E (.o ops l::r) (st.put dst (.pt rr b off)) Q):Go P E (.o ops (⟨dst,.convert src d x,ty,pos,after,gd⟩::l)::r) st Q :=
 go_val (o:=⟨dst,.convert src d x,ty,pos,after,gd⟩) hg (.pt rr b off) (by simp [SV.good,blkAt,hb,Res.blk]) (fun a w hR=>by
  obtain ⟨i,hi,hz⟩:=Option.map_eq_some_iff.1 hsz
  have:=Lib.run_to_unsafe (P:=P) (w:=w) ⟨b,off,none⟩ hs hd hi (by simpa using hz) (box_shape hR hb) hoff
  simp [execOp,ev_denv hR.fr rfl (show (ev st.fr x).isNo=false by rw [hx];rfl),hx,this,SV.den]) h
theorem go_fromUnsafe {dst:Option Tmp} {src d u e:TypeId} {x:Operand} {ty:TypeId} {pos:String} {after:Array Edge} {gd:Option (Nat × Bool)} {rr b off:Nat} {cs:List SV}
 (hg:guardS ops st.fr ⟨dst,.convert src d x,ty,pos,after,gd⟩ = .run) (hx:ev st.fr x = .pt rr b off) (hs:P.underlying src=some .unsafePointer) (hd:P.underlying d=some (.pointer u))
 (hu:(P.info? u).isSome=true) (hb:st.res[rr]? = some (.box b e cs)) (hlies:liesAt P P.depth e (cs.length / P.cellsOf e) off u 1=true)
 (h:Go P E (.o ops l::r) (st.put dst (.pt rr b off)) Q):Go P E (.o ops (⟨dst,.convert src d x,ty,pos,after,gd⟩::l)::r) st Q :=
 go_val (o:=⟨dst,.convert src d x,ty,pos,after,gd⟩) hg (.pt rr b off) (by simp [SV.good,blkAt,hb,Res.blk]) (fun a w hR=>by
  obtain ⟨j,hj⟩:=Option.isSome_iff_exists.1 hu
  have:=Lib.run_from_unsafe (P:=P) (w:=w) ⟨b,off,none⟩ hs hd hj (box_shape hR hb) hlies
  simp [execOp,ev_denv hR.fr rfl (show (ev st.fr x).isNo=false by rw [hx];rfl),hx,this,SV.den]) h
end
def shlOf (k:IntKind) (a b:Int):Int:=k.wrap (a*2 ^ (min b.toNat k.bits))
def shrOf (k:IntKind) (a b:Int):Int:=a.fdiv (2 ^ (min b.toNat k.bits))
def notOf (k:IntKind) (n:Int):Int:=bitsOf .xor k (if k.signed then -1 else k.max) n
section
variable {P:Program}
theorem shl_runE {t:TypeId} {k k':IntKind} {a b z:Int} (h:shlOf k a b=z) (hb:0≤b) (w:World):(binOp .shl t (.int k a) (.int k' b)).run P w = .ok (.int k z) w:=by
 rw [←h];exact shl_run hb w
theorem shr_runE {t:TypeId} {k k':IntKind} {a b z:Int} (h:shrOf k a b=z) (hb:0≤b) (w:World):(binOp .shr t (.int k a) (.int k' b)).run P w = .ok (.int k z) w:=by
 rw [←h];exact shr_run hb w
theorem bits_runE {op:BinOp} {t:TypeId} {k:IntKind} {a b z:Int} (h:bitsOf op k a b=z) (ho:op = .and∨op = .or∨op = .xor∨op = .andNot) (w:World):(binOp op t (.int k a) (.int k b)).run P w = .ok (.int k z) w:=by
 rw [←h];exact bits_run ho w
variable {T:Tbs} {E:Entry} {Q:Exit→St→Prop} {ops:Array Oper} {l:List Oper} {r:List It} {st:St}
theorem not_run {t:TypeId} {x:Operand} {fr:List SV} {res:List Res} {a:Act} (hF:FrOk fr res a) {k:IntKind} {n z:Int} (hx:(ev fr x).den = .int k n) (hxno:(ev fr x).isNo=false) (hz:notOf k n=z)
 {dst:Option Tmp} {ty:TypeId} {pos:String} {after:Array Edge} {gd:Option (Nat × Bool)} (w:World) :
 (execOp a.eval ⟨dst,.unOp .xor t x,ty,pos,after,gd⟩).run P w = .ok (.value (.int k z)) w:=by
 rw [←hz]
 simp [execOp,ev_denv hF rfl hxno,hx,Op.unary,Op.intBits,notOf,bitsOf]
theorem go_not {dst:Option Tmp} {t:TypeId} {x:Operand} {ty:TypeId} {pos:String} {after:Array Edge} {gd:Option (Nat × Bool)} {k:IntKind} {n:Int} (z:Int) (hz:notOf k n=z)
 (hg:guardS ops st.fr ⟨dst,.unOp .xor t x,ty,pos,after,gd⟩ = .run) (hx:(ev st.fr x).den = .int k n) (hxno:(ev st.fr x).isNo=false)
 (h:Go P E (.o ops l::r) (st.put dst (.va (.int k z))) Q):Go P E (.o ops (⟨dst,.unOp .xor t x,ty,pos,after,gd⟩::l)::r) st Q :=
 go_val (o:=⟨dst,.unOp .xor t x,ty,pos,after,gd⟩) hg (.va (.int k z)) trivial (fun _ w hR=>not_run hR.fr hx hxno hz w) h
end
/-! an array in a block -/
section
variable {P:Program} {T:Tbs} {E:Entry} {Q:Exit→St→Prop} {ops:Array Oper} {l:List Oper} {r:List It} {st:St}
theorem und_arr (hT:TbsOk P T) {t e n:Nat} (h:(te T.tab t).map (·.k)=some (.arr n e)):P.underlying t=some (.array n e):=by
 obtain ⟨u,hu,hk⟩:=tk_of hT h
 cases u<;>simp [tkOf] at hk
 obtain ⟨rfl,rfl⟩:=hk
 exact hu
theorem size_te (hT:TbsOk P T) {t sz:Nat} (h:(te T.tab t).map (·.size)=some sz) (w:World):(sizeOf t).run P w = .ok sz w:=by
 cases hq:te T.tab t with
 | none=>rw [hq] at h;cases h
 |
  some e =>
  rw [hq] at h
  simp only [Option.map_some,Option.some.injEq] at h
  subst h
  obtain ⟨i,u,z,hi,_,_,_,hs,_⟩:=te_spec hT.tab hq
  simp [sizeOf,typeInfo,hi,hs]
theorem indexArr_run (hT:TbsOk P T) {dst:Option Tmp} {t:TypeId} {x i:Operand} {ty:TypeId} {pos:String} {after:Array Edge} {gd:Option (Nat × Bool)} {rr b off n et sz:Nat} {k:IntKind} (j:Nat) {fr:List SV} {res:List Res} {a:Act} (hF:FrOk fr res a)
 (hx:ev fr x = .pt rr b off) (hi:(ev fr i).den = .int k (j:Int)) (hino:(ev fr i).isNo=false) (ht:(te T.tab t).map (·.k)=some (.arr n et)) (he:(te T.tab et).map (·.size)=some sz) (hj:j<n) (w:World) :
 (execOp a.eval ⟨dst,.indexAddr t x i,ty,pos,after,gd⟩).run P w = .ok (.value (.pointer (some ⟨b,off+j*sz,none⟩))) w:=by
 have hc:(0:Int)≤(j:Int)∧(j:Int)<(n:Int):=⟨by omega,by omega⟩
 simp [execOp,ev_denv hF rfl (show (ev fr x).isNo=false by rw [hx];rfl),hx,ev_denv hF rfl hino,hi,SV.den,Instr.indexAt,asIntOf,run_underlying (und_arr hT ht),Instr.sureAddr,size_te hT he,hc,addr_add]
 intro hh;omega
theorem go_indexArr (hT:TbsOk P T) {dst:Option Tmp} {t:TypeId} {x i:Operand} {ty:TypeId} {pos:String} {after:Array Edge} {gd:Option (Nat × Bool)} {rr b off n et sz:Nat} {k:IntKind} {c:Nat} (j:Nat)
 (hg:guardS ops st.fr ⟨dst,.indexAddr t x i,ty,pos,after,gd⟩ = .run)
 (hx:ev st.fr x = .pt rr b off) (hi:(ev st.fr i).den = .int k (j:Int)) (hino:(ev st.fr i).isNo=false) (ht:(te T.tab t).map (·.k)=some (.arr n et)) (he:(te T.tab et).map (·.size)=some sz) (hj:j<n)
 (hblk:blkAt st.res rr=some b) (hc:off+j*sz=c)
 (h:Go P E (.o ops l::r) (st.put dst (.pt rr b c)) Q):Go P E (.o ops (⟨dst,.indexAddr t x i,ty,pos,after,gd⟩::l)::r) st Q:=by
 subst hc
 exact go_val (o:=⟨dst,.indexAddr t x i,ty,pos,after,gd⟩) hg (.pt rr b (off+j*sz)) hblk (fun a w hR=>indexArr_run hT j hR.fr hx hi hino ht he hj w) h
theorem go_sliceArr (hT:TbsOk P T) {dst:Option Tmp} {t:TypeId} {x:Operand} {ty:TypeId} {pos:String} {after:Array Edge} {gd:Option (Nat × Bool)} {rr b off n et sz:Nat}
 (hg:guardS ops st.fr ⟨dst,.slice t x none none none,ty,pos,after,gd⟩ = .run)
 (hx:ev st.fr x = .pt rr b off) (ht:(te T.tab t).map (·.k)=some (.arr n et)) (he:(te T.tab et).map (·.size)=some sz)
 (h:Go P E (.o ops l::r) (st.put dst (.va (.slice (some ⟨b,off,none⟩) n n))) Q):Go P E (.o ops (⟨dst,.slice t x none none none,ty,pos,after,gd⟩::l)::r) st Q :=
 go_val (o:=⟨dst,.slice t x none none none,ty,pos,after,gd⟩) hg (.va (.slice (some ⟨b,off,none⟩) n n)) trivial (fun a w hR=>by
  have e0:(if n=0 then (⟨b,off,none⟩:Addr) else (⟨b,off,none⟩:Addr).add (0*sz))=⟨b,off,none⟩:=by
   split
   · rfl
   rw [addr_add];simp
  simp only [execOp,ev_denv hR.fr rfl (show (ev st.fr x).isNo=false by rw [hx];rfl),hx,SV.den,Instr.sliceAt,Sem.run_bind,run_underlying (und_arr hT ht),Result.andThen_ok,Instr.sureAddr,Sem.run_pure,Instr.sliceBounds,Option.map_none,size_te hT he,Nat.sub_zero,e0]) h
end
/-! the operations on natural numbers -/
theorem wrap_un {k:IntKind} (hk:k.signed=false) {n:Nat} (h:n<2 ^ k.bits):k.wrap (n:Int)=(n:Int):=by
 unfold IntKind.wrap
 simp only [hk,Bool.false_and]
 exact Int.emod_eq_of_lt (by omega) (by exact_mod_cast h)
theorem wrap_mod {k:IntKind} (hk:k.signed=false) (n:Nat):k.wrap (n:Int)=((n % 2 ^ k.bits:Nat):Int):=by
 unfold IntKind.wrap
 simp only [hk,Bool.false_and]
 push_cast
 rfl
theorem and_un {k:IntKind} (hk:k.signed=false) {a b:Nat} (ha:a<2 ^ k.bits) (hb:b<2 ^ k.bits):bitsOf .and k a b=((a &&& b:Nat):Int):=by
 unfold bitsOf
 simp only [BitVec.ofInt_natCast,BitVec.toNat_and,BitVec.toNat_ofNat,Nat.mod_eq_of_lt ha,Nat.mod_eq_of_lt hb]
 exact wrap_un hk (Nat.lt_of_le_of_lt Nat.and_le_left ha)
theorem or_un {k:IntKind} (hk:k.signed=false) {a b:Nat} (ha:a<2 ^ k.bits) (hb:b<2 ^ k.bits):bitsOf .or k a b=((a ||| b:Nat):Int):=by
 unfold bitsOf
 simp only [BitVec.ofInt_natCast,BitVec.toNat_or,BitVec.toNat_ofNat,Nat.mod_eq_of_lt ha,Nat.mod_eq_of_lt hb]
 exact wrap_un hk (Nat.or_lt_two_pow ha hb)
theorem xor_un {k:IntKind} (hk:k.signed=false) {a b:Nat} (ha:a<2 ^ k.bits) (hb:b<2 ^ k.bits):bitsOf .xor k a b=((a ^^^ b:Nat):Int):=by
 unfold bitsOf
 simp only [BitVec.ofInt_natCast,BitVec.toNat_xor,BitVec.toNat_ofNat,Nat.mod_eq_of_lt ha,Nat.mod_eq_of_lt hb]
 exact wrap_un hk (Nat.xor_lt_two_pow ha hb)
theorem andNot_un {k:IntKind} (hk:k.signed=false) {a b:Nat} (ha:a<2 ^ k.bits) (hb:b<2 ^ k.bits):bitsOf .andNot k a b=((a &&& (2 ^ k.bits-1-b):Nat):Int):=by
 unfold bitsOf
 simp only [BitVec.ofInt_natCast,BitVec.toNat_and,BitVec.toNat_not,BitVec.toNat_ofNat,Nat.mod_eq_of_lt ha,Nat.mod_eq_of_lt hb]
 exact wrap_un hk (Nat.lt_of_le_of_lt Nat.and_le_left ha)
theorem shr_un {k:IntKind} {a b:Nat} (hb:b≤k.bits):shrOf k a b=((a / 2 ^ b:Nat):Int):=by
 unfold shrOf
 rw [Int.toNat_natCast,Nat.min_eq_left hb]
 rw [Int.fdiv_eq_ediv_of_nonneg _ (by exact_mod_cast Nat.zero_le _)]
 push_cast
 rfl
theorem shl_un {k:IntKind} (hk:k.signed=false) {a b:Nat} (hb:b≤k.bits):shlOf k a b=((a*2 ^ b % 2 ^ k.bits:Nat):Int):=by
 unfold shlOf
 rw [Int.toNat_natCast,Nat.min_eq_left hb,←wrap_mod hk]
 push_cast
 rfl
def crcB (r:Nat):Nat:=if r % 2=1 then r / 2 ^^^ 2197175160 else r / 2
theorem crcB_lt {r:Nat} (h:r<4294967296):crcB r<4294967296:=by
 unfold crcB
 split
 · exact Nat.xor_lt_two_pow (n:=32) (by omega) (by decide)
 omega
theorem crcB_mask (r:Nat):r / 2 ^^^ (r % 2*2197175160)=crcB r:=by
 unfold crcB
 rcases Nat.mod_two_eq_zero_or_one r with h | h
 · rw [h,if_neg (by decide),Nat.zero_mul,Nat.xor_zero]
 rw [h,if_pos rfl,Nat.one_mul]
def crcN:Nat→Nat→Nat
 | 0,r=>r
 | k+1,r=>crcN k (crcB r)
theorem crcN_lt:∀ (k:Nat) {r:Nat},r<4294967296→crcN k r<4294967296
 | 0,_,h=>h
 | k+1,_,h=>crcN_lt k (crcB_lt h)
theorem crcN_step:∀ (k r:Nat),crcB (crcN k r)=crcN (k+1) r
 | 0,_=>rfl
 | k+1,r=>crcN_step k (crcB r)
def crcO (r:Nat) (c:UInt8):Nat:=crcN 8 (r ^^^ c.toNat)
theorem xor8_lt {r:Nat} (h:r<4294967296) (c:UInt8):r ^^^ c.toNat<4294967296:=Nat.xor_lt_two_pow (n:=32) h (Nat.lt_of_lt_of_le c.toNat_lt (by decide))
theorem crcO_lt {r:Nat} (h:r<4294967296) (c:UInt8):crcO r c<4294967296:=crcN_lt 8 (xor8_lt h c)
def crcL (r:Nat) (l:List UInt8):Nat:=l.foldl crcO r
theorem crcL_lt:∀ (l:List UInt8) {r:Nat},r<4294967296→crcL r l<4294967296
 | [],_,h=>h
 | c::l,_,h=>crcL_lt l (crcO_lt h c)
theorem crcL_step {l:List UInt8} {j r:Nat} (hj:j<l.length):crcL r (l.take (j+1))=crcO (crcL r (l.take j)) l[j]:=by
 unfold crcL
 rw [←List.take_append_getElem hj,List.foldl_append]
 rfl
def ckN (l:List UInt8):Nat:=4294967295-crcL 4294967295 l
def ckL (l:List UInt8):List UInt8:=[UInt8.ofNat (ckN l),UInt8.ofNat (ckN l / 256),UInt8.ofNat (ckN l / 65536),UInt8.ofNat (ckN l / 16777216)]
theorem ckL_len (l:List UInt8):(ckL l).length=4:=rfl
theorem xor_ones {w a:Nat} (h:a<2 ^ w):(2 ^ w-1) ^^^ a=2 ^ w-1-a:=by
 have:=BitVec.toNat_not (x:=BitVec.ofNat w a)
 rw [BitVec.not_def,BitVec.toNat_xor,BitVec.toNat_allOnes,BitVec.toNat_ofNat,Nat.mod_eq_of_lt h] at this
 exact this
set_option maxRecDepth 20000 in
theorem or128:∀ x,x<256→x ||| 128=x % 128+128:=by decide
theorem and127 (x:Nat):x &&& 127=x % 128:=Nat.and_two_pow_sub_one_eq_mod x 7
theorem and1 (x:Nat):x &&& 1=x % 2:=Nat.and_two_pow_sub_one_eq_mod x 1
theorem or_add {a b i:Nat} (h:a<2 ^ i):a ||| b*2 ^ i=a+b*2 ^ i:=by
 rw [Nat.or_comm,←Nat.shiftLeft_eq,←Nat.shiftLeft_add_eq_or_of_lt h,Nat.add_comm]
/-! the machine's operations -/
theorem b_w64 {n:Nat} (h:n<18446744073709551616):IntKind.u64.wrap (n:Int)=(n:Int):=wrap_un rfl h
theorem b_shl1 {n:Nat} (h:n<9223372036854775808):shlOf .u64 (n:Int) 1=((2*n:Nat):Int):=by
 have:=shl_un (k:=.u64) (a:=n) (b:=1) rfl (by decide)
 rw [show ((1:Nat):Int)=1 from rfl] at this
 rw [this,Nat.mod_eq_of_lt (by show n*2 ^ 1<18446744073709551616;omega)]
 congr 1
 omega
theorem b_shr63 {n:Nat} (h:n<9223372036854775808):shrOf .i64 (n:Int) 63=((0:Nat):Int):=by
 have:=shr_un (k:=.i64) (a:=n) (b:=63) (by decide)
 rw [show ((63:Nat):Int)=63 from rfl] at this
 rw [this,Nat.div_eq_of_lt (by omega)]
theorem b_xor0 {n:Nat} (h:n<18446744073709551616):bitsOf .xor .u64 (n:Int) ((0:Nat):Int)=(n:Int):=by
 rw [xor_un rfl h (by decide),Nat.xor_zero]
theorem b_byte (n:Nat):IntKind.u8.wrap (n:Int)=((UInt8.ofNat n).toNat:Int):=by
 rw [wrap_mod rfl,UInt8.toNat_ofNat']
 rfl
theorem b_or128 (n:Nat):bitsOf .or .u8 ((UInt8.ofNat n).toNat:Int) 128=((UInt8.ofNat (n % 128+128)).toNat:Int):=by
 have:=or_un (k:=.u8) (a:=(UInt8.ofNat n).toNat) (b:=128) rfl (UInt8.toNat_lt _) (by decide)
 rw [show ((128:Nat):Int)=128 from rfl] at this
 rw [this,or128 _ (UInt8.toNat_lt _),UInt8.toNat_ofNat',UInt8.toNat_ofNat']
 congr 1
 omega
theorem b_shr7 (n:Nat):shrOf .u64 (n:Int) 7=((n / 128:Nat):Int):=by
 have:=shr_un (k:=.u64) (a:=n) (b:=7) (by decide)
 exact this
theorem b_shr1 (n:Nat):shrOf .u64 (n:Int) 1=((n / 2:Nat):Int):=shr_un (k:=.u64) (a:=n) (b:=1) (by decide)
theorem b_and1 {n:Nat} (h:n<18446744073709551616):bitsOf .and .u64 (n:Int) 1=((n % 2:Nat):Int):=by
 rw [←and1]
 exact and_un (k:=.u64) (a:=n) (b:=1) rfl h (by decide)
theorem b_not128 (c:UInt8):bitsOf .andNot .u8 (c.toNat:Int) 128=((c.toNat % 128:Nat):Int):=by
 have:=andNot_un (k:=.u8) (a:=c.toNat) (b:=128) rfl c.toNat_lt (by decide)
 rw [←and127]
 exact this
theorem b_shlG {x i:Nat} (h:i≤9):shlOf .u64 (x:Int) ((7*i:Nat):Int)=((x*128 ^ i % 18446744073709551616:Nat):Int):=by
 rw [shl_un rfl (by show 7*i≤64;omega),Nat.pow_mul]
 rfl
theorem b_orG {a b:Nat} (ha:a<18446744073709551616) (hb:b<18446744073709551616):bitsOf .or .u64 (a:Int) (b:Int)=((a ||| b:Nat):Int):=or_un rfl ha hb
def zigM (F:Nat):Int:=if F % 2=1 then -((F / 2:Nat):Int)-1 else ((F / 2:Nat):Int)
theorem b_fold {F:Nat} (hF:F<18446744073709551616):bitsOf .xor .i64 ((F / 2:Nat):Int) (0-((F % 2:Nat):Int))=zigM F:=by
 have hq:F / 2<18446744073709551616:=by omega
 unfold zigM bitsOf
 rcases Nat.mod_two_eq_zero_or_one F with h | h
 · rw [h,if_neg (by decide)]
   have e:(BitVec.ofInt IntKind.i64.bits ((F / 2:Nat):Int) ^^^ BitVec.ofInt IntKind.i64.bits (0-((0:Nat):Int))).toNat=F / 2:=by
    rw [show BitVec.ofInt IntKind.i64.bits (0-((0:Nat):Int))=0#_ from rfl,BitVec.xor_zero,BitVec.ofInt_natCast,BitVec.toNat_ofNat]
    exact Nat.mod_eq_of_lt hq
   simp only [e]
   rw [IntKind.wrap_i64]
   omega
 rw [h,if_pos rfl]
 have e:(BitVec.ofInt IntKind.i64.bits ((F / 2:Nat):Int) ^^^ BitVec.ofInt IntKind.i64.bits (0-((1:Nat):Int))).toNat=18446744073709551615-F / 2:=by
  rw [show BitVec.ofInt IntKind.i64.bits (0-((1:Nat):Int))=BitVec.allOnes _ from rfl,BitVec.xor_comm,←BitVec.not_def,BitVec.toNat_not,BitVec.ofInt_natCast,BitVec.toNat_ofNat]
  rw [show (F / 2) % 2 ^ IntKind.i64.bits=F / 2 from Nat.mod_eq_of_lt hq]
  rfl
 simp only [e]
 rw [IntKind.wrap_i64]
 omega
/-! a check number's -/
theorem b_not32 {n:Nat} (h:n<4294967296):notOf .u32 (n:Int)=((4294967295-n:Nat):Int):=by
 have:=xor_un (k:=.u32) (a:=4294967295) (b:=n) rfl (by decide) h
 rw [xor_ones (w:=32) h] at this
 exact this
theorem b_xor8 {n:Nat} (h:n<4294967296) (c:UInt8):bitsOf .xor .u32 (n:Int) (c.toNat:Int)=((n ^^^ c.toNat:Nat):Int):=xor_un rfl h (Nat.lt_of_lt_of_le c.toNat_lt (by decide))
theorem b_c32 (c:UInt8):IntKind.u32.wrap (c.toNat:Int)=(c.toNat:Int):=wrap_un rfl (Nat.lt_of_lt_of_le c.toNat_lt (by decide))
theorem b_half32 (n:Nat):shrOf .u32 (n:Int) 1=((n / 2:Nat):Int):=shr_un (k:=.u32) (a:=n) (b:=1) (by decide)
theorem b_and32 {n:Nat} (h:n<4294967296):bitsOf .and .u32 (n:Int) 1=((n % 2:Nat):Int):=by
 rw [←and1]
 exact and_un (k:=.u32) (a:=n) (b:=1) rfl h (by decide)
theorem b_neg32 (n:Nat):IntKind.u32.wrap (0-((n % 2:Nat):Int))=((n % 2*4294967295:Nat):Int):=by
 rcases Nat.mod_two_eq_zero_or_one n with h | h<;>rw [h]<;>rfl
theorem b_mask (n:Nat):bitsOf .and .u32 2197175160 ((n % 2*4294967295:Nat):Int)=((n % 2*2197175160:Nat):Int):=by
 rcases Nat.mod_two_eq_zero_or_one n with h | h<;>rw [h]<;>rfl
theorem b_crc {n:Nat} (h:n<4294967296):bitsOf .xor .u32 ((n / 2:Nat):Int) ((n % 2*2197175160:Nat):Int)=((crcB n:Nat):Int):=by
 rw [←crcB_mask]
 exact xor_un rfl (show n / 2<4294967296 by omega) (show n % 2*2197175160<4294967296 by omega)
theorem b_shr8 {n j:Nat} (h:j≤4):shrOf .u32 (n:Int) ((8*j:Nat):Int)=((n / 256 ^ j:Nat):Int):=by
 rw [shr_un (by show 8*j≤32;omega),Nat.pow_mul]
end Go.Sy

/-
  What is proved: the texts that the claims share, part 2 of 7, each text behind the other. Conditions: none.
-/
import Derived.Laws.MakeOwn
import Derived.Lib.Overlaps
import Derived.Test.YtjlfdfmkofbccaaGreatDoorRows
import Derived.Test.YtjlfdfmkofbccaaGreatDoorWp1
set_option maxRecDepth 100000
namespace Go.Sy
open Go.RowKit
theorem ev_wrapN {P:Program} {E:Entry} {Q:Exit→St→Prop} {e:Int} {c:Int→Out} (n:Nat) (hz : -9223372036854775808≤e∧e≤9223372036854775807) (hn:e=(n:Int)) (h:outSat P E Q (c (n:Int))):outSat P E Q (.wrap .i64 e c):=ev_wrap ((wrap64 hz).trans hn) h
theorem ne_no {x y:Int} (h:x=y):(!(x==y))=false:=by simp [h]
theorem ne_yes {x y:Int} (h:¬ x=y):(!(x==y))=true:=by simp [h]
def setsR:List Res→Nat→List (Nat × Res)→List Res
 | [],_,_=>[]
 |
  x::l,n,m=>match m with
  | []=>x::l
  | (t,y)::ts=>bif Nat.beq n t then y::setsR l n.succ ts else x::setsR l n.succ ((t,y)::ts)
def setR (l:List Res) (m:List (Nat × Res)):List Res:=setsR l 0 m
theorem go_loopR {P:Program} {E:Entry} {Q:Exit→St→Prop} {body:Code} {r:List It} {st:St} {ι:Type} (mods:List Nat) (keep:ι→List (Nat × SV)) (resI:ι→List (Nat × Res)) (Pre:ι→Prop) (m:ι→Nat) (i0:ι)
 (h0:Pre i0) (hst:StLe st ⟨setF (havoc st.fr mods) (keep i0),setR st.res (resI i0),st.ro⟩)
 (hround:∀ i,Pre i→Go P E [.c body] ⟨setF (havoc st.fr mods) (keep i),setR st.res (resI i),st.ro⟩ (Round P E r Q (fun i=>⟨setF (havoc st.fr mods) (keep i),setR st.res (resI i),st.ro⟩) Pre m i)) :
 Go P E (.c (.loop body)::r) st Q:=go_loop mods keep (fun i=>setR st.res (resI i)) Pre m i0 h0 hst hround
theorem go_fact {P:Program} {E:Entry} {Q:Exit→St→Prop} {todo:List It} {st:St} (A:Asn) (hA:∀ h,A.holds h) (h:Go P E todo ⟨st.fr,st.res++[.fact A],st.ro⟩ Q):Go P E todo st Q:=fun a w hR=>by
 obtain ⟨hs,hi,hres⟩:=hR.res
 have hlt:∀ {i:Nat} {x:Res},(st.res++[.fact A])[i]? = some x→(i<st.res.length∧st.res[i]? = some x)∨(i=st.res.length∧x = .fact A):=fun {i x} hx=>by
  rcases Nat.lt_or_ge i st.res.length with h1 | h1
  · rw [List.getElem?_append_left h1] at hx;exact .inl ⟨h1,hx⟩
  rw [List.getElem?_append_right h1] at hx
  have:=(List.getElem?_eq_some_iff.1 hx).1
  simp only [List.length_singleton] at this
  have e:i-st.res.length=0:=by omega
  rw [e] at hx
  simp at hx
  exact .inr ⟨by omega,hx.symm⟩
 refine h a w ⟨hR.fr.mono (blkAt_append _ _),fun i=>if i<st.res.length then hs i else Hp.emp,hi,fun i=>?_,fun i j hij=>?_,fun i x hx=>?_,hres.rle,fun i=>?_,hres.rholds,hres.ext,fun i b hb=>?_,fun x hx=>?_⟩
 · split
   · exact hres.le i
   exact Hp.emp_le _
 · split
   · split
     · exact hres.dis i j hij
     exact Hp.dis_emp _
   exact Hp.emp_dis _
 · rcases hlt hx with ⟨h1,h2⟩ | ⟨_,rfl⟩
   · rw [if_pos h1];exact hres.holds i x h2
   exact hA _
 · split
   · exact hres.rdis i
   exact Hp.emp_dis _
 · split at hb
   · exact hres.old i b hb
   exact absurd rfl hb
 rcases List.mem_append.1 hx with hx | hx
 · have:=hres.cells x hx
   cases x with
   | box b t cs=>exact ⟨SV.goodL_mono (blkAt_append _ _) this.1,this.2⟩
   | fact A=>trivial
   | dead b=>trivial
 obtain rfl:=List.mem_singleton.1 hx
 trivial
theorem Row.nilE {α:Type} {enc:α→List Value} (e sz:Nat) (h:Hp):(Row e sz none 0 0 (([]:List α).flatMap enc)).holds h:=Row.nil e sz h
theorem le_app {s n:Nat} (h:s≤1000000000) (e:n=s):n≤maxLen:=by unfold maxLen;omega
theorem le_appb {s n b:Nat} (h:s≤1000000000) (e:n=s) (hb:b≤100000):n*b≤140737488355328:=by
 have:=Nat.mul_le_mul h hb
 subst e
 omega
theorem go_boxfact {P:Program} {E:Entry} {Q:Exit→St→Prop} {todo:List It} {st:St} {b t:Nat} {cells:List SV} (i:Nat) (A:Asn) (hi:st.res[i]? = some (.box b t cells)) (hA:∀ h,(Pt b t (SV.denL cells)).holds h→A.holds h)
 (hb:blkLe st.res (place st.res [i] [.dead (some b),.fact A])) (h:Go P E todo ⟨st.fr,place st.res [i] [.dead (some b),.fact A],st.ro⟩ Q):Go P E todo st Q :=
 go_ghost [i] (M:=[Pt b t (SV.denL cells)]) (X:=Unit) (fun _=>[.dead (some b),.fact A]) (by simp [asnAt,hi,Res.asn]) (by simp) (fun h p=>⟨(),Hp.emp,h,Hp.emp_dis _,Hp.emp_le _,Hp.le_refl _,trivial,starH_one.2 (hA h (starH_one.1 p))⟩) (fun _ x hx=>by
  simp only [List.mem_cons,List.not_mem_nil,or_false] at hx
  rcases hx with rfl | rfl<;>trivial) (fun _=>hb) (fun _=>h)
theorem flat_rep {α:Type} {enc:α→List Value} {z:α}:∀ n:Nat,((List.replicate n ()).flatMap fun _=>enc z)=(List.replicate n z).flatMap enc
 | 0=>rfl
 | n+1=>by simp only [List.replicate_succ,List.flatMap_cons,flat_rep n]
theorem dec_no {p:Prop} [Decidable p] (h:p):(!decide p)=false:=by simp [h]
theorem ev_wu8 {P:Program} {E:Entry} {Q:Exit→St→Prop} {e:Int} {c:Int→Out} (hz:0≤e∧e<256) (h:outSat P E Q (c e)):outSat P E Q (.wrap .u8 e c):=by
 have hw:IntKind.u8.wrap e=e % 256:=by simp [IntKind.wrap,IntKind.bits,IntKind.signed]
 exact ev_wrap (z:=e) (by rw [hw];omega) h
theorem ev_wu32 {P:Program} {E:Entry} {Q:Exit→St→Prop} {e:Int} {c:Int→Out} (hz:0≤e∧e<4294967296) (h:outSat P E Q (c e)):outSat P E Q (.wrap .u32 e c):=by
 have hw:IntKind.u32.wrap e=e % 4294967296:=by simp [IntKind.wrap,IntKind.bits,IntKind.signed]
 exact ev_wrap (z:=e) (by rw [hw];omega) h
theorem ev_wu64 {P:Program} {E:Entry} {Q:Exit→St→Prop} {e:Int} {c:Int→Out} (hz:0≤e∧e<18446744073709551616) (h:outSat P E Q (c e)):outSat P E Q (.wrap .u64 e c):=by
 have hw:IntKind.u64.wrap e=e % 18446744073709551616:=by simp [IntKind.wrap,IntKind.bits,IntKind.signed]
 exact ev_wrap (z:=e) (by rw [hw];omega) h
theorem ev_mu64 {P:Program} {E:Entry} {Q:Exit→St→Prop} {e:Int} {c:Int→Out} (h:outSat P E Q (c (e % 18446744073709551616))):outSat P E Q (.wrap .u64 e c):=ev_wrap (z:=e % 18446744073709551616) (by simp [IntKind.wrap,IntKind.bits,IntKind.signed]) h
theorem ones_of {l:List Value} (h:l.all Value.oneCell'=true):∀ c∈l,c.oneCell'=true:=fun c hc=>List.all_eq_true.1 h c hc
theorem le_max {n:Nat} (h:n≤1000000000):n≤maxLen:=by unfold maxLen;omega
theorem le_bytes {n b:Nat} (h:n≤1000000000) (hb:b≤100000):b*n≤281474976710656:=by
 have:=Nat.mul_le_mul hb h
 omega
section
variable {P:Program} {T:Tbs} {E:Entry} {Q:Exit→St→Prop} {ops:Array Oper} {l:List Oper} {r:List It} {st:St} {α:Type} {enc:α→List Value}
theorem go_appendE (hT:TbsOk P T) {dst:Option Tmp} {s x:Operand} {t ty:TypeId} {pos:String} {after:Array Edge} {gd:Option (Nat × Bool)} {M:List Asn} {A A':Option Addr} {n c m c':Nat} {et sz bts:Nat} {B:Asn} (sel:List Nat) (pad:List (Option Nat)) (src:Sum Nat Nat) (L L2 L3:List α) (n':Nat)
 (hg:guardS ops st.fr ⟨dst,.call { callee:=.builtin .append,args := #[s,x],argTypes := #[t,t] },ty,pos,after,gd⟩ = .run)
 (hs:(ev st.fr s).den = .slice A n c) (hsno:(ev st.fr s).isNo=false) (hx:(ev st.fr x).den = .slice A' m c') (hxno:(ev st.fr x).isNo=false)
 (ht:(te T.tab t).map (·.k)=some (.slice et)) (he':(te T.tab et).map (fun e=>(e.size,e.bytes,e.zero.length))=some (sz,bts,sz)) (hpos:0<sz)
 (hsel:sel.map (asnAt st.res)=M.map some) (hnd:sel.Nodup) (hM:∀ h,Asn.starH M h→(Row et sz A n c (L.flatMap enc)).holds h)
 (hsrc:has st src B) (hB:∀ h,B.holds h→(Rd sz A' m (L2.flatMap enc)).holds h)
 (h3:L++L2=L3) (hn':n'=n+m) (hmax:n+m≤maxLen) (hbytes:(n+m)*bts≤140737488355328)
 (hb:∀ A2 c2,blkLe st.res (place st.res sel (deads pad++[.fact (Row et sz A2 n' c2 (L3.flatMap enc))])))
 (h:∀ A2 c2,n'≤c2→Go P E (.o ops l::r) (St.put ⟨st.fr,place st.res sel (deads pad++[.fact (Row et sz A2 n' c2 (L3.flatMap enc))]),st.ro⟩ dst (.va (.slice A2 n' c2))) Q) :
 Go P E (.o ops (⟨dst,.call { callee:=.builtin .append,args := #[s,x],argTypes := #[t,t] },ty,pos,after,gd⟩::l)::r) st Q :=
 go_append hT sel pad M A A' n c m c' (L.flatMap enc) (L2.flatMap enc) et sz bts src B hg hs (fun e=>by rw [e] at hsno;cases hsno) hx (fun e=>by rw [e] at hxno;cases hxno) ht he' hpos hsel hnd hM hsrc hB n' _ hn' (by rw [←h3];exact List.flatMap_append) hmax hbytes hb (fun A2 c2 _ hc=>h A2 c2 hc)
theorem go_make (hT:TbsOk P T) {dst:Option Tmp} {t ty:TypeId} {x y:Operand} {pos:String} {after:Array Edge} {gd:Option (Nat × Bool)} {et sz bts:Nat} {kl kc:IntKind} {z1 z2:Int} {zs:List Value} (n c:Nat)
 (hg:guardS ops st.fr ⟨dst,.makeSlice t x y,ty,pos,after,gd⟩ = .run)
 (hx:ev st.fr x = .va (.int kl z1)) (hy:ev st.fr y = .va (.int kc z2)) (hz1:z1=(n:Int)) (hz2:z2=(c:Int))
 (ht:(te T.tab t).map (·.k)=some (.slice et)) (he':(te T.tab et).map (fun e=>(e.size,e.bytes,e.zero))=some (sz,bts,zs)) (hzl:zs.length=sz) (hone:zs.all Value.oneCell'=true)
 (hnc:n≤c) (hcm:c≤maxLen) (hbytes:bts*c≤281474976710656)
 (hb:∀ b,blkLe st.res (st.res++[.fact (Row et sz (some ⟨b,0,none⟩) n c ((List.replicate n ()).flatMap fun _=>zs))]))
 (h:∀ b,Go P E (.o ops l::r) (St.put ⟨st.fr,st.res++[.fact (Row et sz (some ⟨b,0,none⟩) n c ((List.replicate n ()).flatMap fun _=>zs))],st.ro⟩ dst (.va (.slice (some ⟨b,0,none⟩) n c))) Q) :
 Go P E (.o ops (⟨dst,.makeSlice t x y,ty,pos,after,gd⟩::l)::r) st Q:=by
 obtain ⟨e,he,hsz,hbts,hzz⟩:∃ e,te T.tab et=some e∧e.size=sz∧e.bytes=bts∧e.zero=zs:=by
  cases hq:te T.tab et with
  | none=>rw [hq] at he';cases he'
  |
   some e =>
   rw [hq] at he'
   simp only [Option.map_some,Option.some.injEq,Prod.mk.injEq] at he'
   exact ⟨e,rfl,he'.1,he'.2.1,he'.2.2⟩
 subst hsz hbts hzz
 refine Go.step fun a w hR=>⟨by have:=guard_spec hR.fr (ops:=ops) ⟨dst,.makeSlice t x y,ty,pos,after,gd⟩;rw [hg] at this;exact this,?_⟩
 obtain ⟨hs',hi',hres⟩:=hR.res
 cases htt:te T.tab t with
 | none=>rw [htt] at ht;cases ht
 |
  some et' =>
  rw [htt] at ht
  simp at ht
  obtain ⟨ii,u,zz,hii,hu,hz',hk,_⟩:=te_spec hT.tab htt
  obtain ⟨i2,u2,zv,hi2,hu2,hzv,hk2,hs2,hb2,hz2'⟩:=te_spec hT.tab he
  rw [ht] at hk
  cases u<;>simp [tkOf] at hk
  subst hk
  have hcm':(c:Int)≤9223372036854775807:=by unfold maxLen at hcm;omega
  have hrun:=run_make (P:=P) w t et i2 zv hu hi2 hzv kl kc (n:Int) (c:Int) (by omega) (by omega) (by rw [←hb2];have:((e.bytes*c:Nat):Int)≤((281474976710656:Nat):Int):=Int.ofNat_le.2 hbytes;rw [Int.natCast_mul] at this;exact this) hcm'
  simp only [Int.toNat_natCast] at hrun
  have hcells:(madeCells zv.cells (c*i2.size)).toList=(List.replicate c ()).flatMap fun _=>e.zero:=by
   rw [hz2']
   have hzl':zv.cells.size=i2.size:=by rw [←hs2,←hzl,hz2'];simp
   apply List.ext_getElem?
   intro k
   rw [Array.getElem?_toList]
   have hL:((List.replicate c ()).flatMap fun _=>zv.cells.toList).length=c*i2.size:=by
    rw [flat_len (sz:=i2.size) (fun _=>by simp [hzl'])];simp
   rcases Nat.lt_or_ge k (c*i2.size) with hk | hk
   · have hp:0<i2.size:=by
      rcases Nat.eq_zero_or_pos i2.size with h0 | h0
      · rw [h0] at hk;simp at hk
      exact h0
     have hq:k / i2.size<c:=by
      rw [Nat.div_lt_iff_lt_mul hp];exact hk
     have hm:k % i2.size<zv.cells.size:=by rw [hzl'];exact Nat.mod_lt _ hp
     have h1:=flat_drop (enc:=fun _:Unit=>zv.cells.toList) (sz:=i2.size) (fun _=>by simp [hzl']) (List.replicate c ()) (k / i2.size)
     have h2:(((List.replicate c ()).flatMap fun _=>zv.cells.toList).drop (k / i2.size*i2.size))[k % i2.size]? = zv.cells[k % i2.size]? := by
      rw [h1,List.drop_replicate]
      obtain ⟨q,hq'⟩:∃ q,c-k / i2.size=q+1:=⟨c-k / i2.size-1,by omega⟩
      rw [hq',List.replicate_succ,List.flatMap_cons,List.getElem?_append_left (by simpa using hm),Array.getElem?_toList]
     rw [List.getElem?_drop,Nat.div_add_mod'] at h2
     rw [h2,madeCells,Array.getElem?_map,Array.getElem?_eq_getElem (by simpa using hk),Array.getElem?_eq_getElem hm]
     simp only [Option.map_some,Array.getElem_range,hzl']
     rw [getElem!_pos _ _ (by rw [←hzl'] at *;exact hm)]
   rw [Array.getElem?_eq_none (by simpa [madeCells] using hk),List.getElem?_eq_none (by rw [hL];exact hk)]
  have hone':∀ v∈(List.replicate c ()).flatMap (fun _=>e.zero),v.oneCell'=true:=fun v hv=>by
   obtain ⟨_,_,hv⟩:=List.mem_flatMap.1 hv
   exact List.all_eq_true.1 hone v hv
  have hR2:=place_ok hres [] Hp.emp (fun b hb=>absurd rfl hb) [.fact (Row et e.size (some ⟨w.heap.size,0,none⟩) n c ((List.replicate n ()).flatMap fun _=>e.zero))] (Hp.one w.heap.size (.cells (madeCells zv.cells (c*i2.size)) et)) ?_ (Hp.one_le (hp_alloc w _)) (Ext.alloc w _) (fun b hb'=>?_) (newsOk_fact (newsOk_nil _)) ?_
  · obtain ⟨hs2,hres2⟩:=hR2
    have hpl:place st.res [] [.fact (Row et e.size (some ⟨w.heap.size,0,none⟩) n c ((List.replicate n ()).flatMap fun _=>e.zero))]=st.res++[.fact (Row et e.size (some ⟨w.heap.size,0,none⟩) n c ((List.replicate n ()).flatMap fun _=>e.zero))]:=by
     apply List.ext_getElem?
     intro k
     unfold place
     rw [List.getElem?_map]
     rcases Nat.lt_or_ge k st.res.length with h1 | h1
     · rw [List.getElem?_range (by simp;omega),List.getElem?_append_left h1]
       simp [placeAt,idxOf,List.getElem?_eq_getElem h1]
     rcases Nat.lt_or_ge k (st.res.length+1) with h2 | h2
     · obtain rfl:k=st.res.length:=by omega
       rw [List.getElem?_range (by simp),List.getElem?_append_right (Nat.le_refl _)]
       simp [placeAt,idxOf]
     rw [List.getElem?_eq_none (by simp;omega),List.getElem?_eq_none (by simp;omega)]
     rfl
    rw [hpl] at hres2
    refine wp_value (v:=.slice (some ⟨w.heap.size,0,none⟩) n c) (w':=w.alloc (.cells (madeCells zv.cells (c*i2.size)) et)) ?_ (h w.heap.size _ _ ?_)
    · have h1:a.eval x = .int kl (n:Int):=by rw [ev_denv hR.fr hx rfl,hz1];rfl
      have h2:a.eval y = .int kc (c:Int):=by rw [ev_denv hR.fr hy rfl,hz2];rfl
      simp [execOp,h1,h2,hrun]
    have hR':R E ⟨st.fr,st.res++[.fact (Row et e.size (some ⟨w.heap.size,0,none⟩) n c ((List.replicate n ()).flatMap fun _=>e.zero))],st.ro⟩ a (w.alloc (.cells (madeCells zv.cells (c*i2.size)) et)):=⟨hR.fr.mono (blkLe_spec (hb _)),_,_,hres2⟩
    exact hR'.put dst (x:=.va (.slice (some ⟨w.heap.size,0,none⟩) n c)) rfl trivial
  · refine starH_one.2 ⟨?_,fun v hv=>?_,.inr ⟨w.heap.size,_,rfl,Hp.one_self _ _,hnc,hcm,?_,?_⟩⟩
    · rw [flat_len (sz:=e.size) (fun _=>hzl)];simp
    · obtain ⟨_,_,hv⟩:=List.mem_flatMap.1 hv
      exact List.all_eq_true.1 hone v hv
    · simp [madeCells,hs2]
    rw [hcells,flat_take (fun _=>hzl)]
    congr 1
    rw [List.take_replicate]
    congr 1
    omega
  · right
    by_cases e:b=w.heap.size
    · omega
    exact absurd (Hp.one_none e) hb'
  have hpl2:=hb w.heap.size
  refine (?_:blkLe st.res (place st.res [] _))
  have:place st.res [] [Res.fact (Row et e.size (some ⟨w.heap.size,0,none⟩) n c ((List.replicate n ()).flatMap fun _=>e.zero))]=st.res++[.fact (Row et e.size (some ⟨w.heap.size,0,none⟩) n c ((List.replicate n ()).flatMap fun _=>e.zero))]:=by
   apply List.ext_getElem?
   intro k
   unfold place
   rw [List.getElem?_map]
   rcases Nat.lt_or_ge k st.res.length with h1 | h1
   · rw [List.getElem?_range (by simp;omega),List.getElem?_append_left h1]
     simp [placeAt,idxOf,List.getElem?_eq_getElem h1]
   rcases Nat.lt_or_ge k (st.res.length+1) with h2 | h2
   · obtain rfl:k=st.res.length:=by omega
     rw [List.getElem?_range (by simp),List.getElem?_append_right (Nat.le_refl _)]
     simp [placeAt,idxOf]
   rw [List.getElem?_eq_none (by simp;omega),List.getElem?_eq_none (by simp;omega)]
   rfl
  rw [this]
  exact hpl2
theorem go_makeE (hT:TbsOk P T) {dst:Option Tmp} {t ty:TypeId} {x y:Operand} {pos:String} {after:Array Edge} {gd:Option (Nat × Bool)} {et sz bts:Nat} {kl kc:IntKind} {z1 z2:Int} {zs:List Value} (n c:Nat) (z:α) (hz:enc z=zs)
 (hg:guardS ops st.fr ⟨dst,.makeSlice t x y,ty,pos,after,gd⟩ = .run)
 (hx:ev st.fr x = .va (.int kl z1)) (hy:ev st.fr y = .va (.int kc z2)) (hz1:z1=(n:Int)) (hz2:z2=(c:Int))
 (ht:(te T.tab t).map (·.k)=some (.slice et)) (he':(te T.tab et).map (fun e=>(e.size,e.bytes,e.zero))=some (sz,bts,zs)) (hzl:zs.length=sz) (hone:zs.all Value.oneCell'=true)
 (hnc:n≤c) (hcm:c≤maxLen) (hbytes:bts*c≤281474976710656)
 (hb:∀ b,blkLe st.res (st.res++[.fact (Row et sz (some ⟨b,0,none⟩) n c ((List.replicate n ()).flatMap fun _=>zs))]))
 (h:∀ b,Go P E (.o ops l::r) (St.put ⟨st.fr,st.res++[.fact (Row et sz (some ⟨b,0,none⟩) n c ((List.replicate n z).flatMap enc))],st.ro⟩ dst (.va (.slice (some ⟨b,0,none⟩) n c))) Q) :
 Go P E (.o ops (⟨dst,.makeSlice t x y,ty,pos,after,gd⟩::l)::r) st Q :=
 go_make hT n c hg hx hy hz1 hz2 ht he' hzl hone hnc hcm hbytes hb fun b=>by
  have e:((List.replicate n ()).flatMap fun _=>zs)=(List.replicate n z).flatMap enc:=by
   rw [←hz,flat_rep]
  rw [e]
  exact h b
theorem go_front (hT:TbsOk P T) {dst:Option Tmp} {t:TypeId} {x:Operand} {lo hi mx:Option Operand} {ty:TypeId} {pos:String} {after:Array Edge} {gd:Option (Nat × Bool)} {A:Option Addr} {n c:Nat} {et sz:Nat} (hi' mx':Nat)
 (hg:guardS ops st.fr ⟨dst,.slice t x lo hi mx,ty,pos,after,gd⟩ = .run) (hx:(ev st.fr x).den = .slice A n c) (hxno:(ev st.fr x).isNo=false)
 (ht:(te T.tab t).map (·.k)=some (.slice et)) (he':(te T.tab et).map (·.size)=some sz)
 (hlo:bound st.fr lo 0 0) (hhi:bound st.fr hi n hi') (hmx:bound st.fr mx c mx') (hform:mx.isSome=true→hi.isSome=true) (h2:hi'≤mx') (h3:mx'≤c)
 (h:Go P E (.o ops l::r) (st.put dst (.va (.slice A hi' mx'))) Q):Go P E (.o ops (⟨dst,.slice t x lo hi mx,ty,pos,after,gd⟩::l)::r) st Q :=
 go_slice hT A A n c 0 hi' mx' et sz hg hx (fun e=>by rw [e] at hxno;cases hxno) ht he' hlo hhi hmx hform (Nat.zero_le _) h2 h3 (slice_zero _ _ _) h
theorem tk_front (hT:TbsOk P T) {full:Bool} {held:List (Nat × Res)} {ro0:List Asn} {q:Nat} {p:List (Nat × Bool)} {listed:List Bool} {dst:Option Tmp} {t:TypeId} {x:Operand} {lo hi mx:Option Operand} {ty:TypeId} {pos:String} {after:Array Edge} {gd:Option (Nat × Bool)} {A:Option Addr} {n c:Nat} {et sz:Nat} (hi' mx':Nat)
 (hchk:(heldOk held st.res∧ro0=st.ro)∧planOk ops full ((q,true)::p) listed=true) (ho:ops.toList[q]? = some ⟨dst,.slice t x lo hi mx,ty,pos,after,gd⟩)
 (hg:guardS ops st.fr ⟨dst,.slice t x lo hi mx,ty,pos,after,gd⟩ = .run) (hx:(ev st.fr x).den = .slice A n c) (hxno:(ev st.fr x).isNo=false)
 (ht:(te T.tab t).map (·.k)=some (.slice et)) (he':(te T.tab et).map (·.size)=some sz)
 (hlo:bound st.fr lo 0 0) (hhi:bound st.fr hi n hi') (hmx:bound st.fr mx c mx') (hform:mx.isSome=true→hi.isSome=true) (h2:hi'≤mx') (h3:mx'≤c)
 (h:Go P E (.d ops full held ro0 p (listed.set q true)::r) (st.put dst (.va (.slice A hi' mx'))) Q):Go P E (.d ops full held ro0 ((q,true)::p) listed::r) st Q :=
 tk_slice hT A A n c 0 hi' mx' et sz hchk ho hg hx (fun e=>by rw [e] at hxno;cases hxno) ht he' hlo hhi hmx hform (Nat.zero_le _) h2 h3 (slice_zero _ _ _) h
end
section
variable {P:Program} {T:Tbs} {E:Entry} {Q:Exit→St→Prop} {ops:Array Oper} {l:List Oper} {r:List It} {st:St}
theorem bin_run {dst:Option Tmp} {op:BinOp} {t yt:TypeId} {x y:Operand} {ty:TypeId} {pos:String} {after:Array Edge} {gd:Option (Nat × Bool)} {fr:List SV} {res:List Res} {a:Act} (hF:FrOk fr res a) {vx vy v:Value} {w:World}
 (hx:(ev fr x).den=vx) (hxno:(ev fr x).isNo=false) (hy:(ev fr y).den=vy) (hyno:(ev fr y).isNo=false) (h1:op ≠ .eql) (h2:op ≠ .neq) (hb:(binOp op t vx vy).run P w = .ok v w) :
 (execOp a.eval ⟨dst,.binOp op t x y yt,ty,pos,after,gd⟩).run P w = .ok (.value v) w:=by
 have e1:a.eval x=vx:=by rw [ev_denv hF rfl hxno,hx]
 have e2:a.eval y=vy:=by rw [ev_denv hF rfl hyno,hy]
 cases op<;>first | exact absurd rfl h1 | exact absurd rfl h2 | simp [execOp,e1,e2,eqGuard,hb]
theorem go_bin {dst:Option Tmp} {op:BinOp} {t yt:TypeId} {x y:Operand} {ty:TypeId} {pos:String} {after:Array Edge} {gd:Option (Nat × Bool)} {vx vy:Value} (v:SV) (hv:v.good (blkAt st.res))
 (hg:guardS ops st.fr ⟨dst,.binOp op t x y yt,ty,pos,after,gd⟩ = .run)
 (hx:(ev st.fr x).den=vx) (hxno:(ev st.fr x).isNo=false) (hy:(ev st.fr y).den=vy) (hyno:(ev st.fr y).isNo=false) (h1:op ≠ .eql) (h2:op ≠ .neq) (hb:∀ w,(binOp op t vx vy).run P w = .ok v.den w)
 (h:Go P E (.o ops l::r) (st.put dst v) Q):Go P E (.o ops (⟨dst,.binOp op t x y yt,ty,pos,after,gd⟩::l)::r) st Q :=
 go_val (o:=⟨dst,.binOp op t x y yt,ty,pos,after,gd⟩) hg v hv (fun _ w hR=>bin_run hR.fr hx hxno hy hyno h1 h2 (hb w)) h
theorem tk_bin {full:Bool} {held:List (Nat × Res)} {ro0:List Asn} {q:Nat} {p:List (Nat × Bool)} {listed:List Bool} {dst:Option Tmp} {op:BinOp} {t yt:TypeId} {x y:Operand} {ty:TypeId} {pos:String} {after:Array Edge} {gd:Option (Nat × Bool)} {vx vy:Value} (v:SV) (hv:v.good (blkAt st.res))
 (hchk:(heldOk held st.res∧ro0=st.ro)∧planOk ops full ((q,true)::p) listed=true) (ho:ops.toList[q]? = some ⟨dst,.binOp op t x y yt,ty,pos,after,gd⟩)
 (hg:guardS ops st.fr ⟨dst,.binOp op t x y yt,ty,pos,after,gd⟩ = .run)
 (hx:(ev st.fr x).den=vx) (hxno:(ev st.fr x).isNo=false) (hy:(ev st.fr y).den=vy) (hyno:(ev st.fr y).isNo=false) (h1:op ≠ .eql) (h2:op ≠ .neq) (hb:∀ w,(binOp op t vx vy).run P w = .ok v.den w)
 (h:Go P E (.d ops full held ro0 p (listed.set q true)::r) (st.put dst v) Q):Go P E (.d ops full held ro0 ((q,true)::p) listed::r) st Q :=
 tk_val (o:=⟨dst,.binOp op t x y yt,ty,pos,after,gd⟩) hchk ho hg v hv (fun _ w hF _=>bin_run hF hx hxno hy hyno h1 h2 (hb w)) h
def bitsOf (op:BinOp) (k:IntKind) (a b:Int):Int :=
 k.wrap ((match op with | .and=>BitVec.ofInt k.bits a &&& BitVec.ofInt k.bits b | .or=>BitVec.ofInt k.bits a ||| BitVec.ofInt k.bits b | .xor=>BitVec.ofInt k.bits a ^^^ BitVec.ofInt k.bits b | _=>BitVec.ofInt k.bits a &&& ~~~(BitVec.ofInt k.bits b)).toNat:Nat)
theorem bits_run {op:BinOp} {t:TypeId} {k:IntKind} {a b:Int} (ho:op = .and∨op = .or∨op = .xor∨op = .andNot) (w:World):(binOp op t (.int k a) (.int k b)).run P w = .ok (.int k (bitsOf op k a b)) w:=by
 rcases ho with rfl | rfl | rfl | rfl<;>simp [binOp,Op.intBits,bitsOf]
theorem shl_run {t:TypeId} {k k':IntKind} {a b:Int} (hb:0≤b) (w:World):(binOp .shl t (.int k a) (.int k' b)).run P w = .ok (.int k (k.wrap (a*2 ^ (min b.toNat k.bits)))) w:=by
 simp [binOp,Op.shift,show ¬ b<0 by omega]
theorem shr_run {t:TypeId} {k k':IntKind} {a b:Int} (hb:0≤b) (w:World):(binOp .shr t (.int k a) (.int k' b)).run P w = .ok (.int k (a.fdiv (2 ^ (min b.toNat k.bits)))) w:=by
 simp [binOp,Op.shift,show ¬ b<0 by omega]
theorem cat_run {t:TypeId} {a b:ByteArray} (hb:a.size+b.size≤9223372036854775807) (w:World):(binOp .add t (.string a) (.string b)).run P w = .ok (.string (a++b)) w:=by
 have h3:IntKind.i64.max=9223372036854775807:=rfl
 have:¬ (((a.size+b.size:Nat):Int) > IntKind.i64.max):=by rw [h3];omega
 simp only [binOp,Op.stringOp]
 rw [if_neg this]
 rfl
/-! slices of slices -/
def backA (A:Option Addr) (mx lo sz:Nat):Option Addr:=if mx=lo then A else A.map (·.add (lo*sz))
theorem go_back (hT:TbsOk P T) {dst:Option Tmp} {t:TypeId} {x:Operand} {lo hi mx:Option Operand} {ty:TypeId} {pos:String} {after:Array Edge} {gd:Option (Nat × Bool)} {A:Option Addr} {n c:Nat} {et sz:Nat} (lo' hi' mx':Nat)
 (hg:guardS ops st.fr ⟨dst,.slice t x lo hi mx,ty,pos,after,gd⟩ = .run) (hx:(ev st.fr x).den = .slice A n c) (hxno:(ev st.fr x).isNo=false)
 (ht:(te T.tab t).map (·.k)=some (.slice et)) (he':(te T.tab et).map (·.size)=some sz)
 (hlo:bound st.fr lo 0 lo') (hhi:bound st.fr hi n hi') (hmx:bound st.fr mx c mx') (hform:mx.isSome=true→hi.isSome=true) (h1:lo'≤hi') (h2:hi'≤mx') (h3:mx'≤c)
 (h:Go P E (.o ops l::r) (st.put dst (.va (.slice (backA A mx' lo' sz) (hi'-lo') (mx'-lo')))) Q):Go P E (.o ops (⟨dst,.slice t x lo hi mx,ty,pos,after,gd⟩::l)::r) st Q :=
 go_slice hT A _ n c lo' hi' mx' et sz hg hx (fun e=>by rw [e] at hxno;cases hxno) ht he' hlo hhi hmx hform h1 h2 h3 rfl h
theorem tk_back (hT:TbsOk P T) {full:Bool} {held:List (Nat × Res)} {ro0:List Asn} {q:Nat} {p:List (Nat × Bool)} {listed:List Bool} {dst:Option Tmp} {t:TypeId} {x:Operand} {lo hi mx:Option Operand} {ty:TypeId} {pos:String} {after:Array Edge} {gd:Option (Nat × Bool)} {A:Option Addr} {n c:Nat} {et sz:Nat} (lo' hi' mx':Nat)
 (hchk:(heldOk held st.res∧ro0=st.ro)∧planOk ops full ((q,true)::p) listed=true) (ho:ops.toList[q]? = some ⟨dst,.slice t x lo hi mx,ty,pos,after,gd⟩)
 (hg:guardS ops st.fr ⟨dst,.slice t x lo hi mx,ty,pos,after,gd⟩ = .run) (hx:(ev st.fr x).den = .slice A n c) (hxno:(ev st.fr x).isNo=false)
 (ht:(te T.tab t).map (·.k)=some (.slice et)) (he':(te T.tab et).map (·.size)=some sz)
 (hlo:bound st.fr lo 0 lo') (hhi:bound st.fr hi n hi') (hmx:bound st.fr mx c mx') (hform:mx.isSome=true→hi.isSome=true) (h1:lo'≤hi') (h2:hi'≤mx') (h3:mx'≤c)
 (h:Go P E (.d ops full held ro0 p (listed.set q true)::r) (st.put dst (.va (.slice (backA A mx' lo' sz) (hi'-lo') (mx'-lo')))) Q):Go P E (.d ops full held ro0 ((q,true)::p) listed::r) st Q :=
 tk_slice hT A _ n c lo' hi' mx' et sz hchk ho hg hx (fun e=>by rw [e] at hxno;cases hxno) ht he' hlo hhi hmx hform h1 h2 h3 rfl h
theorem rd_take {α:Type} {enc:α→List Value} {sz n k:Nat} {A:Option Addr} {L:List α} {h:Hp} (hlen:∀ x,(enc x).length=sz) (p:(Rd sz A n (L.flatMap enc)).holds h) (hk:k≤n):(Rd sz A k ((L.take k).flatMap enc)).holds h:=by
 rw [←flat_take hlen]
 exact Rd.sub p hk
theorem rd_part {α:Type} {enc:α→List Value} {sz n lo m mx:Nat} {A:Option Addr} {L:List α} {h:Hp} (hlen:∀ x,(enc x).length=sz) (p:(Rd sz A n (L.flatMap enc)).holds h) (hm:lo+m≤n) (hx:lo+m≤mx):(Rd sz (backA A mx lo sz) m (((L.take (lo+m)).drop lo).flatMap enc)).holds h:=by
 have q:=rd_take hlen p hm
 rcases Nat.eq_zero_or_pos m with h0 | h0
 · subst h0
   have e:(L.take (lo+0)).drop lo=[]:=List.drop_eq_nil_of_le (by simp;omega)
   rw [e]
   exact Rd.nil _ _ _
 obtain ⟨g,o,cur,e,fz,rfl,_⟩:=q.2.2 (by omega)
 have q2:=Rd.drop q (k:=lo) (by omega)
 rw [flat_drop hlen,show lo+m-lo=m by omega] at q2
 unfold backA
 rw [if_neg (by omega)]
 simpa [addr_add] using q2
theorem go_slot {todo:List It} (t:Nat) (x y:SV) (hx:st.fr[t]? = some x) (hno:x.isNo=false) (hxy:x.den=y.den) (hy:∀ β,y.good β) (h:Go P E todo ⟨st.fr.set t y,st.res,st.ro⟩ Q):Go P E todo st Q:=fun a w hR=>by
 refine h a w ⟨⟨by simp [hR.fr.size],fun i z hz=>?_,fun z hz=>?_,hR.fr.defers⟩,hR.res⟩
 · rw [List.getElem?_set] at hz
   split at hz
   · rename_i e
     subst e
     split at hz
     · cases hz
       have h1:=SV.den_of_is (hR.fr.is _ _ hx) (fun e=>by rw [e] at hno;cases hno)
       rw [h1,hxy]
       exact SV.is_den _
     cases hz
   exact hR.fr.is i z hz
 rcases List.mem_or_eq_of_mem_set hz with hz | rfl
 · exact hR.fr.good z hz
 exact hy _
end
open Go
theorem Row.cap {e sz n c:Nat} {A:Option Addr} {cs:List Value} {h:Hp} (p:(Row e sz A n c cs).holds h):n≤c:=by
 rcases p.2.2 with ⟨_,h,_⟩ | ⟨_,_,_,_,h,_⟩<;>omega
theorem move_star {A B:Asn} {h:Hp} (q:Asn.starH [A,B] h):Asn.starH ([Res.fact B,Res.dead none].map Res.asn) h:=by
 obtain ⟨_,h2,_,_,b,_,q⟩:=q
 exact ⟨h2,Hp.emp,Hp.dis_emp _,b,Hp.emp_le _,starH_one.1 q,starH_one.2 trivial⟩
theorem Triple.ofRow {P:Program} {f:FuncId} {args:List Value} {M:List Asn} {X:Type} {ret:X→Value} {good:X→Prop} {post:X→List Asn} {sz n:Nat} {A:Option Addr} {cs:List Value} (e c:Nat) (t:Triple P f args M [Rd sz A n cs] X ret good post):Triple P f args M [Row e sz A n c cs] X ret good post :=
 t.reads fun _ hX=>by
  rw [List.mem_singleton.1 hX]
  exact ⟨_,List.mem_singleton.2 rfl,fun _ q=>Row.rd q⟩
section
variable {P:Program} {T:Tbs} {E:Entry} {Q:Exit→St→Prop} {ops:Array Oper} {l:List Oper} {r:List It} {st:St} {α:Type} {enc:α→List Value}
theorem R_slot {t:Nat} {x y:SV} {a:Act} {w:World} (hx:st.fr[t]? = some x) (hno:x.isNo=false) (hxy:x.den=y.den) (hy:∀ β,y.good β) (hR:R E st a w):R E ⟨st.fr.set t y,st.res,st.ro⟩ a w:=by
 refine ⟨⟨by simp [hR.fr.size],fun i z hz=>?_,fun z hz=>?_,hR.fr.defers⟩,hR.res⟩
 · rw [List.getElem?_set] at hz
   split at hz
   · rename_i e
     subst e
     split at hz
     · cases hz
       have h1:=SV.den_of_is (hR.fr.is _ _ hx) (fun e=>by rw [e] at hno;cases hno)
       rw [h1,hxy]
       exact SV.is_den _
     cases hz
   exact hR.fr.is i z hz
 rcases List.mem_or_eq_of_mem_set hz with hz | rfl
 · exact hR.fr.good z hz
 exact hy _
theorem ev_slot {r':List It} {Q':Exit→St→Prop} {ι:Type} {I:ι→St} {Pre:ι→Prop} {m:ι→Nat} {i0:ι} (t:Nat) (x y:SV) (hx:st.fr[t]? = some x) (hno:x.isNo=false) (hxy:x.den=y.den) (hy:∀ β,y.good β)
 (h:outSat P E (Round P E r' Q' I Pre m i0) (.fin .normal ⟨st.fr.set t y,st.res,st.ro⟩)):outSat P E (Round P E r' Q' I Pre m i0) (.fin .normal st):=fun a w hR=>by
 have g:Round P E r' Q' I Pre m i0 .normal ⟨st.fr.set t y,st.res,st.ro⟩:=h
 exact g a w (R_slot hx hno hxy hy hR)
theorem over_lists {sz o k:Nat} (hlen:∀ x,(enc x).length=sz) {L L2:List α} (h1:o+k≤L.length) (h2:k≤L2.length) (rest:List Value) :
 over (L.flatMap enc++rest) (o*sz) ((L2.take k).flatMap enc)=(L.take o++L2.take k++L.drop (o+k)).flatMap enc++rest:=by
 have hv:((L2.take k).flatMap enc).length=k*sz:=by rw [flat_len hlen,List.length_take,Nat.min_eq_left h2]
 have hl:(L.flatMap enc).length=L.length*sz:=flat_len hlen L
 have m1:(o+k)*sz≤L.length*sz:=Nat.mul_le_mul_right _ h1
 have m2:(o+k)*sz=o*sz+k*sz:=Nat.add_mul _ _ _
 unfold over
 rw [hv,←m2,List.take_append_of_le_length (by omega),List.drop_append_of_le_length (by omega),flat_take hlen,flat_drop hlen]
 simp [List.flatMap_append,List.append_assoc]
theorem backA_at {g mx lo sz:Nat} (h:lo<mx):backA (some ⟨g,0,none⟩) mx lo sz=some ⟨g,lo*sz,none⟩:=by
 unfold backA
 rw [if_neg (by omega)]
 simp [addr_add]
theorem go_copyE (hT:TbsOk P T) {dst:Option Tmp} {dT sT:TypeId} {x y:Operand} {ty:TypeId} {pos:String} {after:Array Edge} {gd:Option (Nat × Bool)} {g n c dl dc sl sc e et sz:Nat} {A1 A2:Option Addr} {B:Asn} (i o k:Nat) (s:Sum Nat Nat) (L L2 L3:List α)
 (hg:guardS ops st.fr ⟨dst,.call { callee:=.builtin .copy,args := #[x,y],argTypes := #[dT,sT] },ty,pos,after,gd⟩ = .run)
 (hx:(ev st.fr x).den = .slice A1 dl dc) (hxno:(ev st.fr x).isNo=false) (hy:(ev st.fr y).den = .slice A2 sl sc) (hyno:(ev st.fr y).isNo=false)
 (ht:(te T.tab dT).map (·.k)=some (.slice et)) (he':(te T.tab et).map (·.size)=some sz) (hpos:0<sz)
 (hi:st.res[i]? = some (.fact (Row e sz (some ⟨g,0,none⟩) n c (L.flatMap enc)))) (hA1:A1=some ⟨g,o*sz,none⟩)
 (hsrc:has st s B) (hB:∀ h,B.holds h→(Rd sz A2 sl (L2.flatMap enc)).holds h) (hlen:∀ x,(enc x).length=sz)
 (hk:k=Nat.min sl dl) (hfit:o+dl≤n) (h3:L.take o++L2.take k++L.drop (o+k)=L3)
 (h:Go P E (.o ops l::r) (St.put ⟨st.fr,st.res.set i (.fact (Row e sz (some ⟨g,0,none⟩) n c (L3.flatMap enc))),st.ro⟩ dst (.va (.int .i64 (k:Nat)))) Q) :
 Go P E (.o ops (⟨dst,.call { callee:=.builtin .copy,args := #[x,y],argTypes := #[dT,sT] },ty,pos,after,gd⟩::l)::r) st Q:=by
 subst h3 hA1
 refine Go.step fun a w hR=>⟨by have:=guard_spec hR.fr (ops:=ops) ⟨dst,.call { callee:=.builtin .copy,args := #[x,y],argTypes := #[dT,sT] },ty,pos,after,gd⟩;rw [hg] at this;exact this,?_⟩
 obtain ⟨hs,hi0,hres⟩:=hR.res
 have hlt:=(List.getElem?_eq_some_iff.1 hi).1
 obtain ⟨r1,r2,r3⟩:=hB _ (has_holds hsrc hres)
 obtain ⟨⟨rest,hl1,h11,hnc,hcm,hrl⟩,hs1,hres1⟩:=place_ghost hres [i] (M:=[Row e sz (some ⟨g,0,none⟩) n c (L.flatMap enc)])
  (X:={rest:List Value // (L.flatMap enc).length=n*sz∧(∀ v∈L.flatMap enc,v.oneCell'=true)∧n≤c∧c≤maxLen∧(L.flatMap enc).length+rest.length=c*sz})
  (fun rest=>[.fact (Blk g e (L.flatMap enc++rest.1))]) (by simp [asnAt_fact hi]) (by simp) (fun hh p=>by
   obtain ⟨p1,p2,p3⟩:=starH_one.1 p
   rcases p3 with ⟨p3,_⟩ | ⟨g',cur,p3,p4,p5,p6,p7,p8⟩
   · cases p3
   cases p3
   refine ⟨⟨cur.toList.drop (n*sz),p1,p2,p5,p6,?_⟩,starH_one.2 ?_⟩
   · have:=Nat.mul_le_mul_right sz p5
     simp only [List.length_drop,Array.length_toList,p7,p1]
     omega
   show hh g=some (.cells (L.flatMap enc++cur.toList.drop (n*sz)).toArray e (0,0))
   rw [p4,←p8,List.take_append_drop,Array.toArray_toList]) (fun _=>newsOk_fact (newsOk_nil _)) (fun _=>by rw [place_one hlt];exact blkLe_set _ hi)
 have hL:L.length=n:=by
  rw [flat_len hlen] at hl1
  exact Nat.eq_of_mul_eq_mul_right hpos hl1
 have hL2:L2.length=sl:=by
  rw [flat_len hlen] at r1
  exact Nat.eq_of_mul_eq_mul_right hpos r1
 have hk1:k≤sl:=by rw [hk];exact Nat.min_le_left _ _
 have hk2:k≤dl:=by rw [hk];exact Nat.min_le_right _ _
 obtain ⟨vs,hvs⟩:∃ vs,vs=(L2.take k).flatMap enc:=⟨_,rfl⟩
 have hvl:vs.length=k*sz:=by rw [hvs,flat_len hlen,List.length_take,Nat.min_eq_left (by omega)]
 have hv1:∀ v∈vs,v.oneCell'=true:=fun v hv=>by
  rw [hvs] at hv
  obtain ⟨z,hz,hv⟩:=List.mem_flatMap.1 hv
  exact r2 v (List.mem_flatMap.2 ⟨z,List.mem_of_mem_take hz,hv⟩)
 have hov:=over_lists (enc:=enc) (L:=L) (L2:=L2) (o:=o) (k:=k) hlen (by omega) (by omega) rest
 rw [←hvs] at hov
 dsimp only at hres1
 rw [place_one hlt] at hres1
 have hi2:=set_fact hi (.fact (Blk g e (L.flatMap enc++rest)))
 have hlt2:=(List.getElem?_eq_some_iff.1 hi2).1
 obtain ⟨hw,hs2,hres2⟩:=write_res hres1 i g e (L.flatMap enc++rest) ((L.take o++L2.take k++L.drop (o+k)).flatMap enc++rest) (asnAt_fact hi2) (by rw [place_one hlt2];exact blkLe_set _ hi2)
 rw [place_one hlt2,List.set_set] at hres2
 have hi3:=set_fact hi (.fact (Blk g e ((L.take o++L2.take k++L.drop (o+k)).flatMap enc++rest)))
 have hlt3:=(List.getElem?_eq_some_iff.1 hi3).1
 have hl3:((L.take o++L2.take k++L.drop (o+k)).flatMap enc).length=n*sz:=by
  rw [flat_len hlen]
  congr 1
  simp only [List.length_append,List.length_take,List.length_drop]
  omega
 obtain ⟨_,hs3,hres3⟩:=place_ghost hres2 [i] (M:=[Blk g e ((L.take o++L2.take k++L.drop (o+k)).flatMap enc++rest)]) (X:=Unit)
  (fun _=>[.fact (Row e sz (some ⟨g,0,none⟩) n c ((L.take o++L2.take k++L.drop (o+k)).flatMap enc))]) (congrArg (fun x=>[x]) (asnAt_fact hi3)) (by simp) (fun hh p=>⟨(),starH_one.2 (Row.close (starH_one.1 p) hl3 (fun v hv=>by
   obtain ⟨z,hz,hv⟩:=List.mem_flatMap.1 hv
   rcases List.mem_append.1 hz with hz | hz
   · rcases List.mem_append.1 hz with hz | hz
     · exact h11 v (List.mem_flatMap.2 ⟨z,List.mem_of_mem_take hz,hv⟩)
     exact r2 v (List.mem_flatMap.2 ⟨z,List.mem_of_mem_take hz,hv⟩)
   exact h11 v (List.mem_flatMap.2 ⟨z,List.mem_of_mem_drop hz,hv⟩)) hnc hcm (by rw [hl3,←hl1];exact hrl))⟩) (fun _=>newsOk_fact (newsOk_nil _)) (fun _=>by rw [place_one hlt3];exact blkLe_set _ hi3)
 rw [place_one hlt3,List.set_set] at hres3
 have hR':R E ⟨st.fr,st.res.set i (.fact (Row e sz (some ⟨g,0,none⟩) n c ((L.take o++L2.take k++L.drop (o+k)).flatMap enc))),st.ro⟩ a (w.setRow g ((L.take o++L2.take k++L.drop (o+k)).flatMap enc++rest).toArray):=⟨hR.fr.mono (blkLe_spec (blkLe_set _ hi)),hs3,hi0,hres3⟩
 refine wp_value (w':=w.setRow g ((L.take o++L2.take k++L.drop (o+k)).flatMap enc++rest).toArray) (v:=.int .i64 (k:Nat)) ?_ (h _ _ (hR'.put dst (SV.is_den (.va (.int .i64 (k:Nat)))) trivial))
 obtain ⟨e1,he1,hsz⟩:∃ e,te T.tab et=some e∧e.size=sz:=by
  cases hq:te T.tab et with
  | none=>rw [hq] at he';cases he'
  | some e=>rw [hq] at he';exact ⟨e,rfl,by simpa using he'⟩
 subst hsz
 cases htt:te T.tab dT with
 | none=>rw [htt] at ht;cases ht
 |
  some et' =>
  rw [htt] at ht
  simp at ht
  obtain ⟨ii,u,zz,hii,hu,hz',hk',_⟩:=te_spec hT.tab htt
  obtain ⟨i2,u2,z2,hi2',hu2,hz2,hk2',hs2',_⟩:=te_spec hT.tab he1
  rw [ht] at hk'
  cases u<;>simp [tkOf] at hk'
  subst hk'
  have hrun:=run_copy_rows (P:=P) w dT sT ty et g (o*e1.size) dl dc A2 sl sc e1.size (L.flatMap enc++rest).toArray e vs hu (by rw [hi2'];simp [hs2']) hw (by rw [hvl,hk]) (by
   rcases Nat.eq_zero_or_pos sl with h0 | h0
   · cases A2 with
     | none=>exact .inl ⟨rfl,h0⟩
     | some a2=>exact .inr ⟨a2,rfl,fun j v hj=>by
      rw [List.eq_nil_of_length_eq_zero (show vs.length=0 by rw [hvl,show k=0 by omega,Nat.zero_mul])] at hj
      cases hj⟩
   obtain ⟨g2,o2,cur2,e2,fz,q1,q2,q3⟩:=r3 h0
   refine .inr ⟨_,q1,fun j v hj=>?_⟩
   have q4:w.heap[g2]? = some (.cells cur2 e2 fz):=q2
   rw [addr_add,cell_of_row w g2 _ _ e2 _ q4]
   have q5:vs=(cur2.toList.drop o2).take (k*e1.size):=by
    rw [hvs,←flat_take hlen,←q3,List.take_take,Nat.min_eq_left (Nat.mul_le_mul_right _ hk1)]
   rw [q5,List.getElem?_take] at hj
   split at hj
   · rw [List.getElem?_drop] at hj
     simpa using hj
   cases hj) (by simp only [List.size_toArray,List.length_append];rw [hvl,hl1,←Nat.add_mul];have:=Nat.mul_le_mul_right e1.size (show o+k≤n by omega);omega) hv1
  rw [show over (L.flatMap enc++rest).toArray.toList (o*e1.size) vs=(L.take o++L2.take k++L.drop (o+k)).flatMap enc++rest from hov] at hrun
  simp [execOp,resolve,invoke,builtin,SV.den_of_is (ev_is hR.fr x) (fun e=>by rw [e] at hxno;cases hxno),SV.den_of_is (ev_is hR.fr y) (fun e=>by rw [e] at hyno;cases hyno),hx,hy,hrun,←hk]
end
section
variable {P:Program} {T:Tbs} {E:Entry} {Q:Exit→St→Prop} {ops:Array Oper} {l:List Oper} {r:List It} {st:St} {α:Type} {enc:α→List Value}
theorem go_cap (hT:TbsOk P T) {dst:Option Tmp} {t:TypeId} {x:Operand} {ty:TypeId} {pos:String} {after:Array Edge} {gd:Option (Nat × Bool)} {A:Option Addr} {n c et:Nat}
 (hg:guardS ops st.fr ⟨dst,.call { callee:=.builtin .cap,args := #[x],argTypes := #[t] },ty,pos,after,gd⟩ = .run) (hx:(ev st.fr x).den = .slice A n c) (hxno:(ev st.fr x).isNo=false)
 (ht:(te T.tab t).map (·.k)=some (.slice et))
 (h:Go P E (.o ops l::r) (st.put dst (.va (.int .i64 (c:Nat)))) Q):Go P E (.o ops (⟨dst,.call { callee:=.builtin .cap,args := #[x],argTypes := #[t] },ty,pos,after,gd⟩::l)::r) st Q :=
 go_val (o:=⟨dst,.call { callee:=.builtin .cap,args := #[x],argTypes := #[t] },ty,pos,after,gd⟩) hg (.va (.int .i64 (c:Nat))) trivial (fun a w hR=>by
  cases htt:te T.tab t with
  | none=>rw [htt] at ht;cases ht
  |
   some et' =>
   rw [htt] at ht
   simp at ht
   obtain ⟨ii,u,zz,hii,hu,hz',hk,_⟩:=te_spec hT.tab htt
   rw [ht] at hk
   cases u<;>simp [tkOf] at hk
   simp [execOp,resolve,invoke,builtin,Builtin.cap_,SV.den_of_is (ev_is hR.fr x) (fun e=>by rw [e] at hxno;cases hxno),hx,run_underlying hu,goInt,SV.den]) h
theorem made_flat {z:Array Value} {sz c:Nat} (hz:z.size=sz):(madeCells z (c*sz)).toList=(List.replicate c ()).flatMap fun _=>z.toList:=by
 apply List.ext_getElem?
 intro k
 rw [Array.getElem?_toList]
 have hL:((List.replicate c ()).flatMap fun _=>z.toList).length=c*sz:=by
  rw [flat_len (sz:=sz) (fun _=>by simp [hz])];simp
 rcases Nat.lt_or_ge k (c*sz) with hk | hk
 · have hp:0<sz:=by
    rcases Nat.eq_zero_or_pos sz with h0 | h0
    · rw [h0] at hk;simp at hk
    exact h0
   have hq:k / sz<c:=by
    rw [Nat.div_lt_iff_lt_mul hp];exact hk
   have hm:k % sz<z.size:=by rw [hz];exact Nat.mod_lt _ hp
   have h1:=flat_drop (enc:=fun _:Unit=>z.toList) (sz:=sz) (fun _=>by simp [hz]) (List.replicate c ()) (k / sz)
   have h2:(((List.replicate c ()).flatMap fun _=>z.toList).drop (k / sz*sz))[k % sz]? = z[k % sz]? := by
    rw [h1,List.drop_replicate]
    obtain ⟨q,hq'⟩:∃ q,c-k / sz=q+1:=⟨c-k / sz-1,by omega⟩
    rw [hq',List.replicate_succ,List.flatMap_cons,List.getElem?_append_left (by simpa using hm),Array.getElem?_toList]
   rw [List.getElem?_drop,Nat.div_add_mod'] at h2
   rw [h2,madeCells,Array.getElem?_map,Array.getElem?_eq_getElem (by simpa using hk),Array.getElem?_eq_getElem hm]
   simp only [Option.map_some,Array.getElem_range,hz]
   rw [getElem!_pos _ _ (by rw [←hz] at *;exact hm)]
 rw [Array.getElem?_eq_none (by simpa [madeCells] using hk),List.getElem?_eq_none (by rw [hL];exact hk)]
theorem zero_made (z:Array Value) (n:Nat):Builtin.zeroCells z n=madeCells z (n*z.size):=rfl
theorem run_append_zeros (w:World) (t tn ty e:TypeId) (i:TypeInfo) (z:Value) (k kn:IntKind) (ht:P.underlying t=some (.slice e)) (htn:P.underlying tn=some (.int kn)) (hi:P.info? e=some i) (hz:i.zero=some z)
 (A:Option Addr) (n c q:Nat) (old:List Value) (hold:old.length=n*i.size) (hsrc:A=none∧n=0∨∃ a,A=some a∧∀ j v,old[j]? = some v→w.cell? (a.add j)=some v)
 (hq:0<q) (hneed:c<n+q) (hs:0<i.size) (h63:n+q≤maxLen) (h48:(n+q)*i.bytes≤140737488355328) :
 (Builtin.append_ #[t,tn] ty #[.slice A n c,.int k (q:Int)]).run P w =
  .ok (.slice (some ⟨w.heap.size,0,none⟩) (n+q) (grownCap w (n+q) c e)) (w.drew.alloc (.cells (old.toArray++Builtin.zeroCells z.cells q++Builtin.zeroCells z.cells (grownCap w (n+q) c e-(n+q))) e)):=by
 have hm:maxLen=9223372036854775807:=rfl
 rw [hm] at h63
 have hw:IntKind.i64.wrap (q:Int)=q:=by rw [IntKind.wrap_i64];omega
 have h63':¬ (9223372036854775807<(n:Int)+(q:Int)):=by omega
 have h48a:=growslice_fits (bytes:=i.bytes) hneed h48
 have h48':¬ (281474976710656<Builtin.nextslicecap (n+q) c*i.bytes):=by omega
 have h48i:¬ (281474976710656<(q:Int)*(i.bytes:Int)):=by
  rw [←Int.natCast_mul]
  have:q*i.bytes≤(n+q)*i.bytes:=Nat.mul_le_mul_right _ (by omega)
  omega
 have hneg:¬ ((q:Int)<0):=by omega
 have hns:¬ (q*i.size=0):=Nat.mul_ne_zero (by omega) (by omega)
 have hfit:¬ (n+q≤c):=by omega
 have hold':∀ W,(∀ x,W.cell? x=w.cell? x)→(Builtin.firstCells i.size n (.slice A n c)).run P W = .ok old.toArray W:=fun W hW=>by
  rcases hsrc with ⟨rfl,h0⟩ | ⟨a,rfl,h1⟩
  · subst h0
    have:old=[]:=List.eq_nil_of_length_eq_zero (by simpa using hold)
    subst this
    simp [Builtin.firstCells]
  have:=run_loadCells_list (P:=P) W a old (fun j v hj=>by rw [hW];exact h1 j v hj)
  rw [hold] at this
  simp [Builtin.firstCells,this]
 simp [Builtin.append_,run_underlying ht,run_underlying htn,sizeOf,typeInfo,zeroValue,hi,hz,asInt,asIntOf,hw,hneg,hns,h63',h48',h48i,hfit,Question.forced,hold' w.drew (fun _=>rfl),newRow,grownCap]
theorem flat_unit {z:α} {zs:List Value} (hz:enc z=zs) (q:Nat):(List.replicate q z).flatMap enc=(List.replicate q ()).flatMap fun _=>zs:=by
 induction q with
 | zero=>rfl
 | succ q ih=>rw [List.replicate_succ,List.replicate_succ,List.flatMap_cons,List.flatMap_cons,ih,hz]
theorem go_appendZ (hT:TbsOk P T) {dst:Option Tmp} {s x:Operand} {t tn ty:TypeId} {pos:String} {after:Array Edge} {gd:Option (Nat × Bool)} {A:Option Addr} {n c q:Nat} {k kn:IntKind} {zq:Int} {et sz bts:Nat} {zs:List Value} {B:Asn} (src:Sum Nat Nat) (L L3:List α) (z:α) (n':Nat)
 (hg:guardS ops st.fr ⟨dst,.call { callee:=.builtin .append,args := #[s,x],argTypes := #[t,tn] },ty,pos,after,gd⟩ = .run)
 (hs:(ev st.fr s).den = .slice A n c) (hsno:(ev st.fr s).isNo=false) (hx:ev st.fr x = .va (.int k zq)) (hzq:zq=(q:Int))
 (ht:(te T.tab t).map (·.k)=some (.slice et)) (htn:(te T.tab tn).map (·.k)=some (.int kn)) (he':(te T.tab et).map (fun e=>(e.size,e.bytes,e.zero))=some (sz,bts,zs)) (hpos:0<sz) (hlen:∀ x,(enc x).length=sz) (hz:enc z=zs) (hzone:zs.all Value.oneCell'=true)
 (hsrc:has st src B) (hB:∀ h,B.holds h→(Rd sz A n (L.flatMap enc)).holds h) (hq:0<q) (hneed:c<n+q)
 (h3:L++List.replicate q z=L3) (hn':n'=n+q) (hmax:n+q≤maxLen) (hbytes:(n+q)*bts≤140737488355328)
 (hb:∀ b c2,blkLe st.res (place st.res [] [.fact (Row et sz (some ⟨b,0,none⟩) n' c2 (L3.flatMap enc))]))
 (h:∀ b c2,n'≤c2→Go P E (.o ops l::r) (St.put ⟨st.fr,place st.res [] [.fact (Row et sz (some ⟨b,0,none⟩) n' c2 (L3.flatMap enc))],st.ro⟩ dst (.va (.slice (some ⟨b,0,none⟩) n' c2))) Q) :
 Go P E (.o ops (⟨dst,.call { callee:=.builtin .append,args := #[s,x],argTypes := #[t,tn] },ty,pos,after,gd⟩::l)::r) st Q:=by
 subst h3 hn' hzq
 obtain ⟨e,he,hsz,hbts,hzz⟩:∃ e,te T.tab et=some e∧e.size=sz∧e.bytes=bts∧e.zero=zs:=by
  cases hq:te T.tab et with
  | none=>rw [hq] at he';cases he'
  |
   some e =>
   rw [hq] at he'
   simp only [Option.map_some,Option.some.injEq,Prod.mk.injEq] at he'
   exact ⟨e,rfl,he'.1,he'.2.1,he'.2.2⟩
 subst hsz hbts hzz
 refine Go.step fun a w hR=>⟨by have:=guard_spec hR.fr (ops:=ops) ⟨dst,.call { callee:=.builtin .append,args := #[s,x],argTypes := #[t,tn] },ty,pos,after,gd⟩;rw [hg] at this;exact this,?_⟩
 obtain ⟨hs',hi',hres⟩:=hR.res
 obtain ⟨r1,r2,r3⟩:=hB _ (has_holds hsrc hres)
 cases htt:te T.tab t with
 | none=>rw [htt] at ht;cases ht
 | some et' =>
 cases htn2:te T.tab tn with
 | none=>rw [htn2] at htn;cases htn
 |
  some etn =>
  rw [htt] at ht
  simp at ht
  rw [htn2] at htn
  simp at htn
  obtain ⟨ii,u,zz,hii,hu,hz',hk,_⟩:=te_spec hT.tab htt
  obtain ⟨ii3,u3,zz3,hii3,hu3,hz3',hk3,_⟩:=te_spec hT.tab htn2
  obtain ⟨i2,u2,zv,hi2,hu2,hzv,hk2,hs2,hb2,hz2'⟩:=te_spec hT.tab he
  rw [ht] at hk
  cases u<;>simp [tkOf] at hk
  subst hk
  rw [htn] at hk3
  cases u3<;>simp [tkOf] at hk3
  subst hk3
  have hzl:zv.cells.size=e.size:=by
   have:=hlen z
   rw [hz,hz2'] at this
   simpa using this
  have hrun:=run_append_zeros (P:=P) w t tn ty et i2 zv k kn hu hu3 hi2 hzv A n c q (L.flatMap enc) (by rw [←hs2];exact r1) (by
   rcases Nat.eq_zero_or_pos n with h0 | h0
   · cases A with
     | none=>exact .inl ⟨rfl,h0⟩
     | some a2=>exact .inr ⟨a2,rfl,fun j v hj=>by
      rw [List.eq_nil_of_length_eq_zero (show (L.flatMap enc).length=0 by rw [r1,h0,Nat.zero_mul])] at hj
      cases hj⟩
   obtain ⟨g2,o2,cur2,e2,fz,q1,q2,q3⟩:=r3 h0
   refine .inr ⟨_,q1,fun j v hj=>?_⟩
   have q4:w.heap[g2]? = some (.cells cur2 e2 fz):=q2
   rw [addr_add,cell_of_row w g2 _ _ e2 _ q4]
   rw [←q3,List.getElem?_take] at hj
   split at hj
   · rw [List.getElem?_drop] at hj
     simpa using hj
   cases hj) hq hneed (by rw [←hs2];exact hpos) hmax (by rw [←hb2];exact hbytes)
  obtain ⟨C,hC⟩:∃ C,C=grownCap w (n+q) c et:=⟨_,rfl⟩
  have hC1:n+q≤C:=by rw [hC];exact grownCap_ge w _ _ _
  have hC2:C≤maxLen:=by rw [hC];exact grownCap_le_maxLen w _ _ _ hmax
  rw [←hC] at hrun
  have hcells:((L.flatMap enc).toArray++Builtin.zeroCells zv.cells q++Builtin.zeroCells zv.cells (C-(n+q))).toList=(L++List.replicate q z).flatMap enc++(List.replicate (C-(n+q)) ()).flatMap (fun _=>e.zero):=by
   rw [Array.toList_append,Array.toList_append,zero_made,zero_made,hzl,made_flat hzl,made_flat hzl,List.flatMap_append,flat_unit hz,hz2']
  have hlL:((L++List.replicate q z).flatMap enc).length=(n+q)*e.size:=by
   rw [List.flatMap_append,List.length_append,r1,flat_len hlen,List.length_replicate,Nat.add_mul]
  have hR2:=place_ok hres [] Hp.emp (fun b hb=>absurd rfl hb) [.fact (Row et e.size (some ⟨w.heap.size,0,none⟩) (n+q) C ((L++List.replicate q z).flatMap enc))] (Hp.one w.heap.size (.cells ((L.flatMap enc).toArray++Builtin.zeroCells zv.cells q++Builtin.zeroCells zv.cells (C-(n+q))) et)) ?_ (Hp.one_le (hp_alloc w.drew _)) ((⟨rfl,rfl,rfl,Nat.le_refl _,fun _ _ _=>rfl⟩:Ext Hp.emp w w.drew).trans (Ext.alloc w.drew _)) (fun b hb'=>?_) (newsOk_fact (newsOk_nil _)) (hb _ _)
  · obtain ⟨hs2',hres2⟩:=hR2
    refine wp_value (v:=.slice (some ⟨w.heap.size,0,none⟩) (n+q) C) (w':=w.drew.alloc (.cells ((L.flatMap enc).toArray++Builtin.zeroCells zv.cells q++Builtin.zeroCells zv.cells (C-(n+q))) et)) ?_ (h w.heap.size C hC1 _ _ ?_)
    · have h1:a.eval x = .int k (q:Int):=by rw [ev_denv hR.fr hx rfl];rfl
      simp [execOp,resolve,invoke,builtin,SV.den_of_is (ev_is hR.fr s) (fun e=>by rw [e] at hsno;cases hsno),hs,h1,hrun]
    have hR':R E ⟨st.fr,place st.res [] [.fact (Row et e.size (some ⟨w.heap.size,0,none⟩) (n+q) C ((L++List.replicate q z).flatMap enc))],st.ro⟩ a (w.drew.alloc (.cells ((L.flatMap enc).toArray++Builtin.zeroCells zv.cells q++Builtin.zeroCells zv.cells (C-(n+q))) et)):=⟨hR.fr.mono (blkLe_spec (hb _ _)),hs2',hi',hres2⟩
    exact hR'.put dst (x:=.va (.slice (some ⟨w.heap.size,0,none⟩) (n+q) C)) rfl trivial
  · refine starH_one.2 ⟨hlL,fun v hv=>?_,.inr ⟨w.heap.size,_,rfl,Hp.one_self _ _,hC1,hC2,?_,?_⟩⟩
    · rw [List.flatMap_append] at hv
      rcases List.mem_append.1 hv with hv | hv
      · exact r2 v hv
      rw [flat_unit hz] at hv
      obtain ⟨_,_,hv⟩:=List.mem_flatMap.1 hv
      exact List.all_eq_true.1 hzone v hv
    · rw [←Array.length_toList,hcells,List.length_append,hlL,flat_len (sz:=e.size) (fun _=>by rw [←hz];exact hlen z),List.length_replicate,←Nat.add_mul]
      congr 1
      omega
    rw [hcells,←hlL,List.take_append_of_le_length (Nat.le_refl _),List.take_length]
  right
  by_cases e:b=w.heap.size
  · omega
  exact absurd (Hp.one_none e) hb'
theorem go_copyX (hT:TbsOk P T) {dst:Option Tmp} {dT sT:TypeId} {x y:Operand} {ty:TypeId} {pos:String} {after:Array Edge} {gd:Option (Nat × Bool)} {g n c dl dc sl sc e et sz:Nat} {A1 A2:Option Addr} {B:Asn} (i o k:Nat) (s:Sum Nat Nat) (L L2 L3:List α)
 (hg:guardS ops st.fr ⟨dst,.call { callee:=.builtin .copy,args := #[x,y],argTypes := #[dT,sT] },ty,pos,after,gd⟩ = .run)
 (hx:(ev st.fr x).den = .slice A1 dl dc) (hxno:(ev st.fr x).isNo=false) (hy:(ev st.fr y).den = .slice A2 sl sc) (hyno:(ev st.fr y).isNo=false)
 (ht:(te T.tab dT).map (·.k)=some (.slice et)) (he':(te T.tab et).map (·.size)=some sz) (hpos:0<sz)
 (hi:st.res[i]? = some (.fact (Row e sz (some ⟨g,0,none⟩) n c (L.flatMap enc)))) (hA1:A1=some ⟨g,o*sz,none⟩)
 (hsrc:has st s B) (hB:∀ h,B.holds h→(Rd sz A2 k (L2.flatMap enc)).holds h) (hlen:∀ x,(enc x).length=sz)
 (hk:k=Nat.min sl dl) (h0k:0<k) (ho:o≤n) (hover:n≤o+k) (hfit:o+k≤c) (n':Nat) (hn':n'=o+k) (h3:L.take o++L2=L3)
 (h:Go P E (.o ops l::r) (St.put ⟨st.fr,st.res.set i (.fact (Row e sz (some ⟨g,0,none⟩) n' c (L3.flatMap enc))),st.ro⟩ dst (.va (.int .i64 (k:Nat)))) Q) :
 Go P E (.o ops (⟨dst,.call { callee:=.builtin .copy,args := #[x,y],argTypes := #[dT,sT] },ty,pos,after,gd⟩::l)::r) st Q:=by
 subst h3 hA1 hn'
 refine Go.step fun a w hR=>⟨by have:=guard_spec hR.fr (ops:=ops) ⟨dst,.call { callee:=.builtin .copy,args := #[x,y],argTypes := #[dT,sT] },ty,pos,after,gd⟩;rw [hg] at this;exact this,?_⟩
 obtain ⟨hs,hi0,hres⟩:=hR.res
 have hlt:=(List.getElem?_eq_some_iff.1 hi).1
 obtain ⟨r1,r2,r3⟩:=hB _ (has_holds hsrc hres)
 obtain ⟨⟨rest,hl1,h11,hnc,hcm,hrl⟩,hs1,hres1⟩:=place_ghost hres [i] (M:=[Row e sz (some ⟨g,0,none⟩) n c (L.flatMap enc)])
  (X:={rest:List Value // (L.flatMap enc).length=n*sz∧(∀ v∈L.flatMap enc,v.oneCell'=true)∧n≤c∧c≤maxLen∧(L.flatMap enc).length+rest.length=c*sz})
  (fun rest=>[.fact (Blk g e (L.flatMap enc++rest.1))]) (by simp [asnAt_fact hi]) (by simp) (fun hh p=>by
   obtain ⟨p1,p2,p3⟩:=starH_one.1 p
   rcases p3 with ⟨p3,_⟩ | ⟨g',cur,p3,p4,p5,p6,p7,p8⟩
   · cases p3
   cases p3
   refine ⟨⟨cur.toList.drop (n*sz),p1,p2,p5,p6,?_⟩,starH_one.2 ?_⟩
   · have:=Nat.mul_le_mul_right sz p5
     simp only [List.length_drop,Array.length_toList,p7,p1]
     omega
   show hh g=some (.cells (L.flatMap enc++cur.toList.drop (n*sz)).toArray e (0,0))
   rw [p4,←p8,List.take_append_drop,Array.toArray_toList]) (fun _=>newsOk_fact (newsOk_nil _)) (fun _=>by rw [place_one hlt];exact blkLe_set _ hi)
 have hL:L.length=n:=by
  rw [flat_len hlen] at hl1
  exact Nat.eq_of_mul_eq_mul_right hpos hl1
 have hL2:L2.length=k:=by
  rw [flat_len hlen] at r1
  exact Nat.eq_of_mul_eq_mul_right hpos r1
 have hk1:k≤sl:=by rw [hk];exact Nat.min_le_left _ _
 have hk2:k≤dl:=by rw [hk];exact Nat.min_le_right _ _
 obtain ⟨vs,hvs⟩:∃ vs,vs=L2.flatMap enc:=⟨_,rfl⟩
 have hvl:vs.length=k*sz:=by rw [hvs,flat_len hlen,hL2]
 have hv1:∀ v∈vs,v.oneCell'=true:=fun v hv=>by
  rw [hvs] at hv
  exact r2 v hv
 obtain ⟨rest2,hrest2⟩:∃ x,x=rest.drop ((o+k-n)*sz):=⟨_,rfl⟩
 have hov:over (L.flatMap enc++rest) (o*sz) vs=(L.take o++L2).flatMap enc++rest2:=by
  have m2:(o+k)*sz=o*sz+k*sz:=Nat.add_mul _ _ _
  have m3:o*sz≤n*sz:=Nat.mul_le_mul_right _ ho
  have m4:(o+k-n)*sz=(o+k)*sz-n*sz:=Nat.sub_mul _ _ _
  have m5:n*sz≤(o+k)*sz:=Nat.mul_le_mul_right _ hover
  unfold over
  rw [hvl,←m2,List.take_append_of_le_length (by omega),flat_take hlen,List.drop_append,List.drop_of_length_le (by omega),hvs,hrest2,hl1,m4,List.flatMap_append]
  rfl
 dsimp only at hres1
 rw [place_one hlt] at hres1
 have hi2:=set_fact hi (.fact (Blk g e (L.flatMap enc++rest)))
 have hlt2:=(List.getElem?_eq_some_iff.1 hi2).1
 obtain ⟨hw,hs2,hres2⟩:=write_res hres1 i g e (L.flatMap enc++rest) ((L.take o++L2).flatMap enc++rest2) (asnAt_fact hi2) (by rw [place_one hlt2];exact blkLe_set _ hi2)
 rw [place_one hlt2,List.set_set] at hres2
 have hi3:=set_fact hi (.fact (Blk g e ((L.take o++L2).flatMap enc++rest2)))
 have hlt3:=(List.getElem?_eq_some_iff.1 hi3).1
 have hl3:((L.take o++L2).flatMap enc).length=(o+k)*sz:=by
  rw [flat_len hlen]
  congr 1
  simp only [List.length_append,List.length_take]
  omega
 have hrl3:((L.take o++L2).flatMap enc).length+rest2.length=c*sz:=by
  have m3:(o+k)*sz≤c*sz:=Nat.mul_le_mul_right _ hfit
  have m4:(o+k-n)*sz=(o+k)*sz-n*sz:=Nat.sub_mul _ _ _
  have m5:n*sz≤(o+k)*sz:=Nat.mul_le_mul_right _ hover
  rw [hl3,hrest2,List.length_drop,m4]
  omega
 obtain ⟨_,hs3,hres3⟩:=place_ghost hres2 [i] (M:=[Blk g e ((L.take o++L2).flatMap enc++rest2)]) (X:=Unit)
  (fun _=>[.fact (Row e sz (some ⟨g,0,none⟩) (o+k) c ((L.take o++L2).flatMap enc))]) (congrArg (fun x=>[x]) (asnAt_fact hi3)) (by simp) (fun hh p=>⟨(),starH_one.2 (Row.close (starH_one.1 p) hl3 (fun v hv=>by
   obtain ⟨z,hz,hv⟩:=List.mem_flatMap.1 hv
   rcases List.mem_append.1 hz with hz | hz
   · exact h11 v (List.mem_flatMap.2 ⟨z,List.mem_of_mem_take hz,hv⟩)
   exact r2 v (List.mem_flatMap.2 ⟨z,hz,hv⟩)) hfit hcm hrl3)⟩) (fun _=>newsOk_fact (newsOk_nil _)) (fun _=>by rw [place_one hlt3];exact blkLe_set _ hi3)
 rw [place_one hlt3,List.set_set] at hres3
 have hR':R E ⟨st.fr,st.res.set i (.fact (Row e sz (some ⟨g,0,none⟩) (o+k) c ((L.take o++L2).flatMap enc))),st.ro⟩ a (w.setRow g ((L.take o++L2).flatMap enc++rest2).toArray):=⟨hR.fr.mono (blkLe_spec (blkLe_set _ hi)),hs3,hi0,hres3⟩
 refine wp_value (w':=w.setRow g ((L.take o++L2).flatMap enc++rest2).toArray) (v:=.int .i64 (k:Nat)) ?_ (h _ _ (hR'.put dst (SV.is_den (.va (.int .i64 (k:Nat)))) trivial))
 obtain ⟨e1,he1,hsz⟩:∃ e,te T.tab et=some e∧e.size=sz:=by
  cases hq:te T.tab et with
  | none=>rw [hq] at he';cases he'
  | some e=>rw [hq] at he';exact ⟨e,rfl,by simpa using he'⟩
 subst hsz
 cases htt:te T.tab dT with
 | none=>rw [htt] at ht;cases ht
 |
  some et' =>
  rw [htt] at ht
  simp at ht
  obtain ⟨ii,u,zz,hii,hu,hz',hk',_⟩:=te_spec hT.tab htt
  obtain ⟨i2,u2,z2,hi2',hu2,hz2,hk2',hs2',_⟩:=te_spec hT.tab he1
  rw [ht] at hk'
  cases u<;>simp [tkOf] at hk'
  subst hk'
  have hrun:=run_copy_rows (P:=P) w dT sT ty et g (o*e1.size) dl dc A2 sl sc e1.size (L.flatMap enc++rest).toArray e vs hu (by rw [hi2'];simp [hs2']) hw (by rw [hvl,hk]) (by
   obtain ⟨g2,o2,cur2,e2,fz,q1,q2,q3⟩:=r3 h0k
   refine .inr ⟨_,q1,fun j v hj=>?_⟩
   have q4:w.heap[g2]? = some (.cells cur2 e2 fz):=q2
   rw [addr_add,cell_of_row w g2 _ _ e2 _ q4]
   have q5:vs=(cur2.toList.drop o2).take (k*e1.size):=by
    rw [hvs,←q3]
   rw [q5,List.getElem?_take] at hj
   split at hj
   · rw [List.getElem?_drop] at hj
     simpa using hj
   cases hj) (by simp only [List.size_toArray,List.length_append];rw [hvl,hrl,←Nat.add_mul];exact Nat.mul_le_mul_right e1.size hfit) hv1
  rw [show over (L.flatMap enc++rest).toArray.toList (o*e1.size) vs=(L.take o++L2).flatMap enc++rest2 from hov] at hrun
  simp [execOp,resolve,invoke,builtin,SV.den_of_is (ev_is hR.fr x) (fun e=>by rw [e] at hxno;cases hxno),SV.den_of_is (ev_is hR.fr y) (fun e=>by rw [e] at hyno;cases hyno),hx,hy,hrun,←hk]
theorem go_ext {dst:Option Tmp} {f:FuncId} {fn:Func} {e:Array Value→Sem Value} {args:Array Operand} {ts:Array TypeId} {ty:TypeId} {pos:String} {after:Array Edge} {gd:Option (Nat × Bool)}
 (hf:P.funcs[f]? = some fn) (hname:(fn.name == "runtime.NumGoroutine")=false) (hb:fn.body.isNone=true) (hn:Extern.findNext fn=none) (he:Extern.find fn=some e)
 (hg:guardS ops st.fr ⟨dst,.call { callee:=.value (.func f),args:=args,argTypes:=ts },ty,pos,after,gd⟩ = .run) (x:SV) (hx:x.good (blkAt st.res))
 (hrun:∀ a w,R E st a w→(e (args.map a.eval)).run P w = .ok x.den w)
 (h:Go P E (.o ops l::r) (st.put dst x) Q):Go P E (.o ops (⟨dst,.call { callee:=.value (.func f),args:=args,argTypes:=ts },ty,pos,after,gd⟩::l)::r) st Q :=
 go_val (o:=⟨dst,.call { callee:=.value (.func f),args:=args,argTypes:=ts },ty,pos,after,gd⟩) hg x hx (fun a w hR=>by
  have h1:=run_callFunc_extern hf hname hb hn he (args.map a.eval) w
  rw [hrun a w hR] at h1
  have h2:a.eval (.func f) = .func (.func f) #[] #[]:=rfl
  have h3:(callFunc f (#[]++args.map a.eval ++ #[])).run P w = .ok (.value x.den) w:=by simpa using h1
  simp only [execOp,resolve,Deferred.ofValue,h2,invoke,Sem.run_bind,Sem.run_pure,Result.andThen_ok,h3]) h
theorem go_overlaps (hT:TbsOk P T) {dst:Option Tmp} {f:FuncId} {fn:Func} {x y:Operand} {tS tR:TypeId} {ts:Array TypeId} {ty:TypeId} {pos:String} {after:Array Edge} {gd:Option (Nat × Bool)} {vb g o m vc lb cb e1 e2 et sz n c:Nat} {cs1 cs2:List Value} (i j:Nat)
 (hf:P.funcs[f]? = some fn) (hname:(fn.name == "runtime.NumGoroutine")=false) (hb:fn.body.isNone=true) (hn:Extern.findNext fn=none) (he:Extern.find fn=some (Extern.SlicesOverlaps.overlaps #[tS,tS] #[tR]))
 (hg:guardS ops st.fr ⟨dst,.call { callee:=.value (.func f),args := #[x,y],argTypes:=ts },ty,pos,after,gd⟩ = .run)
 (hx:(ev st.fr x).den = .slice (some ⟨vb,0,none⟩) m vc) (hxno:(ev st.fr x).isNo=false) (hy:(ev st.fr y).den = .slice (some ⟨g,o,none⟩) lb cb) (hyno:(ev st.fr y).isNo=false)
 (ht:(te T.tab tS).map (·.k)=some (.slice et)) (he':(te T.tab et).map (·.size)=some sz) (hij:i≠j)
 (hi:asnAt st.res i=some (Pt vb e1 cs1)) (hj:st.res[j]? = some (.fact (Row e2 sz (some ⟨g,0,none⟩) n c cs2))) (hc:0<c*sz)
 (h:Go P E (.o ops l::r) (st.put dst (.bl false)) Q):Go P E (.o ops (⟨dst,.call { callee:=.value (.func f),args := #[x,y],argTypes:=ts },ty,pos,after,gd⟩::l)::r) st Q:=by
 refine go_ext hf hname hb hn he hg (.bl false) trivial (fun a w hR=>?_) h
 obtain ⟨hs,hi0,hres⟩:=hR.res
 obtain ⟨z,hz,hz2⟩:=asnAt_spec hi
 have q1:(hs i) vb=some (.cells cs1.toArray e1 (0,0)):=by
  have:=hres.holds i z hz
  rw [hz2] at this
  exact this.1
 have q2:=(hres.holds j _ hj).2.2
 obtain ⟨g',cur,p1,p2,p3,p4,p5,p6⟩:∃ g' cur,(some ⟨g,0,none⟩:Option Addr)=some ⟨g',0,none⟩∧(hs j) g'=some (.cells cur e2 (0,0))∧n≤c∧c≤maxLen∧cur.size=c*sz∧cur.toList.take (n*sz)=cs2:=by
  rcases q2 with ⟨q2,_⟩ | q2
  · cases q2
  exact q2
 cases p1
 have hne:vb≠g:=fun e=>by
  subst e
  have:=hres.dis i j hij vb
  rcases this with h1 | h1
  · rw [q1] at h1;cases h1
  rw [p2] at h1;cases h1
 have w1:w.heap[vb]? = some (.cells cs1.toArray e1 (0,0)):=hres.le i _ _ q1
 have w2:w.heap[g]? = some (.cells cur e2 (0,0)):=hres.le j _ _ p2
 obtain ⟨e1',he1,hsz⟩:∃ e,te T.tab et=some e∧e.size=sz:=by
  cases hq:te T.tab et with
  | none=>rw [hq] at he';cases he'
  | some e=>rw [hq] at he';exact ⟨e,rfl,by simpa using he'⟩
 subst hsz
 cases htt:te T.tab tS with
 | none=>rw [htt] at ht;cases ht
 |
  some et' =>
  rw [htt] at ht
  simp at ht
  obtain ⟨ii,u,zz,hii,hu,hz',hk',_⟩:=te_spec hT.tab htt
  obtain ⟨i2,u2,z2,hi2',hu2,hz2,hk2',hs2',_⟩:=te_spec hT.tab he1
  rw [ht] at hk'
  cases u<;>simp [tkOf] at hk'
  subst hk'
  have h1:a.eval x = .slice (some ⟨vb,0,none⟩) m vc:=by rw [←hx];exact SV.den_of_is (ev_is hR.fr x) (fun e=>by rw [e] at hxno;cases hxno)
  have h2:a.eval y = .slice (some ⟨g,o,none⟩) lb cb:=by rw [←hy];exact SV.den_of_is (ev_is hR.fr y) (fun e=>by rw [e] at hyno;cases hyno)
  have:=Lib.run_overlaps_apart (P:=P) w tS tR et hu e1'.size (fun w=>by simp [sizeOf,typeInfo,hi2',hs2']) ⟨vb,0,none⟩ ⟨g,o,none⟩ m vc lb cb hne e1 e2 cs1.toArray.size cur.size (by simp [World.shape?,w1]) (by simp [World.shape?,w2]) (by rw [p5];omega) (by simp [World.frozen?,w1]) (by simp [World.frozen?,w1])
  simpa [h1,h2,SV.den] using this
end
theorem bl_irrefl:∀ a:List UInt8,Op.bytesLess a a=false
 | []=>rfl
 | x::a=>by simp [Op.bytesLess,bl_irrefl a]
theorem bl_trans:∀ {a b c:List UInt8},Op.bytesLess a b=true→Op.bytesLess b c=true→Op.bytesLess a c=true
 | a,[],_,h,_=>by cases a<;>simp [Op.bytesLess] at h
 | a,y::b,[],_,h=>by simp [Op.bytesLess] at h
 | [],_::_,_::_,_,_=>rfl
 |
  x::a,y::b,z::c,h1,h2=>by
  simp only [Op.bytesLess,Bool.or_eq_true,Bool.and_eq_true,decide_eq_true_eq,beq_iff_eq] at h1 h2 ⊢
  rcases h1 with h1 | ⟨rfl,h1⟩
  · rcases h2 with h2 | ⟨rfl,h2⟩
    · exact .inl (UInt8.lt_trans h1 h2)
    exact .inl h1
  rcases h2 with h2 | ⟨rfl,h2⟩
  · exact .inl h2
  exact .inr ⟨rfl,bl_trans h1 h2⟩
theorem bl_total:∀ {a b:List UInt8},Op.bytesLess a b=false→Op.bytesLess b a=false→a=b
 | [],[],_,_=>rfl
 | [],_::_,h,_=>by simp [Op.bytesLess] at h
 | _::_,[],_,h=>by simp [Op.bytesLess] at h
 |
  x::a,y::b,h1,h2=>by
  simp only [Op.bytesLess,Bool.or_eq_false_iff,Bool.and_eq_false_imp,decide_eq_false_iff_not,beq_iff_eq] at h1 h2
  have e:x=y:=UInt8.le_antisymm (UInt8.not_lt.1 h2.1) (UInt8.not_lt.1 h1.1)
  subst e
  rw [bl_total (h1.2 rfl) (h2.2 rfl)]
def ltS (a b:ByteArray):Prop:=Op.bytesLess a.data.toList b.data.toList=true
instance (a b:ByteArray):Decidable (ltS a b):=by unfold ltS;exact inferInstance
theorem ltS.irrefl (a:ByteArray):¬ ltS a a:=by unfold ltS;rw [bl_irrefl];decide
theorem ltS.trans {a b c:ByteArray} (h1:ltS a b) (h2:ltS b c):ltS a c:=bl_trans h1 h2
theorem ltS.total {a b:ByteArray} (h1:¬ ltS a b) (h2:¬ ltS b a):a=b:=by
 unfold ltS at h1 h2
 have:=bl_total (by simpa using h1) (by simpa using h2)
 obtain ⟨a⟩:=a
 obtain ⟨b⟩:=b
 exact congrArg ByteArray.mk (Array.toList_inj.1 this)
theorem ltS.asymm {a b:ByteArray} (h1:ltS a b):¬ ltS b a:=fun h2=>ltS.irrefl a (h1.trans h2)
theorem ltS.ne {a b:ByteArray} (h1:ltS a b):a≠b:=fun e=>ltS.irrefl a (by rw [←e] at h1;exact h1)
theorem lts_dec (a b:ByteArray):Op.bytesLess a.toList b.toList=decide (ltS a b):=by
 rw [ByteArray.toList_eq,ByteArray.toList_eq,Bool.eq_iff_iff,decide_eq_true_iff]
 exact Iff.rfl
theorem les_dec (a b:ByteArray):(Op.bytesLess a.toList b.toList || a.toList==b.toList)=decide (¬ ltS b a):=by
 rw [lts_dec,bytes_beq,Bool.eq_iff_iff,Bool.or_eq_true,decide_eq_true_iff,decide_eq_true_iff,decide_eq_true_iff]
 constructor
 · rintro (h | rfl)
   · exact h.asymm
   exact ltS.irrefl _
 intro h
 by_cases h2:ltS a b
 · exact .inl h2
 exact .inr (ltS.total h2 h)
section
variable {P:Program} {T:Tbs} {E:Entry} {Q:Exit→St→Prop} {ops:Array Oper} {l:List Oper} {r:List It} {st:St}
theorem lss_runS {t:TypeId} {a b:ByteArray} (w:World):(binOp .lss t (.string a) (.string b)).run P w = .ok (.bool (decide (ltS a b))) w:=by
 simp only [binOp,Op.stringOp,lts_dec];rfl
theorem gtr_runS {t:TypeId} {a b:ByteArray} (w:World):(binOp .gtr t (.string a) (.string b)).run P w = .ok (.bool (decide (ltS b a))) w:=by
 simp only [binOp,Op.stringOp,les_dec,decide_not,Bool.not_not];rfl
theorem dec_yes {p:Prop} [Decidable p] (h:¬ p):(!decide p)=true:=by simp [h]
theorem ev_if_nd {p:Prop} [Decidable p] {t1 t2:List It} {s1 s2:St} (h1:¬ p→Go P E t1 s1 Q) (h2:p→Go P E t2 s2 Q):outSat P E Q (.iff (!decide p) t1 s1 t2 s2) :=
 ⟨fun h=>h1 (by simpa using h),fun h=>h2 (by simpa using h)⟩
/-! s[lo:hi] -/
theorem sliceS_run (hT:TbsOk P T) {dst:Option Tmp} {t:TypeId} {x:Operand} {lo hi:Option Operand} {ty:TypeId} {pos:String} {after:Array Edge} {gd:Option (Nat × Bool)} (s:ByteArray) (lo' hi':Nat) {fr:List SV} {res:List Res} {a:Act} (hF:FrOk fr res a)
 (hx:(ev fr x).den = .string s) (hxno:(ev fr x).isNo=false) (ht:(te T.tab t).map (·.k)=some .string)
 (hlo:bound fr lo 0 lo') (hhi:bound fr hi s.size hi') (h1:lo'≤hi') (h2:hi'≤s.size) (w:World) :
 (execOp a.eval ⟨dst,.slice t x lo hi none,ty,pos,after,gd⟩).run P w = .ok (.value (.string (s.extract lo' hi'))) w:=by
 obtain ⟨e,he,hk⟩:∃ e,te T.tab t=some e∧e.k = .string:=by
  cases hq:te T.tab t with
  | none=>rw [hq] at ht;cases ht
  | some e=>rw [hq] at ht;exact ⟨e,rfl,by simpa using ht⟩
 obtain ⟨i,u,z,hi1,hu,hz,hk',_⟩:=te_spec hT.tab he
 have hus:u = .string:=by
  rw [hk] at hk'
  cases u<;>simp [tkOf] at hk' ⊢
 subst hus
 have e1:a.eval x = .string s:=by rw [ev_denv hF rfl hxno,hx]
 have hl:∀ (o:Option Operand) d n,bound fr o d n→match o with | none=>n=d | some o=>∃ k,a.eval o = .int k (n:Int):=by
  intro o d n hb
  cases o with
  | none=>exact hb
  |
   some o =>
   obtain ⟨k,hk⟩:=hb
   exact ⟨k,by rw [ev_denv hF rfl (by rw [hk];rfl),hk];rfl⟩
 have hlo2:=hl _ _ _ hlo
 have hhi2:=hl _ _ _ hhi
 cases lo with
 |
  none =>
  cases hi with
  | none=>subst hlo2 hhi2;simp [execOp,e1,Instr.sliceAt,Instr.slice,run_underlying hu,Instr.sliceBounds]
  |
   some oh =>
   obtain ⟨k2,k2h⟩:=hhi2
   subst hlo2
   simp [execOp,e1,k2h,Instr.sliceAt,Instr.slice,run_underlying hu,Instr.sliceBounds,sliceBound_run h2]
 |
  some ol =>
  obtain ⟨k1,k1h⟩:=hlo2
  cases hi with
  | none=>subst hhi2;simp [execOp,e1,k1h,Instr.sliceAt,Instr.slice,run_underlying hu,Instr.sliceBounds,sliceBound_run h1]
  |
   some oh =>
   obtain ⟨k2,k2h⟩:=hhi2
   simp [execOp,e1,k1h,k2h,Instr.sliceAt,Instr.slice,run_underlying hu,Instr.sliceBounds,sliceBound_run h1,sliceBound_run h2]
theorem go_sliceS (hT:TbsOk P T) {dst:Option Tmp} {t:TypeId} {x:Operand} {lo hi:Option Operand} {ty:TypeId} {pos:String} {after:Array Edge} {gd:Option (Nat × Bool)} {s:ByteArray} (lo' hi':Nat)
 (hg:guardS ops st.fr ⟨dst,.slice t x lo hi none,ty,pos,after,gd⟩ = .run) (hx:(ev st.fr x).den = .string s) (hxno:(ev st.fr x).isNo=false) (ht:(te T.tab t).map (·.k)=some .string)
 (hlo:bound st.fr lo 0 lo') (hhi:bound st.fr hi s.size hi') (h1:lo'≤hi') (h2:hi'≤s.size)
 (h:Go P E (.o ops l::r) (st.put dst (.va (.string (s.extract lo' hi')))) Q):Go P E (.o ops (⟨dst,.slice t x lo hi none,ty,pos,after,gd⟩::l)::r) st Q :=
 go_val (o:=⟨dst,.slice t x lo hi none,ty,pos,after,gd⟩) hg (.va (.string (s.extract lo' hi'))) trivial (fun _ w hR=>sliceS_run hT s lo' hi' hR.fr hx hxno ht hlo hhi h1 h2 w) h
theorem tk_sliceS (hT:TbsOk P T) {full:Bool} {held:List (Nat × Res)} {ro0:List Asn} {q:Nat} {p:List (Nat × Bool)} {listed:List Bool} {dst:Option Tmp} {t:TypeId} {x:Operand} {lo hi:Option Operand} {ty:TypeId} {pos:String} {after:Array Edge} {gd:Option (Nat × Bool)} {s:ByteArray} (lo' hi':Nat)
 (hchk:(heldOk held st.res∧ro0=st.ro)∧planOk ops full ((q,true)::p) listed=true) (ho:ops.toList[q]? = some ⟨dst,.slice t x lo hi none,ty,pos,after,gd⟩)
 (hg:guardS ops st.fr ⟨dst,.slice t x lo hi none,ty,pos,after,gd⟩ = .run) (hx:(ev st.fr x).den = .string s) (hxno:(ev st.fr x).isNo=false) (ht:(te T.tab t).map (·.k)=some .string)
 (hlo:bound st.fr lo 0 lo') (hhi:bound st.fr hi s.size hi') (h1:lo'≤hi') (h2:hi'≤s.size)
 (h:Go P E (.d ops full held ro0 p (listed.set q true)::r) (st.put dst (.va (.string (s.extract lo' hi')))) Q):Go P E (.d ops full held ro0 ((q,true)::p) listed::r) st Q :=
 tk_val (o:=⟨dst,.slice t x lo hi none,ty,pos,after,gd⟩) hchk ho hg (.va (.string (s.extract lo' hi'))) trivial (fun _a w hF _=>sliceS_run hT s lo' hi' hF hx hxno ht hlo hhi h1 h2 w) h
end
/-! both ways of an 'if' come together -/
def Join (P:Program) (E:Entry) (r:List It) (Q:Exit→St→Prop) {ι:Type} (I:ι→St) (Pre:ι→Prop) (e:Exit) (st:St):Prop :=
 match e with
 | .normal=>∀ a w,R E st a w→∃ i,Pre i∧R E (I i) a w
 | e=>wayOut P E r Q e st
theorem go_join {P:Program} {E:Entry} {Q:Exit→St→Prop} {c:Code} {r:List It} {st:St} {ι:Type} {I:ι→St} {Pre:ι→Prop} (h1:Go P E [.c c] st (Join P E r Q I Pre)) (h2:∀ i,Pre i→Go P E r (I i) Q):Go P E (.c c::r) st Q:=by
 intro a w hR
 refine Code.wp_mono (fun e a' w' hq=>?_) (h1 a w hR)
 cases e with
 |
  normal =>
  obtain ⟨st',hq,hR'⟩:=hq
  obtain ⟨i,h3,h4⟩:=hq a' w' hR'
  exact h2 i h3 a' w' h4
 |
  exit id =>
  obtain ⟨st',hq,hR'⟩:=hq
  simp only [Join,wayOut] at hq
  show post P r (Fin Q E) (.exit id) a' w'
  split at hq
  · rename_i r' hp
    rw [post_pop hp]
    exact hq a' w' hR'
  rename_i hp
  rw [post_exit hp]
  exact ⟨st',hq,hR'⟩
 |
  ret =>
  obtain ⟨st',hq,hR'⟩:=hq
  show post P r (Fin Q E) .ret a' w'
  rw [post_ret]
  exact ⟨st',hq,hR'⟩
 | goto l=>obtain ⟨st',hq,_⟩:=hq;exact hq.elim
 | panic c=>exact hq.elim
 | outgrown=>exact hq.elim
theorem ev_join {P:Program} {E:Entry} {Q:Exit→St→Prop} {b:Bool} {x y:Code} {r:List It} {st s2:St} {ι:Type} (mods:List Nat) (keep:ι→List (Nat × SV)) (resI:ι→List (Nat × Res)) (Pre:ι→Prop)
 (h1:b=true→Go P E [.c x] st (Join P E r Q (fun i=>⟨setF (havoc st.fr mods) (keep i),setR st.res (resI i),st.ro⟩) Pre))
 (h2:b=false→Go P E [.c y] s2 (Join P E r Q (fun i=>⟨setF (havoc st.fr mods) (keep i),setR st.res (resI i),st.ro⟩) Pre))
 (h:∀ i,Pre i→Go P E r ⟨setF (havoc st.fr mods) (keep i),setR st.res (resI i),st.ro⟩ Q):outSat P E Q (.iff b (.c x::r) st (.c y::r) s2) :=
 ⟨fun e=>go_join (h1 e) h,fun e=>go_join (h2 e) h⟩
theorem join_next {P:Program} {E:Entry} {r:List It} {Q:Exit→St→Prop} {ι:Type} {I:ι→St} {Pre:ι→Prop} {st:St} (i:ι) (h1:Pre i) (h3:StLe st (I i)):Join P E r Q I Pre .normal st:=fun _ _ hR=>⟨i,h1,h3.R hR⟩
theorem go_joinR {P:Program} {E:Entry} {Q:Exit→St→Prop} {c:Code} {r:List It} {st:St} {ι:Type} (mods:List Nat) (keep:ι→List (Nat × SV)) (resI:ι→List (Nat × Res)) (Pre:ι→Prop)
 (h1:Go P E [.c c] st (Join P E r Q (fun i=>⟨setF (havoc st.fr mods) (keep i),setR st.res (resI i),st.ro⟩) Pre))
 (h:∀ i,Pre i→Go P E r ⟨setF (havoc st.fr mods) (keep i),setR st.res (resI i),st.ro⟩ Q):Go P E (.c c::r) st Q:=go_join h1 h
theorem ev_moveJ {P:Program} {E:Entry} {r:List It} {Q:Exit→St→Prop} {ι:Type} {I:ι→St} {Pre:ι→Prop} {st:St} (i j:Nat) {A B:Asn} (hij:i≠j) (hi:st.res[i]? = some (.fact A)) (hj:st.res[j]? = some (.fact B))
 (hb:blkLe st.res (place st.res [i,j] [.fact B,.dead none])) (h:outSat P E (Join P E r Q I Pre) (.fin .normal ⟨st.fr,place st.res [i,j] [.fact B,.dead none],st.ro⟩)):outSat P E (Join P E r Q I Pre) (.fin .normal st):=fun a w hR=>by
 have g:Join P E r Q I Pre .normal ⟨st.fr,place st.res [i,j] [.fact B,.dead none],st.ro⟩:=h
 obtain ⟨hs,hi',hres⟩:=hR.res
 obtain ⟨x,hs',hR'⟩:=place_ghost hres [i,j] (M:=[A,B]) (X:=Unit) (fun _=>[.fact B,.dead none]) (by simp [asnAt_fact hi,asnAt_fact hj]) (by simp [hij]) (fun h q=>⟨(),move_star q⟩) (fun _=>newsOk_fact fun x hx=>by rw [List.mem_singleton.1 hx];trivial) (fun _=>hb)
 exact g a w ⟨hR.fr.mono (blkLe_spec hb),hs',hi',hR'⟩
theorem ev_slotJ {P:Program} {E:Entry} {r':List It} {Q':Exit→St→Prop} {ι:Type} {I:ι→St} {Pre:ι→Prop} {st:St} (t:Nat) (x y:SV) (hx:st.fr[t]? = some x) (hno:x.isNo=false) (hxy:x.den=y.den) (hy:∀ β,y.good β)
 (h:outSat P E (Join P E r' Q' I Pre) (.fin .normal ⟨st.fr.set t y,st.res,st.ro⟩)):outSat P E (Join P E r' Q' I Pre) (.fin .normal st):=fun a w hR=>by
 have g:Join P E r' Q' I Pre .normal ⟨st.fr.set t y,st.res,st.ro⟩:=h
 exact g a w (R_slot hx hno hxy hy hR)
def putL (f:Nat):List UInt8:=if f<128 then [UInt8.ofNat f] else UInt8.ofNat (f % 128+128)::putL (f / 128)
termination_by f
def getL:Nat→Nat→List UInt8→Option (Nat × Nat)
 | _,_,[]=>none
 | i,acc,c::r=>if 10≤i then none else if 128≤c.toNat then getL (i+1) (acc+(c.toNat-128)*128 ^ i) r
  else if (c.toNat=0∧0<i)∨(i=9∧1<c.toNat) then none else some (acc+c.toNat*128 ^ i,i+1)
theorem putL_small {f:Nat} (h:f<128):putL f=[UInt8.ofNat f]:=by rw [putL,if_pos h]
theorem putL_great {f:Nat} (h:128≤f):putL f=UInt8.ofNat (f % 128+128)::putL (f / 128):=by rw [putL,if_neg (by omega)]
theorem toNat_of {n:Nat} (h:n<256):(UInt8.ofNat n).toNat=n:=by
 rw [UInt8.toNat_ofNat']
 exact Nat.mod_eq_of_lt h
theorem putL_pos (f:Nat):0<(putL f).length:=by
 rcases Nat.lt_or_ge f 128 with h | h
 · rw [putL_small h];exact Nat.one_pos
 rw [putL_great h];exact Nat.succ_pos _
theorem pow128 (i:Nat):128 ^ (i+1)=128*128 ^ i:=by rw [Nat.pow_succ,Nat.mul_comm]
theorem get_put:∀ (k f i acc:Nat) (r:List UInt8),f<128 ^ k→i+k≤9→(0<f∨i=0)→getL i acc (putL f++r)=some (acc+f*128 ^ i,i+(putL f).length)
 |
  0,f,i,acc,r,h,hi,h0=>by
  have:f=0:=by simpa using h
  subst this
  have hi0:i=0:=by omega
  subst hi0
  rw [putL_small (by decide),List.singleton_append,getL,if_neg (by omega),toNat_of (by decide),if_neg (by omega),if_neg (by omega)]
  rfl
 |
  k+1,f,i,acc,r,h,hi,h0=>by
  rcases Nat.lt_or_ge f 128 with h1 | h1
  · rw [putL_small h1,List.singleton_append,getL,if_neg (by omega),toNat_of (by omega),if_neg (by omega),if_neg (by omega)]
    rfl
  rw [putL_great h1,List.cons_append,getL,if_neg (by omega),toNat_of (by omega),if_pos (by omega)]
  rw [get_put k (f / 128) (i+1) _ r (Nat.div_lt_of_lt_mul (by rw [←pow128];exact h)) (by omega) (.inl (Nat.div_pos h1 (by decide)))]
  have e:f % 128+128-128=f % 128:=by omega
  rw [e,pow128]
  have h3:acc+f % 128*128 ^ i+f / 128*(128*128 ^ i)=acc+f*128 ^ i:=by
   have h4:f / 128*(128*128 ^ i)=(128*(f / 128))*128 ^ i:=by rw [Nat.mul_comm 128 (f / 128),Nat.mul_assoc]
   rw [h4,Nat.add_assoc,←Nat.add_mul,Nat.add_comm (f % 128),Nat.div_add_mod]
  rw [h3,List.length_cons,show i+1+(putL (f / 128)).length=i+((putL (f / 128)).length+1) by omega]
theorem get_cut:∀ (f i acc:Nat) (l t:List UInt8),l++t=putL f→t≠[]→getL i acc l=none:=by
 intro f
 induction f using Nat.strongRecOn with
 |
  _ f ih =>
  intro i acc l t h ht
  cases l with
  | nil=>rfl
  |
   cons c l =>
   rcases Nat.lt_or_ge f 128 with h1 | h1
   · rw [putL_small h1] at h
     simp only [List.cons_append,List.cons.injEq,List.append_eq_nil_iff] at h
     exact absurd h.2.2 ht
   rw [putL_great h1,List.cons_append,List.cons.injEq] at h
   rw [getL]
   split
   · rfl
   rw [h.1,toNat_of (by omega),if_pos (by omega)]
   exact ih (f / 128) (Nat.div_lt_self (by omega) (by decide)) _ _ l t h.2 ht
theorem getL_some:∀ (l:List UInt8) (i acc F k:Nat),getL i acc l=some (F,k)→i<k∧k≤i+l.length∧acc≤F
 | [],_,_,_,_,h=>by cases h
 |
  c::l,i,acc,F,k,h=>by
  rw [getL] at h
  split at h
  · cases h
  split at h
  · have:=getL_some l _ _ _ _ h
    simp only [List.length_cons]
    omega
  split at h
  · cases h
  cases h
  simp only [List.length_cons]
  omega
section
variable (ck:List UInt8→List UInt8)
def frameL (p:List UInt8):List UInt8:=putL (2*p.length)++(ck (putL (2*p.length)++p)++p)
def nextL (l:List UInt8):Option (List UInt8 × Nat) :=
 match getL 0 0 l with
 | none=>none
 |
  some (F,k)=>if F % 2=1∨16384<F∨l.length<k+4+F / 2 then none
  else if ck (l.take k++(l.drop (k+4)).take (F / 2))=(l.drop k).take 4 then some ((l.drop (k+4)).take (F / 2),k+4+F / 2) else none
variable {ck}
theorem nextL_some {l p:List UInt8} {n:Nat} (h:nextL ck l=some (p,n)):5≤n∧n≤l.length∧p.length≤8192:=by
 unfold nextL at h
 split at h
 · cases h
 rename_i F k hg
 obtain ⟨h1,h2,_⟩:=getL_some _ _ _ _ _ hg
 split at h
 · cases h
 split at h
 · cases h
   rw [List.length_take,List.length_drop]
   omega
 cases h
variable (hck:∀ l,(ck l).length=4)
include hck
theorem next_frame {p:List UInt8} (hp:p.length≤8192) (r:List UInt8):nextL ck (frameL ck p++r)=some (p,(frameL ck p).length):=by
 have hf:2*p.length<128 ^ 3:=by have:(128:Nat) ^ 3=2097152:=rfl;omega
 obtain ⟨m,hm⟩:∃ m,m=putL (2*p.length):=⟨_,rfl⟩
 have hg:getL 0 0 (m++(ck (m++p)++p++r))=some (2*p.length,m.length):=by
  have:=get_put 3 (2*p.length) 0 0 (ck (m++p)++p++r) hf (by omega) (.inr rfl)
  rw [←hm] at this
  rw [this]
  simp
 have hl:frameL ck p++r=m++(ck (m++p)++p++r):=by unfold frameL;rw [←hm];simp
 have hk:=hck (m++p)
 have hd:(m++(ck (m++p)++p++r)).drop m.length=ck (m++p)++p++r:=List.drop_left
 have hd4:(m++(ck (m++p)++p++r)).drop (m.length+4)=p++r:=by
  rw [←List.drop_drop,hd,List.append_assoc,←hk,List.drop_left]
 unfold nextL
 rw [hl,hg]
 simp only
 have h2:2*p.length / 2=p.length:=by omega
 rw [h2,hd4,hd,List.take_left,List.take_left,List.append_assoc,←hk,List.take_left,if_pos rfl,if_neg (by simp only [List.length_append];omega),hk]
 congr 2
 unfold frameL
 rw [←hm]
 simp only [List.length_append]
 omega
theorem next_cut {p l t:List UInt8} (hp:p.length≤8192) (h:l++t=frameL ck p) (ht:t≠[]):nextL ck l=none:=by
 have hf:2*p.length<128 ^ 3:=by have:(128:Nat) ^ 3=2097152:=rfl;omega
 obtain ⟨m,hm⟩:∃ m,m=putL (2*p.length):=⟨_,rfl⟩
 unfold frameL at h
 rw [←hm] at h
 have hk:=hck (m++p)
 have htl:0<t.length:=List.length_pos_iff.2 ht
 rcases Nat.lt_or_ge l.length m.length with h1 | h1
 · have h3:l++m.drop l.length=m:=by
    have e:=congrArg (fun z=>z.take m.length) h
    simp only [List.take_left] at e
    rw [List.take_append,List.take_of_length_le (by omega)] at e
    have e2:=congrArg (fun z=>z.drop l.length) e
    simp only [List.drop_left] at e2
    rw [←e2]
    exact e
   unfold nextL
   rw [get_cut (2*p.length) 0 0 l (m.drop l.length) (by rw [h3,hm]) (fun e=>by
    have:=congrArg List.length e
    rw [List.length_drop] at this
    simp only [List.length_nil] at this
    omega)]
 obtain ⟨r,rfl⟩:∃ r,l=m++r:=⟨l.drop m.length,by
  have e:=congrArg (fun z=>z.take m.length) h
  simp only [List.take_left] at e
  rw [List.take_append_of_le_length h1] at e
  conv=>lhs;rw [←List.take_append_drop m.length l,e]⟩
 have hg:getL 0 0 (m++r)=some (2*p.length,m.length):=by
  have:=get_put 3 (2*p.length) 0 0 r hf (by omega) (.inr rfl)
  rw [←hm] at this
  rw [this]
  simp
 have hll:=congrArg List.length h
 simp only [List.length_append] at hll
 unfold nextL
 rw [hg]
 simp only
 rw [if_pos (by simp only [List.length_append];omega)]
end
theorem get_is_put:∀ (l:List UInt8) (i acc F k:Nat),getL i acc l=some (F,k)→∃ f,F=acc+f*128 ^ i∧l.take (k-i)=putL f∧(0<f∨i=0)∧i<k∧k≤10∧k=i+(putL f).length
 | [],_,_,_,_,h=>by cases h
 |
  c::l,i,acc,F,k,h=>by
  rw [getL] at h
  split at h
  · cases h
  rename_i hi
  split at h
  · rename_i hc
    obtain ⟨f,e1,e2,e3,e4,e5,e6⟩:=get_is_put l (i+1) _ F k h
    have hf:0<f:=by
     rcases e3 with e3 | e3
     · exact e3
     omega
    have hlt:=UInt8.toNat_lt c
    refine ⟨(c.toNat-128)+128*f,?_,?_,.inl (by omega),by omega,e5,?_⟩
    · rw [e1,pow128,Nat.add_mul,Nat.mul_left_comm f 128,Nat.mul_assoc,Nat.add_assoc]
    · rw [show k-i=(k-(i+1))+1 by omega,List.take_succ_cons,putL_great (by omega),e2]
      have h1:(c.toNat-128+128*f) % 128+128=c.toNat:=by omega
      have h2:(c.toNat-128+128*f) / 128=f:=by omega
      rw [h1,h2,UInt8.ofNat_toNat]
    rw [putL_great (by omega),List.length_cons]
    have h2:(c.toNat-128+128*f) / 128=f:=by omega
    rw [h2]
    omega
  rename_i hc
  split at h
  · cases h
  rename_i h0
  cases h
  refine ⟨c.toNat,rfl,?_,by omega,by omega,by omega,?_⟩
  · rw [show i+1-i=0+1 by omega,List.take_succ_cons,List.take_zero,putL_small (by omega),UInt8.ofNat_toNat]
  rw [putL_small (by omega)]
  rfl
section
variable {ck:List UInt8→List UInt8}
theorem next_is_frame {l p:List UInt8} {n:Nat} (h:nextL ck l=some (p,n)):p.length≤8192∧l.take n=frameL ck p∧n≤l.length:=by
 have h0:=nextL_some h
 refine ⟨h0.2.2,?_,h0.2.1⟩
 unfold nextL at h
 split at h
 · cases h
 rename_i F k hg
 obtain ⟨f,e1,e2,_,_,_,e6⟩:=get_is_put _ _ _ _ _ hg
 simp only [Nat.pow_zero,Nat.mul_one,Nat.zero_add,Nat.sub_zero] at e1 e2 e6
 subst e1
 split at h
 · cases h
 rename_i hc
 split at h
 · rename_i hs
   simp only [Option.some.injEq,Prod.mk.injEq] at h
   obtain ⟨h1,h2⟩:=h
   have hpl:p.length=F / 2:=by
    rw [←h1,List.length_take,List.length_drop]
    omega
   have hF:2*p.length=F:=by omega
   rw [h1] at hs
   unfold frameL
   rw [hF,←e2,hs,←h2]
   have e3:l.take (k+4+F / 2)=l.take k++((l.drop k).take 4++(l.drop (k+4)).take (F / 2)):=by
    rw [List.take_add,List.take_add,List.append_assoc]
   rw [e3,h1]
 cases h
variable (ck)
def wholeG:Nat→List UInt8→List (List UInt8) × Nat
 | 0,_=>([],0)
 |
  f+1,l=>match nextL ck l with
  | none=>([],0)
  | some (p,n)=>(p::(wholeG f (l.drop n)).1,n+(wholeG f (l.drop n)).2)
def wholeL (l:List UInt8):List (List UInt8) × Nat:=wholeG ck l.length l
def framesL (ps:List (List UInt8)):List UInt8:=ps.flatMap (frameL ck)
variable {ck}
theorem wholeG_more:∀ (f g:Nat) (l:List UInt8),l.length≤f→l.length≤g→wholeG ck f l=wholeG ck g l
 |
  0,g,l,h,_=>by
  obtain rfl:=List.eq_nil_of_length_eq_zero (Nat.le_zero.1 h)
  cases g<;>rfl
 |
  f+1,0,l,_,h=>by
  obtain rfl:=List.eq_nil_of_length_eq_zero (Nat.le_zero.1 h)
  rfl
 |
  f+1,g+1,l,h1,h2=>by
  simp only [wholeG]
  cases hn:nextL ck l with
  | none=>rfl
  |
   some x =>
   obtain ⟨p,n⟩:=x
   have:=nextL_some hn
   simp only
   rw [wholeG_more f g (l.drop n) (by rw [List.length_drop];omega) (by rw [List.length_drop];omega)]
theorem wholeL_none {l:List UInt8} (h:nextL ck l=none):wholeL ck l=([],0):=by
 unfold wholeL
 cases hl:l.length with
 | zero=>rfl
 | succ k=>simp only [wholeG,h]
theorem wholeL_some {l p:List UInt8} {n:Nat} (h:nextL ck l=some (p,n)):wholeL ck l=(p::(wholeL ck (l.drop n)).1,n+(wholeL ck (l.drop n)).2):=by
 have h0:=nextL_some h
 unfold wholeL
 cases hl:l.length with
 | zero=>omega
 |
  succ k =>
  simp only [wholeG,h]
  rw [wholeG_more k (l.drop n).length (l.drop n) (by rw [List.length_drop];omega) (Nat.le_refl _)]
theorem framesL_cons (p:List UInt8) (ps:List (List UInt8)):framesL ck (p::ps)=frameL ck p++framesL ck ps:=rfl
theorem framesL_append (ps qs:List (List UInt8)):framesL ck (ps++qs)=framesL ck ps++framesL ck qs:=List.flatMap_append
theorem wholeL_spec:∀ (n:Nat) (l:List UInt8),l.length≤n→(∀ p∈(wholeL ck l).1,p.length≤8192)∧l.take (wholeL ck l).2=framesL ck (wholeL ck l).1∧(wholeL ck l).2≤l.length∧nextL ck (l.drop (wholeL ck l).2)=none
 |
  0,l,h=>by
  obtain rfl:=List.eq_nil_of_length_eq_zero (Nat.le_zero.1 h)
  exact ⟨fun p hp=>(by cases hp),rfl,Nat.le_refl _,rfl⟩
 |
  n+1,l,h=>by
  cases hn:nextL ck l with
  |
   none =>
   rw [wholeL_none hn]
   exact ⟨fun p hp=>(by cases hp),rfl,Nat.zero_le _,hn⟩
  |
   some x =>
   obtain ⟨p,k⟩:=x
   have h0:=nextL_some hn
   obtain ⟨h1,h2,h3⟩:=next_is_frame hn
   obtain ⟨i1,i2,i3,i4⟩:=wholeL_spec n (l.drop k) (by rw [List.length_drop];omega)
   rw [wholeL_some hn]
   refine ⟨fun q hq=>?_,?_,?_,?_⟩
   · rcases List.mem_cons.1 hq with rfl | hq
     · exact h1
     exact i1 q hq
   · rw [List.take_add,h2,i2]
     rfl
   · rw [List.length_drop] at i3
     simp only
     omega
   rw [←List.drop_drop]
   exact i4
variable (hck:∀ l,(ck l).length=4)
include hck
theorem frameL_len (p:List UInt8):5≤(frameL ck p).length:=by
 unfold frameL
 simp only [List.length_append,hck]
 have:=putL_pos (2*p.length)
 omega
theorem whole_frames:∀ (ps:List (List UInt8)) (r:List UInt8),(∀ p∈ps,p.length≤8192)→wholeL ck (framesL ck ps++r)=(ps++(wholeL ck r).1,(framesL ck ps).length+(wholeL ck r).2)
 | [],r,_=>by simp [framesL]
 |
  p::ps,r,h=>by
  have hn:=next_frame hck (h p List.mem_cons_self) (framesL ck ps++r)
  rw [framesL_cons,List.append_assoc,wholeL_some hn,List.drop_left,whole_frames ps r (fun q hq=>h q (List.mem_cons_of_mem _ hq))]
  simp only [List.cons_append,List.length_append,Prod.mk.injEq,true_and]
  omega
theorem whole_cut:∀ (qs:List (List UInt8)) (l t:List UInt8),(∀ p∈qs,p.length≤8192)→l++t=framesL ck qs →
 ∃ k,k≤qs.length∧wholeL ck l=(qs.take k,(framesL ck (qs.take k)).length)∧∀ j,j≤qs.length→(framesL ck (qs.take j)).length≤l.length→j≤k
 |
  [],l,t,_,h=>by
  have:l=[]:=(List.append_eq_nil_iff.1 h).1
  subst this
  exact ⟨0,Nat.le_refl _,rfl,fun j hj _=>hj⟩
 |
  q::qs,l,t,hq,h=>by
  rw [framesL_cons] at h
  rcases Nat.lt_or_ge l.length (frameL ck q).length with h1 | h1
  · have e:l++(frameL ck q).drop l.length=frameL ck q:=by
     have e1:=congrArg (fun z=>z.take (frameL ck q).length) h
     simp only [List.take_left] at e1
     rw [List.take_append,List.take_of_length_le (by omega)] at e1
     have e2:=congrArg (fun z=>z.drop l.length) e1
     simp only [List.drop_left] at e2
     rw [←e2]
     exact e1
    have hn:=next_cut hck (hq q List.mem_cons_self) e (fun e=>by
     have:=congrArg List.length e
     rw [List.length_drop] at this
     simp only [List.length_nil] at this
     omega)
    refine ⟨0,Nat.zero_le _,by rw [wholeL_none hn];rfl,fun j hj hle=>?_⟩
    cases j with
    | zero=>exact Nat.le_refl _
    |
     succ j =>
     rw [List.take_succ_cons,framesL_cons,List.length_append] at hle
     omega
  obtain ⟨r,rfl⟩:∃ r,l=frameL ck q++r:=⟨l.drop (frameL ck q).length,by
   have e:=congrArg (fun z=>z.take (frameL ck q).length) h
   simp only [List.take_left] at e
   rw [List.take_append_of_le_length h1] at e
   conv=>lhs;rw [←List.take_append_drop (frameL ck q).length l,e]⟩
  rw [List.append_assoc] at h
  obtain ⟨k,hk,e,hmax⟩:=whole_cut qs r t (fun p hp=>hq p (List.mem_cons_of_mem _ hp)) (List.append_cancel_left h)
  refine ⟨k+1,Nat.succ_le_succ hk,?_,fun j hj hle=>?_⟩
  · rw [wholeL_some (next_frame hck (hq q List.mem_cons_self) r),List.drop_left,e]
    simp only [List.take_succ_cons,framesL_cons,List.length_append]
  cases j with
  | zero=>exact Nat.zero_le _
  |
   succ j =>
   rw [List.take_succ_cons,framesL_cons,List.length_append,List.length_append] at hle
   exact Nat.succ_le_succ (hmax j (Nat.le_of_succ_le_succ hj) (by omega))
end
end Go.Sy
namespace Go.Proofs
open Go.Sy
def Tryz.tab:Tab :=
 [some { k:=TK.other,size:=1,bytes:=0,zero:=[Value.tuple #[]] },
  some { k:=TK.func,size:=1,bytes:=8,zero:=[Value.nilFunc] },
  some { k:=TK.int IntKind.i64,size:=1,bytes:=8,zero:=[Value.int IntKind.i64 (0)] },
  some { k:=TK.int IntKind.i64,size:=1,bytes:=8,zero:=[Value.int IntKind.i64 (0)] },
  some { k:=TK.bool,size:=1,bytes:=1,zero:=[Value.bool false] },
  some { k:=TK.int IntKind.u8,size:=1,bytes:=1,zero:=[Value.int IntKind.u8 (0)] },
  some { k:=TK.int IntKind.u8,size:=1,bytes:=1,zero:=[Value.int IntKind.u8 (0)] },
  some
   {
    k:=TK.struct [(0,2),(1,3),(2,4),(3,6)],size:=4,bytes:=24,
    zero :=
     [Value.int IntKind.i64 (0),Value.int IntKind.i64 (0),Value.bool false,
      Value.int IntKind.u8 (0)] },
  some
   {
    k:=TK.struct [(0,2),(1,3),(2,4),(3,6)],size:=4,bytes:=24,
    zero :=
     [Value.int IntKind.i64 (0),Value.int IntKind.i64 (0),Value.bool false,
      Value.int IntKind.u8 (0)] },
  some { k:=TK.string,size:=1,bytes:=16,zero:=[Value.string ByteArray.empty] },
  some { k:=TK.string,size:=1,bytes:=16,zero:=[Value.string ByteArray.empty] },
  some { k:=TK.string,size:=1,bytes:=16,zero:=[Value.string ByteArray.empty] },
  some { k:=TK.int IntKind.u64,size:=1,bytes:=8,zero:=[Value.int IntKind.u64 (0)] },
  some
   {
    k:=TK.struct [(0,9),(1,12)],size:=2,bytes:=24,
    zero:=[Value.string ByteArray.empty,Value.int IntKind.u64 (0)] },
  some
   {
    k:=TK.struct [(0,9),(1,12)],size:=2,bytes:=24,
    zero:=[Value.string ByteArray.empty,Value.int IntKind.u64 (0)] },
  some { k:=TK.ptr 186,size:=1,bytes:=8,zero:=[Value.pointer none] },
  some { k:=TK.ptr 189,size:=1,bytes:=8,zero:=[Value.pointer none] },
  some { k:=TK.ptr 196,size:=1,bytes:=8,zero:=[Value.pointer none] },
  some { k:=TK.struct [(0,17)],size:=1,bytes:=8,zero:=[Value.pointer none] },
  some { k:=TK.struct [(0,17)],size:=1,bytes:=8,zero:=[Value.pointer none] },
  some { k:=TK.other,size:=1,bytes:=16,zero:=[Value.nilIface] },
  some { k:=TK.int IntKind.i32,size:=1,bytes:=4,zero:=[Value.int IntKind.i32 (0)] },
  some { k:=TK.int IntKind.u16,size:=1,bytes:=2,zero:=[Value.int IntKind.u16 (0)] },
  some { k:=TK.slice 38,size:=1,bytes:=24,zero:=[Value.slice none 0 0] },
  some { k:=TK.func,size:=1,bytes:=8,zero:=[Value.nilFunc] },
  some { k:=TK.ptr 52,size:=1,bytes:=8,zero:=[Value.pointer none] },
  some { k:=TK.int IntKind.i64,size:=1,bytes:=8,zero:=[Value.int IntKind.i64 (0)] },
  some
   {
    k:=TK.other,size:=1,bytes:=0,
    zero:=[Value.tuple { toList:=[Value.pointer none,Value.int IntKind.i64 (0)] }] },
  some { k:=TK.func,size:=1,bytes:=8,zero:=[Value.nilFunc] },
  some { k:=TK.ptr 49,size:=1,bytes:=8,zero:=[Value.pointer none] },
  some { k:=TK.slice 9,size:=1,bytes:=24,zero:=[Value.slice none 0 0] },
  some
   {
    k:=TK.other,size:=1,bytes:=0,
    zero :=
     [Value.tuple { toList:=[Value.pointer none,Value.slice none 0 0,Value.int IntKind.i64 (0)] }] },
  some { k:=TK.func,size:=1,bytes:=8,zero:=[Value.nilFunc] },
  some { k:=TK.ptr 35,size:=1,bytes:=8,zero:=[Value.pointer none] },
  some
   {
    k:=TK.struct [(0,25),(1,29),(2,30),(3,3)],size:=4,bytes:=48,
    zero:=[Value.pointer none,Value.pointer none,Value.slice none 0 0,Value.int IntKind.i64 (0)] },
  some
   {
    k:=TK.struct [(0,25),(1,29),(2,30),(3,3)],size:=4,bytes:=48,
    zero:=[Value.pointer none,Value.pointer none,Value.slice none 0 0,Value.int IntKind.i64 (0)] },
  some { k:=TK.slice 3,size:=1,bytes:=24,zero:=[Value.slice none 0 0] },
  some
   {
    k:=TK.struct [(0,5),(1,30),(2,3),(3,36)],size:=4,bytes:=64,
    zero :=
     [Value.int IntKind.u8 (0),Value.slice none 0 0,Value.int IntKind.i64 (0),
      Value.slice none 0 0] },
  some
   {
    k:=TK.struct [(0,5),(1,30),(2,3),(3,36)],size:=4,bytes:=64,
    zero :=
     [Value.int IntKind.u8 (0),Value.slice none 0 0,Value.int IntKind.i64 (0),
      Value.slice none 0 0] },
  some { k:=TK.func,size:=1,bytes:=8,zero:=[Value.nilFunc] },
  some { k:=TK.func,size:=1,bytes:=8,zero:=[Value.nilFunc] },
  some { k:=TK.func,size:=1,bytes:=8,zero:=[Value.nilFunc] },
  some
   {
    k:=TK.other,size:=1,bytes:=0,
    zero :=
     [Value.tuple
      {
       toList :=
        [Value.bool false,Value.slice none 0 0,Value.slice none 0 0,Value.bool false,Value.bool false] }] },
  some { k:=TK.func,size:=1,bytes:=8,zero:=[Value.nilFunc] },
  some { k:=TK.func,size:=1,bytes:=8,zero:=[Value.nilFunc] },
  some { k:=TK.func,size:=1,bytes:=8,zero:=[Value.nilFunc] },
  some
   {
    k:=TK.struct [(0,3),(1,3)],size:=2,bytes:=16,
    zero:=[Value.int IntKind.i64 (0),Value.int IntKind.i64 (0)] },
  some
   {
    k:=TK.struct [(0,3),(1,3)],size:=2,bytes:=16,
    zero:=[Value.int IntKind.i64 (0),Value.int IntKind.i64 (0)] },
  some
   {
    k:=TK.struct [(0,25),(1,3),(2,4),(3,47)],size:=5,bytes:=40,
    zero :=
     [Value.pointer none,Value.int IntKind.i64 (0),Value.bool false,Value.int IntKind.i64 (0),
      Value.int IntKind.i64 (0)] },
  some
   {
    k:=TK.struct [(0,25),(1,3),(2,4),(3,47)],size:=5,bytes:=40,
    zero :=
     [Value.pointer none,Value.int IntKind.i64 (0),Value.bool false,Value.int IntKind.i64 (0),
      Value.int IntKind.i64 (0)] },
  some { k:=TK.slice 89,size:=1,bytes:=24,zero:=[Value.slice none 0 0] },
  some
   {
    k:=TK.struct [(0,3),(1,3),(2,4),(3,50),(4,44),(5,36)],size:=6,bytes:=80,
    zero :=
     [Value.int IntKind.i64 (0),Value.int IntKind.i64 (0),Value.bool false,
      Value.slice none 0 0,Value.nilFunc,Value.slice none 0 0] },
  some
   {
    k:=TK.struct [(0,3),(1,3),(2,4),(3,50),(4,44),(5,36)],size:=6,bytes:=80,
    zero :=
     [Value.int IntKind.i64 (0),Value.int IntKind.i64 (0),Value.bool false,
      Value.slice none 0 0,Value.nilFunc,Value.slice none 0 0] },
  some { k:=TK.func,size:=1,bytes:=8,zero:=[Value.nilFunc] },
  some { k:=TK.func,size:=1,bytes:=8,zero:=[Value.nilFunc] },
  some { k:=TK.func,size:=1,bytes:=8,zero:=[Value.nilFunc] },
  some { k:=TK.func,size:=1,bytes:=8,zero:=[Value.nilFunc] },
  some { k:=TK.func,size:=1,bytes:=8,zero:=[Value.nilFunc] },
  some { k:=TK.func,size:=1,bytes:=8,zero:=[Value.nilFunc] },
  some { k:=TK.func,size:=1,bytes:=8,zero:=[Value.nilFunc] },
  some { k:=TK.slice 5,size:=1,bytes:=24,zero:=[Value.slice none 0 0] },
  some { k:=TK.func,size:=1,bytes:=8,zero:=[Value.nilFunc] },
  some { k:=TK.ptr 105,size:=1,bytes:=8,zero:=[Value.pointer none] },
  some
   {
    k:=TK.other,size:=1,bytes:=0,
    zero:=[Value.tuple { toList:=[Value.pointer none,Value.int IntKind.i64 (0)] }] },
  some { k:=TK.func,size:=1,bytes:=8,zero:=[Value.nilFunc] },
  some { k:=TK.ptr 68,size:=1,bytes:=8,zero:=[Value.pointer none] },
  some { k:=TK.ptr 139,size:=1,bytes:=8,zero:=[Value.pointer none] },
  some
   {
    k:=TK.struct [(0,25),(1,29),(2,62),(3,66)],size:=4,bytes:=32,
    zero:=[Value.pointer none,Value.pointer none,Value.pointer none,Value.pointer none] },
  some
   {
    k:=TK.struct [(0,25),(1,29),(2,62),(3,66)],size:=4,bytes:=32,
    zero:=[Value.pointer none,Value.pointer none,Value.pointer none,Value.pointer none] },
  some { k:=TK.func,size:=1,bytes:=8,zero:=[Value.nilFunc] },
  some { k:=TK.func,size:=1,bytes:=8,zero:=[Value.nilFunc] },
  some { k:=TK.slice 73,size:=1,bytes:=24,zero:=[Value.slice none 0 0] },
  some
   {
    k:=TK.struct [(0,9),(1,9)],size:=2,bytes:=32,
    zero:=[Value.string ByteArray.empty,Value.string ByteArray.empty] },
  some
   {
    k:=TK.struct [(0,9),(1,9)],size:=2,bytes:=32,
    zero:=[Value.string ByteArray.empty,Value.string ByteArray.empty] },
  some { k:=TK.func,size:=1,bytes:=8,zero:=[Value.nilFunc] },
  some { k:=TK.func,size:=1,bytes:=8,zero:=[Value.nilFunc] },
  some
   {
    k:=TK.other,size:=1,bytes:=0,
    zero :=
     [Value.tuple
      {
       toList :=
        [Value.agg { toList:=[Value.int IntKind.i64 (0),Value.int IntKind.i64 (0)] },
         Value.slice none 0 0,Value.bool false] }] },
  some { k:=TK.func,size:=1,bytes:=8,zero:=[Value.nilFunc] },
  some
   {
    k:=TK.other,size:=1,bytes:=0,
    zero :=
     [Value.tuple { toList:=[Value.string ByteArray.empty,Value.int IntKind.i64 (0)] }] },
  some { k:=TK.func,size:=1,bytes:=8,zero:=[Value.nilFunc] },
  some
   {
    k:=TK.other,size:=1,bytes:=0,
    zero:=[Value.tuple { toList:=[Value.slice none 0 0,Value.int IntKind.i64 (0)] }] },
  some { k:=TK.func,size:=1,bytes:=8,zero:=[Value.nilFunc] },
  some { k:=TK.func,size:=1,bytes:=8,zero:=[Value.nilFunc] },
  some { k:=TK.func,size:=1,bytes:=8,zero:=[Value.nilFunc] },
  some { k:=TK.func,size:=1,bytes:=8,zero:=[Value.nilFunc] },
  some { k:=TK.func,size:=1,bytes:=8,zero:=[Value.nilFunc] },
  some { k:=TK.func,size:=1,bytes:=8,zero:=[Value.nilFunc] },
  some { k:=TK.ptr 89,size:=1,bytes:=8,zero:=[Value.pointer none] },
  some
   {
    k:=TK.struct [(0,9),(1,9),(2,3)],size:=3,bytes:=40,
    zero :=
     [Value.string ByteArray.empty,Value.string ByteArray.empty,
      Value.int IntKind.i64 (0)] },
  some
   {
    k:=TK.struct [(0,9),(1,9),(2,3)],size:=3,bytes:=40,
    zero :=
     [Value.string ByteArray.empty,Value.string ByteArray.empty,
      Value.int IntKind.i64 (0)] },
  some { k:=TK.func,size:=1,bytes:=8,zero:=[Value.nilFunc] },
  some { k:=TK.func,size:=1,bytes:=8,zero:=[Value.nilFunc] },
  some { k:=TK.func,size:=1,bytes:=8,zero:=[Value.nilFunc] },
  some { k:=TK.func,size:=1,bytes:=8,zero:=[Value.nilFunc] },
  some { k:=TK.func,size:=1,bytes:=8,zero:=[Value.nilFunc] },
  some { k:=TK.func,size:=1,bytes:=8,zero:=[Value.nilFunc] },
  some { k:=TK.func,size:=1,bytes:=8,zero:=[Value.nilFunc] },
  some { k:=TK.func,size:=1,bytes:=8,zero:=[Value.nilFunc] },
  some { k:=TK.func,size:=1,bytes:=8,zero:=[Value.nilFunc] },
  some { k:=TK.func,size:=1,bytes:=8,zero:=[Value.nilFunc] },
  some { k:=TK.func,size:=1,bytes:=8,zero:=[Value.nilFunc] },
  some { k:=TK.func,size:=1,bytes:=8,zero:=[Value.nilFunc] },
  some { k:=TK.func,size:=1,bytes:=8,zero:=[Value.nilFunc] },
  some { k:=TK.slice 117,size:=1,bytes:=24,zero:=[Value.slice none 0 0] },
  some
   {
    k:=TK.struct [(0,3),(1,3),(2,4),(3,103),(4,4),(5,3),(6,36)],size:=7,bytes:=88,
    zero :=
     [Value.int IntKind.i64 (0),Value.int IntKind.i64 (0),Value.bool false,
      Value.slice none 0 0,Value.bool false,Value.int IntKind.i64 (0),Value.slice none 0 0] },
  some
   {
    k:=TK.struct [(0,3),(1,3),(2,4),(3,103),(4,4),(5,3),(6,36)],size:=7,bytes:=88,
    zero :=
     [Value.int IntKind.i64 (0),Value.int IntKind.i64 (0),Value.bool false,
      Value.slice none 0 0,Value.bool false,Value.int IntKind.i64 (0),Value.slice none 0 0] },
  some
   {
    k:=TK.other,size:=1,bytes:=0,
    zero :=
     [Value.tuple { toList:=[Value.pointer none,Value.slice none 0 0,Value.int IntKind.i64 (0)] }] },
  some { k:=TK.func,size:=1,bytes:=8,zero:=[Value.nilFunc] },
  some { k:=TK.func,size:=1,bytes:=8,zero:=[Value.nilFunc] },
  some { k:=TK.func,size:=1,bytes:=8,zero:=[Value.nilFunc] },
  some
   {
    k:=TK.other,size:=1,bytes:=0,
    zero:=[Value.tuple { toList:=[Value.int IntKind.i64 (0),Value.bool false] }] },
  some { k:=TK.func,size:=1,bytes:=8,zero:=[Value.nilFunc] },
  some { k:=TK.func,size:=1,bytes:=8,zero:=[Value.nilFunc] },
  some { k:=TK.func,size:=1,bytes:=8,zero:=[Value.nilFunc] },
  some { k:=TK.func,size:=1,bytes:=8,zero:=[Value.nilFunc] },
  some { k:=TK.func,size:=1,bytes:=8,zero:=[Value.nilFunc] },
  some
   {
    k:=TK.struct [(0,9),(1,9),(2,3)],size:=3,bytes:=40,
    zero :=
     [Value.string ByteArray.empty,Value.string ByteArray.empty,
      Value.int IntKind.i64 (0)] },
  some
   {
    k:=TK.struct [(0,9),(1,9),(2,3)],size:=3,bytes:=40,
    zero :=
     [Value.string ByteArray.empty,Value.string ByteArray.empty,
      Value.int IntKind.i64 (0)] },
  some { k:=TK.func,size:=1,bytes:=8,zero:=[Value.nilFunc] },
  some { k:=TK.func,size:=1,bytes:=8,zero:=[Value.nilFunc] },
  some { k:=TK.func,size:=1,bytes:=8,zero:=[Value.nilFunc] },
  some { k:=TK.func,size:=1,bytes:=8,zero:=[Value.nilFunc] },
  some
   {
    k:=TK.other,size:=1,bytes:=0,
    zero :=
     [Value.tuple
      {
       toList :=
        [Value.string ByteArray.empty,Value.int IntKind.i64 (0),Value.bool false] }] },
  some { k:=TK.func,size:=1,bytes:=8,zero:=[Value.nilFunc] },
  some { k:=TK.func,size:=1,bytes:=8,zero:=[Value.nilFunc] },
  some { k:=TK.func,size:=1,bytes:=8,zero:=[Value.nilFunc] },
  some { k:=TK.ptr 128,size:=1,bytes:=8,zero:=[Value.pointer none] },
  some
   { k:=TK.struct [(0,126),(1,60)],size:=2,bytes:=32,zero:=[Value.pointer none,Value.slice none 0 0] },
  some
   { k:=TK.struct [(0,126),(1,60)],size:=2,bytes:=32,zero:=[Value.pointer none,Value.slice none 0 0] },
  some { k:=TK.other,size:=1,bytes:=16,zero:=[Value.nilIface] },
  some { k:=TK.other,size:=1,bytes:=16,zero:=[Value.nilIface] },
  some
   {
    k:=TK.other,size:=1,bytes:=0,
    zero:=[Value.tuple { toList:=[Value.int IntKind.i64 (0),Value.nilIface] }] },
  some { k:=TK.func,size:=1,bytes:=8,zero:=[Value.nilFunc] },
  some { k:=TK.slice 40,size:=1,bytes:=24,zero:=[Value.slice none 0 0] },
  some { k:=TK.func,size:=1,bytes:=8,zero:=[Value.nilFunc] },
  some { k:=TK.func,size:=1,bytes:=8,zero:=[Value.nilFunc] },
  some
   {
    k:=TK.other,size:=1,bytes:=0,
    zero :=
     [Value.tuple
      {
       toList :=
        [Value.int IntKind.i64 (0),Value.slice none 0 0,Value.bool false,Value.slice none 0 0,
         Value.bool false] }] },
  some { k:=TK.func,size:=1,bytes:=8,zero:=[Value.nilFunc] },
  some
   {
    k:=TK.struct [(0,62),(1,3),(2,30),(3,4),(4,3),(5,4)],size:=6,bytes:=64,
    zero :=
     [Value.pointer none,Value.int IntKind.i64 (0),Value.slice none 0 0,Value.bool false,
      Value.int IntKind.i64 (0),Value.bool false] },
  some
   {
    k:=TK.struct [(0,62),(1,3),(2,30),(3,4),(4,3),(5,4)],size:=6,bytes:=64,
    zero :=
     [Value.pointer none,Value.int IntKind.i64 (0),Value.slice none 0 0,Value.bool false,
      Value.int IntKind.i64 (0),Value.bool false] },
  some { k:=TK.func,size:=1,bytes:=8,zero:=[Value.nilFunc] },
  some { k:=TK.func,size:=1,bytes:=8,zero:=[Value.nilFunc] },
  some
   {
    k:=TK.other,size:=1,bytes:=0,
    zero:=[Value.tuple { toList:=[Value.string ByteArray.empty,Value.bool false] }] },
  some { k:=TK.func,size:=1,bytes:=8,zero:=[Value.nilFunc] },
  some { k:=TK.func,size:=1,bytes:=8,zero:=[Value.nilFunc] },
  some
   {
    k:=TK.other,size:=1,bytes:=0,
    zero:=[Value.tuple { toList:=[Value.int IntKind.i64 (0),Value.int IntKind.i64 (0)] }] },
  some { k:=TK.func,size:=1,bytes:=8,zero:=[Value.nilFunc] },
  some { k:=TK.func,size:=1,bytes:=8,zero:=[Value.nilFunc] },
  some { k:=TK.func,size:=1,bytes:=8,zero:=[Value.nilFunc] },
  some { k:=TK.func,size:=1,bytes:=8,zero:=[Value.nilFunc] },
  some { k:=TK.func,size:=1,bytes:=8,zero:=[Value.nilFunc] },
  some { k:=TK.func,size:=1,bytes:=8,zero:=[Value.nilFunc] },
  some { k:=TK.func,size:=1,bytes:=8,zero:=[Value.nilFunc] },
  some
   {
    k:=TK.other,size:=1,bytes:=0,
    zero :=
     [Value.tuple
      {
       toList :=
        [Value.int IntKind.i64 (0),Value.int IntKind.i64 (0),Value.bool false] }] },
  some { k:=TK.func,size:=1,bytes:=8,zero:=[Value.nilFunc] },
  some { k:=TK.ptr 5,size:=1,bytes:=8,zero:=[Value.pointer none] },
  some { k:=TK.func,size:=1,bytes:=8,zero:=[Value.nilFunc] },
  some { k:=TK.func,size:=1,bytes:=8,zero:=[Value.nilFunc] },
  some { k:=TK.func,size:=1,bytes:=8,zero:=[Value.nilFunc] },
  some { k:=TK.int IntKind.u64,size:=1,bytes:=8,zero:=[Value.int IntKind.u64 (0)] },
  some { k:=TK.int IntKind.u64,size:=1,bytes:=8,zero:=[Value.int IntKind.u64 (0)] },
  some { k:=TK.int IntKind.u32,size:=1,bytes:=4,zero:=[Value.int IntKind.u32 (0)] },
  some { k:=TK.func,size:=1,bytes:=8,zero:=[Value.nilFunc] },
  some
   {
    k:=TK.arr 4 5,size:=4,bytes:=4,
    zero :=
     [Value.int IntKind.u8 (0),Value.int IntKind.u8 (0),Value.int IntKind.u8 (0),
      Value.int IntKind.u8 (0)] },
  some { k:=TK.other,size:=1,bytes:=8,zero:=[Value.pointer none] },
  some { k:=TK.func,size:=1,bytes:=8,zero:=[Value.nilFunc] },
  some
   {
    k:=TK.arr 24 5,size:=24,bytes:=24,
    zero :=
     [Value.int IntKind.u8 (0),Value.int IntKind.u8 (0),Value.int IntKind.u8 (0),
      Value.int IntKind.u8 (0),Value.int IntKind.u8 (0),Value.int IntKind.u8 (0),
      Value.int IntKind.u8 (0),Value.int IntKind.u8 (0),Value.int IntKind.u8 (0),
      Value.int IntKind.u8 (0),Value.int IntKind.u8 (0),Value.int IntKind.u8 (0),
      Value.int IntKind.u8 (0),Value.int IntKind.u8 (0),Value.int IntKind.u8 (0),
      Value.int IntKind.u8 (0),Value.int IntKind.u8 (0),Value.int IntKind.u8 (0),
      Value.int IntKind.u8 (0),Value.int IntKind.u8 (0),Value.int IntKind.u8 (0),
      Value.int IntKind.u8 (0),Value.int IntKind.u8 (0),Value.int IntKind.u8 (0)] },
  some { k:=TK.func,size:=1,bytes:=8,zero:=[Value.nilFunc] },
  some { k:=TK.func,size:=1,bytes:=8,zero:=[Value.nilFunc] },
  some
   {
    k:=TK.other,size:=1,bytes:=0,
    zero:=[Value.tuple { toList:=[Value.slice none 0 0,Value.string ByteArray.empty] }] },
  some { k:=TK.func,size:=1,bytes:=8,zero:=[Value.nilFunc] },
  some { k:=TK.func,size:=1,bytes:=8,zero:=[Value.nilFunc] },
  some { k:=TK.func,size:=1,bytes:=8,zero:=[Value.nilFunc] },
  some { k:=TK.func,size:=1,bytes:=8,zero:=[Value.nilFunc] },
  some { k:=TK.func,size:=1,bytes:=8,zero:=[Value.nilFunc] },
  some { k:=TK.func,size:=1,bytes:=8,zero:=[Value.nilFunc] },
  some
   {
    k:=TK.arr 20 160,size:=20,bytes:=160,
    zero :=
     [Value.int IntKind.u64 (0),Value.int IntKind.u64 (0),Value.int IntKind.u64 (0),
      Value.int IntKind.u64 (0),Value.int IntKind.u64 (0),Value.int IntKind.u64 (0),
      Value.int IntKind.u64 (0),Value.int IntKind.u64 (0),Value.int IntKind.u64 (0),
      Value.int IntKind.u64 (0),Value.int IntKind.u64 (0),Value.int IntKind.u64 (0),
      Value.int IntKind.u64 (0),Value.int IntKind.u64 (0),Value.int IntKind.u64 (0),
      Value.int IntKind.u64 (0),Value.int IntKind.u64 (0),Value.int IntKind.u64 (0),
      Value.int IntKind.u64 (0),Value.int IntKind.u64 (0)] },
  some
   {
    k:=TK.arr 65 5,size:=65,bytes:=65,
    zero :=
     [Value.int IntKind.u8 (0),Value.int IntKind.u8 (0),Value.int IntKind.u8 (0),
      Value.int IntKind.u8 (0),Value.int IntKind.u8 (0),Value.int IntKind.u8 (0),
      Value.int IntKind.u8 (0),Value.int IntKind.u8 (0),Value.int IntKind.u8 (0),
      Value.int IntKind.u8 (0),Value.int IntKind.u8 (0),Value.int IntKind.u8 (0),
      Value.int IntKind.u8 (0),Value.int IntKind.u8 (0),Value.int IntKind.u8 (0),
      Value.int IntKind.u8 (0),Value.int IntKind.u8 (0),Value.int IntKind.u8 (0),
      Value.int IntKind.u8 (0),Value.int IntKind.u8 (0),Value.int IntKind.u8 (0),
      Value.int IntKind.u8 (0),Value.int IntKind.u8 (0),Value.int IntKind.u8 (0),
      Value.int IntKind.u8 (0),Value.int IntKind.u8 (0),Value.int IntKind.u8 (0),
      Value.int IntKind.u8 (0),Value.int IntKind.u8 (0),Value.int IntKind.u8 (0),
      Value.int IntKind.u8 (0),Value.int IntKind.u8 (0),Value.int IntKind.u8 (0),
      Value.int IntKind.u8 (0),Value.int IntKind.u8 (0),Value.int IntKind.u8 (0),
      Value.int IntKind.u8 (0),Value.int IntKind.u8 (0),Value.int IntKind.u8 (0),
      Value.int IntKind.u8 (0),Value.int IntKind.u8 (0),Value.int IntKind.u8 (0),
      Value.int IntKind.u8 (0),Value.int IntKind.u8 (0),Value.int IntKind.u8 (0),
      Value.int IntKind.u8 (0),Value.int IntKind.u8 (0),Value.int IntKind.u8 (0),
      Value.int IntKind.u8 (0),Value.int IntKind.u8 (0),Value.int IntKind.u8 (0),
      Value.int IntKind.u8 (0),Value.int IntKind.u8 (0),Value.int IntKind.u8 (0),
      Value.int IntKind.u8 (0),Value.int IntKind.u8 (0),Value.int IntKind.u8 (0),
      Value.int IntKind.u8 (0),Value.int IntKind.u8 (0),Value.int IntKind.u8 (0),
      Value.int IntKind.u8 (0),Value.int IntKind.u8 (0),Value.int IntKind.u8 (0),
      Value.int IntKind.u8 (0),Value.int IntKind.u8 (0)] },
  some { k:=TK.func,size:=1,bytes:=8,zero:=[Value.nilFunc] },
  some { k:=TK.func,size:=1,bytes:=8,zero:=[Value.nilFunc] },
  some { k:=TK.func,size:=1,bytes:=8,zero:=[Value.nilFunc] },
  some { k:=TK.func,size:=1,bytes:=8,zero:=[Value.nilFunc] },
  some { k:=TK.func,size:=1,bytes:=8,zero:=[Value.nilFunc] },
  some
   {
    k:=TK.arr 32 5,size:=32,bytes:=32,
    zero :=
     [Value.int IntKind.u8 (0),Value.int IntKind.u8 (0),Value.int IntKind.u8 (0),
      Value.int IntKind.u8 (0),Value.int IntKind.u8 (0),Value.int IntKind.u8 (0),
      Value.int IntKind.u8 (0),Value.int IntKind.u8 (0),Value.int IntKind.u8 (0),
      Value.int IntKind.u8 (0),Value.int IntKind.u8 (0),Value.int IntKind.u8 (0),
      Value.int IntKind.u8 (0),Value.int IntKind.u8 (0),Value.int IntKind.u8 (0),
      Value.int IntKind.u8 (0),Value.int IntKind.u8 (0),Value.int IntKind.u8 (0),
      Value.int IntKind.u8 (0),Value.int IntKind.u8 (0),Value.int IntKind.u8 (0),
      Value.int IntKind.u8 (0),Value.int IntKind.u8 (0),Value.int IntKind.u8 (0),
      Value.int IntKind.u8 (0),Value.int IntKind.u8 (0),Value.int IntKind.u8 (0),
      Value.int IntKind.u8 (0),Value.int IntKind.u8 (0),Value.int IntKind.u8 (0),
      Value.int IntKind.u8 (0),Value.int IntKind.u8 (0)] },
  some
   {
    k:=TK.arr 64 5,size:=64,bytes:=64,
    zero :=
     [Value.int IntKind.u8 (0),Value.int IntKind.u8 (0),Value.int IntKind.u8 (0),
      Value.int IntKind.u8 (0),Value.int IntKind.u8 (0),Value.int IntKind.u8 (0),
      Value.int IntKind.u8 (0),Value.int IntKind.u8 (0),Value.int IntKind.u8 (0),
      Value.int IntKind.u8 (0),Value.int IntKind.u8 (0),Value.int IntKind.u8 (0),
      Value.int IntKind.u8 (0),Value.int IntKind.u8 (0),Value.int IntKind.u8 (0),
      Value.int IntKind.u8 (0),Value.int IntKind.u8 (0),Value.int IntKind.u8 (0),
      Value.int IntKind.u8 (0),Value.int IntKind.u8 (0),Value.int IntKind.u8 (0),
      Value.int IntKind.u8 (0),Value.int IntKind.u8 (0),Value.int IntKind.u8 (0),
      Value.int IntKind.u8 (0),Value.int IntKind.u8 (0),Value.int IntKind.u8 (0),
      Value.int IntKind.u8 (0),Value.int IntKind.u8 (0),Value.int IntKind.u8 (0),
      Value.int IntKind.u8 (0),Value.int IntKind.u8 (0),Value.int IntKind.u8 (0),
      Value.int IntKind.u8 (0),Value.int IntKind.u8 (0),Value.int IntKind.u8 (0),
      Value.int IntKind.u8 (0),Value.int IntKind.u8 (0),Value.int IntKind.u8 (0),
      Value.int IntKind.u8 (0),Value.int IntKind.u8 (0),Value.int IntKind.u8 (0),
      Value.int IntKind.u8 (0),Value.int IntKind.u8 (0),Value.int IntKind.u8 (0),
      Value.int IntKind.u8 (0),Value.int IntKind.u8 (0),Value.int IntKind.u8 (0),
      Value.int IntKind.u8 (0),Value.int IntKind.u8 (0),Value.int IntKind.u8 (0),
      Value.int IntKind.u8 (0),Value.int IntKind.u8 (0),Value.int IntKind.u8 (0),
      Value.int IntKind.u8 (0),Value.int IntKind.u8 (0),Value.int IntKind.u8 (0),
      Value.int IntKind.u8 (0),Value.int IntKind.u8 (0),Value.int IntKind.u8 (0),
      Value.int IntKind.u8 (0),Value.int IntKind.u8 (0),Value.int IntKind.u8 (0),
      Value.int IntKind.u8 (0)] },
  some
   {
    k:=TK.struct [(0,17),(1,17),(2,17),(3,9)],size:=4,bytes:=40,
    zero:=[Value.pointer none,Value.pointer none,Value.pointer none,Value.string ByteArray.empty] },
  some
   {
    k:=TK.struct [(0,17),(1,17),(2,17),(3,9)],size:=4,bytes:=40,
    zero:=[Value.pointer none,Value.pointer none,Value.pointer none,Value.string ByteArray.empty] },
  some { k:=TK.arr 0 16,size:=0,bytes:=0,zero:=[] },
  some { k:=TK.struct [(0,187)],size:=0,bytes:=0,zero:=[] },
  some { k:=TK.struct [(0,187)],size:=0,bytes:=0,zero:=[] },
  some { k:=TK.int IntKind.u8,size:=1,bytes:=1,zero:=[Value.int IntKind.u8 (0)] },
  some { k:=TK.int IntKind.u8,size:=1,bytes:=1,zero:=[Value.int IntKind.u8 (0)] },
  some { k:=TK.func,size:=1,bytes:=8,zero:=[Value.nilFunc] },
  some { k:=TK.int IntKind.i32,size:=1,bytes:=4,zero:=[Value.int IntKind.i32 (0)] },
  some { k:=TK.int IntKind.i32,size:=1,bytes:=4,zero:=[Value.int IntKind.i32 (0)] },
  some
   {
    k :=
     TK.struct
      [(0,12),(1,12),(2,161),(3,190),(4,5),(5,5),(6,191),(7,192),(8,155),(9,193),(10,194)],
    size:=11,bytes:=48,
    zero :=
     [Value.int IntKind.u64 (0),Value.int IntKind.u64 (0),Value.int IntKind.u32 (0),
      Value.int IntKind.u8 (0),Value.int IntKind.u8 (0),Value.int IntKind.u8 (0),
      Value.int IntKind.u8 (0),Value.nilFunc,Value.pointer none,Value.int IntKind.i32 (0),
      Value.int IntKind.i32 (0)] },
  some
   {
    k :=
     TK.struct
      [(0,12),(1,12),(2,161),(3,190),(4,5),(5,5),(6,191),(7,192),(8,155),(9,193),(10,194)],
    size:=11,bytes:=48,
    zero :=
     [Value.int IntKind.u64 (0),Value.int IntKind.u64 (0),Value.int IntKind.u32 (0),
      Value.int IntKind.u8 (0),Value.int IntKind.u8 (0),Value.int IntKind.u8 (0),
      Value.int IntKind.u8 (0),Value.nilFunc,Value.pointer none,Value.int IntKind.i32 (0),
      Value.int IntKind.i32 (0)] }]
theorem Tryz.tab_ok:TabOk Tryz.prog Tryz.tab:=tabOk_of (n:=197) (by kernel_rfl)
def Tryz.tbs:Tbs:=⟨Tryz.tab,2,193,[124,148,169,170,171,172,173,174,175,176,177,178,179,180,181,182,183,184,185,186,187,188,189,190,191]⟩
theorem Tryz.tbs_ok:TbsOk Tryz.prog Tryz.tbs:=⟨by kernel_rfl,Tryz.tab_ok,fns_of (by kernel_rfl)⟩
end Go.Proofs
namespace Go.Sy
open Go
/-! words for cells -/
abbrev pP (p:Nat):Value:=.pointer (some ⟨p,0,none⟩)
abbrev vP (p:Nat):SV:=.va (.pointer (some ⟨p,0,none⟩))
abbrev vI (z:Int):SV:=.va (.int .i64 z)
abbrev vL (A:Option Addr) (n c:Nat):SV:=.va (.slice A n c)
theorem aG {E:Entry} {Q:Exit→St→Prop} {l:List It} {st:St} (h:outSat Proofs.Tryz.prog E Q (Sy.start Proofs.Tryz.tbs 1000 l st)):Go Proofs.Tryz.prog E l st Q:=go Proofs.Tryz.tbs_ok 1000 h
theorem aE {P:Program} {E:Entry} {Q:Exit→St→Prop} {a b c:Prop} {o:Out} (h:outSat P E Q o) (ha:a:=by repeat (first | exact trivial | refine ⟨rfl,?_⟩)) (hb:b:=by rfl) (hc:c:=by kernel_rfl):outSat P E Q (.need ((a∧b)∧c) o):=ev_need ⟨⟨ha,hb⟩,hc⟩ h
theorem aK {P:Program} {E:Entry} {Q:Exit→St→Prop} {c:Prop} {o:Out} (h:outSat P E Q o) (hc:c:=by kernel_rfl):outSat P E Q (.need c o):=ev_need hc h
theorem aI {E:Entry} {Q:Exit→St→Prop} {b:Bool} {t1 t2:List It} {s1 s2:St} (h:outSat Proofs.Tryz.prog E Q (Sy.start Proofs.Tryz.tbs 1000 t2 s2)) (hb:b=false:=by rfl):outSat Proofs.Tryz.prog E Q (.iff b t1 s1 t2 s2):=ev_if_no hb (aG h)
theorem aJ {E:Entry} {Q:Exit→St→Prop} {b:Bool} {t1 t2:List It} {s1 s2:St} (h:outSat Proofs.Tryz.prog E Q (Sy.start Proofs.Tryz.tbs 1000 t1 s1)) (hb:b=true:=by rfl):outSat Proofs.Tryz.prog E Q (.iff b t1 s1 t2 s2):=ev_if_yes hb (aG h)
theorem aC {f:FuncId} {args:List Value} {M N:List Asn} {X:Type} {ret:X→Value} {good:X→Prop} {after:X→List Asn} (T:Triple Proofs.Tryz.prog f args M N X ret good after) {E:Entry} {Q:Exit→St→Prop} {svs:List SV} {d:Option Tmp} {todo:List It} {st:St} (sel:List Nat) (nsel:List (Nat ⊕ Nat))
 (h:∀ x,good x→outSat Proofs.Tryz.prog E Q (Sy.start Proofs.Tryz.tbs 1000 todo ((⟨st.fr,place st.res sel (List.map Res.fact (after x)),st.ro⟩:St).put d (normV (ret x)))))
 (h1:SV.denL svs=args:=by rfl) (h2:List.map (asnAt st.res) sel=List.map some M:=by rfl) (h3:sel.Nodup:=by decide) (h4:List.map (lent st) nsel=List.map some N:=by rfl) (h5:∀ i,Sum.inr i∈nsel→¬ i∈sel:=by simp) (h6:∀ x,blkLe st.res (place st.res sel (List.map Res.fact (after x))):=by intro _;repeat (first | exact trivial | refine ⟨rfl,?_⟩)) :
 outSat Proofs.Tryz.prog E Q (.call f svs d todo st):=ev_callF T sel nsel h1 h2 h3 h4 h5 h6 fun x hx=>aG (h x hx)
theorem aD {f:FuncId} {args:List Value} {M N:List Asn} {X:Type} {ret:X→Value} {good:X→Prop} {after:X→List Asn} (T:Triple Proofs.Tryz.prog f args M N X ret good after) {E:Entry} {Q:Exit→St→Prop} {svs:List SV} {d:Option Tmp} {todo:List It} {st:St} (sel:List Nat) (nsel:List (Nat ⊕ Nat)) (news:X→List Res)
 (h:∀ x,good x→outSat Proofs.Tryz.prog E Q (Sy.start Proofs.Tryz.tbs 1000 todo ((⟨st.fr,place st.res sel (news x),st.ro⟩:St).put d (normV (ret x)))))
 (h1:SV.denL svs=args:=by rfl) (h2:List.map (asnAt st.res) sel=List.map some M:=by rfl) (h3:sel.Nodup:=by decide) (h4:List.map (lent st) nsel=List.map some N:=by rfl) (h5:∀ i,Sum.inr i∈nsel→¬ i∈sel:=by simp) (h6:∀ x,List.map Res.asn (news x)=after x:=by intro _;rfl)
 (h7:∀ x,newsOk (blkAt (place st.res sel (news x))) (news x):=by intro _;repeat (first | exact newsOk_nil _ | refine newsOk_fact ?_ | refine newsOk_box (by simp [SV.good,SV.goodL]) ?_)) (h8:∀ x,blkLe st.res (place st.res sel (news x)):=by intro _;repeat (first | exact trivial | refine ⟨rfl,?_⟩)) :
 outSat Proofs.Tryz.prog E Q (.call f svs d todo st):=ev_call T sel nsel news h1 h2 h3 h4 h5 h6 h7 h8 fun x hx=>aG (h x hx)
theorem aF {res:List Res} {l:List Asn} (sel:List Nat) (h1:sel.map (asnAt res)=l.map some:=by rfl) (h2:sel.Nodup:=by decide):Frm res l:=Frm.sel sel h1 h2
theorem aT {f:FuncId} {fn:Func} {c:Code} (hf:Proofs.Tryz.prog.funcs[f]? = some fn) (svs:List SV) (res:List Res) {N:List Asn} {X:Type} {ret:X→Value} {good:X→Prop} {post:X→List Asn}
 (h:∀ E,Go Proofs.Tryz.prog E [.c c] ⟨svs++List.replicate (fn.ntmps-svs.length) (.va undef),res,N⟩ (Ends Proofs.Tryz.tbs.tab fn X ret good post)) (hgood:SV.goodL (blkAt res) svs) (hb:fn.body=some c:=by rfl) (hno:noNo svs=true:=by rfl) (hcells:∀ x∈res,match x with | .box _ _ cs=>SV.goodL (blkAt res) cs | _=>True:=by simp [SV.good,SV.goodL,blkAt,Res.blk]) :
 Triple Proofs.Tryz.prog f (SV.denL svs) (res.map Res.asn) N X ret good post:=triple_intro Proofs.Tryz.tbs_ok hf hb svs res hgood hno hcells h
theorem aL {a:Prop} (h:a:=by repeat (first | exact trivial | refine ⟨rfl,?_⟩)):a:=h
theorem aB {a b c:Prop} (ha:a:=by repeat (first | exact trivial | refine ⟨rfl,?_⟩)) (hb:b:=by rfl) (hc:c:=by kernel_rfl):(a∧b)∧c:=⟨⟨ha,hb⟩,hc⟩
theorem aS {st st':St} (h1:FrLe st.fr st'.fr:=by exact ⟨by kernel_rfl,by kernel_rfl⟩) (h2:ResLe st.res st'.res:=by exact ⟨_,rfl⟩) (h3:∃ t,st.ro=st'.ro++t:=by exact ⟨_,rfl⟩) (h4:st'.fr.all (SV.in_ st'.res.length)=true:=by kernel_rfl) (h5:st'.res.all (resIn st'.res.length)=true:=by kernel_rfl):StLe st st':=⟨h1,h2,h3,h4,h5⟩
theorem wN {P:Program} {E:Entry} {Q:Exit→St→Prop} {e:Int} {c:Int→Out} (n:Nat) (h:outSat P E Q (c (n:Int))) (hz : -9223372036854775808≤e∧e≤9223372036854775807:=by constructor<;>omega) (hn:e=(n:Int):=by rfl):outSat P E Q (.wrap .i64 e c):=ev_wrapN n hz hn h
theorem wO {P:Program} {E:Entry} {Q:Exit→St→Prop} {e:Int} {c:Int→Out} (n:Nat) (h:outSat P E Q (c (n:Int))) (hz : -9223372036854775808≤e∧e≤9223372036854775807:=by constructor<;>omega) (hn:e=(n:Int):=by omega):outSat P E Q (.wrap .i64 e c):=ev_wrapN n hz hn h
theorem w6 {P:Program} {E:Entry} {Q:Exit→St→Prop} {e:Int} {c:Int→Out} (h:outSat P E Q (c e)) (hz : -9223372036854775808≤e∧e≤9223372036854775807:=by constructor<;>omega):outSat P E Q (.wrap .i64 e c):=ev_w64 hz h
theorem aM {n:Nat} (s:Nat) (h:s≤1000000000:=by omega) (e:n=s:=by first | rfl | omega):n≤maxLen:=le_app h e
theorem aN {n b:Nat} (s:Nat) (h:s≤1000000000:=by omega) (e:n=s:=by first | rfl | omega) (hb:b≤100000:=by decide):n*b≤140737488355328:=le_appb h e hb
end Go.Sy
namespace Go.Proofs.YtjlfdfmkofbccaaGreatDoor
open Go.Sy
structure Fl where
 n:ByteArray
 d:ByteArray
 s:Int
 deriving DecidableEq
def encF (x:Fl):List Value:=[.string x.n,.string x.d,.int .i64 x.s]
def encN (x:Int):List Value:=[.int .i64 x]
theorem encN_len (x:Int):(encN x).length=1:=rfl
def encS (x:ByteArray):List Value:=[.string x]
theorem encS_len (x:ByteArray):(encS x).length=1:=rfl
def cmpS (a b:ByteArray):Int:=if ltS a b then -1 else if ltS b a then 1 else 0
theorem cmpS_neg {a b:ByteArray}:cmpS a b<0↔ltS a b:=by
 unfold cmpS
 split
 · rename_i h;simp [h]
 rename_i h
 split<;>simp [h]
theorem cmpS_zero {a b:ByteArray}:cmpS a b=0↔a=b:=by
 unfold cmpS
 split
 · rename_i h;simp [h.ne]
 rename_i h
 split
 · rename_i h2;simp [h2.ne.symm]
 rename_i h2;simp [ltS.total h h2]
def riseF (L:List Fl):Prop:=L.Pairwise fun a b=>ltS a.n b.n
def posF (L:List Fl) (x:ByteArray):Nat:=L.countP fun f=>decide (ltS f.n x)
def hasF (L:List Fl) (x:ByteArray):Bool:=L.any fun f=>decide (f.n=x)
theorem posF_le (L:List Fl) (x:ByteArray):posF L x≤L.length:=List.countP_le_length
theorem posF_of {L:List Fl} {x:ByteArray} {i:Nat} (hi:i≤L.length) (h1:∀ y∈L.take i,ltS y.n x) (h2:∀ y∈L.drop i,¬ ltS y.n x):posF L x=i:=by
 unfold posF
 rw [←List.take_append_drop i L,List.countP_append]
 have e1:(L.take i).countP (fun f=>decide (ltS f.n x))=(L.take i).length:=List.countP_eq_length.2 fun y hy=>decide_eq_true (h1 y hy)
 have e2:(L.drop i).countP (fun f=>decide (ltS f.n x))=0:=List.countP_eq_zero.2 fun y hy=>by
  have:=h2 y hy
  simpa using this
 rw [e1,e2,List.length_take]
 omega
theorem riseF_take {L:List Fl} (hs:riseF L) {x:ByteArray} {m:Nat} (hm:m<L.length) (h:ltS L[m].n x):∀ y∈L.take (m+1),ltS y.n x:=fun y hy=>by
 obtain ⟨k,hk,rfl⟩:=List.getElem_of_mem hy
 rw [List.length_take] at hk
 rw [List.getElem_take]
 rcases Nat.lt_or_ge k m with h2 | h2
 · exact (List.pairwise_iff_getElem.1 hs k m (by omega) hm h2).trans h
 obtain rfl:k=m:=by omega
 exact h
theorem riseF_drop {L:List Fl} (hs:riseF L) {x:ByteArray} {m:Nat} (hm:m<L.length) (h:¬ ltS L[m].n x):∀ y∈L.drop m,¬ ltS y.n x:=fun y hy=>by
 obtain ⟨k,hk,rfl⟩:=List.getElem_of_mem hy
 rw [List.length_drop] at hk
 rw [List.getElem_drop]
 rcases Nat.eq_zero_or_pos k with h2 | h2
 · subst h2
   exact h
 have:=List.pairwise_iff_getElem.1 hs m (m+k) hm (by omega) (by omega)
 exact fun h3=>h (this.trans h3)
theorem hasF_at {L:List Fl} (hs:riseF L) {x:ByteArray} {i:Nat} (hi:i<L.length) (h1:∀ y∈L.take i,ltS y.n x) (h2:∀ y∈L.drop i,¬ ltS y.n x):hasF L x=decide (L[i].n=x):=by
 unfold hasF
 rw [Bool.eq_iff_iff,List.any_eq_true,decide_eq_true_iff]
 constructor
 · rintro ⟨y,hy,e⟩
   have e:=of_decide_eq_true e
   obtain ⟨k,hk,rfl⟩:=List.getElem_of_mem hy
   rcases Nat.lt_trichotomy k i with h | h | h
   · exact absurd e (h1 _ (List.mem_take_iff_getElem.2 ⟨k,by omega,rfl⟩)).ne
   · subst h;exact e
   have h3:=List.pairwise_iff_getElem.1 hs i k hi hk h
   rw [e] at h3
   exact absurd h3 (h2 _ (List.mem_drop_iff_getElem.2 ⟨0,by omega,by simp⟩))
 intro e
 exact ⟨_,List.getElem_mem hi,decide_eq_true e⟩
theorem hasF_end {L:List Fl} {x:ByteArray} (h1:∀ y∈L,ltS y.n x):hasF L x=false:=by
 unfold hasF
 rw [List.any_eq_false]
 intro y hy
 simpa using (h1 y hy).ne
theorem nan (a:ByteArray):Triple Tryz.prog 144 [.string a] [] [] Unit (fun _=>.bool false) (fun _=>True) (fun _=>[]):=by
 refine aT Tryz.func144 [.va (.string a)] [] (fun E=>?_) ⟨trivial,trivial⟩
 refine aG ?_
 refine ev_fin ⟨trivial,_,rfl,(()),?_,(by trivial),Frm.nil _⟩
 exact congrArg Value.bool (by simp)
theorem cmpT (a b:ByteArray):Triple Tryz.prog 123 [.string a,.string b] [] [] Unit (fun _=>.int .i64 (cmpS a b)) (fun _=>True) (fun _=>[]):=by
 refine aT Tryz.func123 [.va (.string a),.va (.string b)] [] (fun E=>?_) ⟨trivial,trivial,trivial⟩
 refine aG ?_
 refine aC (nan (a)) [] [] fun _ h0=>?_
 refine aC (nan (b)) [] [] fun _ h1=>?_
 refine aI (aI ?_)
 refine ev_stop (go_bin (.bq (decide (ltS (a) (b)))) trivial rfl rfl rfl rfl rfl (by decide) (by decide) (fun w=>lss_runS w) ?_)
 refine aG ?_
 refine ev_if_lt (fun h2=>?_) (fun h2=>?_)
 refine aG ?_
 refine ev_fin ⟨trivial,_,rfl,(()),?_,(by trivial),Frm.nil _⟩
 rotate_left
 refine aG ?_
 refine ev_stop (go_bin (.bq (decide (ltS (b) (a)))) trivial rfl rfl rfl rfl rfl (by decide) (by decide) (fun w=>gtr_runS w) ?_)
 refine aG ?_
 refine ev_if_lt (fun h3=>?_) (fun h3=>?_)
 refine aG ?_
 refine ev_fin ⟨trivial,_,rfl,(()),?_,(by trivial),Frm.nil _⟩
 rotate_left
 refine aG ?_
 refine ev_fin ⟨trivial,_,rfl,(()),?_,(by trivial),Frm.nil _⟩
 rotate_left
 · show Value.int .i64 (-1)=Value.int .i64 (cmpS a b)
   rw [cmpS,if_pos h2]
 · show Value.int .i64 1=Value.int .i64 (cmpS a b)
   rw [cmpS,if_neg h2,if_pos h3]
 show Value.int .i64 0=Value.int .i64 (cmpS a b)
 rw [cmpS,if_neg h2,if_neg h3]
theorem nameCmp (f:Fl) (x:ByteArray):Triple Tryz.prog 122 [.agg #[.string f.n,.string f.d,.int .i64 f.s],.string x] [] [] Unit (fun _=>.int .i64 (cmpS f.n x)) (fun _=>True) (fun _=>[]):=by
 refine aT Tryz.func122 [.ag [.va (.string f.n),.va (.string f.d),vI f.s],.va (.string x)] [] (fun E=>?_) ⟨by simp [SV.good,SV.goodL],trivial,trivial⟩
 refine aG ?_
 refine ev_new fun b0=>?_
 refine aC (cmpT (f.n) (x)) [] [] fun _ h1=>?_
 refine ev_fin ⟨trivial,_,rfl,(()),rfl,(by trivial),Frm.nil _⟩
theorem searchF (A:Option Addr) (L:List Fl) (n c:Nat) (x:ByteArray) (hn:n=L.length) (h1:n≤1000) (hs:riseF L) :
 Triple Tryz.prog 121 [.slice A n c,.string x,.func (.func 122) #[] #[]] [] [Rd 3 A n (L.flatMap encF)] Unit (fun _=>.tuple #[.int .i64 (posF L x:Nat),.bool (hasF L x)]) (fun _=>True) (fun _=>[]):=by
 refine aT Tryz.func121 [vL A n c,.va (.string x),.va (.func (.func 122) #[] #[])] [] (fun E=>?_) ⟨trivial,trivial,trivial,trivial⟩
 refine aG ?_
 refine ev_stop (go_loopR [9,10,11,15,16,17,18,19,20,21,22,23,24,25,26,27,28,29,30,31,32,33,34] (fun (i,j)=>[(9,vI (i:Nat)),(10,vI (j:Nat))]) (fun _=>[]) (fun (i,j)=>i≤j∧j≤n∧(∀ y∈L.take i,ltS y.n x)∧∀ y∈L.drop j,¬ ltS y.n x) (fun (i,j)=>j-i) ((0,n):Nat × Nat) ⟨Nat.zero_le _,Nat.le_refl _,(fun y h=>by simp at h),(fun y h=>by rw [List.drop_of_length_le (by omega)] at h;cases h)⟩ aS (fun x_ h_=>?_))
 obtain ⟨i,j⟩:=x_
 obtain ⟨hij,hj,hlo,hhi⟩:=h_
 refine aG ?_
 refine ev_if_lt (fun h20=>?_) (fun h20=>?_)
 refine aG ?_
 refine wN (i+j) ?_
 refine ev_wu64 (show 0≤(↑(i+j):Int)∧(↑(i+j):Int)<18446744073709551616 from (by constructor<;>omega)) ?_
 refine ev_stop (go_bin (.va _) trivial rfl rfl rfl rfl rfl (by decide) (by decide) (fun w=>shr_run (show 0≤1 from (by omega)) w) ?_)
 refine aG ?_
 rotate_left
 refine aG ?_
 refine ev_fin (go Tryz.tbs_ok 1000 ?_)
 refine ev_if_lt (fun h21=>?_) (fun h21=>?_)
 refine aG ?_
 refine ev_stop (go_indexE (sz:=3) Tryz.tbs_ok (.inl 0) (i) rfl rfl rfl rfl rfl rfl (by omega) rfl (fun _ h=>h) (fun g22 o24 e23=>?_))
 subst e23
 refine aG ?_
 have l25:i<(L).length:=(by omega)
 refine ev_stop (go_loadE Tryz.tbs_ok (.inl 0) (i) 0 rfl rfl rfl rfl (fun _ h=>h) (by omega) (fun _=>rfl) (by omega) l25 (by decide) ?_)
 refine aG ?_
 refine aC (nameCmp (L[i]) (x)) [] [] fun _ h26=>?_
 refine ev_fin ⟨trivial,_,rfl,(()),?_,(by trivial),Frm.nil _⟩
 rotate_left
 refine aG ?_
 refine ev_fin ⟨trivial,_,rfl,(()),?_,(by trivial),Frm.nil _⟩
 rotate_left
 · have e:((i+j:Nat):Int).fdiv (2 ^ min (Int.toNat 1) IntKind.u64.bits)=(((i+j) / 2:Nat):Int):=by
    rw [show (2:Int) ^ min (Int.toNat 1) IntKind.u64.bits=2 from rfl,Int.fdiv_eq_ediv_of_nonneg _ (by omega)]
    omega
   refine ev_wrapN ((i+j) / 2) (by rw [e];omega) e ?_
   refine ev_stop (go_indexE (sz:=3) Tryz.tbs_ok (.inl 0) ((i+j) / 2) rfl rfl rfl rfl rfl rfl (by omega) rfl (fun _ h=>h) (fun g60 o62 e61=>?_))
   subst e61
   refine aG ?_
   have l63:(i+j) / 2<(L).length:=(by omega)
   refine ev_stop (go_loadE Tryz.tbs_ok (.inl 0) ((i+j) / 2) 0 rfl rfl rfl rfl (fun _ h=>h) (by omega) (fun _=>rfl) (by omega) l63 (by decide) ?_)
   refine aG ?_
   refine aC (nameCmp (L[(i+j) / 2]) (x)) [] [] fun _ h64=>?_
   refine ev_if_lt (fun h65=>?_) (fun h65=>?_)
   refine aG ?_
   refine wN ((i+j) / 2+1) ?_
   refine ev_fin (round_next (((i+j) / 2+1,j)) (?_:(i+j) / 2+1≤j∧j≤n∧(∀ (y:Fl),y∈List.take ((i+j) / 2+1) L→ltS y.n x)∧∀ (y:Fl),y∈List.drop j L→¬ltS y.n x) (show j-((i+j) / 2+1)<j-i from (by omega)) aS)
   rotate_left
   refine aG ?_
   refine ev_fin (round_next ((i,(i+j) / 2)) (?_:i≤(i+j) / 2∧(i+j) / 2≤n∧(∀ (y:Fl),y∈List.take i L→ltS y.n x)∧∀ (y:Fl),y∈List.drop ((i+j) / 2) L→¬ltS y.n x) (show (i+j) / 2-i<j-i from (by omega)) aS)
   rotate_left
   · exact ⟨by omega,hj,riseF_take hs l63 (cmpS_neg.1 h65),hhi⟩
   exact ⟨by omega,by omega,hlo,riseF_drop hs l63 fun h=>h65 (cmpS_neg.2 h)⟩
 · obtain rfl:i=j:=by omega
   show Value.tuple #[.int .i64 (i:Nat),.bool (cmpS L[i].n x==0)]=Value.tuple #[.int .i64 (posF L x:Nat),.bool (hasF L x)]
   rw [posF_of (by omega) hlo hhi,hasF_at hs l25 hlo hhi]
   have:(cmpS L[i].n x==0)=decide (L[i].n=x):=by
    rw [Bool.eq_iff_iff,beq_iff_eq,decide_eq_true_iff,cmpS_zero]
   rw [this]
 obtain rfl:i=j:=by omega
 show Value.tuple #[.int .i64 (i:Nat),.bool false]=Value.tuple #[.int .i64 (posF L x:Nat),.bool (hasF L x)]
 rw [posF_of (by omega) hlo hhi,hasF_end (by rwa [List.take_of_length_le (by omega)] at hlo)]
theorem ins_grow {α:Type} {L:List α} {n i:Nat} (x z:α) (hn:n=L.length) (hi:i<n) :
 ((
  L.take i++List.replicate (n+1-i) z).take i++[x].take 1++(L.take i++List.replicate (n+1-i) z).drop (i+1)).take (i+1)++((L.take (i+(n-i))).drop i).take (n-i) ++
  ((L.take i++List.replicate (n+1-i) z).take i++[x].take 1++(L.take i++List.replicate (n+1-i) z).drop (i+1)).drop (i+1+(n-i))=L.take i++x::L.drop i:=by
 have h1:(L.take i++List.replicate (n+1-i) z).take i=L.take i:=by
  rw [List.take_append_of_le_length (by rw [List.length_take];omega),List.take_take,Nat.min_self]
 have hl:(L.take i).length=i:=by rw [List.length_take];omega
 rw [h1,show i+(n-i)=L.length by omega,List.take_length,show [x].take 1=[x] from rfl]
 have h2:(L.take i++[x]).length=i+1:=by rw [List.length_append,hl];rfl
 have h3:((L.take i++[x]++(L.take i++List.replicate (n+1-i) z).drop (i+1)).take (i+1))=L.take i++[x]:=by
  rw [←h2,List.take_append_of_le_length (Nat.le_refl _),List.take_length]
 have h4:(L.drop i).take (n-i)=L.drop i:=List.take_of_length_le (by rw [List.length_drop];omega)
 have h5:(L.take i++[x]++(L.take i++List.replicate (n+1-i) z).drop (i+1)).drop (i+1+(n-i))=[]:=List.drop_of_length_le (by
  rw [List.length_append,h2,List.length_drop,List.length_append,hl,List.length_replicate]
  omega)
 rw [h3,h4,h5]
 simp
theorem ins_room {α:Type} {L:List α} {n i:Nat} (x:α) (hn:n=L.length) (hi:i<n) :
 (L.take (i+1)++L.drop i).take i++[x].take 1++(L.take (i+1)++L.drop i).drop (i+1)=L.take i++x::L.drop i:=by
 have hl:(L.take (i+1)).length=i+1:=by rw [List.length_take];omega
 rw [List.take_append_of_le_length (by omega),List.take_take,Nat.min_eq_left (by omega),List.drop_append,List.drop_of_length_le (by omega),hl,Nat.sub_self,List.drop_zero]
 simp
theorem insertF (A:Option Addr) (L:List Fl) (n c i vb:Nat) (x:Fl) (hn:n=L.length) (h1:n≤1000) (hi:i≤n) :
 Triple Tryz.prog 80 [.slice A n c,.int .i64 i,.slice (some ⟨vb,0,none⟩) 1 1] [Row 89 3 A n c (L.flatMap encF),Pt vb 89 (encF x)] [] (Option Addr × Nat) (fun (B,d)=>.slice B (n+1) d) (fun _=>True)
  (fun (B,d)=>[Row 89 3 B (n+1) d ((L.take i++x::L.drop i).flatMap encF)]):=by
 refine aT Tryz.func80 [vL A n c,vI i,.sl 1 vb 0 1 1] [.fact (Row 89 3 A n c (L.flatMap encF)),.box vb 89 [.va (.string x.n),.va (.string x.d),vI x.s]] (fun E=>?_) ⟨trivial,trivial,rfl,trivial⟩
 refine go_know (.inr 0) (Row 89 3 A n c (L.flatMap encF)) rfl (p:=n≤c) (fun _ p=>Row.cap p) fun hc=>?_
 refine aG ?_
 refine ev_stop (go_back Tryz.tbs_ok (i) (n) (c) rfl rfl rfl rfl rfl ⟨_,rfl⟩ rfl rfl (by decide) (by omega) (by omega) (by omega) ?_)
 refine aG (aI ?_)
 refine ev_if_eq (fun h0=>?_) (fun h0=>?_)
 refine aG ?_
 refine ev_stop (go_appendE (sz:=3) (M:=[_]) (enc:=encF) Tryz.tbs_ok [0] [] (.inr 1) (L) ([x]) ((L)++([x])) (n+1) rfl rfl rfl rfl rfl rfl rfl (by decide) rfl (by decide) (fun _ p=>starH_one.1 p) rfl (fun _ p=>Pt.rd p rfl) (by first | rfl | simp) (by first | rfl | omega) (aM (n+1)) (aN (n+1)) (fun _ _=>aL) (fun A1 c2 h3=>?_))
 refine aG ?_
 rotate_left
 refine aG ?_
 refine wN (n+1) ?_
 refine ev_stop (go_cap Tryz.tbs_ok rfl rfl rfl rfl ?_)
 refine aG ?_
 refine ev_if_lt (fun h4=>?_) (fun h4=>?_)
 refine aG ?_
 refine ev_stop (go_front Tryz.tbs_ok (i) (c) rfl rfl rfl rfl rfl rfl ⟨_,rfl⟩ rfl (by decide) (by omega) (by omega) ?_)
 refine aG ?_
 refine wN (n+1) ?_
 refine wO (n+1-i) ?_
 refine ev_stop (go_appendZ (sz:=3) (enc:=encF) Tryz.tbs_ok (.inr 0) (((L).take (i))) ((((L).take (i)))++List.replicate (n+1-i) ({ n:=ByteArray.empty,d:=ByteArray.empty,s:=0:Fl })) ({ n:=ByteArray.empty,d:=ByteArray.empty,s:=0:Fl }) (i+(n+1-i)) rfl rfl rfl rfl rfl rfl rfl rfl (by decide) (fun _=>rfl) rfl rfl rfl (fun _ h=>rd_take (k:=i) (fun _=>rfl) (Row.rd h) (by omega)) (by omega) (by omega) rfl (by first | rfl | omega) (le_max (by omega)) (le_appb (s:=i+(n+1-i)) (by omega) (by first | rfl | omega) (by decide)) (fun _ _=>aL) (fun b5 c6 h7=>?_))
 refine aG ?_
 refine ev_stop (go_back Tryz.tbs_ok (i) (i+(n+1-i)) (c6) rfl rfl rfl rfl rfl ⟨_,rfl⟩ rfl rfl (by decide) (by omega) (by omega) (by omega) ?_)
 refine aG ?_
 refine ev_stop (go_copyE (sz:=3) (enc:=encF) Tryz.tbs_ok 2 (i) (1) (.inr 1) (List.take i L++List.replicate (n+1-i) { n:=ByteArray.empty,d:=ByteArray.empty,s:=0:Fl }) ([x]) ((List.take i L++List.replicate (n+1-i) { n:=ByteArray.empty,d:=ByteArray.empty,s:=0:Fl }).take (i)++([x]).take (1)++(List.take i L++List.replicate (n+1-i) { n:=ByteArray.empty,d:=ByteArray.empty,s:=0:Fl }).drop ((i)+(1))) rfl rfl rfl rfl rfl rfl rfl (by decide) rfl (backA_at (by omega)) rfl (fun _ p=>Pt.rd p rfl) (fun _=>rfl) (by first | rfl | (show _=min _ _;omega)) (by omega) rfl ?_)
 refine aG ?_
 refine ev_stop (go_draw Tryz.tbs_ok false [] [(0,true),(1,true),(2,true),(3,true),(4,true),(5,true),(6,true),(7,true),(8,false)] rfl ?_)
 refine aG (aE ?_)
 refine wN (i+1) ?_
 refine ev_stop (tk_back Tryz.tbs_ok (i+1) (i+(n+1-i)) (c6) aB rfl rfl rfl rfl rfl rfl ⟨_,rfl⟩ rfl rfl (by decide) (by omega) (by omega) (by omega) ?_)
 refine aG (aE ?_)
 refine ev_stop (tk_back Tryz.tbs_ok (i) (n) (c) aB rfl rfl rfl rfl rfl rfl ⟨_,rfl⟩ rfl rfl (by decide) (by omega) (by omega) (by omega) ?_)
 refine aG (aE ?_)
 refine ev_stop (go_copyE (sz:=3) (enc:=encF) Tryz.tbs_ok 2 (i+1) (n-i) (.inr 0) (List.take i (List.take i L++List.replicate (n+1-i) { n:=ByteArray.empty,d:=ByteArray.empty,s:=0:Fl })++List.take 1 [x]++List.drop (i+1) (List.take i L++List.replicate (n+1-i) { n:=ByteArray.empty,d:=ByteArray.empty,s:=0:Fl })) ((((L).take ((i)+(n-i))).drop (i))) ((List.take i (List.take i L++List.replicate (n+1-i) { n:=ByteArray.empty,d:=ByteArray.empty,s:=0:Fl })++List.take 1 [x]++List.drop (i+1) (List.take i L++List.replicate (n+1-i) { n:=ByteArray.empty,d:=ByteArray.empty,s:=0:Fl })).take (i+1)++((((L).take ((i)+(n-i))).drop (i))).take (n-i)++(List.take i (List.take i L++List.replicate (n+1-i) { n:=ByteArray.empty,d:=ByteArray.empty,s:=0:Fl })++List.take 1 [x]++List.drop (i+1) (List.take i L++List.replicate (n+1-i) { n:=ByteArray.empty,d:=ByteArray.empty,s:=0:Fl })).drop ((i+1)+(n-i))) rfl rfl rfl rfl rfl rfl rfl (by decide) rfl (backA_at (by omega)) rfl (fun _ h=>rd_part (lo:=i) (m:=n-i) (fun _=>rfl) (Row.rd h) (by omega) (by omega)) (fun _=>rfl) (by first | rfl | (show _=min _ _;omega)) (by omega) rfl ?_)
 refine aG (aK ?_)
 rotate_left
 refine aG ?_
 refine wN (n+1) ?_
 refine ev_stop (go_front Tryz.tbs_ok (n+1) (c) rfl rfl rfl rfl rfl rfl ⟨_,rfl⟩ rfl (by decide) (by omega) (by omega) ?_)
 refine aG ?_
 refine wN (i+1) ?_
 refine ev_stop (go_back Tryz.tbs_ok (i+1) (n+1) (c) rfl rfl rfl rfl rfl ⟨_,rfl⟩ rfl rfl (by decide) (by omega) (by omega) (by omega) ?_)
 refine aG ?_
 rotate_left
 · have e:L++[x]=L.take i++x::L.drop i:=by
    rw [show i=L.length by omega,List.take_length,List.drop_length]
   rw [e]
   exact ev_fin ⟨trivial,_,rfl,((A1,c2)),rfl,trivial,aF [0]⟩
 · rw [show i+(n+1-i)=n+1 by omega,ins_grow x _ hn (by omega)]
   exact ev_fin ⟨trivial,_,rfl,((some { block:=b5,off:=0:Addr },c6)),rfl,trivial,aF [2]⟩
 have hn0:0<n:=by omega
 refine ev_stop (go_know (.inr 0) (Row 89 3 A n c (L.flatMap encF)) rfl (p:=∃ g,A=some ⟨g,0,none⟩) (fun h p=>Row.at0 h p hn0) ?_)
 rintro ⟨g,rfl⟩
 refine go_overlaps (sz:=3) (c:=c) (o:=(i+1)*3) (lb:=n+1-(i+1)) (cb:=c-(i+1)) Tryz.tbs_ok 1 0 Tryz.func124 rfl rfl rfl rfl rfl rfl rfl (congrArg (fun z=>Value.slice z _ _) (backA_at (by omega))) rfl rfl rfl (by decide) rfl rfl (by omega) ?_
 refine aG ?_
 refine ev_stop (go_draw Tryz.tbs_ok false [] [(0,true),(1,true),(2,true),(3,true),(4,true),(5,true),(6,true),(7,true),(8,false)] rfl ?_)
 refine aG (aE ?_)
 refine wN (i+1) ?_
 refine ev_stop (tk_back Tryz.tbs_ok (i+1) (n+1) (c) aB rfl rfl rfl rfl rfl rfl ⟨_,rfl⟩ rfl rfl (by decide) (by omega) (by omega) (by omega) ?_)
 refine aG (aE ?_)
 refine ev_stop (tk_back Tryz.tbs_ok (i) (n+1) (c) aB rfl rfl rfl rfl rfl rfl ⟨_,rfl⟩ rfl rfl (by decide) (by omega) (by omega) (by omega) ?_)
 refine aG (aE ?_)
 refine ev_stop (go_copyX (sz:=3) (enc:=encF) Tryz.tbs_ok 0 (i+1) (n-i) (.inr 0) L (L.drop i) (L.take (i+1)++L.drop i) rfl rfl rfl rfl rfl rfl rfl (by decide) rfl (backA_at (by omega)) rfl (fun _ h=>by
  have:=rd_part (enc:=encF) (L:=L) (n:=n) (lo:=i) (m:=n-i) (mx:=c) (fun _=>rfl) (Row.rd (show (Row 89 3 (some ⟨g,0,none⟩) n c (L.flatMap encF)).holds _ from h)) (by omega) (by omega)
  rw [show i+(n-i)=L.length by omega,List.take_length] at this
  exact this) (fun _=>rfl) (by show _=min _ _;omega) (by omega) (by omega) (by omega) (by omega) (n+1) (by omega) rfl ?_)
 have hl2:(L.take (i+1)++L.drop i).length=n+1:=by rw [List.length_append,List.length_take,List.length_drop];omega
 refine aG (aK ?_)
 refine ev_stop (go_back Tryz.tbs_ok (i) (n+1) (c) rfl rfl rfl rfl rfl ⟨_,rfl⟩ rfl rfl (by decide) (by omega) (by omega) (by omega) ?_)
 refine aG ?_
 refine ev_stop (go_copyE (sz:=3) (enc:=encF) Tryz.tbs_ok 0 (i) (1) (.inr 1) (List.take (i+1) L++List.drop i L) ([x]) ((List.take (i+1) L++List.drop i L).take (i)++([x]).take (1)++(List.take (i+1) L++List.drop i L).drop ((i)+(1))) rfl rfl rfl rfl rfl rfl rfl (by decide) rfl (backA_at (by omega)) rfl (fun _ p=>Pt.rd p rfl) (fun _=>rfl) (by first | rfl | (show _=min _ _;omega)) (by omega) rfl ?_)
 refine aG ?_
 rw [ins_room x hn (by omega)]
 exact ev_fin ⟨trivial,_,rfl,((some { block:=g,off:=0:Addr },c)),rfl,trivial,aF [0]⟩
theorem thereP (p:Nat) (m s:Int) (dn:Bool) (A:Option Addr) (n c:Nat) (fv:Value) (B:Option Addr) (k d:Nat):Triple Tryz.prog 45 [pP p] [Pt p 52 [.int .i64 m,.int .i64 s,.bool dn,.slice A n c,fv,.slice B k d]] [] (Unit) (fun _=>.bool (decide (m > 0))) (fun _=>True) (fun _=>[Pt p 52 [.int .i64 m,.int .i64 s,.bool dn,.slice A n c,fv,.slice B k d]]):=by
 refine aT Tryz.func45 [.pt 0 p 0] [.box p 52 [vI m,vI s,.va (.bool dn),vL A n c,.va fv,vL B k d]] (fun E=>?_) ⟨rfl,trivial⟩
 refine aG ?_
 exact ev_fin ⟨trivial,_,rfl,(),rfl,trivial,aF [0]⟩
theorem thereT (p:Nat) (m s:Int) (dn:Bool) (A:Option Addr) (n c:Nat) (fv:Value) (B:Option Addr) (k d:Nat) (hm:0<m):Triple Tryz.prog 45 [pP p] [Pt p 52 [.int .i64 m,.int .i64 s,.bool dn,.slice A n c,fv,.slice B k d]] [] Unit (fun _=>.bool true) (fun _=>True) (fun _=>[Pt p 52 [.int .i64 m,.int .i64 s,.bool dn,.slice A n c,fv,.slice B k d]]):=by
 have:=thereP p m s dn A n c fv B k d
 rwa [decide_eq_true (show m > 0 by omega)] at this
theorem askP (p:Nat) (m s:Int) (dn:Bool) (A:Option Addr) (n c:Nat) (fv:Value) (B:Option Addr) (k d:Nat) (hm:0<m):Triple Tryz.prog 43 [pP p] [Pt p 52 [.int .i64 m,.int .i64 s,.bool dn,.slice A n c,fv,.slice B k d]] [] (Unit) (fun _=>.int .i64 (if dn then 41 else 0)) (fun _=>True) (fun _=>[Pt p 52 [.int .i64 m,.int .i64 s,.bool dn,.slice A n c,fv,.slice B k d]]):=by
 have T1:=thereT p m s dn A n c fv B k d hm
 refine aT Tryz.func43 [.pt 0 p 0] [.box p 52 [vI m,vI s,.va (.bool dn),vL A n c,.va fv,vL B k d]] (fun E=>?_) ⟨rfl,trivial⟩
 cases dn
 · refine aG ?_
   refine aD T1 [0] [] (fun v0_=>[.box (p) 52 [vI m,vI s,.bl false,vL A n c,.va (fv),vL B k d]]) fun _ h0=>?_
   refine aI ?_
   exact ev_fin ⟨trivial,_,rfl,(),rfl,trivial,aF [0]⟩
 refine aG ?_
 refine aD T1 [0] [] (fun v0_=>[.box (p) 52 [vI m,vI s,.bl true,vL A n c,.va (fv),vL B k d]]) fun _ h0=>?_
 refine aI ?_
 exact ev_fin ⟨trivial,_,rfl,(),rfl,trivial,aF [0]⟩
theorem empty_iff {x:ByteArray}:x.size=0↔x=⟨#[]⟩:=by
 obtain ⟨a⟩:=x
 rw [ByteArray.mk.injEq]
 exact Array.size_eq_zero_iff
def oddS (x:ByteArray):Bool:=decide (x.size=0) || decide (16<x.size)
theorem oddT (x:ByteArray):Triple Tryz.prog 77 [.string x] [] [] (Unit) (fun _=>.bool (oddS x)) (fun _=>True) (fun _=>[]):=by
 refine aT Tryz.func77 [.va (.string x)] [] (fun E=>?_) ⟨trivial,trivial⟩
 refine aG ?_
 refine ev_if_lt (fun h0=>?_) (fun h0=>?_)
 refine aG ?_
 refine ev_fin ⟨trivial,_,rfl,(()),?_,(by trivial),Frm.nil _⟩
 rotate_left
 refine aG ?_
 refine ev_fin ⟨trivial,_,rfl,(()),?_,(by trivial),Frm.nil _⟩
 rotate_left
 · rw [h0]
   rfl
 refine congrArg Value.bool ?_
 have h1:x.size≠0:=fun e=>h0 (empty_iff.1 e)
 unfold oddS
 rw [decide_eq_false h1,Bool.false_or,decide_eq_decide]
 omega
theorem findT (p:Nat) (m s:Int) (dn:Bool) (A:Option Addr) (n c:Nat) (fv:Value) (B:Option Addr) (k d:Nat) (L:List Fl) (x:ByteArray) (hn:n=L.length) (h1:n≤1000) (hs:riseF L):Triple Tryz.prog 76 [pP p,.string x] [Pt p 52 [.int .i64 m,.int .i64 s,.bool dn,.slice A n c,fv,.slice B k d],Row 89 3 A n c (L.flatMap encF)] [] (Unit) (fun _=>.tuple #[.int .i64 (posF L x:Nat),.bool (hasF L x)]) (fun _=>True) (fun _=>[Pt p 52 [.int .i64 m,.int .i64 s,.bool dn,.slice A n c,fv,.slice B k d],Row 89 3 A n c (L.flatMap encF)]):=by
 have T1:=(searchF A L n c x hn h1 hs).ofRow 89 c
 refine aT Tryz.func76 [.pt 0 p 0,.va (.string x)] [.box p 52 [vI m,vI s,.va (.bool dn),vL A n c,.va fv,vL B k d],.fact (Row 89 3 A n c (L.flatMap encF))] (fun E=>?_) ⟨rfl,trivial,trivial⟩
 refine aG ?_
 refine aC T1 [] [.inr 1] fun _ h0=>?_
 exact ev_fin ⟨trivial,_,rfl,(),rfl,trivial,aF [0,1]⟩
theorem sizeE1 (f:Fl):Triple Tryz.prog 62 [.agg #[.string f.n,.string f.d,.int .i64 f.s]] [] [] (Unit) (fun _=>.int .i64 (f.d.size:Nat)) (fun _=>True) (fun _=>[]):=by
 refine aT Tryz.func62 [.ag [.va (.string f.n),.va (.string f.d),vI f.s]] [] (fun E=>?_) ⟨by simp [SV.good,SV.goodL],trivial⟩
 refine aG ?_
 refine ev_new fun b0=>?_
 refine ev_fin ⟨trivial,_,rfl,(()),rfl,(by trivial),Frm.nil _⟩
def sizeEG (f:Fl):Int:=(f.d.size:Int)
theorem sizeE (p:Nat) (m s:Int) (dn:Bool) (A:Option Addr) (n c:Nat) (fv:Value) (B:Option Addr) (k d:Nat) (L:List Fl) (hm:0<m) (hn:n=L.length) (h1:n≤1000):Triple Tryz.prog 61 [pP p,.func (.func 62) #[] #[]] [Pt p 52 [.int .i64 m,.int .i64 s,.bool dn,.slice A n c,fv,.slice B k d],Row 89 3 A n c (L.flatMap encF)] [] (Option Addr × Nat) (fun (C,e)=>.slice C n e) (fun _=>True) (fun (C,e)=>[Pt p 52 [.int .i64 m,.int .i64 s,.bool dn,.slice A n c,fv,.slice B k d],Row 89 3 A n c (L.flatMap encF),Row 3 1 C n e ((L.map sizeEG).flatMap encN)]):=by
 have T1:=thereT p m s dn A n c fv B k d hm
 refine aT Tryz.func61 [.pt 0 p 0,.va (.func (.func 62) #[] #[])] [.box p 52 [vI m,vI s,.va (.bool dn),vL A n c,.va fv,vL B k d],.fact (Row 89 3 A n c (L.flatMap encF))] (fun E=>?_) ⟨rfl,trivial,trivial⟩
 refine aG ?_
 refine aD T1 [0] [] (fun v0_=>[.box (p) 52 [vI m,vI s,.bq (dn),vL A n c,.va (fv),vL B k d]]) fun _ h0=>?_
 refine aI ?_
 refine ev_stop (go_fact (Row 3 1 none 0 0 (([]:List Int).flatMap encN)) (Row.nilE _ _) ?_)
 refine aG ?_
 refine ev_stop (go_loopR [5,7,16,17,18,19,20,21,22,23,24,25,26] (fun (j,C,q,e,_)=>[(5,vL C q e),(16,vI (j:Nat))]) (fun (_,C,q,e,M)=>[(2,.fact (Row 3 1 C q e (M.flatMap encN)))]) (fun (j,_,q,_,M)=>j≤n∧q=M.length∧q=j∧M=(L.take j).map sizeEG) (fun (j,_,_,_,_)=>n-j) ((0,none,0,0,[]):Nat × Option Addr × Nat × Nat × List Int) ⟨Nat.zero_le _,rfl,rfl,rfl⟩ aS (fun x_ h_=>?_))
 obtain ⟨j,C,q,e,M⟩:=x_
 obtain ⟨hj,hq,hqj,hM⟩:=h_
 refine aG ?_
 refine ev_if_lt (fun hlt=>?_) (fun hge=>?_)
 · have hjn:j<L.length:=by
    have:(j:Int)<(n:Int):=hlt
    omega
   have T2:=sizeE1 L[j]
   refine aG ?_
   refine ev_stop (go_index0 (sz:=3) Tryz.tbs_ok (.inr 1) (j) rfl rfl rfl rfl rfl rfl (by omega) rfl Row.at0 (fun g40 e41=>?_))
   subst e41
   refine aG ?_
   have l42:j<(L).length:=(by omega)
   refine ev_stop (go_loadE Tryz.tbs_ok (.inr 1) (j) 0 rfl rfl rfl rfl (fun _ h=>Row.rd h) (by omega) (fun _=>rfl) (by omega) l42 (by decide) ?_)
   refine aG ?_
   refine ev_new fun b43=>?_
   refine aC T2 [] [] fun _ h44=>?_
   refine ev_new fun b45=>?_
   refine ev_stop (go_appendE (sz:=1) (M:=[_]) (enc:=encN) Tryz.tbs_ok [2] [] (.inr 4) (M) ([(↑L[j].d.size:Int)]) ((M)++([(↑L[j].d.size:Int)])) (q+1) rfl rfl rfl rfl rfl rfl rfl (by decide) rfl (by decide) (fun _ p=>starH_one.1 p) rfl (fun _ p=>Pt.rd p rfl) (by first | rfl | simp) (by first | rfl | omega) (aM (q+1)) (aN (q+1)) (fun _ _=>aL) (fun A46 c47 h48=>?_))
   refine aG ?_
   refine wN (j+1) ?_
   refine ev_fin (round_next ((j+1,A46,q+1,c47,M++[(↑L[j].d.size:Int)])) (?_:j+1≤n∧q+1=(M++[(↑L[j].d.size:Int)]).length∧q+1=j+1∧M++[(↑L[j].d.size:Int)]=List.map sizeEG (List.take (j+1) L)) (show n-(j+1)<n-j from (by omega)) aS)
   refine ⟨by omega,by rw [List.length_append,←hq];rfl,by omega,?_⟩
   rw [hM,←List.take_append_getElem hjn,List.map_append]
   rfl
 obtain rfl:j=n:=by
  have:¬ (j:Int)<(n:Int):=hge
  omega
 obtain rfl:=hqj
 rw [List.take_of_length_le (by omega)] at hM
 subst hM
 refine aG ?_
 refine ev_fin (go Tryz.tbs_ok 1000 ?_)
 exact ev_fin ⟨trivial,_,rfl,((C,e)),rfl,trivial,aF [0,1,2]⟩
theorem nameE1 (f:Fl):Triple Tryz.prog 60 [.agg #[.string f.n,.string f.d,.int .i64 f.s]] [] [] (Unit) (fun _=>.string f.n) (fun _=>True) (fun _=>[]):=by
 refine aT Tryz.func60 [.ag [.va (.string f.n),.va (.string f.d),vI f.s]] [] (fun E=>?_) ⟨by simp [SV.good,SV.goodL],trivial⟩
 refine aG ?_
 refine ev_new fun b0=>?_
 refine ev_fin ⟨trivial,_,rfl,(()),rfl,(by trivial),Frm.nil _⟩
def nameEG (f:Fl):ByteArray:=f.n
theorem nameE (p:Nat) (m s:Int) (dn:Bool) (A:Option Addr) (n c:Nat) (fv:Value) (B:Option Addr) (k d:Nat) (L:List Fl) (hm:0<m) (hn:n=L.length) (h1:n≤1000):Triple Tryz.prog 59 [pP p,.func (.func 60) #[] #[]] [Pt p 52 [.int .i64 m,.int .i64 s,.bool dn,.slice A n c,fv,.slice B k d],Row 89 3 A n c (L.flatMap encF)] [] (Option Addr × Nat) (fun (C,e)=>.slice C n e) (fun _=>True) (fun (C,e)=>[Pt p 52 [.int .i64 m,.int .i64 s,.bool dn,.slice A n c,fv,.slice B k d],Row 89 3 A n c (L.flatMap encF),Row 9 1 C n e ((L.map nameEG).flatMap encS)]):=by
 have T1:=thereT p m s dn A n c fv B k d hm
 refine aT Tryz.func59 [.pt 0 p 0,.va (.func (.func 60) #[] #[])] [.box p 52 [vI m,vI s,.va (.bool dn),vL A n c,.va fv,vL B k d],.fact (Row 89 3 A n c (L.flatMap encF))] (fun E=>?_) ⟨rfl,trivial,trivial⟩
 refine aG ?_
 refine aD T1 [0] [] (fun v0_=>[.box (p) 52 [vI m,vI s,.bq (dn),vL A n c,.va (fv),vL B k d]]) fun _ h0=>?_
 refine aI ?_
 refine ev_stop (go_fact (Row 9 1 none 0 0 (([]:List ByteArray).flatMap encS)) (Row.nilE _ _) ?_)
 refine aG ?_
 refine ev_stop (go_loopR [5,7,16,17,18,19,20,21,22,23,24,25,26] (fun (j,C,q,e,_)=>[(5,vL C q e),(16,vI (j:Nat))]) (fun (_,C,q,e,M)=>[(2,.fact (Row 9 1 C q e (M.flatMap encS)))]) (fun (j,_,q,_,M)=>j≤n∧q=M.length∧q=j∧M=(L.take j).map nameEG) (fun (j,_,_,_,_)=>n-j) ((0,none,0,0,[]):Nat × Option Addr × Nat × Nat × List ByteArray) ⟨Nat.zero_le _,rfl,rfl,rfl⟩ aS (fun x_ h_=>?_))
 obtain ⟨j,C,q,e,M⟩:=x_
 obtain ⟨hj,hq,hqj,hM⟩:=h_
 refine aG ?_
 refine ev_if_lt (fun hlt=>?_) (fun hge=>?_)
 · have hjn:j<L.length:=by
    have:(j:Int)<(n:Int):=hlt
    omega
   have T2:=nameE1 L[j]
   refine aG ?_
   refine ev_stop (go_index0 (sz:=3) Tryz.tbs_ok (.inr 1) (j) rfl rfl rfl rfl rfl rfl (by omega) rfl Row.at0 (fun g40 e41=>?_))
   subst e41
   refine aG ?_
   have l42:j<(L).length:=(by omega)
   refine ev_stop (go_loadE Tryz.tbs_ok (.inr 1) (j) 0 rfl rfl rfl rfl (fun _ h=>Row.rd h) (by omega) (fun _=>rfl) (by omega) l42 (by decide) ?_)
   refine aG ?_
   refine ev_new fun b43=>?_
   refine aC T2 [] [] fun _ h44=>?_
   refine ev_new fun b45=>?_
   refine ev_stop (go_appendE (sz:=1) (M:=[_]) (enc:=encS) Tryz.tbs_ok [2] [] (.inr 4) (M) ([L[j].n]) ((M)++([L[j].n])) (q+1) rfl rfl rfl rfl rfl rfl rfl (by decide) rfl (by decide) (fun _ p=>starH_one.1 p) rfl (fun _ p=>Pt.rd p rfl) (by first | rfl | simp) (by first | rfl | omega) (aM (q+1)) (aN (q+1)) (fun _ _=>aL) (fun A46 c47 h48=>?_))
   refine aG ?_
   refine wN (j+1) ?_
   refine ev_fin (round_next ((j+1,A46,q+1,c47,M++[L[j].n])) (?_:j+1≤n∧q+1=(M++[L[j].n]).length∧q+1=j+1∧M++[L[j].n]=List.map nameEG (List.take (j+1) L)) (show n-(j+1)<n-j from (by omega)) aS)
   refine ⟨by omega,by rw [List.length_append,←hq];rfl,by omega,?_⟩
   rw [hM,←List.take_append_getElem hjn,List.map_append]
   rfl
 obtain rfl:j=n:=by
  have:¬ (j:Int)<(n:Int):=hge
  omega
 obtain rfl:=hqj
 rw [List.take_of_length_le (by omega)] at hM
 subst hM
 refine aG ?_
 refine ev_fin (go Tryz.tbs_ok 1000 ?_)
 exact ev_fin ⟨trivial,_,rfl,((C,e)),rfl,trivial,aF [0,1,2]⟩
theorem leftE1 (f:Fl) (h0:0≤f.s) (h1:f.s≤f.d.size) (h2:f.d.size≤1000000000):Triple Tryz.prog 119 [.agg #[.string f.n,.string f.d,.int .i64 f.s]] [] [] (Unit) (fun _=>.int .i64 ((f.d.size:Int)-f.s)) (fun _=>True) (fun _=>[]):=by
 refine aT Tryz.func119 [.ag [.va (.string f.n),.va (.string f.d),vI f.s]] [] (fun E=>?_) ⟨by simp [SV.good,SV.goodL],trivial⟩
 refine aG ?_
 refine ev_new fun b0=>?_
 refine w6 ?_
 refine ev_fin ⟨trivial,_,rfl,(()),rfl,(by trivial),Frm.nil _⟩
def leftEG (f:Fl):Int:=(f.d.size:Int)-f.s
theorem leftE (p:Nat) (m s:Int) (dn:Bool) (A:Option Addr) (n c:Nat) (fv:Value) (B:Option Addr) (k d:Nat) (L:List Fl) (hm:0<m) (hn:n=L.length) (h1:n≤1000) (hL:∀ f∈L,0≤f.s∧f.s≤f.d.size∧f.d.size≤1000000000):Triple Tryz.prog 61 [pP p,.func (.func 119) #[] #[]] [Pt p 52 [.int .i64 m,.int .i64 s,.bool dn,.slice A n c,fv,.slice B k d],Row 89 3 A n c (L.flatMap encF)] [] (Option Addr × Nat) (fun (C,e)=>.slice C n e) (fun _=>True) (fun (C,e)=>[Pt p 52 [.int .i64 m,.int .i64 s,.bool dn,.slice A n c,fv,.slice B k d],Row 89 3 A n c (L.flatMap encF),Row 3 1 C n e ((L.map leftEG).flatMap encN)]):=by
 have T1:=thereT p m s dn A n c fv B k d hm
 refine aT Tryz.func61 [.pt 0 p 0,.va (.func (.func 119) #[] #[])] [.box p 52 [vI m,vI s,.va (.bool dn),vL A n c,.va fv,vL B k d],.fact (Row 89 3 A n c (L.flatMap encF))] (fun E=>?_) ⟨rfl,trivial,trivial⟩
 refine aG ?_
 refine aD T1 [0] [] (fun v0_=>[.box (p) 52 [vI m,vI s,.bq (dn),vL A n c,.va (fv),vL B k d]]) fun _ h0=>?_
 refine aI ?_
 refine ev_stop (go_fact (Row 3 1 none 0 0 (([]:List Int).flatMap encN)) (Row.nilE _ _) ?_)
 refine aG ?_
 refine ev_stop (go_loopR [5,7,16,17,18,19,20,21,22,23,24,25,26] (fun (j,C,q,e,_)=>[(5,vL C q e),(16,vI (j:Nat))]) (fun (_,C,q,e,M)=>[(2,.fact (Row 3 1 C q e (M.flatMap encN)))]) (fun (j,_,q,_,M)=>j≤n∧q=M.length∧q=j∧M=(L.take j).map leftEG) (fun (j,_,_,_,_)=>n-j) ((0,none,0,0,[]):Nat × Option Addr × Nat × Nat × List Int) ⟨Nat.zero_le _,rfl,rfl,rfl⟩ aS (fun x_ h_=>?_))
 obtain ⟨j,C,q,e,M⟩:=x_
 obtain ⟨hj,hq,hqj,hM⟩:=h_
 refine aG ?_
 refine ev_if_lt (fun hlt=>?_) (fun hge=>?_)
 · have hjn:j<L.length:=by
    have:(j:Int)<(n:Int):=hlt
    omega
   have T2:=leftE1 L[j] (hL _ (List.getElem_mem hjn)).1 (hL _ (List.getElem_mem hjn)).2.1 (hL _ (List.getElem_mem hjn)).2.2
   refine aG ?_
   refine ev_stop (go_index0 (sz:=3) Tryz.tbs_ok (.inr 1) (j) rfl rfl rfl rfl rfl rfl (by omega) rfl Row.at0 (fun g40 e41=>?_))
   subst e41
   refine aG ?_
   have l42:j<(L).length:=(by omega)
   refine ev_stop (go_loadE Tryz.tbs_ok (.inr 1) (j) 0 rfl rfl rfl rfl (fun _ h=>Row.rd h) (by omega) (fun _=>rfl) (by omega) l42 (by decide) ?_)
   refine aG ?_
   refine ev_new fun b43=>?_
   refine aC T2 [] [] fun _ h44=>?_
   refine ev_new fun b45=>?_
   refine ev_stop (go_appendE (sz:=1) (M:=[_]) (enc:=encN) Tryz.tbs_ok [2] [] (.inr 4) (M) ([(↑L[j].d.size:Int)-L[j].s]) ((M)++([(↑L[j].d.size:Int)-L[j].s])) (q+1) rfl rfl rfl rfl rfl rfl rfl (by decide) rfl (by decide) (fun _ p=>starH_one.1 p) rfl (fun _ p=>Pt.rd p rfl) (by first | rfl | simp) (by first | rfl | omega) (aM (q+1)) (aN (q+1)) (fun _ _=>aL) (fun A46 c47 h48=>?_))
   refine aG ?_
   refine wN (j+1) ?_
   refine ev_fin (round_next ((j+1,A46,q+1,c47,M++[(↑L[j].d.size:Int)-L[j].s])) (?_:j+1≤n∧q+1=(M++[(↑L[j].d.size:Int)-L[j].s]).length∧q+1=j+1∧M++[(↑L[j].d.size:Int)-L[j].s]=List.map leftEG (List.take (j+1) L)) (show n-(j+1)<n-j from (by omega)) aS)
   refine ⟨by omega,by rw [List.length_append,←hq];rfl,by omega,?_⟩
   rw [hM,←List.take_append_getElem hjn,List.map_append]
   rfl
 obtain rfl:j=n:=by
  have:¬ (j:Int)<(n:Int):=hge
  omega
 obtain rfl:=hqj
 rw [List.take_of_length_le (by omega)] at hM
 subst hM
 refine aG ?_
 refine ev_fin (go Tryz.tbs_ok 1000 ?_)
 exact ev_fin ⟨trivial,_,rfl,((C,e)),rfl,trivial,aF [0,1,2]⟩
def sumD (L:List Fl):Nat:=(L.map fun f=>f.d.size).sum
theorem sumD_take (L:List Fl) (j:Nat):sumD (L.take j)≤sumD L:=by
 unfold sumD
 conv=>rhs;rw [←List.take_append_drop j L,List.map_append,List.sum_append]
 omega
theorem sumD_step {L:List Fl} {j:Nat} (hj:j<L.length):sumD (L.take (j+1))=sumD (L.take j)+L[j].d.size:=by
 unfold sumD
 rw [←List.take_append_getElem hj,List.map_append,List.sum_append]
 rfl
theorem sizeT (p:Nat) (m s:Int) (dn:Bool) (A:Option Addr) (n c:Nat) (fv:Value) (B:Option Addr) (k d:Nat) (L:List Fl) (hm:0<m) (hn:n=L.length) (h1:n≤1000) (hb:sumD L≤1000000000):Triple Tryz.prog 27 [pP p] [Pt p 52 [.int .i64 m,.int .i64 s,.bool dn,.slice A n c,fv,.slice B k d],Row 89 3 A n c (L.flatMap encF)] [] (Unit) (fun _=>.int .i64 (sumD L:Nat)) (fun _=>True) (fun _=>[Pt p 52 [.int .i64 m,.int .i64 s,.bool dn,.slice A n c,fv,.slice B k d],Row 89 3 A n c (L.flatMap encF)]):=by
 have T1:=sizeE p m s dn A n c fv B k d L hm hn h1
 refine aT Tryz.func27 [.pt 0 p 0] [.box p 52 [vI m,vI s,.va (.bool dn),vL A n c,.va fv,vL B k d],.fact (Row 89 3 A n c (L.flatMap encF))] (fun E=>?_) ⟨rfl,trivial⟩
 refine aG ?_
 refine aD T1 [0,1] [] (fun (v0_,v1_)=>[.box (p) 52 [vI m,vI s,.bq (dn),vL A n c,.va (fv),vL B k d],.fact (Row 89 3 A n c (List.flatMap encF L)),.fact (Row 3 1 v0_ n v1_ (List.flatMap encN (List.map sizeEG L)))]) fun ⟨x0,x1⟩ h2=>?_
 refine ev_stop (go_loopR [3,5,9,10,11,12,13,14,15,16] (fun (j,q)=>[(3,vI q),(9,vI (j:Nat))]) (fun _=>[]) (fun (j,q)=>j≤n∧q=((sumD (L.take j):Nat):Int)) (fun (j,_)=>n-j) ((0,0):Nat × Int) ⟨Nat.zero_le _,rfl⟩ aS (fun x_ h_=>?_))
 obtain ⟨j,q⟩:=x_
 obtain ⟨hj,hq⟩:=h_
 refine aG ?_
 refine ev_if_lt (fun hlt=>?_) (fun hge=>?_)
 · have hjn:j<L.length:=by
    have:(j:Int)<(n:Int):=hlt
    omega
   have hs1:=sumD_step hjn
   have hs2:=sumD_take L (j+1)
   have hg:(L.map sizeEG)[j]'(by simpa using hjn)=((L[j].d.size:Nat):Int):=by simp [sizeEG]
   refine aG ?_
   refine ev_stop (go_index0 (sz:=1) Tryz.tbs_ok (.inr 2) (j) rfl rfl rfl rfl rfl rfl (by omega) rfl Row.at0 (fun g40 e41=>?_))
   subst e41
   refine aG ?_
   have l42:j<(List.map sizeEG L).length:=(by (simp only [List.length_set,List.length_append,List.length_cons,List.length_nil,List.length_map,List.length_take,List.length_drop,List.length_replicate]<;>omega))
   refine ev_stop (go_loadE Tryz.tbs_ok (.inr 2) (j) 0 rfl rfl rfl rfl (fun _ h=>Row.rd h) (by omega) (fun _=>rfl) (by omega) l42 (by decide) ?_)
   refine aG ?_
   refine w6 ?_
   refine wN (j+1) ?_
   refine ev_fin (round_next ((j+1,q+(List.map sizeEG L)[j])) (show j+1≤n∧q+(List.map sizeEG L)[j]=(↑(sumD (List.take (j+1) L)):Int) from (by omega)) (show n-(j+1)<n-j from (by omega)) aS)
 refine aG ?_
 refine ev_fin (go Tryz.tbs_ok 1000 ?_)
 refine ev_fin ⟨trivial,_,rfl,(),?_,trivial,aF [0,1]⟩
 rw [hq,List.take_of_length_le (by omega)]
 rfl
theorem namesT (p:Nat) (m s:Int) (dn:Bool) (A:Option Addr) (n c:Nat) (fv:Value) (B:Option Addr) (k d:Nat) (L:List Fl) (hm:0<m) (hn:n=L.length) (h1:n≤1000):Triple Tryz.prog 26 [pP p] [Pt p 52 [.int .i64 m,.int .i64 s,.bool dn,.slice A n c,fv,.slice B k d],Row 89 3 A n c (L.flatMap encF)] [] (Option Addr × Nat) (fun (C,e)=>.slice C n e) (fun _=>True) (fun (C,e)=>[Pt p 52 [.int .i64 m,.int .i64 s,.bool dn,.slice A n c,fv,.slice B k d],Row 89 3 A n c (L.flatMap encF),Row 9 1 C n e ((L.map nameEG).flatMap encS)]):=by
 have T1:=nameE p m s dn A n c fv B k d L hm hn h1
 refine aT Tryz.func26 [.pt 0 p 0] [.box p 52 [vI m,vI s,.va (.bool dn),vL A n c,.va fv,vL B k d],.fact (Row 89 3 A n c (L.flatMap encF))] (fun E=>?_) ⟨rfl,trivial⟩
 refine aG ?_
 refine aD T1 [0,1] [] (fun (v0_,v1_)=>[.box (p) 52 [vI m,vI s,.bq (dn),vL A n c,.va (fv),vL B k d],.fact (Row 89 3 A n c (List.flatMap encF L)),.fact (Row 9 1 v0_ n v1_ (List.flatMap encS (List.map nameEG L)))]) fun ⟨x0,x1⟩ h2=>?_
 exact ev_fin ⟨trivial,_,rfl,((x0,x1)),rfl,trivial,aF [0,1,2]⟩
theorem leftT (p:Nat) (m s:Int) (dn:Bool) (A:Option Addr) (n c:Nat) (fv:Value) (B:Option Addr) (k d:Nat) (L:List Fl) (hm:0<m) (hn:n=L.length) (h1:n≤1000) (hL:∀ f∈L,0≤f.s∧f.s≤f.d.size∧f.d.size≤1000000000):Triple Tryz.prog 71 [pP p] [Pt p 52 [.int .i64 m,.int .i64 s,.bool dn,.slice A n c,fv,.slice B k d],Row 89 3 A n c (L.flatMap encF)] [] (Option Addr × Nat) (fun (C,e)=>.slice C n e) (fun _=>True) (fun (C,e)=>[Pt p 52 [.int .i64 m,.int .i64 s,.bool dn,.slice A n c,fv,.slice B k d],Row 89 3 A n c (L.flatMap encF),Row 3 1 C n e ((L.map leftEG).flatMap encN)]):=by
 have T1:=leftE p m s dn A n c fv B k d L hm hn h1 hL
 refine aT Tryz.func71 [.pt 0 p 0] [.box p 52 [vI m,vI s,.va (.bool dn),vL A n c,.va fv,vL B k d],.fact (Row 89 3 A n c (L.flatMap encF))] (fun E=>?_) ⟨rfl,trivial⟩
 refine aG ?_
 refine aD T1 [0,1] [] (fun (v0_,v1_)=>[.box (p) 52 [vI m,vI s,.bq (dn),vL A n c,.va (fv),vL B k d],.fact (Row 89 3 A n c (List.flatMap encF L)),.fact (Row 3 1 v0_ n v1_ (List.flatMap encN (List.map leftEG L)))]) fun ⟨x0,x1⟩ h2=>?_
 exact ev_fin ⟨trivial,_,rfl,((x0,x1)),rfl,trivial,aF [0,1,2]⟩
theorem upT (p:Nat) (m s:Int) (dn:Bool) (A:Option Addr) (n c:Nat) (fv:Value) (B:Option Addr) (k d:Nat) (hm:0<m):Triple Tryz.prog 17 [pP p] [Pt p 52 [.int .i64 m,.int .i64 s,.bool dn,.slice A n c,fv,.slice B k d]] [] (Unit) (fun _=>.bool (!dn)) (fun _=>True) (fun _=>[Pt p 52 [.int .i64 m,.int .i64 s,.bool dn,.slice A n c,fv,.slice B k d]]):=by
 have T1:=thereT p m s dn A n c fv B k d hm
 refine aT Tryz.func17 [.pt 0 p 0] [.box p 52 [vI m,vI s,.va (.bool dn),vL A n c,.va fv,vL B k d]] (fun E=>?_) ⟨rfl,trivial⟩
 refine aG ?_
 refine aD T1 [0] [] (fun v0_=>[.box (p) 52 [vI m,vI s,.bq (dn),vL A n c,.va (fv),vL B k d]]) fun _ h0=>?_
 refine aJ ?_
 exact ev_fin ⟨trivial,_,rfl,(),rfl,trivial,aF [0]⟩
theorem startsT (p:Nat) (m s:Int) (dn:Bool) (A:Option Addr) (n c:Nat) (fv:Value) (B:Option Addr) (k d:Nat) (hm:0<m):Triple Tryz.prog 35 [pP p] [Pt p 52 [.int .i64 m,.int .i64 s,.bool dn,.slice A n c,fv,.slice B k d]] [] (Unit) (fun _=>.int .i64 s) (fun _=>True) (fun _=>[Pt p 52 [.int .i64 m,.int .i64 s,.bool dn,.slice A n c,fv,.slice B k d]]):=by
 have T1:=thereT p m s dn A n c fv B k d hm
 refine aT Tryz.func35 [.pt 0 p 0] [.box p 52 [vI m,vI s,.va (.bool dn),vL A n c,.va fv,vL B k d]] (fun E=>?_) ⟨rfl,trivial⟩
 refine aG ?_
 refine aD T1 [0] [] (fun v0_=>[.box (p) 52 [vI m,vI s,.bq (dn),vL A n c,.va (fv),vL B k d]]) fun _ h0=>?_
 refine aI ?_
 exact ev_fin ⟨trivial,_,rfl,(),rfl,trivial,aF [0]⟩
def keep1 (k:Option Int) (f:Fl):Fl :=
 match k with
 | some k=>⟨f.n,f.d.extract 0 (f.s+max 0 (min k ((f.d.size:Int)-f.s))).toNat,f.s+max 0 (min k ((f.d.size:Int)-f.s))⟩
 | none=>⟨f.n,f.d.extract 0 f.s.toNat,f.s⟩
def crashF (L:List Fl) (K:List Int):List Fl:=L.mapIdx fun i f=>keep1 K[i]? f
def okF (L:List Fl):Prop:=∀ f∈L,0≤f.s∧f.s≤f.d.size∧f.d.size≤1000000000
theorem crashF_len (L:List Fl) (K:List Int):(crashF L K).length=L.length:=List.length_mapIdx
theorem crashF_at (L:List Fl) (K:List Int) {j:Nat} (hj:j<L.length):(crashF L K)[j]'(by rw [crashF_len];exact hj)=keep1 K[j]? L[j]:=List.getElem_mapIdx
theorem crashF_step {L:List Fl} {K:List Int} {j:Nat} (hj:j<L.length) (f:Fl) (hf:f=keep1 K[j]? L[j]):((crashF L K).take j++L.drop j).set j f=(crashF L K).take (j+1)++L.drop (j+1):=by
 have hl:((crashF L K).take j).length=j:=by rw [List.length_take,crashF_len];omega
 rw [List.set_append_right _ _ (by omega),hl,Nat.sub_self,List.drop_eq_getElem_cons hj,List.set_cons_zero,←List.take_append_getElem (show j<(crashF L K).length by rw [crashF_len];exact hj),crashF_at L K hj,hf,List.append_assoc]
 rfl
theorem crashF_get {L:List Fl} {K:List Int} {j:Nat} (hj:j<L.length) {hx:j<((crashF L K).take j++L.drop j).length}:((crashF L K).take j++L.drop j)[j]=L[j]:=by
 have hl:((crashF L K).take j).length=j:=by rw [List.length_take,crashF_len];omega
 rw [List.getElem_append_right (by omega),List.getElem_drop]
 congr 1
 omega
theorem failT (nb:Nat) (q:Int) (h0 : -1000≤q) (h1:q≤9223372036854775807):Triple Tryz.prog 58 [pP nb] [Pt nb 3 [.int .i64 q]] [] (Unit) (fun _=>.bool (decide (q-1<0))) (fun _=>True) (fun _=>[Pt nb 3 [.int .i64 (q-1)]]):=by
 refine aT Tryz.func58 [.pt 0 nb 0] [.box nb 3 [vI q]] (fun E=>?_) ⟨rfl,trivial⟩
 refine aG ?_
 refine w6 ?_
 exact ev_fin ⟨trivial,_,rfl,(),rfl,trivial,aF [0]⟩
theorem crashT (p:Nat) (m s:Int) (A:Option Addr) (n c:Nat) (fv:Value) (B:Option Addr) (k d:Nat) (L:List Fl) (Q:Option Addr) (kq dq:Nat) (K:List Int) (hm:0<m) (hn:n=L.length) (h1:n≤1000) (hq:kq=K.length) (hL:okF L):Triple Tryz.prog 13 [pP p,.slice Q kq dq] [Pt p 52 [.int .i64 m,.int .i64 s,.bool false,.slice A n c,fv,.slice B k d],Row 89 3 A n c (L.flatMap encF)] [Rd 1 Q kq (K.flatMap encN)] (Unit) (fun _=>.int .i64 0) (fun _=>True) (fun _=>[Pt p 52 [.int .i64 m,.int .i64 s,.bool true,.slice A n c,.nilFunc,.slice B k d],Row 89 3 A n c ((crashF L K).flatMap encF)]):=by
 have T1:=askP p m s false A n c fv B k d hm
 refine aT Tryz.func13 [.pt 0 p 0,vL Q kq dq] [.box p 52 [vI m,vI s,.va (.bool false),vL A n c,.va fv,vL B k d],.fact (Row 89 3 A n c (L.flatMap encF))] (fun E=>?_) ⟨rfl,trivial,trivial⟩
 refine aG ?_
 refine aD T1 [0] [] (fun v0_=>[.box (p) 52 [vI m,vI s,.bl false,vL A n c,.va (fv),vL B k d]]) fun _ h0=>?_
 refine aI ?_
 refine ev_stop (go_loopR [6,7,24,25,26,27,28,29,30,31,32,33,34,35,36,37,38,39,40,41,42,43,44,45,46,47,48,49,50,51,52,53,54,55,56,57,58,59,60,61,62,63,64,65,66,67,68,69,70,71,72] (fun j=>[(24,vI (j:Nat))]) (fun j=>[(1,.fact (Row 89 3 A n c (((crashF L K).take j++L.drop j).flatMap encF)))]) (fun j=>j≤n) (fun j=>n-j) (0:Nat) (Nat.zero_le _) aS (fun j hj=>?_))
 refine aG ?_
 refine ev_if_lt (fun hlt=>?_) (fun hge=>?_)
 · have hjn:j<L.length:=by
    have:(j:Int)<(n:Int):=hlt
    omega
   have hf:=hL _ (List.getElem_mem hjn)
   obtain ⟨C,hC⟩:∃ C,C=(crashF L K).take j++L.drop j:=⟨_,rfl⟩
   have hCl:C.length=n:=by rw [hC,List.length_append,List.length_take,crashF_len,List.length_drop];omega
   have hCj:C[j]'(by omega)=L[j]:=by simp only [hC];exact crashF_get hjn
   rw [←hCj] at hf
   rw [←hC]
   have hj2:j<C.length:=by omega
   have e1:∀ hK:j<K.length,C.set j (⟨C[j].n,C[j].d.extract 0 (C[j].s+max 0 (min K[j] ((C[j].d.size:Int)-C[j].s))).toNat,C[j].s+max 0 (min K[j] ((C[j].d.size:Int)-C[j].s))⟩:Fl)=(crashF L K).take (j+1)++L.drop (j+1):=fun hK=>by
    rw [hCj,hC]
    exact crashF_step hjn _ (by rw [List.getElem?_eq_getElem hK];rfl)
   have e2:¬ j<K.length→C.set j (⟨C[j].n,C[j].d.extract 0 C[j].s.toNat,C[j].s⟩:Fl)=(crashF L K).take (j+1)++L.drop (j+1):=fun hK=>by
    rw [hCj,hC]
    exact crashF_step hjn _ (by rw [List.getElem?_eq_none (by omega)];rfl)
   refine aG ?_
   refine ev_stop (go_index0 (sz:=3) Tryz.tbs_ok (.inr 1) (j) rfl rfl rfl rfl rfl rfl (by omega) rfl Row.at0 (fun g40 e41=>?_))
   subst e41
   refine aG ?_
   refine ev_if_lt (fun h42=>?_) (fun h42=>?_)
   refine aG ?_
   refine ev_stop (go_draw Tryz.tbs_ok false [1] [(0,true),(1,true),(2,true),(3,true),(4,true),(5,true),(6,true),(7,true),(8,true),(9,true),(10,true),(11,true),(12,true),(13,true),(14,true),(15,true),(16,true),(17,true),(18,true),(19,true),(20,true),(21,true),(22,true),(23,false)] rfl ?_)
   refine aG (aE ?_)
   have l43:j<(C).length:=(by omega)
   refine ev_stop (tk_loadE Tryz.tbs_ok (.inr 0) (j) 2 aB rfl rfl rfl rfl rfl (fun _ h=>Row.rd h) (by omega) (fun _=>rfl) (by omega) l43 (by decide) ?_)
   refine aG (aE ?_)
   refine ev_stop (tk_indexE (sz:=1) Tryz.tbs_ok (.inl 0) (j) aB rfl rfl rfl rfl rfl rfl rfl (by omega) rfl (fun _ h=>h) (fun g44 o46 e45=>?_))
   subst e45
   refine aG (aE ?_)
   have l47:j<(K).length:=(by omega)
   refine ev_stop (tk_loadE Tryz.tbs_ok (.inl 0) (j) 0 aB rfl rfl rfl rfl rfl (fun _ h=>h) (by omega) (fun _=>rfl) (by omega) l47 (by decide) ?_)
   refine aG (aE ?_)
   have l48:j<(C).length:=(by omega)
   refine ev_stop (tk_loadE Tryz.tbs_ok (.inr 0) (j) 1 aB rfl rfl rfl rfl rfl (fun _ h=>Row.rd h) (by omega) (fun _=>rfl) (by omega) l48 (by decide) ?_)
   refine aG (aE ?_)
   have l49:j<(C).length:=(by omega)
   refine ev_stop (tk_loadE Tryz.tbs_ok (.inr 0) (j) 2 aB rfl rfl rfl rfl rfl (fun _ h=>Row.rd h) (by omega) (fun _=>rfl) (by omega) l49 (by decide) ?_)
   refine aG (aE ?_)
   refine w6 ?_
   refine w6 ?_
   have l50:j<(C).length:=(by omega)
   refine ev_stop (go_storeR Tryz.tbs_ok 1 (j) 2 ({ n:=C[j].n,d:=C[j].d,s:=C[j].s+max 0 (min K[j] ((↑C[j].d.size:Int)-C[j].s)):Fl }) rfl rfl rfl rfl rfl (by omega) (fun _=>rfl) (ones_of rfl) (by omega) l50 rfl (by decide) (ones_of rfl) rfl ?_)
   refine aG (aK ?_)
   refine ev_stop (go_draw Tryz.tbs_ok false [1] [(0,true),(1,true),(2,true),(3,true),(4,true),(5,true),(6,true),(7,true),(8,true),(9,true),(10,true),(11,true),(12,false)] rfl ?_)
   refine aG (aE ?_)
   have l51:j<(C.set j { n:=C[j].n,d:=C[j].d,s:=C[j].s+max 0 (min K[j] ((↑C[j].d.size:Int)-C[j].s)):Fl }).length:=(by (simp only [List.length_set];omega))
   refine ev_stop (tk_loadE Tryz.tbs_ok (.inr 0) (j) 1 aB rfl rfl rfl rfl rfl (fun _ h=>Row.rd h) (by omega) (fun _=>rfl) (by omega) l51 (by decide) ?_)
   refine aG (aE ?_)
   have l52:j<(C.set j { n:=C[j].n,d:=C[j].d,s:=C[j].s+max 0 (min K[j] ((↑C[j].d.size:Int)-C[j].s)):Fl }).length:=(by omega)
   refine ev_stop (tk_loadE Tryz.tbs_ok (.inr 0) (j) 2 aB rfl rfl rfl rfl rfl (fun _ h=>Row.rd h) (by omega) (fun _=>rfl) (by omega) l52 (by decide) ?_)
   refine aG (aE ?_)
   refine ev_stop (go_slot 68 _ (.va (.int IntKind.i64 (((C.set j { n:=C[j].n,d:=C[j].d,s:=C[j].s+max 0 (min K[j] ((↑C[j].d.size:Int)-C[j].s)):Fl })[j].s.toNat:Nat):Int))) rfl rfl (congrArg (fun z=>Value.int IntKind.i64 z) (show (C.set j { n:=C[j].n,d:=C[j].d,s:=C[j].s+max 0 (min K[j] ((↑C[j].d.size:Int)-C[j].s)):Fl })[j].s=(((C.set j { n:=C[j].n,d:=C[j].d,s:=C[j].s+max 0 (min K[j] ((↑C[j].d.size:Int)-C[j].s)):Fl })[j].s.toNat:Nat):Int) by first | omega | (simp only [List.getElem_set_self];omega))) (fun _=>trivial) ?_)
   refine aG (aE ?_)
   refine ev_stop (tk_sliceS Tryz.tbs_ok (0) ((C.set j { n:=C[j].n,d:=C[j].d,s:=C[j].s+max 0 (min K[j] ((↑C[j].d.size:Int)-C[j].s)):Fl })[j].s.toNat) aB rfl rfl rfl rfl rfl rfl ⟨_,rfl⟩ (by omega) (by (simp only [List.getElem_set_self];omega)) ?_)
   refine aG (aE ?_)
   have l53:j<(C.set j { n:=C[j].n,d:=C[j].d,s:=C[j].s+max 0 (min K[j] ((↑C[j].d.size:Int)-C[j].s)):Fl }).length:=(by omega)
   refine ev_stop (go_storeR Tryz.tbs_ok 1 (j) 1 ({ n:=(C.set j { n:=C[j].n,d:=C[j].d,s:=C[j].s+max 0 (min K[j] ((↑C[j].d.size:Int)-C[j].s)):Fl })[j].n,d:=(C.set j { n:=C[j].n,d:=C[j].d,s:=C[j].s+max 0 (min K[j] ((↑C[j].d.size:Int)-C[j].s)):Fl })[j].d.extract 0 (C.set j { n:=C[j].n,d:=C[j].d,s:=C[j].s+max 0 (min K[j] ((↑C[j].d.size:Int)-C[j].s)):Fl })[j].s.toNat,s:=(C.set j { n:=C[j].n,d:=C[j].d,s:=C[j].s+max 0 (min K[j] ((↑C[j].d.size:Int)-C[j].s)):Fl })[j].s:Fl }) rfl rfl rfl rfl rfl (by omega) (fun _=>rfl) (ones_of rfl) (by omega) l53 rfl (by decide) (ones_of rfl) rfl ?_)
   refine aG (aK ?_)
   refine wN (j+1) ?_
   rotate_left
   refine aG ?_
   refine ev_stop (go_draw Tryz.tbs_ok false [1] [(0,true),(1,true),(2,true),(3,true),(4,true),(5,true),(6,true),(7,true),(8,true),(9,true),(10,true),(11,true),(12,false)] rfl ?_)
   refine aG (aE ?_)
   have l54:j<(C).length:=(by omega)
   refine ev_stop (tk_loadE Tryz.tbs_ok (.inr 0) (j) 1 aB rfl rfl rfl rfl rfl (fun _ h=>Row.rd h) (by omega) (fun _=>rfl) (by omega) l54 (by decide) ?_)
   refine aG (aE ?_)
   have l55:j<(C).length:=(by omega)
   refine ev_stop (tk_loadE Tryz.tbs_ok (.inr 0) (j) 2 aB rfl rfl rfl rfl rfl (fun _ h=>Row.rd h) (by omega) (fun _=>rfl) (by omega) l55 (by decide) ?_)
   refine aG (aE ?_)
   refine ev_stop (go_slot 68 _ (.va (.int IntKind.i64 ((C[j].s.toNat:Nat):Int))) rfl rfl (congrArg (fun z=>Value.int IntKind.i64 z) (show C[j].s=((C[j].s.toNat:Nat):Int) by first | omega | (simp only [List.getElem_set_self];omega))) (fun _=>trivial) ?_)
   refine aG (aE ?_)
   refine ev_stop (tk_sliceS Tryz.tbs_ok (0) (C[j].s.toNat) aB rfl rfl rfl rfl rfl rfl ⟨_,rfl⟩ (by omega) (by omega) ?_)
   refine aG (aE ?_)
   have l56:j<(C).length:=(by omega)
   refine ev_stop (go_storeR Tryz.tbs_ok 1 (j) 1 ({ n:=C[j].n,d:=C[j].d.extract 0 C[j].s.toNat,s:=C[j].s:Fl }) rfl rfl rfl rfl rfl (by omega) (fun _=>rfl) (ones_of rfl) (by omega) l56 rfl (by decide) (ones_of rfl) rfl ?_)
   refine aG (aK ?_)
   refine wN (j+1) ?_
   rotate_left
   · simp only [List.getElem_set_self,List.set_set]
     rw [e1 (by omega)]
     refine ev_fin (round_next (j+1) (show j+1≤n from (by omega)) (show n-(j+1)<n-j from (by omega)) aS)
   rw [e2 (by omega)]
   refine ev_fin (round_next (j+1) (show j+1≤n from (by omega)) (show n-(j+1)<n-j from (by omega)) aS)
 obtain rfl:j=n:=by
  have:¬ (j:Int)<(n:Int):=hge
  omega
 have e:(crashF L K).take j++L.drop j=crashF L K:=by
  rw [List.take_of_length_le (by rw [crashF_len];omega),List.drop_of_length_le (by omega),List.append_nil]
 rw [e]
 refine aG ?_
 refine ev_fin (go Tryz.tbs_ok 1000 ?_)
 exact ev_fin ⟨trivial,_,rfl,(),rfl,trivial,aF [0,1]⟩
theorem row_shrink {e sz n k c:Nat} {A:Option Addr} {α:Type} {enc:α→List Value} (hlen:∀ x,(enc x).length=sz) {L:List α} {h:Hp} (p:(Row e sz A n c (L.flatMap enc)).holds h) (hk:k≤n):(Row e sz A k c ((L.take k).flatMap enc)).holds h:=by
 obtain ⟨p1,p2,p3⟩:=p
 have hkn:k*sz≤n*sz:=Nat.mul_le_mul_right _ hk
 refine ⟨?_,fun v hv=>p2 v ?_,?_⟩
 · rw [←flat_take hlen,List.length_take];omega
 · rw [←flat_take hlen] at hv;exact List.mem_of_mem_take hv
 rcases p3 with ⟨h1,h2,h3⟩ | ⟨g,cur,h1,h2,h3,h4,h5,h6⟩
 · exact .inl ⟨h1,by omega,h3⟩
 exact .inr ⟨g,cur,h1,h2,by omega,h4,h5,by rw [←flat_take hlen,←h6,List.take_take,Nat.min_eq_left hkn]⟩
theorem drop_eq {L:List Fl} {n at_:Nat} (hn:n=L.length) (h:at_<n) {k:Nat} (hk:k=n-(at_+1)):((L.take at_++(((L.take (at_+1+k)).drop (at_+1)).take k)++L.drop (at_+k)).take (n-1))=L.eraseIdx at_:=by
 subst hk
 have h1:at_+1+(n-(at_+1))=L.length:=by omega
 have hl:(L.take at_).length=at_:=by rw [List.length_take];omega
 have h2:(L.drop (at_+1)).take (n-(at_+1))=L.drop (at_+1):=List.take_of_length_le (by rw [List.length_drop];omega)
 rw [h1,List.take_length,h2,List.take_append_of_le_length (by rw [List.length_append,hl,List.length_drop];omega),List.take_of_length_le (by rw [List.length_append,hl,List.length_drop];omega),List.eraseIdx_eq_take_drop_succ]
theorem dropT (p:Nat) (m s:Int) (dn:Bool) (A:Option Addr) (n c:Nat) (fv:Value) (B:Option Addr) (k d:Nat) (L:List Fl) (hn:n=L.length) (h1:n≤1000) (i:Nat) (hi:i<n):Triple Tryz.prog 106 [pP p,.int .i64 (i:Nat)] [Pt p 52 [.int .i64 m,.int .i64 s,.bool dn,.slice A n c,fv,.slice B k d],Row 89 3 A n c (L.flatMap encF)] [] (Unit) (fun _=>.tuple #[]) (fun _=>True) (fun _=>[Pt p 52 [.int .i64 m,.int .i64 s,.bool dn,.slice A (n-1) c,fv,.slice B k d],Row 89 3 A (n-1) c ((L.eraseIdx i).flatMap encF)]):=by
 refine aT Tryz.func106 [.pt 0 p 0,vI (i:Nat)] [.box p 52 [vI m,vI s,.va (.bool dn),vL A n c,.va fv,vL B k d],.fact (Row 89 3 A n c (L.flatMap encF))] (fun E=>?_) ⟨rfl,trivial,trivial⟩
 refine go_know (.inr 1) (Row 89 3 A n c (L.flatMap encF)) rfl (p:=n≤c) (fun _ p=>Row.cap p) fun hc=>?_
 refine go_know (.inr 1) (Row 89 3 A n c (L.flatMap encF)) rfl (p:=∃ g,A=some ⟨g,0,none⟩) (fun h p=>Row.at0 h p (by omega)) ?_
 rintro ⟨g,rfl⟩
 refine aG ?_
 refine ev_stop (go_draw Tryz.tbs_ok false [0] [(0,true),(1,true),(2,true),(3,true),(4,true),(5,true),(6,true),(7,true),(8,true),(9,true),(10,true),(11,true),(12,true),(13,false)] rfl ?_)
 refine aG (aE ?_)
 refine ev_stop (tk_back Tryz.tbs_ok (i) (n) (c) aB rfl rfl rfl rfl rfl rfl ⟨_,rfl⟩ rfl rfl (by decide) (by omega) (by omega) (by omega) ?_)
 refine aG (aE ?_)
 refine wN (i+1) ?_
 refine ev_stop (tk_back Tryz.tbs_ok (i+1) (n) (c) aB rfl rfl rfl rfl rfl rfl ⟨_,rfl⟩ rfl rfl (by decide) (by omega) (by omega) (by omega) ?_)
 refine aG (aE ?_)
 refine ev_stop (go_copyE (sz:=3) (enc:=encF) Tryz.tbs_ok 1 (i) (n-(i+1)) (.inr 1) (L) ((((L).take ((i+1)+(n-(i+1)))).drop (i+1))) ((L).take (i)++((((L).take ((i+1)+(n-(i+1)))).drop (i+1))).take (n-(i+1))++(L).drop ((i)+(n-(i+1)))) rfl rfl rfl rfl rfl rfl rfl (by decide) rfl (backA_at (by omega)) rfl (fun _ h=>rd_part (lo:=i+1) (m:=n-(i+1)) (fun _=>rfl) (Row.rd h) (by omega) (by omega)) (fun _=>rfl) (by first | rfl | (show _=min _ _;omega)) (by omega) rfl ?_)
 refine aG (aK ?_)
 refine ev_stop (go_draw Tryz.tbs_ok false [0] [(0,true),(1,true),(2,true),(3,true),(4,true),(5,true),(6,true),(7,true),(8,true),(9,true),(10,true),(11,true),(12,true),(13,true),(14,false)] rfl ?_)
 refine aG (aE ?_)
 refine wO (n-1) ?_
 refine ev_stop (tk_front Tryz.tbs_ok (n-1) (c) aB rfl rfl rfl rfl rfl rfl rfl ⟨_,rfl⟩ rfl (by decide) (by omega) (by omega) ?_)
 refine aG (aE (aK ?_))
 refine ev_fin ⟨trivial,_,rfl,(),rfl,trivial,Frm.imp (M:=[Pt p 52 [.int .i64 m,.int .i64 s,.bool dn,.slice (some ⟨g,0,none⟩) (n-1) c,fv,.slice B k d],Row 89 3 (some ⟨g,0,none⟩) n c ((L.take i++(((L.take (i+1+(n-(i+1)))).drop (i+1)).take (n-(i+1)))++L.drop (i+(n-(i+1)))).flatMap encF)]) [0,1] rfl (by decide) (fun h q=>?_)⟩
 obtain ⟨h1',h2',d1,a,b,p1,q⟩:=q
 refine ⟨h1',h2',d1,a,b,p1,starH_one.2 ?_⟩
 rw [←drop_eq hn hi rfl]
 exact row_shrink (enc:=encF) (sz:=3) (fun _=>rfl) (starH_one.1 q) (by omega)
theorem syncDo (p:Nat) (m s:Int) (dn:Bool) (A:Option Addr) (n c:Nat) (fv:Value) (B:Option Addr) (k d:Nat) (L:List Fl) (hn:n=L.length) (h1:n≤1000) (bd ba i:Nat) (hi:i<L.length):Triple Tryz.prog 136 [pP bd,pP ba] [Pt p 52 [.int .i64 m,.int .i64 s,.bool dn,.slice A n c,fv,.slice B k d],Row 89 3 A n c (L.flatMap encF),Pt bd 25 [pP p],Pt ba 3 [.int .i64 (i:Nat)]] [] (Unit) (fun _=>.tuple #[]) (fun _=>True) (fun _=>[Pt p 52 [.int .i64 m,.int .i64 s,.bool dn,.slice A n c,fv,.slice B k d],Row 89 3 A n c ((L.set i ⟨(L[i]'hi).n,(L[i]'hi).d,((L[i]'hi).d.size:Nat)⟩).flatMap encF),Pt bd 25 [pP p],Pt ba 3 [.int .i64 (i:Nat)]]):=by
 refine triple_intro Tryz.tbs_ok Tryz.func136 rfl [.pt 2 bd 0,.pt 3 ba 0] [.box p 52 [vI m,vI s,.va (.bool dn),vL A n c,.va fv,vL B k d],.fact (Row 89 3 A n c (L.flatMap encF)),.box bd 25 [.pt 0 p 0],.box ba 3 [vI (i:Nat)]] ⟨rfl,rfl,trivial⟩ rfl (by simp [SV.good,SV.goodL]<;>rfl) ?_
 intro E
 refine aG ?_
 refine ev_stop (go_draw Tryz.tbs_ok false [0,1,2,3] [(0,true),(1,true),(2,true),(3,true),(4,true),(5,true),(6,true),(7,true),(8,true),(9,true),(10,true),(11,true),(12,true),(13,true),(14,true),(15,true),(16,false)] rfl ?_)
 refine aG (aE ?_)
 refine ev_stop (tk_index0 (sz:=3) Tryz.tbs_ok (.inr 1) (i) aB rfl rfl rfl rfl rfl rfl rfl (by omega) rfl Row.at0 (fun g0 e1=>?_))
 subst e1
 refine aG (aE ?_)
 have l2:i<(L).length:=(by omega)
 refine ev_stop (tk_loadE Tryz.tbs_ok (.inr 1) (i) 1 aB rfl rfl rfl rfl rfl (fun _ h=>Row.rd h) (by omega) (fun _=>rfl) (by omega) l2 (by decide) ?_)
 refine aG (aE ?_)
 refine ev_stop (tk_atE (sz:=3) Tryz.tbs_ok (i) aB rfl rfl rfl rfl rfl rfl rfl (by omega) ?_)
 refine aG (aE ?_)
 have l3:i<(L).length:=(by omega)
 refine ev_stop (go_storeR Tryz.tbs_ok 1 (i) 2 ({ n:=L[i].n,d:=L[i].d,s:=(↑L[i].d.size:Int):Fl }) rfl rfl rfl rfl rfl (by omega) (fun _=>rfl) (ones_of rfl) (by omega) l3 rfl (by decide) (ones_of rfl) rfl ?_)
 refine aG (aK ?_)
 exact ev_fin ⟨trivial,_,rfl,(),rfl,trivial,aF [0,1,2,3]⟩
theorem truncDo (n c g:Nat) (L:List Fl) (hn:n=L.length) (h1:n≤1000) (bf bn i:Nat) (q:Int) (hi:i<L.length) (hq:0≤q) (hq2:q≤(L[i]'hi).d.size):Triple Tryz.prog 95 [pP bf,pP bn] [Row 89 3 (some ⟨g,0,none⟩) n c ((L).flatMap encF),Pt bf 87 [.pointer (some ⟨g,0+i*3,none⟩)],Pt bn 3 [.int .i64 q]] [] (Unit) (fun _=>.tuple #[]) (fun _=>True) (fun _=>[Row 89 3 (some ⟨g,0,none⟩) n c ((L.set i ⟨(L[i]'hi).n,(L[i]'hi).d.extract 0 q.toNat,min (L[i]'hi).s q⟩).flatMap encF),Pt bf 87 [.pointer (some ⟨g,0+i*3,none⟩)],Pt bn 3 [.int .i64 q]]):=by
 refine aT Tryz.func95 [.pt 1 bf 0,.pt 2 bn 0] [.fact (Row 89 3 (some ⟨g,0,none⟩) n c ((L).flatMap encF)),.box bf 87 [.va (.pointer (some ⟨g,0+i*3,none⟩))],.box bn 3 [vI q]] (fun E=>?_) ⟨rfl,rfl,trivial⟩
 refine aG ?_
 refine ev_stop (go_draw Tryz.tbs_ok false [1,2] [(0,true),(1,true),(2,true),(3,true),(4,true),(6,true),(8,true),(9,true),(10,true),(12,true),(99,false),(0,true),(0,true),(0,true),(0,true),(0,true),(0,true),(0,true),(0,true),(0,true)] rfl ?_)
 refine aG (aE ?_)
 refine ev_stop (go_fork 5 11 [(7,true),(11,false),(13,true),(14,false),(15,false),(16,false),(17,false),(18,false),(19,false)] [(13,true),(5,false),(7,false),(14,false),(15,false),(16,false),(17,false),(18,false),(19,false)] _ _ ⟨aL,rfl⟩ (by kernel_rfl) rfl rfl rfl rfl ?_ ?_)
 refine aG ?_
 have l0:i<(L).length:=(by omega)
 refine ev_stop (go_loadE Tryz.tbs_ok (.inr 0) (i) 1 rfl rfl rfl rfl (fun _ h=>Row.rd h) (by omega) (fun _=>rfl) (by omega) l0 (by decide) ?_)
 refine aG (aE ?_)
 refine ev_stop (go_slot 8 _ (.va (.int IntKind.i64 ((q.toNat:Nat):Int))) rfl rfl (congrArg (fun z=>Value.int IntKind.i64 z) (show q=((q.toNat:Nat):Int) by first | omega | (simp only [List.getElem_set_self];omega))) (fun _=>trivial) ?_)
 refine aG (aE ?_)
 refine ev_stop (tk_sliceS Tryz.tbs_ok (0) (q.toNat) aB rfl rfl rfl rfl rfl rfl ⟨_,rfl⟩ (by omega) (by omega) ?_)
 refine aG (aE ?_)
 have l1:i<(L).length:=(by omega)
 refine ev_stop (go_loadE Tryz.tbs_ok (.inr 0) (i) 2 rfl rfl rfl rfl (fun _ h=>Row.rd h) (by omega) (fun _=>rfl) (by omega) l1 (by decide) ?_)
 refine aG (aE (aE (aE ?_)))
 have l2:i<(L).length:=(by omega)
 refine ev_stop (go_storeR Tryz.tbs_ok 0 (i) 1 ({ n:=L[i].n,d:=L[i].d.extract 0 q.toNat,s:=L[i].s:Fl }) rfl rfl rfl rfl rfl (by omega) (fun _=>rfl) (ones_of rfl) (by omega) l2 rfl (by decide) (ones_of rfl) rfl ?_)
 refine aG (aE (aE (aE ?_)))
 have l3:i<(L.set i { n:=L[i].n,d:=L[i].d.extract 0 q.toNat,s:=L[i].s:Fl }).length:=(by (simp only [List.length_set];omega))
 refine ev_stop (go_storeR Tryz.tbs_ok 0 (i) 2 ({ n:=(L.set i { n:=L[i].n,d:=L[i].d.extract 0 q.toNat,s:=L[i].s:Fl })[i].n,d:=(L.set i { n:=L[i].n,d:=L[i].d.extract 0 q.toNat,s:=L[i].s:Fl })[i].d,s:=min L[i].s q:Fl }) rfl rfl rfl rfl rfl (by omega) (fun _=>rfl) (ones_of rfl) (by omega) l3 rfl (by decide) (ones_of rfl) rfl ?_)
 refine aG (aK ?_)
 rotate_left
 refine aG ?_
 have l4:i<(L).length:=(by omega)
 refine ev_stop (go_loadE Tryz.tbs_ok (.inr 0) (i) 2 rfl rfl rfl rfl (fun _ h=>Row.rd h) (by omega) (fun _=>rfl) (by omega) l4 (by decide) ?_)
 refine aG (aE ?_)
 have l5:i<(L).length:=(by omega)
 refine ev_stop (go_loadE Tryz.tbs_ok (.inr 0) (i) 1 rfl rfl rfl rfl (fun _ h=>Row.rd h) (by omega) (fun _=>rfl) (by omega) l5 (by decide) ?_)
 refine aG (aE ?_)
 refine ev_stop (go_slot 8 _ (.va (.int IntKind.i64 ((q.toNat:Nat):Int))) rfl rfl (congrArg (fun z=>Value.int IntKind.i64 z) (show q=((q.toNat:Nat):Int) by first | omega | (simp only [List.getElem_set_self];omega))) (fun _=>trivial) ?_)
 refine aG ?_
 refine ev_stop (go_sliceS Tryz.tbs_ok (0) (q.toNat) rfl rfl rfl rfl rfl ⟨_,rfl⟩ (by omega) (by omega) ?_)
 refine aG (aE (aE (aE ?_)))
 have l6:i<(L).length:=(by omega)
 refine ev_stop (go_storeR Tryz.tbs_ok 0 (i) 1 ({ n:=L[i].n,d:=L[i].d.extract 0 q.toNat,s:=L[i].s:Fl }) rfl rfl rfl rfl rfl (by omega) (fun _=>rfl) (ones_of rfl) (by omega) l6 rfl (by decide) (ones_of rfl) rfl ?_)
 refine aG (aE (aE (aE ?_)))
 have l7:i<(L.set i { n:=L[i].n,d:=L[i].d.extract 0 q.toNat,s:=L[i].s:Fl }).length:=(by (simp only [List.length_set];omega))
 refine ev_stop (go_storeR Tryz.tbs_ok 0 (i) 2 ({ n:=(L.set i { n:=L[i].n,d:=L[i].d.extract 0 q.toNat,s:=L[i].s:Fl })[i].n,d:=(L.set i { n:=L[i].n,d:=L[i].d.extract 0 q.toNat,s:=L[i].s:Fl })[i].d,s:=min L[i].s q:Fl }) rfl rfl rfl rfl rfl (by omega) (fun _=>rfl) (ones_of rfl) (by omega) l7 rfl (by decide) (ones_of rfl) rfl ?_)
 refine aG (aK ?_)
 rotate_left
 · simp only [List.getElem_set_self,List.set_set]
   exact ev_fin ⟨trivial,_,rfl,(),rfl,trivial,aF [0,1,2]⟩
 simp only [List.getElem_set_self,List.set_set]
 exact ev_fin ⟨trivial,_,rfl,(),rfl,trivial,aF [0,1,2]⟩
theorem removeDo (p:Nat) (m s:Int) (dn:Bool) (A:Option Addr) (n c:Nat) (fv:Value) (B:Option Addr) (k d:Nat) (L:List Fl) (hn:n=L.length) (h1:n≤1000) (bd ba i:Nat) (hi:i<n):Triple Tryz.prog 131 [pP bd,pP ba] [Pt p 52 [.int .i64 m,.int .i64 s,.bool dn,.slice A n c,fv,.slice B k d],Row 89 3 A n c (L.flatMap encF),Pt bd 25 [pP p],Pt ba 3 [.int .i64 (i:Nat)]] [] (Unit) (fun _=>.tuple #[]) (fun _=>True) (fun _=>[Pt p 52 [.int .i64 m,.int .i64 s,.bool dn,.slice A (n-1) c,fv,.slice B k d],Row 89 3 A (n-1) c ((L.eraseIdx i).flatMap encF),Pt bd 25 [pP p],Pt ba 3 [.int .i64 (i:Nat)]]):=by
 have T1:=dropT p m s dn A n c fv B k d L hn h1 i hi
 refine triple_intro Tryz.tbs_ok Tryz.func131 rfl [.pt 2 bd 0,.pt 3 ba 0] [.box p 52 [vI m,vI s,.va (.bool dn),vL A n c,.va fv,vL B k d],.fact (Row 89 3 A n c (L.flatMap encF)),.box bd 25 [.pt 0 p 0],.box ba 3 [vI (i:Nat)]] ⟨rfl,rfl,trivial⟩ rfl (by simp [SV.good,SV.goodL]<;>rfl) ?_
 intro E
 refine aG ?_
 refine aD T1 [0,1] [] (fun v0_=>[.box (p) 52 [vI m,vI s,.bq (dn),vL A (n-1) c,.va (fv),vL B k d],.fact (Row 89 3 A (n-1) c (List.flatMap encF (L.eraseIdx i)))]) fun _ h0=>?_
 exact ev_fin ⟨trivial,_,rfl,(),rfl,trivial,aF [0,1,2,3]⟩
theorem appendDoT (p:Nat) (m s:Int) (dn:Bool) (A:Option Addr) (n c:Nat) (fv:Value) (B:Option Addr) (k d:Nat) (L:List Fl) (hn:n=L.length) (h1:n≤1000) (bk bd ba bx bs i:Nat) (x y:ByteArray) (hi:i<L.length) (hy:(L[i]'hi).d.size+y.size≤1000000000):Triple Tryz.prog 79 [pP bk,pP bd,pP ba,pP bx,pP bs] [Pt p 52 [.int .i64 m,.int .i64 s,.bool dn,.slice A n c,fv,.slice B k d],Row 89 3 A n c (L.flatMap encF),Pt bk 4 [.bool true],Pt bd 25 [pP p],Pt ba 3 [.int .i64 (i:Nat)],Pt bx 9 [.string x],Pt bs 9 [.string y]] [] (Unit) (fun _=>.tuple #[]) (fun _=>True) (fun _=>[Pt p 52 [.int .i64 m,.int .i64 s,.bool dn,.slice A n c,fv,.slice B k d],Row 89 3 A n c ((L.set i ⟨(L[i]'hi).n,(L[i]'hi).d++y,(L[i]'hi).s⟩).flatMap encF),Pt bk 4 [.bool true],Pt bd 25 [pP p],Pt ba 3 [.int .i64 (i:Nat)],Pt bx 9 [.string x],Pt bs 9 [.string y]]):=by
 refine triple_intro Tryz.tbs_ok Tryz.func79 rfl [.pt 2 bk 0,.pt 3 bd 0,.pt 4 ba 0,.pt 5 bx 0,.pt 6 bs 0] [.box p 52 [vI m,vI s,.va (.bool dn),vL A n c,.va fv,vL B k d],.fact (Row 89 3 A n c (L.flatMap encF)),.box bk 4 [.va (.bool true)],.box bd 25 [.pt 0 p 0],.box ba 3 [vI (i:Nat)],.box bx 9 [.va (.string x)],.box bs 9 [.va (.string y)]] ⟨rfl,rfl,rfl,rfl,rfl,trivial⟩ rfl (by simp [SV.good,SV.goodL]<;>rfl) ?_
 intro E
 refine aG (aI ?_)
 refine ev_stop (go_draw Tryz.tbs_ok false [0,1,3,4,6] [(0,true),(1,true),(2,true),(3,true),(4,true),(5,true),(6,true),(7,true),(8,true),(9,true),(10,true),(11,true),(12,false)] rfl ?_)
 refine aG (aE ?_)
 refine ev_stop (tk_index0 (sz:=3) Tryz.tbs_ok (.inr 1) (i) aB rfl rfl rfl rfl rfl rfl rfl (by omega) rfl Row.at0 (fun g0 e1=>?_))
 subst e1
 refine aG (aE ?_)
 have l2:i<(L).length:=(by omega)
 refine ev_stop (tk_loadE Tryz.tbs_ok (.inr 1) (i) 1 aB rfl rfl rfl rfl rfl (fun _ h=>Row.rd h) (by omega) (fun _=>rfl) (by omega) l2 (by decide) ?_)
 refine aG (aE ?_)
 refine ev_stop (tk_bin (.va _) trivial aB rfl rfl rfl rfl rfl rfl (by decide) (by decide) (fun w=>cat_run (by omega) w) ?_)
 refine aG (aE ?_)
 refine ev_stop (tk_atE (sz:=3) Tryz.tbs_ok (i) aB rfl rfl rfl rfl rfl rfl rfl (by omega) ?_)
 refine aG (aE ?_)
 have l3:i<(L).length:=(by omega)
 refine ev_stop (go_storeR Tryz.tbs_ok 1 (i) 1 ({ n:=L[i].n,d:=L[i].d++y,s:=L[i].s:Fl }) rfl rfl rfl rfl rfl (by omega) (fun _=>rfl) (ones_of rfl) (by omega) l3 rfl (by decide) (ones_of rfl) rfl ?_)
 refine aG (aK ?_)
 exact ev_fin ⟨trivial,_,rfl,(),rfl,trivial,aF [0,1,2,3,4,5,6]⟩
theorem appendDoF (p:Nat) (m s:Int) (dn:Bool) (A:Option Addr) (n c:Nat) (fv:Value) (B:Option Addr) (k d:Nat) (L:List Fl) (hn:n=L.length) (h1:n≤1000) (bk bd ba bx bs i:Nat) (x y:ByteArray) (hi:i≤n) (hy:y.size≤1000000000):Triple Tryz.prog 79 [pP bk,pP bd,pP ba,pP bx,pP bs] [Pt p 52 [.int .i64 m,.int .i64 s,.bool dn,.slice A n c,fv,.slice B k d],Row 89 3 A n c (L.flatMap encF),Pt bk 4 [.bool false],Pt bd 25 [pP p],Pt ba 3 [.int .i64 (i:Nat)],Pt bx 9 [.string x],Pt bs 9 [.string y]] [] (Option Addr × Nat) (fun _=>.tuple #[]) (fun _=>True) (fun (A2,c2)=>[Pt p 52 [.int .i64 m,.int .i64 s,.bool dn,.slice A2 (n+1) c2,fv,.slice B k d],Row 89 3 A2 (n+1) c2 ((L.take i++⟨x,y,0⟩::L.drop i).flatMap encF),Pt bk 4 [.bool false],Pt bd 25 [pP p],Pt ba 3 [.int .i64 (i:Nat)],Pt bx 9 [.string x],Pt bs 9 [.string y]]):=by
 have T1:=fun vb=>insertF A L n c i vb ⟨x,ByteArray.empty,0⟩ hn h1 hi
 refine triple_intro Tryz.tbs_ok Tryz.func79 rfl [.pt 2 bk 0,.pt 3 bd 0,.pt 4 ba 0,.pt 5 bx 0,.pt 6 bs 0] [.box p 52 [vI m,vI s,.va (.bool dn),vL A n c,.va fv,vL B k d],.fact (Row 89 3 A n c (L.flatMap encF)),.box bk 4 [.va (.bool false)],.box bd 25 [.pt 0 p 0],.box ba 3 [vI (i:Nat)],.box bx 9 [.va (.string x)],.box bs 9 [.va (.string y)]] ⟨rfl,rfl,rfl,rfl,rfl,trivial⟩ rfl (by simp [SV.good,SV.goodL]<;>rfl) ?_
 intro E
 obtain ⟨J,hJ⟩:∃ J,J=L.take i++(⟨x,ByteArray.empty,0⟩:Fl)::L.drop i:=⟨_,rfl⟩
 have hl:(L.take i).length=i:=by rw [List.length_take];omega
 have hJl:J.length=n+1:=by
  rw [hJ,List.length_append,hl,List.length_cons,List.length_drop];omega
 have hJi:J[i]'(by omega)=⟨x,ByteArray.empty,0⟩:=by
  simp only [hJ]
  rw [List.getElem_append_right (by omega)]
  simp [hl]
 have hJz:(J[i]'(by omega)).d.size+y.size≤1000000000:=by
  rw [hJi]
  have:ByteArray.empty.size=0:=rfl
  simp only [this]
  omega
 have e1:J.set i ⟨(J[i]'(by omega)).n,(J[i]'(by omega)).d++y,(J[i]'(by omega)).s⟩=L.take i++⟨x,y,0⟩::L.drop i:=by
  rw [hJi,hJ,List.set_append_right _ _ (by omega),hl,Nat.sub_self,List.set_cons_zero]
  simp only [ByteArray.empty_append]
 simp only [←hJ] at T1
 refine aG (aJ ?_)
 refine ev_stop (go_draw Tryz.tbs_ok false [0,3,4,5] [(0,true),(1,true),(2,true),(3,true),(4,true),(5,true),(6,true),(7,true),(8,false),(9,false),(10,false),(11,false),(12,false)] rfl ?_)
 refine aG (aE ?_)
 refine ev_new fun b0=>?_
 refine aE ?_
 refine aC (T1 (b0)) [1,7] [] fun ⟨x1,x2⟩ h3=>?_
 refine aE (aE (aE (aK ?_)))
 refine ev_stop (go_draw Tryz.tbs_ok false [0,1,3,4,6] [(0,true),(1,true),(2,true),(3,true),(4,true),(5,true),(6,true),(7,true),(8,true),(9,true),(10,true),(11,true),(12,false)] rfl ?_)
 refine aG (aE ?_)
 refine ev_stop (tk_index0 (sz:=3) Tryz.tbs_ok (.inr 1) (i) aB rfl rfl rfl rfl rfl rfl rfl (by omega) rfl Row.at0 (fun g4 e5=>?_))
 subst e5
 refine aG (aE ?_)
 have l6:i<(J).length:=(by omega)
 refine ev_stop (tk_loadE Tryz.tbs_ok (.inr 1) (i) 1 aB rfl rfl rfl rfl rfl (fun _ h=>Row.rd h) (by omega) (fun _=>rfl) (by omega) l6 (by decide) ?_)
 refine aG (aE ?_)
 refine ev_stop (tk_bin (.va _) trivial aB rfl rfl rfl rfl rfl rfl (by decide) (by decide) (fun w=>cat_run (by omega) w) ?_)
 refine aG (aE ?_)
 refine ev_stop (tk_atE (sz:=3) Tryz.tbs_ok (i) aB rfl rfl rfl rfl rfl rfl rfl (by omega) ?_)
 refine aG (aE ?_)
 have l7:i<(J).length:=(by omega)
 refine ev_stop (go_storeR Tryz.tbs_ok 1 (i) 1 ({ n:=J[i].n,d:=J[i].d++y,s:=J[i].s:Fl }) rfl rfl rfl rfl rfl (by omega) (fun _=>rfl) (ones_of rfl) (by omega) l7 rfl (by decide) (ones_of rfl) rfl ?_)
 refine aG (aK ?_)
 rw [e1]
 exact ev_fin ⟨trivial,_,rfl,((some { block:=g4,off:=0:Addr },x2)),rfl,trivial,aF [0,1,2,3,4,5,6]⟩
theorem has_pos {L:List Fl} (hs:riseF L) {x:ByteArray} (h:hasF L x=true):∃ h:posF L x<L.length,(L[posF L x]'h).n=x:=by
 unfold hasF at h
 rw [List.any_eq_true] at h
 obtain ⟨y,hy,e⟩:=h
 have e:=of_decide_eq_true e
 obtain ⟨k,hk,rfl⟩:=List.getElem_of_mem hy
 have h1:∀ y∈L.take k,ltS y.n x:=fun y hy=>by
  obtain ⟨j,hj,rfl⟩:=List.getElem_of_mem hy
  rw [List.length_take] at hj
  rw [List.getElem_take,←e]
  exact List.pairwise_iff_getElem.1 hs j k (by omega) hk (by omega)
 have h2:∀ y∈L.drop k,¬ ltS y.n x:=fun y hy=>by
  obtain ⟨j,hj,rfl⟩:=List.getElem_of_mem hy
  rw [List.length_drop] at hj
  rw [List.getElem_drop,←e]
  rcases Nat.eq_zero_or_pos j with h0 | h0
  · subst h0;exact ltS.irrefl _
  exact (List.pairwise_iff_getElem.1 hs k (k+j) hk (by omega) (by omega)).asymm
 have:posF L x=k:=posF_of (by omega) h1 h2
 simp only [this]
 exact ⟨hk,e⟩
theorem renameDoT (p:Nat) (m s:Int) (dn:Bool) (A:Option Addr) (n c:Nat) (fv:Value) (B:Option Addr) (k d:Nat) (L:List Fl) (hn:n=L.length) (h1:n≤1000) (hs:riseF L) (bd ba bt i:Nat) (x:ByteArray) (hi:i<L.length) (hh:hasF (L.eraseIdx i) x=true):Triple Tryz.prog 105 [pP bd,pP ba,pP bt] [Pt p 52 [.int .i64 m,.int .i64 s,.bool dn,.slice A n c,fv,.slice B k d],Row 89 3 A n c (L.flatMap encF),Pt bd 25 [pP p],Pt ba 3 [.int .i64 (i:Nat)],Pt bt 9 [.string x]] [] (Unit) (fun _=>.tuple #[]) (fun _=>True) (fun _=>[Pt p 52 [.int .i64 m,.int .i64 s,.bool dn,.slice A (n-1) c,fv,.slice B k d],Row 89 3 A (n-1) c (((L.eraseIdx i).set (posF (L.eraseIdx i) x) ⟨x,(L[i]'hi).d,(L[i]'hi).s⟩).flatMap encF),Pt bd 25 [pP p],Pt ba 3 [.int .i64 (i:Nat)],Pt bt 9 [.string x]]):=by
 have T1:=dropT p m s dn A n c fv B k d L hn h1 i (by omega)
 have hl:(L.eraseIdx i).length=n-1:=by rw [List.length_eraseIdx_of_lt hi];omega
 have hsM:riseF (L.eraseIdx i):=List.Pairwise.sublist (List.eraseIdx_sublist _ _) hs
 have T2:=findT p m s dn A (n-1) c fv B k d (L.eraseIdx i) x hl.symm (by omega) hsM
 rw [hh] at T2
 obtain ⟨hp,_⟩:=has_pos hsM hh
 refine triple_intro Tryz.tbs_ok Tryz.func105 rfl [.pt 2 bd 0,.pt 3 ba 0,.pt 4 bt 0] [.box p 52 [vI m,vI s,.va (.bool dn),vL A n c,.va fv,vL B k d],.fact (Row 89 3 A n c (L.flatMap encF)),.box bd 25 [.pt 0 p 0],.box ba 3 [vI (i:Nat)],.box bt 9 [.va (.string x)]] ⟨rfl,rfl,rfl,trivial⟩ rfl (by simp [SV.good,SV.goodL]<;>rfl) ?_
 intro E
 refine aG ?_
 refine ev_stop (go_draw Tryz.tbs_ok false [0,1,2,3] [(0,true),(1,true),(2,true),(3,true),(4,true),(5,true),(6,true),(7,false),(8,false)] rfl ?_)
 refine aG (aE ?_)
 refine ev_stop (tk_index0 (sz:=3) Tryz.tbs_ok (.inr 1) (i) aB rfl rfl rfl rfl rfl rfl rfl (by omega) rfl Row.at0 (fun g0 e1=>?_))
 subst e1
 refine aG (aE ?_)
 have l2:i<(L).length:=(by omega)
 refine ev_stop (tk_loadE Tryz.tbs_ok (.inr 1) (i) 0 aB rfl rfl rfl rfl rfl (fun _ h=>Row.rd h) (by omega) (fun _=>rfl) (by omega) l2 (by decide) ?_)
 refine aG (aE ?_)
 refine ev_new fun b3=>?_
 refine aE (aK ?_)
 refine aD T1 [0,1] [] (fun v0_=>[.box (p) 52 [vI m,vI s,.bq (dn),vL (some { block:=g0,off:=0:Addr }) (n-1) c,.va (fv),vL B k d],.fact (Row 89 3 (some { block:=g0,off:=0:Addr }) (n-1) c (List.flatMap encF (L.eraseIdx i)))]) fun _ h4=>?_
 refine aD T2 [0,1] [] (fun v0_=>[.box (p) 52 [vI m,vI s,.bq (dn),vL (some { block:=g0,off:=0:Addr }) (n-1) c,.va (fv),vL B k d],.fact (Row 89 3 (some { block:=g0,off:=0:Addr }) (n-1) c (List.flatMap encF (L.eraseIdx i)))]) fun _ h5=>?_
 refine aJ ?_
 refine ev_stop (go_draw Tryz.tbs_ok false [0,2,5] [(0,true),(1,true),(2,true),(3,true),(4,true),(5,true),(6,true),(7,false)] rfl ?_)
 refine aG (aE ?_)
 refine ev_stop (tk_atE (sz:=3) Tryz.tbs_ok (posF (L.eraseIdx i) x) aB rfl rfl rfl rfl rfl rfl rfl (by omega) ?_)
 refine aG (aE ?_)
 have l6:posF (L.eraseIdx i) x<(L.eraseIdx i).length:=(by omega)
 refine ev_stop (go_storeR Tryz.tbs_ok 1 (posF (L.eraseIdx i) x) 0 ({ n:=x,d:=L[i].d,s:=L[i].s:Fl }) rfl rfl rfl rfl rfl (by omega) (fun _=>rfl) (ones_of rfl) (by omega) l6 rfl (by decide) (ones_of rfl) rfl ?_)
 refine aG (aK ?_)
 exact ev_fin ⟨trivial,_,rfl,(),rfl,trivial,aF [0,1,2,3,4]⟩
theorem renameDoF (p:Nat) (m s:Int) (dn:Bool) (A:Option Addr) (n c:Nat) (fv:Value) (B:Option Addr) (k d:Nat) (L:List Fl) (hn:n=L.length) (h1:n≤1000) (hs:riseF L) (bd ba bt i:Nat) (x:ByteArray) (hi:i<L.length) (hh:hasF (L.eraseIdx i) x=false):Triple Tryz.prog 105 [pP bd,pP ba,pP bt] [Pt p 52 [.int .i64 m,.int .i64 s,.bool dn,.slice A n c,fv,.slice B k d],Row 89 3 A n c (L.flatMap encF),Pt bd 25 [pP p],Pt ba 3 [.int .i64 (i:Nat)],Pt bt 9 [.string x]] [] (Option Addr × Nat) (fun _=>.tuple #[]) (fun _=>True) (fun (A2,c2)=>[Pt p 52 [.int .i64 m,.int .i64 s,.bool dn,.slice A2 (n-1+1) c2,fv,.slice B k d],Row 89 3 A2 (n-1+1) c2 (((L.eraseIdx i).take (posF (L.eraseIdx i) x)++⟨x,(L[i]'hi).d,(L[i]'hi).s⟩::(L.eraseIdx i).drop (posF (L.eraseIdx i) x)).flatMap encF),Pt bd 25 [pP p],Pt ba 3 [.int .i64 (i:Nat)],Pt bt 9 [.string x]]):=by
 have T1:=dropT p m s dn A n c fv B k d L hn h1 i (by omega)
 have hl:(L.eraseIdx i).length=n-1:=by rw [List.length_eraseIdx_of_lt hi];omega
 have hsM:riseF (L.eraseIdx i):=List.Pairwise.sublist (List.eraseIdx_sublist _ _) hs
 have T2:=findT p m s dn A (n-1) c fv B k d (L.eraseIdx i) x hl.symm (by omega) hsM
 rw [hh] at T2
 have hp:=posF_le (L.eraseIdx i) x
 have T3:=fun vb=>insertF A (L.eraseIdx i) (n-1) c (posF (L.eraseIdx i) x) vb ⟨x,L[i].d,L[i].s⟩ hl.symm (by omega) (by omega)
 refine triple_intro Tryz.tbs_ok Tryz.func105 rfl [.pt 2 bd 0,.pt 3 ba 0,.pt 4 bt 0] [.box p 52 [vI m,vI s,.va (.bool dn),vL A n c,.va fv,vL B k d],.fact (Row 89 3 A n c (L.flatMap encF)),.box bd 25 [.pt 0 p 0],.box ba 3 [vI (i:Nat)],.box bt 9 [.va (.string x)]] ⟨rfl,rfl,rfl,trivial⟩ rfl (by simp [SV.good,SV.goodL]<;>rfl) ?_
 intro E
 refine aG ?_
 refine ev_stop (go_draw Tryz.tbs_ok false [0,1,2,3] [(0,true),(1,true),(2,true),(3,true),(4,true),(5,true),(6,true),(7,false),(8,false)] rfl ?_)
 refine aG (aE ?_)
 refine ev_stop (tk_index0 (sz:=3) Tryz.tbs_ok (.inr 1) (i) aB rfl rfl rfl rfl rfl rfl rfl (by omega) rfl Row.at0 (fun g0 e1=>?_))
 subst e1
 refine aG (aE ?_)
 have l2:i<(L).length:=(by omega)
 refine ev_stop (tk_loadE Tryz.tbs_ok (.inr 1) (i) 0 aB rfl rfl rfl rfl rfl (fun _ h=>Row.rd h) (by omega) (fun _=>rfl) (by omega) l2 (by decide) ?_)
 refine aG (aE ?_)
 refine ev_new fun b3=>?_
 refine aE (aK ?_)
 refine aD T1 [0,1] [] (fun v0_=>[.box (p) 52 [vI m,vI s,.bq (dn),vL (some { block:=g0,off:=0:Addr }) (n-1) c,.va (fv),vL B k d],.fact (Row 89 3 (some { block:=g0,off:=0:Addr }) (n-1) c (List.flatMap encF (L.eraseIdx i)))]) fun _ h4=>?_
 refine aD T2 [0,1] [] (fun v0_=>[.box (p) 52 [vI m,vI s,.bq (dn),vL (some { block:=g0,off:=0:Addr }) (n-1) c,.va (fv),vL B k d],.fact (Row 89 3 (some { block:=g0,off:=0:Addr }) (n-1) c (List.flatMap encF (L.eraseIdx i)))]) fun _ h5=>?_
 refine aI ?_
 refine ev_stop (go_draw Tryz.tbs_ok false [0,2,5] [(0,true),(1,true),(2,true),(3,true),(4,true),(5,true),(6,true),(7,false),(8,false),(9,false),(10,false),(11,false)] rfl ?_)
 refine aG (aE ?_)
 refine ev_new fun b6=>?_
 refine aE ?_
 refine aC (T3 (b6)) [1,6] [] fun ⟨x7,x8⟩ h9=>?_
 refine aE (aE (aE (aK ?_)))
 exact ev_fin ⟨trivial,_,rfl,((x7,x8)),rfl,trivial,aF [0,1,2,3,4]⟩
theorem syncN (p:Nat) (m s:Int) (A:Option Addr) (n c:Nat) (B:Option Addr) (k d:Nat) (L:List Fl) (hn:n=L.length) (h1:n≤1000) (x:ByteArray) (hh:hasF L x=true) (hi':posF L x<L.length) (hF:okF L) (hm:0<m) (hs:riseF L):Triple Tryz.prog 102 [pP p,.string x] [Pt p 52 [.int .i64 m,.int .i64 s,.bool false,.slice A n c,.nilFunc,.slice B k d],Row 89 3 A n c (L.flatMap encF)] [] (Unit) (fun _=>.int .i64 0) (fun _=>True) (fun _=>[Pt p 52 [.int .i64 m,.int .i64 s,.bool false,.slice A n c,.nilFunc,.slice B k d],Row 89 3 A n c ((L.set (posF L x) ⟨(L[posF L x]'hi').n,(L[posF L x]'hi').d,((L[posF L x]'hi').d.size:Nat)⟩).flatMap encF)]):=by
 have T1:=askP p m s false A n c (.nilFunc) B k d hm
 have T2:=findT p m s false A n c (.nilFunc) B k d L x hn h1 hs
 have hi:posF L x<L.length:=(has_pos hs hh).1
 rw [hh] at T2
 have TD:=fun bd ba=>syncDo p m s false A n c (.nilFunc) B k d L hn h1 bd ba (posF L x) hi
 refine aT Tryz.func102 [.pt 0 p 0,.va (.string x)] [.box p 52 [vI m,vI s,.va (.bool false),vL A n c,.va (.nilFunc),vL B k d],.fact (Row 89 3 A n c (L.flatMap encF))] (fun E=>?_) ⟨rfl,trivial,trivial⟩
 refine aG ?_
 refine ev_new fun b0=>?_
 refine ev_inline Tryz.tbs_ok Tryz.func88 rfl rfl ?_
 refine aG ?_
 refine aD T1 [0] [] (fun v0_=>[.box (p) 52 [vI m,vI s,.bl false,vL A n c,.va (Value.nilFunc),vL B k d]]) fun _ h1=>?_
 refine aI ?_
 refine aD T2 [0,1] [] (fun v0_=>[.box (p) 52 [vI m,vI s,.bl false,vL A n c,.va (Value.nilFunc),vL B k d],.fact (Row 89 3 A n c (List.flatMap encF L))]) fun _ h2=>?_
 refine aI ?_
 refine ev_inline Tryz.tbs_ok Tryz.func135 rfl rfl ?_
 refine aG ?_
 refine ev_new fun b3=>?_
 refine ev_inline Tryz.tbs_ok Tryz.func78 rfl rfl ?_
 refine aG ?_
 refine ev_call (TD (b0) (b3)) [0,1,2,3] [] (fun v0_=>[.box (p) 52 [vI m,vI s,.bl false,vL A n c,.va (Value.nilFunc),vL B k d],.fact (Row 89 3 A n c (List.flatMap encF (L.set (posF L x) { n:=L[posF L x].n,d:=L[posF L x].d,s:=(↑L[posF L x].d.size:Int):Fl }))),.box (b0) 25 [SV.pt 0 p 0],.box (b3) 3 [vI (↑(posF L x):Int)]]) rfl rfl (by decide) rfl (by simp) (fun _=>rfl) (fun _=>(newsOk_box (by repeat (first | exact trivial | refine ⟨rfl,?_⟩ | refine ⟨trivial,?_⟩)) (newsOk_fact (newsOk_box (by repeat (first | exact trivial | refine ⟨rfl,?_⟩ | refine ⟨trivial,?_⟩)) (newsOk_box (by repeat (first | exact trivial | refine ⟨rfl,?_⟩ | refine ⟨trivial,?_⟩)) (newsOk_nil _)))))) (fun _=>aL) (fun _ h4=>?_)
 refine aG ?_
 refine ev_fin ⟨trivial,aL,_,rfl,?_⟩
 refine aG ?_
 refine ev_fin ⟨trivial,aL,_,rfl,?_⟩
 refine aG ?_
 refine ev_fin ⟨trivial,aL,_,rfl,?_⟩
 refine aG ?_
 exact ev_fin ⟨trivial,_,rfl,(),rfl,trivial,aF [0,1]⟩
theorem syncG (p:Nat) (m s:Int) (A:Option Addr) (n c:Nat) (B:Option Addr) (k d:Nat) (L:List Fl) (hn:n=L.length) (h1:n≤1000) (x:ByteArray) (hh:hasF L x=true) (hi':posF L x<L.length) (hF:okF L) (hm:0<m) (hs:riseF L) (nb:Nat) (q:Int) (K:List Int) (hq:0<q) (hq2:q≤9223372036854775807):Triple Tryz.prog 102 [pP p,.string x] [Pt p 52 [.int .i64 m,.int .i64 s,.bool false,.slice A n c,.func (.func 58) #[] #[pP nb],.slice B k d],Row 89 3 A n c (L.flatMap encF),Pt nb 3 [.int .i64 q],Row 3 1 B k d (K.flatMap encN)] [] (Unit) (fun _=>.int .i64 0) (fun _=>True) (fun _=>[Pt p 52 [.int .i64 m,.int .i64 s,.bool false,.slice A n c,.func (.func 58) #[] #[pP nb],.slice B k d],Row 89 3 A n c ((L.set (posF L x) ⟨(L[posF L x]'hi').n,(L[posF L x]'hi').d,((L[posF L x]'hi').d.size:Nat)⟩).flatMap encF),Pt nb 3 [.int .i64 (q-1)],Row 3 1 B k d (K.flatMap encN)]):=by
 have T1:=askP p m s false A n c (.func (.func 58) #[] #[pP nb]) B k d hm
 have T2:=findT p m s false A n c (.func (.func 58) #[] #[pP nb]) B k d L x hn h1 hs
 have hi:posF L x<L.length:=(has_pos hs hh).1
 rw [hh] at T2
 have TD:=fun bd ba=>syncDo p m s false A n c (.func (.func 58) #[] #[pP nb]) B k d L hn h1 bd ba (posF L x) hi
 have TF:=failT nb q (by omega) (by omega)
 rw [decide_eq_false (show ¬ q-1<0 by omega)] at TF
 refine aT Tryz.func102 [.pt 0 p 0,.va (.string x)] [.box p 52 [vI m,vI s,.va (.bool false),vL A n c,.va (.func (.func 58) #[] #[pP nb]),vL B k d],.fact (Row 89 3 A n c (L.flatMap encF)),.box nb 3 [vI q],.fact (Row 3 1 B k d (K.flatMap encN))] (fun E=>?_) ⟨rfl,trivial,trivial⟩
 refine aG ?_
 refine ev_new fun b0=>?_
 refine ev_inline Tryz.tbs_ok Tryz.func88 rfl rfl ?_
 refine aG ?_
 refine aD T1 [0] [] (fun v0_=>[.box (p) 52 [vI m,vI s,.bl false,vL A n c,.va (Value.func (Fn.func 58) #[] #[Value.pointer (some { block:=nb,off:=0:Addr })]),vL B k d]]) fun _ h1=>?_
 refine aI ?_
 refine aD T2 [0,1] [] (fun v0_=>[.box (p) 52 [vI m,vI s,.bl false,vL A n c,.va (Value.func (Fn.func 58) #[] #[Value.pointer (some { block:=nb,off:=0:Addr })]),vL B k d],.fact (Row 89 3 A n c (List.flatMap encF L))]) fun _ h2=>?_
 refine aI ?_
 refine ev_inline Tryz.tbs_ok Tryz.func135 rfl rfl ?_
 refine aG ?_
 refine ev_new fun b3=>?_
 refine ev_inline Tryz.tbs_ok Tryz.func78 rfl rfl ?_
 refine aG ?_
 refine aD TF [2] [] (fun v0_=>[.box (nb) 3 [vI (q-1)]]) fun _ h4=>?_
 refine aJ ?_
 refine ev_call (TD (b0) (b3)) [0,1,4,5] [] (fun v0_=>[.box (p) 52 [vI m,vI s,.bl false,vL A n c,.va (Value.func (Fn.func 58) #[] #[Value.pointer (some { block:=nb,off:=0:Addr })]),vL B k d],.fact (Row 89 3 A n c (List.flatMap encF (L.set (posF L x) { n:=L[posF L x].n,d:=L[posF L x].d,s:=(↑L[posF L x].d.size:Int):Fl }))),.box (b0) 25 [SV.pt 0 p 0],.box (b3) 3 [vI (↑(posF L x):Int)]]) rfl rfl (by decide) rfl (by simp) (fun _=>rfl) (fun _=>(newsOk_box (by repeat (first | exact trivial | refine ⟨rfl,?_⟩ | refine ⟨trivial,?_⟩)) (newsOk_fact (newsOk_box (by repeat (first | exact trivial | refine ⟨rfl,?_⟩ | refine ⟨trivial,?_⟩)) (newsOk_box (by repeat (first | exact trivial | refine ⟨rfl,?_⟩ | refine ⟨trivial,?_⟩)) (newsOk_nil _)))))) (fun _=>aL) (fun _ h5=>?_)
 refine aG (aI ?_)
 refine ev_fin ⟨trivial,aL,_,rfl,?_⟩
 refine aG ?_
 refine ev_fin ⟨trivial,aL,_,rfl,?_⟩
 refine aG ?_
 refine ev_fin ⟨trivial,aL,_,rfl,?_⟩
 refine aG ?_
 exact ev_fin ⟨trivial,_,rfl,(),rfl,trivial,aF [0,1,2,3]⟩
theorem syncS (p:Nat) (m s:Int) (A:Option Addr) (n c:Nat) (B:Option Addr) (k d:Nat) (L:List Fl) (hn:n=L.length) (h1:n≤1000) (x:ByteArray) (hh:hasF L x=true) (hi':posF L x<L.length) (hF:okF L) (hm:0<m) (hs:riseF L) (nb:Nat) (q:Int) (K:List Int) (hq:q=0) (hk:k=K.length):Triple Tryz.prog 102 [pP p,.string x] [Pt p 52 [.int .i64 m,.int .i64 s,.bool false,.slice A n c,.func (.func 58) #[] #[pP nb],.slice B k d],Row 89 3 A n c (L.flatMap encF),Pt nb 3 [.int .i64 q],Row 3 1 B k d (K.flatMap encN)] [] (Unit) (fun _=>.int .i64 41) (fun _=>True) (fun _=>[Pt p 52 [.int .i64 m,.int .i64 s,.bool true,.slice A n c,.nilFunc,.slice B k d],Row 89 3 A n c ((crashF L K).flatMap encF),Pt nb 3 [.int .i64 (q-1)],Row 3 1 B k d (K.flatMap encN)]):=by
 have T1:=askP p m s false A n c (.func (.func 58) #[] #[pP nb]) B k d hm
 have T2:=findT p m s false A n c (.func (.func 58) #[] #[pP nb]) B k d L x hn h1 hs
 have hi:posF L x<L.length:=(has_pos hs hh).1
 rw [hh] at T2
 have TD:=fun bd ba=>syncDo p m s false A n c (.func (.func 58) #[] #[pP nb]) B k d L hn h1 bd ba (posF L x) hi
 have TC:=(crashT p m s A n c (.func (.func 58) #[] #[pP nb]) B k d L B k d K hm hn h1 hk hF).reads (N':=[Row 3 1 B k d (K.flatMap encN)]) (fun X hX=>⟨_,List.mem_cons_self,fun _ q=>by rw [List.mem_singleton.1 hX];exact Row.rd q⟩)
 have TF:=failT nb q (by omega) (by omega)
 rw [decide_eq_true (show q-1<0 by omega)] at TF
 refine aT Tryz.func102 [.pt 0 p 0,.va (.string x)] [.box p 52 [vI m,vI s,.va (.bool false),vL A n c,.va (.func (.func 58) #[] #[pP nb]),vL B k d],.fact (Row 89 3 A n c (L.flatMap encF)),.box nb 3 [vI q],.fact (Row 3 1 B k d (K.flatMap encN))] (fun E=>?_) ⟨rfl,trivial,trivial⟩
 refine aG ?_
 refine ev_new fun b0=>?_
 refine ev_inline Tryz.tbs_ok Tryz.func88 rfl rfl ?_
 refine aG ?_
 refine aD T1 [0] [] (fun v0_=>[.box (p) 52 [vI m,vI s,.bl false,vL A n c,.va (Value.func (Fn.func 58) #[] #[Value.pointer (some { block:=nb,off:=0:Addr })]),vL B k d]]) fun _ h1=>?_
 refine aI ?_
 refine aD T2 [0,1] [] (fun v0_=>[.box (p) 52 [vI m,vI s,.bl false,vL A n c,.va (Value.func (Fn.func 58) #[] #[Value.pointer (some { block:=nb,off:=0:Addr })]),vL B k d],.fact (Row 89 3 A n c (List.flatMap encF L))]) fun _ h2=>?_
 refine aI ?_
 refine ev_inline Tryz.tbs_ok Tryz.func135 rfl rfl ?_
 refine aG ?_
 refine ev_new fun b3=>?_
 refine ev_inline Tryz.tbs_ok Tryz.func78 rfl rfl ?_
 refine aG ?_
 refine aD TF [2] [] (fun v0_=>[.box (nb) 3 [vI (q-1)]]) fun _ h4=>?_
 refine aI (aJ ?_)
 refine aD TC [0,1] [.inr 3] (fun v0_=>[.box (p) 52 [vI m,vI s,.bl true,vL A n c,.va (Value.nilFunc),vL B k d],.fact (Row 89 3 A n c (List.flatMap encF (crashF L K)))]) fun _ h5=>?_
 refine ev_fin ⟨trivial,aL,_,rfl,?_⟩
 refine aG ?_
 refine ev_fin ⟨trivial,aL,_,rfl,?_⟩
 refine aG ?_
 refine ev_fin ⟨trivial,aL,_,rfl,?_⟩
 refine aG ?_
 exact ev_fin ⟨trivial,_,rfl,(),rfl,trivial,aF [0,1,2,3]⟩
theorem truncN (p:Nat) (m s:Int) (A:Option Addr) (n c:Nat) (B:Option Addr) (k d:Nat) (L:List Fl) (hn:n=L.length) (h1:n≤1000) (x:ByteArray) (z:Int) (hh:hasF L x=true) (hi':posF L x<L.length) (hF:okF L) (hz1:0≤z) (hz2:z≤(L[posF L x]'hi').d.size) (hm:0<m) (hs:riseF L):Triple Tryz.prog 42 [pP p,.string x,.int .i64 z] [Pt p 52 [.int .i64 m,.int .i64 s,.bool false,.slice A n c,.nilFunc,.slice B k d],Row 89 3 A n c (L.flatMap encF)] [] (Unit) (fun _=>.int .i64 0) (fun _=>True) (fun _=>[Pt p 52 [.int .i64 m,.int .i64 s,.bool false,.slice A n c,.nilFunc,.slice B k d],Row 89 3 A n c ((L.set (posF L x) ⟨(L[posF L x]'hi').n,(L[posF L x]'hi').d.extract 0 z.toNat,min (L[posF L x]'hi').s z⟩).flatMap encF)]):=by
 have T1:=askP p m s false A n c (.nilFunc) B k d hm
 have T2:=findT p m s false A n c (.nilFunc) B k d L x hn h1 hs
 have hi:posF L x<L.length:=(has_pos hs hh).1
 rw [hh] at T2
 have TD:=fun g bf bn=>truncDo n c g L hn h1 bf bn (posF L x) z hi hz1 hz2
 refine aT Tryz.func42 [.pt 0 p 0,.va (.string x),vI z] [.box p 52 [vI m,vI s,.va (.bool false),vL A n c,.va (.nilFunc),vL B k d],.fact (Row 89 3 A n c (L.flatMap encF))] (fun E=>?_) ⟨rfl,trivial,trivial,trivial⟩
 refine aG ?_
 refine ev_new fun b0=>?_
 refine ev_new fun b1=>?_
 refine ev_inline Tryz.tbs_ok Tryz.func88 rfl rfl ?_
 refine aG ?_
 refine aD T1 [0] [] (fun v0_=>[.box (p) 52 [vI m,vI s,.bl false,vL A n c,.va (Value.nilFunc),vL B k d]]) fun _ h2=>?_
 refine aI ?_
 refine aD T2 [0,1] [] (fun v0_=>[.box (p) 52 [vI m,vI s,.bl false,vL A n c,.va (Value.nilFunc),vL B k d],.fact (Row 89 3 A n c (List.flatMap encF L))]) fun _ h3=>?_
 refine aI ?_
 refine ev_inline Tryz.tbs_ok Tryz.func94 rfl rfl ?_
 refine aG ?_
 refine ev_stop (go_index0 (sz:=3) Tryz.tbs_ok (.inr 1) (posF L x) rfl rfl rfl rfl rfl rfl (by omega) rfl Row.at0 (fun g4 e5=>?_))
 subst e5
 refine aG ?_
 refine ev_new fun b6=>?_
 refine ev_stop (go_draw Tryz.tbs_ok true [0,1,2,3,4] [(0,true),(1,true),(2,true),(3,true),(4,true),(5,true),(6,true),(7,true),(8,true),(9,true),(10,true)] rfl ?_)
 refine aG (aE ?_)
 refine aI ?_ (decide_eq_false (show ¬z<0 from (by omega)))
 refine aE ?_
 have l7:posF L x<(L).length:=(by omega)
 refine ev_stop (tk_loadE Tryz.tbs_ok (.inr 1) (posF L x) 1 aB rfl rfl rfl rfl rfl (fun _ h=>Row.rd h) (by omega) (fun _=>rfl) (by omega) l7 (by decide) ?_)
 refine aG (aE ?_)
 refine aI ?_ (decide_eq_false (show ¬z > (↑L[posF L x].d.size:Int) from (by omega)))
 refine ev_inline Tryz.tbs_ok Tryz.func78 rfl rfl ?_
 refine aG ?_
 refine aD (TD (g4) (b6) (b1)) [1,4,3] [] (fun v0_=>[.fact (Row 89 3 (some { block:=g4,off:=0:Addr }) n c (List.flatMap encF (L.set (posF L x) { n:=L[posF L x].n,d:=L[posF L x].d.extract 0 z.toNat,s:=min L[posF L x].s z:Fl }))),.box (b6) 87 [.va (Value.pointer (some { block:=g4,off:=0+posF L x*3:Addr }))],.box (b1) 3 [vI z]]) fun _ h8=>?_
 refine ev_fin ⟨trivial,aL,_,rfl,?_⟩
 refine aG ?_
 refine ev_fin ⟨trivial,aL,_,rfl,?_⟩
 refine aG ?_
 refine ev_fin ⟨trivial,aL,_,rfl,?_⟩
 refine aG ?_
 exact ev_fin ⟨trivial,_,rfl,(),rfl,trivial,aF [0,1]⟩
theorem truncG (p:Nat) (m s:Int) (A:Option Addr) (n c:Nat) (B:Option Addr) (k d:Nat) (L:List Fl) (hn:n=L.length) (h1:n≤1000) (x:ByteArray) (z:Int) (hh:hasF L x=true) (hi':posF L x<L.length) (hF:okF L) (hz1:0≤z) (hz2:z≤(L[posF L x]'hi').d.size) (hm:0<m) (hs:riseF L) (nb:Nat) (q:Int) (K:List Int) (hq:0<q) (hq2:q≤9223372036854775807):Triple Tryz.prog 42 [pP p,.string x,.int .i64 z] [Pt p 52 [.int .i64 m,.int .i64 s,.bool false,.slice A n c,.func (.func 58) #[] #[pP nb],.slice B k d],Row 89 3 A n c (L.flatMap encF),Pt nb 3 [.int .i64 q],Row 3 1 B k d (K.flatMap encN)] [] (Unit) (fun _=>.int .i64 0) (fun _=>True) (fun _=>[Pt p 52 [.int .i64 m,.int .i64 s,.bool false,.slice A n c,.func (.func 58) #[] #[pP nb],.slice B k d],Row 89 3 A n c ((L.set (posF L x) ⟨(L[posF L x]'hi').n,(L[posF L x]'hi').d.extract 0 z.toNat,min (L[posF L x]'hi').s z⟩).flatMap encF),Pt nb 3 [.int .i64 (q-1)],Row 3 1 B k d (K.flatMap encN)]):=by
 have T1:=askP p m s false A n c (.func (.func 58) #[] #[pP nb]) B k d hm
 have T2:=findT p m s false A n c (.func (.func 58) #[] #[pP nb]) B k d L x hn h1 hs
 have hi:posF L x<L.length:=(has_pos hs hh).1
 rw [hh] at T2
 have TD:=fun g bf bn=>truncDo n c g L hn h1 bf bn (posF L x) z hi hz1 hz2
 have TF:=failT nb q (by omega) (by omega)
 rw [decide_eq_false (show ¬ q-1<0 by omega)] at TF
 refine aT Tryz.func42 [.pt 0 p 0,.va (.string x),vI z] [.box p 52 [vI m,vI s,.va (.bool false),vL A n c,.va (.func (.func 58) #[] #[pP nb]),vL B k d],.fact (Row 89 3 A n c (L.flatMap encF)),.box nb 3 [vI q],.fact (Row 3 1 B k d (K.flatMap encN))] (fun E=>?_) ⟨rfl,trivial,trivial,trivial⟩
 refine aG ?_
 refine ev_new fun b0=>?_
 refine ev_new fun b1=>?_
 refine ev_inline Tryz.tbs_ok Tryz.func88 rfl rfl ?_
 refine aG ?_
 refine aD T1 [0] [] (fun v0_=>[.box (p) 52 [vI m,vI s,.bl false,vL A n c,.va (Value.func (Fn.func 58) #[] #[Value.pointer (some { block:=nb,off:=0:Addr })]),vL B k d]]) fun _ h2=>?_
 refine aI ?_
 refine aD T2 [0,1] [] (fun v0_=>[.box (p) 52 [vI m,vI s,.bl false,vL A n c,.va (Value.func (Fn.func 58) #[] #[Value.pointer (some { block:=nb,off:=0:Addr })]),vL B k d],.fact (Row 89 3 A n c (List.flatMap encF L))]) fun _ h3=>?_
 refine aI ?_
 refine ev_inline Tryz.tbs_ok Tryz.func94 rfl rfl ?_
 refine aG ?_
 refine ev_stop (go_index0 (sz:=3) Tryz.tbs_ok (.inr 1) (posF L x) rfl rfl rfl rfl rfl rfl (by omega) rfl Row.at0 (fun g4 e5=>?_))
 subst e5
 refine aG ?_
 refine ev_new fun b6=>?_
 refine ev_stop (go_draw Tryz.tbs_ok true [0,1,2,3,4,5,6] [(0,true),(1,true),(2,true),(3,true),(4,true),(5,true),(6,true),(7,true),(8,true),(9,true),(10,true)] rfl ?_)
 refine aG (aE ?_)
 refine aI ?_ (decide_eq_false (show ¬z<0 from (by omega)))
 refine aE ?_
 have l7:posF L x<(L).length:=(by omega)
 refine ev_stop (tk_loadE Tryz.tbs_ok (.inr 1) (posF L x) 1 aB rfl rfl rfl rfl rfl (fun _ h=>Row.rd h) (by omega) (fun _=>rfl) (by omega) l7 (by decide) ?_)
 refine aG (aE ?_)
 refine aI ?_ (decide_eq_false (show ¬z > (↑L[posF L x].d.size:Int) from (by omega)))
 refine ev_inline Tryz.tbs_ok Tryz.func78 rfl rfl ?_
 refine aG ?_
 refine aD TF [2] [] (fun v0_=>[.box (nb) 3 [vI (q-1)]]) fun _ h8=>?_
 refine aJ ?_
 refine aD (TD (g4) (b6) (b1)) [1,6,5] [] (fun v0_=>[.fact (Row 89 3 (some { block:=g4,off:=0:Addr }) n c (List.flatMap encF (L.set (posF L x) { n:=L[posF L x].n,d:=L[posF L x].d.extract 0 z.toNat,s:=min L[posF L x].s z:Fl }))),.box (b6) 87 [.va (Value.pointer (some { block:=g4,off:=0+posF L x*3:Addr }))],.box (b1) 3 [vI z]]) fun _ h9=>?_
 refine aI ?_
 refine ev_fin ⟨trivial,aL,_,rfl,?_⟩
 refine aG ?_
 refine ev_fin ⟨trivial,aL,_,rfl,?_⟩
 refine aG ?_
 refine ev_fin ⟨trivial,aL,_,rfl,?_⟩
 refine aG ?_
 exact ev_fin ⟨trivial,_,rfl,(),rfl,trivial,aF [0,1,2,3]⟩
theorem truncS (p:Nat) (m s:Int) (A:Option Addr) (n c:Nat) (B:Option Addr) (k d:Nat) (L:List Fl) (hn:n=L.length) (h1:n≤1000) (x:ByteArray) (z:Int) (hh:hasF L x=true) (hi':posF L x<L.length) (hF:okF L) (hz1:0≤z) (hz2:z≤(L[posF L x]'hi').d.size) (hm:0<m) (hs:riseF L) (nb:Nat) (q:Int) (K:List Int) (hq:q=0) (hk:k=K.length):Triple Tryz.prog 42 [pP p,.string x,.int .i64 z] [Pt p 52 [.int .i64 m,.int .i64 s,.bool false,.slice A n c,.func (.func 58) #[] #[pP nb],.slice B k d],Row 89 3 A n c (L.flatMap encF),Pt nb 3 [.int .i64 q],Row 3 1 B k d (K.flatMap encN)] [] (Unit) (fun _=>.int .i64 41) (fun _=>True) (fun _=>[Pt p 52 [.int .i64 m,.int .i64 s,.bool true,.slice A n c,.nilFunc,.slice B k d],Row 89 3 A n c ((crashF L K).flatMap encF),Pt nb 3 [.int .i64 (q-1)],Row 3 1 B k d (K.flatMap encN)]):=by
 have T1:=askP p m s false A n c (.func (.func 58) #[] #[pP nb]) B k d hm
 have T2:=findT p m s false A n c (.func (.func 58) #[] #[pP nb]) B k d L x hn h1 hs
 have hi:posF L x<L.length:=(has_pos hs hh).1
 rw [hh] at T2
 have TD:=fun g bf bn=>truncDo n c g L hn h1 bf bn (posF L x) z hi hz1 hz2
 have TC:=(crashT p m s A (n) c (.func (.func 58) #[] #[pP nb]) B k d (L) B k d K hm hn h1 hk hF).reads (N':=[Row 3 1 B k d (K.flatMap encN)]) (fun X hX=>⟨_,List.mem_cons_self,fun _ q=>by rw [List.mem_singleton.1 hX];exact Row.rd q⟩)
 have TF:=failT nb q (by omega) (by omega)
 rw [decide_eq_true (show q-1<0 by omega)] at TF
 refine aT Tryz.func42 [.pt 0 p 0,.va (.string x),vI z] [.box p 52 [vI m,vI s,.va (.bool false),vL A n c,.va (.func (.func 58) #[] #[pP nb]),vL B k d],.fact (Row 89 3 A n c (L.flatMap encF)),.box nb 3 [vI q],.fact (Row 3 1 B k d (K.flatMap encN))] (fun E=>?_) ⟨rfl,trivial,trivial,trivial⟩
 refine aG ?_
 refine ev_new fun b0=>?_
 refine ev_new fun b1=>?_
 refine ev_inline Tryz.tbs_ok Tryz.func88 rfl rfl ?_
 refine aG ?_
 refine aD T1 [0] [] (fun v0_=>[.box (p) 52 [vI m,vI s,.bl false,vL A n c,.va (Value.func (Fn.func 58) #[] #[Value.pointer (some { block:=nb,off:=0:Addr })]),vL B k d]]) fun _ h2=>?_
 refine aI ?_
 refine aD T2 [0,1] [] (fun v0_=>[.box (p) 52 [vI m,vI s,.bl false,vL A n c,.va (Value.func (Fn.func 58) #[] #[Value.pointer (some { block:=nb,off:=0:Addr })]),vL B k d],.fact (Row 89 3 A n c (List.flatMap encF L))]) fun _ h3=>?_
 refine aI ?_
 refine ev_inline Tryz.tbs_ok Tryz.func94 rfl rfl ?_
 refine aG ?_
 refine ev_stop (go_index0 (sz:=3) Tryz.tbs_ok (.inr 1) (posF L x) rfl rfl rfl rfl rfl rfl (by omega) rfl Row.at0 (fun g4 e5=>?_))
 subst e5
 refine aG ?_
 refine ev_new fun b6=>?_
 refine ev_stop (go_draw Tryz.tbs_ok true [0,1,2,3,4,5,6] [(0,true),(1,true),(2,true),(3,true),(4,true),(5,true),(6,true),(7,true),(8,true),(9,true),(10,true)] rfl ?_)
 refine aG (aE ?_)
 refine aI ?_ (decide_eq_false (show ¬z<0 from (by omega)))
 refine aE ?_
 have l7:posF L x<(L).length:=(by omega)
 refine ev_stop (tk_loadE Tryz.tbs_ok (.inr 1) (posF L x) 1 aB rfl rfl rfl rfl rfl (fun _ h=>Row.rd h) (by omega) (fun _=>rfl) (by omega) l7 (by decide) ?_)
 refine aG (aE ?_)
 refine aI ?_ (decide_eq_false (show ¬z > (↑L[posF L x].d.size:Int) from (by omega)))
 refine ev_inline Tryz.tbs_ok Tryz.func78 rfl rfl ?_
 refine aG ?_
 refine aD TF [2] [] (fun v0_=>[.box (nb) 3 [vI (q-1)]]) fun _ h8=>?_
 refine aI (aJ ?_)
 refine aD TC [0,1] [.inr 3] (fun v0_=>[.box (p) 52 [vI m,vI s,.bl true,vL (some { block:=g4,off:=0:Addr }) n c,.va (Value.nilFunc),vL B k d],.fact (Row 89 3 (some { block:=g4,off:=0:Addr }) n c (List.flatMap encF (crashF L K)))]) fun _ h9=>?_
 refine ev_fin ⟨trivial,aL,_,rfl,?_⟩
 refine aG ?_
 refine ev_fin ⟨trivial,aL,_,rfl,?_⟩
 refine aG ?_
 refine ev_fin ⟨trivial,aL,_,rfl,?_⟩
 refine aG ?_
 exact ev_fin ⟨trivial,_,rfl,(),rfl,trivial,aF [0,1,2,3]⟩
theorem removeN (p:Nat) (m s:Int) (A:Option Addr) (n c:Nat) (B:Option Addr) (k d:Nat) (L:List Fl) (hn:n=L.length) (h1:n≤1000) (x:ByteArray) (hh:hasF L x=true) (hi':posF L x<L.length) (hF:okF L) (hm:0<m) (hs:riseF L):Triple Tryz.prog 93 [pP p,.string x] [Pt p 52 [.int .i64 m,.int .i64 s,.bool false,.slice A n c,.nilFunc,.slice B k d],Row 89 3 A n c (L.flatMap encF)] [] (Unit) (fun _=>.int .i64 0) (fun _=>True) (fun _=>[Pt p 52 [.int .i64 m,.int .i64 s,.bool false,.slice A (n-1) c,.nilFunc,.slice B k d],Row 89 3 A (n-1) c ((L.eraseIdx (posF L x)).flatMap encF)]):=by
 have T1:=askP p m s false A n c (.nilFunc) B k d hm
 have T2:=findT p m s false A n c (.nilFunc) B k d L x hn h1 hs
 have hi:posF L x<L.length:=(has_pos hs hh).1
 rw [hh] at T2
 have TD:=fun bd ba=>removeDo p m s false A n c (.nilFunc) B k d L hn h1 bd ba (posF L x) (by omega)
 refine aT Tryz.func93 [.pt 0 p 0,.va (.string x)] [.box p 52 [vI m,vI s,.va (.bool false),vL A n c,.va (.nilFunc),vL B k d],.fact (Row 89 3 A n c (L.flatMap encF))] (fun E=>?_) ⟨rfl,trivial,trivial⟩
 refine aG ?_
 refine ev_new fun b0=>?_
 refine ev_inline Tryz.tbs_ok Tryz.func88 rfl rfl ?_
 refine aG ?_
 refine aD T1 [0] [] (fun v0_=>[.box (p) 52 [vI m,vI s,.bl false,vL A n c,.va (Value.nilFunc),vL B k d]]) fun _ h1=>?_
 refine aI ?_
 refine aD T2 [0,1] [] (fun v0_=>[.box (p) 52 [vI m,vI s,.bl false,vL A n c,.va (Value.nilFunc),vL B k d],.fact (Row 89 3 A n c (List.flatMap encF L))]) fun _ h2=>?_
 refine aI ?_
 refine ev_inline Tryz.tbs_ok Tryz.func130 rfl rfl ?_
 refine aG ?_
 refine ev_new fun b3=>?_
 refine ev_inline Tryz.tbs_ok Tryz.func78 rfl rfl ?_
 refine aG ?_
 refine ev_call (TD (b0) (b3)) [0,1,2,3] [] (fun v0_=>[.box (p) 52 [vI m,vI s,.bl false,vL A (n-1) c,.va (Value.nilFunc),vL B k d],.fact (Row 89 3 A (n-1) c (List.flatMap encF (L.eraseIdx (posF L x)))),.box (b0) 25 [SV.pt 0 p 0],.box (b3) 3 [vI (↑(posF L x):Int)]]) rfl rfl (by decide) rfl (by simp) (fun _=>rfl) (fun _=>(newsOk_box (by repeat (first | exact trivial | refine ⟨rfl,?_⟩ | refine ⟨trivial,?_⟩)) (newsOk_fact (newsOk_box (by repeat (first | exact trivial | refine ⟨rfl,?_⟩ | refine ⟨trivial,?_⟩)) (newsOk_box (by repeat (first | exact trivial | refine ⟨rfl,?_⟩ | refine ⟨trivial,?_⟩)) (newsOk_nil _)))))) (fun _=>aL) (fun _ h4=>?_)
 refine aG ?_
 refine ev_fin ⟨trivial,aL,_,rfl,?_⟩
 refine aG ?_
 refine ev_fin ⟨trivial,aL,_,rfl,?_⟩
 refine aG ?_
 refine ev_fin ⟨trivial,aL,_,rfl,?_⟩
 refine aG ?_
 exact ev_fin ⟨trivial,_,rfl,(),rfl,trivial,aF [0,1]⟩
theorem removeG (p:Nat) (m s:Int) (A:Option Addr) (n c:Nat) (B:Option Addr) (k d:Nat) (L:List Fl) (hn:n=L.length) (h1:n≤1000) (x:ByteArray) (hh:hasF L x=true) (hi':posF L x<L.length) (hF:okF L) (hm:0<m) (hs:riseF L) (nb:Nat) (q:Int) (K:List Int) (hq:0<q) (hq2:q≤9223372036854775807):Triple Tryz.prog 93 [pP p,.string x] [Pt p 52 [.int .i64 m,.int .i64 s,.bool false,.slice A n c,.func (.func 58) #[] #[pP nb],.slice B k d],Row 89 3 A n c (L.flatMap encF),Pt nb 3 [.int .i64 q],Row 3 1 B k d (K.flatMap encN)] [] (Unit) (fun _=>.int .i64 0) (fun _=>True) (fun _=>[Pt p 52 [.int .i64 m,.int .i64 s,.bool false,.slice A (n-1) c,.func (.func 58) #[] #[pP nb],.slice B k d],Row 89 3 A (n-1) c ((L.eraseIdx (posF L x)).flatMap encF),Pt nb 3 [.int .i64 (q-1)],Row 3 1 B k d (K.flatMap encN)]):=by
 have T1:=askP p m s false A n c (.func (.func 58) #[] #[pP nb]) B k d hm
 have T2:=findT p m s false A n c (.func (.func 58) #[] #[pP nb]) B k d L x hn h1 hs
 have hi:posF L x<L.length:=(has_pos hs hh).1
 rw [hh] at T2
 have TD:=fun bd ba=>removeDo p m s false A n c (.func (.func 58) #[] #[pP nb]) B k d L hn h1 bd ba (posF L x) (by omega)
 have TF:=failT nb q (by omega) (by omega)
 rw [decide_eq_false (show ¬ q-1<0 by omega)] at TF
 refine aT Tryz.func93 [.pt 0 p 0,.va (.string x)] [.box p 52 [vI m,vI s,.va (.bool false),vL A n c,.va (.func (.func 58) #[] #[pP nb]),vL B k d],.fact (Row 89 3 A n c (L.flatMap encF)),.box nb 3 [vI q],.fact (Row 3 1 B k d (K.flatMap encN))] (fun E=>?_) ⟨rfl,trivial,trivial⟩
 refine aG ?_
 refine ev_new fun b0=>?_
 refine ev_inline Tryz.tbs_ok Tryz.func88 rfl rfl ?_
 refine aG ?_
 refine aD T1 [0] [] (fun v0_=>[.box (p) 52 [vI m,vI s,.bl false,vL A n c,.va (Value.func (Fn.func 58) #[] #[Value.pointer (some { block:=nb,off:=0:Addr })]),vL B k d]]) fun _ h1=>?_
 refine aI ?_
 refine aD T2 [0,1] [] (fun v0_=>[.box (p) 52 [vI m,vI s,.bl false,vL A n c,.va (Value.func (Fn.func 58) #[] #[Value.pointer (some { block:=nb,off:=0:Addr })]),vL B k d],.fact (Row 89 3 A n c (List.flatMap encF L))]) fun _ h2=>?_
 refine aI ?_
 refine ev_inline Tryz.tbs_ok Tryz.func130 rfl rfl ?_
 refine aG ?_
 refine ev_new fun b3=>?_
 refine ev_inline Tryz.tbs_ok Tryz.func78 rfl rfl ?_
 refine aG ?_
 refine aD TF [2] [] (fun v0_=>[.box (nb) 3 [vI (q-1)]]) fun _ h4=>?_
 refine aJ ?_
 refine ev_call (TD (b0) (b3)) [0,1,4,5] [] (fun v0_=>[.box (p) 52 [vI m,vI s,.bl false,vL A (n-1) c,.va (Value.func (Fn.func 58) #[] #[Value.pointer (some { block:=nb,off:=0:Addr })]),vL B k d],.fact (Row 89 3 A (n-1) c (List.flatMap encF (L.eraseIdx (posF L x)))),.box (b0) 25 [SV.pt 0 p 0],.box (b3) 3 [vI (↑(posF L x):Int)]]) rfl rfl (by decide) rfl (by simp) (fun _=>rfl) (fun _=>(newsOk_box (by repeat (first | exact trivial | refine ⟨rfl,?_⟩ | refine ⟨trivial,?_⟩)) (newsOk_fact (newsOk_box (by repeat (first | exact trivial | refine ⟨rfl,?_⟩ | refine ⟨trivial,?_⟩)) (newsOk_box (by repeat (first | exact trivial | refine ⟨rfl,?_⟩ | refine ⟨trivial,?_⟩)) (newsOk_nil _)))))) (fun _=>aL) (fun _ h5=>?_)
 refine aG (aI ?_)
 refine ev_fin ⟨trivial,aL,_,rfl,?_⟩
 refine aG ?_
 refine ev_fin ⟨trivial,aL,_,rfl,?_⟩
 refine aG ?_
 refine ev_fin ⟨trivial,aL,_,rfl,?_⟩
 refine aG ?_
 exact ev_fin ⟨trivial,_,rfl,(),rfl,trivial,aF [0,1,2,3]⟩
theorem removeS (p:Nat) (m s:Int) (A:Option Addr) (n c:Nat) (B:Option Addr) (k d:Nat) (L:List Fl) (hn:n=L.length) (h1:n≤1000) (x:ByteArray) (hh:hasF L x=true) (hi':posF L x<L.length) (hF:okF L) (hm:0<m) (hs:riseF L) (nb:Nat) (q:Int) (K:List Int) (hq:q=0) (hk:k=K.length):Triple Tryz.prog 93 [pP p,.string x] [Pt p 52 [.int .i64 m,.int .i64 s,.bool false,.slice A n c,.func (.func 58) #[] #[pP nb],.slice B k d],Row 89 3 A n c (L.flatMap encF),Pt nb 3 [.int .i64 q],Row 3 1 B k d (K.flatMap encN)] [] (Unit) (fun _=>.int .i64 41) (fun _=>True) (fun _=>[Pt p 52 [.int .i64 m,.int .i64 s,.bool true,.slice A n c,.nilFunc,.slice B k d],Row 89 3 A n c ((crashF L K).flatMap encF),Pt nb 3 [.int .i64 (q-1)],Row 3 1 B k d (K.flatMap encN)]):=by
 have T1:=askP p m s false A n c (.func (.func 58) #[] #[pP nb]) B k d hm
 have T2:=findT p m s false A n c (.func (.func 58) #[] #[pP nb]) B k d L x hn h1 hs
 have hi:posF L x<L.length:=(has_pos hs hh).1
 rw [hh] at T2
 have TD:=fun bd ba=>removeDo p m s false A n c (.func (.func 58) #[] #[pP nb]) B k d L hn h1 bd ba (posF L x) (by omega)
 have TC:=(crashT p m s A (n) c (.func (.func 58) #[] #[pP nb]) B k d (L) B k d K hm hn h1 hk hF).reads (N':=[Row 3 1 B k d (K.flatMap encN)]) (fun X hX=>⟨_,List.mem_cons_self,fun _ q=>by rw [List.mem_singleton.1 hX];exact Row.rd q⟩)
 have TF:=failT nb q (by omega) (by omega)
 rw [decide_eq_true (show q-1<0 by omega)] at TF
 refine aT Tryz.func93 [.pt 0 p 0,.va (.string x)] [.box p 52 [vI m,vI s,.va (.bool false),vL A n c,.va (.func (.func 58) #[] #[pP nb]),vL B k d],.fact (Row 89 3 A n c (L.flatMap encF)),.box nb 3 [vI q],.fact (Row 3 1 B k d (K.flatMap encN))] (fun E=>?_) ⟨rfl,trivial,trivial⟩
 refine aG ?_
 refine ev_new fun b0=>?_
 refine ev_inline Tryz.tbs_ok Tryz.func88 rfl rfl ?_
 refine aG ?_
 refine aD T1 [0] [] (fun v0_=>[.box (p) 52 [vI m,vI s,.bl false,vL A n c,.va (Value.func (Fn.func 58) #[] #[Value.pointer (some { block:=nb,off:=0:Addr })]),vL B k d]]) fun _ h1=>?_
 refine aI ?_
 refine aD T2 [0,1] [] (fun v0_=>[.box (p) 52 [vI m,vI s,.bl false,vL A n c,.va (Value.func (Fn.func 58) #[] #[Value.pointer (some { block:=nb,off:=0:Addr })]),vL B k d],.fact (Row 89 3 A n c (List.flatMap encF L))]) fun _ h2=>?_
 refine aI ?_
 refine ev_inline Tryz.tbs_ok Tryz.func130 rfl rfl ?_
 refine aG ?_
 refine ev_new fun b3=>?_
 refine ev_inline Tryz.tbs_ok Tryz.func78 rfl rfl ?_
 refine aG ?_
 refine aD TF [2] [] (fun v0_=>[.box (nb) 3 [vI (q-1)]]) fun _ h4=>?_
 refine aI (aJ ?_)
 refine aD TC [0,1] [.inr 3] (fun v0_=>[.box (p) 52 [vI m,vI s,.bl true,vL A n c,.va (Value.nilFunc),vL B k d],.fact (Row 89 3 A n c (List.flatMap encF (crashF L K)))]) fun _ h5=>?_
 refine ev_fin ⟨trivial,aL,_,rfl,?_⟩
 refine aG ?_
 refine ev_fin ⟨trivial,aL,_,rfl,?_⟩
 refine aG ?_
 refine ev_fin ⟨trivial,aL,_,rfl,?_⟩
 refine aG ?_
 exact ev_fin ⟨trivial,_,rfl,(),rfl,trivial,aF [0,1,2,3]⟩
end Go.Proofs.YtjlfdfmkofbccaaGreatDoor

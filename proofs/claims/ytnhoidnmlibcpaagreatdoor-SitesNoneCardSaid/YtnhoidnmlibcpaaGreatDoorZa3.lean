/-
  What is proved: the texts that the claims share, part 3 of 5, each text behind the other. Conditions: none.
-/
import Derived.ArgAppend
import Derived.WideLaws
import Derived.Test.YtnhoidnmlibcpaaGreatDoorZa2
set_option maxRecDepth 100000
namespace Go.Proofs.YtnhoidnmlibcpaaGreatDoor
open Go.Sy
theorem putL_len:∀ (k f:Nat),f<128 ^ (k+1)→(putL f).length≤k+1
 | 0,f,h=>by rw [putL_small (by omega)];simp
 |
  k+1,f,h=>by
  rcases Nat.lt_or_ge f 128 with h1 | h1
  · rw [putL_small h1];simp
  rw [putL_great h1,List.length_cons]
  have:=putL_len k (f / 128) (Nat.div_lt_of_lt_mul (by rw [←pow128];exact h))
  omega
theorem mputG (z u v s t:Int) (F:Nat) (hF:F<18446744073709551616) (w1:IntKind.u64.wrap z=u) (w2:shlOf .u64 u 1=v) (w3:shrOf .i64 z 63=s) (w4:IntKind.u64.wrap s=t) (w5:bitsOf .xor .u64 v t=(F:Int)):Triple Tryz.prog 187 [.int .i64 z] [] [] Unit (fun _=>.string ⟨(putL F).toArray⟩) (fun _=>True) (fun _=>[]):=by
 refine aT Tryz.func187 [vI z] [] (fun E=>?_) ⟨trivial,trivial⟩
 refine go_fact (Row 5 1 none 0 0 (([]:List UInt8).flatMap encC)) (Row.nilE _ _) ?_
 refine aG ?_
 refine ev_wrap (z:=u) w1 ?_
 refine ev_stop (go_bin (.va (.int _ (v))) trivial rfl rfl rfl rfl rfl (by decide) (by decide) (fun w=>shl_runE w2 (show 0≤1 from (by omega)) w) ?_)
 refine aG ?_
 refine ev_stop (go_bin (.va (.int _ (s))) trivial rfl rfl rfl rfl rfl (by decide) (by decide) (fun w=>shr_runE w3 (show 0≤63 from (by omega)) w) ?_)
 refine aG ?_
 refine ev_wrap (z:=t) w4 ?_
 refine ev_stop (go_bin (.va (.int _ ((↑F:Int)))) trivial rfl rfl rfl rfl rfl (by decide) (by decide) (fun w=>bits_runE w5 (by decide) w) ?_)
 refine aG ?_
 refine ev_stop (go_loopR [3,4,12,13,14,15,16,17,18,19,20,21] (fun (f,C,q,e,_)=>[(3,.va (.int .u64 (f:Nat))),(4,vL C q e)]) (fun (_,C,q,e,M)=>[(0,.fact (Row 5 1 C q e (M.flatMap encC)))]) (fun (f,_,q,_,M)=>f<18446744073709551616∧q=M.length∧q≤1000∧M++putL f=putL F) (fun (f,_,_,_,_)=>f) ((F,none,0,0,[]):Nat × Option Addr × Nat × Nat × List UInt8) ⟨hF,rfl,Nat.zero_le _,rfl⟩ aS (fun x_ h_=>?_))
 obtain ⟨f,C,q,e,M⟩:=x_
 obtain ⟨hf,hq,hq2,hM⟩:=h_
 obtain ⟨x,hx⟩:∃ x,x=UInt8.ofNat f:=⟨_,rfl⟩
 obtain ⟨y,hy⟩:∃ y,y=UInt8.ofNat (f % 128+128):=⟨_,rfl⟩
 have v1:=b_byte f
 have v2:=b_or128 f
 rw [←hx] at v1 v2
 rw [←hy] at v2
 refine aG ?_
 refine ev_if_lt (fun h10=>?_) (fun h10=>?_)
 refine aG ?_
 refine ev_wrap (z:=(↑x.toNat:Int)) v1 ?_
 refine ev_stop (go_bin (.va (.int _ ((↑y.toNat:Int)))) trivial rfl rfl rfl rfl rfl (by decide) (by decide) (fun w=>bits_runE v2 (by decide) w) ?_)
 refine aG ?_
 refine ev_new fun b11=>?_
 refine ev_stop (go_appendE (sz:=1) (M:=[_]) (enc:=encC) Tryz.tbs_ok [0] [] (.inr 1) (M) ([y]) ((M)++([y])) (q+1) rfl rfl rfl rfl rfl rfl rfl (by decide) rfl (by decide) (fun _ p=>starH_one.1 p) rfl (fun _ p=>Pt.rd p rfl) (by first | rfl | simp) (by first | rfl | omega) (aM (q+1)) (aN (q+1)) (fun _ _=>aL) (fun A12 c13 h14=>?_))
 refine aG ?_
 refine ev_stop (go_bin (.va (.int _ ((↑(f / 128):Int)))) trivial rfl rfl rfl rfl rfl (by decide) (by decide) (fun w=>shr_runE (b_shr7 (f)) (show 0≤7 from (by omega)) w) ?_)
 refine aG ?_
 refine ev_fin (round_next ((f / 128,A12,q+1,c13,M++[y])) (?_:f / 128<18446744073709551616∧q+1=(M++[y]).length∧q+1≤1000∧M++[y]++putL (f / 128)=putL F) (show f / 128<f from (by omega)) aS)
 rotate_left
 refine aG ?_
 refine ev_fin (go Tryz.tbs_ok 1000 ?_)
 refine ev_wrap (z:=(↑x.toNat:Int)) v1 ?_
 refine ev_new fun b15=>?_
 refine ev_stop (go_appendE (sz:=1) (M:=[_]) (enc:=encC) Tryz.tbs_ok [0] [] (.inr 1) (M) ([x]) ((M)++([x])) (q+1) rfl rfl rfl rfl rfl rfl rfl (by decide) rfl (by decide) (fun _ p=>starH_one.1 p) rfl (fun _ p=>Pt.rd p rfl) (by first | rfl | simp) (by first | rfl | omega) (aM (q+1)) (aN (q+1)) (fun _ _=>aL) (fun A16 c17 h18=>?_))
 refine aG ?_
 refine ev_stop (go_stringOf Tryz.tbs_ok (M++[x]) (.inr 0) rfl rfl rfl rfl rfl rfl rfl (by first | rfl | omega | (simp;omega)) (fun _ h=>Row.rd h) ?_)
 refine aG ?_
 refine ev_fin ⟨trivial,_,rfl,(()),?_,(by trivial),Frm.nil _⟩
 rotate_left
 · have h128:128≤f:=by omega
   rw [putL_great h128,←hy] at hM
   refine ⟨by omega,by rw [hq];simp,?_,by rw [List.append_assoc];exact hM⟩
   have:=putL_len 9 F (by omega)
   rw [←hM] at this
   simp only [List.length_append,List.length_cons] at this
   omega
 have h128:f<128:=by omega
 rw [putL_small h128,←hx] at hM
 rw [hM]
 rfl
theorem mputT (n:Nat) (h:n≤4611686018427387903):Triple Tryz.prog 187 [.int .i64 (n:Int)] [] [] Unit (fun _=>.string ⟨(putL (2*n)).toArray⟩) (fun _=>True) (fun _=>[]) :=
 mputG n _ _ _ _ (2*n) (by omega) (b_w64 (by omega)) (b_shl1 (by omega)) (b_shr63 (by omega)) rfl (b_xor0 (by omega))
theorem moreT (r:Nat) (s:ByteArray) (hr:r<4294967296) (hs:s.size≤1000000000):Triple Tryz.prog 290 [.int .u32 (r:Int),.string s] [] [] Unit (fun _=>.int .u32 ((4294967295-crcL (4294967295-r) s.data.toList:Nat):Int)) (fun _=>True) (fun _=>[]):=by
 refine aT Tryz.func290 [.va (.int .u32 (r:Int)),.va (.string s)] [] (fun E=>?_) ⟨trivial,trivial,trivial⟩
 have hsz:=size_data s
 refine aG ?_
 refine ev_stop (go_not ((↑(4294967295-r):Int)) (b_not32 (by assumption)) rfl rfl rfl ?_)
 refine aG ?_
 refine ev_stop (go_loopR [5,6,11,12,13,14,15,16,17,18,19,20,21,22,23,24,25,26,27,28,29,30] (fun (j,g)=>[(5,.va (.int .u32 (g:Nat))),(11,vI (j:Nat))]) (fun _=>[]) (fun (j,g)=>j≤s.size∧g=crcL (4294967295-r) (s.data.toList.take j)) (fun (j,_)=>s.size-j) ((0,4294967295-r):Nat × Nat) ⟨Nat.zero_le _,rfl⟩ aS (fun x_ h_=>?_))
 obtain ⟨j,g⟩:=x_
 obtain ⟨hj,hg⟩:=h_
 have hg2:g<4294967296:=by rw [hg];exact crcL_lt _ (by omega)
 refine aG ?_
 refine ev_if_lt (fun h10=>?_) (fun h10=>?_)
 refine aG ?_
 refine ev_stop (go_byte Tryz.tbs_ok (j) rfl rfl rfl rfl rfl rfl (by omega) ?_)
 refine aG ?_
 refine ev_wrap (z:=(↑s[j].toNat:Int)) (b_c32 (s[j])) ?_
 refine ev_stop (go_bin (.va (.int _ ((↑(g ^^^ s[j].toNat):Int)))) trivial rfl rfl rfl rfl rfl (by decide) (by decide) (fun w=>bits_runE (b_xor8 (by assumption) (s[j])) (by decide) w) ?_)
 refine aG ?_
 rotate_left
 refine aG ?_
 refine ev_fin (go Tryz.tbs_ok 1000 ?_)
 refine ev_stop (go_not ((↑(4294967295-g):Int)) (b_not32 (by assumption)) rfl rfl rfl ?_)
 refine aG ?_
 refine ev_fin ⟨trivial,_,rfl,(()),?_,(by trivial),Frm.nil _⟩
 rotate_left
 · have hjl:j<s.data.toList.length:=by omega
   obtain ⟨c,hc⟩:∃ c,c=s[j]:=⟨_,rfl⟩
   rw [←hc]
   have hx:=xor8_lt hg2 c
   obtain ⟨g0,hg0⟩:∃ g0,g0=g ^^^ c.toNat:=⟨_,rfl⟩
   rw [←hg0] at hx ⊢
   refine ev_stop (go_loopR [5,20,21,22,23,24,25,26,27,28,29] (fun (k,y)=>[(5,.va (.int .u32 (y:Nat))),(20,vI (k:Nat))]) (fun _=>[]) (fun (k,y)=>k≤8∧y=crcN k g0) (fun (k,_)=>8-k) ((0,g0):Nat × Nat) ⟨Nat.zero_le _,rfl⟩ aS (fun x_ h_=>?_))
   obtain ⟨k,y⟩:=x_
   obtain ⟨hk,hy⟩:=h_
   have hy2:y<4294967296:=by rw [hy];exact crcN_lt k hx
   refine aG ?_
   refine ev_if_lt (fun h30=>?_) (fun h30=>?_)
   refine aG ?_
   refine ev_stop (go_bin (.va (.int _ ((↑(y / 2):Int)))) trivial rfl rfl rfl rfl rfl (by decide) (by decide) (fun w=>shr_runE (b_half32 (y)) (show 0≤1 from (by omega)) w) ?_)
   refine aG ?_
   refine ev_stop (go_bin (.va (.int _ ((↑(y % 2):Int)))) trivial rfl rfl rfl rfl rfl (by decide) (by decide) (fun w=>bits_runE (b_and32 (by assumption)) (by decide) w) ?_)
   refine aG ?_
   refine ev_wrap (z:=(↑(y % 2*4294967295):Int)) (b_neg32 (y)) ?_
   refine ev_stop (go_bin (.va (.int _ ((↑(y % 2*2197175160):Int)))) trivial rfl rfl rfl rfl rfl (by decide) (by decide) (fun w=>bits_runE (b_mask (y)) (by decide) w) ?_)
   refine aG ?_
   refine ev_stop (go_bin (.va (.int _ ((↑(crcB y):Int)))) trivial rfl rfl rfl rfl rfl (by decide) (by decide) (fun w=>bits_runE (b_crc (by assumption)) (by decide) w) ?_)
   refine aG ?_
   refine wN (k+1) ?_
   refine ev_fin (round_next ((k+1,crcB y)) (?_:k+1≤8∧crcB y=crcN (k+1) g0) (show 8-(k+1)<8-k from (by omega)) aS)
   rotate_left
   refine aG ?_
   refine ev_fin (go Tryz.tbs_ok 1000 ?_)
   refine wN (j+1) ?_
   refine ev_fin (round_next ((j+1,y)) (?_:j+1≤s.size∧y=crcL (4294967295-r) (List.take (j+1) s.data.toList)) (show s.size-(j+1)<s.size-j from (by omega)) aS)
   rotate_left
   · exact ⟨by omega,by rw [hy];exact crcN_step k g0⟩
   obtain rfl:k=8:=by omega
   refine ⟨by omega,?_⟩
   rw [crcL_step hjl,←hg,hy,hg0,hc]
   rfl
 obtain rfl:j=s.size:=by omega
 rw [List.take_of_length_le (by omega)] at hg
 rw [hg]
 rfl
theorem sumT (s:ByteArray) (hs:s.size≤1000000000):Triple Tryz.prog 274 [.string s] [] [] Unit (fun _=>.int .u32 (ckN s.data.toList:Nat)) (fun _=>True) (fun _=>[]):=by
 have T1:=moreT 0 s (by decide) hs
 refine aT Tryz.func274 [.va (.string s)] [] (fun E=>?_) ⟨trivial,trivial⟩
 refine aG ?_
 refine aC T1 [] [] fun _ h0=>?_
 refine ev_fin ⟨trivial,_,rfl,(()),rfl,(by trivial),Frm.nil _⟩
theorem checkT (s:ByteArray) (hs:s.size≤1000000000):Triple Tryz.prog 238 [.string s] [] [] Unit (fun _=>.string ⟨(ckL s.data.toList).toArray⟩) (fun _=>True) (fun _=>[]):=by
 have T1:=sumT s hs
 unfold ckL
 obtain ⟨n,hn⟩:∃ n,n=ckN s.data.toList:=⟨_,rfl⟩
 rw [←hn] at T1 ⊢
 have g0:shrOf .u32 (n:Int) 0=((n:Nat):Int):=by have:=b_shr8 (n:=n) (j:=0) (by decide);simpa using this
 have g1:shrOf .u32 (n:Int) 8=((n / 256:Nat):Int):=b_shr8 (n:=n) (j:=1) (by decide)
 have g2:shrOf .u32 (n:Int) 16=((n / 65536:Nat):Int):=b_shr8 (n:=n) (j:=2) (by decide)
 have g3:shrOf .u32 (n:Int) 24=((n / 16777216:Nat):Int):=b_shr8 (n:=n) (j:=3) (by decide)
 have e0:=b_byte n
 have e1:=b_byte (n / 256)
 have e2:=b_byte (n / 65536)
 have e3:=b_byte (n / 16777216)
 obtain ⟨c0,hc0⟩:∃ x,x=UInt8.ofNat n:=⟨_,rfl⟩
 obtain ⟨c1,hc1⟩:∃ x,x=UInt8.ofNat (n / 256):=⟨_,rfl⟩
 obtain ⟨c2,hc2⟩:∃ x,x=UInt8.ofNat (n / 65536):=⟨_,rfl⟩
 obtain ⟨c3,hc3⟩:∃ x,x=UInt8.ofNat (n / 16777216):=⟨_,rfl⟩
 rw [←hc0] at e0
 rw [←hc1] at e1
 rw [←hc2] at e2
 rw [←hc3] at e3
 rw [←hc0,←hc1,←hc2,←hc3]
 refine aT Tryz.func238 [.va (.string s)] [] (fun E=>?_) ⟨trivial,trivial⟩
 refine aG ?_
 refine aC T1 [] [] fun _ h0=>?_
 refine ev_new fun b1=>?_
 refine ev_stop (go_rounds 4 ?_)
 refine aG (aJ ?_)
 refine wN (8*0) ?_
 refine ev_stop (go_bin (.va (.int _ ((↑n:Int)))) trivial rfl rfl rfl rfl rfl (by decide) (by decide) (fun w=>shr_runE g0 (show 0≤(↑(8*0):Int) from (by omega)) w) ?_)
 refine aG ?_
 refine ev_wrap (z:=(↑c0.toNat:Int)) e0 ?_
 refine ev_stop (go_indexArr Tryz.tbs_ok (0) rfl rfl rfl rfl rfl rfl (by first | decide | omega) rfl rfl ?_)
 refine aG ?_
 refine wN (0+1) ?_
 refine ev_fin (go Tryz.tbs_ok 1000 ?_)
 refine aJ ?_
 refine wN (8*(0+1)) ?_
 refine ev_stop (go_bin (.va (.int _ ((↑(n / 256):Int)))) trivial rfl rfl rfl rfl rfl (by decide) (by decide) (fun w=>shr_runE g1 (show 0≤(↑(8*(0+1)):Int) from (by omega)) w) ?_)
 refine aG ?_
 refine ev_wrap (z:=(↑c1.toNat:Int)) e1 ?_
 refine ev_stop (go_indexArr Tryz.tbs_ok (0+1) rfl rfl rfl rfl rfl rfl (by first | decide | omega) rfl rfl ?_)
 refine aG ?_
 refine wN (0+1+1) ?_
 refine ev_fin (go Tryz.tbs_ok 1000 ?_)
 refine aJ ?_
 refine wN (8*(0+1+1)) ?_
 refine ev_stop (go_bin (.va (.int _ ((↑(n / 65536):Int)))) trivial rfl rfl rfl rfl rfl (by decide) (by decide) (fun w=>shr_runE g2 (show 0≤(↑(8*(0+1+1)):Int) from (by omega)) w) ?_)
 refine aG ?_
 refine ev_wrap (z:=(↑c2.toNat:Int)) e2 ?_
 refine ev_stop (go_indexArr Tryz.tbs_ok (0+1+1) rfl rfl rfl rfl rfl rfl (by first | decide | omega) rfl rfl ?_)
 refine aG ?_
 refine wN (0+1+1+1) ?_
 refine ev_fin (go Tryz.tbs_ok 1000 ?_)
 refine aJ ?_
 refine wN (8*(0+1+1+1)) ?_
 refine ev_stop (go_bin (.va (.int _ ((↑(n / 16777216):Int)))) trivial rfl rfl rfl rfl rfl (by decide) (by decide) (fun w=>shr_runE g3 (show 0≤(↑(8*(0+1+1+1)):Int) from (by omega)) w) ?_)
 refine aG ?_
 refine ev_wrap (z:=(↑c3.toNat:Int)) e3 ?_
 refine ev_stop (go_indexArr Tryz.tbs_ok (0+1+1+1) rfl rfl rfl rfl rfl rfl (by first | decide | omega) rfl rfl ?_)
 refine aG ?_
 refine wN (0+1+1+1+1) ?_
 refine ev_fin (go Tryz.tbs_ok 1000 ?_)
 refine aI ?_
 refine ev_fin (go Tryz.tbs_ok 1000 ?_)
 refine ev_stop (go_sliceArr Tryz.tbs_ok rfl rfl rfl rfl ?_)
 refine aG ?_
 refine ev_stop (go_boxfact 0 (Rd 1 (some ⟨b1,0,none⟩) 4 ([c0,c1,c2,c3].flatMap encC)) rfl (fun h p=>⟨rfl,p.2,fun _=>⟨_,0,_,_,_,rfl,p.1,rfl⟩⟩) aL ?_)
 refine aG ?_
 refine ev_stop (go_stringOf Tryz.tbs_ok ([c0,c1,c2,c3]) (.inr 1) rfl rfl rfl rfl rfl rfl rfl (by first | rfl | omega | (simp;omega)) (fun _ h=>h) ?_)
 refine aG ?_
 refine ev_fin ⟨trivial,_,rfl,(()),rfl,(by trivial),Frm.nil _⟩
def getM (l:List UInt8) (a:Nat):Int × Nat × Bool:=match getL 0 0 (l.drop a) with | none=>(0,0,false) | some (F,k)=>(zigM F,a+k,true)
theorem getM_none {l:List UInt8} {a:Nat} (h:getL 0 0 (l.drop a)=none):getM l a=(0,0,false):=by unfold getM;rw [h]
theorem getM_some {l:List UInt8} {a F k:Nat} (h:getL 0 0 (l.drop a)=some (F,k)):getM l a=(zigM F,a+k,true):=by unfold getM;rw [h]
theorem getL_eq {l r:List UInt8} {i f:Nat} {c:UInt8} (h:l=c::r):getL i f l=if 10≤i then none else if 128≤c.toNat then getL (i+1) (f+(c.toNat-128)*128 ^ i) r else if (c.toNat=0∧0<i)∨(i=9∧1<c.toNat) then none else some (f+c.toNat*128 ^ i,i+1):=by
 rw [h,getL]
theorem or_digit {f x i:Nat} (hf:f<128 ^ i) (hx:x*128 ^ i<18446744073709551616):f ||| (x*128 ^ i % 18446744073709551616)=f+x*128 ^ i:=by
 rw [Nat.mod_eq_of_lt hx]
 rw [show 128 ^ i=2 ^ (7*i) from by rw [Nat.pow_mul]] at hf ⊢
 exact or_add hf
theorem digit_lt {x i:Nat} (hx:x<128) (hi:i≤8):x*128 ^ i<18446744073709551616 :=
 Nat.lt_of_le_of_lt (Nat.mul_le_mul (show x≤127 by omega) (Nat.pow_le_pow_right (by decide) hi)) (by decide)
theorem digit_lt9 {x:Nat} (hx:x≤1):x*128 ^ 9<18446744073709551616:=Nat.lt_of_le_of_lt (Nat.mul_le_mul hx (Nat.le_refl _)) (by decide)
theorem mgetT (s:ByteArray) (a:Nat) (hs:s.size≤1000000000) (ha:a≤s.size):Triple Tryz.prog 257 [.string s,.int .i64 (a:Int)] [] [] Unit (fun _=>.tuple #[.int .i64 (getM s.data.toList a).1,.int .i64 ((getM s.data.toList a).2.1:Nat),.bool (getM s.data.toList a).2.2]) (fun _=>True) (fun _=>[]):=by
 refine aT Tryz.func257 [.va (.string s),vI (a:Int)] [] (fun E=>?_) ⟨trivial,trivial,trivial⟩
 have hsz:=size_data s
 obtain ⟨R,hR⟩:∃ R,R=getM s.data.toList a:=⟨_,rfl⟩
 rw [←hR]
 rcases Nat.lt_or_ge a s.size with ha2 | ha2
 · refine aG (aI ?_)
   refine aI ?_ (decide_eq_false (show ¬(↑a:Int) ≥ (↑s.size:Int) from (by omega)))
   refine wO (s.size-a) ?_
   refine ev_stop (go_loopR [4,5,6,7,8,9,23,24,25,26,27,28,29,30,31,32,33,34,35,36,37,38,39,40,41,42,43,44,45,46,47,48,49,50,51,52,53,54,55,56,57,58,59,60,61,62,63,64,65,66,67] (fun (i,f)=>[(7,.va (.int .u64 (f:Nat))),(23,vI (i:Nat))]) (fun _=>[]) (fun (i,f)=>i≤10∧a+i≤s.size∧f<18446744073709551616∧(i≤9→f<128 ^ i∧getL 0 0 (s.data.toList.drop a)=getL i f (s.data.toList.drop (a+i)))∧(i=10→getL 0 0 (s.data.toList.drop a)=none)) (fun (i,_)=>10-i) ((0,0):Nat × Nat) ⟨Nat.zero_le _,ha,by decide,fun _=>⟨by decide,rfl⟩,fun h=>by cases h⟩ aS (fun x_ h_=>?_))
   obtain ⟨i,f⟩:=x_
   obtain ⟨hi,hi2,hf,h9,h10⟩:=h_
   have hl:(s.data.toList.drop (a+i)).length=s.size-(a+i):=by rw [List.length_drop,hsz]
   rcases (show (i<10∧a+i<s.size)∨(i=10∨a+i=s.size) from by omega) with ⟨h1,h2⟩ | hend
   · obtain ⟨h9,hget⟩:=h9 (by omega)
     have hd:s.data.toList.drop (a+i)=s[a+i]::s.data.toList.drop (a+(i+1)):=List.drop_eq_getElem_cons (by rw [hsz];exact h2)
     have hc:=UInt8.toNat_lt (s[a+i])
     obtain ⟨c,hcc⟩:∃ c,c=(s[a+i]).toNat:=⟨_,rfl⟩
     rw [getL_eq hd] at hget
     rw [←hcc] at hc hget
     have g1:bitsOf .andNot .u8 ((s[a+i]).toNat:Int) 128=((c % 128:Nat):Int):=by rw [hcc];exact b_not128 _
     have g2:=b_w64 (n:=c % 128) (by omega)
     have g3:=b_shlG (x:=c % 128) (i:=i) (by omega)
     obtain ⟨f2,hf2⟩:∃ f2,f2=f ||| (c % 128*128 ^ i % 18446744073709551616):=⟨_,rfl⟩
     have hm:c % 128*128 ^ i % 18446744073709551616<18446744073709551616:=Nat.mod_lt _ (by decide)
     have hl2:f2<18446744073709551616:=by rw [hf2];exact Nat.or_lt_two_pow (n:=64) hf hm
     have g4:=b_orG hf hm
     rw [←hf2] at g4
     have g5:=b_shr1 f2
     have g6:=b_and1 hl2
     have g7:=b_fold hl2
     rw [if_neg (by omega)] at hget
     have hget8:i≤8→f2=f+c % 128*128 ^ i:=fun h8=>by rw [hf2];exact or_digit h9 (digit_lt (by omega) h8)
     have hget9:i=9→c≤1→f2=f+c % 128*128 ^ i:=fun h8 h1=>by subst h8;rw [hf2];exact or_digit h9 (digit_lt9 (by omega))
     have hz:c<128→(c=0∧0<i∨i=9∧1<c)→R=(0,0,false):=fun hc1 hq=>by rw [hR,getM_none (by rw [hget,if_neg (by omega),if_pos hq])]
     have hz2:c<128→¬ (c=0∧0<i∨i=9∧1<c)→R=(zigM f2,a+i+1,true):=fun hc1 hq=>by
      have e:f2=f+c*128 ^ i:=by
       have e0:c % 128=c:=Nat.mod_eq_of_lt hc1
       rw [e0] at hget8 hget9
       rcases (show i≤8∨(i=9∧c≤1) by omega) with h8 | ⟨h8,h9⟩
       · exact hget8 h8
       exact hget9 h8 h9
      rw [hR,getM_some (F:=f2) (k:=i+1) (by rw [hget,if_neg (by omega),if_neg hq,e])]
      rfl
     refine aG ?_
     refine aJ ?_ (decide_eq_true (show (↑i:Int)<min (↑(s.size-a):Int) 10 from (by omega)))
     refine wN (a+i) ?_
     refine ev_stop (go_byte Tryz.tbs_ok (a+i) rfl rfl rfl rfl rfl rfl (by omega) ?_)
     refine aG ?_
     refine ev_stop (go_bin (.va (.int _ ((↑(c % 128):Int)))) trivial rfl rfl rfl rfl rfl (by decide) (by decide) (fun w=>bits_runE g1 (by decide) w) ?_)
     refine aG ?_
     refine ev_wrap (z:=(↑(c % 128):Int)) g2 ?_
     refine wN (7*i) ?_
     refine ev_stop (go_bin (.va (.int _ ((↑(c % 128*128 ^ i % 18446744073709551616):Int)))) trivial rfl rfl rfl rfl rfl (by decide) (by decide) (fun w=>shl_runE g3 (show 0≤(↑(7*i):Int) from (by omega)) w) ?_)
     refine aG ?_
     refine ev_stop (go_bin (.va (.int _ ((↑f2:Int)))) trivial rfl rfl rfl rfl rfl (by decide) (by decide) (fun w=>bits_runE g4 (by decide) w) ?_)
     refine aG ?_
     refine ev_if_lt (fun h10=>?_) (fun h10=>?_)
     refine aG ?_
     refine wN (i+1) ?_
     refine ev_fin (round_next ((i+1,f2)) (?_:i+1≤10∧a+(i+1)≤s.size∧f2<18446744073709551616∧(i+1≤9→f2<128 ^ (i+1)∧getL 0 0 (List.drop a s.data.toList)=getL (i+1) f2 (List.drop (a+(i+1)) s.data.toList))∧(i+1=10→getL 0 0 (List.drop a s.data.toList)=none)) (show 10-(i+1)<10-i from (by omega)) aS)
     rotate_left
     refine aG ?_
     refine ev_if_eq (fun h11=>?_) (fun h11=>?_)
     refine aG ?_
     refine ev_if_lt (fun h12=>?_) (fun h12=>?_)
     refine aG ?_
     refine ev_fin (go Tryz.tbs_ok 1000 ?_)
     refine ev_fin ⟨trivial,_,rfl,(()),?_,(by trivial),Frm.nil _⟩
     rotate_left
     refine aG ?_
     refine aI ?_ (beq_eq_false_iff_ne.2 (show ¬(↑i:Int)=9 from (by omega)))
     refine ev_stop (go_bin (.va (.int _ ((↑(f2 / 2):Int)))) trivial rfl rfl rfl rfl rfl (by decide) (by decide) (fun w=>shr_runE g5 (show 0≤1 from (by omega)) w) ?_)
     refine aG ?_
     refine wN (f2 / 2) ?_
     refine ev_stop (go_bin (.va (.int _ ((↑(f2 % 2):Int)))) trivial rfl rfl rfl rfl rfl (by decide) (by decide) (fun w=>bits_runE g6 (by decide) w) ?_)
     refine aG ?_
     refine wN (f2 % 2) ?_
     refine w6 ?_
     refine ev_stop (go_bin (.va (.int _ (zigM f2))) trivial rfl rfl rfl rfl rfl (by decide) (by decide) (fun w=>bits_runE g7 (by decide) w) ?_)
     refine aG ?_
     refine wN (a+i) ?_
     refine wN (a+i+1) ?_
     refine ev_fin ⟨trivial,_,rfl,(()),?_,(by trivial),Frm.nil _⟩
     rotate_left
     refine aG ?_
     refine ev_if_eq (fun h13=>?_) (fun h13=>?_)
     refine aG ?_
     refine ev_if_lt (fun h14=>?_) (fun h14=>?_)
     refine aG ?_
     refine ev_fin (go Tryz.tbs_ok 1000 ?_)
     refine ev_fin ⟨trivial,_,rfl,(()),?_,(by trivial),Frm.nil _⟩
     rotate_left
     refine aG ?_
     refine ev_stop (go_bin (.va (.int _ ((↑(f2 / 2):Int)))) trivial rfl rfl rfl rfl rfl (by decide) (by decide) (fun w=>shr_runE g5 (show 0≤1 from (by omega)) w) ?_)
     refine aG ?_
     refine wN (f2 / 2) ?_
     refine ev_stop (go_bin (.va (.int _ ((↑(f2 % 2):Int)))) trivial rfl rfl rfl rfl rfl (by decide) (by decide) (fun w=>bits_runE g6 (by decide) w) ?_)
     refine aG ?_
     refine wN (f2 % 2) ?_
     refine w6 ?_
     refine ev_stop (go_bin (.va (.int _ (zigM f2))) trivial rfl rfl rfl rfl rfl (by decide) (by decide) (fun w=>bits_runE g7 (by decide) w) ?_)
     refine aG ?_
     refine wN (a+i) ?_
     refine wN (a+i+1) ?_
     refine ev_fin ⟨trivial,_,rfl,(()),?_,(by trivial),Frm.nil _⟩
     rotate_left
     refine aG ?_
     refine ev_stop (go_bin (.va (.int _ ((↑(f2 / 2):Int)))) trivial rfl rfl rfl rfl rfl (by decide) (by decide) (fun w=>shr_runE g5 (show 0≤1 from (by omega)) w) ?_)
     refine aG ?_
     refine wN (f2 / 2) ?_
     refine ev_stop (go_bin (.va (.int _ ((↑(f2 % 2):Int)))) trivial rfl rfl rfl rfl rfl (by decide) (by decide) (fun w=>bits_runE g6 (by decide) w) ?_)
     refine aG ?_
     refine wN (f2 % 2) ?_
     refine w6 ?_
     refine ev_stop (go_bin (.va (.int _ (zigM f2))) trivial rfl rfl rfl rfl rfl (by decide) (by decide) (fun w=>bits_runE g7 (by decide) w) ?_)
     refine aG ?_
     refine wN (a+i) ?_
     refine wN (a+i+1) ?_
     refine ev_fin ⟨trivial,_,rfl,(()),?_,(by trivial),Frm.nil _⟩
     rotate_left
     · refine ⟨by omega,by omega,hl2,fun h=>?_,fun h=>?_⟩
       · have e:=hget8 (by omega)
         rw [if_pos (by omega)] at hget
         have e2:c-128=c % 128:=by omega
         rw [e2,←e] at hget
         refine ⟨?_,hget⟩
         have h3:=Nat.mul_le_mul_right (128 ^ i) (show c % 128≤127 by omega)
         rw [e,pow128]
         omega
       obtain rfl:i=9:=by omega
       rw [hget,if_pos (by omega)]
       cases hr:s.data.toList.drop (a+(9+1)) with
       | nil=>rfl
       | cons x r=>rw [getL,if_pos (by decide)]
     all_goals first | (rw [hz (by omega) (by omega)];rfl) | (rw [hz2 (by omega) (by omega)];rfl)
   have hn:getL 0 0 (s.data.toList.drop a)=none:=by
    rcases hend with rfl | he
    · exact h10 rfl
    rcases (show i=10∨i≤9 by omega) with rfl | h8
    · exact h10 rfl
    rw [(h9 h8).2,List.drop_eq_nil_of_le (by omega)]
    rfl
   rw [getM_none hn] at hR
   subst hR
   refine aG ?_
   refine aI ?_ (decide_eq_false (show ¬(↑i:Int)<min (↑(s.size-a):Int) 10 from (by omega)))
   refine ev_fin (go Tryz.tbs_ok 1000 ?_)
   refine ev_fin ⟨trivial,_,rfl,(()),rfl,(by trivial),Frm.nil _⟩
 rw [getM_none (by rw [List.drop_eq_nil_of_le (by omega)];rfl)] at hR
 subst hR
 refine aG (aI ?_)
 refine aJ ?_ (decide_eq_true (show (↑a:Int) ≥ (↑s.size:Int) from (by omega)))
 refine ev_fin ⟨trivial,_,rfl,(()),rfl,(by trivial),Frm.nil _⟩
structure Fl where
 n:ByteArray
 d:ByteArray
 s:Int
 deriving DecidableEq
def encF (x:Fl):List Value:=[.string x.n,.string x.d,.int .i64 x.s]
def encN (x:Int):List Value:=[.int .i64 x]
theorem encN_len (x:Int):(encN x).length=1:=rfl
def encS (x:ByteArray):List Value:=[.string x]
def cmpS (a b:ByteArray):Int:=if ltS a b then -1 else if ltS b a then 1 else 0
theorem cmpS_neg {a b:ByteArray}:cmpS a b<0↔ltS a b:=by
 unfold cmpS
 split
 · rename_i h;simp [h]
 rename_i h
 split<;>simp [h]
theorem cmpS_zero {a b:ByteArray}:cmpS a b=0↔a=b:=by
 unfold cmpS
 split
 · rename_i h;simp [h.ne]
 rename_i h
 split
 · rename_i h2;simp [h2.ne.symm]
 rename_i h2;simp [ltS.total h h2]
def riseF (L:List Fl):Prop:=L.Pairwise fun a b=>ltS a.n b.n
def posF (L:List Fl) (x:ByteArray):Nat:=L.countP fun f=>decide (ltS f.n x)
def hasF (L:List Fl) (x:ByteArray):Bool:=L.any fun f=>decide (f.n=x)
theorem posF_le (L:List Fl) (x:ByteArray):posF L x≤L.length:=List.countP_le_length
theorem posF_of {L:List Fl} {x:ByteArray} {i:Nat} (hi:i≤L.length) (h1:∀ y∈L.take i,ltS y.n x) (h2:∀ y∈L.drop i,¬ ltS y.n x):posF L x=i:=by
 unfold posF
 rw [←List.take_append_drop i L,List.countP_append]
 have e1:(L.take i).countP (fun f=>decide (ltS f.n x))=(L.take i).length:=List.countP_eq_length.2 fun y hy=>decide_eq_true (h1 y hy)
 have e2:(L.drop i).countP (fun f=>decide (ltS f.n x))=0:=List.countP_eq_zero.2 fun y hy=>by
  have:=h2 y hy
  simpa using this
 rw [e1,e2,List.length_take]
 omega
theorem riseF_take {L:List Fl} (hs:riseF L) {x:ByteArray} {m:Nat} (hm:m<L.length) (h:ltS L[m].n x):∀ y∈L.take (m+1),ltS y.n x:=fun y hy=>by
 obtain ⟨k,hk,rfl⟩:=List.getElem_of_mem hy
 rw [List.length_take] at hk
 rw [List.getElem_take]
 rcases Nat.lt_or_ge k m with h2 | h2
 · exact (List.pairwise_iff_getElem.1 hs k m (by omega) hm h2).trans h
 obtain rfl:k=m:=by omega
 exact h
theorem riseF_drop {L:List Fl} (hs:riseF L) {x:ByteArray} {m:Nat} (hm:m<L.length) (h:¬ ltS L[m].n x):∀ y∈L.drop m,¬ ltS y.n x:=fun y hy=>by
 obtain ⟨k,hk,rfl⟩:=List.getElem_of_mem hy
 rw [List.length_drop] at hk
 rw [List.getElem_drop]
 rcases Nat.eq_zero_or_pos k with h2 | h2
 · subst h2
   exact h
 have:=List.pairwise_iff_getElem.1 hs m (m+k) hm (by omega) (by omega)
 exact fun h3=>h (this.trans h3)
theorem hasF_at {L:List Fl} (hs:riseF L) {x:ByteArray} {i:Nat} (hi:i<L.length) (h1:∀ y∈L.take i,ltS y.n x) (h2:∀ y∈L.drop i,¬ ltS y.n x):hasF L x=decide (L[i].n=x):=by
 unfold hasF
 rw [Bool.eq_iff_iff,List.any_eq_true,decide_eq_true_iff]
 constructor
 · rintro ⟨y,hy,e⟩
   have e:=of_decide_eq_true e
   obtain ⟨k,hk,rfl⟩:=List.getElem_of_mem hy
   rcases Nat.lt_trichotomy k i with h | h | h
   · exact absurd e (h1 _ (List.mem_take_iff_getElem.2 ⟨k,by omega,rfl⟩)).ne
   · subst h;exact e
   have h3:=List.pairwise_iff_getElem.1 hs i k hi hk h
   rw [e] at h3
   exact absurd h3 (h2 _ (List.mem_drop_iff_getElem.2 ⟨0,by omega,by simp⟩))
 intro e
 exact ⟨_,List.getElem_mem hi,decide_eq_true e⟩
theorem hasF_end {L:List Fl} {x:ByteArray} (h1:∀ y∈L,ltS y.n x):hasF L x=false:=by
 unfold hasF
 rw [List.any_eq_false]
 intro y hy
 simpa using (h1 y hy).ne
theorem nan (a:ByteArray):Triple Tryz.prog 278 [.string a] [] [] Unit (fun _=>.bool false) (fun _=>True) (fun _=>[]):=by
 refine aT Tryz.func278 [.va (.string a)] [] (fun E=>?_) ⟨trivial,trivial⟩
 refine aG ?_
 refine ev_fin ⟨trivial,_,rfl,(()),?_,(by trivial),Frm.nil _⟩
 exact congrArg Value.bool (by simp)
theorem cmpT (a b:ByteArray):Triple Tryz.prog 244 [.string a,.string b] [] [] Unit (fun _=>.int .i64 (cmpS a b)) (fun _=>True) (fun _=>[]):=by
 refine aT Tryz.func244 [.va (.string a),.va (.string b)] [] (fun E=>?_) ⟨trivial,trivial,trivial⟩
 refine aG ?_
 refine aC (nan (a)) [] [] fun _ h0=>?_
 refine aC (nan (b)) [] [] fun _ h1=>?_
 refine aI (aI ?_)
 refine ev_stop (go_bin (.bq (decide (ltS (a) (b)))) trivial rfl rfl rfl rfl rfl (by decide) (by decide) (fun w=>lss_runS w) ?_)
 refine aG ?_
 refine ev_if_lt (fun h2=>?_) (fun h2=>?_)
 refine aG ?_
 refine ev_fin ⟨trivial,_,rfl,(()),?_,(by trivial),Frm.nil _⟩
 rotate_left
 refine aG ?_
 refine ev_stop (go_bin (.bq (decide (ltS (b) (a)))) trivial rfl rfl rfl rfl rfl (by decide) (by decide) (fun w=>gtr_runS w) ?_)
 refine aG ?_
 refine ev_if_lt (fun h3=>?_) (fun h3=>?_)
 refine aG ?_
 refine ev_fin ⟨trivial,_,rfl,(()),?_,(by trivial),Frm.nil _⟩
 rotate_left
 refine aG ?_
 refine ev_fin ⟨trivial,_,rfl,(()),?_,(by trivial),Frm.nil _⟩
 rotate_left
 · show Value.int .i64 (-1)=Value.int .i64 (cmpS a b)
   rw [cmpS,if_pos h2]
 · show Value.int .i64 1=Value.int .i64 (cmpS a b)
   rw [cmpS,if_neg h2,if_pos h3]
 show Value.int .i64 0=Value.int .i64 (cmpS a b)
 rw [cmpS,if_neg h2,if_neg h3]
theorem nameCmp (f:Fl) (x:ByteArray):Triple Tryz.prog 243 [.agg #[.string f.n,.string f.d,.int .i64 f.s],.string x] [] [] Unit (fun _=>.int .i64 (cmpS f.n x)) (fun _=>True) (fun _=>[]):=by
 refine aT Tryz.func243 [.ag [.va (.string f.n),.va (.string f.d),vI f.s],.va (.string x)] [] (fun E=>?_) ⟨by simp [SV.good,SV.goodL],trivial,trivial⟩
 refine aG ?_
 refine ev_new fun b0=>?_
 refine aC (cmpT (f.n) (x)) [] [] fun _ h1=>?_
 refine ev_fin ⟨trivial,_,rfl,(()),rfl,(by trivial),Frm.nil _⟩
theorem searchF (A:Option Addr) (L:List Fl) (n c:Nat) (x:ByteArray) (hn:n=L.length) (h1:n≤1000) (hs:riseF L) :
 Triple Tryz.prog 242 [.slice A n c,.string x,.func (.func 243) #[] #[]] [] [Rd 3 A n (L.flatMap encF)] Unit (fun _=>.tuple #[.int .i64 (posF L x:Nat),.bool (hasF L x)]) (fun _=>True) (fun _=>[]):=by
 refine aT Tryz.func242 [vL A n c,.va (.string x),.va (.func (.func 243) #[] #[])] [] (fun E=>?_) ⟨trivial,trivial,trivial,trivial⟩
 refine aG ?_
 refine ev_stop (go_loopR [9,10,11,15,16,17,18,19,20,21,22,23,24,25,26,27,28,29,30,31,32,33,34] (fun (i,j)=>[(9,vI (i:Nat)),(10,vI (j:Nat))]) (fun _=>[]) (fun (i,j)=>i≤j∧j≤n∧(∀ y∈L.take i,ltS y.n x)∧∀ y∈L.drop j,¬ ltS y.n x) (fun (i,j)=>j-i) ((0,n):Nat × Nat) ⟨Nat.zero_le _,Nat.le_refl _,(fun y h=>by simp at h),(fun y h=>by rw [List.drop_of_length_le (by omega)] at h;cases h)⟩ aS (fun x_ h_=>?_))
 obtain ⟨i,j⟩:=x_
 obtain ⟨hij,hj,hlo,hhi⟩:=h_
 refine aG ?_
 refine ev_if_lt (fun h20=>?_) (fun h20=>?_)
 refine aG ?_
 refine wN (i+j) ?_
 refine ev_wu64 (show 0≤(↑(i+j):Int)∧(↑(i+j):Int)<18446744073709551616 from (by constructor<;>omega)) ?_
 refine ev_stop (go_bin (.va _) trivial rfl rfl rfl rfl rfl (by decide) (by decide) (fun w=>shr_run (show 0≤1 from (by omega)) w) ?_)
 refine aG ?_
 rotate_left
 refine aG ?_
 refine ev_fin (go Tryz.tbs_ok 1000 ?_)
 refine ev_if_lt (fun h21=>?_) (fun h21=>?_)
 refine aG ?_
 refine ev_stop (go_indexE (sz:=3) Tryz.tbs_ok (.inl 0) (i) rfl rfl rfl rfl rfl rfl (by omega) rfl (fun _ h=>h) (fun g22 o24 e23=>?_))
 subst e23
 refine aG ?_
 have l25:i<(L).length:=(by omega)
 refine ev_stop (go_loadE Tryz.tbs_ok (.inl 0) (i) 0 rfl rfl rfl rfl (fun _ h=>h) (by omega) (fun _=>rfl) (by omega) l25 (by decide) ?_)
 refine aG ?_
 refine aC (nameCmp (L[i]) (x)) [] [] fun _ h26=>?_
 refine ev_fin ⟨trivial,_,rfl,(()),?_,(by trivial),Frm.nil _⟩
 rotate_left
 refine aG ?_
 refine ev_fin ⟨trivial,_,rfl,(()),?_,(by trivial),Frm.nil _⟩
 rotate_left
 · have e:((i+j:Nat):Int).fdiv (2 ^ min (Int.toNat 1) IntKind.u64.bits)=(((i+j) / 2:Nat):Int):=by
    rw [show (2:Int) ^ min (Int.toNat 1) IntKind.u64.bits=2 from rfl,Int.fdiv_eq_ediv_of_nonneg _ (by omega)]
    omega
   refine ev_wrapN ((i+j) / 2) (by rw [e];omega) e ?_
   refine ev_stop (go_indexE (sz:=3) Tryz.tbs_ok (.inl 0) ((i+j) / 2) rfl rfl rfl rfl rfl rfl (by omega) rfl (fun _ h=>h) (fun g60 o62 e61=>?_))
   subst e61
   refine aG ?_
   have l63:(i+j) / 2<(L).length:=(by omega)
   refine ev_stop (go_loadE Tryz.tbs_ok (.inl 0) ((i+j) / 2) 0 rfl rfl rfl rfl (fun _ h=>h) (by omega) (fun _=>rfl) (by omega) l63 (by decide) ?_)
   refine aG ?_
   refine aC (nameCmp (L[(i+j) / 2]) (x)) [] [] fun _ h64=>?_
   refine ev_if_lt (fun h65=>?_) (fun h65=>?_)
   refine aG ?_
   refine wN ((i+j) / 2+1) ?_
   refine ev_fin (round_next (((i+j) / 2+1,j)) (?_:(i+j) / 2+1≤j∧j≤n∧(∀ (y:Fl),y∈List.take ((i+j) / 2+1) L→ltS y.n x)∧∀ (y:Fl),y∈List.drop j L→¬ltS y.n x) (show j-((i+j) / 2+1)<j-i from (by omega)) aS)
   rotate_left
   refine aG ?_
   refine ev_fin (round_next ((i,(i+j) / 2)) (?_:i≤(i+j) / 2∧(i+j) / 2≤n∧(∀ (y:Fl),y∈List.take i L→ltS y.n x)∧∀ (y:Fl),y∈List.drop ((i+j) / 2) L→¬ltS y.n x) (show (i+j) / 2-i<j-i from (by omega)) aS)
   rotate_left
   · exact ⟨by omega,hj,riseF_take hs l63 (cmpS_neg.1 h65),hhi⟩
   exact ⟨by omega,by omega,hlo,riseF_drop hs l63 fun h=>h65 (cmpS_neg.2 h)⟩
 · obtain rfl:i=j:=by omega
   show Value.tuple #[.int .i64 (i:Nat),.bool (cmpS L[i].n x==0)]=Value.tuple #[.int .i64 (posF L x:Nat),.bool (hasF L x)]
   rw [posF_of (by omega) hlo hhi,hasF_at hs l25 hlo hhi]
   have:(cmpS L[i].n x==0)=decide (L[i].n=x):=by
    rw [Bool.eq_iff_iff,beq_iff_eq,decide_eq_true_iff,cmpS_zero]
   rw [this]
 obtain rfl:i=j:=by omega
 show Value.tuple #[.int .i64 (i:Nat),.bool false]=Value.tuple #[.int .i64 (posF L x:Nat),.bool (hasF L x)]
 rw [posF_of (by omega) hlo hhi,hasF_end (by rwa [List.take_of_length_le (by omega)] at hlo)]
end Go.Proofs.YtnhoidnmlibcpaaGreatDoor
namespace Go.Sy
structure Ent where
 e:Int
 id:Int
 st:Int
 ex:Int
 k:Int
 a:Int
 deriving DecidableEq
structure Spt where
 s:Int
 i:Int
 deriving DecidableEq
structure Reg where
 p:Int
 v:Int
 L:List Ent
 c:Int
 deriving DecidableEq
structure Rec where
 k:Int
 s:Int
 e:Int
 v:Int
 f:Int
 n:Int
 L:List Ent
 F:List Spt
 deriving DecidableEq
def Ent.ints (x:Ent):List Int:=[x.e,x.id,x.st,x.ex,x.k,x.a]
def Spt.ints (x:Spt):List Int:=[x.s,x.i]
def Rec.ints (x:Rec):List Int:=[x.k,x.s,x.e,x.v,x.f,x.n]
def Ent.ord (x:Ent):List Int:=[x.id,x.st,x.ex,x.k,x.a]
def encO (x:Ent):List Value:=[.int .i64 x.id,.int .i64 x.st,.int .i64 x.ex,.int .i64 x.k,.int .i64 x.a]
def encE (x:Ent):List Value:=[.int .i64 x.e,.int .i64 x.id,.int .i64 x.st,.int .i64 x.ex,.int .i64 x.k,.int .i64 x.a]
def encP (x:Spt):List Value:=[.int .i64 x.s,.int .i64 x.i]
def okO (x:Ent):Bool:=decide (1≤x.id)&&decide (x.id≤2147483647)&&decide (0≤x.st)&&decide (x.st≤3)&&decide (-1≤x.ex)&&decide (x.ex≤2147483647)&&decide (1≤x.k)&&decide (x.k≤4)&&decide (-1048576≤x.a)&&decide (x.a≤1048576)
theorem okO_iff {x:Ent}:okO x=true↔(1≤x.id∧x.id≤2147483647)∧(0≤x.st∧x.st≤3)∧(-1≤x.ex∧x.ex≤2147483647)∧(1≤x.k∧x.k≤4)∧(-1048576≤x.a∧x.a≤1048576):=by
 simp only [okO,Bool.and_eq_true,decide_eq_true_eq]
 constructor<;>(intro h;omega)
def riseE:List Ent→Bool
 | x::y::l=>decide (x.e≤y.e)&&riseE (y::l)
 | _=>true
def wholeE (L:List Ent) (v:Int):Bool:=(L.all fun x=>decide (1≤x.e)&&decide (x.e≤v)&&okO x)&&decide (L.length≤64)&&riseE L
def okR (r:Reg):Bool:=decide (0≤r.v)&&decide (r.v≤r.p)&&decide (r.p≤1048576)&&wholeE r.L r.v&&decide (0≤r.c)&&decide (r.c≤r.L.length)
def logE (L:List Ent) (s f:Int):Bool:=decide (0≤f)&&decide (f≤64)&&decide ((L.length:Int)≤64-f)&&L.all fun x=>decide (1≤x.e)&&decide (x.e≤1048576)&&decide (x.st=s)&&okO x
def feedE (F:List Spt):Bool:=decide (F.length≤256)&&F.all fun y=>decide (0≤y.s)&&decide (y.s<4)&&decide (0≤y.i)&&decide (y.i<64)
def mayR (x:Rec):Bool:=decide (0≤x.s)&&decide (x.s<4)&&(decide (x.k=5) || decide (x.F.length=0)) &&
 (if x.k=1 then decide (1≤x.e)&&decide (x.e≤1048576)&&decide (x.L.length=0)&&decide (x.v=0)&&decide (x.f=0)&&decide (x.n=0)
 else if x.k=2 then decide (1≤x.e)&&decide (x.e≤1048576)&&logE x.L x.s x.f&&decide (x.v=0)&&decide (x.n=0)
 else if x.k=3 then decide (0≤x.n)&&decide (x.n≤64)&&decide (x.L.length=0)&&decide (x.e=0)&&decide (x.v=0)&&decide (x.f=0)
 else if x.k=4 then decide (0≤x.e)&&decide (x.e≤1048576)&&decide (0≤x.v)&&decide (x.v≤1048576)&&logE x.L x.s 0&&decide (0≤x.n)&&decide (x.n≤x.L.length)&&decide (x.f=0)
 else if x.k=5 then decide (x.s=0)&&decide (x.L.length=0)&&feedE x.F&&decide (x.e=0)&&decide (x.v=0)&&decide (x.f=0)&&decide (x.n=0)
 else false)
def viewL (r:Reg) (x:Rec):List Ent:=(if x.e=r.v then r.L else [])++x.L
def applyR (r:Reg) (x:Rec):Option Reg :=
 if okR r=false then none
 else if x.k=1 then if r.p<x.e∧x.e≤1048576 then some ⟨x.e,r.v,r.L,r.c⟩ else none
 else if x.k=2 then if 1≤x.e∧r.p≤x.e∧x.e≤1048576∧x.f=(if x.e=r.v then (r.L.length:Int) else 0)∧wholeE (viewL r x) x.e=true∧r.L.take r.c.toNat=(viewL r x).take r.c.toNat∧r.c.toNat≤(viewL r x).length then some ⟨x.e,x.e,viewL r x,r.c⟩ else none
 else if x.k=3 then if r.c<x.n∧x.n≤r.L.length then some ⟨r.p,r.v,r.L,x.n⟩ else none
 else if x.k=4 then if r.p=0∧okR ⟨x.e,x.v,x.L,x.n⟩=true then some ⟨x.e,x.v,x.L,x.n⟩ else none
 else none
theorem applyR_ok {r r':Reg} {x:Rec} (h:applyR r x=some r'):okR r=true∧okR r'=true:=by
 unfold applyR at h
 have hr:okR r=true:=by
  cases hr:okR r with
  | true=>rfl
  | false=>rw [if_pos hr] at h;cases h
 rw [if_neg (by rw [hr];decide)] at h
 refine ⟨hr,?_⟩
 simp only [okR,Bool.and_eq_true,decide_eq_true_eq] at hr
 by_cases h1:x.k=1
 · rw [if_pos h1,Option.ite_none_right_eq_some] at h
   obtain ⟨⟨a,b⟩,e⟩:=h
   cases e
   simp only [okR,Bool.and_eq_true,decide_eq_true_eq]
   exact ⟨⟨⟨⟨⟨by omega,by omega⟩,by omega⟩,hr.1.1.2⟩,hr.1.2⟩,hr.2⟩
 rw [if_neg h1] at h
 by_cases h2:x.k=2
 · rw [if_pos h2,Option.ite_none_right_eq_some] at h
   obtain ⟨⟨a1,a2,a3,a4,a5,a6,a7⟩,e⟩:=h
   cases e
   simp only [okR,Bool.and_eq_true,decide_eq_true_eq]
   exact ⟨⟨⟨⟨⟨by omega,by omega⟩,by omega⟩,a5⟩,hr.1.2⟩,by omega⟩
 rw [if_neg h2] at h
 by_cases h3:x.k=3
 · rw [if_pos h3,Option.ite_none_right_eq_some] at h
   obtain ⟨⟨a,b⟩,e⟩:=h
   cases e
   simp only [okR,Bool.and_eq_true,decide_eq_true_eq]
   exact ⟨⟨⟨hr.1.1.1,hr.1.1.2⟩,by omega⟩,by omega⟩
 rw [if_neg h3] at h
 by_cases h4:x.k=4
 · rw [if_pos h4,Option.ite_none_right_eq_some] at h
   obtain ⟨⟨a,b⟩,e⟩:=h
   cases e
   exact b
 rw [if_neg h4] at h
 cases h
structure Sta where
 R:List Reg
 F:List Spt
def noReg:Reg:=⟨0,0,[],0⟩
def noSta:Sta:=⟨[noReg,noReg,noReg,noReg],[]⟩
def Sta.at (x:Sta) (s:Int):Reg:=(x.R[s.toNat]?).getD noReg
def spots (s a:Int):Nat→List Spt
 | 0=>[]
 | k+1=>spots s a k++[⟨s,a+(k:Int)⟩]
def cnt (F:List Spt) (s:Int):Nat:=F.countP fun z=>decide (z.s=s)
def ordF (acc:List Spt):List Spt→Bool
 | []=>true
 | y::l=>decide (0≤y.s)&&decide (y.s<4)&&decide (y.i=(cnt acc y.s:Int))&&ordF (acc++[y]) l
def toldF (R:List Reg) (F:List Spt):Bool:=ordF [] F&&(List.range 4).all fun j=>decide ((R.getD j noReg).c=(cnt F (j:Int):Int))
theorem cnt_append (F G:List Spt) (s:Int):cnt (F++G) s=cnt F s+cnt G s:=List.countP_append
theorem cnt_one (y:Spt) (s:Int):cnt [y] s=if y.s=s then 1 else 0:=by unfold cnt;rw [List.countP_singleton];simp
theorem ordF_append:∀ (F acc G:List Spt),ordF acc (F++G)=(ordF acc F&&ordF (acc++F) G)
 | [],acc,G=>by simp [ordF]
 | y::F,acc,G=>by simp [ordF,ordF_append F,Bool.and_assoc]
theorem cnt_spots (s a t:Int):∀ k,cnt (spots s a k) t=if s=t then k else 0
 | 0=>by simp [spots,cnt]
 |
  k+1=>by
  rw [spots,cnt_append,cnt_spots s a t k,cnt_one]
  split<;>simp_all
theorem ordF_spots {s:Int} (h0:0≤s) (h4:s<4) (acc:List Spt):∀ k,ordF acc (spots s (cnt acc s:Int) k)=true
 | 0=>rfl
 |
  k+1=>by
  rw [spots,ordF_append,ordF_spots h0 h4 acc k]
  simp only [ordF,cnt_append,cnt_spots,if_true]
  simp [h0,h4]
def applyS (x:Sta) (r:Rec):Option Sta :=
 if r.k=5 then if x.F=[]∧toldF x.R r.F=true then some ⟨x.R,r.F⟩ else none
 else if 0≤r.s∧r.s<4 then match applyR (x.at r.s) r with
  | none=>none
  | some y=>some ⟨x.R.set r.s.toNat y,if r.k=3 then x.F++spots r.s (x.at r.s).c (y.c-(x.at r.s).c).toNat else x.F⟩
 else none
structure okS (x:Sta):Prop where
 four:x.R.length=4
 regs:∀ r∈x.R,okR r=true
 told:toldF x.R x.F=true
 own:∀ (i:Nat) (r:Reg),x.R[i]? = some r→∀ y∈r.L,y.st=(i:Int)
theorem okS_no:okS noSta:=⟨rfl,by decide,by decide,fun i r h=>by
 have:r=noReg:=by
  have:=List.mem_of_getElem? h
  simpa [noSta] using this
 rw [this]
 intro y hy
 cases hy⟩
theorem okR_of {r:Reg} (h:okR r=true):0≤r.v∧r.v≤r.p∧r.p≤1048576∧wholeE r.L r.v=true∧0≤r.c∧r.c≤r.L.length:=by
 simp only [okR,Bool.and_eq_true,decide_eq_true_eq] at h
 exact ⟨h.1.1.1.1.1,h.1.1.1.1.2,h.1.1.1.2,h.1.1.2,h.1.2,h.2⟩
theorem wholeE_len {L:List Ent} {v:Int} (h:wholeE L v=true):L.length≤64:=by
 simp only [wholeE,Bool.and_eq_true,decide_eq_true_eq] at h
 exact h.1.2
theorem okS.apply {x y:Sta} {r:Rec} (h:okS x) (h5:r.k≠5) (h4:r.k≠4) (hst:∀ y∈r.L,y.st=r.s) (e:applyS x r=some y):okS y∧x.F <+: y.F:=by
 unfold applyS at e
 rw [if_neg h5] at e
 split at e
 case isFalse=>cases e
 rename_i hs
 cases ha:applyR (x.at r.s) r with
 | none=>rw [ha] at e;cases e
 |
  some z =>
  rw [ha] at e
  cases e
  obtain ⟨h1,h2⟩:=applyR_ok ha
  have hc1:=okR_of h1
  have hc2:=okR_of h2
  have hl:r.s.toNat<x.R.length:=by rw [h.four];omega
  have ex:x.at r.s=x.R.getD r.s.toNat noReg:=List.getD_eq_getElem?_getD.symm
  have ht:=h.told
  simp only [toldF,Bool.and_eq_true,List.all_eq_true,List.mem_range,decide_eq_true_eq] at ht
  obtain ⟨ht1,ht2⟩:=ht
  have hcs:(x.at r.s).c=(cnt x.F r.s:Int):=by
   rw [ex,ht2 r.s.toNat (by omega)]
   congr 2
   omega
  have hkeep:r.k≠3→z.c=(x.at r.s).c:=fun h3=>by
   unfold applyR at ha
   rw [if_neg (by rw [h1];decide),if_neg h3,if_neg h4] at ha
   split at ha
   · rw [Option.ite_none_right_eq_some] at ha
     cases ha.2;rfl
   split at ha
   · rw [Option.ite_none_right_eq_some] at ha
     cases ha.2;rfl
   cases ha
  have hgrow:r.k=3→(x.at r.s).c≤z.c:=fun h3=>by
   unfold applyR at ha
   rw [if_neg (by rw [h1];decide),if_neg (by omega),if_neg (by omega),if_pos h3,Option.ite_none_right_eq_some] at ha
   obtain ⟨q,e⟩:=ha
   cases e
   exact Int.le_of_lt q.1
  have hlog:∀ y∈z.L,y∈(x.at r.s).L∨y∈r.L:=fun y hy=>by
   unfold applyR at ha
   rw [if_neg (by rw [h1];decide),if_neg h4] at ha
   split at ha
   · rw [Option.ite_none_right_eq_some] at ha
     cases ha.2;exact .inl hy
   split at ha
   · rw [Option.ite_none_right_eq_some] at ha
     obtain ⟨_,e⟩:=ha
     cases e
     unfold viewL at hy
     rcases List.mem_append.1 hy with hy | hy
     · split at hy
       · exact .inl hy
       cases hy
     exact .inr hy
   split at ha
   · rw [Option.ite_none_right_eq_some] at ha
     cases ha.2;exact .inl hy
   cases ha
  have hreg:∀ j:Nat,(x.R.set r.s.toNat z).getD j noReg=if j=r.s.toNat then z else x.R.getD j noReg:=fun j=>by
   rw [List.getD_eq_getElem?_getD,List.getElem?_set]
   by_cases q:r.s.toNat=j
   · rw [if_pos q,if_pos q.symm,if_pos hl];rfl
   rw [if_neg q,if_neg (Ne.symm q),List.getD_eq_getElem?_getD]
  refine ⟨⟨by rw [List.length_set];exact h.four,fun q hq=>?_,?_,fun i q hq y hy=>?_⟩,?_⟩
  · rcases List.mem_or_eq_of_mem_set hq with hq | rfl
    · exact h.regs q hq
    exact h2
  · simp only [toldF,Bool.and_eq_true,List.all_eq_true,List.mem_range,decide_eq_true_eq]
    by_cases h3:r.k=3
    · rw [if_pos h3,hcs]
      have:=hgrow h3
      refine ⟨by rw [ordF_append,ht1,List.nil_append,ordF_spots hs.1 hs.2];rfl,fun j hj=>?_⟩
      rw [cnt_append,cnt_spots,hreg]
      by_cases q:j=r.s.toNat
      · rw [if_pos q,if_pos (by omega),show (j:Int)=r.s by omega];omega
      rw [if_neg q,if_neg (by omega),ht2 j hj];rfl
    rw [if_neg h3]
    refine ⟨ht1,fun j hj=>?_⟩
    rw [hreg]
    by_cases q:j=r.s.toNat
    · rw [if_pos q,hkeep h3,hcs,show (j:Int)=r.s by omega]
    rw [if_neg q,ht2 j hj]
  · rw [List.getElem?_set] at hq
    by_cases c:r.s.toNat=i
    · rw [if_pos c,if_pos hl] at hq
      cases hq
      rcases hlog y hy with q | q
      · refine h.own i (x.at r.s) ?_ y q
        unfold Sta.at
        rw [c,List.getElem?_eq_getElem (by omega)]
        rfl
      rw [hst y q];omega
    rw [if_neg c] at hq
    exact h.own i q hq y hy
  split
  · exact List.prefix_append _ _
  exact List.prefix_refl _
/-! bytes -/
def zz (n:Int):Nat:=if n<0 then (-2*n-1).toNat else (2*n).toNat
def intsL (l:List Int):List UInt8:=l.flatMap fun n=>putL (zz n)
theorem intsL_cons (n:Int) (l:List Int):intsL (n::l)=putL (zz n)++intsL l:=rfl
theorem ints_ord (x:Ent):intsL x.ints=intsL [x.e]++intsL x.ord:=by simp [intsL,Ent.ints,Ent.ord]
theorem intsL_append (l m:List Int):intsL (l++m)=intsL l++intsL m:=List.flatMap_append
def entsL (l:List Ent):List UInt8:=l.flatMap fun x=>intsL x.ints
def sptsL (l:List Spt):List UInt8:=l.flatMap fun x=>intsL x.ints
def recL (x:Rec):List UInt8:=intsL x.ints++(intsL [(x.L.length:Int)]++(entsL x.L++(intsL [(x.F.length:Int)]++sptsL x.F)))
theorem zz_lt {n:Int} {k:Nat} (h1 : -(k:Int)≤n) (h2:n≤k):zz n≤2*k:=by unfold zz;split<;>omega
theorem get_zz {n:Int} (h1 : -4611686018427387904<n) (h2:n<4611686018427387904) (r:List UInt8):getL 0 0 (putL (zz n)++r)=some (zz n,(putL (zz n)).length):=by
 have h3:zz n<128 ^ 9:=by have:(128:Nat) ^ 9=9223372036854775808:=rfl;unfold zz;split<;>omega
 have:=get_put 9 (zz n) 0 0 r h3 (by omega) (.inr rfl)
 simpa using this
theorem putL_le:∀ (k f:Nat),f<128 ^ (k+1)→(putL f).length≤k+1
 | 0,f,h=>by rw [putL_small (by omega)];simp
 |
  k+1,f,h=>by
  rcases Nat.lt_or_ge f 128 with h1 | h1
  · rw [putL_small h1];simp
  rw [putL_great h1,List.length_cons]
  have:=putL_le k (f / 128) (Nat.div_lt_of_lt_mul (by rw [←pow128];exact h))
  omega
theorem put_five {n:Int} (h1 : -2147483648≤n) (h2:n≤2147483648):(putL (zz n)).length≤5 :=
 putL_le 4 _ (by have:=zz_lt (k:=2147483648) (by omega) (by omega) (n:=n);have h:(128:Nat) ^ (4+1)=34359738368:=rfl;omega)
theorem intsL_len:∀ {l:List Int},(∀ n∈l,-2147483648≤n∧n≤2147483648)→(intsL l).length≤5*l.length
 | [],_=>Nat.le_refl _
 |
  n::l,h=>by
  rw [intsL_cons,List.length_append,List.length_cons]
  have h1:=h n List.mem_cons_self
  have:=put_five h1.1 h1.2
  have:=intsL_len (l:=l) fun m hm=>h m (List.mem_cons_of_mem _ hm)
  omega
theorem flatB_len {α:Type} {f:α→List UInt8} {k:Nat}:∀ {l:List α},(∀ x∈l,(f x).length≤k)→(l.flatMap f).length≤k*l.length
 | [],_=>Nat.le_refl _
 |
  x::l,h=>by
  rw [List.flatMap_cons,List.length_append,List.length_cons,Nat.mul_succ]
  have h1:=h x List.mem_cons_self
  have:=flatB_len (l:=l) fun m hm=>h m (List.mem_cons_of_mem _ hm)
  omega
theorem logE_iff {L:List Ent} {s f:Int}:logE L s f=true↔0≤f∧f≤64∧(L.length:Int)≤64-f∧∀ x∈L,1≤x.e∧x.e≤1048576∧x.st=s∧okO x=true:=by
 simp only [logE,Bool.and_eq_true,decide_eq_true_eq,List.all_eq_true,and_assoc]
theorem feedE_iff {F:List Spt}:feedE F=true↔F.length≤256∧∀ y∈F,0≤y.s∧y.s<4∧0≤y.i∧y.i<64:=by
 simp only [feedE,Bool.and_eq_true,decide_eq_true_eq,List.all_eq_true,and_assoc]
structure Small (x:Rec):Prop where
 k:1≤x.k∧x.k≤5
 s:0≤x.s∧x.s<4
 e:0≤x.e∧x.e≤1048576
 v:0≤x.v∧x.v≤1048576
 f:0≤x.f∧x.f≤64
 n:0≤x.n∧x.n≤64
 len:x.L.length≤64
 ents:∀ y∈x.L,1≤y.e∧y.e≤1048576∧y.st=x.s∧okO y=true
 flen:x.F.length≤256
 feed:∀ y∈x.F,0≤y.s∧y.s<4∧0≤y.i∧y.i<64
 four:x.k≠5→x.F=[]
theorem small_of_may {x:Rec} (h:mayR x=true):Small x:=by
 unfold mayR at h
 rw [Bool.and_eq_true] at h
 obtain ⟨h0,h⟩:=h
 simp only [Bool.and_eq_true,Bool.or_eq_true,decide_eq_true_eq,List.length_eq_zero_iff] at h0
 obtain ⟨⟨a1,a2⟩,a3⟩:=h0
 have nn:∀ {P:Spt→Prop},x.F=[]→∀ y∈x.F,P y:=fun e y hy=>by rw [e] at hy;cases hy
 have ne:∀ {P:Ent→Prop},x.L=[]→∀ y∈x.L,P y:=fun e y hy=>by rw [e] at hy;cases hy
 have l0:∀ {α:Type} {l:List α} {k:Nat},l=[]→l.length≤k:=fun e=>by rw [e];exact Nat.zero_le _
 by_cases h1:x.k=1
 · rw [if_pos h1] at h
   simp only [Bool.and_eq_true,decide_eq_true_eq,List.length_eq_zero_iff] at h
   obtain ⟨⟨⟨⟨⟨b1,b2⟩,b3⟩,b4⟩,b5⟩,b6⟩:=h
   have hF:=a3.resolve_left (by omega)
   exact ⟨by omega,⟨a1,a2⟩,by omega,by omega,by omega,by omega,l0 b3,ne b3,l0 hF,nn hF,fun _=>hF⟩
 rw [if_neg h1] at h
 by_cases h2:x.k=2
 · rw [if_pos h2] at h
   simp only [Bool.and_eq_true,decide_eq_true_eq,logE_iff] at h
   obtain ⟨⟨⟨⟨b1,b2⟩,b3,b4,b5,b6⟩,b7⟩,b8⟩:=h
   have hF:=a3.resolve_left (by omega)
   exact ⟨by omega,⟨a1,a2⟩,by omega,by omega,by omega,by omega,by omega,b6,l0 hF,nn hF,fun _=>hF⟩
 rw [if_neg h2] at h
 by_cases h3:x.k=3
 · rw [if_pos h3] at h
   simp only [Bool.and_eq_true,decide_eq_true_eq,List.length_eq_zero_iff] at h
   obtain ⟨⟨⟨⟨⟨b1,b2⟩,b3⟩,b4⟩,b5⟩,b6⟩:=h
   have hF:=a3.resolve_left (by omega)
   exact ⟨by omega,⟨a1,a2⟩,by omega,by omega,by omega,by omega,l0 b3,ne b3,l0 hF,nn hF,fun _=>hF⟩
 rw [if_neg h3] at h
 by_cases h4:x.k=4
 · rw [if_pos h4] at h
   simp only [Bool.and_eq_true,decide_eq_true_eq,logE_iff] at h
   obtain ⟨⟨⟨⟨⟨⟨⟨b1,b2⟩,b3⟩,b4⟩,b5,b6,b7,b8⟩,b9⟩,c1⟩,c2⟩:=h
   have hF:=a3.resolve_left (by omega)
   exact ⟨by omega,⟨a1,a2⟩,by omega,by omega,by omega,by omega,by omega,b8,l0 hF,nn hF,fun _=>hF⟩
 rw [if_neg h4] at h
 by_cases h5:x.k=5
 · rw [if_pos h5] at h
   simp only [Bool.and_eq_true,decide_eq_true_eq,List.length_eq_zero_iff,feedE_iff] at h
   obtain ⟨⟨⟨⟨⟨⟨b1,b2⟩,b3,b4⟩,b5⟩,b6⟩,b7⟩,b8⟩:=h
   exact ⟨by omega,⟨a1,a2⟩,by omega,by omega,by omega,by omega,l0 b2,ne b2,b3,b4,fun q=>absurd h5 q⟩
 rw [if_neg h5] at h
 cases h
def i5 (n:Int):Prop := -2147483648≤n∧n≤2147483648
theorem ent_i5 {y:Ent} (h:1≤y.e∧y.e≤1048576) (ho:okO y=true):∀ n∈y.ints,i5 n:=by
 have:=okO_iff.1 ho
 unfold i5
 simp only [Ent.ints,List.mem_cons,List.not_mem_nil,or_false]
 rintro n (rfl | rfl | rfl | rfl | rfl | rfl)<;>omega
theorem spt_i5 {y:Spt} (h:0≤y.s∧y.s<4∧0≤y.i∧y.i<64):∀ n∈y.ints,i5 n:=by
 unfold i5
 simp only [Spt.ints,List.mem_cons,List.not_mem_nil,or_false]
 rintro n (rfl | rfl)<;>omega
theorem Small.ints {x:Rec} (h:Small x):∀ n∈x.ints,i5 n:=by
 obtain ⟨h1,h2,h3,h4,h5,h6,_⟩:=h
 unfold i5
 simp only [Rec.ints,List.mem_cons,List.not_mem_nil,or_false]
 rintro n (rfl | rfl | rfl | rfl | rfl | rfl)<;>omega
theorem ents_len {L:List Ent} (h:∀ y∈L,1≤y.e∧y.e≤1048576∧okO y=true):(entsL L).length≤30*L.length :=
 flatB_len fun y hy=>intsL_len fun n hn=>ent_i5 ⟨(h y hy).1,(h y hy).2.1⟩ (h y hy).2.2 n hn
theorem spts_len {F:List Spt} (h:∀ y∈F,0≤y.s∧y.s<4∧0≤y.i∧y.i<64):(sptsL F).length≤10*F.length :=
 flatB_len fun y hy=>intsL_len fun n hn=>spt_i5 (h y hy) n hn
theorem Small.len_le {x:Rec} (h:Small x):(recL x).length≤40+30*x.L.length+10*x.F.length:=by
 have h1:=intsL_len h.ints
 have h2:=ents_len fun y hy=>⟨(h.ents y hy).1,(h.ents y hy).2.1,(h.ents y hy).2.2.2⟩
 have h3:=spts_len h.feed
 have hl:=h.len
 have hf:=h.flen
 have h4:=intsL_len (l:=[(x.L.length:Int)]) fun n hn=>by rw [List.mem_singleton.1 hn];omega
 have h5:=intsL_len (l:=[(x.F.length:Int)]) fun n hn=>by rw [List.mem_singleton.1 hn];omega
 simp only [recL,List.length_append]
 simp only [Rec.ints,List.length_cons,List.length_nil] at h1 h4 h5
 simp only [Rec.ints]
 omega
theorem Small.bytes {x:Rec} (h:Small x):(recL x).length≤8192:=by
 have:=h.len_le
 have:=h.len
 have:=h.flen
 omega
end Go.Sy
namespace Go.Proofs.YtnhoidnmlibcpaaGreatDoor
open Go.Sy Go.RowKit
theorem zig_zz (n:Int):zigM (zz n)=n:=by
 unfold zigM zz
 split<;>split<;>omega
theorem wrap_u64 (e:Int):IntKind.u64.wrap e=e % 18446744073709551616:=by simp [IntKind.wrap,IntKind.bits,IntKind.signed]
theorem mputZ (z:Int) (h:i5 z):Triple Tryz.prog 187 [.int .i64 z] [] [] Unit (fun _=>.string ⟨(putL (zz z)).toArray⟩) (fun _=>True) (fun _=>[]):=by
 unfold i5 at h
 rcases Int.lt_or_le z 0 with h0 | h0
 · obtain ⟨m,rfl,hm⟩:∃ m:Nat,z = -(m:Int)∧0<m:=⟨z.natAbs,by omega,by omega⟩
   have e:zz (-(m:Int))=2*m-1:=by unfold zz;rw [if_pos h0];omega
   rw [e]
   refine mputG _ ((18446744073709551616-m:Nat):Int) ((18446744073709551616-2*m:Nat):Int) (-1) 18446744073709551615 (2*m-1) (by omega) (by rw [wrap_u64];omega) ?_ ?_ rfl ?_
   · have:=shl_un (k:=.u64) (a:=18446744073709551616-m) (b:=1) rfl (by decide)
     rw [show ((1:Nat):Int)=1 from rfl] at this
     rw [this]
     congr 1
     show (18446744073709551616-m)*2 ^ 1 % 18446744073709551616=_
     omega
   · unfold shrOf
     rw [show min (63:Int).toNat IntKind.i64.bits=63 from rfl,Int.fdiv_eq_ediv_of_nonneg _ (by decide),show (2:Int) ^ 63=9223372036854775808 from rfl]
     omega
   have:=xor_un (k:=.u64) (a:=18446744073709551616-2*m) (b:=18446744073709551615) rfl (by show _<18446744073709551616;omega) (by decide)
   rw [show ((18446744073709551615:Nat):Int)=18446744073709551615 from rfl] at this
   rw [this,Nat.xor_comm]
   congr 1
   have:=xor_ones (w:=64) (a:=18446744073709551616-2*m) (by show _<18446744073709551616;omega)
   rw [show (2:Nat) ^ 64-1=18446744073709551615 from rfl] at this
   rw [this]
   omega
 obtain ⟨m,rfl⟩:=Int.eq_ofNat_of_zero_le h0
 have e:zz (m:Int)=2*m:=by unfold zz;rw [if_neg (by omega)];omega
 rw [e]
 exact mputT m (by omega)
theorem intsL_take {L:List Int} {i:Nat} (h:i<L.length):intsL (L.take (i+1))=intsL (L.take i)++putL (zz L[i]):=by
 rw [←List.take_append_getElem h,intsL_append]
 simp [intsL]
theorem i5_take {L:List Int} (h:∀ z∈L,i5 z) (i:Nat):(intsL (L.take i)).length≤5*i:=by
 refine Nat.le_trans (intsL_len fun z hz=>h z (List.mem_of_mem_take hz)) ?_
 rw [List.length_take]
 omega
theorem intsT (A C:Option Addr) (B:List UInt8) (L:List Int) (n c m d:Nat) (hn:n=B.length) (hm:m=L.length) (h1:n≤100000) (h2:m≤1000) (hL:∀ z∈L,i5 z) :
 Triple Tryz.prog 137 [.slice A n c,.slice C m d] [Row 5 1 A n c (B.flatMap encC)] [Rd 1 C m (L.flatMap encN)] (Option Addr × Nat) (fun (A',c')=>.slice A' (n+(intsL L).length) c') (fun _=>True) (fun (A',c')=>[Row 5 1 A' (n+(intsL L).length) c' ((B++intsL L).flatMap encC)]):=by
 refine aT Tryz.func137 [vL A n c,vL C m d] [.fact (Row 5 1 A n c (B.flatMap encC))] (fun E=>?_) ⟨trivial,trivial,trivial⟩
 refine aG ?_
 refine ev_stop (go_loopR [0,6,9,10,11,12,13,14,15,16,17] (fun (i,D,q,e,_)=>[(0,vL D q e),(9,vI (i:Nat))]) (fun (_,D,q,e,M)=>[(0,.fact (Row 5 1 D q e (M.flatMap encC)))]) (fun (i,_,q,_,M)=>i≤m∧q=M.length∧M=B++intsL (L.take i)) (fun (i,_)=>m-i) ((0,A,n,c,B):Nat × Option Addr × Nat × Nat × List UInt8) ⟨Nat.zero_le _,hn,by simp [intsL]⟩ aS (fun x_ h_=>?_))
 obtain ⟨i,D,q,e,M⟩:=x_
 obtain ⟨hi,hq,hM⟩:=h_
 have hlen:=i5_take hL i
 have hql:q=n+(intsL (L.take i)).length:=by rw [hq,hM,List.length_append,hn]
 rcases Nat.lt_or_ge i m with him | him
 · have hil:i<L.length:=by omega
   have T1:=mputZ L[i] (hL _ (List.getElem_mem hil))
   obtain ⟨y,hy⟩:∃ y:ByteArray,y=⟨(putL (zz L[i])).toArray⟩:=⟨_,rfl⟩
   have hyl:y.data.toList=putL (zz L[i]):=by rw [hy]
   have hys:y.size≤5:=by
    rw [←size_data,hyl]
    exact put_five (hL _ (List.getElem_mem hil)).1 (hL _ (List.getElem_mem hil)).2
   rw [←hy] at T1
   refine aG ?_
   refine aJ ?_ (decide_eq_true (show (↑i:Int)<(↑m:Int) from (by omega)))
   refine ev_stop (go_indexE (sz:=1) Tryz.tbs_ok (.inl 0) (i) rfl rfl rfl rfl rfl rfl (by omega) rfl (fun _ h=>h) (fun g10 o12 e11=>?_))
   subst e11
   refine aG ?_
   have l13:i<(L).length:=(by omega)
   refine ev_stop (go_loadE Tryz.tbs_ok (.inl 0) (i) 0 rfl rfl rfl rfl (fun _ h=>h) (by omega) (fun _=>rfl) (by omega) l13 (by decide) ?_)
   refine aG ?_
   refine aC T1 [] [] fun _ h14=>?_
   refine ev_stop (go_appendS Tryz.tbs_ok (bs:=M) 0 rfl rfl rfl rfl rfl rfl rfl (by kernel_rfl) rfl (by omega) (fun A15 c16 h17=>?_))
   refine aG ?_
   refine wN (i+1) ?_
   refine ev_fin (round_next ((i+1,A15,q+y.size,c16,M++y.data.toList)) (?_:i+1≤m∧q+y.size=(M++y.data.toList).length∧M++y.data.toList=B++intsL (List.take (i+1) L)) (show m-(i+1)<m-i from (by omega)) aS)
   exact ⟨by omega,by rw [hq,List.length_append,size_data],by rw [hM,hyl,intsL_take hil,List.append_assoc]⟩
 have hir:i=m:=by omega
 have hT:L.take i=L:=List.take_of_length_le (by omega)
 rw [hT] at hM hql
 rw [←hql,←hM]
 refine aG ?_
 refine aI ?_ (decide_eq_false (show ¬(↑i:Int)<(↑m:Int) from (by omega)))
 refine ev_fin (go Tryz.tbs_ok 1000 ?_)
 exact ev_fin ⟨trivial,_,rfl,((D,e)),rfl,by trivial,aF [0]⟩
theorem rd_pt {b t:Nat} {cs:List Value} {h:Hp} (p:(Pt b t cs).holds h):(Rd 1 (some ⟨b,0,none⟩) cs.length cs).holds h :=
 ⟨by simp,p.2,fun _=>⟨b,0,_,_,_,rfl,p.1,by simp⟩⟩
abbrev ByA (A:Option Addr) (c:Nat) (B:List UInt8):Asn:=Row 5 1 A B.length c (B.flatMap encC)
abbrev Sl:=Option Addr × Nat
theorem intsP (A:Option Addr) (B:List UInt8) (L:List Int) (c b t m:Nat) (hm:m=L.length) (h1:B.length≤100000) (h2:m≤1000) (hL:∀ z∈L,i5 z) :
 Triple Tryz.prog 137 [.slice A B.length c,.slice (some ⟨b,0,none⟩) m m] [ByA A c B] [Pt b t (L.flatMap encN)] Sl (fun (A',c')=>.slice A' (B++intsL L).length c') (fun _=>True) (fun (A',c')=>[ByA A' c' (B++intsL L)]):=by
 have T:=(intsT A (some ⟨b,0,none⟩) B L B.length c m m rfl hm h1 h2 hL).reads (N':=[Pt b t (L.flatMap encN)]) (fun X hX=>⟨_,List.mem_cons_self,fun h q=>by
  rw [List.mem_singleton.1 hX]
  have:=rd_pt q
  rw [show (L.flatMap encN).length=m by rw [flat_len (sz:=1) (fun _=>rfl),Nat.mul_one,hm]] at this
  exact this⟩)
 rw [←List.length_append] at T
 exact T
theorem orderT (A:Option Addr) (B:List UInt8) (c:Nat) (x:Ent) (h1:B.length≤100000) (hx:∀ z∈x.ord,i5 z) :
 Triple Tryz.prog 188 [.slice A B.length c,.agg (encO x).toArray] [ByA A c B] [] Sl (fun (A',c')=>.slice A' (B++intsL x.ord).length c') (fun _=>True) (fun (A',c')=>[ByA A' c' (B++intsL x.ord)]):=by
 have T1:=fun b=>intsP A B x.ord c b 3 5 rfl h1 (by decide) hx
 obtain ⟨e,id,st,ex,k,a⟩:=x
 refine aT Tryz.func188 [vL A B.length c,.ag [vI id,vI st,vI ex,vI k,vI a]] [.fact (ByA A c B)] (fun E=>?_) ⟨trivial,⟨trivial,trivial,trivial,trivial,trivial,trivial⟩,trivial⟩
 refine aG ?_
 refine ev_new fun b0=>?_
 refine ev_new fun b1=>?_
 refine aC (T1 (b1)) [0] [.inr 2] fun ⟨x2,x3⟩ h4=>?_
 exact ev_fin ⟨trivial,_,rfl,((x2,x3)),rfl,by trivial,aF [0]⟩
theorem entryT (A:Option Addr) (B:List UInt8) (c:Nat) (x:Ent) (h1:B.length≤90000) (hx:∀ z∈x.ints,i5 z) :
 Triple Tryz.prog 139 [.slice A B.length c,.agg (encE x).toArray] [ByA A c B] [] Sl (fun (A',c')=>.slice A' (B++intsL x.ints).length c') (fun _=>True) (fun (A',c')=>[ByA A' c' (B++intsL x.ints)]):=by
 have he:i5 x.e:=hx _ List.mem_cons_self
 have ho:∀ z∈x.ord,i5 z:=fun z hz=>hx z (List.mem_cons_of_mem _ hz)
 have T1:=fun b=>intsP A B [x.e] c b 3 1 rfl (by omega) (by decide) (fun z hz=>by rw [List.mem_singleton.1 hz];exact he)
 have hl:=put_five he.1 he.2
 have T2:=fun A' c'=>orderT A' (B++intsL [x.e]) c' x (by simp only [List.length_append,intsL,List.flatMap_cons,List.flatMap_nil,List.append_nil];omega) ho
 rw [ints_ord,←List.append_assoc]
 obtain ⟨e,id,st,ex,k,a⟩:=x
 refine aT Tryz.func139 [vL A B.length c,.ag [vI e,vI id,vI st,vI ex,vI k,vI a]] [.fact (ByA A c B)] (fun E=>?_) ⟨trivial,⟨trivial,trivial,trivial,trivial,trivial,trivial,trivial⟩,trivial⟩
 refine aG ?_
 refine ev_new fun b0=>?_
 refine ev_stop (go_draw Tryz.tbs_ok false [1] [(0,true),(1,true),(2,true),(5,true),(6,true),(3,false),(4,false),(7,false),(8,false)] rfl ?_)
 refine aG (aE ?_)
 refine ev_new fun b1=>?_
 refine aE ?_
 refine aC (T1 (b1)) [0] [.inr 2] fun ⟨x2,x3⟩ h4=>?_
 refine aE ?_
 refine aC (T2 (x2) (x3)) [0] [] fun ⟨x5,x6⟩ h7=>?_
 refine aE (aK ?_)
 exact ev_fin ⟨trivial,_,rfl,((x5,x6)),rfl,by trivial,aF [0]⟩
theorem entsL_take {L:List Ent} {i:Nat} (h:i<L.length):entsL (L.take (i+1))=entsL (L.take i)++intsL L[i].ints:=by
 unfold entsL
 rw [←List.take_append_getElem h,List.flatMap_append,List.flatMap_cons,List.flatMap_nil,List.append_nil]
theorem sptsL_take {L:List Spt} {i:Nat} (h:i<L.length):sptsL (L.take (i+1))=sptsL (L.take i)++intsL L[i].ints:=by
 unfold sptsL
 rw [←List.take_append_getElem h,List.flatMap_append,List.flatMap_cons,List.flatMap_nil,List.append_nil]
theorem i5_len {n:Nat} (h:n≤100000):i5 (n:Int):=⟨by omega,by omega⟩
theorem one_len {z:Int} (h:i5 z):(intsL [z]).length≤5:=intsL_len (l:=[z]) fun n hn=>by rw [List.mem_singleton.1 hn];exact h
theorem listE (A C:Option Addr) (B:List UInt8) (L:List Ent) (c m d:Nat) (hm:m=L.length) (h1:B.length≤10000) (h2:m≤1000) (hL:∀ x∈L,∀ z∈x.ints,i5 z) :
 Triple Tryz.prog 138 [.slice A B.length c,.slice C m d,.func (.func 139) #[] #[]] [ByA A c B] [Rd 6 C m (L.flatMap encE)] Sl (fun (A',c')=>.slice A' (B++(intsL [(m:Int)]++entsL L)).length c') (fun _=>True) (fun (A',c')=>[ByA A' c' (B++(intsL [(m:Int)]++entsL L))]):=by
 have hl1:=one_len (i5_len (n:=m) (by omega))
 have T1:=fun b=>intsP A B [(m:Int)] c b 3 1 rfl (by omega) (by decide) (fun z hz=>by rw [List.mem_singleton.1 hz];exact i5_len (by omega))
 obtain ⟨B1,hB1⟩:∃ B1,B1=B++intsL [(m:Int)]:=⟨_,rfl⟩
 have hb1:B1.length≤10005:=by rw [hB1,List.length_append];omega
 rw [←List.append_assoc,←hB1]
 rw [←hB1] at T1
 refine aT Tryz.func138 [vL A B.length c,vL C m d,.va (.func (.func 139) #[] #[])] [.fact (ByA A c B)] (fun E=>?_) ⟨trivial,trivial,trivial,trivial⟩
 refine aG ?_
 refine ev_new fun b0=>?_
 refine aC (T1 (b0)) [0] [.inr 1] fun ⟨x1,x2⟩ h3=>?_
 refine ev_stop (go_loopR [0,8,16,17,18,19,20,21,22,23,24] (fun (i,D,e,M)=>[(0,vL D M.length e),(16,vI (i:Nat))]) (fun (_,D,e,M)=>[(0,.fact (ByA D e M))]) (fun (i,_,_,M)=>i≤m∧M=B1++entsL (L.take i)) (fun (i,_)=>m-i) ((0,x1,x2,B1):Nat × Option Addr × Nat × List UInt8) ⟨Nat.zero_le _,by simp [entsL]⟩ aS (fun x_ h_=>?_))
 obtain ⟨i,D,e,M⟩:=x_
 obtain ⟨hi,hM⟩:=h_
 rcases Nat.lt_or_ge i m with him | him
 · have hil:i<L.length:=by omega
   have hml:M.length≤90000:=by
    have:(entsL (L.take i)).length≤30*(L.take i).length:=flatB_len fun y hy=>intsL_len fun n hn=>hL y (List.mem_of_mem_take hy) n hn
    rw [List.length_take] at this
    rw [hM,List.length_append]
    omega
   have T2:=fun A' c'=>entryT A' M c' L[i] hml (hL _ (List.getElem_mem hil))
   refine aG ?_
   refine aJ ?_ (decide_eq_true (show (↑i:Int)<(↑m:Int) from (by omega)))
   refine ev_stop (go_indexE (sz:=6) Tryz.tbs_ok (.inl 0) (i) rfl rfl rfl rfl rfl rfl (by omega) rfl (fun _ h=>h) (fun g10 o12 e11=>?_))
   subst e11
   refine aG ?_
   have l13:i<(L).length:=(by omega)
   refine ev_stop (go_loadE Tryz.tbs_ok (.inl 0) (i) 0 rfl rfl rfl rfl (fun _ h=>h) (by omega) (fun _=>rfl) (by omega) l13 (by decide) ?_)
   refine aG ?_
   refine ev_new fun b14=>?_
   refine aC (T2 (D) (e)) [0] [] fun ⟨x15,x16⟩ h17=>?_
   refine wN (i+1) ?_
   refine ev_fin (round_next ((i+1,x15,x16,M++intsL L[i].ints)) (?_:i+1≤m∧M++intsL L[i].ints=B1++entsL (List.take (i+1) L)) (show m-(i+1)<m-i from (by omega)) aS)
   exact ⟨by omega,by rw [hM,entsL_take hil,List.append_assoc]⟩
 have hir:i=m:=by omega
 have hT:L.take i=L:=List.take_of_length_le (by omega)
 rw [hT] at hM
 rw [←hM]
 refine aG ?_
 refine aI ?_ (decide_eq_false (show ¬(↑i:Int)<(↑m:Int) from (by omega)))
 refine ev_fin (go Tryz.tbs_ok 1000 ?_)
 exact ev_fin ⟨trivial,_,rfl,((D,e)),rfl,by trivial,aF [0]⟩
theorem spotT (A:Option Addr) (B:List UInt8) (c:Nat) (x:Spt) (h1:B.length≤100000) (hx:∀ z∈x.ints,i5 z) :
 Triple Tryz.prog 141 [.slice A B.length c,.agg (encP x).toArray] [ByA A c B] [] Sl (fun (A',c')=>.slice A' (B++intsL x.ints).length c') (fun _=>True) (fun (A',c')=>[ByA A' c' (B++intsL x.ints)]):=by
 have T1:=fun b=>intsP A B x.ints c b 3 2 rfl h1 (by decide) hx
 obtain ⟨s,i⟩:=x
 refine aT Tryz.func141 [vL A B.length c,.ag [vI s,vI i]] [.fact (ByA A c B)] (fun E=>?_) ⟨trivial,⟨trivial,trivial,trivial⟩,trivial⟩
 refine aG ?_
 refine ev_new fun b0=>?_
 refine ev_new fun b1=>?_
 refine aC (T1 (b1)) [0] [.inr 2] fun ⟨x2,x3⟩ h4=>?_
 exact ev_fin ⟨trivial,_,rfl,((x2,x3)),rfl,by trivial,aF [0]⟩
theorem listP (A C:Option Addr) (B:List UInt8) (L:List Spt) (c m d:Nat) (hm:m=L.length) (h1:B.length≤10000) (h2:m≤1000) (hL:∀ x∈L,∀ z∈x.ints,i5 z) :
 Triple Tryz.prog 140 [.slice A B.length c,.slice C m d,.func (.func 141) #[] #[]] [ByA A c B] [Rd 2 C m (L.flatMap encP)] Sl (fun (A',c')=>.slice A' (B++(intsL [(m:Int)]++sptsL L)).length c') (fun _=>True) (fun (A',c')=>[ByA A' c' (B++(intsL [(m:Int)]++sptsL L))]):=by
 have hl1:=one_len (i5_len (n:=m) (by omega))
 have T1:=fun b=>intsP A B [(m:Int)] c b 3 1 rfl (by omega) (by decide) (fun z hz=>by rw [List.mem_singleton.1 hz];exact i5_len (by omega))
 obtain ⟨B1,hB1⟩:∃ B1,B1=B++intsL [(m:Int)]:=⟨_,rfl⟩
 have hb1:B1.length≤10005:=by rw [hB1,List.length_append];omega
 rw [←List.append_assoc,←hB1]
 rw [←hB1] at T1
 refine aT Tryz.func140 [vL A B.length c,vL C m d,.va (.func (.func 141) #[] #[])] [.fact (ByA A c B)] (fun E=>?_) ⟨trivial,trivial,trivial,trivial⟩
 refine aG ?_
 refine ev_new fun b0=>?_
 refine aC (T1 (b0)) [0] [.inr 1] fun ⟨x1,x2⟩ h3=>?_
 refine ev_stop (go_loopR [0,8,16,17,18,19,20,21,22,23,24] (fun (i,D,e,M)=>[(0,vL D M.length e),(16,vI (i:Nat))]) (fun (_,D,e,M)=>[(0,.fact (ByA D e M))]) (fun (i,_,_,M)=>i≤m∧M=B1++sptsL (L.take i)) (fun (i,_)=>m-i) ((0,x1,x2,B1):Nat × Option Addr × Nat × List UInt8) ⟨Nat.zero_le _,by simp [sptsL]⟩ aS (fun x_ h_=>?_))
 obtain ⟨i,D,e,M⟩:=x_
 obtain ⟨hi,hM⟩:=h_
 rcases Nat.lt_or_ge i m with him | him
 · have hil:i<L.length:=by omega
   have hml:M.length≤90000:=by
    have:(sptsL (L.take i)).length≤10*(L.take i).length:=flatB_len fun y hy=>intsL_len fun n hn=>hL y (List.mem_of_mem_take hy) n hn
    rw [List.length_take] at this
    rw [hM,List.length_append]
    omega
   have T2:=fun A' c'=>spotT A' M c' L[i] (by omega) (hL _ (List.getElem_mem hil))
   refine aG ?_
   refine aJ ?_ (decide_eq_true (show (↑i:Int)<(↑m:Int) from (by omega)))
   refine ev_stop (go_indexE (sz:=2) Tryz.tbs_ok (.inl 0) (i) rfl rfl rfl rfl rfl rfl (by omega) rfl (fun _ h=>h) (fun g10 o12 e11=>?_))
   subst e11
   refine aG ?_
   have l13:i<(L).length:=(by omega)
   refine ev_stop (go_loadE Tryz.tbs_ok (.inl 0) (i) 0 rfl rfl rfl rfl (fun _ h=>h) (by omega) (fun _=>rfl) (by omega) l13 (by decide) ?_)
   refine aG ?_
   refine ev_new fun b14=>?_
   refine aC (T2 (D) (e)) [0] [] fun ⟨x15,x16⟩ h17=>?_
   refine wN (i+1) ?_
   refine ev_fin (round_next ((i+1,x15,x16,M++intsL L[i].ints)) (?_:i+1≤m∧M++intsL L[i].ints=B1++sptsL (List.take (i+1) L)) (show m-(i+1)<m-i from (by omega)) aS)
   exact ⟨by omega,by rw [hM,sptsL_take hil,List.append_assoc]⟩
 have hir:i=m:=by omega
 have hT:L.take i=L:=List.take_of_length_le (by omega)
 rw [hT] at hM
 rw [←hM]
 refine aG ?_
 refine aI ?_ (decide_eq_false (show ¬(↑i:Int)<(↑m:Int) from (by omega)))
 refine ev_fin (go Tryz.tbs_ok 1000 ?_)
 exact ev_fin ⟨trivial,_,rfl,((D,e)),rfl,by trivial,aF [0]⟩
end Go.Proofs.YtnhoidnmlibcpaaGreatDoor
namespace Go.Sy
open Go.RowKit
section
variable {P:Program} {T:Tbs} {E:Entry} {Q:Exit→St→Prop} {ops:Array Oper} {l:List Oper} {r:List It} {st:St}
theorem go_indexSl (hT:TbsOk P T) {dst:Option Tmp} {t:TypeId} {x i:Operand} {ty:TypeId} {pos:String} {after:Array Edge} {gd:Option (Nat × Bool)} {rr b off n c et sz:Nat} {k:IntKind} {q:Nat} (j:Nat)
 (hg:guardS ops st.fr ⟨dst,.indexAddr t x i,ty,pos,after,gd⟩ = .run)
 (hx:ev st.fr x = .sl rr b off n c) (hi:(ev st.fr i).den = .int k (j:Int)) (hino:(ev st.fr i).isNo=false) (ht:(te T.tab t).map (·.k)=some (.slice et)) (he:(te T.tab et).map (·.size)=some sz) (hj:j<n)
 (hblk:blkAt st.res rr=some b) (hc:off+j*sz=q)
 (h:Go P E (.o ops l::r) (st.put dst (.pt rr b q)) Q):Go P E (.o ops (⟨dst,.indexAddr t x i,ty,pos,after,gd⟩::l)::r) st Q:=by
 subst hc
 refine go_val (o:=⟨dst,.indexAddr t x i,ty,pos,after,gd⟩) hg (.pt rr b (off+j*sz)) hblk (fun a w hR=>?_) h
 have hq:(0:Int)≤(j:Int)∧(j:Int)<(n:Int):=⟨by omega,by omega⟩
 simp [execOp,ev_denv hR.fr rfl (show (ev st.fr x).isNo=false by rw [hx];rfl),hx,ev_denv hR.fr rfl hino,hi,SV.den,Instr.indexAt,asIntOf,run_underlying (und_slice hT ht),Instr.sureAddr,size_te hT he,hq,addr_add]
 intro hh;omega
theorem tk_indexArr (hT:TbsOk P T) {full:Bool} {held:List (Nat × Res)} {ro0:List Asn} {m:Nat} {p:List (Nat × Bool)} {listed:List Bool} {dst:Option Tmp} {t:TypeId} {x i:Operand} {ty:TypeId} {pos:String} {after:Array Edge} {gd:Option (Nat × Bool)} {rr b off n et sz:Nat} {k:IntKind} {c:Nat} (j:Nat)
 (hchk:(heldOk held st.res∧ro0=st.ro)∧planOk ops full ((m,true)::p) listed=true) (ho:ops.toList[m]? = some ⟨dst,.indexAddr t x i,ty,pos,after,gd⟩)
 (hg:guardS ops st.fr ⟨dst,.indexAddr t x i,ty,pos,after,gd⟩ = .run)
 (hx:ev st.fr x = .pt rr b off) (hi:(ev st.fr i).den = .int k (j:Int)) (hino:(ev st.fr i).isNo=false) (ht:(te T.tab t).map (·.k)=some (.arr n et)) (he:(te T.tab et).map (·.size)=some sz) (hj:j<n)
 (hblk:blkAt st.res rr=some b) (hc:off+j*sz=c)
 (h:Go P E (.d ops full held ro0 p (listed.set m true)::r) (st.put dst (.pt rr b c)) Q):Go P E (.d ops full held ro0 ((m,true)::p) listed::r) st Q:=by
 subst hc
 exact tk_val (o:=⟨dst,.indexAddr t x i,ty,pos,after,gd⟩) hchk ho hg (.pt rr b (off+j*sz)) hblk (fun _a w hF _=>indexArr_run hT j hF hx hi hino ht he hj w) h
theorem go_indexAg (hT:TbsOk P T) {dst:Option Tmp} {t:TypeId} {x i:Operand} {ty:TypeId} {pos:String} {after:Array Edge} {gd:Option (Nat × Bool)} {l':List SV} {n et:Nat} {k:IntKind} {e:TE} {y:SV} (j:Nat)
 (hg:guardS ops st.fr ⟨dst,.index t x i,ty,pos,after,gd⟩ = .run)
 (hx:aggS (ev st.fr x)=some l') (hi:(ev st.fr i).den = .int k (j:Int)) (hino:(ev st.fr i).isNo=false) (ht:(te T.tab t).map (·.k)=some (.arr n et)) (he:te T.tab et=some e) (hj:j<n) (hy:partS e l' (j*e.size)=some y)
 (h:Go P E (.o ops l::r) (st.put dst y) Q):Go P E (.o ops (⟨dst,.index t x i,ty,pos,after,gd⟩::l)::r) st Q:=by
 refine Go.step fun a w hR=>⟨by have:=guard_spec hR.fr (ops:=ops) ⟨dst,.index t x i,ty,pos,after,gd⟩;rw [hg] at this;exact this,?_⟩
 have hgood:=partS_good hy (aggS_good hx (ev_good hR.fr x))
 have hq:(0:Int)≤(j:Int)∧(j:Int)<(n:Int):=⟨by omega,by omega⟩
 have hsz:=size_te hT (t:=et) (sz:=e.size) (by rw [he];rfl) w
 refine wp_value (v:=y.den) (w':=w) ?_ (h _ _ (hR.put dst (SV.is_den _) hgood))
 have e1:=ev_den hR.fr (x:=x) rfl (aggS_no hx)
 simp [execOp,e1,aggS_den hx,ev_denv hR.fr rfl hino,hi,Instr.index,asIntOf,run_underlying (und_arr hT ht),hsz,hq,partS_ok hT.tab he hy w]
 intro hh;omega
end
end Go.Sy
namespace Go.Proofs.YtnhoidnmlibcpaaGreatDoor
open Go.Sy Go.RowKit
theorem checkO (x:Ent):Triple Tryz.prog 35 [.agg (encO x).toArray] [] [] Unit (fun _=>.int .i64 (if okO x then 0 else 2)) (fun _=>True) (fun _=>[]):=by
 obtain ⟨R,hR⟩:∃ R:Int,R=if okO x then 0 else 2:=⟨_,rfl⟩
 rw [←hR]
 obtain ⟨e,id,st,ex,k,a⟩:=x
 simp only [okO_iff] at hR
 refine aT Tryz.func35 [.ag [vI id,vI st,vI ex,vI k,vI a]] [] (fun E=>?_) ⟨⟨trivial,trivial,trivial,trivial,trivial,trivial⟩,trivial⟩
 refine aG ?_
 refine ev_new fun b0=>?_
 refine ev_inline Tryz.tbs_ok Tryz.func73 rfl rfl ?_
 refine aG ?_
 refine ev_stop (go_draw Tryz.tbs_ok false [] [(0,true),(1,true),(2,true),(3,true),(4,true),(5,true),(6,true),(7,true),(8,true),(9,true),(10,true),(11,true),(12,true),(13,true),(14,true),(15,true),(16,true),(17,true),(18,true),(19,true),(20,false),(21,false)] rfl ?_)
 refine aG (aE ?_)
 refine ev_new fun b1=>?_
 refine aE (aK ?_)
 refine ev_fin ⟨trivial,aL,_,rfl,?_⟩
 refine aG ?_
 refine ev_stop (go_rounds 6 ?_)
 refine aG (aJ ?_)
 refine ev_stop (go_indexSl Tryz.tbs_ok (0) rfl rfl rfl rfl rfl rfl (by first | decide | omega) rfl rfl ?_)
 refine aG ?_
 refine ev_new fun b10=>?_
 refine ev_stop (go_draw Tryz.tbs_ok true [0,1,2] [(0,true),(1,true),(2,true),(3,true),(4,true),(5,true),(6,true),(7,true),(8,true),(9,true),(10,true),(11,true),(12,true),(13,true),(14,true),(15,true)] rfl ?_)
 refine aG (aE ?_)
 refine ev_if_lt (fun h11=>?_) (fun h11=>?_)
 refine aG (aE ?_)
 refine ev_fin ⟨trivial,_,rfl,(()),?_,(by trivial),Frm.nil _⟩
 rotate_left
 refine aG (aE ?_)
 refine ev_if_lt (fun h12=>?_) (fun h12=>?_)
 refine aG ?_
 refine ev_fin ⟨trivial,_,rfl,(()),?_,(by trivial),Frm.nil _⟩
 rotate_left
 refine aG ?_
 refine wN (0+1) ?_
 refine ev_fin (go Tryz.tbs_ok 1000 ?_)
 refine aJ ?_
 refine ev_stop (go_indexSl Tryz.tbs_ok (0+1) rfl rfl rfl rfl rfl rfl (by first | decide | omega) rfl rfl ?_)
 refine aG ?_
 refine ev_new fun b13=>?_
 refine ev_stop (go_draw Tryz.tbs_ok true [0,1,2,3] [(0,true),(1,true),(2,true),(3,true),(4,true),(5,true),(6,true),(7,true),(8,true),(9,true),(10,true),(11,true),(12,true),(13,true),(14,true),(15,true)] rfl ?_)
 refine aG (aE ?_)
 refine ev_if_lt (fun h14=>?_) (fun h14=>?_)
 refine aG (aE ?_)
 refine ev_fin ⟨trivial,_,rfl,(()),?_,(by trivial),Frm.nil _⟩
 rotate_left
 refine aG (aE ?_)
 refine ev_if_lt (fun h15=>?_) (fun h15=>?_)
 refine aG ?_
 refine ev_fin ⟨trivial,_,rfl,(()),?_,(by trivial),Frm.nil _⟩
 rotate_left
 refine aG ?_
 refine wN (0+1+1) ?_
 refine ev_fin (go Tryz.tbs_ok 1000 ?_)
 refine aJ ?_
 refine ev_stop (go_indexSl Tryz.tbs_ok (0+1+1) rfl rfl rfl rfl rfl rfl (by first | decide | omega) rfl rfl ?_)
 refine aG ?_
 refine ev_new fun b16=>?_
 refine ev_stop (go_draw Tryz.tbs_ok true [0,1,2,3,4] [(0,true),(1,true),(2,true),(3,true),(4,true),(5,true),(6,true),(7,true),(8,true),(9,true),(10,true),(11,true),(12,true),(13,true),(14,true),(15,true)] rfl ?_)
 refine aG (aE ?_)
 refine ev_if_lt (fun h17=>?_) (fun h17=>?_)
 refine aG (aE ?_)
 refine ev_fin ⟨trivial,_,rfl,(()),?_,(by trivial),Frm.nil _⟩
 rotate_left
 refine aG (aE ?_)
 refine ev_if_lt (fun h18=>?_) (fun h18=>?_)
 refine aG ?_
 refine ev_fin ⟨trivial,_,rfl,(()),?_,(by trivial),Frm.nil _⟩
 rotate_left
 refine aG ?_
 refine wN (0+1+1+1) ?_
 refine ev_fin (go Tryz.tbs_ok 1000 ?_)
 refine aJ ?_
 refine ev_stop (go_indexSl Tryz.tbs_ok (0+1+1+1) rfl rfl rfl rfl rfl rfl (by first | decide | omega) rfl rfl ?_)
 refine aG ?_
 refine ev_new fun b19=>?_
 refine ev_stop (go_draw Tryz.tbs_ok true [0,1,2,3,4,5] [(0,true),(1,true),(2,true),(3,true),(4,true),(5,true),(6,true),(7,true),(8,true),(9,true),(10,true),(11,true),(12,true),(13,true),(14,true),(15,true)] rfl ?_)
 refine aG (aE ?_)
 refine ev_if_lt (fun h20=>?_) (fun h20=>?_)
 refine aG (aE ?_)
 refine ev_fin ⟨trivial,_,rfl,(()),?_,(by trivial),Frm.nil _⟩
 rotate_left
 refine aG (aE ?_)
 refine ev_if_lt (fun h21=>?_) (fun h21=>?_)
 refine aG ?_
 refine ev_fin ⟨trivial,_,rfl,(()),?_,(by trivial),Frm.nil _⟩
 rotate_left
 refine aG ?_
 refine wN (0+1+1+1+1) ?_
 refine ev_fin (go Tryz.tbs_ok 1000 ?_)
 refine aJ ?_
 refine ev_stop (go_indexSl Tryz.tbs_ok (0+1+1+1+1) rfl rfl rfl rfl rfl rfl (by first | decide | omega) rfl rfl ?_)
 refine aG ?_
 refine ev_new fun b22=>?_
 refine ev_stop (go_draw Tryz.tbs_ok true [0,1,2,3,4,5,6] [(0,true),(1,true),(2,true),(3,true),(4,true),(5,true),(6,true),(7,true),(8,true),(9,true),(10,true),(11,true),(12,true),(13,true),(14,true),(15,true)] rfl ?_)
 refine aG (aE ?_)
 refine ev_if_lt (fun h23=>?_) (fun h23=>?_)
 refine aG (aE ?_)
 refine ev_fin ⟨trivial,_,rfl,(()),?_,(by trivial),Frm.nil _⟩
 rotate_left
 refine aG (aE ?_)
 refine ev_if_lt (fun h24=>?_) (fun h24=>?_)
 refine aG ?_
 refine ev_fin ⟨trivial,_,rfl,(()),?_,(by trivial),Frm.nil _⟩
 rotate_left
 refine aG ?_
 refine wN (0+1+1+1+1+1) ?_
 refine ev_fin (go Tryz.tbs_ok 1000 ?_)
 refine aI ?_
 refine ev_fin (go Tryz.tbs_ok 1000 ?_)
 refine ev_fin ⟨trivial,_,rfl,(()),?_,(by trivial),Frm.nil _⟩
 rotate_left
 all_goals first | (rw [hR,if_neg (by omega)];rfl) | (rw [hR,if_pos (by omega)];rfl)
def entBad (s:Int) (x:Ent):Bool := !(decide (1≤x.e)&&decide (x.e≤1048576)&&decide (x.st=s)&&okO x)
def badFn (bo:Nat):Value:=.func (.func 173) #[] #[pP bo]
theorem badT (x:Ent) (bo:Nat) (s:Int):Triple Tryz.prog 173 [.agg (encE x).toArray,pP bo] [Pt bo 3 [.int .i64 s]] [] Unit (fun _=>.bool (entBad s x)) (fun _=>True) (fun _=>[Pt bo 3 [.int .i64 s]]):=by
 have T1:=checkO x
 obtain ⟨R,hR⟩:∃ R:Int,R=if okO x then 0 else 2:=⟨_,rfl⟩
 have hR2:R=0↔okO x=true:=by rw [hR];split<;>simp_all
 obtain ⟨o,ho⟩:∃ o,o=okO x:=⟨_,rfl⟩
 obtain ⟨B,hB⟩:∃ B,B=entBad s x:=⟨_,rfl⟩
 rw [←hB]
 unfold entBad at hB
 rw [←hR] at T1
 rw [←ho] at hB hR2
 obtain ⟨e,id,st,ex,k,a⟩:=x
 replace hB:B = !(decide (1≤e)&&decide (e≤1048576)&&decide (st=s)&&o):=hB
 refine aT Tryz.func173 [.ag [vI e,vI id,vI st,vI ex,vI k,vI a],.pt 0 bo 0] [.box bo 3 [vI s]] (fun E=>?_) ⟨⟨trivial,trivial,trivial,trivial,trivial,trivial,trivial⟩,rfl,trivial⟩
 refine aG ?_
 refine ev_new fun b0=>?_
 refine ev_inline Tryz.tbs_ok Tryz.func174 rfl rfl ?_
 refine aG ?_
 refine ev_if_lt (fun h1=>?_) (fun h1=>?_)
 refine aG ?_
 refine ev_fin ⟨trivial,aL,_,rfl,?_⟩
 refine aG ?_
 refine ev_if_nd (fun h2=>?_) (fun h2=>?_)
 refine aG ?_
 refine ev_fin ⟨trivial,_,rfl,(),?_,by trivial,aF [0]⟩
 rotate_left
 refine aG ?_
 refine ev_if_ne (fun h3=>?_) (fun h3=>?_)
 refine aG ?_
 refine ev_fin ⟨trivial,_,rfl,(),?_,by trivial,aF [0]⟩
 rotate_left
 refine aG ?_
 refine aC T1 [] [] fun _ h4=>?_
 refine ev_fin ⟨trivial,_,rfl,(),?_,by trivial,aF [0]⟩
 rotate_left
 refine aG ?_
 refine ev_fin ⟨trivial,aL,_,rfl,?_⟩
 refine aG ?_
 refine ev_fin ⟨trivial,_,rfl,(),?_,by trivial,aF [0]⟩
 rotate_left
 all_goals (show Value.bool _=Value.bool B;congr 1;grind)
end Go.Proofs.YtnhoidnmlibcpaaGreatDoor
namespace Go.Sy
open Go.RowKit
section
variable {P:Program} {T:Tbs} {E:Entry} {Q:Exit→St→Prop} {ops:Array Oper} {l:List Oper} {r:List It} {st:St}
theorem go_neqSame (hT:TbsOk P T) {dst:Option Tmp} {t yt e:TypeId} {x y:Operand} {ty:TypeId} {pos:String} {after:Array Edge} {gd:Option (Nat × Bool)} {A:Addr}
 (hg:guardS ops st.fr ⟨dst,.binOp .neq t x y yt,ty,pos,after,gd⟩ = .run)
 (hx:(ev st.fr x).den = .pointer (some A)) (hxno:(ev st.fr x).isNo=false) (hy:(ev st.fr y).den = .pointer (some A)) (hyno:(ev st.fr y).isNo=false)
 (ht:(te T.tab t).map (·.k)=some (.ptr e)) (he:(P.info? e).isSome=true)
 (h:Go P E (.o ops l::r) (st.put dst (.bl false)) Q):Go P E (.o ops (⟨dst,.binOp .neq t x y yt,ty,pos,after,gd⟩::l)::r) st Q :=
 go_val (o:=⟨dst,.binOp .neq t x y yt,ty,pos,after,gd⟩) hg (.bl false) trivial (fun a w hR=>by
  obtain ⟨j,hj⟩:=Option.isSome_iff_exists.1 he
  have hu:P.underlying t=some (.pointer e):=by
   obtain ⟨u,hu,hk⟩:=tk_of hT ht
   cases u<;>simp [tkOf] at hk
   subst hk
   exact hu
  have hrun:=Lib.run_neq_ptr_same (P:=P) w A hu hj
  simp [execOp,ev_denv hR.fr rfl hxno,ev_denv hR.fr rfl hyno,hx,hy,eqGuard,hrun,SV.den]) h
theorem go_dataN {dst:Option Tmp} {x:Operand} {t ty:TypeId} {pos:String} {after:Array Edge} {gd:Option (Nat × Bool)} {n c:Nat}
 (hg:guardS ops st.fr ⟨dst,.call { callee:=.builtin .unsafeSliceData,args := #[x],argTypes := #[t] },ty,pos,after,gd⟩ = .run)
 (hx:(ev st.fr x).den = .slice none n c) (hxno:(ev st.fr x).isNo=false)
 (h:Go P E (.o ops l::r) (st.put dst (.va (.pointer none))) Q):Go P E (.o ops (⟨dst,.call { callee:=.builtin .unsafeSliceData,args := #[x],argTypes := #[t] },ty,pos,after,gd⟩::l)::r) st Q :=
 go_val (o:=⟨dst,.call { callee:=.builtin .unsafeSliceData,args := #[x],argTypes := #[t] },ty,pos,after,gd⟩) hg (.va (.pointer none)) trivial (fun a w hR=>by
  have hrun:=Lib.run_unsafeSliceData_nil (P:=P) w #[t] ty n c
  simp [execOp,resolve,invoke,builtin,ev_denv hR.fr rfl hxno,hx,hrun,SV.den]) h
theorem go_dataS {dst:Option Tmp} {x:Operand} {t ty:TypeId} {pos:String} {after:Array Edge} {gd:Option (Nat × Bool)} {A:Addr} {n c:Nat}
 (hg:guardS ops st.fr ⟨dst,.call { callee:=.builtin .unsafeSliceData,args := #[x],argTypes := #[t] },ty,pos,after,gd⟩ = .run)
 (hx:(ev st.fr x).den = .slice (some A) n c) (hxno:(ev st.fr x).isNo=false) (hc:c≠0)
 (h:Go P E (.o ops l::r) (st.put dst (.va (.pointer (some A)))) Q):Go P E (.o ops (⟨dst,.call { callee:=.builtin .unsafeSliceData,args := #[x],argTypes := #[t] },ty,pos,after,gd⟩::l)::r) st Q :=
 go_val (o:=⟨dst,.call { callee:=.builtin .unsafeSliceData,args := #[x],argTypes := #[t] },ty,pos,after,gd⟩) hg (.va (.pointer (some A))) trivial (fun a w hR=>by
  have hrun:=Lib.run_unsafeSliceData_row (P:=P) w #[t] ty A n c hc
  simp [execOp,resolve,invoke,builtin,ev_denv hR.fr rfl hxno,hx,hrun,SV.den]) h
theorem go_unsafeN {dst:Option Tmp} {x y:Operand} {pt it ty:TypeId} {pos:String} {after:Array Edge} {gd:Option (Nat × Bool)} {A:Option Addr}
 (hg:guardS ops st.fr ⟨dst,.call { callee:=.builtin .unsafeString,args := #[x,y],argTypes := #[pt,it] },ty,pos,after,gd⟩ = .run)
 (hx:(ev st.fr x).den = .pointer A) (hxno:(ev st.fr x).isNo=false) (hy:(ev st.fr y).den = .int .i64 0) (hyno:(ev st.fr y).isNo=false)
 (h:Go P E (.o ops l::r) (st.put dst (.va (.string .empty))) Q):Go P E (.o ops (⟨dst,.call { callee:=.builtin .unsafeString,args := #[x,y],argTypes := #[pt,it] },ty,pos,after,gd⟩::l)::r) st Q :=
 go_val (o:=⟨dst,.call { callee:=.builtin .unsafeString,args := #[x,y],argTypes := #[pt,it] },ty,pos,after,gd⟩) hg (.va (.string .empty)) trivial (fun a w hR=>by
  have hrun:=Lib.run_unsafeString_none (P:=P) w pt it ty A
  simp [execOp,resolve,invoke,builtin,ev_denv hR.fr rfl hxno,ev_denv hR.fr rfl hyno,hx,hy,hrun,SV.den]) h
theorem go_unsafeS (hT:TbsOk P T) {dst:Option Tmp} {x y:Operand} {pt it ty et:TypeId} {pos:String} {after:Array Edge} {gd:Option (Nat × Bool)} {g n c:Nat} {bs:List UInt8} (i:Nat)
 (hg:guardS ops st.fr ⟨dst,.call { callee:=.builtin .unsafeString,args := #[x,y],argTypes := #[pt,it] },ty,pos,after,gd⟩ = .run)
 (hx:(ev st.fr x).den = .pointer (some ⟨g,0,none⟩)) (hxno:(ev st.fr x).isNo=false) (hy:(ev st.fr y).den = .int .i64 (n:Int)) (hyno:(ev st.fr y).isNo=false)
 (ht:(te T.tab pt).map (·.k)=some (.ptr et)) (hsz:(te T.tab et).map (·.size)=some 1)
 (hi:st.res[i]? = some (.fact (Row et 1 (some ⟨g,0,none⟩) n c (bs.flatMap encC)))) (hn:n=bs.length) (h0:0<n) (hmax:n≤1000000000)
 (h:Go P E (.o ops l::r) (St.put ⟨st.fr,st.res.set i (.fact (Rd 1 (some ⟨g,0,none⟩) n (bs.flatMap encC))),st.ro⟩ dst (.va (.string ⟨bs.toArray⟩))) Q) :
 Go P E (.o ops (⟨dst,.call { callee:=.builtin .unsafeString,args := #[x,y],argTypes := #[pt,it] },ty,pos,after,gd⟩::l)::r) st Q:=by
 refine Go.step fun a w hR=>⟨by have:=guard_spec hR.fr (ops:=ops) ⟨dst,.call { callee:=.builtin .unsafeString,args := #[x,y],argTypes := #[pt,it] },ty,pos,after,gd⟩;rw [hg] at this;exact this,?_⟩
 obtain ⟨hs',hi',hres⟩:=hR.res
 have hil:=(List.getElem?_eq_some_iff.1 hi).1
 have hsel:[i].map (asnAt st.res)=[Row et 1 (some ⟨g,0,none⟩) n c (bs.flatMap encC)].map some:=by simp [asnAt_fact hi]
 have hrow:(Row et 1 (some ⟨g,0,none⟩) n c (bs.flatMap encC)).holds (selH w hs' [i]):=starH_one.1 (selH_star hres.le hres.dis hres.holds hsel (by simp))
 obtain ⟨g',cur,q1,hgc,hnc,hcm,hcs,htake⟩:∃ g' cur,(some ⟨g,0,none⟩:Option Addr)=some ⟨g',0,none⟩∧selH w hs' [i] g'=some (.cells cur et (0,0))∧n≤c∧c≤maxLen∧cur.size=c*1∧cur.toList.take (n*1)=bs.flatMap encC:=by
  rcases hrow.2.2 with ⟨q,_⟩ | q
  · cases q
  exact q
 cases q1
 have hw:w.heap[g]? = some (.cells cur et (0,0)):=selH_le _ _ _ g _ hgc
 obtain ⟨fz,hfz⟩:=freeze_cells hw n
 obtain ⟨s1,s2,s3,s4⟩:=freeze_same w g n
 have hrun:=Lib.run_unsafeString_row (P:=P) w pt it ty et (by
  obtain ⟨u,hu,hk⟩:=tk_of hT ht
  cases u<;>simp [tkOf] at hk
  subst hk
  exact hu) (by
  cases hq:te T.tab et with
  | none=>rw [hq] at hsz;cases hsz
  |
   some e =>
   rw [hq] at hsz
   simp only [Option.map_some,Option.some.injEq] at hsz
   obtain ⟨i2,u,z,hi2,_,_,_,hs2,_⟩:=te_spec hT.tab hq
   simp [Program.cellsOf,hi2,←hs2,hsz]) g cur.size (by simp [World.shape?,hw]) bs (fun e=>by rw [e] at hn;simp at hn;omega) (by rw [←hn,hcs];omega) (by omega) (fun j v hj=>by
  have hjl:=(List.getElem?_eq_some_iff.1 hj).1
  rw [addr_add,cell_of_row w g _ _ et (0,0) hw]
  have h5:(cur.toList.take (n*1))[j]? = (bs.flatMap encC)[j]? := by rw [htake]
  rw [encC_flat,List.getElem?_map,hj,List.getElem?_take,if_pos (by omega)] at h5
  simpa using h5)
 rw [←hn] at hrun
 have hnew:∀ b,(Hp.one g (.cells cur et fz)) b≠none→selH w hs' [i] b≠none∨w.heap.size≤b:=fun b hb=>by
  by_cases hbg:b=g
  · subst hbg
    rw [hgc]
    exact .inl (by simp)
  exact absurd (by simp [Hp.one,hbg]) hb
 have hext:Ext (selH w hs' [i]) w (w.freeze ⟨g,0,none⟩ n):=⟨s1,s2,s3,by rw [s4];exact Nat.le_refl _,fun b hb hnn=>freeze_other n b (fun e=>by
  subst e
  rw [hgc] at hnn
  cases hnn)⟩
 have hrd:(Rd 1 (some ⟨g,0,none⟩) n (bs.flatMap encC)).holds (Hp.one g (.cells cur et fz)):=by
  have hr:=Row.rd hrow
  exact ⟨hr.1,hr.2.1,fun _=>⟨g,0,cur,et,fz,rfl,by simp [Hp.one],by rw [List.drop_zero];exact htake⟩⟩
 have hplace:=place_ok hres [i] (selH w hs' [i]) selH_C [.fact (Rd 1 (some ⟨g,0,none⟩) n (bs.flatMap encC))] (Hp.one g (.cells cur et fz)) (starH_one.2 hrd) (fun b o hb=>by
  by_cases hbg:b=g
  · subst hbg
    simp [Hp.one] at hb
    subst hb
    exact hfz
  simp [Hp.one,hbg] at hb) hext hnew (newsOk_fact (newsOk_nil _)) (by rw [place_one hil];exact blkLe_set _ hi)
 rw [place_one hil] at hplace
 obtain ⟨hs2',hres'⟩:=hplace
 refine wp_value (v:=.string ⟨bs.toArray⟩) (w':=w.freeze ⟨g,0,none⟩ n) ?_ (h _ _ ?_)
 · simp [execOp,resolve,invoke,builtin,ev_denv hR.fr rfl hxno,ev_denv hR.fr rfl hyno,hx,hy,hrun]
 have hR':R E ⟨st.fr,st.res.set i (.fact (Rd 1 (some ⟨g,0,none⟩) n (bs.flatMap encC))),st.ro⟩ a (w.freeze ⟨g,0,none⟩ n):=⟨hR.fr.mono (blkLe_spec (blkLe_set _ hi)),hs2',hi',hres'⟩
 exact hR'.put dst (x:=.va (.string ⟨bs.toArray⟩)) rfl trivial
end
end Go.Sy
namespace Go.Proofs.YtnhoidnmlibcpaaGreatDoor
open Go.Sy Go.RowKit
theorem cmpI (a b:Int):Triple Tryz.prog 235 [.int .i64 a,.int .i64 b] [] [] Unit (fun _=>.int .i64 (if a<b then -1 else if b<a then 1 else 0)) (fun _=>True) (fun _=>[]):=by
 obtain ⟨R,hR⟩:∃ R:Int,R=if a<b then -1 else if b<a then 1 else 0:=⟨_,rfl⟩
 rw [←hR]
 refine aT Tryz.func235 [vI a,vI b] [] (fun E=>?_) ⟨trivial,trivial,trivial⟩
 refine aG ?_
 refine ev_inline Tryz.tbs_ok Tryz.func228 rfl rfl ?_
 refine aG ?_
 refine ev_fin ⟨trivial,aL,_,rfl,?_⟩
 refine aG ?_
 refine ev_inline Tryz.tbs_ok Tryz.func228 rfl rfl ?_
 refine aG ?_
 refine ev_fin ⟨trivial,aL,_,rfl,?_⟩
 refine aG ?_
 refine aI ?_ (ne_no (show a=a from (by omega)))
 refine aI ?_ (ne_no (show b=b from (by omega)))
 refine ev_if_lt (fun h0=>?_) (fun h0=>?_)
 refine aG ?_
 refine ev_fin ⟨trivial,_,rfl,(()),?_,(by trivial),Frm.nil _⟩
 rotate_left
 refine aG ?_
 refine ev_if_lt (fun h1=>?_) (fun h1=>?_)
 refine aG ?_
 refine ev_fin ⟨trivial,_,rfl,(()),?_,(by trivial),Frm.nil _⟩
 rotate_left
 refine aG ?_
 refine ev_fin ⟨trivial,_,rfl,(()),?_,(by trivial),Frm.nil _⟩
 rotate_left
 all_goals (show Value.int _ _=Value.int _ R;congr 1;rw [hR];split<;>first | rfl | omega | (split<;>omega))
theorem ok_ent:EqOk Tryz.prog 127:=⟨by kernel_rfl,by kernel_rfl⟩
theorem ok_ord:EqOk Tryz.prog 23:=⟨by kernel_rfl,by kernel_rfl⟩
theorem eq_ord (a b c d e a' b' c' d' e':Int) (n:Nat) (w:World):(Op.equalIn (n+2) 23 (.agg #[.int .i64 a,.int .i64 b,.int .i64 c,.int .i64 d,.int .i64 e]) (.agg #[.int .i64 a',.int .i64 b',.int .i64 c',.int .i64 d',.int .i64 e'])).run Tryz.prog w
 = .ok (a==a'&&(b==b'&&(c==c'&&(d==d'&&(e==e'&&true))))) w:=by
 refine eq_struct ok_ord rfl ?_
 iterate 5 refine eqF_int (by decide) Tryz.underlying3 rfl rfl ?_
 exact eqF_nil
theorem eq_ent (e f:Ent) (n:Nat) (w:World):(Op.equalIn (n+3) 127 (.agg (encE e).toArray) (.agg (encE f).toArray)).run Tryz.prog w = .ok (decide (e=f)) w:=by
 have h:decide (e=f)=(e.e==f.e&&((e.id==f.id&&(e.st==f.st&&(e.ex==f.ex&&(e.k==f.k&&(e.a==f.a&&true)))))&&true)):=by
  obtain ⟨a,b,c,d,g,h⟩:=e
  obtain ⟨a',b',c',d',g',h'⟩:=f
  simp [Ent.mk.injEq,Bool.decide_and]
  rfl
 rw [h]
 refine eq_struct ok_ent rfl ?_
 refine eqF_int (by decide) Tryz.underlying3 rfl rfl ?_
 refine eqF_agg (by decide) Tryz.underlying23 (i:=(Tryz.prog.info? 23).get rfl) rfl rfl rfl rfl (eq_ord _ _ _ _ _ _ _ _ _ _ n w) ?_
 exact eqF_nil
theorem equalE (C D:Option Addr) (L M:List Ent) (m n d e:Nat) (hm:m=L.length) (hn:n=M.length) (h1:m≤1000000) :
 Triple Tryz.prog 272 [.slice C m d,.slice D n e] [] [Rd 6 C m (L.flatMap encE),Rd 6 D n (M.flatMap encE)] Unit (fun _=>.bool (decide (L=M))) (fun _=>True) (fun _=>[]):=by
 refine aT Tryz.func272 [vL C m d,vL D n e] [] (fun E=>?_) ⟨trivial,trivial,trivial⟩
 refine aG ?_
 refine ev_if_ne (fun h0=>?_) (fun h0=>?_)
 refine aG ?_
 refine ev_fin ⟨trivial,_,rfl,(()),?_,(by trivial),Frm.nil _⟩
 rotate_left
 refine aG ?_
 rotate_left
 · have:m≠n:=by omega
   rw [decide_eq_false (fun e=>this (by rw [hm,hn,e]))]
   rfl
 have hmn:m=n:=by omega
 refine ev_stop (go_loopR [4,5,13,14,15,16,17,18,19,20,21,22,23,24,25] (fun i=>[(13,vI (i:Nat))]) (fun _=>[]) (fun i=>i≤m∧L.take i=M.take i) (fun i=>m-i) (0:Nat) ⟨Nat.zero_le _,rfl⟩ aS (fun i h_=>?_))
 obtain ⟨hi,hE⟩:=h_
 rcases Nat.lt_or_ge i m with him | him
 · have hil:i<L.length:=by omega
   have hin:i<M.length:=by omega
   refine aG ?_
   refine aJ ?_ (decide_eq_true (show (↑i:Int)<(↑m:Int) from (by omega)))
   refine ev_stop (go_draw Tryz.tbs_ok true [] [(0,true),(1,true),(2,true),(3,true),(4,true),(5,true),(6,true),(7,true),(8,true)] rfl ?_)
   refine aG (aE ?_)
   refine ev_stop (tk_indexE (sz:=6) Tryz.tbs_ok (.inl 0) (i) aB rfl rfl rfl rfl rfl rfl rfl (by omega) rfl (fun _ h=>h) (fun g10 o12 e11=>?_))
   subst e11
   refine aG (aE ?_)
   have l13:i<(L).length:=(by omega)
   refine ev_stop (tk_loadE Tryz.tbs_ok (.inl 0) (i) 0 aB rfl rfl rfl rfl rfl (fun _ h=>h) (by omega) (fun _=>rfl) (by omega) l13 (by decide) ?_)
   refine aG (aE ?_)
   refine ev_stop (tk_indexE (sz:=6) Tryz.tbs_ok (.inl 1) (i) aB rfl rfl rfl rfl rfl rfl rfl (by omega) rfl (fun _ h=>h) (fun g14 o16 e15=>?_))
   subst e15
   refine aG (aE ?_)
   have l17:i<(M).length:=(by omega)
   refine ev_stop (tk_loadE Tryz.tbs_ok (.inl 1) (i) 0 aB rfl rfl rfl rfl rfl (fun _ h=>h) (by omega) (fun _=>rfl) (by omega) l17 (by decide) ?_)
   refine aG (aE ?_)
   refine ev_stop (tk_val (o:=_) ⟨⟨trivial,rfl⟩,by kernel_rfl⟩ rfl rfl (.bq (!(decide (L[i]=M[i])))) trivial (fun a w hF _=>neq_run (ev_denv hF rfl rfl) (ev_denv hF rfl rfl) (by kernel_rfl) (eq_ent L[i] M[i] 9997 w)) ?_)
   refine aG (aE ?_)
   refine ev_if_nd (fun h30=>?_) (fun h30=>?_)
   refine aG ?_
   refine ev_fin ⟨trivial,_,rfl,(()),?_,(by trivial),Frm.nil _⟩
   rotate_left
   refine aG ?_
   refine wN (i+1) ?_
   refine ev_fin (round_next (i+1) (?_:i+1≤m∧List.take (i+1) L=List.take (i+1) M) (show m-(i+1)<m-i from (by omega)) aS)
   rotate_left
   · rw [decide_eq_false (fun e=>h30 (by subst e;rfl))]
     rfl
   have he:L[i]=M[i]:=by simpa using ‹_›
   exact ⟨by omega,by rw [←List.take_append_getElem hil,←List.take_append_getElem hin,hE,he]⟩
 have hir:i=m:=by omega
 rw [List.take_of_length_le (by omega),List.take_of_length_le (by omega)] at hE
 rw [decide_eq_true hE]
 refine aG ?_
 refine aI ?_ (decide_eq_false (show ¬(↑i:Int)<(↑m:Int) from (by omega)))
 refine ev_fin (go Tryz.tbs_ok 1000 ?_)
 refine ev_fin ⟨trivial,_,rfl,(()),rfl,(by trivial),Frm.nil _⟩
theorem prefixT (C D:Option Addr) (L M:List Ent) (m n d e:Nat) (hm:m=L.length) (hn:n=M.length) (h1:m≤1000000) (hne:n≤e) :
 Triple Tryz.prog 231 [.slice C m d,.slice D n e] [] [Rd 6 C m (L.flatMap encE),Rd 6 D n (M.flatMap encE)] Unit (fun _=>.bool (decide (m≤n)&&decide (L=M.take m))) (fun _=>True) (fun _=>[]):=by
 by_cases hmn:m≤n
 · have T1:=(equalE C D L (M.take m) m m d e hm (by rw [List.length_take];omega) h1).reads (N':=[Rd 6 C m (L.flatMap encE),Rd 6 D n (M.flatMap encE)]) (fun X hX=>by
    simp only [List.mem_cons,List.not_mem_nil,or_false] at hX
    rcases hX with rfl | rfl
    · exact ⟨_,List.mem_cons_self,fun _ q=>q⟩
    exact ⟨_,List.mem_cons_of_mem _ List.mem_cons_self,fun _ q=>rd_take (sz:=6) (fun _=>rfl) q hmn⟩)
   rw [decide_eq_true hmn,Bool.true_and]
   obtain ⟨b,hb⟩:∃ b,b=decide (L=M.take m):=⟨_,rfl⟩
   rw [←hb] at T1 ⊢
   refine aT Tryz.func231 [vL C m d,vL D n e] [] (fun E=>?_) ⟨trivial,trivial,trivial⟩
   refine aG ?_
   refine aJ ?_ (decide_eq_true (show (↑m:Int)≤(↑n:Int) from (by omega)))
   refine ev_stop (go_front Tryz.tbs_ok (m) (e) rfl rfl rfl rfl rfl rfl ⟨_,rfl⟩ rfl (by decide) (by omega) (by omega) ?_)
   refine aG ?_
   refine aC T1 [] [.inl 0,.inl 1] fun _ h0=>?_
   refine ev_fin ⟨trivial,_,rfl,(()),rfl,(by trivial),Frm.nil _⟩
   all_goals skip
 rw [decide_eq_false hmn,Bool.false_and]
 refine aT Tryz.func231 [vL C m d,vL D n e] [] (fun E=>?_) ⟨trivial,trivial,trivial⟩
 refine aG ?_
 refine aI ?_ (decide_eq_false (show ¬(↑m:Int)≤(↑n:Int) from (by omega)))
 refine ev_fin ⟨trivial,_,rfl,(()),rfl,(by trivial),Frm.nil _⟩
 all_goals skip
theorem epochT (x y:Ent):Triple Tryz.prog 233 [.agg (encE x).toArray,.agg (encE y).toArray] [] [] Unit (fun _=>.int .i64 (if x.e<y.e then -1 else if y.e<x.e then 1 else 0)) (fun _=>True) (fun _=>[]):=by
 have T1:=cmpI x.e y.e
 obtain ⟨R,hR⟩:∃ R:Int,R=if x.e<y.e then -1 else if y.e<x.e then 1 else 0:=⟨_,rfl⟩
 rw [←hR] at T1 ⊢
 clear hR
 obtain ⟨e,id,st,ex,k,a⟩:=x
 obtain ⟨e',id',st',ex',k',a'⟩:=y
 refine aT Tryz.func233 [.ag [vI e,vI id,vI st,vI ex,vI k,vI a],.ag [vI e',vI id',vI st',vI ex',vI k',vI a']] [] (fun E=>?_) ⟨⟨trivial,trivial,trivial,trivial,trivial,trivial,trivial⟩,⟨trivial,trivial,trivial,trivial,trivial,trivial,trivial⟩,trivial⟩
 refine aG ?_
 refine ev_new fun b0=>?_
 refine ev_new fun b1=>?_
 refine aC T1 [] [] fun _ h2=>?_
 refine ev_fin ⟨trivial,_,rfl,(()),rfl,(by trivial),Frm.nil _⟩
theorem cloneE (C:Option Addr) (L:List Ent) (m d:Nat) (hm:m=L.length) (h1:m≤100000):Triple Tryz.prog 119 [.slice C m d] [] [Rd 6 C m (L.flatMap encE)] Sl (fun (B,d)=>.slice B m d) (fun (_,d)=>m≤d) (fun (B,d)=>[Row 127 6 B m d (L.flatMap encE)]):=by
 refine aT Tryz.func119 [vL C m d] [] (fun E=>?_) ⟨trivial,trivial⟩
 cases C with
 |
  none =>
  refine go_know (.inl 0) (Rd 6 none m (L.flatMap encE)) rfl (p:=m=0) (fun h q=>by
   rcases Nat.eq_zero_or_pos m with h1 | h1
   · exact h1
   obtain ⟨_,_,_,_,_,e,_⟩:=q.2.2 h1
   cases e) fun h0=>?_
  obtain rfl:L=[]:=List.eq_nil_of_length_eq_zero (by omega)
  subst h0
  refine go_fact (Row 127 6 none 0 0 (([]:List Ent).flatMap encE)) (Row.nilE _ _) ?_
  refine aG (aJ ?_)
  exact ev_fin ⟨trivial,_,rfl,((none,0)),rfl,by trivial,aF [0]⟩
 | some g =>
  refine go Tryz.tbs_ok 1000 ?_
  refine aI ?_
  refine ev_new fun b0=>?_
  refine ev_stop (go_appendE (sz:=6) (M:=[_]) (enc:=encE) Tryz.tbs_ok [0] [some b0] (.inl 0) ([]) (L) (L) (m) rfl rfl rfl rfl rfl rfl rfl (by decide) rfl (by decide) (fun _ p=>Pt.row (starH_one.1 p) rfl (by decide)) rfl (fun _ h=>h) (by first | rfl | simp) (by first | rfl | omega) (aM (m)) (aN (m)) (fun _ _=>aL) (fun A1 c2 h3=>?_))
  refine aG ?_
  exact ev_fin ⟨trivial,_,rfl,((A1,c2)),rfl,by trivial,aF [1]⟩
theorem riseE_iff:∀ {L:List Ent},riseE L=true↔∀ i (h:i+1<L.length),(L[i]'(by omega)).e≤L[i+1].e
 | []=>⟨fun _ i h=>by simp at h,fun _=>rfl⟩
 | [x]=>⟨fun _ i h=>by simp at h,fun _=>rfl⟩
 |
  x::y::l=>by
  rw [riseE,Bool.and_eq_true,decide_eq_true_eq,riseE_iff]
  constructor
  · rintro ⟨h1,h2⟩ (_ | i) h
    · exact h1
    exact h2 i (by simpa using h)
  exact fun h=>⟨h 0 (by simp),fun i hi=>h (i+1) (by simpa using hi)⟩
theorem sortedT (C:Option Addr) (L:List Ent) (m d:Nat) (hm:m=L.length) (h1:m≤1000000) :
 Triple Tryz.prog 232 [.slice C m d,.func (.func 233) #[] #[]] [] [Rd 6 C m (L.flatMap encE)] Unit (fun _=>.bool (riseE L)) (fun _=>True) (fun _=>[]):=by
 obtain ⟨b,hb⟩:∃ b,b=riseE L:=⟨_,rfl⟩
 rw [←hb]
 refine aT Tryz.func232 [vL C m d,.va (.func (.func 233) #[] #[])] [] (fun E=>?_) ⟨trivial,trivial,trivial⟩
 refine aG ?_
 refine w6 ?_
 refine ev_stop (go_loopR [4,5,9,10,11,12,13,14,15,16,17,18,19,20,21,22,23,24] (fun z=>[(5,vI z)]) (fun _=>[]) (fun z=>z≤(m:Int)-1 ∧ -1≤z∧∀ k (h:k+1<L.length),z≤(k:Int)→(L[k]'(by omega)).e≤L[k+1].e) (fun z=>(z+1).toNat) ((m:Int)-1:Int) ⟨by omega,by omega,fun k h q=>by omega⟩ aS (fun z h_=>?_))
 obtain ⟨hz,hz2,hr⟩:=h_
 rcases Int.lt_or_le 0 z with h0 | h0
 · obtain ⟨k,rfl⟩:∃ k:Nat,z=((k+1:Nat):Int):=⟨(z-1).toNat,by omega⟩
   have hk1:k+1<L.length:=by omega
   have hk0:k<L.length:=by omega
   have T1:=epochT L[k+1] L[k]
   obtain ⟨R,hR⟩:∃ R:Int,R=if L[k+1].e<L[k].e then -1 else if L[k].e<L[k+1].e then 1 else 0:=⟨_,rfl⟩
   rw [←hR] at T1
   have hR0:R<0↔¬ L[k].e≤L[k+1].e:=by rw [hR];generalize L[k+1].e=u;generalize L[k].e=v;split<;>(try split)<;>constructor<;>intro _<;>omega
   refine aG ?_
   refine aJ ?_ (decide_eq_true (by with_reducible assumption))
   refine ev_stop (go_draw Tryz.tbs_ok true [] [(0,true),(1,true),(2,true),(3,true),(4,true),(5,true),(6,true),(7,true),(8,true),(9,true),(10,false),(11,false)] rfl ?_)
   refine aG (aE ?_)
   refine ev_stop (tk_indexE (sz:=6) Tryz.tbs_ok (.inl 0) (k+1) aB rfl rfl rfl rfl rfl rfl rfl (by omega) rfl (fun _ h=>h) (fun g10 o12 e11=>?_))
   subst e11
   refine aG (aE ?_)
   have l13:k+1<(L).length:=(by omega)
   refine ev_stop (tk_loadE Tryz.tbs_ok (.inl 0) (k+1) 0 aB rfl rfl rfl rfl rfl (fun _ h=>h) (by omega) (fun _=>rfl) (by omega) l13 (by decide) ?_)
   refine aG (aE ?_)
   refine wO (k+1-1) ?_
   refine ev_stop (tk_atE (sz:=6) Tryz.tbs_ok (k+1-1) aB rfl rfl rfl rfl rfl rfl rfl (by omega) ?_)
   refine aG (aE ?_)
   have l14:k+1-1<(L).length:=(by omega)
   refine ev_stop (tk_loadE Tryz.tbs_ok (.inl 0) (k+1-1) 0 aB rfl rfl rfl rfl rfl (fun _ h=>h) (by omega) (fun _=>rfl) (by omega) l14 (by decide) ?_)
   refine aG (aE ?_)
   refine aC T1 [] [] fun _ h15=>?_
   refine aE (aE ?_)
   refine ev_if_lt (fun h16=>?_) (fun h16=>?_)
   refine aG ?_
   refine ev_fin ⟨trivial,_,rfl,(()),?_,(by trivial),Frm.nil _⟩
   rotate_left
   refine aG ?_
   refine wO (k+1-1) ?_
   refine ev_fin (round_next ((↑(k+1-1):Int)) (?_:(↑(k+1-1):Int)≤(↑m:Int)-1 ∧ -1≤(↑(k+1-1):Int)∧∀ (k_1:Nat) (h:k_1+1<L.length),(↑(k+1-1):Int)≤(↑k_1:Int)→L[k_1].e≤L[k_1+1].e) (show ((↑(k+1-1):Int)+1).toNat<((↑(k+1):Int)+1).toNat from (by omega)) aS)
   rotate_left
   · rw [show b=false by rw [hb,Bool.eq_false_iff];exact fun q=>hR0.1 h16 (riseE_iff.1 q k hk1)]
     rfl
   refine ⟨by omega,by omega,fun j hj q=>?_⟩
   rcases (show j=k∨k+1≤j by omega) with rfl | hjk
   · have:¬ R<0 := ‹_›
     exact Classical.not_not.1 fun q=>this (hR0.2 q)
   exact hr j hj (by omega)
 refine aG ?_
 refine aI ?_ (decide_eq_false (show ¬z > 0 from (by omega)))
 refine ev_fin (go Tryz.tbs_ok 1000 ?_)
 refine ev_fin ⟨trivial,_,rfl,(()),?_,(by trivial),Frm.nil _⟩
 rw [show b=true by rw [hb];exact riseE_iff.2 fun i h=>hr i h (by omega)]
 rfl
theorem risingT (C:Option Addr) (L:List Ent) (m d:Nat) (hm:m=L.length) (h1:m≤1000000) :
 Triple Tryz.prog 179 [.slice C m d] [] [Rd 6 C m (L.flatMap encE)] Unit (fun _=>.bool (riseE L)) (fun _=>True) (fun _=>[]):=by
 have T1:=sortedT C L m d hm h1
 refine aT Tryz.func179 [vL C m d] [] (fun E=>?_) ⟨trivial,trivial⟩
 refine aG ?_
 refine aC T1 [] [.inl 0] fun _ h0=>?_
 refine ev_fin ⟨trivial,_,rfl,(()),rfl,(by trivial),Frm.nil _⟩
def logBad (v:Int) (x:Ent):Bool := !(decide (1≤x.e)&&decide (x.e≤v)&&okO x)
theorem whole_any (L:List Ent) (v:Int):wholeE L v=(!L.any (logBad v)&&decide (L.length≤64)&&riseE L):=by
 unfold wholeE
 congr 2
 rw [List.not_any_eq_all_not]
 simp only [logBad,Bool.not_not]
theorem wholeET (C:Option Addr) (L:List Ent) (m d:Nat) (v:Int) (hm:m=L.length) (h1:m≤1000000) :
 Triple Tryz.prog 130 [.slice C m d,.int .i64 v] [] [Rd 6 C m (L.flatMap encE)] Unit (fun _=>.bool (wholeE L v)) (fun _=>True) (fun _=>[]):=by
 have T1:=risingT C L m d hm h1
 obtain ⟨b,hb⟩:∃ b,b=riseE L:=⟨_,rfl⟩
 obtain ⟨W,hW⟩:∃ W,W=wholeE L v:=⟨_,rfl⟩
 rw [←hW]
 rw [←hb] at T1
 rw [whole_any,←hb,←hm] at hW
 refine aT Tryz.func130 [vL C m d,vI v] [] (fun E=>?_) ⟨trivial,trivial,trivial⟩
 refine aG ?_
 refine ev_stop (go_loopR [4,6,9,10,11,12,13,14,15,16,17,18,19,20,21,22,23,24,25,26,27,28] (fun i=>[(9,vI (i:Nat))]) (fun _=>[]) (fun i=>i≤m∧(L.take i).any (logBad v)=false) (fun i=>m-i) (0:Nat) ⟨Nat.zero_le _,by simp⟩ aS (fun i h_=>?_))
 obtain ⟨hi,ha⟩:=h_
 rcases Nat.lt_or_ge i m with him | him
 · have hil:i<L.length:=by omega
   have T2:=checkO L[i]
   obtain ⟨R,hR⟩:∃ R:Int,R=if okO L[i] then 0 else 2:=⟨_,rfl⟩
   have hR2:R=0↔okO L[i]=true:=by rw [hR];split<;>simp_all
   rw [←hR] at T2
   have ha2:(L.take (i+1)).any (logBad v)=logBad v L[i]:=by rw [←List.take_append_getElem hil,List.any_append,ha];simp
   have hbad:logBad v L[i]=true→W=false:=fun h=>by
    rw [hW,List.any_eq_true.2 ⟨_,List.getElem_mem hil,h⟩];rfl
   have hlb:logBad v L[i] = !(decide (1≤L[i].e)&&decide (L[i].e≤v)&&okO L[i]):=rfl
   refine aG ?_
   refine aJ ?_ (decide_eq_true (show (↑i:Int)<(↑m:Int) from (by omega)))
   refine ev_stop (go_indexE (sz:=6) Tryz.tbs_ok (.inl 0) (i) rfl rfl rfl rfl rfl rfl (by omega) rfl (fun _ h=>h) (fun g10 o12 e11=>?_))
   subst e11
   refine aG ?_
   have l13:i<(L).length:=(by omega)
   refine ev_stop (go_loadE Tryz.tbs_ok (.inl 0) (i) 0 rfl rfl rfl rfl (fun _ h=>h) (by omega) (fun _=>rfl) (by omega) l13 (by decide) ?_)
   refine aG ?_
   refine ev_new fun b14=>?_
   refine ev_if_lt (fun h15=>?_) (fun h15=>?_)
   refine aG ?_
   refine ev_fin ⟨trivial,_,rfl,(()),?_,(by trivial),Frm.nil _⟩
   rotate_left
   refine aG ?_
   refine ev_if_lt (fun h16=>?_) (fun h16=>?_)
   refine aG ?_
   refine ev_fin ⟨trivial,_,rfl,(()),?_,(by trivial),Frm.nil _⟩
   rotate_left
   refine aG ?_
   refine aC T2 [] [] fun _ h17=>?_
   refine ev_if_ne (fun h18=>?_) (fun h18=>?_)
   refine aG ?_
   refine ev_fin ⟨trivial,_,rfl,(()),?_,(by trivial),Frm.nil _⟩
   rotate_left
   refine aG ?_
   refine wN (i+1) ?_
   refine ev_fin (round_next (i+1) (?_:i+1≤m∧(List.take (i+1) L).any (logBad v)=false) (show m-(i+1)<m-i from (by omega)) aS)
   rotate_left
   all_goals first | (rw [hbad (by rw [hlb];grind)];rfl) | (exact ⟨by omega,by rw [ha2,hlb];grind⟩)
 rw [List.take_of_length_le (by omega)] at ha
 rw [ha] at hW
 refine aG ?_
 refine aI ?_ (decide_eq_false (show ¬(↑i:Int)<(↑m:Int) from (by omega)))
 refine ev_fin (go Tryz.tbs_ok 1000 ?_)
 refine ev_if_lt (fun h50=>?_) (fun h50=>?_)
 refine aG ?_
 refine aC T1 [] [.inl 0] fun _ h51=>?_
 refine ev_fin ⟨trivial,_,rfl,(()),?_,(by trivial),Frm.nil _⟩
 rotate_left
 refine aG ?_
 refine ev_fin ⟨trivial,_,rfl,(()),?_,(by trivial),Frm.nil _⟩
 rotate_left
 all_goals (show Value.bool _=Value.bool W;congr 1;rw [hW];first | (simp [show m≤64 by omega];done) | (simp [show ¬ m≤64 by omega];done))
theorem badIx (C:Option Addr) (L:List Ent) (m d bo:Nat) (s:Int) (hm:m=L.length) (hm1:m≤1000000) :
 Triple Tryz.prog 120 [.slice C m d,badFn bo] [Pt bo 3 [.int .i64 s]] [Rd 6 C m (L.flatMap encE)] Int (fun k=>.int .i64 k) (fun k=>decide (0≤k)=L.any (entBad s)) (fun _=>[Pt bo 3 [.int .i64 s]]):=by
 refine aT Tryz.func120 [vL C m d,.va (badFn bo)] [.box bo 3 [vI s]] (fun E=>?_) ⟨trivial,trivial,trivial⟩
 refine aG ?_
 refine ev_stop (go_loopR [4,5,8,9,10,11,12,13,14,15,16,17,18] (fun i=>[(8,vI (i:Nat))]) (fun _=>[]) (fun i=>i≤m∧(L.take i).any (entBad s)=false) (fun i=>m-i) (0:Nat) ⟨Nat.zero_le _,by simp⟩ aS (fun i h_=>?_))
 obtain ⟨hi,ha⟩:=h_
 rcases Nat.lt_or_ge i m with him | him
 · have hil:i<L.length:=by omega
   have T2:=badT L[i] bo s
   have ha2:(L.take (i+1)).any (entBad s)=entBad s L[i]:=by rw [←List.take_append_getElem hil,List.any_append,ha];simp
   have hany:entBad s L[i]=true→L.any (entBad s)=true:=fun h=>List.any_eq_true.2 ⟨_,List.getElem_mem hil,h⟩
   obtain ⟨b,hb⟩:∃ b,b=entBad s L[i]:=⟨_,rfl⟩
   rw [←hb] at T2 ha2 hany
   refine aG ?_
   refine aJ ?_ (decide_eq_true (show (↑i:Int)<(↑m:Int) from (by omega)))
   refine ev_stop (go_indexE (sz:=6) Tryz.tbs_ok (.inl 0) (i) rfl rfl rfl rfl rfl rfl (by omega) rfl (fun _ h=>h) (fun g10 o12 e11=>?_))
   subst e11
   refine aG ?_
   have l13:i<(L).length:=(by omega)
   refine ev_stop (go_loadE Tryz.tbs_ok (.inl 0) (i) 0 rfl rfl rfl rfl (fun _ h=>h) (by omega) (fun _=>rfl) (by omega) l13 (by decide) ?_)
   refine aG ?_
   refine aD T2 [0] [] (fun v0_=>[.box (bo) 3 [vI s]]) fun _ h14=>?_
   refine ev_if (fun h15=>?_) (fun h15=>?_)
   refine aG ?_
   refine ev_fin ⟨trivial,_,rfl,((↑i:Int)),rfl,?_,Frm.sel [0] rfl (by decide)⟩
   rotate_left
   refine aG ?_
   refine wN (i+1) ?_
   refine ev_fin (round_next (i+1) (?_:i+1≤m∧(List.take (i+1) L).any (entBad s)=false) (show m-(i+1)<m-i from (by omega)) aS)
   rotate_left
   all_goals first | (show decide _=_;grind) | (exact ⟨by omega,by grind⟩)
 have hir:i=m:=by omega
 rw [show L.take i=L from List.take_of_length_le (by omega)] at ha
 refine aG ?_
 refine aI ?_ (decide_eq_false (show ¬(↑i:Int)<(↑m:Int) from (by omega)))
 refine ev_fin (go Tryz.tbs_ok 1000 ?_)
 refine ev_fin ⟨trivial,_,rfl,(-1),rfl,(by simp [*]),Frm.sel [0] rfl (by decide)⟩
theorem hasBad (C:Option Addr) (L:List Ent) (m d bo:Nat) (s:Int) (hm:m=L.length) (hm1:m≤1000000) :
 Triple Tryz.prog 172 [.slice C m d,badFn bo] [Pt bo 3 [.int .i64 s]] [Rd 6 C m (L.flatMap encE)] Unit (fun _=>.bool (L.any (entBad s))) (fun _=>True) (fun _=>[Pt bo 3 [.int .i64 s]]):=by
 have T1:=badIx C L m d bo s hm hm1
 obtain ⟨b,hb⟩:∃ b,b=L.any (entBad s):=⟨_,rfl⟩
 rw [←hb] at T1 ⊢
 refine aT Tryz.func172 [vL C m d,.va (badFn bo)] [.box bo 3 [vI s]] (fun E=>?_) ⟨trivial,trivial,trivial⟩
 refine aG ?_
 refine aD T1 [0] [.inl 0] (fun v0_=>[.box (bo) 3 [vI s]]) fun x0 h1=>?_
 refine ev_fin ⟨trivial,_,rfl,(),?_,by trivial,aF [0]⟩
 exact congrArg Value.bool h1
def sptBad (y:Spt):Bool := !(decide (0≤y.s)&&decide (y.s<4)&&decide (0≤y.i)&&decide (y.i<64))
def sptFn:Value:=.func (.func 237) #[] #[]
theorem sptBadT (x:Spt):Triple Tryz.prog 237 [.agg (encP x).toArray] [] [] Unit (fun _=>.bool (sptBad x)) (fun _=>True) (fun _=>[]):=by
 obtain ⟨B,hB⟩:∃ B,B=sptBad x:=⟨_,rfl⟩
 rw [←hB]
 unfold sptBad at hB
 obtain ⟨s,i⟩:=x
 replace hB:B = !(decide (0≤s)&&decide (s<4)&&decide (0≤i)&&decide (i<64)):=hB
 refine aT Tryz.func237 [.ag [vI s,vI i]] [] (fun E=>?_) ⟨⟨trivial,trivial,trivial⟩,trivial⟩
 refine aG ?_
 refine ev_new fun b0=>?_
 refine ev_inline Tryz.tbs_ok Tryz.func184 rfl rfl ?_
 refine aG ?_
 refine ev_if_lt (fun h1=>?_) (fun h1=>?_)
 refine aG ?_
 refine ev_fin ⟨trivial,aL,_,rfl,?_⟩
 refine aG ?_
 refine ev_if_nd (fun h2=>?_) (fun h2=>?_)
 refine aG ?_
 refine ev_fin ⟨trivial,_,rfl,(()),?_,(by trivial),Frm.nil _⟩
 rotate_left
 refine aG ?_
 refine ev_if_lt (fun h3=>?_) (fun h3=>?_)
 refine aG ?_
 refine ev_fin ⟨trivial,_,rfl,(()),?_,(by trivial),Frm.nil _⟩
 rotate_left
 refine aG ?_
 refine ev_fin ⟨trivial,_,rfl,(()),?_,(by trivial),Frm.nil _⟩
 rotate_left
 refine aG ?_
 refine ev_fin ⟨trivial,aL,_,rfl,?_⟩
 refine aG ?_
 refine ev_fin ⟨trivial,_,rfl,(()),?_,(by trivial),Frm.nil _⟩
 rotate_left
 all_goals (show Value.bool _=Value.bool B;congr 1;first | grind | (rw [hB];by_cases q:i<64<;>simp_all<;>omega))
theorem sptIx (C:Option Addr) (L:List Spt) (m d:Nat) (hm:m=L.length) (hm1:m≤1000000) :
 Triple Tryz.prog 273 [.slice C m d,sptFn] [] [Rd 2 C m (L.flatMap encP)] Int (fun k=>.int .i64 k) (fun k=>decide (0≤k)=L.any sptBad) (fun _=>[]):=by
 refine aT Tryz.func273 [vL C m d,.va (sptFn)] [] (fun E=>?_) ⟨trivial,trivial,trivial⟩
 refine aG ?_
 refine ev_stop (go_loopR [4,5,8,9,10,11,12,13,14,15,16,17,18] (fun i=>[(8,vI (i:Nat))]) (fun _=>[]) (fun i=>i≤m∧(L.take i).any sptBad=false) (fun i=>m-i) (0:Nat) ⟨Nat.zero_le _,by simp⟩ aS (fun i h_=>?_))
 obtain ⟨hi,ha⟩:=h_
 rcases Nat.lt_or_ge i m with him | him
 · have hil:i<L.length:=by omega
   have T2:=sptBadT L[i]
   have ha2:(L.take (i+1)).any sptBad=sptBad L[i]:=by rw [←List.take_append_getElem hil,List.any_append,ha];simp
   have hany:sptBad L[i]=true→L.any sptBad=true:=fun h=>List.any_eq_true.2 ⟨_,List.getElem_mem hil,h⟩
   obtain ⟨b,hb⟩:∃ b,b=sptBad L[i]:=⟨_,rfl⟩
   rw [←hb] at T2 ha2 hany
   refine aG ?_
   refine aJ ?_ (decide_eq_true (show (↑i:Int)<(↑m:Int) from (by omega)))
   refine ev_stop (go_indexE (sz:=2) Tryz.tbs_ok (.inl 0) (i) rfl rfl rfl rfl rfl rfl (by omega) rfl (fun _ h=>h) (fun g10 o12 e11=>?_))
   subst e11
   refine aG ?_
   have l13:i<(L).length:=(by omega)
   refine ev_stop (go_loadE Tryz.tbs_ok (.inl 0) (i) 0 rfl rfl rfl rfl (fun _ h=>h) (by omega) (fun _=>rfl) (by omega) l13 (by decide) ?_)
   refine aG ?_
   refine aC T2 [] [] fun _ h14=>?_
   refine ev_if (fun h15=>?_) (fun h15=>?_)
   refine aG ?_
   refine ev_fin ⟨trivial,_,rfl,((↑i:Int)),rfl,?_,Frm.nil _⟩
   rotate_left
   refine aG ?_
   refine wN (i+1) ?_
   refine ev_fin (round_next (i+1) (?_:i+1≤m∧(List.take (i+1) L).any sptBad=false) (show m-(i+1)<m-i from (by omega)) aS)
   rotate_left
   all_goals first | (show decide _=_;grind) | (exact ⟨by omega,by grind⟩)
 have hir:i=m:=by omega
 rw [show L.take i=L from List.take_of_length_le (by omega)] at ha
 refine aG ?_
 refine aI ?_ (decide_eq_false (show ¬(↑i:Int)<(↑m:Int) from (by omega)))
 refine ev_fin (go Tryz.tbs_ok 1000 ?_)
 refine ev_fin ⟨trivial,_,rfl,(-1),rfl,(by simp [*]),Frm.nil _⟩
theorem hasSpt (C:Option Addr) (L:List Spt) (m d:Nat) (hm:m=L.length) (hm1:m≤1000000) :
 Triple Tryz.prog 236 [.slice C m d,sptFn] [] [Rd 2 C m (L.flatMap encP)] Unit (fun _=>.bool (L.any sptBad)) (fun _=>True) (fun _=>[]):=by
 have T1:=sptIx C L m d hm hm1
 obtain ⟨b,hb⟩:∃ b,b=L.any sptBad:=⟨_,rfl⟩
 rw [←hb] at T1 ⊢
 refine aT Tryz.func236 [vL C m d,.va (sptFn)] [] (fun E=>?_) ⟨trivial,trivial,trivial⟩
 refine aG ?_
 refine aC T1 [] [.inl 0] fun x0 h1=>?_
 refine ev_fin ⟨trivial,_,rfl,(()),?_,(by trivial),Frm.nil _⟩
 exact congrArg Value.bool h1
theorem logE_any (L:List Ent) (s f:Int):logE L s f=(decide (0≤f)&&decide (f≤64)&&decide ((L.length:Int)≤64-f) && !L.any (entBad s)):=by
 unfold logE
 congr 1
 rw [List.not_any_eq_all_not]
 simp only [entBad,Bool.not_not]
theorem feedE_any (F:List Spt):feedE F=(decide (F.length≤256) && !F.any sptBad):=by
 unfold feedE
 congr 1
 rw [List.not_any_eq_all_not]
 simp only [sptBad,Bool.not_not]
theorem logT (C:Option Addr) (L:List Ent) (m d:Nat) (s f:Int) (hm:m=L.length) (hm1:m≤1000000) :
 Triple Tryz.prog 126 [.slice C m d,.int .i64 s,.int .i64 f] [] [Rd 6 C m (L.flatMap encE)] Unit (fun _=>.bool (logE L s f)) (fun _=>True) (fun _=>[]):=by
 have T1:=fun bo=>hasBad C L m d bo s hm hm1
 rw [logE_any]
 obtain ⟨b,hb⟩:∃ b,b=L.any (entBad s):=⟨_,rfl⟩
 obtain ⟨R,hR⟩:∃ R,R=(decide (0≤f)&&decide (f≤64)&&decide ((L.length:Int)≤64-f) && !b):=⟨_,rfl⟩
 simp only [←hb] at T1 ⊢
 rw [←hR]
 rw [←hm] at hR
 unfold badFn at T1
 refine aT Tryz.func126 [vL C m d,vI s,vI f] [] (fun E=>?_) ⟨trivial,trivial,trivial,trivial⟩
 refine aG ?_
 refine ev_new fun b0=>?_
 refine ev_inline Tryz.tbs_ok Tryz.func171 rfl rfl ?_
 refine aG ?_
 refine ev_if_lt (fun h1=>?_) (fun h1=>?_)
 refine aG ?_
 refine ev_fin ⟨trivial,aL,_,rfl,?_⟩
 refine aG ?_
 refine ev_if_lt (fun h2=>?_) (fun h2=>?_)
 refine aG ?_
 refine w6 ?_
 refine ev_if_lt (fun h3=>?_) (fun h3=>?_)
 refine aG ?_
 refine aD (T1 (b0)) [0] [.inl 0] (fun v0_=>[.box (b0) 3 [vI s]]) fun _ h4=>?_
 refine ev_fin ⟨trivial,_,rfl,(()),?_,(by trivial),Frm.nil _⟩
 rotate_left
 refine aG ?_
 refine ev_fin ⟨trivial,_,rfl,(()),?_,(by trivial),Frm.nil _⟩
 rotate_left
 refine aG ?_
 refine ev_fin ⟨trivial,_,rfl,(()),?_,(by trivial),Frm.nil _⟩
 rotate_left
 refine aG ?_
 refine ev_fin ⟨trivial,aL,_,rfl,?_⟩
 refine aG ?_
 refine ev_fin ⟨trivial,_,rfl,(()),?_,(by trivial),Frm.nil _⟩
 rotate_left
 all_goals (show Value.bool _=Value.bool R;congr 1;first | grind | (rw [hR];simp [*];try omega))
theorem feedT (C:Option Addr) (L:List Spt) (m d:Nat) (hm:m=L.length) (hm1:m≤1000000) :
 Triple Tryz.prog 186 [.slice C m d] [] [Rd 2 C m (L.flatMap encP)] Unit (fun _=>.bool (feedE L)) (fun _=>True) (fun _=>[]):=by
 have T1:=hasSpt C L m d hm hm1
 rw [feedE_any]
 obtain ⟨b,hb⟩:∃ b,b=L.any sptBad:=⟨_,rfl⟩
 obtain ⟨R,hR⟩:∃ R,R=(decide (L.length≤256) && !b):=⟨_,rfl⟩
 rw [←hb] at T1 ⊢
 rw [←hR]
 rw [←hm] at hR
 unfold sptFn at T1
 refine aT Tryz.func186 [vL C m d] [] (fun E=>?_) ⟨trivial,trivial⟩
 refine aG ?_
 refine ev_if_lt (fun h0=>?_) (fun h0=>?_)
 refine aG ?_
 refine aC T1 [] [.inl 0] fun _ h1=>?_
 refine ev_fin ⟨trivial,_,rfl,(()),?_,(by trivial),Frm.nil _⟩
 rotate_left
 refine aG ?_
 refine ev_fin ⟨trivial,_,rfl,(()),?_,(by trivial),Frm.nil _⟩
 rotate_left
 all_goals (show Value.bool _=Value.bool R;congr 1;first | grind | (rw [hR];simp [*];try omega))
structure RecS where
 r:Rec
 A:Option Addr
 a:Nat
 B:Option Addr
 b:Nat
def encR (x:RecS):List Value:=[.int .i64 x.r.k,.int .i64 x.r.s,.int .i64 x.r.e,.int .i64 x.r.v,.int .i64 x.r.f,.int .i64 x.r.n,.slice x.A x.r.L.length x.a,.slice x.B x.r.F.length x.b]
def RecS.rdL (x:RecS):Asn:=Rd 6 x.A x.r.L.length (x.r.L.flatMap encE)
def RecS.rdF (x:RecS):Asn:=Rd 2 x.B x.r.F.length (x.r.F.flatMap encP)
end Go.Proofs.YtnhoidnmlibcpaaGreatDoor
namespace Go.Sy
open Go.RowKit
section
variable {P:Program} {T:Tbs} {E:Entry} {Q:Exit→St→Prop} {ops:Array Oper} {l:List Oper} {r:List It} {st:St} {α:Type} {enc:α→List Value}
theorem place_end (res:List Res) (x:Res):place res [] [x]=res++[x]:=by
 apply List.ext_getElem?
 intro k
 unfold place
 rw [List.getElem?_map]
 rcases Nat.lt_or_ge k res.length with h1 | h1
 · rw [List.getElem?_range (by simp;omega),List.getElem?_append_left h1]
   simp [placeAt,idxOf,List.getElem?_eq_getElem h1]
 rcases Nat.lt_or_ge k (res.length+1) with h2 | h2
 · obtain rfl:k=res.length:=by omega
   rw [List.getElem?_range (by simp),List.getElem?_append_right (Nat.le_refl _)]
   simp [placeAt,idxOf]
 rw [List.getElem?_eq_none (by simp;omega),List.getElem?_eq_none (by simp;omega)]
 rfl
theorem go_appendG (hT:TbsOk P T) {dst:Option Tmp} {s x:Operand} {t ty:TypeId} {pos:String} {after:Array Edge} {gd:Option (Nat × Bool)} {A:Option Addr} {n c m c':Nat} {A':Option Addr} {et sz bts:Nat} {D B:Asn} (dsrc src:Sum Nat Nat) (L L2 L3:List α) (n':Nat)
 (hg:guardS ops st.fr ⟨dst,.call { callee:=.builtin .append,args := #[s,x],argTypes := #[t,t] },ty,pos,after,gd⟩ = .run)
 (hs:(ev st.fr s).den = .slice A n c) (hsno:(ev st.fr s).isNo=false) (hx:(ev st.fr x).den = .slice A' m c') (hxno:(ev st.fr x).isNo=false)
 (ht:(te T.tab t).map (·.k)=some (.slice et)) (he':(te T.tab et).map (fun e=>(e.size,e.bytes,e.zero.length))=some (sz,bts,sz)) (hpos:0<sz)
 (hdsrc:has st dsrc D) (hD:∀ h,D.holds h→(Rd sz A n (L.flatMap enc)).holds h) (hnil:A=none→c=0)
 (hsrc:has st src B) (hB:∀ h,B.holds h→(Rd sz A' m (L2.flatMap enc)).holds h)
 (h3:L++L2=L3) (hn':n'=n+m) (hfull:c<n+m) (hm:0<m) (hmax:n+m≤maxLen) (hbytes:(n+m)*bts≤140737488355328)
 (hb:∀ A2 c2,blkLe st.res (st.res++[.fact (Row et sz A2 n' c2 (L3.flatMap enc))]))
 (h:∀ A2 c2,n'≤c2→Go P E (.o ops l::r) (St.put ⟨st.fr,st.res++[.fact (Row et sz A2 n' c2 (L3.flatMap enc))],st.ro⟩ dst (.va (.slice A2 n' c2))) Q) :
 Go P E (.o ops (⟨dst,.call { callee:=.builtin .append,args := #[s,x],argTypes := #[t,t] },ty,pos,after,gd⟩::l)::r) st Q:=by
 subst hn'
 obtain ⟨e,he,hsz,hbts,hz⟩:∃ e,te T.tab et=some e∧e.size=sz∧e.bytes=bts∧e.zero.length=e.size:=by
  cases hq:te T.tab et with
  | none=>rw [hq] at he';cases he'
  |
   some e =>
   rw [hq] at he'
   simp only [Option.map_some,Option.some.injEq,Prod.mk.injEq] at he'
   exact ⟨e,rfl,he'.1,he'.2.1,he'.2.2.trans he'.1.symm⟩
 subst hsz hbts
 refine Go.step fun a w hR=>⟨by have:=guard_spec hR.fr (ops:=ops) ⟨dst,.call { callee:=.builtin .append,args := #[s,x],argTypes := #[t,t] },ty,pos,after,gd⟩;rw [hg] at this;exact this,?_⟩
 obtain ⟨hs',hi',hres⟩:=hR.res
 have cells:∀ {A:Option Addr} {k:Nat} {cs:List Value} {h:Hp},h.le (hp w)→(Rd e.size A k cs).holds h→∀ {b:Addr},A=some b→∀ j v,cs[j]? = some v→w.cell? (b.add j)=some v:=fun {A k cs h} hle q {b} hA j v hv=>by
  have hk:0<k:=by
   rcases Nat.eq_zero_or_pos k with h0 | h0
   · have:=q.1
     rw [h0,Nat.zero_mul] at this
     rw [List.eq_nil_of_length_eq_zero this] at hv
     cases hv
   exact h0
  obtain ⟨g,o,cur,e2,fz,hA2,hcur,htk⟩:=q.2.2 hk
  rw [hA] at hA2
  cases hA2
  rw [addr_add,cell_of_row w g _ _ e2 fz (hle g _ hcur)]
  rw [←htk,List.getElem?_take] at hv
  split at hv
  · rw [List.getElem?_drop] at hv
    rw [←Array.getElem?_toList,←hv]
  cases hv
 have hd:=hD _ (has_holds hdsrc hres)
 have hq:=hB _ (has_holds hsrc hres)
 obtain ⟨b2,hb2⟩:∃ b2,A'=some b2:=let ⟨g,o,_,_,_,h,_⟩:=hq.2.2 hm;⟨_,h⟩
 subst hb2
 cases htt:te T.tab t with
 | none=>rw [htt] at ht;cases ht
 |
  some et' =>
  rw [htt] at ht
  simp at ht
  obtain ⟨ii,u,zz,hii,hu,hz',hk,_⟩:=te_spec hT.tab htt
  obtain ⟨i2,u2,z2,hi2,hu2,hz2,hk2,hs2,hb2,hz2'⟩:=te_spec hT.tab he
  rw [ht] at hk
  cases u<;>simp [tkOf] at hk
  subst hk
  have hzs:z2.cells.size=e.size:=by rw [←hz,hz2'];simp
  have key:∃ v' w',(Builtin.append_ #[t,t] ty #[.slice A n c,.slice (some b2) m c']).run P w = .ok v' w'∧w'.ownsRow w.heap.size et e.size v' (n+m) (L.flatMap enc++L2.flatMap enc)∧w.grownBy w' none:=by
   cases A with
   |
    none =>
    obtain rfl:=hnil rfl
    obtain rfl:n=0:=by
     rcases Nat.eq_zero_or_pos n with h0 | h0
     · exact h0
     obtain ⟨_,_,_,_,_,h,_⟩:=hd.2.2 h0
     cases h
    have h0:L.flatMap enc=[]:=List.eq_nil_of_length_eq_zero (by rw [hd.1,Nat.zero_mul])
    rw [h0]
    obtain ⟨v',w',h1,h2,h3,h4,h5⟩:=Go.run_append_own_at (P:=P) w 0 t ty et i2 z2 e.size e.bytes hu hi2 hz2 hs2.symm hb2.symm hzs hpos (.slice none 0 0) 0 [] ⟨by simp,.inl ⟨rfl,rfl⟩⟩ b2 m c' (L2.flatMap enc) hq.1 (cells (Hp.le_refl _) hq rfl) hq.2.1 hmax hbytes (Nat.zero_le _)
    refine ⟨v',w',h1,⟨h2.1,?_⟩,h3⟩
    rcases h2.2 with ⟨q1,q2⟩ | ⟨g,cap,cur,rfl,q1,q2⟩
    · omega
    refine .inr ⟨g,cap,cur,rfl,?_,q2⟩
    rcases h5 with h5 | h5
    · cases h5
    cases h5
    exact Nat.le_refl _
   | some b=>exact run_append_arg_grows (P:=P) w t ty et i2 z2 e.size e.bytes hu hi2 hz2 hs2.symm hb2.symm hzs hpos b n c (L.flatMap enc) hd.1 (cells (Hp.le_refl _) hd rfl) b2 m c' (L2.flatMap enc) hq.1 (cells (Hp.le_refl _) hq rfl) hfull hmax hbytes
  obtain ⟨v',w',hrun,hown,hgr⟩:=key
  rw [←List.flatMap_append,h3] at hown
  obtain ⟨hl,hc⟩:=hown
  rcases hc with ⟨_,h0⟩ | ⟨g2,cap,cur,rfl,hge,hg2,hnc,hcm,hsz,htk⟩
  · omega
  have hone:∀ v∈L3.flatMap enc,v.oneCell'=true:=fun v hv=>by
   rw [←h3,List.flatMap_append] at hv
   rcases List.mem_append.1 hv with hv | hv
   · exact hd.2.1 v hv
   exact hq.2.1 v hv
  have hR2:=place_ok (w':=w') hres [] Hp.emp (fun b hb=>absurd rfl hb) [.fact (Row et e.size (some ⟨g2,0,none⟩) (n+m) cap (L3.flatMap enc))] (Hp.one g2 (.cells cur et (0,0))) (starH_one.2 ⟨hl,hone,.inr ⟨g2,cur,rfl,Hp.one_self _ _,hnc,hcm,hsz,htk⟩⟩) (Hp.one_le hg2) ⟨hgr.os,hgr.tape,hgr.output,hgr.size,fun b hb _=>hgr.block b hb (by simp)⟩ (fun b hb'=>?_) (newsOk_fact (newsOk_nil _)) (by rw [place_end];exact hb (some ⟨g2,0,none⟩) cap)
  · obtain ⟨hs2,hres2⟩:=hR2
    rw [place_end] at hres2
    refine wp_value (v:=.slice (some ⟨g2,0,none⟩) (n+m) cap) (w':=w') ?_ (h (some ⟨g2,0,none⟩) cap hnc _ _ ?_)
    · simp [execOp,resolve,invoke,builtin,ev_denv hR.fr rfl hsno,ev_denv hR.fr rfl hxno,hs,hx,hrun]
    have hR':R E ⟨st.fr,st.res++[.fact (Row et e.size (some ⟨g2,0,none⟩) (n+m) cap (L3.flatMap enc))],st.ro⟩ a w':=⟨hR.fr.mono (blkLe_spec (hb (some ⟨g2,0,none⟩) cap)),_,_,hres2⟩
    exact hR'.put dst (x:=.va (.slice (some ⟨g2,0,none⟩) (n+m) cap)) rfl trivial
  right
  by_cases e:b=g2
  · rw [e];exact hge
  exact absurd (Hp.one_none e) hb'
theorem go_append0 (hT:TbsOk P T) {dst:Option Tmp} {s x:Operand} {t ty:TypeId} {pos:String} {after:Array Edge} {gd:Option (Nat × Bool)} {A A':Option Addr} {n c c':Nat} {et sz:Nat}
 (hg:guardS ops st.fr ⟨dst,.call { callee:=.builtin .append,args := #[s,x],argTypes := #[t,t] },ty,pos,after,gd⟩ = .run)
 (hs:(ev st.fr s).den = .slice A n c) (hsno:(ev st.fr s).isNo=false) (hx:(ev st.fr x).den = .slice A' 0 c') (hxno:(ev st.fr x).isNo=false)
 (ht:(te T.tab t).map (·.k)=some (.slice et)) (he':(te T.tab et).map (·.size)=some sz) (hnc:n≤c)
 (h:Go P E (.o ops l::r) (St.put st dst (.va (.slice A n c))) Q) :
 Go P E (.o ops (⟨dst,.call { callee:=.builtin .append,args := #[s,x],argTypes := #[t,t] },ty,pos,after,gd⟩::l)::r) st Q :=
 go_val (o:=⟨dst,.call { callee:=.builtin .append,args := #[s,x],argTypes := #[t,t] },ty,pos,after,gd⟩) hg (.va (.slice A n c)) trivial (fun a w hR=>by
  have hu:=und_slice hT ht
  cases hq:te T.tab et with
  | none=>rw [hq] at he';cases he'
  |
   some e =>
   obtain ⟨i2,u2,z2,hi2,_⟩:=te_spec hT.tab hq
   have hrun:(Builtin.append_ #[t,t] ty #[.slice A n c,.slice A' 0 c']).run P w = .ok (.slice A n c) w:=by
    cases A<;>cases A'<;>simp [Builtin.append_,run_underlying hu,sizeOf,typeInfo,hi2,Builtin.lenOf,Builtin.firstCells,loadCells,loadCellsFrom,hnc,storeCells]
   simp [execOp,resolve,invoke,builtin,ev_denv hR.fr rfl hsno,ev_denv hR.fr rfl hxno,hs,hx,hrun,SV.den]) h
end
end Go.Sy
namespace Go.Proofs.YtnhoidnmlibcpaaGreatDoor
open Go.Sy Go.RowKit
structure RegS where
 r:Reg
 A:Option Addr
 a:Nat
def encG (x:RegS):List Value:=[.int .i64 x.r.p,.int .i64 x.r.v,.slice x.A x.r.L.length x.a,.int .i64 x.r.c]
def RegS.rd (x:RegS):Asn:=Rd 6 x.A x.r.L.length (x.r.L.flatMap encE)
theorem checkG (x:RegS) (hl:x.r.L.length≤1000000):Triple Tryz.prog 82 [.agg (encG x).toArray] [] [x.rd] Unit (fun _=>.bool (okR x.r)) (fun _=>True) (fun _=>[]):=by
 obtain ⟨⟨p,v,L,c⟩,A,a⟩:=x
 obtain ⟨m,hm⟩:∃ m,m=L.length:=⟨_,rfl⟩
 have T1:=wholeET A L m a v hm (by rw [hm];exact hl)
 obtain ⟨w,hw⟩:∃ w,w=wholeE L v:=⟨_,rfl⟩
 obtain ⟨R,hR⟩:∃ R,R=okR ⟨p,v,L,c⟩:=⟨_,rfl⟩
 rw [←hw] at T1
 rw [←hR]
 unfold okR at hR
 simp only [←hw,←hm] at hR
 unfold RegS.rd encG
 simp only [←hm]
 refine aT Tryz.func82 [.ag [vI p,vI v,vL A m a,vI c]] [] (fun E=>?_) ⟨⟨trivial,trivial,trivial,trivial,trivial⟩,trivial⟩
 refine aG ?_
 refine ev_new fun b0=>?_
 refine ev_if_lt (fun h1=>?_) (fun h1=>?_)
 refine aG ?_
 refine ev_if_lt (fun h2=>?_) (fun h2=>?_)
 refine aG ?_
 refine ev_if_lt (fun h3=>?_) (fun h3=>?_)
 refine aG ?_
 refine aC T1 [] [.inl 0] fun _ h4=>?_
 refine ev_if (fun h5=>?_) (fun h5=>?_)
 refine aG ?_
 refine ev_if_lt (fun h6=>?_) (fun h6=>?_)
 refine aG ?_
 refine ev_fin ⟨trivial,_,rfl,(()),?_,(by trivial),Frm.nil _⟩
 rotate_left
 refine aG ?_
 refine ev_fin ⟨trivial,_,rfl,(()),?_,(by trivial),Frm.nil _⟩
 rotate_left
 refine aG ?_
 refine ev_fin ⟨trivial,_,rfl,(()),?_,(by trivial),Frm.nil _⟩
 rotate_left
 refine aG ?_
 refine ev_fin ⟨trivial,_,rfl,(()),?_,(by trivial),Frm.nil _⟩
 rotate_left
 refine aG ?_
 refine ev_fin ⟨trivial,_,rfl,(()),?_,(by trivial),Frm.nil _⟩
 rotate_left
 refine aG ?_
 refine ev_fin ⟨trivial,_,rfl,(()),?_,(by trivial),Frm.nil _⟩
 rotate_left
 all_goals (show Value.bool _=Value.bool R;congr 1;rw [hR];first | grind | (simp [*];first | done | omega))
theorem cloneG (x:RegS) (hl:x.r.L.length≤100000):Triple Tryz.prog 70 [.agg (encG x).toArray] [] [x.rd] Sl (fun (A',c')=>.agg (encG ⟨x.r,A',c'⟩).toArray) (fun (_,c')=>x.r.L.length≤c') (fun (A',c')=>[Row 127 6 A' x.r.L.length c' (x.r.L.flatMap encE)]):=by
 obtain ⟨⟨p,v,L,c⟩,A,a⟩:=x
 obtain ⟨m,hm⟩:∃ m,m=L.length:=⟨_,rfl⟩
 have T1:=cloneE A L m a hm (by rw [hm];exact hl)
 unfold RegS.rd encG
 simp only [←hm]
 refine aT Tryz.func70 [.ag [vI p,vI v,vL A m a,vI c]] [] (fun E=>?_) ⟨⟨trivial,trivial,trivial,trivial,trivial⟩,trivial⟩
 refine aG ?_
 refine ev_new fun b0=>?_
 refine ev_new fun b1=>?_
 refine aC T1 [] [.inl 0] fun ⟨x2,x3⟩ h4=>?_
 exact ev_fin ⟨trivial,_,rfl,((x2,x3)),rfl,by trivial,aF [2]⟩
end Go.Proofs.YtnhoidnmlibcpaaGreatDoor
namespace Go.Sy
open Go.RowKit
section
variable {P:Program} {T:Tbs} {E:Entry} {Q:Exit→St→Prop} {ops:Array Oper} {l:List Oper} {r:List It} {st:St}
theorem go_indexArrV (hT:TbsOk P T) {dst:Option Tmp} {t:TypeId} {x i:Operand} {ty:TypeId} {pos:String} {after:Array Edge} {gd:Option (Nat × Bool)} {b off n et sz:Nat} {k:IntKind} {c:Nat} (j:Nat)
 (hg:guardS ops st.fr ⟨dst,.indexAddr t x i,ty,pos,after,gd⟩ = .run)
 (hx:ev st.fr x = .va (.pointer (some ⟨b,off,none⟩))) (hi:(ev st.fr i).den = .int k (j:Int)) (hino:(ev st.fr i).isNo=false) (ht:(te T.tab t).map (·.k)=some (.arr n et)) (he:(te T.tab et).map (·.size)=some sz) (hj:j<n)
 (hc:off+j*sz=c)
 (h:Go P E (.o ops l::r) (st.put dst (.va (.pointer (some ⟨b,c,none⟩)))) Q):Go P E (.o ops (⟨dst,.indexAddr t x i,ty,pos,after,gd⟩::l)::r) st Q:=by
 subst hc
 refine go_val (o:=⟨dst,.indexAddr t x i,ty,pos,after,gd⟩) hg (.va (.pointer (some ⟨b,off+j*sz,none⟩))) trivial (fun a w hR=>?_) h
 have hc:(0:Int)≤(j:Int)∧(j:Int)<(n:Int):=⟨by omega,by omega⟩
 simp [execOp,ev_denv hR.fr rfl (show (ev st.fr x).isNo=false by rw [hx];rfl),hx,ev_denv hR.fr rfl hino,hi,SV.den,Instr.indexAt,asIntOf,run_underlying (und_arr hT ht),Instr.sureAddr,size_te hT he,hc,addr_add]
 intro hh;omega
theorem go_storeP (hT:TbsOk P T) {t:TypeId} {x z:Operand} {ty:TypeId} {pos:String} {after:Array Edge} {gd:Option (Nat × Bool)} {i g e o:Nat} {cells vs:List Value} {te':TE} (cells':List Value)
 (hg:guardS ops st.fr ⟨none,.store t x z,ty,pos,after,gd⟩ = .run) (hx:ev st.fr x = .va (.pointer (some ⟨g,o,none⟩))) (hz:(ev st.fr z).den.cells.toList=vs) (hzno:(ev st.fr z).isNo=false)
 (ht:te T.tab t=some te') (hl:vs.length=te'.size) (h1:∀ v∈vs,v.oneCell'=true) (hi:st.res[i]? = some (.fact (Pt g e cells))) (hfit:o+vs.length≤cells.length) (hov:over cells o vs=cells')
 (h:Go P E (.o ops l::r) ⟨st.fr,st.res.set i (.fact (Pt g e cells')),st.ro⟩ Q):Go P E (.o ops (⟨none,.store t x z,ty,pos,after,gd⟩::l)::r) st Q:=by
 subst hov
 refine go_know (.inr i) (Pt g e cells) (asnAt_fact hi) (p:=∀ c∈cells,c.oneCell'=true) (fun _ p=>p.2) fun hone=>?_
 refine go_turn (X:=Unit) i _ (fun _=>Blk g e cells) hi (fun _ p=>⟨(),p.1⟩) fun _=>?_
 have hi2:=set_fact hi (.fact (Blk g e cells))
 have hlt:=(List.getElem?_eq_some_iff.1 hi2).1
 refine go_store hT i g e o cells vs te' hg hx hz hzno ht hl h1 (asnAt_fact hi2) hfit (by rw [place_one hlt];exact blkLe_set _ hi2) ?_
 rw [place_one hlt]
 refine go_turn (X:=Unit) i _ (fun _=>Pt g e (over cells o vs)) (set_fact hi2 _) (fun _ p=>⟨(),p,fun c hc=>?_⟩) fun _=>?_
 · unfold over at hc
   rcases List.mem_append.1 hc with hc | hc
   · rcases List.mem_append.1 hc with hc | hc
     · exact hone c (List.mem_of_mem_take hc)
     exact h1 c hc
   exact hone c (List.mem_of_mem_drop hc)
 simpa only [List.set_set] using h
end
section
variable {P:Program} {T:Tbs} {E:Entry} {Q:Exit→St→Prop} {ops:Array Oper} {l:List Oper} {r:List It} {st:St} {κ:Type} {encK:κ→Value}
theorem lookup_runC [DecidableEq κ] (hT:TbsOk P T) {t kt et:TypeId} {b:Nat} {es:List (κ × Value)} (K:KeyOk P kt encK) (k:κ) (z:Value) {w:World} (hB:(MapA encK b es).holds (hp w))
 (ht:(te T.tab t).map (·.k)=some (.map kt et)) (hz:∀ w,(zeroValue et).run P w = .ok z w) :
 (Instr.lookup t (.map (some b)) (encK k) true).run P w = .ok (.tuple #[lookE es k z,.bool (ixOf (es.map (·.1)) k).isSome]) w:=by
 obtain ⟨arr,clock,h1,h2,h3⟩:=hB
 have h1:w.heap[b]? = some (.map arr clock):=h1
 cases htt:te T.tab t with
 | none=>rw [htt] at ht;cases ht
 |
  some et' =>
  rw [htt] at ht
  simp at ht
  obtain ⟨ii,u,zz,hii,hu,hz',hk,_⟩:=te_spec hT.tab htt
  rw [ht] at hk
  cases u<;>simp [tkOf] at hk
  obtain ⟨rfl,rfl⟩:=hk
  have hf:=K.find k arr.toList (es.map (·.1)) w (by rw [h2,List.map_map];rfl)
  unfold lookE
  have hlen:arr.toList.length=es.length:=by simpa using congrArg List.length h3
  cases hix:ixOf (es.map (·.1)) k with
  |
   none =>
   rw [hix] at hf
   simp [Instr.lookup,run_underlying hu,MapKept.run_getObj_map h1,K.check,hf,hz,Result.andThen]
  |
   some j =>
   rw [hix] at hf
   have hj:j<es.length:=by
    have:=List.findIdx?_eq_some_iff_getElem.1 hix
    obtain ⟨hj,_⟩:=this
    simpa using hj
   have hj2:j<arr.toList.length:=by omega
   have e1:arr.toList[j].val=es[j].2:=by
    have:(arr.toList.map (fun e=>e.val))[j]? = (es.map (·.2))[j]? := by rw [h3]
    rw [List.getElem?_map,List.getElem?_map,List.getElem?_eq_getElem hj,List.getElem?_eq_getElem hj2] at this
    simpa using this
   simp only [Option.bind_some] at hf
   rw [List.getElem?_eq_getElem hj2] at hf
   simp only [Option.map_some] at hf
   simp [Instr.lookup,run_underlying hu,MapKept.run_getObj_map h1,K.check,hf,Result.andThen,List.getElem?_eq_getElem hj]
   simpa using e1
theorem go_lookupC [DecidableEq κ] (hT:TbsOk P T) {dst:Option Tmp} {t kt et:TypeId} {x ix:Operand} {ty:TypeId} {pos:String} {after:Array Edge} {gd:Option (Nat × Bool)} {b:Nat} {B:Asn} (es:List (κ × Value)) (K:KeyOk P kt encK) (k:κ) (z:Value) (v:SV) (c:Bool) (s:Sum Nat Nat)
 (hg:guardS ops st.fr ⟨dst,.lookup t x ix true,ty,pos,after,gd⟩ = .run) (hx:(ev st.fr x).den = .map (some b)) (hxno:(ev st.fr x).isNo=false) (hk:(ev st.fr ix).den=encK k) (hkno:(ev st.fr ix).isNo=false)
 (ht:(te T.tab t).map (·.k)=some (.map kt et)) (hz:∀ w,(zeroValue et).run P w = .ok z w) (hs:has st s B) (hB:∀ h,B.holds h→(MapA encK b es).holds h) (hv:lookE es k z=v.den) (hv2:∀ β,v.good β) (hc:(ixOf (es.map (·.1)) k).isSome=c)
 (h:Go P E (.o ops l::r) (st.put dst (.tu [v,.bl c])) Q):Go P E (.o ops (⟨dst,.lookup t x ix true,ty,pos,after,gd⟩::l)::r) st Q :=
 go_val (o:=⟨dst,.lookup t x ix true,ty,pos,after,gd⟩) hg (.tu [v,.bl c]) ⟨hv2 _,trivial,trivial⟩ (fun a w hR=>by
  obtain ⟨hs',hi',hres⟩:=hR.res
  have e1:a.eval x = .map (some b):=by rw [ev_denv hR.fr rfl hxno,hx]
  have e2:a.eval ix=encK k:=by rw [ev_denv hR.fr rfl hkno,hk]
  have:=lookup_runC hT K k z (hB _ (has_holds hs hres)) ht hz
  simp [execOp,e1,e2,this,hv,hc,SV.den,SV.denL]) h
def ifNilB:BinOp→Value→Option Bool
 | .eql,.nilIface=>some true
 | .eql,.iface _ _=>some false
 | .neq,.nilIface=>some false
 | .neq,.iface _ _=>some true
 | _,_=>none
theorem ifNil_run {t yt ty:TypeId} (h:P.underlying t=some (.interface (P.methodsAt t))) {op:BinOp} {x:Operand} {dst:Option Tmp} {pos:String} {after:Array Edge} {gd:Option (Nat × Bool)} {a:Act} {v:Value} (hx:a.eval x=v) {b:Bool} (hb:ifNilB op v=some b) (w:World) :
 (execOp a.eval ⟨dst,.binOp op t x (.const .nilIface) yt,ty,pos,after,gd⟩).run P w = .ok (.value (.bool b)) w:=by
 have hn:a.eval (.const .nilIface) = .nilIface:=rfl
 cases op<;>first | (cases hb;done) | skip
 all_goals
  cases v<;>first | (cases hb;done) | skip
  all_goals
   cases hb
   simp [execOp,hx,hn,eqGuard,run_eql_held_nil,run_neq_held_nil,run_eql_nil_nil,run_neq_nil_nil,h]
theorem go_ifNil {t yt ty:TypeId} (h:P.underlying t=some (.interface (P.methodsAt t))) {op:BinOp} {x:Operand} {dst:Option Tmp} {pos:String} {after:Array Edge} {gd:Option (Nat × Bool)} (b:Bool)
 (hg:guardS ops st.fr ⟨dst,.binOp op t x (.const .nilIface) yt,ty,pos,after,gd⟩ = .run) (hxno:(ev st.fr x).isNo=false) (hb:ifNilB op (ev st.fr x).den=some b)
 (k:Go P E (.o ops l::r) (st.put dst (.bl b)) Q):Go P E (.o ops (⟨dst,.binOp op t x (.const .nilIface) yt,ty,pos,after,gd⟩::l)::r) st Q :=
 go_val (o:=⟨dst,.binOp op t x (.const .nilIface) yt,ty,pos,after,gd⟩) hg (.bl b) trivial (fun _ w hR=>ifNil_run h (ev_denv hR.fr rfl hxno) hb w) k
theorem go_iface {t ty:TypeId} (h:P.underlying t=some (.struct (P.fieldsOf t))) {x:Operand} {dst:Option Tmp} {pos:String} {after:Array Edge} {gd:Option (Nat × Bool)}
 (hg:guardS ops st.fr ⟨dst,.makeInterface t x,ty,pos,after,gd⟩ = .run) (hxno:(ev st.fr x).isNo=false)
 (k:Go P E (.o ops l::r) (st.put dst (.va (.iface t (ev st.fr x).den))) Q):Go P E (.o ops (⟨dst,.makeInterface t x,ty,pos,after,gd⟩::l)::r) st Q :=
 go_val (o:=⟨dst,.makeInterface t x,ty,pos,after,gd⟩) hg (.va (.iface t (ev st.fr x).den)) trivial (fun a w hR=>by
  have e:=ev_denv hR.fr (x:=x) rfl hxno
  simp [execOp,Instr.makeInterface,run_underlying h,e,SV.den]) k
theorem go_sliceTo (hT:TbsOk P T) {dst:Option Tmp} {t:TypeId} {x hi:Operand} {ty:TypeId} {pos:String} {after:Array Edge} {gd:Option (Nat × Bool)} {rr b off n et sz:Nat} {kd:IntKind} (k:Nat)
 (hg:guardS ops st.fr ⟨dst,.slice t x none (some hi) none,ty,pos,after,gd⟩ = .run)
 (hx:ev st.fr x = .pt rr b off) (hhi:(ev st.fr hi).den = .int kd (k:Int)) (hno:(ev st.fr hi).isNo=false) (ht:(te T.tab t).map (·.k)=some (.arr n et)) (he:(te T.tab et).map (·.size)=some sz) (hk:k≤n) (hblk:blkAt st.res rr=some b)
 (h:Go P E (.o ops l::r) (st.put dst (.sl rr b off k n)) Q):Go P E (.o ops (⟨dst,.slice t x none (some hi) none,ty,pos,after,gd⟩::l)::r) st Q :=
 go_val (o:=⟨dst,.slice t x none (some hi) none,ty,pos,after,gd⟩) hg (.sl rr b off k n) hblk (fun a w hR=>by
  have e0:(if n=0 then (⟨b,off,none⟩:Addr) else (⟨b,off,none⟩:Addr).add (0*sz))=⟨b,off,none⟩:=by
   split
   · rfl
   rw [addr_add];simp
  have hc:(0:Int)≤(k:Int)∧(k:Int)≤(n:Int):=⟨by omega,by omega⟩
  simp only [execOp,ev_denv hR.fr rfl (show (ev st.fr x).isNo=false by rw [hx];rfl),hx,SV.den,Instr.sliceAt,Sem.run_bind,run_underlying (und_arr hT ht),Result.andThen_ok,Instr.sureAddr,Sem.run_pure,Instr.sliceBounds,Option.map_none,Option.map_some,ev_denv hR.fr rfl hno,hhi,Instr.sliceBound,asIntOf,hc,and_self,if_true,Int.toNat_natCast,size_te hT he,Nat.sub_zero,e0]) h
theorem go_loadL {α:Type} {enc:α→List Value} (hT:TbsOk P T) {dst:Option Tmp} {t:TypeId} {x:Operand} {ty:TypeId} {pos:String} {after:Array Edge} {gd:Option (Nat × Bool)} {g o' o sz n:Nat} {e:TE} {B:Asn} {L:List α} (s:Sum Nat Nat) (j k:Nat) (y:α)
 (hy:L[j]? = some y) (hg:guardS ops st.fr ⟨dst,.load t x,ty,pos,after,gd⟩ = .run)
 (hx:ev st.fr x = .va (.pointer (some ⟨g,o',none⟩))) (ht:te T.tab t=some e)
 (hs:has st s B) (hB:∀ h,B.holds h→(Rd sz (some ⟨g,o,none⟩) n (L.flatMap enc)).holds h) (ho:o'=o+(j*sz+k)) (hlen:∀ x,(enc x).length=sz) (hn:j<n) (hk:k+wideE e≤sz)
 (h:Go P E (.o ops l::r) (st.put dst (pickE e (enc y) k)) Q):Go P E (.o ops (⟨dst,.load t x,ty,pos,after,gd⟩::l)::r) st Q:=by
 obtain ⟨hj,rfl⟩:=List.getElem?_eq_some_iff.1 hy
 exact go_loadE hT s j k hg hx ht hs hB ho hlen hn hj hk h
theorem tk_loadL {α:Type} {enc:α→List Value} (hT:TbsOk P T) {full:Bool} {held:List (Nat × Res)} {ro0:List Asn} {q:Nat} {p:List (Nat × Bool)} {listed:List Bool} {dst:Option Tmp} {t:TypeId} {x:Operand} {ty:TypeId} {pos:String} {after:Array Edge} {gd:Option (Nat × Bool)} {g o' o sz n:Nat} {e:TE} {B:Asn} {L:List α} (s:Sum Nat Nat) (j k:Nat) (y:α)
 (hy:L[j]? = some y) (hchk:(heldOk held st.res∧ro0=st.ro)∧planOk ops full ((q,true)::p) listed=true) (hop:ops.toList[q]? = some ⟨dst,.load t x,ty,pos,after,gd⟩)
 (hg:guardS ops st.fr ⟨dst,.load t x,ty,pos,after,gd⟩ = .run)
 (hx:ev st.fr x = .va (.pointer (some ⟨g,o',none⟩))) (ht:te T.tab t=some e)
 (hs:hasD held ro0 s B) (hB:∀ h,B.holds h→(Rd sz (some ⟨g,o,none⟩) n (L.flatMap enc)).holds h) (ho:o'=o+(j*sz+k)) (hlen:∀ x,(enc x).length=sz) (hn:j<n) (hk:k+wideE e≤sz)
 (h:Go P E (.d ops full held ro0 p (listed.set q true)::r) (st.put dst (pickE e (enc y) k)) Q):Go P E (.d ops full held ro0 ((q,true)::p) listed::r) st Q:=by
 obtain ⟨hj,rfl⟩:=List.getElem?_eq_some_iff.1 hy
 exact tk_loadE hT s j k hchk hop hg hx ht hs hB ho hlen hn hj hk h
end
end Go.Sy
namespace Go.Proofs.YtnhoidnmlibcpaaGreatDoor
open Go.Sy Go.RowKit
set_option maxHeartbeats 1000000 in
theorem viewNo (x:RegS) (y:RecS) (hv:x.r.v≤x.r.p)
 (h:¬ (1≤y.r.e∧x.r.p≤y.r.e∧y.r.e≤1048576∧y.r.f=if y.r.e=x.r.v then (x.r.L.length:Int) else 0)) :
 Triple Tryz.prog 259 [.agg (encG x).toArray,.agg (encR y).toArray] [] [] Unit (fun _=>.tuple #[.slice none 0 0,.bool false]) (fun _=>True) (fun _=>[]):=by
 obtain ⟨⟨p,v,L,c⟩,A,a⟩:=x
 obtain ⟨⟨k,s,e,v',f,n,L',F⟩,A',a',B,b⟩:=y
 obtain ⟨m,hm⟩:∃ m,m=L.length:=⟨_,rfl⟩
 simp only [←hm] at h hv
 unfold encG encR
 simp only [←hm]
 refine aT Tryz.func259 [.ag [vI p,vI v,vL A m a,vI c],.ag [vI k,vI s,vI e,vI v',vI f,vI n,vL A' L'.length a',vL B F.length b]] [] (fun E=>?_) ⟨⟨trivial,trivial,trivial,trivial,trivial⟩,⟨trivial,trivial,trivial,trivial,trivial,trivial,trivial,trivial,trivial⟩,trivial⟩
 refine aG ?_
 refine ev_new fun b0=>?_
 refine ev_new fun b1=>?_
 refine ev_if_lt (fun h2=>?_) (fun h2=>?_)
 refine aG ?_
 refine ev_fin ⟨trivial,_,rfl,(()),rfl,(by trivial),Frm.nil _⟩
 refine aG ?_
 refine ev_if_lt (fun h3=>?_) (fun h3=>?_)
 refine aG ?_
 refine ev_fin ⟨trivial,_,rfl,(()),rfl,(by trivial),Frm.nil _⟩
 refine aG ?_
 refine ev_if_lt (fun h4=>?_) (fun h4=>?_)
 refine aG ?_
 refine ev_fin ⟨trivial,_,rfl,(()),rfl,(by trivial),Frm.nil _⟩
 refine aG ?_
 refine ev_if_lt (fun h5=>?_) (fun h5=>?_)
 refine aG ?_
 refine ev_fin ⟨trivial,_,rfl,(()),rfl,(by trivial),Frm.nil _⟩
 refine aG ?_
 refine ev_if_lt (fun h6=>?_) (fun h6=>?_)
 refine aG ?_
 refine ev_fin ⟨trivial,_,rfl,(()),rfl,(by trivial),Frm.nil _⟩
 refine aG ?_
 refine ev_if_lt (fun h7=>?_) (fun h7=>?_)
 refine aG ?_
 refine aJ ?_ (decide_eq_true (show f > 0 from (by omega)))
 refine aJ ?_ (decide_eq_true (show f > 0 from (by omega)))
 refine ev_fin ⟨trivial,_,rfl,(()),rfl,(by trivial),Frm.nil _⟩
 refine aG ?_
 refine aJ ?_ (beq_iff_eq.2 (show e=v from (by omega)))
 refine aJ ?_ (decide_eq_true (show f<(↑m:Int) from (by omega)))
 refine ev_fin ⟨trivial,_,rfl,(()),rfl,(by trivial),Frm.nil _⟩
def WV (A C:Option Addr) (c u d:Nat) (L V:List Ent):Asn:=Asn.and (Rd 6 A c ((L.take c).flatMap encE)) (Asn.and (Rd 6 C u (V.flatMap encE)) (Asn.pure (u≤d)))
set_option maxHeartbeats 2000000 in
theorem viewW (x:RegS) (y:RecS) (j:Nat) (hv:x.r.v≤x.r.p) (h1:1≤y.r.e) (h2:x.r.p≤y.r.e) (h3:y.r.e≤1048576) (hj:y.r.f=(j:Int)) (hj2:(j=0∧y.r.e≠x.r.v)∨(j=x.r.L.length∧y.r.e=x.r.v))
 (hc:0≤x.r.c∧x.r.c≤x.r.L.length) (hx:x.r.L.length≤1000) (hy:y.r.L.length≤2000) (ha:x.r.L.length≤x.a) (V:List Ent) (hV:V=x.r.L.take j++y.r.L) :
 Triple Tryz.prog 259 [.agg (encG x).toArray,.agg (encR y).toArray] [Row 127 6 x.A x.r.L.length x.a (x.r.L.flatMap encE)] [y.rdL] Sl (fun (A',c')=>.tuple #[.slice A' V.length c',.bool (wholeE V y.r.e&&(decide (x.r.c.toNat≤V.length)&&decide (x.r.L.take x.r.c.toNat=V.take x.r.c.toNat)))]) (fun _=>True) (fun (A',c')=>[WV x.A A' x.r.c.toNat V.length c' x.r.L V]):=by
 obtain ⟨⟨p,v,L,c⟩,A,a⟩:=x
 obtain ⟨⟨k,s,e,v',f,n,L',F⟩,A',a',B,b⟩:=y
 obtain ⟨m,hm⟩:∃ m,m=L.length:=⟨_,rfl⟩
 obtain ⟨q,hq⟩:∃ q,q=L'.length:=⟨_,rfl⟩
 obtain ⟨u,hu⟩:∃ u,u=V.length:=⟨_,rfl⟩
 obtain ⟨c,rfl⟩:=Int.eq_ofNat_of_zero_le hc.1
 simp only [] at hc ⊢
 simp only at hv h1 h2 h3 hj hj2 hx hy ha hV
 simp only [←hm,←hq,←hu,Int.toNat_natCast] at hj2 hc hx hy ha ⊢
 replace hj:f=(j:Int):=hj
 subst hj
 have hjm:j≤m:=by omega
 have hul:u=j+q:=by rw [hu,hV,List.length_append,List.length_take];omega
 unfold encG encR RecS.rdL
 simp only [←hm,←hq]
 have T1:=fun C d=>wholeET C V u d e hu (by omega)
 have T2:=fun C D d d2 hd=>prefixT C D (L.take c) V c u d d2 (by rw [List.length_take];omega) hu (by omega) hd
 obtain ⟨w,hw⟩:∃ w,w=wholeE V e:=⟨_,rfl⟩
 obtain ⟨z,hz⟩:∃ z,z=(decide (c≤u)&&decide (L.take c=V.take c)):=⟨_,rfl⟩
 rw [←hw] at T1 ⊢
 rw [←hz] at T2 ⊢
 refine aT Tryz.func259 [.ag [vI p,vI v,vL A m a,vI (c:Int)],.ag [vI k,vI s,vI e,vI v',vI (j:Int),vI n,vL A' q a',vL B F.length b]] [.fact (Row 127 6 A m a (L.flatMap encE))] (fun E=>?_) ⟨⟨trivial,trivial,trivial,trivial,trivial⟩,⟨trivial,trivial,trivial,trivial,trivial,trivial,trivial,trivial,trivial⟩,trivial⟩
 have hW1:∀ (h:Hp),(Row 127 6 A m a (L.flatMap encE)).holds h→(Rd 6 A c ((L.take c).flatMap encE)).holds h:=fun h p=>rd_take (sz:=6) (fun _=>rfl) (Row.rd p) (by omega)
 have T3:=fun C d (hd:u≤d)=>(T1 C d).reads (N':=[WV A C c u d L V]) (fun X hX=>⟨_,List.mem_cons_self,fun _ q=>by rw [List.mem_singleton.1 hX];exact q.2.1⟩)
 have T4:=fun C d d2 (hd:u≤d2)=>(T2 A C d d2 hd).reads (N':=[WV A C c u d2 L V]) (fun X hX=>by
  simp only [List.mem_cons,List.not_mem_nil,or_false] at hX
  rcases hX with rfl | rfl
  · exact ⟨_,List.mem_cons_self,fun _ q=>q.1⟩
  exact ⟨_,List.mem_cons_self,fun _ q=>q.2.1⟩)
 have hWq:∀ (C:Option Addr) (d:Nat) (_:u≤d) (h:Hp),Asn.starH [Row 127 6 A m a (L.flatMap encE),Row 127 6 C u d (V.flatMap encE)] h→∃ _:Unit,Asn.starH [WV A C c u d L V,Asn.tt] h:=fun C d hd h p=>by
  obtain ⟨h1,h2,_,a1,a2,p1,p2⟩:=p
  exact ⟨(),h,Hp.emp,Hp.dis_emp _,Hp.le_refl _,Hp.emp_le _,⟨Asn.mono _ a1 (hW1 _ p1),Asn.mono _ a2 (Row.rd (starH_one.1 p2)),hd⟩,starH_one.2 trivial⟩
 refine go_know (.inr 0) (Row 127 6 A m a (L.flatMap encE)) rfl (p:=A=none→m=0) (fun h p hA=>?_) fun hAn=>?_
 · rcases p.2.2 with ⟨_,h0,_⟩ | ⟨g,_,e,_⟩
   · exact h0
   rw [hA] at e;cases e
 rcases hj2 with ⟨hj0,hne⟩ | ⟨hj0,he⟩
 · refine aG ?_
   refine ev_new fun b0=>?_
   refine ev_new fun b1=>?_
   refine aI ?_ (decide_eq_false (show ¬e<1 from (by omega)))
   refine aI ?_ (decide_eq_false (show ¬e<p from (by omega)))
   refine aI ?_ (decide_eq_false (show ¬e > 1048576 from (by omega)))
   refine aI ?_
   refine aI ?_ (decide_eq_false (show ¬(↑j:Int) > (↑m:Int) from (by omega)))
   refine aJ ?_ (decide_eq_true (show e > v from (by omega)))
   refine aI ?_ (decide_eq_false (show ¬(↑j:Int) > 0 from (by omega)))
   refine aI ?_ (beq_eq_false_iff_ne.2 (by with_reducible assumption))
   refine ev_stop (go_joinR [0,1,6,60,61,62,63,64,65,66,67,68,69] (fun (C,d)=>[(6,vL C u d)]) (fun ((C,d):Option Addr × Nat)=>[(0,.fact (WV A C c u d L V))]) (fun (_,d)=>u≤d) ?_ (fun x_ h_=>?_))
   · refine aG ?_
     refine ev_stop (go_draw Tryz.tbs_ok false [1,2] [(0,true),(1,true),(2,true),(3,true),(4,true),(5,true),(6,true),(7,true),(8,true),(9,false),(10,false)] rfl ?_)
     refine aG (aE ?_)
     refine ev_stop (tk_front Tryz.tbs_ok (j) (j) aB rfl rfl rfl rfl rfl rfl rfl ⟨_,rfl⟩ ⟨_,rfl⟩ (by decide) (by omega) (by omega) ?_)
     refine aG (aE ?_)
     rcases Nat.eq_zero_or_pos q with hq0 | hq0
     · subst hq0
       refine ev_stop (go_append0 Tryz.tbs_ok rfl rfl rfl rfl rfl rfl rfl (Nat.le_refl _) ?_)
       refine go_turn (X:=Unit) 0 (Row 127 6 A m a (L.flatMap encE)) (fun _=>WV A A c u j L V) rfl (fun h p=>⟨(),hW1 h p,?_,by show u≤j;omega⟩) fun _=>?_
       · rw [hV,List.eq_nil_of_length_eq_zero hq.symm,List.append_nil,show u=j by omega]
         exact rd_take (sz:=6) (fun _=>rfl) (Row.rd p) hjm
       obtain rfl:u=j:=by omega
       refine aG (aE (aK ?_))
       refine ev_fin (join_next ((A,u)) (show u≤u from (by omega))  aS)
     refine ev_stop (go_appendG Tryz.tbs_ok (enc:=encE) (sz:=6) (D:=Row 127 6 A m a (L.flatMap encE)) (B:=Rd 6 A' q (L'.flatMap encE)) (.inr 0) (.inl 0) (L.take j) L' V u rfl rfl rfl rfl rfl rfl rfl (by decide) rfl (fun h p=>rd_take (sz:=6) (fun _=>rfl) (Row.rd p) hjm) (fun e=>by have:=hAn e;omega) rfl (fun _ p=>p) hV.symm hul (by omega) hq0 (le_app (s:=j+q) (by omega) rfl) (le_appb (s:=j+q) (by omega) rfl (by decide)) (fun _ _=>by repeat (first | exact trivial | refine ⟨rfl,?_⟩)) (fun C d hd=>?_))
     refine go_ghost [0,3] (X:=Unit) (fun _=>[.fact (WV A C c u d L V),.dead none]) rfl (by decide) (hWq C d hd) (fun _=>newsOk_fact (fun x hx=>by rw [List.mem_singleton.1 hx];trivial)) (fun _=>by repeat (first | exact trivial | refine ⟨rfl,?_⟩)) (fun _=>?_)
     refine aG (aE (aK ?_))
     refine ev_fin (join_next ((C,d)) (show u≤d from (by assumption))  aS)
   obtain ⟨C,d⟩:=x_
   have hud:u≤d:=h_
   have T5:=T3 C d hud
   have T6:=fun d1=>T4 C d1 d hud
   refine aG ?_
   refine aC T5 [] [.inr 0] fun _ h40=>?_
   refine ev_if (fun h41=>?_) (fun h41=>?_)
   refine aG ?_
   refine ev_stop (go_front Tryz.tbs_ok (c) (a) rfl rfl rfl rfl rfl rfl ⟨_,rfl⟩ rfl (by decide) (by omega) (by omega) ?_)
   refine aG ?_
   refine aC (T6 (a)) [] [.inr 0] fun _ h42=>?_
   refine ev_fin ⟨trivial,_,rfl,((C,d)),?_,by trivial,aF [0]⟩
   rotate_left
   refine aG ?_
   refine ev_fin ⟨trivial,_,rfl,((C,d)),?_,by trivial,aF [0]⟩
   rotate_left
   all_goals first | exact congrArg (fun t=>Value.tuple #[.slice C u d,.bool t]) (show z=(w&&z) by simp_all) | exact congrArg (fun t=>Value.tuple #[.slice C u d,.bool t]) (show false=(w&&z) by simp_all)
 refine aG ?_
 refine ev_new fun b0=>?_
 refine ev_new fun b1=>?_
 refine aI ?_ (decide_eq_false (show ¬e<1 from (by omega)))
 refine aI ?_ (decide_eq_false (show ¬e<p from (by omega)))
 refine aI ?_ (decide_eq_false (show ¬e > 1048576 from (by omega)))
 refine aI ?_
 refine aI ?_ (decide_eq_false (show ¬(↑j:Int) > (↑m:Int) from (by omega)))
 refine aI ?_ (decide_eq_false (show ¬e > v from (by omega)))
 refine aJ ?_ (beq_iff_eq.2 (by with_reducible assumption))
 refine aI ?_ (decide_eq_false (show ¬(↑j:Int)<(↑m:Int) from (by omega)))
 refine ev_stop (go_joinR [0,1,6,60,61,62,63,64,65,66,67,68,69] (fun (C,d)=>[(6,vL C u d)]) (fun ((C,d):Option Addr × Nat)=>[(0,.fact (WV A C c u d L V))]) (fun (_,d)=>u≤d) ?_ (fun x_ h_=>?_))
 · refine aG ?_
   refine ev_stop (go_draw Tryz.tbs_ok false [1,2] [(0,true),(1,true),(2,true),(3,true),(4,true),(5,true),(6,true),(7,true),(8,true),(9,false),(10,false)] rfl ?_)
   refine aG (aE ?_)
   refine ev_stop (tk_front Tryz.tbs_ok (j) (j) aB rfl rfl rfl rfl rfl rfl rfl ⟨_,rfl⟩ ⟨_,rfl⟩ (by decide) (by omega) (by omega) ?_)
   refine aG (aE ?_)
   rcases Nat.eq_zero_or_pos q with hq0 | hq0
   · subst hq0
     refine ev_stop (go_append0 Tryz.tbs_ok rfl rfl rfl rfl rfl rfl rfl (Nat.le_refl _) ?_)
     refine go_turn (X:=Unit) 0 (Row 127 6 A m a (L.flatMap encE)) (fun _=>WV A A c u j L V) rfl (fun h p=>⟨(),hW1 h p,?_,by show u≤j;omega⟩) fun _=>?_
     · rw [hV,List.eq_nil_of_length_eq_zero hq.symm,List.append_nil,show u=j by omega]
       exact rd_take (sz:=6) (fun _=>rfl) (Row.rd p) hjm
     obtain rfl:u=j:=by omega
     refine aG (aE (aK ?_))
     refine ev_fin (join_next ((A,u)) (show u≤u from (by omega))  aS)
   refine ev_stop (go_appendG Tryz.tbs_ok (enc:=encE) (sz:=6) (D:=Row 127 6 A m a (L.flatMap encE)) (B:=Rd 6 A' q (L'.flatMap encE)) (.inr 0) (.inl 0) (L.take j) L' V u rfl rfl rfl rfl rfl rfl rfl (by decide) rfl (fun h p=>rd_take (sz:=6) (fun _=>rfl) (Row.rd p) hjm) (fun e=>by have:=hAn e;omega) rfl (fun _ p=>p) hV.symm hul (by omega) hq0 (le_app (s:=j+q) (by omega) rfl) (le_appb (s:=j+q) (by omega) rfl (by decide)) (fun _ _=>by repeat (first | exact trivial | refine ⟨rfl,?_⟩)) (fun C d hd=>?_))
   refine go_ghost [0,3] (X:=Unit) (fun _=>[.fact (WV A C c u d L V),.dead none]) rfl (by decide) (hWq C d hd) (fun _=>newsOk_fact (fun x hx=>by rw [List.mem_singleton.1 hx];trivial)) (fun _=>by repeat (first | exact trivial | refine ⟨rfl,?_⟩)) (fun _=>?_)
   refine aG (aE (aK ?_))
   refine ev_fin (join_next ((C,d)) (show u≤d from (by assumption))  aS)
 obtain ⟨C,d⟩:=x_
 have hud:u≤d:=h_
 have T5:=T3 C d hud
 have T6:=fun d1=>T4 C d1 d hud
 refine aG ?_
 refine aC T5 [] [.inr 0] fun _ h40=>?_
 refine ev_if (fun h41=>?_) (fun h41=>?_)
 refine aG ?_
 refine ev_stop (go_front Tryz.tbs_ok (c) (a) rfl rfl rfl rfl rfl rfl ⟨_,rfl⟩ rfl (by decide) (by omega) (by omega) ?_)
 refine aG ?_
 refine aC (T6 (a)) [] [.inr 0] fun _ h42=>?_
 refine ev_fin ⟨trivial,_,rfl,((C,d)),?_,by trivial,aF [0]⟩
 rotate_left
 refine aG ?_
 refine ev_fin ⟨trivial,_,rfl,((C,d)),?_,by trivial,aF [0]⟩
 rotate_left
 all_goals first | exact congrArg (fun t=>Value.tuple #[.slice C u d,.bool t]) (show z=(w&&z) by simp_all) | exact congrArg (fun t=>Value.tuple #[.slice C u d,.bool t]) (show false=(w&&z) by simp_all)
theorem viewT (x:RegS) (y:RecS) (j:Nat) (hv:x.r.v≤x.r.p) (h1:1≤y.r.e) (h2:x.r.p≤y.r.e) (h3:y.r.e≤1048576) (hj:y.r.f=(j:Int)) (hj2:(j=0∧y.r.e≠x.r.v)∨(j=x.r.L.length∧y.r.e=x.r.v))
 (hc:0≤x.r.c∧x.r.c≤x.r.L.length) (hx:x.r.L.length≤1000) (hy:y.r.L.length≤2000) (ha:x.r.L.length≤x.a) (V:List Ent) (hV:V=x.r.L.take j++y.r.L) :
 Triple Tryz.prog 259 [.agg (encG x).toArray,.agg (encR y).toArray] [Row 127 6 x.A x.r.L.length x.a (x.r.L.flatMap encE)] [y.rdL] Sl (fun (A',c')=>.tuple #[.slice A' V.length c',.bool (wholeE V y.r.e&&(decide (x.r.c.toNat≤V.length)&&decide (x.r.L.take x.r.c.toNat=V.take x.r.c.toNat)))]) (fun _=>True) (fun (A',c')=>[Asn.and (Rd 6 A' V.length (V.flatMap encE)) (Asn.pure (V.length≤c'))]) :=
 (viewW x y j hv h1 h2 h3 hj hj2 hc hx hy ha V hV).imp fun (A',c') _=>⟨(A',c'),rfl,trivial,fun _ q=>starH_one.2 (starH_one.1 q).2⟩
def RegS.own (x:RegS):Asn:=Asn.and x.rd (Asn.pure (x.r.L.length≤x.a))
theorem own_row {A:Option Addr} {L:List Ent} {c:Nat} {h:Hp} (r:Reg) (hr:r.L=L) (q:(Row 127 6 A L.length c (L.flatMap encE)).holds h):(RegS.own ⟨r,A,c⟩).holds h:=by
 subst hr
 exact ⟨Row.rd q,Row.cap q⟩
set_option maxHeartbeats 2000000 in
theorem applyG13 (x:RegS) (y:RecS) (ho:okR x.r=true) (z:Reg) (hk:y.r.k=1∨y.r.k=3) (h:applyR x.r y.r=some z) :
 Triple Tryz.prog 220 [.agg (encG x).toArray,.agg (encR y).toArray] [] [x.rd,y.rdL] Sl (fun (A',c')=>.tuple #[.agg (encG ⟨z,A',c'⟩).toArray,.bool true]) (fun _=>True) (fun (A',c')=>[Row 127 6 A' x.r.L.length c' (x.r.L.flatMap encE)]):=by
 have hl:=wholeE_len (okR_of ho).2.2.2.1
 have T1:=checkG x (by omega)
 have T2:=cloneG x (by omega)
 rw [ho] at T1
 obtain ⟨⟨p,v,L,c⟩,A,a⟩:=x
 obtain ⟨⟨k,s,e,v',f,n,L',F⟩,A',a',B,b⟩:=y
 obtain ⟨m,hm⟩:∃ m,m=L.length:=⟨_,rfl⟩
 obtain ⟨q,hq⟩:∃ q,q=L'.length:=⟨_,rfl⟩
 unfold applyR at h
 rw [if_neg (by rw [ho];decide)] at h
 simp only at hk h hl
 have hz:(k=1∧p<e∧e≤1048576∧z=⟨e,v,L,c⟩)∨(k=3∧c<n∧n≤(m:Int)∧z=⟨p,v,L,n⟩):=by
  rcases hk with rfl | rfl
  · rw [if_pos rfl,Option.ite_none_right_eq_some] at h
    exact .inl ⟨rfl,h.1.1,h.1.2,(Option.some.inj h.2).symm⟩
  rw [if_neg (by decide),if_neg (by decide),if_pos rfl,Option.ite_none_right_eq_some] at h
  exact .inr ⟨rfl,h.1.1,by rw [hm];exact h.1.2,(Option.some.inj h.2).symm⟩
 clear h hk
 unfold RegS.rd RecS.rdL encG encR at *
 rcases hz with ⟨rfl,h1,h2,rfl⟩ | ⟨rfl,h1,h2,rfl⟩
 · obtain ⟨k,hk⟩:∃ k:Int,k=1:=⟨_,rfl⟩
   rw [←hk]
   simp only [←hm,←hq] at T1 T2 ⊢
   refine aT Tryz.func220 [.ag [vI p,vI v,vL A m a,vI c],.ag [vI k,vI s,vI e,vI v',vI f,vI n,vL A' q a',vL B F.length b]] [] (fun E=>?_) ⟨⟨trivial,trivial,trivial,trivial,trivial⟩,⟨trivial,trivial,trivial,trivial,trivial,trivial,trivial,trivial,trivial⟩,trivial⟩
   refine aG ?_
   refine ev_new fun b0=>?_
   refine ev_new fun b1=>?_
   refine ev_new fun b2=>?_
   refine aC T1 [] [.inl 0] fun _ h3=>?_
   refine aI ?_
   refine aC T2 [] [.inl 0] fun ⟨x4,x5⟩ h6=>?_
   refine aJ ?_ (beq_iff_eq.2 (by with_reducible assumption))
   refine aJ ?_ (decide_eq_true (by with_reducible assumption))
   refine aI ?_ (dec_no (by with_reducible assumption))
   exact ev_fin ⟨trivial,_,rfl,((x4,x5)),rfl,by trivial,aF [3]⟩
 obtain ⟨k,hk⟩:∃ k:Int,k=3:=⟨_,rfl⟩
 rw [←hk]
 simp only [←hm,←hq] at T1 T2 ⊢
 refine aT Tryz.func220 [.ag [vI p,vI v,vL A m a,vI c],.ag [vI k,vI s,vI e,vI v',vI f,vI n,vL A' q a',vL B F.length b]] [] (fun E=>?_) ⟨⟨trivial,trivial,trivial,trivial,trivial⟩,⟨trivial,trivial,trivial,trivial,trivial,trivial,trivial,trivial,trivial⟩,trivial⟩
 refine aG ?_
 refine ev_new fun b0=>?_
 refine ev_new fun b1=>?_
 refine ev_new fun b2=>?_
 refine aC T1 [] [.inl 0] fun _ h3=>?_
 refine aI ?_
 refine aC T2 [] [.inl 0] fun ⟨x4,x5⟩ h6=>?_
 refine aI ?_ (beq_eq_false_iff_ne.2 (show ¬k=1 from (by omega)))
 refine aI ?_ (beq_eq_false_iff_ne.2 (show ¬k=2 from (by omega)))
 refine aJ ?_ (beq_iff_eq.2 (by with_reducible assumption))
 refine aJ ?_ (decide_eq_true (by with_reducible assumption))
 refine aI ?_ (dec_no (by with_reducible assumption))
 exact ev_fin ⟨trivial,_,rfl,((x4,x5)),rfl,by trivial,aF [3]⟩
set_option maxHeartbeats 2000000 in
theorem applyG2 (x:RegS) (y:RecS) (ho:okR x.r=true) (hy:y.r.L.length≤2000) (z:Reg) (hk:y.r.k=2) (h:applyR x.r y.r=some z) :
 Triple Tryz.prog 220 [.agg (encG x).toArray,.agg (encR y).toArray] [] [x.rd,y.rdL] Sl (fun (A',c')=>.tuple #[.agg (encG ⟨z,A',c'⟩).toArray,.bool true]) (fun _=>True) (fun (A',c')=>[RegS.own ⟨z,A',c'⟩]):=by
 have hq:=okR_of ho
 have hl:=wholeE_len hq.2.2.2.1
 have T1:=checkG x (by omega)
 have T2:=cloneG x (by omega)
 rw [ho] at T1
 unfold applyR at h
 rw [if_neg (by rw [ho];decide),if_neg (by omega),if_pos hk,Option.ite_none_right_eq_some] at h
 obtain ⟨⟨a1,a2,a3,a4,a5,a6,a7⟩,h⟩:=h
 cases h
 obtain ⟨j,hj,hj2⟩:∃ j:Nat,y.r.f=(j:Int)∧((j=0∧y.r.e≠x.r.v)∨(j=x.r.L.length∧y.r.e=x.r.v)):=by
  by_cases q:y.r.e=x.r.v
  · rw [if_pos q] at a4;exact ⟨_,a4,.inr ⟨rfl,q⟩⟩
  rw [if_neg q] at a4;exact ⟨0,a4,.inl ⟨rfl,q⟩⟩
 have hV:viewL x.r y.r=x.r.L.take j++y.r.L:=by
  unfold viewL
  rcases hj2 with ⟨rfl,q⟩ | ⟨rfl,q⟩
  · rw [if_neg q,List.take_zero]
  rw [if_pos q,List.take_length]
 have T3:=fun A1 c1 hd=>viewT ⟨x.r,A1,c1⟩ y j hq.2.1 a1 a2 a3 hj hj2 ⟨hq.2.2.2.2.1,hq.2.2.2.2.2⟩ (show x.r.L.length≤1000 by omega) hy hd _ hV
 simp only [a5,a6,decide_eq_true a7,decide_true,Bool.and_self] at T3
 obtain ⟨V,hVV⟩:∃ V,V=viewL x.r y.r:=⟨_,rfl⟩
 simp only [←hVV] at T3 ⊢
 unfold RegS.own RegS.rd
 simp only
 obtain ⟨⟨p,v,L,c⟩,A,a⟩:=x
 obtain ⟨⟨k,s,e,v',f,n,L',F⟩,A',a',B,b⟩:=y
 obtain ⟨m,hm⟩:∃ m,m=L.length:=⟨_,rfl⟩
 obtain ⟨q,hq⟩:∃ q,q=L'.length:=⟨_,rfl⟩
 obtain ⟨u,hu⟩:∃ u,u=V.length:=⟨_,rfl⟩
 replace hk:k=2:=hk
 unfold RegS.rd RecS.rdL encG encR at *
 simp only [←hm,←hq,←hu] at T1 T2 T3 ⊢
 clear hVV hV hj2 hj a4 a5 a6 a7 ho
 refine aT Tryz.func220 [.ag [vI p,vI v,vL A m a,vI c],.ag [vI k,vI s,vI e,vI v',vI f,vI n,vL A' q a',vL B F.length b]] [] (fun E=>?_) ⟨⟨trivial,trivial,trivial,trivial,trivial⟩,⟨trivial,trivial,trivial,trivial,trivial,trivial,trivial,trivial,trivial⟩,trivial⟩
 refine aG ?_
 refine ev_new fun b0=>?_
 refine ev_new fun b1=>?_
 refine ev_new fun b2=>?_
 refine aC T1 [] [.inl 0] fun _ h3=>?_
 refine aI ?_
 refine aC T2 [] [.inl 0] fun ⟨x4,x5⟩ h6=>?_
 refine aI ?_ (beq_eq_false_iff_ne.2 (show ¬k=1 from (by omega)))
 refine aJ ?_ (beq_iff_eq.2 (by with_reducible assumption))
 have T4:=T3 x4 x5 h6
 refine aC T4 [3] [.inl 1] fun ⟨x20,x21⟩ h22=>?_
 refine ev_stop (go_draw Tryz.tbs_ok false [1] [(0,true),(1,true),(2,true),(3,true),(4,true),(5,false),(6,false),(7,false)] rfl ?_)
 refine aG (aE (aE (aE (aK (aI ?_)))))
 exact ev_fin ⟨trivial,_,rfl,((x20,x21)),rfl,by trivial,aF [3]⟩
 all_goals skip
set_option maxHeartbeats 2000000 in
theorem applyG4 (x:RegS) (y:RecS) (ho:okR x.r=true) (hy:y.r.L.length≤2000) (z:Reg) (hk:y.r.k=4) (h:applyR x.r y.r=some z) :
 Triple Tryz.prog 220 [.agg (encG x).toArray,.agg (encR y).toArray] [] [x.rd,y.rdL] Sl (fun (A',c')=>.tuple #[.agg (encG ⟨z,A',c'⟩).toArray,.bool true]) (fun _=>True) (fun (A',c')=>[Row 127 6 A' y.r.L.length c' (y.r.L.flatMap encE)]):=by
 have hl:=wholeE_len (okR_of ho).2.2.2.1
 have T1:=checkG x (by omega)
 have T2:=cloneG x (by omega)
 rw [ho] at T1
 unfold applyR at h
 rw [if_neg (by rw [ho];decide),if_neg (by omega),if_neg (by omega),if_neg (by omega),if_pos hk,Option.ite_none_right_eq_some] at h
 obtain ⟨⟨h0,hb⟩,h⟩:=h
 cases h
 have T3:=fun A1 c1=>(checkG ⟨⟨y.r.e,y.r.v,y.r.L,y.r.n⟩,A1,c1⟩ (show y.r.L.length≤1000000 by omega)).reads (N':=[Row 127 6 A1 y.r.L.length c1 (y.r.L.flatMap encE)]) (fun X hX=>⟨_,List.mem_cons_self,fun _ q=>by rw [List.mem_singleton.1 hX];exact Row.rd q⟩)
 have T4:=cloneE y.A y.r.L y.r.L.length y.a rfl (by omega)
 simp only [hb] at T3
 obtain ⟨⟨p,v,L,c⟩,A,a⟩:=x
 obtain ⟨⟨k,s,e,v',f,n,L',F⟩,A',a',B,b⟩:=y
 obtain ⟨m,hm⟩:∃ m,m=L.length:=⟨_,rfl⟩
 obtain ⟨q,hq⟩:∃ q,q=L'.length:=⟨_,rfl⟩
 replace hk:k=4:=hk
 replace h0:p=0:=h0
 unfold RegS.rd RecS.rdL encG encR at *
 simp only [←hm,←hq] at T1 T2 T3 T4 ⊢
 clear ho hb
 refine aT Tryz.func220 [.ag [vI p,vI v,vL A m a,vI c],.ag [vI k,vI s,vI e,vI v',vI f,vI n,vL A' q a',vL B F.length b]] [] (fun E=>?_) ⟨⟨trivial,trivial,trivial,trivial,trivial⟩,⟨trivial,trivial,trivial,trivial,trivial,trivial,trivial,trivial,trivial⟩,trivial⟩
 refine aG ?_
 refine ev_new fun b0=>?_
 refine ev_new fun b1=>?_
 refine ev_new fun b2=>?_
 refine aC T1 [] [.inl 0] fun _ h3=>?_
 refine aI ?_
 refine aC T2 [] [.inl 0] fun ⟨x4,x5⟩ h6=>?_
 refine aI ?_ (beq_eq_false_iff_ne.2 (show ¬k=1 from (by omega)))
 refine aI ?_ (beq_eq_false_iff_ne.2 (show ¬k=2 from (by omega)))
 refine aI ?_ (beq_eq_false_iff_ne.2 (show ¬k=3 from (by omega)))
 refine aJ ?_ (beq_iff_eq.2 (by with_reducible assumption))
 refine ev_stop (go_draw Tryz.tbs_ok false [1] [(0,true),(1,true),(2,true),(3,true),(4,true),(5,true),(7,true),(8,true),(99,false),(0,true),(0,true),(0,true)] rfl ?_)
 refine aG (aE ?_)
 refine ev_stop (go_fork 6 10 [(9,true),(10,false),(11,false)] [(6,false),(9,false),(11,false)] _ _ ⟨aL,rfl⟩ (by kernel_rfl) rfl rfl rfl rfl ?_ ?_)
 refine aG ?_
 refine aC T4 [] [.inl 1] fun ⟨x7,x8⟩ h9=>?_
 refine aE ?_
 refine ev_new fun b10=>?_
 refine aE (aK ?_)
 refine aJ ?_ (beq_iff_eq.2 (by with_reducible assumption))
 refine aC (T3 (x7) (x8)) [] [.inr 4] fun _ h11=>?_
 refine aI ?_
 exact ev_fin ⟨trivial,_,rfl,((x7,x8)),rfl,by trivial,aF [4]⟩
 refine aG ?_
 refine ev_new fun b12=>?_
 refine aE ?_
 refine aC T4 [] [.inl 1] fun ⟨x13,x14⟩ h15=>?_
 refine aE (aE (aK ?_))
 refine aJ ?_ (beq_iff_eq.2 (by with_reducible assumption))
 refine aC (T3 (x13) (x14)) [] [.inr 5] fun _ h16=>?_
 refine aI ?_
 exact ev_fin ⟨trivial,_,rfl,((x13,x14)),rfl,by trivial,aF [5]⟩
set_option maxHeartbeats 2000000 in
theorem applyN0 (x:RegS) (y:RecS) (ho:okR x.r=false) (hl:x.r.L.length≤1000000) :
 Triple Tryz.prog 220 [.agg (encG x).toArray,.agg (encR y).toArray] [] [x.rd,y.rdL] Unit (fun _=>.tuple #[.agg #[.int .i64 0,.int .i64 0,.slice none 0 0,.int .i64 0],.bool false]) (fun _=>True) (fun _=>[]):=by
 have T1:=checkG x hl
 rw [ho] at T1
 obtain ⟨⟨p,v,L,c⟩,A,a⟩:=x
 obtain ⟨⟨k,s,e,v',f,n,L',F⟩,A',a',B,b⟩:=y
 obtain ⟨m,hm⟩:∃ m,m=L.length:=⟨_,rfl⟩
 obtain ⟨q,hq⟩:∃ q,q=L'.length:=⟨_,rfl⟩
 unfold RegS.rd RecS.rdL encG encR at *
 simp only [←hm,←hq] at T1 ⊢
 clear ho
 refine aT Tryz.func220 [.ag [vI p,vI v,vL A m a,vI c],.ag [vI k,vI s,vI e,vI v',vI f,vI n,vL A' q a',vL B F.length b]] [] (fun E=>?_) ⟨⟨trivial,trivial,trivial,trivial,trivial⟩,⟨trivial,trivial,trivial,trivial,trivial,trivial,trivial,trivial,trivial⟩,trivial⟩
 refine aG ?_
 refine ev_new fun b0=>?_
 refine ev_new fun b1=>?_
 refine ev_new fun b2=>?_
 refine aC T1 [] [.inl 0] fun _ h3=>?_
 refine aJ ?_
 refine ev_fin ⟨trivial,_,rfl,(()),rfl,(by trivial),Frm.nil _⟩
set_option maxHeartbeats 4000000 in
theorem applyN (x:RegS) (y:RecS) (ho:okR x.r=true) (hk:y.r.k≠2) (hy:y.r.L.length≤2000) (h:applyR x.r y.r=none) :
 Triple Tryz.prog 220 [.agg (encG x).toArray,.agg (encR y).toArray] [] [x.rd,y.rdL] Unit (fun _=>.tuple #[.agg #[.int .i64 0,.int .i64 0,.slice none 0 0,.int .i64 0],.bool false]) (fun _=>True) (fun _=>[]):=by
 have hl:=wholeE_len (okR_of ho).2.2.2.1
 have T1:=checkG x (by omega)
 have T2:=cloneG x (by omega)
 rw [ho] at T1
 unfold applyR at h
 rw [if_neg (by rw [ho];decide),if_neg (show ¬ y.r.k=2 from hk)] at h
 have T3:=fun A1 c1=>(checkG ⟨⟨y.r.e,y.r.v,y.r.L,y.r.n⟩,A1,c1⟩ (show y.r.L.length≤1000000 by omega)).reads (N':=[Row 127 6 A1 y.r.L.length c1 (y.r.L.flatMap encE)]) (fun X hX=>⟨_,List.mem_cons_self,fun _ q=>by rw [List.mem_singleton.1 hX];exact Row.rd q⟩)
 have T4:=cloneE y.A y.r.L y.r.L.length y.a rfl (by omega)
 obtain ⟨⟨p,v,L,c⟩,A,a⟩:=x
 obtain ⟨⟨k,s,e,v',f,n,L',F⟩,A',a',B,b⟩:=y
 obtain ⟨m,hm⟩:∃ m,m=L.length:=⟨_,rfl⟩
 obtain ⟨q,hq⟩:∃ q,q=L'.length:=⟨_,rfl⟩
 unfold RegS.rd RecS.rdL encG encR at *
 obtain ⟨w,hw⟩:∃ w,w=okR ⟨e,v',L',n⟩:=⟨_,rfl⟩
 simp only [←hm,←hq,←hw] at T1 T2 T3 T4 ⊢
 simp only [←hm,←hw] at h hk
 have h1:k=1→¬ (p<e∧e≤1048576):=fun q=>by rw [if_pos q] at h;simpa using h
 have h3:k=3→¬ (c<n∧n≤(m:Int)):=fun q=>by rw [if_neg (by omega),if_pos q] at h;simpa using h
 have h4:k=4→p=0→w=false:=fun q q0=>by rw [if_neg (by omega),if_neg (by omega),if_pos q] at h;simpa [q0] using h
 clear ho h hw
 refine aT Tryz.func220 [.ag [vI p,vI v,vL A m a,vI c],.ag [vI k,vI s,vI e,vI v',vI f,vI n,vL A' q a',vL B F.length b]] [] (fun E=>?_) ⟨⟨trivial,trivial,trivial,trivial,trivial⟩,⟨trivial,trivial,trivial,trivial,trivial,trivial,trivial,trivial,trivial⟩,trivial⟩
 refine aG ?_
 refine ev_new fun b0=>?_
 refine ev_new fun b1=>?_
 refine ev_new fun b2=>?_
 refine aC T1 [] [.inl 0] fun _ h3=>?_
 refine aI ?_
 refine aC T2 [] [.inl 0] fun ⟨x4,x5⟩ h6=>?_
 refine ev_if_eq (fun h7=>?_) (fun h7=>?_)
 refine aG ?_
 refine ev_if_lt (fun h8=>?_) (fun h8=>?_)
 refine aG ?_
 refine aJ ?_ (dec_yes (show ¬e≤1048576 from (by omega)))
 refine ev_fin ⟨trivial,_,rfl,(()),rfl,(by trivial),Frm.nil _⟩
 refine aG ?_
 refine ev_fin ⟨trivial,_,rfl,(()),rfl,(by trivial),Frm.nil _⟩
 refine aG ?_
 refine aI ?_ (beq_eq_false_iff_ne.2 (by with_reducible assumption))
 refine ev_if_eq (fun h9=>?_) (fun h9=>?_)
 refine aG ?_
 refine ev_if_lt (fun h10=>?_) (fun h10=>?_)
 refine aG ?_
 refine aJ ?_ (dec_yes (show ¬n≤(↑m:Int) from (by omega)))
 refine ev_fin ⟨trivial,_,rfl,(()),rfl,(by trivial),Frm.nil _⟩
 refine aG ?_
 refine ev_fin ⟨trivial,_,rfl,(()),rfl,(by trivial),Frm.nil _⟩
 refine aG ?_
 refine ev_if_eq (fun h11=>?_) (fun h11=>?_)
 refine aG ?_
 refine ev_stop (go_draw Tryz.tbs_ok false [1] [(0,true),(1,true),(2,true),(3,true),(4,true),(5,true),(7,true),(8,true),(99,false),(0,true),(0,true),(0,true)] rfl ?_)
 refine aG (aE ?_)
 refine ev_stop (go_fork 6 10 [(9,true),(10,false),(11,false)] [(6,false),(9,false),(11,false)] _ _ ⟨aL,rfl⟩ (by kernel_rfl) rfl rfl rfl rfl ?_ ?_)
 refine aG ?_
 refine aC T4 [] [.inl 1] fun ⟨x12,x13⟩ h14=>?_
 refine aE ?_
 refine ev_new fun b15=>?_
 refine aE (aK ?_)
 refine ev_if_eq (fun h16=>?_) (fun h16=>?_)
 refine aG ?_
 refine aC (T3 (x12) (x13)) [] [.inr 4] fun _ h17=>?_
 refine aJ ?_ (by simp [*])
 refine ev_fin ⟨trivial,_,rfl,(()),rfl,(by trivial),Frm.nil _⟩
 refine aG ?_
 refine ev_fin ⟨trivial,_,rfl,(()),rfl,(by trivial),Frm.nil _⟩
 refine aG ?_
 refine ev_new fun b18=>?_
 refine aE ?_
 refine aC T4 [] [.inl 1] fun ⟨x19,x20⟩ h21=>?_
 refine aE (aE (aK ?_))
 refine ev_if_eq (fun h22=>?_) (fun h22=>?_)
 refine aG ?_
 refine aC (T3 (x19) (x20)) [] [.inr 5] fun _ h23=>?_
 refine aJ ?_ (by simp [*])
 refine ev_fin ⟨trivial,_,rfl,(()),rfl,(by trivial),Frm.nil _⟩
 refine aG ?_
 refine ev_fin ⟨trivial,_,rfl,(()),rfl,(by trivial),Frm.nil _⟩
 refine aG ?_
 refine ev_fin ⟨trivial,_,rfl,(()),rfl,(by trivial),Frm.nil _⟩
 all_goals skip
set_option maxHeartbeats 2000000 in
theorem applyN2 (x:RegS) (y:RecS) (ho:okR x.r=true) (hk:y.r.k=2) (hy:y.r.L.length≤2000) (h:applyR x.r y.r=none) :
 Triple Tryz.prog 220 [.agg (encG x).toArray,.agg (encR y).toArray] [] [x.rd,y.rdL] Unit (fun _=>.tuple #[.agg #[.int .i64 0,.int .i64 0,.slice none 0 0,.int .i64 0],.bool false]) (fun _=>True) (fun _=>[]):=by
 have hq:=okR_of ho
 have hl:=wholeE_len hq.2.2.2.1
 have T1:=checkG x (by omega)
 have T2:=cloneG x (by omega)
 rw [ho] at T1
 unfold applyR at h
 rw [if_neg (by rw [ho];decide),if_neg (by omega),if_pos hk] at h
 by_cases hp:1≤y.r.e∧x.r.p≤y.r.e∧y.r.e≤1048576∧y.r.f=if y.r.e=x.r.v then (x.r.L.length:Int) else 0
 · obtain ⟨a1,a2,a3,a4⟩:=hp
   obtain ⟨j,hj,hj2⟩:∃ j:Nat,y.r.f=(j:Int)∧((j=0∧y.r.e≠x.r.v)∨(j=x.r.L.length∧y.r.e=x.r.v)):=by
    by_cases q:y.r.e=x.r.v
    · rw [if_pos q] at a4;exact ⟨_,a4,.inr ⟨rfl,q⟩⟩
    rw [if_neg q] at a4;exact ⟨0,a4,.inl ⟨rfl,q⟩⟩
   have hV:viewL x.r y.r=x.r.L.take j++y.r.L:=by
    unfold viewL
    rcases hj2 with ⟨rfl,q⟩ | ⟨rfl,q⟩
    · rw [if_neg q,List.take_zero]
    rw [if_pos q,List.take_length]
   have hno:(wholeE (viewL x.r y.r) y.r.e&&(decide (x.r.c.toNat≤(viewL x.r y.r).length)&&decide (x.r.L.take x.r.c.toNat=(viewL x.r y.r).take x.r.c.toNat)))=false:=by
    rw [Bool.eq_false_iff]
    intro q
    simp only [Bool.and_eq_true,decide_eq_true_eq] at q
    rw [if_pos ⟨a1,a2,a3,a4,q.1,q.2.2,q.2.1⟩] at h
    cases h
   have T3:=fun A1 c1 hd=>viewT ⟨x.r,A1,c1⟩ y j hq.2.1 a1 a2 a3 hj hj2 ⟨hq.2.2.2.2.1,hq.2.2.2.2.2⟩ (show x.r.L.length≤1000 by omega) hy hd _ hV
   simp only [hno] at T3
   obtain ⟨u,hu⟩:∃ u,u=(viewL x.r y.r).length:=⟨_,rfl⟩
   obtain ⟨⟨p,v,L,c⟩,A,a⟩:=x
   obtain ⟨⟨k,s,e,v',f,n,L',F⟩,A',a',B,b⟩:=y
   obtain ⟨m,hm⟩:∃ m,m=L.length:=⟨_,rfl⟩
   obtain ⟨q,hq⟩:∃ q,q=L'.length:=⟨_,rfl⟩
   replace hk:k=2:=hk
   unfold RegS.rd RecS.rdL encG encR at *
   simp only [←hm,←hq,←hu] at T1 T2 T3 ⊢
   clear hV hj2 hj a4 ho hno h
   refine aT Tryz.func220 [.ag [vI p,vI v,vL A m a,vI c],.ag [vI k,vI s,vI e,vI v',vI f,vI n,vL A' q a',vL B F.length b]] [] (fun E=>?_) ⟨⟨trivial,trivial,trivial,trivial,trivial⟩,⟨trivial,trivial,trivial,trivial,trivial,trivial,trivial,trivial,trivial⟩,trivial⟩
   refine aG ?_
   refine ev_new fun b0=>?_
   refine ev_new fun b1=>?_
   refine ev_new fun b2=>?_
   refine aC T1 [] [.inl 0] fun _ h3=>?_
   refine aI ?_
   refine aC T2 [] [.inl 0] fun ⟨x4,x5⟩ h6=>?_
   refine aI ?_ (beq_eq_false_iff_ne.2 (show ¬k=1 from (by omega)))
   refine aJ ?_ (beq_iff_eq.2 (by with_reducible assumption))
   have T4:=T3 x4 x5 h6
   refine aC T4 [3] [.inl 1] fun ⟨x20,x21⟩ h22=>?_
   refine ev_stop (go_draw Tryz.tbs_ok false [1] [(0,true),(1,true),(2,true),(3,true),(4,true),(5,false),(6,false),(7,false)] rfl ?_)
   refine aG (aE (aE (aE (aK (aJ ?_)))))
   refine ev_fin ⟨trivial,_,rfl,(()),rfl,(by trivial),Frm.nil _⟩
 have T3:=fun A1 c1=>viewNo ⟨x.r,A1,c1⟩ y hq.2.1 hp
 obtain ⟨⟨p,v,L,c⟩,A,a⟩:=x
 obtain ⟨⟨k,s,e,v',f,n,L',F⟩,A',a',B,b⟩:=y
 obtain ⟨m,hm⟩:∃ m,m=L.length:=⟨_,rfl⟩
 obtain ⟨q,hq⟩:∃ q,q=L'.length:=⟨_,rfl⟩
 replace hk:k=2:=hk
 unfold RegS.rd RecS.rdL encG encR at *
 simp only [←hm,←hq] at T1 T2 T3 ⊢
 clear ho h hp
 refine aT Tryz.func220 [.ag [vI p,vI v,vL A m a,vI c],.ag [vI k,vI s,vI e,vI v',vI f,vI n,vL A' q a',vL B F.length b]] [] (fun E=>?_) ⟨⟨trivial,trivial,trivial,trivial,trivial⟩,⟨trivial,trivial,trivial,trivial,trivial,trivial,trivial,trivial,trivial⟩,trivial⟩
 refine aG ?_
 refine ev_new fun b0=>?_
 refine ev_new fun b1=>?_
 refine ev_new fun b2=>?_
 refine aC T1 [] [.inl 0] fun _ h3=>?_
 refine aI ?_
 refine aC T2 [] [.inl 0] fun ⟨x4,x5⟩ h6=>?_
 refine aI ?_ (beq_eq_false_iff_ne.2 (show ¬k=1 from (by omega)))
 refine aJ ?_ (beq_iff_eq.2 (by with_reducible assumption))
 refine aC (T3 (x4) (x5)) [] [] fun _ h7=>?_
 refine ev_stop (go_draw Tryz.tbs_ok false [1] [(0,true),(1,true),(2,true),(3,true),(4,true),(5,false),(6,false),(7,false)] rfl ?_)
 refine aG (aE (aE (aE (aK (aJ ?_)))))
 refine ev_fin ⟨trivial,_,rfl,(()),rfl,(by trivial),Frm.nil _⟩
theorem applyNo (x:RegS) (y:RecS) (hl:x.r.L.length≤1000000) (hy:y.r.L.length≤2000) (h:applyR x.r y.r=none) :
 Triple Tryz.prog 220 [.agg (encG x).toArray,.agg (encR y).toArray] [] [x.rd,y.rdL] Unit (fun _=>.tuple #[.agg #[.int .i64 0,.int .i64 0,.slice none 0 0,.int .i64 0],.bool false]) (fun _=>True) (fun _=>[]):=by
 cases ho:okR x.r with
 | false=>exact applyN0 x y ho hl
 |
  true =>
  by_cases hk:y.r.k=2
  · exact applyN2 x y ho hk hy h
  exact applyN x y ho hk hy h
theorem applyYes (x:RegS) (y:RecS) (hy:y.r.L.length≤2000) (z:Reg) (h:applyR x.r y.r=some z) :
 Triple Tryz.prog 220 [.agg (encG x).toArray,.agg (encR y).toArray] [] [x.rd,y.rdL] Sl (fun (A',c')=>.tuple #[.agg (encG ⟨z,A',c'⟩).toArray,.bool true]) (fun _=>True) (fun (A',c')=>[RegS.own ⟨z,A',c'⟩]):=by
 have ho:=(applyR_ok h).1
 have hkk:y.r.k=1∨y.r.k=2∨y.r.k=3∨y.r.k=4:=by
  unfold applyR at h
  rw [if_neg (by rw [ho];decide)] at h
  by_cases h1:y.r.k=1
  · exact .inl h1
  by_cases h2:y.r.k=2
  · exact .inr (.inl h2)
  by_cases h3:y.r.k=3
  · exact .inr (.inr (.inl h3))
  by_cases h4:y.r.k=4
  · exact .inr (.inr (.inr h4))
  rw [if_neg h1,if_neg h2,if_neg h3,if_neg h4] at h
  cases h
 have e:applyR x.r y.r=some z:=h
 unfold applyR at h
 rw [if_neg (by rw [ho];decide)] at h
 rcases hkk with hk | hk | hk | hk
 · rw [if_pos hk,Option.ite_none_right_eq_some] at h
   obtain ⟨_,h⟩:=h
   cases h
   exact (applyG13 x y ho _ (.inl hk) e).imp fun (A',c') _=>⟨(A',c'),rfl,trivial,fun _ q=>starH_one.2 (own_row _ rfl (starH_one.1 q))⟩
 · exact applyG2 x y ho hy z hk e
 · rw [if_neg (by omega),if_neg (by omega),if_pos hk,Option.ite_none_right_eq_some] at h
   obtain ⟨_,h⟩:=h
   cases h
   exact (applyG13 x y ho _ (.inr hk) e).imp fun (A',c') _=>⟨(A',c'),rfl,trivial,fun _ q=>starH_one.2 (own_row _ rfl (starH_one.1 q))⟩
 rw [if_neg (by omega),if_neg (by omega),if_neg (by omega),if_pos hk,Option.ite_none_right_eq_some] at h
 obtain ⟨_,h⟩:=h
 cases h
 exact (applyG4 x y ho hy _ hk e).imp fun (A',c') _=>⟨(A',c'),rfl,trivial,fun _ q=>starH_one.2 (own_row _ rfl (starH_one.1 q))⟩
end Go.Proofs.YtnhoidnmlibcpaaGreatDoor
namespace Go.Sy
def foldS (x:Sta):List Rec→Option Sta
 | []=>some x
 |
  r::l=>match applyS x r with
  | none=>none
  | some y=>foldS y l
theorem foldS_append:∀ (l m:List Rec) (x:Sta),foldS x (l++m)=match foldS x l with | none=>none | some y=>foldS y m
 | [],m,x=>rfl
 |
  r::l,m,x=>by
  simp only [List.cons_append,foldS]
  cases applyS x r with
  | none=>rfl
  | some y=>exact foldS_append l m y
def stepS (x:Sta) (r:Rec):Option Sta:=if r.k=4∨r.k=5∨mayR r=false then none else applyS x r
def writeS (x:Sta):List Rec→Option Sta
 | []=>some x
 |
  r::l=>match stepS x r with
  | none=>none
  | some y=>writeS y l
theorem stepS_some {x y:Sta} {r:Rec} (h:stepS x r=some y):r.k≠4∧r.k≠5∧mayR r=true∧applyS x r=some y:=by
 unfold stepS at h
 split at h
 · cases h
 rename_i q
 simp only [not_or,Bool.not_eq_false] at q
 exact ⟨q.1,q.2.1,q.2.2,h⟩
theorem okS.step {x y:Sta} {r:Rec} (h:okS x) (e:stepS x r=some y):okS y∧x.F <+: y.F:=by
 obtain ⟨h4,h5,hm,e⟩:=stepS_some e
 exact h.apply h5 h4 (fun y hy=>((small_of_may hm).ents y hy).2.2.1) e
theorem writeS_some:∀ {l:List Rec} {x y:Sta},writeS x l=some y→okS x→okS y∧x.F <+: y.F∧foldS x l=some y∧∀ r∈l,mayR r=true
 | [],x,y,h,ho=>by cases h;exact ⟨ho,List.prefix_refl _,rfl,fun _ h=>by cases h⟩
 |
  r::l,x,y,h,ho=>by
  simp only [writeS] at h
  cases hs:stepS x r with
  | none=>rw [hs] at h;cases h
  |
   some z =>
   rw [hs] at h
   obtain ⟨h1,h2⟩:=ho.step hs
   obtain ⟨h3,h4,h5,h6⟩:=writeS_some (l:=l) h h1
   obtain ⟨_,_,hm,ha⟩:=stepS_some hs
   refine ⟨h3,h2.trans h4,by simp only [foldS,ha];exact h5,fun q hq=>?_⟩
   rcases List.mem_cons.1 hq with rfl | hq
   · exact hm
   exact h6 q hq
/-! a checkpoint -/
def baseR (i:Nat) (r:Reg):Rec:=⟨4,i,r.p,r.v,0,r.c,r.L,[]⟩
theorem whole_all {L:List Ent} {v:Int} (h:wholeE L v=true):∀ x∈L,1≤x.e∧x.e≤v∧okO x=true:=by
 simp only [wholeE,Bool.and_eq_true,List.all_eq_true,decide_eq_true_eq,and_assoc] at h
 exact h.1
theorem ordF_all:∀ {F acc:List Spt},ordF acc F=true→∀ y∈F,0≤y.s∧y.s<4∧0≤y.i∧y.i<(cnt (acc++F) y.s:Int)
 | [],_,_,_,hy=>by cases hy
 |
  z::F,acc,h,y,hy=>by
  simp only [ordF,Bool.and_eq_true,decide_eq_true_eq] at h
  rcases List.mem_cons.1 hy with rfl | hy
  · refine ⟨h.1.1.1,h.1.1.2,by omega,?_⟩
    rw [h.1.2,cnt_append]
    have:0<cnt (y::F) y.s:=List.countP_pos_iff.2 ⟨y,List.mem_cons_self,decide_eq_true rfl⟩
    omega
  have:=ordF_all h.2 y hy
  rwa [List.append_assoc,List.singleton_append] at this
theorem cnt_four:∀ {F:List Spt},(∀ y∈F,0≤y.s∧y.s<4)→F.length=cnt F 0+cnt F 1+cnt F 2+cnt F 3
 | [],_=>rfl
 |
  y::F,h=>by
  have h1:=h y List.mem_cons_self
  have h2:=cnt_four (F:=F) fun z hz=>h z (List.mem_cons_of_mem _ hz)
  rw [show y::F=[y]++F from rfl]
  simp only [cnt_append,cnt_one,List.length_append,List.length_cons,List.length_nil]
  have:y.s=0∨y.s=1∨y.s=2∨y.s=3:=by omega
  rcases this with e | e | e | e<;>simp [e]<;>omega
theorem feed_small {x:Sta} (h:okS x):x.F.length≤256∧∀ y∈x.F,0≤y.s∧y.s<4∧0≤y.i∧y.i<64:=by
 have ht:=h.told
 simp only [toldF,Bool.and_eq_true,List.all_eq_true,List.mem_range,decide_eq_true_eq] at ht
 obtain ⟨h1,h2⟩:=ht
 have hc:∀ j:Nat,j<4→cnt x.F (j:Int)≤64:=fun j hj=>by
  have hl:j<x.R.length:=by rw [h.four];exact hj
  have e:=h2 j hj
  rw [List.getD_eq_getElem?_getD,List.getElem?_eq_getElem hl,Option.getD_some] at e
  obtain ⟨_,_,_,q4,_,q6⟩:=okR_of (h.regs _ (List.getElem_mem hl))
  have:=wholeE_len q4
  omega
 have ha:=ordF_all h1
 refine ⟨?_,fun y hy=>?_⟩
 · rw [cnt_four fun y hy=>⟨(ha y hy).1,(ha y hy).2.1⟩]
   have:=hc 0 (by decide)
   have:=hc 1 (by decide)
   have:=hc 2 (by decide)
   have:=hc 3 (by decide)
   simp only [Int.cast_ofNat_Int] at *
   omega
 obtain ⟨a,b,c,d⟩:=ha y hy
 rw [List.nil_append] at d
 have:=hc y.s.toNat (by omega)
 rw [show ((y.s.toNat:Nat):Int)=y.s by omega] at this
 exact ⟨a,b,c,by omega⟩
end Go.Sy
namespace Go.Proofs.YtnhoidnmlibcpaaGreatDoor
open Go.Sy Go.RowKit
structure StaS where
 r0:RegS
 r1:RegS
 r2:RegS
 r3:RegS
 F:List Spt
 A:Option Addr
 c:Nat
def StaS.abs (x:StaS):Sta:=⟨[x.r0.r,x.r1.r,x.r2.r,x.r3.r],x.F⟩
def encSt (x:StaS):List Value:=encG x.r0++(encG x.r1++(encG x.r2++(encG x.r3++[.slice x.A x.F.length x.c])))
def svG (x:RegS):List SV:=[vI x.r.p,vI x.r.v,vL x.A x.r.L.length x.a,vI x.r.c]
def svSt (x:StaS):List SV:=svG x.r0++(svG x.r1++(svG x.r2++(svG x.r3++[vL x.A x.F.length x.c])))
theorem cnt_take {F:List Spt} {i:Nat} (h:i<F.length) (s:Int):cnt (F.take (i+1)) s=cnt (F.take i) s+if F[i].s=s then 1 else 0:=by
 rw [←List.take_append_getElem h,cnt_append,cnt_one]
theorem ordF_at {F:List Spt} {i:Nat} (h:i<F.length):ordF (F.take i) (F.drop i)=(decide (0≤F[i].s)&&decide (F[i].s<4)&&decide (F[i].i=(cnt (F.take i) F[i].s:Int))&&ordF (F.take (i+1)) (F.drop (i+1))):=by
 rw [List.drop_eq_getElem_cons h,ordF,List.take_append_getElem h]
set_option maxHeartbeats 2000000 in
theorem toldT (x:StaS) (C:Option Addr) (F:List Spt) (m d:Nat) (hm:m=F.length) (h1:m≤1000000) :
 Triple Tryz.prog 155 [.agg (encSt x).toArray,.slice C m d] [] [Rd 2 C m (F.flatMap encP)] Unit (fun _=>.bool (toldF x.abs.R F)) (fun _=>True) (fun _=>[]):=by
 obtain ⟨⟨⟨p0,v0,L0,c0⟩,A0,a0⟩,⟨⟨p1,v1,L1,c1⟩,A1,a1⟩,⟨⟨p2,v2,L2,c2⟩,A2,a2⟩,⟨⟨p3,v3,L3,c3⟩,A3,a3⟩,G,A,c⟩:=x
 obtain ⟨W,hW⟩:∃ W,W=toldF [⟨p0,v0,L0,c0⟩,⟨p1,v1,L1,c1⟩,⟨p2,v2,L2,c2⟩,⟨p3,v3,L3,c3⟩] F:=⟨_,rfl⟩
 unfold StaS.abs
 simp only
 rw [←hW]
 have hW2:W=(ordF [] F&&(decide (c0=(cnt F 0:Int))&&(decide (c1=(cnt F 1:Int))&&(decide (c2=(cnt F 2:Int))&&decide (c3=(cnt F 3:Int)))))):=by
  rw [hW]
  unfold toldF
  simp [List.range,List.range.loop]
 clear hW
 refine aT Tryz.func155 [.ag (svSt ⟨⟨⟨p0,v0,L0,c0⟩,A0,a0⟩,⟨⟨p1,v1,L1,c1⟩,A1,a1⟩,⟨⟨p2,v2,L2,c2⟩,A2,a2⟩,⟨⟨p3,v3,L3,c3⟩,A3,a3⟩,G,A,c⟩),vL C m d] [] (fun E=>?_) ⟨by repeat (first | exact trivial | refine ⟨trivial,?_⟩),trivial,trivial⟩
 refine aG ?_
 refine ev_new fun b0=>?_
 refine ev_new fun b1=>?_
 refine ev_stop (go_loopR [0,4,7,12,13,14,15,16,17,18,19,20,21,22,23,24,25,26,27,28,29,30,31,32,33,34,35,36,37,38,39] (fun (i,_)=>[(12,vI (i:Nat))]) (fun (_,h0,h1,h2,h3)=>[(1,.box b1 64 [vI h0,vI h1,vI h2,vI h3])]) (fun (i,h0,h1,h2,h3)=>i≤m∧h0=(cnt (F.take i) 0:Int)∧h1=(cnt (F.take i) 1:Int)∧h2=(cnt (F.take i) 2:Int)∧h3=(cnt (F.take i) 3:Int)∧ordF [] F=ordF (F.take i) (F.drop i)) (fun (i,_)=>m-i) ((0,0,0,0,0):Nat × Int × Int × Int × Int) ⟨Nat.zero_le _,rfl,rfl,rfl,rfl,rfl⟩ aS (fun x_ h_=>?_))
 obtain ⟨i,h0,h1,h2,h3⟩:=x_
 obtain ⟨hi,e0,e1,e2,e3,ho⟩:=h_
 rcases Nat.lt_or_ge i m with him | him
 · have hil:i<F.length:=by omega
   rw [ordF_at hil] at ho
   obtain ⟨⟨s,j⟩,hy⟩:∃ y,y=F[i]:=⟨_,rfl⟩
   have ct:=fun s=>cnt_take hil s
   have hcl:∀ s,cnt (F.take i) s≤i:=fun s=>by
    have:=List.countP_le_length (p:=fun z:Spt=>decide (z.s=s)) (l:=F.take i)
    rw [List.length_take] at this
    unfold cnt
    omega
   rw [←hy] at ho ct
   simp only at ho ct
   have hFi:F[i].i=j:=by rw [←hy]
   by_cases hs:0≤s∧s<4
   · rcases (show s=0∨s=1∨s=2∨s=3 by omega) with rfl | rfl | rfl | rfl
     · have hFs:F[i].s=((0:Nat):Int):=by rw [←hy];rfl
       have hck:=hcl 0
       refine aG ?_
       refine aJ ?_ (decide_eq_true (show (↑i:Int)<(↑m:Int) from (by omega)))
       refine ev_stop (go_indexE (sz:=2) Tryz.tbs_ok (.inl 0) (i) rfl rfl rfl rfl rfl rfl (by omega) rfl (fun _ h=>h) (fun g10 o12 e11=>?_))
       subst e11
       refine aG ?_
       have l13:i<(F).length:=(by omega)
       refine ev_stop (go_loadE Tryz.tbs_ok (.inl 0) (i) 0 rfl rfl rfl rfl (fun _ h=>h) (by omega) (fun _=>rfl) (by omega) l13 (by decide) ?_)
       refine aG ?_
       refine ev_new fun b14=>?_
       refine ev_stop (go_draw Tryz.tbs_ok true [0,1,2] [(0,true),(1,true),(2,true),(3,true),(4,true),(5,true),(6,true),(7,true),(8,true),(9,true),(10,true),(11,true),(12,true),(13,true),(14,true),(15,true),(16,true)] rfl ?_)
       refine aG (aE ?_)
       refine aI ?_ (decide_eq_false (show ¬F[i].s<0 from (by omega)))
       refine aE ?_
       refine aI ?_ (decide_eq_false (show ¬F[i].s ≥ 4 from (by omega)))
       refine aE ?_
       refine ev_stop (go_slot 28 _ (.va (.int IntKind.i64 ((0:Nat):Int))) rfl rfl (congrArg (fun z=>Value.int IntKind.i64 z) (show F[i].s=((0:Nat):Int) by first | omega | (simp only [List.getElem_set_self];omega))) (fun _=>trivial) ?_)
       refine aG (aE ?_)
       refine ev_stop (tk_indexArr Tryz.tbs_ok (0) aB rfl rfl rfl rfl rfl rfl rfl (by first | decide | omega) rfl rfl ?_)
       refine aG (aE ?_)
       refine ev_if_ne (fun h15=>?_) (fun h15=>?_)
       refine aG ?_
       refine ev_fin ⟨trivial,_,rfl,(()),?_,(by trivial),Frm.nil _⟩
       rotate_left
       refine aG ?_
       refine ev_stop (go_slot 34 _ (.va (.int IntKind.i64 ((0:Nat):Int))) rfl rfl (congrArg (fun z=>Value.int IntKind.i64 z) (show F[i].s=((0:Nat):Int) by first | omega | (simp only [List.getElem_set_self];omega))) (fun _=>trivial) ?_)
       refine aG ?_
       refine ev_stop (go_indexArr Tryz.tbs_ok (0) rfl rfl rfl rfl rfl rfl (by first | decide | omega) rfl rfl ?_)
       refine aG ?_
       refine w6 ?_
       refine ev_stop (go_indexArr Tryz.tbs_ok (0) rfl rfl rfl rfl rfl rfl (by first | decide | omega) rfl rfl ?_)
       refine aG ?_
       refine wN (i+1) ?_
       refine ev_fin (round_next ((i+1,h0+1,h1,h2,h3)) (?_:i+1≤m∧h0+1=(↑(cnt (List.take (i+1) F) 0):Int)∧h1=(↑(cnt (List.take (i+1) F) 1):Int)∧h2=(↑(cnt (List.take (i+1) F) 2):Int)∧h3=(↑(cnt (List.take (i+1) F) 3):Int)∧ordF [] F=ordF (List.take (i+1) F) (List.drop (i+1) F)) (show m-(i+1)<m-i from (by omega)) aS)
       rotate_left
       · rw [show W=false by rw [hW2,ho,decide_eq_false (show ¬ j=(cnt (F.take i) 0:Int) by omega)];simp]
         rfl
       refine ⟨by omega,?_,?_,?_,?_,by rw [ho,decide_eq_true (show j=(cnt (F.take i) 0:Int) by omega)];simp⟩<;>(rw [ct];simp;omega)
     · have hFs:F[i].s=((1:Nat):Int):=by rw [←hy];rfl
       have hck:=hcl 1
       refine aG ?_
       refine aJ ?_ (decide_eq_true (show (↑i:Int)<(↑m:Int) from (by omega)))
       refine ev_stop (go_indexE (sz:=2) Tryz.tbs_ok (.inl 0) (i) rfl rfl rfl rfl rfl rfl (by omega) rfl (fun _ h=>h) (fun g10 o12 e11=>?_))
       subst e11
       refine aG ?_
       have l13:i<(F).length:=(by omega)
       refine ev_stop (go_loadE Tryz.tbs_ok (.inl 0) (i) 0 rfl rfl rfl rfl (fun _ h=>h) (by omega) (fun _=>rfl) (by omega) l13 (by decide) ?_)
       refine aG ?_
       refine ev_new fun b14=>?_
       refine ev_stop (go_draw Tryz.tbs_ok true [0,1,2] [(0,true),(1,true),(2,true),(3,true),(4,true),(5,true),(6,true),(7,true),(8,true),(9,true),(10,true),(11,true),(12,true),(13,true),(14,true),(15,true),(16,true)] rfl ?_)
       refine aG (aE ?_)
       refine aI ?_ (decide_eq_false (show ¬F[i].s<0 from (by omega)))
       refine aE ?_
       refine aI ?_ (decide_eq_false (show ¬F[i].s ≥ 4 from (by omega)))
       refine aE ?_
       refine ev_stop (go_slot 28 _ (.va (.int IntKind.i64 ((1:Nat):Int))) rfl rfl (congrArg (fun z=>Value.int IntKind.i64 z) (show F[i].s=((1:Nat):Int) by first | omega | (simp only [List.getElem_set_self];omega))) (fun _=>trivial) ?_)
       refine aG (aE ?_)
       refine ev_stop (tk_indexArr Tryz.tbs_ok (1) aB rfl rfl rfl rfl rfl rfl rfl (by first | decide | omega) rfl rfl ?_)
       refine aG (aE ?_)
       refine ev_if_ne (fun h15=>?_) (fun h15=>?_)
       refine aG ?_
       refine ev_fin ⟨trivial,_,rfl,(()),?_,(by trivial),Frm.nil _⟩
       rotate_left
       refine aG ?_
       refine ev_stop (go_slot 34 _ (.va (.int IntKind.i64 ((1:Nat):Int))) rfl rfl (congrArg (fun z=>Value.int IntKind.i64 z) (show F[i].s=((1:Nat):Int) by first | omega | (simp only [List.getElem_set_self];omega))) (fun _=>trivial) ?_)
       refine aG ?_
       refine ev_stop (go_indexArr Tryz.tbs_ok (1) rfl rfl rfl rfl rfl rfl (by first | decide | omega) rfl rfl ?_)
       refine aG ?_
       refine w6 ?_
       refine ev_stop (go_indexArr Tryz.tbs_ok (1) rfl rfl rfl rfl rfl rfl (by first | decide | omega) rfl rfl ?_)
       refine aG ?_
       refine wN (i+1) ?_
       refine ev_fin (round_next ((i+1,h0,h1+1,h2,h3)) (?_:i+1≤m∧h0=(↑(cnt (List.take (i+1) F) 0):Int)∧h1+1=(↑(cnt (List.take (i+1) F) 1):Int)∧h2=(↑(cnt (List.take (i+1) F) 2):Int)∧h3=(↑(cnt (List.take (i+1) F) 3):Int)∧ordF [] F=ordF (List.take (i+1) F) (List.drop (i+1) F)) (show m-(i+1)<m-i from (by omega)) aS)
       rotate_left
       · rw [show W=false by rw [hW2,ho,decide_eq_false (show ¬ j=(cnt (F.take i) 1:Int) by omega)];simp]
         rfl
       refine ⟨by omega,?_,?_,?_,?_,by rw [ho,decide_eq_true (show j=(cnt (F.take i) 1:Int) by omega)];simp⟩<;>(rw [ct];simp;omega)
     · have hFs:F[i].s=((2:Nat):Int):=by rw [←hy];rfl
       have hck:=hcl 2
       refine aG ?_
       refine aJ ?_ (decide_eq_true (show (↑i:Int)<(↑m:Int) from (by omega)))
       refine ev_stop (go_indexE (sz:=2) Tryz.tbs_ok (.inl 0) (i) rfl rfl rfl rfl rfl rfl (by omega) rfl (fun _ h=>h) (fun g10 o12 e11=>?_))
       subst e11
       refine aG ?_
       have l13:i<(F).length:=(by omega)
       refine ev_stop (go_loadE Tryz.tbs_ok (.inl 0) (i) 0 rfl rfl rfl rfl (fun _ h=>h) (by omega) (fun _=>rfl) (by omega) l13 (by decide) ?_)
       refine aG ?_
       refine ev_new fun b14=>?_
       refine ev_stop (go_draw Tryz.tbs_ok true [0,1,2] [(0,true),(1,true),(2,true),(3,true),(4,true),(5,true),(6,true),(7,true),(8,true),(9,true),(10,true),(11,true),(12,true),(13,true),(14,true),(15,true),(16,true)] rfl ?_)
       refine aG (aE ?_)
       refine aI ?_ (decide_eq_false (show ¬F[i].s<0 from (by omega)))
       refine aE ?_
       refine aI ?_ (decide_eq_false (show ¬F[i].s ≥ 4 from (by omega)))
       refine aE ?_
       refine ev_stop (go_slot 28 _ (.va (.int IntKind.i64 ((2:Nat):Int))) rfl rfl (congrArg (fun z=>Value.int IntKind.i64 z) (show F[i].s=((2:Nat):Int) by first | omega | (simp only [List.getElem_set_self];omega))) (fun _=>trivial) ?_)
       refine aG (aE ?_)
       refine ev_stop (tk_indexArr Tryz.tbs_ok (2) aB rfl rfl rfl rfl rfl rfl rfl (by first | decide | omega) rfl rfl ?_)
       refine aG (aE ?_)
       refine ev_if_ne (fun h15=>?_) (fun h15=>?_)
       refine aG ?_
       refine ev_fin ⟨trivial,_,rfl,(()),?_,(by trivial),Frm.nil _⟩
       rotate_left
       refine aG ?_
       refine ev_stop (go_slot 34 _ (.va (.int IntKind.i64 ((2:Nat):Int))) rfl rfl (congrArg (fun z=>Value.int IntKind.i64 z) (show F[i].s=((2:Nat):Int) by first | omega | (simp only [List.getElem_set_self];omega))) (fun _=>trivial) ?_)
       refine aG ?_
       refine ev_stop (go_indexArr Tryz.tbs_ok (2) rfl rfl rfl rfl rfl rfl (by first | decide | omega) rfl rfl ?_)
       refine aG ?_
       refine w6 ?_
       refine ev_stop (go_indexArr Tryz.tbs_ok (2) rfl rfl rfl rfl rfl rfl (by first | decide | omega) rfl rfl ?_)
       refine aG ?_
       refine wN (i+1) ?_
       refine ev_fin (round_next ((i+1,h0,h1,h2+1,h3)) (?_:i+1≤m∧h0=(↑(cnt (List.take (i+1) F) 0):Int)∧h1=(↑(cnt (List.take (i+1) F) 1):Int)∧h2+1=(↑(cnt (List.take (i+1) F) 2):Int)∧h3=(↑(cnt (List.take (i+1) F) 3):Int)∧ordF [] F=ordF (List.take (i+1) F) (List.drop (i+1) F)) (show m-(i+1)<m-i from (by omega)) aS)
       rotate_left
       · rw [show W=false by rw [hW2,ho,decide_eq_false (show ¬ j=(cnt (F.take i) 2:Int) by omega)];simp]
         rfl
       refine ⟨by omega,?_,?_,?_,?_,by rw [ho,decide_eq_true (show j=(cnt (F.take i) 2:Int) by omega)];simp⟩<;>(rw [ct];simp;omega)
     have hFs:F[i].s=((3:Nat):Int):=by rw [←hy];rfl
     have hck:=hcl 3
     refine aG ?_
     refine aJ ?_ (decide_eq_true (show (↑i:Int)<(↑m:Int) from (by omega)))
     refine ev_stop (go_indexE (sz:=2) Tryz.tbs_ok (.inl 0) (i) rfl rfl rfl rfl rfl rfl (by omega) rfl (fun _ h=>h) (fun g10 o12 e11=>?_))
     subst e11
     refine aG ?_
     have l13:i<(F).length:=(by omega)
     refine ev_stop (go_loadE Tryz.tbs_ok (.inl 0) (i) 0 rfl rfl rfl rfl (fun _ h=>h) (by omega) (fun _=>rfl) (by omega) l13 (by decide) ?_)
     refine aG ?_
     refine ev_new fun b14=>?_
     refine ev_stop (go_draw Tryz.tbs_ok true [0,1,2] [(0,true),(1,true),(2,true),(3,true),(4,true),(5,true),(6,true),(7,true),(8,true),(9,true),(10,true),(11,true),(12,true),(13,true),(14,true),(15,true),(16,true)] rfl ?_)
     refine aG (aE ?_)
     refine aI ?_ (decide_eq_false (show ¬F[i].s<0 from (by omega)))
     refine aE ?_
     refine aI ?_ (decide_eq_false (show ¬F[i].s ≥ 4 from (by omega)))
     refine aE ?_
     refine ev_stop (go_slot 28 _ (.va (.int IntKind.i64 ((3:Nat):Int))) rfl rfl (congrArg (fun z=>Value.int IntKind.i64 z) (show F[i].s=((3:Nat):Int) by first | omega | (simp only [List.getElem_set_self];omega))) (fun _=>trivial) ?_)
     refine aG (aE ?_)
     refine ev_stop (tk_indexArr Tryz.tbs_ok (3) aB rfl rfl rfl rfl rfl rfl rfl (by first | decide | omega) rfl rfl ?_)
     refine aG (aE ?_)
     refine ev_if_ne (fun h15=>?_) (fun h15=>?_)
     refine aG ?_
     refine ev_fin ⟨trivial,_,rfl,(()),?_,(by trivial),Frm.nil _⟩
     rotate_left
     refine aG ?_
     refine ev_stop (go_slot 34 _ (.va (.int IntKind.i64 ((3:Nat):Int))) rfl rfl (congrArg (fun z=>Value.int IntKind.i64 z) (show F[i].s=((3:Nat):Int) by first | omega | (simp only [List.getElem_set_self];omega))) (fun _=>trivial) ?_)
     refine aG ?_
     refine ev_stop (go_indexArr Tryz.tbs_ok (3) rfl rfl rfl rfl rfl rfl (by first | decide | omega) rfl rfl ?_)
     refine aG ?_
     refine w6 ?_
     refine ev_stop (go_indexArr Tryz.tbs_ok (3) rfl rfl rfl rfl rfl rfl (by first | decide | omega) rfl rfl ?_)
     refine aG ?_
     refine wN (i+1) ?_
     refine ev_fin (round_next ((i+1,h0,h1,h2,h3+1)) (?_:i+1≤m∧h0=(↑(cnt (List.take (i+1) F) 0):Int)∧h1=(↑(cnt (List.take (i+1) F) 1):Int)∧h2=(↑(cnt (List.take (i+1) F) 2):Int)∧h3+1=(↑(cnt (List.take (i+1) F) 3):Int)∧ordF [] F=ordF (List.take (i+1) F) (List.drop (i+1) F)) (show m-(i+1)<m-i from (by omega)) aS)
     rotate_left
     · rw [show W=false by rw [hW2,ho,decide_eq_false (show ¬ j=(cnt (F.take i) 3:Int) by omega)];simp]
       rfl
     refine ⟨by omega,?_,?_,?_,?_,by rw [ho,decide_eq_true (show j=(cnt (F.take i) 3:Int) by omega)];simp⟩<;>(rw [ct];simp;omega)
   have hFs:F[i].s=s:=by rw [←hy]
   have hWf:W=false:=by rw [hW2,ho];rcases (show ¬ 0≤s∨¬ s<4 by omega) with q | q<;>simp [q]
   refine aG ?_
   refine aJ ?_ (decide_eq_true (show (↑i:Int)<(↑m:Int) from (by omega)))
   refine ev_stop (go_indexE (sz:=2) Tryz.tbs_ok (.inl 0) (i) rfl rfl rfl rfl rfl rfl (by omega) rfl (fun _ h=>h) (fun g10 o12 e11=>?_))
   subst e11
   refine aG ?_
   have l13:i<(F).length:=(by omega)
   refine ev_stop (go_loadE Tryz.tbs_ok (.inl 0) (i) 0 rfl rfl rfl rfl (fun _ h=>h) (by omega) (fun _=>rfl) (by omega) l13 (by decide) ?_)
   refine aG ?_
   refine ev_new fun b14=>?_
   refine ev_stop (go_draw Tryz.tbs_ok true [0,1,2] [(0,true),(1,true),(2,true),(3,true),(4,true),(5,true),(6,true),(7,true),(8,true),(9,true),(10,true),(11,true),(12,true),(13,true),(14,true),(15,true),(16,true)] rfl ?_)
   refine aG (aE ?_)
   refine ev_if_lt (fun h15=>?_) (fun h15=>?_)
   refine aG (aE ?_)
   refine ev_fin ⟨trivial,_,rfl,(()),?_,(by trivial),Frm.nil _⟩
   rotate_left
   refine aG (aE ?_)
   refine aJ ?_ (decide_eq_true (show F[i].s ≥ 4 from (by omega)))
   refine aE ?_
   refine ev_fin ⟨trivial,_,rfl,(()),?_,(by trivial),Frm.nil _⟩
   rotate_left
   all_goals (rw [hWf];rfl)
 have hT:F.take i=F:=List.take_of_length_le (by omega)
 have hD:F.drop i=[]:=List.drop_of_length_le (by omega)
 rw [hT,hD] at ho
 rw [hT] at e0 e1 e2 e3
 rw [ho,←e0,←e1,←e2,←e3] at hW2
 refine aG ?_
 refine aI ?_ (decide_eq_false (show ¬(↑i:Int)<(↑m:Int) from (by omega)))
 refine ev_fin (go Tryz.tbs_ok 1000 ?_)
 refine ev_stop (go_rounds 5 ?_)
 refine aG (aJ ?_)
 refine ev_stop (go_indexAg Tryz.tbs_ok (0) rfl rfl rfl rfl rfl rfl (by decide) rfl ?_)
 refine aG ?_
 refine ev_new fun b60=>?_
 refine ev_stop (go_draw Tryz.tbs_ok true [0,1,2] [(0,true),(1,true),(2,true),(3,true),(4,true),(5,true)] rfl ?_)
 refine aG (aE ?_)
 refine ev_stop (tk_indexArr Tryz.tbs_ok (0) aB rfl rfl rfl rfl rfl rfl rfl (by first | decide | omega) rfl rfl ?_)
 refine aG (aE ?_)
 refine ev_if_ne (fun h61=>?_) (fun h61=>?_)
 refine aG ?_
 refine ev_fin ⟨trivial,_,rfl,(()),?_,(by trivial),Frm.nil _⟩
 rotate_left
 refine aG ?_
 refine wN (0+1) ?_
 refine ev_fin (go Tryz.tbs_ok 1000 ?_)
 refine aJ ?_
 refine ev_stop (go_indexAg Tryz.tbs_ok (0+1) rfl rfl rfl rfl rfl rfl (by decide) rfl ?_)
 refine aG ?_
 refine ev_new fun b62=>?_
 refine ev_stop (go_draw Tryz.tbs_ok true [0,1,2,3] [(0,true),(1,true),(2,true),(3,true),(4,true),(5,true)] rfl ?_)
 refine aG (aE ?_)
 refine ev_stop (tk_indexArr Tryz.tbs_ok (0+1) aB rfl rfl rfl rfl rfl rfl rfl (by first | decide | omega) rfl rfl ?_)
 refine aG (aE ?_)
 refine ev_if_ne (fun h63=>?_) (fun h63=>?_)
 refine aG ?_
 refine ev_fin ⟨trivial,_,rfl,(()),?_,(by trivial),Frm.nil _⟩
 rotate_left
 refine aG ?_
 refine wN (0+1+1) ?_
 refine ev_fin (go Tryz.tbs_ok 1000 ?_)
 refine aJ ?_
 refine ev_stop (go_indexAg Tryz.tbs_ok (0+1+1) rfl rfl rfl rfl rfl rfl (by decide) rfl ?_)
 refine aG ?_
 refine ev_new fun b64=>?_
 refine ev_stop (go_draw Tryz.tbs_ok true [0,1,2,3,4] [(0,true),(1,true),(2,true),(3,true),(4,true),(5,true)] rfl ?_)
 refine aG (aE ?_)
 refine ev_stop (tk_indexArr Tryz.tbs_ok (0+1+1) aB rfl rfl rfl rfl rfl rfl rfl (by first | decide | omega) rfl rfl ?_)
 refine aG (aE ?_)
 refine ev_if_ne (fun h65=>?_) (fun h65=>?_)
 refine aG ?_
 refine ev_fin ⟨trivial,_,rfl,(()),?_,(by trivial),Frm.nil _⟩
 rotate_left
 refine aG ?_
 refine wN (0+1+1+1) ?_
 refine ev_fin (go Tryz.tbs_ok 1000 ?_)
 refine aJ ?_
 refine ev_stop (go_indexAg Tryz.tbs_ok (0+1+1+1) rfl rfl rfl rfl rfl rfl (by decide) rfl ?_)
 refine aG ?_
 refine ev_new fun b66=>?_
 refine ev_stop (go_draw Tryz.tbs_ok true [0,1,2,3,4,5] [(0,true),(1,true),(2,true),(3,true),(4,true),(5,true)] rfl ?_)
 refine aG (aE ?_)
 refine ev_stop (tk_indexArr Tryz.tbs_ok (0+1+1+1) aB rfl rfl rfl rfl rfl rfl rfl (by first | decide | omega) rfl rfl ?_)
 refine aG (aE ?_)
 refine ev_if_ne (fun h67=>?_) (fun h67=>?_)
 refine aG ?_
 refine ev_fin ⟨trivial,_,rfl,(()),?_,(by trivial),Frm.nil _⟩
 rotate_left
 refine aG ?_
 refine wN (0+1+1+1+1) ?_
 refine ev_fin (go Tryz.tbs_ok 1000 ?_)
 refine aI ?_
 refine ev_fin (go Tryz.tbs_ok 1000 ?_)
 refine ev_fin ⟨trivial,_,rfl,(()),?_,(by trivial),Frm.nil _⟩
 rotate_left
 all_goals (show Value.bool _=Value.bool W;congr 1;rw [hW2,show ordF F []=true from rfl];clear e0 e1 e2 e3 ho hW2;grind)
theorem baseT (i:Nat) (x:RegS) (hl:x.r.L.length≤1000):Triple Tryz.prog 101 [.int .i64 (i:Int),.agg (encG x).toArray] [] [x.rd] Sl (fun (A',c')=>.agg (encR ⟨baseR i x.r,A',c',none,0⟩).toArray) (fun _=>True) (fun (A',c')=>[Row 127 6 A' x.r.L.length c' (x.r.L.flatMap encE)]):=by
 have T1:=cloneE x.A x.r.L x.r.L.length x.a rfl (by omega)
 obtain ⟨⟨p,v,L,c⟩,A,a⟩:=x
 obtain ⟨m,hm⟩:∃ m,m=L.length:=⟨_,rfl⟩
 unfold RegS.rd encG encR baseR
 simp only [←hm] at T1 ⊢
 refine aT Tryz.func101 [vI (i:Int),.ag [vI p,vI v,vL A m a,vI c]] [] (fun E=>?_) ⟨trivial,⟨trivial,trivial,trivial,trivial,trivial⟩,trivial⟩
 refine aG ?_
 refine ev_new fun b0=>?_
 refine ev_new fun b1=>?_
 refine ev_stop (go_draw Tryz.tbs_ok false [0] [(0,true),(1,true),(2,true),(3,true),(4,true),(5,true),(6,true),(7,true),(8,true),(9,false),(10,false),(11,false)] rfl ?_)
 refine aG (aE ?_)
 refine aC T1 [] [.inl 0] fun ⟨x2,x3⟩ h4=>?_
 refine aE (aE (aK ?_))
 exact ev_fin ⟨trivial,_,rfl,((x2,x3)),rfl,by trivial,aF [2]⟩
theorem cloneP (C:Option Addr) (L:List Spt) (m d:Nat) (hm:m=L.length) (h1:m≤100000):Triple Tryz.prog 67 [.slice C m d] [] [Rd 2 C m (L.flatMap encP)] Sl (fun (B,d)=>.slice B m d) (fun (_,d)=>m≤d) (fun (B,d)=>[Row 112 2 B m d (L.flatMap encP)]):=by
 refine aT Tryz.func67 [vL C m d] [] (fun E=>?_) ⟨trivial,trivial⟩
 cases C with
 |
  none =>
  refine go_know (.inl 0) (Rd 2 none m (L.flatMap encP)) rfl (p:=m=0) (fun h q=>by
   rcases Nat.eq_zero_or_pos m with h1 | h1
   · exact h1
   obtain ⟨_,_,_,_,_,e,_⟩:=q.2.2 h1
   cases e) fun h0=>?_
  obtain rfl:L=[]:=List.eq_nil_of_length_eq_zero (by omega)
  subst h0
  refine go_fact (Row 112 2 none 0 0 (([]:List Spt).flatMap encP)) (Row.nilE _ _) ?_
  refine aG (aJ ?_)
  exact ev_fin ⟨trivial,_,rfl,((none,0)),rfl,by trivial,aF [0]⟩
 | some g =>
  refine go Tryz.tbs_ok 1000 ?_
  refine aI ?_
  refine ev_new fun b0=>?_
  refine ev_stop (go_appendE (sz:=2) (M:=[_]) (enc:=encP) Tryz.tbs_ok [0] [some b0] (.inl 0) ([]) (L) (L) (m) rfl rfl rfl rfl rfl rfl rfl (by decide) rfl (by decide) (fun _ p=>Pt.row (starH_one.1 p) rfl (by decide)) rfl (fun _ h=>h) (by first | rfl | simp) (by first | rfl | omega) (aM (m)) (aN (m)) (fun _ _=>aL) (fun A1 c2 h3=>?_))
  refine aG ?_
  exact ev_fin ⟨trivial,_,rfl,((A1,c2)),rfl,by trivial,aF [1]⟩
theorem clipT (C:Option Addr) (m d:Nat) (hd:m≤d):Triple Tryz.prog 221 [.slice C m d] [] [] Unit (fun _=>.slice C m m) (fun _=>True) (fun _=>[]):=by
 refine aT Tryz.func221 [vL C m d] [] (fun E=>?_) ⟨trivial,trivial⟩
 refine aG ?_
 refine ev_stop (go_front Tryz.tbs_ok (m) (m) rfl rfl rfl rfl rfl rfl ⟨_,rfl⟩ ⟨_,rfl⟩ (by decide) (by omega) (by omega) ?_)
 refine aG ?_
 refine ev_fin ⟨trivial,_,rfl,(()),rfl,(by trivial),Frm.nil _⟩
 all_goals skip
/-! a state,and what reads of it -/
def StaS.regs (x:StaS):List RegS:=[x.r0,x.r1,x.r2,x.r3]
def StaS.put (x:StaS) (s:Nat) (y:RegS):StaS:=match s with
 | 0=>{ x with r0:=y }
 | 1=>{ x with r1:=y }
 | 2=>{ x with r2:=y }
 | _=>{ x with r3:=y }
def StaS.rd (x:StaS):Asn:=⟨fun h=>(∀ y∈x.regs,y.own.holds h)∧(Rd 2 x.A x.F.length (x.F.flatMap encP)).holds h∧x.F.length≤x.c∧(x.A=none→x.c=0),fun e ⟨a,b,c⟩=>⟨fun y hy=>y.own.mono e (a y hy),(Rd _ _ _ _).mono e b,c⟩⟩
def Gives (A B:Asn):Asn:=⟨fun h=>∀ k,h.le k→A.holds k→B.holds k,fun e p k hk=>p k (e.trans hk)⟩
theorem put_regs (x:StaS) (s:Nat) (hs:s<4) (y:RegS):(x.put s y).regs=x.regs.set s y:=by
 rcases (show s=0∨s=1∨s=2∨s=3 by omega) with rfl | rfl | rfl | rfl<;>rfl
theorem abs_R (x:StaS):x.abs.R=x.regs.map (·.r):=rfl
theorem encG_len (x:RegS):(encG x).length=4:=rfl
theorem encG_one (x:RegS):∀ v∈encG x,v.oneCell'=true:=by
 intro v hv
 simp only [encG,List.mem_cons,List.not_mem_nil,or_false] at hv
 rcases hv with rfl | rfl | rfl | rfl<;>rfl
theorem regs_at {x:StaS} {j:Nat} {g:RegS} (hg:x.regs[j]? = some g):((x.regs.flatMap encG++[Value.slice x.A x.F.length x.c]).drop (j*4)).take 4=encG g:=by
 obtain ⟨hj,rfl⟩:=List.getElem?_eq_some_iff.1 hg
 have hl:x.regs.length=4:=rfl
 rw [List.drop_append_of_le_length (by rw [flat_len encG_len,hl];omega),List.take_append_of_le_length (by rw [List.length_drop,flat_len encG_len,hl];omega)]
 exact part_at encG_len hj 0 4 (by decide)
theorem regs_over {x:StaS} {j:Nat} (hj:j<4) (y:RegS):over (x.regs.flatMap encG++[.slice x.A x.F.length x.c]) (j*4) (encG y)=(x.put j y).regs.flatMap encG++[.slice x.A x.F.length x.c]:=by
 rcases (show j=0∨j=1∨j=2∨j=3 by omega) with rfl | rfl | rfl | rfl<;>rfl
theorem put_enc (x:StaS) (j:Nat) (y:RegS):(x.put j y).regs.flatMap encG++[Value.slice x.A x.F.length x.c]=encSt (x.put j y):=by
 unfold StaS.put;split<;>rfl
set_option maxHeartbeats 2000000 in
theorem applyD (x:StaS) (y:RecS) (j:Nat) (hj:j<4) (hs:y.r.s=(j:Int)) (hk5:y.r.k≠5) (hk3:y.r.k≠3) (hy:y.r.L.length≤2000) (z:Reg) (g:RegS) (hg:x.regs[j]? = some g) (h:applyR g.r y.r=some z) :
 Triple Tryz.prog 154 [.agg (encSt x).toArray,.agg (encR y).toArray] [] [x.rd,y.rdL] Sl (fun (A',c')=>.tuple #[.agg (encSt (x.put j ⟨z,A',c'⟩)).toArray,.bool true]) (fun _=>True) (fun (A',c')=>[RegS.own ⟨z,A',c'⟩]):=by
 have T1:=(applyYes g y hy z h).reads (N':=[x.rd,y.rdL]) (fun X hX=>by
  simp only [List.mem_cons,List.not_mem_nil,or_false] at hX
  rcases hX with rfl | rfl
  · exact ⟨_,List.mem_cons_self,fun _ q=>(q.1 g (List.mem_of_getElem? hg)).1⟩
  exact ⟨_,List.mem_cons_of_mem _ List.mem_cons_self,fun _ q=>q⟩)
 refine aT Tryz.func154 [.ag (svSt x),.ag [vI y.r.k,vI y.r.s,vI y.r.e,vI y.r.v,vI y.r.f,vI y.r.n,vL y.A y.r.L.length y.a,vL y.B y.r.F.length y.b]] [] (fun E=>?_) ⟨by repeat (first | exact trivial | refine ⟨trivial,?_⟩),by repeat (first | exact trivial | refine ⟨trivial,?_⟩),trivial⟩
 refine aG ?_
 refine ev_new fun b0=>?_
 refine ev_new fun b1=>?_
 refine ev_new fun b2=>?_
 refine ev_if_no (beq_eq_false_iff_ne.2 hk5) ?_
 refine go_boxfact 0 (Pt b0 100 (x.regs.flatMap encG++[Value.slice x.A x.F.length x.c])) rfl (fun _ p=>p) aL ?_
 refine go_slot 2 _ (vP b0) rfl rfl rfl (fun _=>trivial) ?_
 refine aG ?_
 refine aI ?_ (decide_eq_false (show ¬y.r.s<0 from (by omega)))
 refine aI ?_ (decide_eq_false (show ¬y.r.s ≥ 4 from (by omega)))
 refine ev_stop (go_indexArrV Tryz.tbs_ok (c:=j*4) j rfl rfl (show Value.int .i64 y.r.s=Value.int .i64 (j:Int) by rw [hs]) rfl rfl rfl hj (by show 0+0+j*4=j*4;omega) ?_)
 refine go_load Tryz.tbs_ok b0 _ 0 (j*4) 1 17 _ (.inr 3) (Pt b0 100 (x.regs.flatMap encG++[Value.slice x.A x.F.length x.c])) (x.regs.flatMap encG++[Value.slice x.A x.F.length x.c]) (encG g) rfl rfl rfl rfl (fun h p=>rd_pt p) (by omega) (regs_at hg) rfl (by decide) (.ag (svG g)) rfl ?_
 refine aG ?_
 refine ev_new fun b30=>?_
 refine aC T1 [] [.inl 0,.inl 1] fun ⟨x31,x32⟩ h33=>?_
 refine ev_new fun b34=>?_
 refine aI ?_
 refine ev_stop (go_indexArrV Tryz.tbs_ok (c:=j*4) j rfl rfl (show Value.int .i64 y.r.s=Value.int .i64 (j:Int) by rw [hs]) rfl rfl rfl hj (by show 0+0+j*4=j*4;omega) ?_)
 refine go_storeP Tryz.tbs_ok (i:=3) ((x.put j ⟨z,x31,x32⟩).regs.flatMap encG++[.slice x.A x.F.length x.c]) rfl rfl rfl rfl rfl rfl (encG_one ⟨z,x31,x32⟩) rfl (by show j*4+4≤17;omega) (regs_over hj _) ?_
 refine aG ?_
 refine aI ?_ (beq_eq_false_iff_ne.2 (by with_reducible assumption))
 refine ev_stop (go_load Tryz.tbs_ok b0 _ 0 0 1 17 _ (.inr 3) (Pt b0 100 ((x.put j ⟨z,x31,x32⟩).regs.flatMap encG++[Value.slice x.A x.F.length x.c])) ((x.put j ⟨z,x31,x32⟩).regs.flatMap encG++[Value.slice x.A x.F.length x.c]) ((x.put j ⟨z,x31,x32⟩).regs.flatMap encG++[Value.slice x.A x.F.length x.c]) rfl rfl rfl rfl (fun h p=>rd_pt p) rfl rfl rfl (by decide) (.ag (svSt (x.put j ⟨z,x31,x32⟩))) (by rw [put_enc];rfl) ?_)
 refine aG ?_
 exact ev_fin ⟨trivial,_,rfl,((x31,x32)),rfl,by trivial,aF [5]⟩
 all_goals skip
def zeroSt:StaS:=⟨⟨⟨0,0,[],0⟩,none,0⟩,⟨⟨0,0,[],0⟩,none,0⟩,⟨⟨0,0,[],0⟩,none,0⟩,⟨⟨0,0,[],0⟩,none,0⟩,[],none,0⟩
set_option maxHeartbeats 2000000 in
theorem applyO (x:StaS) (y:RecS) (hs:y.r.s<0∨4≤y.r.s) (hk5:y.r.k≠5) :
 Triple Tryz.prog 154 [.agg (encSt x).toArray,.agg (encR y).toArray] [] [] Unit (fun _=>.tuple #[.agg (encSt zeroSt).toArray,.bool false]) (fun _=>True) (fun _=>[]):=by
 refine aT Tryz.func154 [.ag (svSt x),.ag [vI y.r.k,vI y.r.s,vI y.r.e,vI y.r.v,vI y.r.f,vI y.r.n,vL y.A y.r.L.length y.a,vL y.B y.r.F.length y.b]] [] (fun E=>?_) ⟨by repeat (first | exact trivial | refine ⟨trivial,?_⟩),by repeat (first | exact trivial | refine ⟨trivial,?_⟩),trivial⟩
 refine aG ?_
 refine ev_new fun b0=>?_
 refine ev_new fun b1=>?_
 refine ev_new fun b2=>?_
 refine aI ?_ (beq_eq_false_iff_ne.2 hk5)
 refine ev_if_lt (fun h20=>?_) (fun h20=>?_)
 refine aG ?_
 refine ev_fin ⟨trivial,_,rfl,(()),rfl,(by trivial),Frm.nil _⟩
 refine aG ?_
 refine aJ ?_ (decide_eq_true (show y.r.s ≥ 4 from (by omega)))
 refine ev_fin ⟨trivial,_,rfl,(()),rfl,(by trivial),Frm.nil _⟩
 all_goals skip
set_option maxHeartbeats 2000000 in
theorem applyC (x:StaS) (y:RecS) (j:Nat) (hj:j<4) (hs:y.r.s=(j:Int)) (hk5:y.r.k≠5) (hy:y.r.L.length≤2000) (g:RegS) (hg:x.regs[j]? = some g) (hl:g.r.L.length≤1000000) (h:applyR g.r y.r=none) :
 Triple Tryz.prog 154 [.agg (encSt x).toArray,.agg (encR y).toArray] [] [x.rd,y.rdL] Unit (fun _=>.tuple #[.agg (encSt zeroSt).toArray,.bool false]) (fun _=>True) (fun _=>[]):=by
 have T1:=(applyNo g y hl hy h).reads (N':=[x.rd,y.rdL]) (fun X hX=>by
  simp only [List.mem_cons,List.not_mem_nil,or_false] at hX
  rcases hX with rfl | rfl
  · exact ⟨_,List.mem_cons_self,fun _ q=>(q.1 g (List.mem_of_getElem? hg)).1⟩
  exact ⟨_,List.mem_cons_of_mem _ List.mem_cons_self,fun _ q=>q⟩)
 refine aT Tryz.func154 [.ag (svSt x),.ag [vI y.r.k,vI y.r.s,vI y.r.e,vI y.r.v,vI y.r.f,vI y.r.n,vL y.A y.r.L.length y.a,vL y.B y.r.F.length y.b]] [] (fun E=>?_) ⟨by repeat (first | exact trivial | refine ⟨trivial,?_⟩),by repeat (first | exact trivial | refine ⟨trivial,?_⟩),trivial⟩
 refine aG ?_
 refine ev_new fun b0=>?_
 refine ev_new fun b1=>?_
 refine ev_new fun b2=>?_
 refine ev_if_no (beq_eq_false_iff_ne.2 hk5) ?_
 refine go_boxfact 0 (Pt b0 100 (x.regs.flatMap encG++[Value.slice x.A x.F.length x.c])) rfl (fun _ p=>p) aL ?_
 refine go_slot 2 _ (vP b0) rfl rfl rfl (fun _=>trivial) ?_
 refine aG ?_
 refine aI ?_ (decide_eq_false (show ¬y.r.s<0 from (by omega)))
 refine aI ?_ (decide_eq_false (show ¬y.r.s ≥ 4 from (by omega)))
 refine ev_stop (go_indexArrV Tryz.tbs_ok (c:=j*4) j rfl rfl (show Value.int .i64 y.r.s=Value.int .i64 (j:Int) by rw [hs]) rfl rfl rfl hj (by show 0+0+j*4=j*4;omega) ?_)
 refine go_load Tryz.tbs_ok b0 _ 0 (j*4) 1 17 _ (.inr 3) (Pt b0 100 (x.regs.flatMap encG++[Value.slice x.A x.F.length x.c])) (x.regs.flatMap encG++[Value.slice x.A x.F.length x.c]) (encG g) rfl rfl rfl rfl (fun h p=>rd_pt p) (by omega) (regs_at hg) rfl (by decide) (.ag (svG g)) rfl ?_
 refine aG ?_
 refine ev_new fun b30=>?_
 refine aC T1 [] [.inl 0,.inl 1] fun _ h31=>?_
 refine ev_new fun b32=>?_
 refine aJ ?_
 refine ev_fin ⟨trivial,_,rfl,(()),rfl,(by trivial),Frm.nil _⟩
 all_goals skip
def StaS.fed (x:StaS) (F:List Spt) (A:Option Addr) (c:Nat):StaS:={ x with F:=F,A:=A,c:=c }
set_option maxHeartbeats 2000000 in
theorem applyE (x:StaS) (y:RecS) (hk5:y.r.k=5) (hl:y.r.F.length≤100000) :
 Triple Tryz.prog 154 [.agg (encSt x).toArray,.agg (encR y).toArray] [] [Rd 2 y.B y.r.F.length (y.r.F.flatMap encP)] Sl (fun (B',d')=>.tuple #[.agg (encSt (x.fed y.r.F B' d')).toArray,.bool (decide (x.F=[])&&toldF x.abs.R y.r.F)]) (fun (_,d')=>y.r.F.length≤d') (fun (B',d')=>[Row 112 2 B' y.r.F.length d' (y.r.F.flatMap encP)]):=by
 have T1:=toldT x y.B y.r.F y.r.F.length y.b rfl (by omega)
 have T2:=cloneP y.B y.r.F y.r.F.length y.b rfl hl
 obtain ⟨W,hW⟩:∃ W,W=toldF x.abs.R y.r.F:=⟨_,rfl⟩
 obtain ⟨m,hm⟩:∃ m,m=y.r.F.length:=⟨_,rfl⟩
 rw [←hW] at T1 ⊢
 refine aT Tryz.func154 [.ag (svSt x),.ag [vI y.r.k,vI y.r.s,vI y.r.e,vI y.r.v,vI y.r.f,vI y.r.n,vL y.A y.r.L.length y.a,vL y.B y.r.F.length y.b]] [] (fun E=>?_) ⟨by repeat (first | exact trivial | refine ⟨trivial,?_⟩),by repeat (first | exact trivial | refine ⟨trivial,?_⟩),trivial⟩
 refine aG ?_
 refine ev_new fun b0=>?_
 refine ev_new fun b1=>?_
 refine ev_new fun b2=>?_
 refine ev_if_yes (beq_iff_eq.2 hk5) ?_
 by_cases hF:x.F=[]
 · have hn:x.F.length=0:=by rw [hF];rfl
   refine aG ?_
   refine aJ ?_ (beq_iff_eq.2 (show (↑x.F.length:Int)=0 from (by omega)))
   refine aC T1 [] [.inl 0] fun _ h20=>?_
   refine aC T2 [] [.inl 0] fun ⟨x21,x22⟩ h23=>?_
   refine ev_fin ⟨trivial,_,rfl,((x21,x22)),?_,by trivial,aF [3]⟩
   rw [decide_eq_true hF];rfl
 have hn:x.F.length≠0:=fun e=>hF (List.eq_nil_of_length_eq_zero e)
 refine aG ?_
 refine aI ?_ (beq_eq_false_iff_ne.2 (show ¬(↑x.F.length:Int)=0 from (by omega)))
 refine aC T2 [] [.inl 0] fun ⟨x40,x41⟩ h42=>?_
 refine ev_fin ⟨trivial,_,rfl,((x40,x41)),?_,by trivial,aF [3]⟩
 rw [decide_eq_false hF];rfl
theorem go_factbox {P:Program} {E:Entry} {Q:Exit→St→Prop} {todo:List It} {st:St} {b t:Nat} {A:Asn} (i:Nat) (cells:List SV) (hi:asnAt st.res i=some A) (hA:∀ h,A.holds h→(Pt b t (SV.denL cells)).holds h) (hg:∀ β,SV.goodL β cells)
 (hb:blkLe st.res (place st.res [i] [.box b t cells])) (_hc:blkAt (place st.res [i] [.box b t cells]) i=some b) (h:Go P E todo ⟨st.fr,place st.res [i] [.box b t cells],st.ro⟩ Q):Go P E todo st Q :=
 go_ghost [i] (M:=[A]) (X:=Unit) (fun _=>[.box b t cells]) (by simp [hi]) (by simp) (fun h p=>⟨(),starH_one.2 (hA h (starH_one.1 p))⟩) (fun _ x hx=>by
  simp only [List.mem_cons,List.not_mem_nil,or_false] at hx
  subst hx
  exact hg _) (fun _=>hb) (fun _=>h)
theorem go_slotB {P:Program} {E:Entry} {Q:Exit→St→Prop} {st:St} {todo:List It} (t:Nat) (x y:SV) (hx:st.fr[t]? = some x) (hno:x.isNo=false) (hxy:x.den=y.den) (hy:y.good (blkAt st.res)) (h:Go P E todo ⟨st.fr.set t y,st.res,st.ro⟩ Q):Go P E todo st Q:=fun a w hR=>by
 refine h a w ⟨⟨by simp [hR.fr.size],fun i z hz=>?_,fun z hz=>?_,hR.fr.defers⟩,hR.res⟩
 · rw [List.getElem?_set] at hz
   split at hz
   · rename_i e
     subst e
     split at hz
     · cases hz
       have h1:=SV.den_of_is (hR.fr.is _ _ hx) (fun e=>by rw [e] at hno;cases hno)
       rw [h1,hxy]
       exact SV.is_den _
     cases hz
   exact hR.fr.is i z hz
 rcases List.mem_or_eq_of_mem_set hz with hz | rfl
 · exact hR.fr.good z hz
 exact hy
def FE (x:StaS) (s a:Int) (k:Nat) (A:Option Addr) (c:Nat):Asn:=match k with
 | 0=>Asn.pure (A=x.A∧c=x.F.length)
 | k+1=>Row 112 2 A (x.F.length+(k+1)) c ((x.F++spots s a (k+1)).flatMap encP)
def svX (x:StaS) (A:Option Addr) (n c:Nat):List SV:=svG x.r0++(svG x.r1++(svG x.r2++(svG x.r3++[vL A n c])))
theorem FE_pos {x:StaS} {s a:Int} {k:Nat} {A:Option Addr} {c:Nat} (h:0<k):FE x s a k A c=Row 112 2 A (x.F.length+k) c ((x.F++spots s a k).flatMap encP):=by
 cases k with
 | zero=>omega
 | succ k=>rfl
theorem len_spots (s a:Int):∀ k,(spots s a k).length=k
 | 0=>rfl
 | k+1=>by rw [spots,List.length_append,len_spots s a k];rfl
theorem put_rest (x:StaS) (j:Nat) (y:RegS):(x.put j y).A=x.A∧(x.put j y).F=x.F∧(x.put j y).c=x.c:=by
 unfold StaS.put;split<;>exact ⟨rfl,rfl,rfl⟩
theorem svSt_good (x:StaS) (β):SV.goodL β (svSt x):=by repeat (first | exact trivial | refine ⟨trivial,?_⟩)
set_option maxHeartbeats 2000000 in
theorem applyF (x:StaS) (y:RecS) (j:Nat) (hj:j<4) (hs:y.r.s=(j:Int)) (hk3:y.r.k=3) (hy:y.r.L.length≤2000) (z:Reg) (g:RegS) (hg:x.regs[j]? = some g) (h:applyR g.r y.r=some z) (hc0:0≤g.r.c) (hz:z.c≤1000) (hxl:x.F.length≤100000) :
 Triple Tryz.prog 154 [.agg (encSt x).toArray,.agg (encR y).toArray] [] [x.rd,y.rdL] (Option Addr × Nat × Option Addr × Nat) (fun (A',c',A2,c2)=>.tuple #[.agg (encSt ((x.put j ⟨z,A',c'⟩).fed (x.F++spots y.r.s g.r.c (z.c-g.r.c).toNat) A2 c2)).toArray,.bool true]) (fun _=>True) (fun (A',c',A2,c2)=>[RegS.own ⟨z,A',c'⟩,FE x y.r.s g.r.c (z.c-g.r.c).toNat A2 c2]):=by
 have T1:=(applyYes g y hy z h).reads (N':=[x.rd,y.rdL]) (fun X hX=>by
  simp only [List.mem_cons,List.not_mem_nil,or_false] at hX
  rcases hX with rfl | rfl
  · exact ⟨_,List.mem_cons_self,fun _ q=>(q.1 g (List.mem_of_getElem? hg)).1⟩
  exact ⟨_,List.mem_cons_of_mem _ List.mem_cons_self,fun _ q=>q⟩)
 refine aT Tryz.func154 [.ag (svSt x),.ag [vI y.r.k,vI y.r.s,vI y.r.e,vI y.r.v,vI y.r.f,vI y.r.n,vL y.A y.r.L.length y.a,vL y.B y.r.F.length y.b]] [] (fun E=>?_) ⟨by repeat (first | exact trivial | refine ⟨trivial,?_⟩),by repeat (first | exact trivial | refine ⟨trivial,?_⟩),trivial⟩
 refine go_know (.inl 0) x.rd rfl (p:=x.F.length≤x.c∧(x.A=none→x.c=0)) (fun h q=>q.2.2) fun ⟨hFc,hFn⟩=>?_
 refine aG ?_
 refine ev_new fun b0=>?_
 refine ev_new fun b1=>?_
 refine ev_new fun b2=>?_
 refine ev_if_no (show (y.r.k==5)=false by rw [hk3];rfl) ?_
 refine go_boxfact 0 (Pt b0 100 (x.regs.flatMap encG++[Value.slice x.A x.F.length x.c])) rfl (fun _ p=>p) aL ?_
 refine go_slot 2 _ (vP b0) rfl rfl rfl (fun _=>trivial) ?_
 refine aG ?_
 refine aI ?_ (decide_eq_false (show ¬y.r.s<0 from (by omega)))
 refine aI ?_ (decide_eq_false (show ¬y.r.s ≥ 4 from (by omega)))
 refine ev_stop (go_indexArrV Tryz.tbs_ok (c:=j*4) j rfl rfl (show Value.int .i64 y.r.s=Value.int .i64 (j:Int) by rw [hs]) rfl rfl rfl hj (by show 0+0+j*4=j*4;omega) ?_)
 refine go_load Tryz.tbs_ok b0 _ 0 (j*4) 1 17 _ (.inr 3) (Pt b0 100 (x.regs.flatMap encG++[Value.slice x.A x.F.length x.c])) (x.regs.flatMap encG++[Value.slice x.A x.F.length x.c]) (encG g) rfl rfl rfl rfl (fun h p=>rd_pt p) (by omega) (regs_at hg) rfl (by decide) (.ag (svG g)) rfl ?_
 refine aG ?_
 refine ev_new fun b30=>?_
 refine aC T1 [] [.inl 0,.inl 1] fun ⟨x31,x32⟩ h33=>?_
 refine ev_new fun b34=>?_
 refine aI ?_
 refine ev_stop (go_indexArrV Tryz.tbs_ok (c:=j*4) j rfl rfl (show Value.int .i64 y.r.s=Value.int .i64 (j:Int) by rw [hs]) rfl rfl rfl hj (by show 0+0+j*4=j*4;omega) ?_)
 refine go_storeP Tryz.tbs_ok (i:=3) ((x.put j ⟨z,x31,x32⟩).regs.flatMap encG++[.slice x.A x.F.length x.c]) rfl rfl rfl rfl rfl rfl (encG_one ⟨z,x31,x32⟩) rfl (by show j*4+4≤17;omega) (regs_over hj _) ?_
 obtain ⟨X,hX⟩:∃ X,X=x.put j ⟨z,x31,x32⟩:=⟨_,rfl⟩
 rw [put_enc,←hX]
 refine go_factbox (b:=b0) (t:=100) 3 (svSt X) rfl (fun _ p=>p) (svSt_good X) aL rfl ?_
 refine go_slotB 2 _ (.pt 3 b0 0) rfl rfl rfl rfl ?_
 obtain ⟨hXA,hXF,hXc⟩:X.A=x.A∧X.F=x.F∧X.c=x.c:=by rw [hX];exact put_rest x j _
 have T2:=clipT X.A X.F.length X.c (by rw [hXF,hXc];exact hFc)
 refine aG ?_
 refine aJ ?_ (beq_iff_eq.2 (by with_reducible assumption))
 refine aC T2 [] [] fun _ h50=>?_
 obtain ⟨a,ha⟩:=Int.eq_ofNat_of_zero_le hc0
 obtain ⟨n,hn⟩:∃ n,n=(z.c-g.r.c).toNat:=⟨_,rfl⟩
 have hzc:({ r:=z,A:=x31,a:=x32 }:RegS).r.c=z.c:=rfl
 rw [←hn,hXA,hXF,ha]
 refine ev_stop (go_fact (FE x y.r.s a 0 x.A x.F.length) (fun _=>⟨rfl,rfl⟩) ?_)
 refine aG ?_
 refine ev_stop (go_loopR [0,1,10,43,44,45,46,47,48,55,67,68,69,70,71,72,73,74,75,76,77,78,79,80,81] (fun (_,p,_)=>[(10,vI p)]) (fun (i,_,A2,c2)=>[(3,.box b0 100 (svX X A2 (x.F.length+i) c2)),(7,.fact (FE x y.r.s a i A2 c2))]) (fun (i,p,A2,c2)=>i≤n∧p=((a+i:Nat):Int)∧x.F.length+i≤c2) (fun (i,_)=>n-i) ((0,(a:Int),x.A,x.F.length):Nat × Int × Option Addr × Nat) ⟨Nat.zero_le _,rfl,Nat.le_refl _⟩ aS (fun x_ h_=>?_))
 obtain ⟨i,p,A2,c2⟩:=x_
 obtain ⟨hi,hp,h2⟩:=h_
 subst hp
 have hnz:n≤1000:=by omega
 rcases Nat.lt_or_ge i n with him | him
 · rcases Nat.eq_zero_or_pos i with hi0 | hi0
   · subst hi0
     refine go_know (.inr 7) (FE x y.r.s a 0 A2 c2) rfl (p:=A2=x.A∧c2=x.F.length) (fun h q=>q) fun ⟨e1,e2⟩=>?_
     subst e1 e2
     refine aG ?_
     refine aJ ?_ (decide_eq_true (show (↑(a+0):Int)<z.c from (by omega)))
     refine ev_new fun b100=>?_
     refine ev_stop (go_appendG Tryz.tbs_ok (enc:=encP) (sz:=2) (D:=x.rd) (B:=Pt b100 112 (encP ⟨y.r.s,((a+0:Nat):Int)⟩)) (.inl 0) (.inr 8) x.F [⟨y.r.s,((a+0:Nat):Int)⟩] (x.F++spots y.r.s a (0+1)) (x.F.length+(0+1)) rfl rfl rfl rfl rfl rfl rfl (by decide) rfl (fun h p=>p.2.1) (fun e=>by have:=hFn e;omega) rfl (fun _ p=>Pt.rd p rfl) rfl rfl (by omega) (by decide) (le_app (s:=x.F.length+1) (by omega) rfl) (le_appb (s:=x.F.length+1) (by omega) rfl (by decide)) (fun _ _=>by repeat (first | exact trivial | refine ⟨rfl,?_⟩)) (fun C d hd=>?_))
     refine go_ghost [7,9] (M:=[FE x y.r.s a 0 x.A x.F.length,Row 112 2 C (x.F.length+(0+1)) d ((x.F++spots y.r.s a (0+1)).flatMap encP)]) (X:=Unit) (fun _=>[.fact (FE x y.r.s a (0+1) C d),.dead none]) rfl (by decide) (fun h ⟨h1,h2,_,a1,a2,p1,p2⟩=>⟨(),h,Hp.emp,Hp.dis_emp _,Hp.le_refl _,Hp.emp_le _,Asn.mono _ a2 (starH_one.1 p2),starH_one.2 trivial⟩) (fun _=>newsOk_fact (fun x hx=>by rw [List.mem_singleton.1 hx];trivial)) (fun _=>by repeat (first | exact trivial | refine ⟨rfl,?_⟩)) (fun _=>?_)
     refine aG ?_
     refine wN (a+0+1) ?_
     refine ev_fin (round_next ((0+1,(↑(a+0+1):Int),C,d)) (show 0+1≤n∧(↑(a+0+1):Int)=(↑(a+(0+1)):Int)∧x.F.length+(0+1)≤d from (by trivial)) (show n-(0+1)<n-0 from (by omega)) aS)
     all_goals skip
   refine aG ?_
   refine aJ ?_ (decide_eq_true (show (↑(a+i):Int)<z.c from (by omega)))
   refine ev_new fun b150=>?_
   refine ev_stop (go_appendE Tryz.tbs_ok (enc:=encP) (sz:=2) (M:=[FE x y.r.s a i A2 c2]) (B:=Pt b150 112 (encP ⟨y.r.s,((a+i:Nat):Int)⟩)) [7] [] (.inr 8) (x.F++spots y.r.s a i) [⟨y.r.s,((a+i:Nat):Int)⟩] (x.F++spots y.r.s a (i+1)) (x.F.length+(i+1)) rfl rfl rfl rfl rfl rfl rfl (by decide) rfl (by decide) (fun h p=>by rw [←FE_pos hi0];exact starH_one.1 p) rfl (fun _ p=>Pt.rd p rfl) (by rw [List.append_assoc];rfl) rfl (le_app (s:=x.F.length+i+1) (by omega) rfl) (le_appb (s:=x.F.length+i+1) (by omega) rfl (by decide)) (fun _ _=>by repeat (first | exact trivial | refine ⟨rfl,?_⟩)) (fun C d hd=>?_))
   refine go_ghost [7] (M:=[Row 112 2 C (x.F.length+(i+1)) d ((x.F++spots y.r.s a (i+1)).flatMap encP)]) (X:=Unit) (fun _=>[.fact (FE x y.r.s a (i+1) C d)]) rfl (by decide) (fun h p=>⟨(),p⟩) (fun _=>newsOk_fact (fun x hx=>by cases hx)) (fun _=>by repeat (first | exact trivial | refine ⟨rfl,?_⟩)) (fun _=>?_)
   refine aG ?_
   refine wN (a+i+1) ?_
   refine ev_fin (round_next ((i+1,(↑(a+i+1):Int),C,d)) (show i+1≤n∧(↑(a+i+1):Int)=(↑(a+(i+1)):Int)∧x.F.length+(i+1)≤d from (by trivial)) (show n-(i+1)<n-i from (by omega)) aS)
   all_goals skip
 obtain rfl:i=n:=by omega
 refine aG ?_
 refine aI ?_ (decide_eq_false (show ¬(↑(a+i):Int)<z.c from (by omega)))
 refine ev_fin (go Tryz.tbs_ok 1000 ?_)
 refine ev_fin ⟨trivial,_,rfl,((x31,x32,A2,c2)),?_,by trivial,aF [5,7]⟩
 show _=Value.tuple #[.agg (encSt ((x.put j ⟨z,x31,x32⟩).fed (x.F++spots y.r.s a i) A2 c2)).toArray,.bool true]
 rw [←hX]
 simp only [encSt,StaS.fed,List.length_append,len_spots]
 rfl
theorem regs_abs (x:StaS) (j:Nat):x.abs.R[j]? = (x.regs[j]?).map (·.r):=by rw [abs_R,List.getElem?_map]
theorem regs_get (x:StaS) {s:Int} (h0:0≤s) (h4:s<4):∃ (j:Nat) (g:RegS),j<4∧s=(j:Int)∧x.regs[j]? = some g∧x.abs.at s=g.r:=by
 obtain ⟨j,rfl⟩:=Int.eq_ofNat_of_zero_le h0
 have hj:j<x.regs.length:=by show j<4;omega
 refine ⟨j,x.regs[j],by omega,rfl,List.getElem?_eq_getElem hj,?_⟩
 unfold Sta.at
 rw [show ((j:Int)).toNat=j from Int.toNat_natCast j,regs_abs,List.getElem?_eq_getElem hj]
 rfl
theorem abs_put (x:StaS) {j:Nat} (hj:j<4) (g:RegS):(x.put j g).abs=⟨x.abs.R.set j g.r,x.F⟩:=by
 show Sta.mk _ _=_
 rw [show [(x.put j g).r0.r,(x.put j g).r1.r,(x.put j g).r2.r,(x.put j g).r3.r]=(x.put j g).regs.map (·.r) from rfl,put_regs x j hj g,(put_rest x j g).2.1,List.map_set,abs_R]
theorem put_own {x:StaS} {j:Nat} (hj:j<4) {g:RegS} {h k:Hp} (hk:h.le k) (p:g.own.holds h) (q:x.rd.holds k):∀ y∈(x.put j g).regs,y.own.holds k:=by
 rw [put_regs x j hj g]
 intro y hy
 rcases List.mem_or_eq_of_mem_set hy with hy | rfl
 · exact q.1 y hy
 exact Asn.mono _ hk p
theorem row_room {e sz n c:Nat} {A:Option Addr} {cs:List Value} {h:Hp} (p:(Row e sz A n c cs).holds h):n≤c∧(A=none→c=0):=by
 rcases p.2.2 with ⟨_,h0,h1⟩ | ⟨g,cur,h1,_,h3,_⟩
 · exact ⟨by omega,fun _=>h1⟩
 exact ⟨h3,fun e=>by rw [e] at h1;cases h1⟩
theorem FE_rd {x:StaS} {s a:Int} {k:Nat} {A:Option Addr} {c:Nat} {h h':Hp} (hk:h.le h') (p:(FE x s a k A c).holds h) (q:x.rd.holds h'):(Rd 2 A (x.F++spots s a k).length ((x.F++spots s a k).flatMap encP)).holds h'∧(x.F++spots s a k).length≤c∧(A=none→c=0):=by
 rcases Nat.eq_zero_or_pos k with rfl | h0
 · obtain ⟨rfl,rfl⟩:=p
   have e:x.F++spots s a 0=x.F:=List.append_nil _
   rw [e]
   exact ⟨q.2.1,Nat.le_refl _,fun e=>by have:=q.2.2.2 e;have:=q.2.2.1;omega⟩
 rw [FE_pos h0] at p
 rw [List.length_append,len_spots]
 exact ⟨Asn.mono _ hk (Row.rd p),row_room p⟩
theorem applyT (x:StaS) (y:RecS) (z:Sta) (hR:∀ g∈x.regs,okR g.r=true) (hF:x.F.length≤100000) (hL:y.r.L.length≤2000) (hyF:y.r.F.length≤100000) (h:applyS x.abs y.r=some z) :
 Triple Tryz.prog 154 [.agg (encSt x).toArray,.agg (encR y).toArray] [] [x.rd,y.rdL,y.rdF] StaS (fun x'=>.tuple #[.agg (encSt x').toArray,.bool true]) (fun x'=>x'.abs=z) (fun x'=>[Gives x.rd x'.rd]):=by
 unfold applyS at h
 by_cases h5:y.r.k=5
 · rw [if_pos h5] at h
   split at h
   · rename_i hc
     cases h
     refine ((applyE x y h5 hyF).imp' (fun (B',d') h' _ p=>⟨x.fed y.r.F B' d',?_,rfl,starH_one.2 fun k hk q=>⟨q.1,Asn.mono _ hk (Row.rd (starH_one.1 p)),row_room (starH_one.1 p)⟩⟩)).reads (N':=[x.rd,y.rdL,y.rdF]) (fun X hX=>?_)
     · have e1:x.F=[]:=hc.1
       have e2:toldF x.abs.R y.r.F=true:=hc.2
       show Value.tuple #[_,.bool (decide (x.F=[])&&toldF x.abs.R y.r.F)]=_
       rw [e2,decide_eq_true e1]
       rfl
     obtain rfl:=List.mem_singleton.1 hX
     exact ⟨y.rdF,by simp,fun _ q=>q⟩
   cases h
 rw [if_neg h5] at h
 split at h
 · rename_i hs
   obtain ⟨j,g,hj,hsj,hg,hat⟩:=regs_get x hs.1 hs.2
   have hok:=hR g (List.mem_of_getElem? hg)
   rw [hat] at h
   split at h
   · cases h
   rename_i r' hr
   cases h
   have hr2:=okR_of (applyR_ok hr).2
   have hw:=wholeE_len hr2.2.2.2.1
   have hrd:∀ X∈[x.rd,y.rdL],∃ A∈[x.rd,y.rdL,y.rdF],∀ h,A.holds h→X.holds h:=fun X hX=>by
    simp only [List.mem_cons,List.not_mem_nil,or_false] at hX
    rcases hX with rfl | rfl
    · exact ⟨x.rd,by simp,fun _ q=>q⟩
    exact ⟨y.rdL,by simp,fun _ q=>q⟩
   by_cases h3:y.r.k=3
   · rw [if_pos h3]
     refine ((applyF x y j hj hsj h3 hL r' g hg hr (okR_of hok).2.2.2.2.1 (by omega) hF).imp' (fun (A',c',A2,c2) h' _ p=>⟨(x.put j ⟨r',A',c'⟩).fed (x.F++spots y.r.s g.r.c (r'.c-g.r.c).toNat) A2 c2,rfl,?_,?_⟩)).reads hrd
     · have:=abs_put x hj ⟨r',A',c'⟩
       rw [hsj,Int.toNat_natCast]
       exact congrArg (fun w:Sta=>Sta.mk w.R _) this
     obtain ⟨h1,h2,_,a1,a2,p1,p2⟩:=p
     refine starH_one.2 fun k hk q=>⟨put_own hj (a1.trans hk) p1 q,?_⟩
     exact FE_rd (a2.trans hk) (starH_one.1 p2) q
   rw [if_neg h3]
   refine ((applyD x y j hj hsj h5 h3 hL r' g hg hr).imp' (fun (A',c') h' _ p=>⟨x.put j ⟨r',A',c'⟩,rfl,?_,starH_one.2 fun k hk q=>⟨put_own hj hk (starH_one.1 p) q,?_⟩⟩)).reads hrd
   · rw [abs_put x hj,hsj,Int.toNat_natCast]
     rfl
   obtain ⟨e1,e2,e3⟩:=put_rest x j ⟨r',A',c'⟩
   rw [e1,e2,e3]
   exact q.2
 cases h
theorem applyBad (x:StaS) (y:RecS) (hR:∀ g∈x.regs,okR g.r=true) (hL:y.r.L.length≤2000) (hyF:y.r.F.length≤100000) (h:applyS x.abs y.r=none) :
 Triple Tryz.prog 154 [.agg (encSt x).toArray,.agg (encR y).toArray] [] [x.rd,y.rdL,y.rdF] StaS (fun x'=>.tuple #[.agg (encSt x').toArray,.bool false]) (fun _=>True) (fun _=>[]):=by
 unfold applyS at h
 by_cases h5:y.r.k=5
 · rw [if_pos h5] at h
   split at h
   · cases h
   rename_i hc
   refine ((applyE x y h5 hyF).imp' (fun (B',d') h' _ p=>⟨x.fed y.r.F B' d',?_,trivial,?_⟩)).reads (N':=[x.rd,y.rdL,y.rdF]) (fun X hX=>?_)
   · show Value.tuple #[_,.bool (decide (x.F=[])&&toldF x.abs.R y.r.F)]=_
     have:(decide (x.F=[])&&toldF x.abs.R y.r.F)=false:=by
      rw [Bool.eq_false_iff]
      intro e
      rw [Bool.and_eq_true,decide_eq_true_eq] at e
      exact hc e
     rw [this]
   · trivial
   obtain rfl:=List.mem_singleton.1 hX
   exact ⟨y.rdF,by simp,fun _ q=>q⟩
 rw [if_neg h5] at h
 split at h
 · rename_i hs
   obtain ⟨j,g,hj,hsj,hg,hat⟩:=regs_get x hs.1 hs.2
   have hok:=hR g (List.mem_of_getElem? hg)
   rw [hat] at h
   split at h
   · rename_i hr
     refine ((applyC x y j hj hsj h5 hL g hg (by have:=wholeE_len (okR_of hok).2.2.2.1;omega) hr).imp' (fun _ h' _ p=>⟨zeroSt,rfl,trivial,p⟩)).reads (fun X hX=>?_)
     simp only [List.mem_cons,List.not_mem_nil,or_false] at hX
     rcases hX with rfl | rfl
     · exact ⟨x.rd,by simp,fun _ q=>q⟩
     exact ⟨y.rdL,by simp,fun _ q=>q⟩
   cases h
 exact ((applyO x y (by omega) h5).imp' (fun _ h' _ p=>⟨zeroSt,rfl,trivial,p⟩)).reads (fun X hX=>by cases hX)
open Go.Sy
theorem ins_grow {α:Type} {L:List α} {n i:Nat} (x z:α) (hn:n=L.length) (hi:i<n) :
 ((
  L.take i++List.replicate (n+1-i) z).take i++[x].take 1++(L.take i++List.replicate (n+1-i) z).drop (i+1)).take (i+1)++((L.take (i+(n-i))).drop i).take (n-i) ++
  ((L.take i++List.replicate (n+1-i) z).take i++[x].take 1++(L.take i++List.replicate (n+1-i) z).drop (i+1)).drop (i+1+(n-i))=L.take i++x::L.drop i:=by
 have h1:(L.take i++List.replicate (n+1-i) z).take i=L.take i:=by
  rw [List.take_append_of_le_length (by rw [List.length_take];omega),List.take_take,Nat.min_self]
 have hl:(L.take i).length=i:=by rw [List.length_take];omega
 rw [h1,show i+(n-i)=L.length by omega,List.take_length,show [x].take 1=[x] from rfl]
 have h2:(L.take i++[x]).length=i+1:=by rw [List.length_append,hl];rfl
 have h3:((L.take i++[x]++(L.take i++List.replicate (n+1-i) z).drop (i+1)).take (i+1))=L.take i++[x]:=by
  rw [←h2,List.take_append_of_le_length (Nat.le_refl _),List.take_length]
 have h4:(L.drop i).take (n-i)=L.drop i:=List.take_of_length_le (by rw [List.length_drop];omega)
 have h5:(L.take i++[x]++(L.take i++List.replicate (n+1-i) z).drop (i+1)).drop (i+1+(n-i))=[]:=List.drop_of_length_le (by
  rw [List.length_append,h2,List.length_drop,List.length_append,hl,List.length_replicate]
  omega)
 rw [h3,h4,h5]
 simp
theorem ins_room {α:Type} {L:List α} {n i:Nat} (x:α) (hn:n=L.length) (hi:i<n) :
 (L.take (i+1)++L.drop i).take i++[x].take 1++(L.take (i+1)++L.drop i).drop (i+1)=L.take i++x::L.drop i:=by
 have hl:(L.take (i+1)).length=i+1:=by rw [List.length_take];omega
 rw [List.take_append_of_le_length (by omega),List.take_take,Nat.min_eq_left (by omega),List.drop_append,List.drop_of_length_le (by omega),hl,Nat.sub_self,List.drop_zero]
 simp
theorem insertF (A:Option Addr) (L:List Fl) (n c i vb:Nat) (x:Fl) (hn:n=L.length) (h1:n≤1000) (hi:i≤n) :
 Triple Tryz.prog 201 [.slice A n c,.int .i64 i,.slice (some ⟨vb,0,none⟩) 1 1] [Row 187 3 A n c (L.flatMap encF),Pt vb 187 (encF x)] [] (Option Addr × Nat) (fun (B,d)=>.slice B (n+1) d) (fun _=>True)
  (fun (B,d)=>[Row 187 3 B (n+1) d ((L.take i++x::L.drop i).flatMap encF)]):=by
 refine aT Tryz.func201 [vL A n c,vI i,.sl 1 vb 0 1 1] [.fact (Row 187 3 A n c (L.flatMap encF)),.box vb 187 [.va (.string x.n),.va (.string x.d),vI x.s]] (fun E=>?_) ⟨trivial,trivial,rfl,trivial⟩
 refine go_know (.inr 0) (Row 187 3 A n c (L.flatMap encF)) rfl (p:=n≤c) (fun _ p=>Row.cap p) fun hc=>?_
 refine aG ?_
 refine ev_stop (go_back Tryz.tbs_ok (i) (n) (c) rfl rfl rfl rfl rfl ⟨_,rfl⟩ rfl rfl (by decide) (by omega) (by omega) (by omega) ?_)
 refine aG (aI ?_)
 refine ev_if_eq (fun h0=>?_) (fun h0=>?_)
 refine aG ?_
 refine ev_stop (go_appendE (sz:=3) (M:=[_]) (enc:=encF) Tryz.tbs_ok [0] [] (.inr 1) (L) ([x]) ((L)++([x])) (n+1) rfl rfl rfl rfl rfl rfl rfl (by decide) rfl (by decide) (fun _ p=>starH_one.1 p) rfl (fun _ p=>Pt.rd p rfl) (by first | rfl | simp) (by first | rfl | omega) (aM (n+1)) (aN (n+1)) (fun _ _=>aL) (fun A1 c2 h3=>?_))
 refine aG ?_
 rotate_left
 refine aG ?_
 refine wN (n+1) ?_
 refine ev_stop (go_cap Tryz.tbs_ok rfl rfl rfl rfl ?_)
 refine aG ?_
 refine ev_if_lt (fun h4=>?_) (fun h4=>?_)
 refine aG ?_
 refine ev_stop (go_front Tryz.tbs_ok (i) (c) rfl rfl rfl rfl rfl rfl ⟨_,rfl⟩ rfl (by decide) (by omega) (by omega) ?_)
 refine aG ?_
 refine wN (n+1) ?_
 refine wO (n+1-i) ?_
 refine ev_stop (go_appendZ (sz:=3) (enc:=encF) Tryz.tbs_ok (.inr 0) (((L).take (i))) ((((L).take (i)))++List.replicate (n+1-i) ({ n:=ByteArray.empty,d:=ByteArray.empty,s:=0:Fl })) ({ n:=ByteArray.empty,d:=ByteArray.empty,s:=0:Fl }) (i+(n+1-i)) rfl rfl rfl rfl rfl rfl rfl rfl (by decide) (fun _=>rfl) rfl rfl rfl (fun _ h=>rd_take (k:=i) (fun _=>rfl) (Row.rd h) (by omega)) (by omega) (by omega) rfl (by first | rfl | omega) (le_max (by omega)) (le_appb (s:=i+(n+1-i)) (by omega) (by first | rfl | omega) (by decide)) (fun _ _=>aL) (fun b5 c6 h7=>?_))
 refine aG ?_
 refine ev_stop (go_back Tryz.tbs_ok (i) (i+(n+1-i)) (c6) rfl rfl rfl rfl rfl ⟨_,rfl⟩ rfl rfl (by decide) (by omega) (by omega) (by omega) ?_)
 refine aG ?_
 refine ev_stop (go_copyE (sz:=3) (enc:=encF) Tryz.tbs_ok 2 (i) (1) (.inr 1) (List.take i L++List.replicate (n+1-i) { n:=ByteArray.empty,d:=ByteArray.empty,s:=0:Fl }) ([x]) ((List.take i L++List.replicate (n+1-i) { n:=ByteArray.empty,d:=ByteArray.empty,s:=0:Fl }).take (i)++([x]).take (1)++(List.take i L++List.replicate (n+1-i) { n:=ByteArray.empty,d:=ByteArray.empty,s:=0:Fl }).drop ((i)+(1))) rfl rfl rfl rfl rfl rfl rfl (by decide) rfl (backA_at (by omega)) rfl (fun _ p=>Pt.rd p rfl) (fun _=>rfl) (by first | rfl | (show _=min _ _;omega)) (by omega) rfl ?_)
 refine aG ?_
 refine ev_stop (go_draw Tryz.tbs_ok false [] [(0,true),(1,true),(2,true),(3,true),(4,true),(5,true),(6,true),(7,true),(8,false)] rfl ?_)
 refine aG (aE ?_)
 refine wN (i+1) ?_
 refine ev_stop (tk_back Tryz.tbs_ok (i+1) (i+(n+1-i)) (c6) aB rfl rfl rfl rfl rfl rfl ⟨_,rfl⟩ rfl rfl (by decide) (by omega) (by omega) (by omega) ?_)
 refine aG (aE ?_)
 refine ev_stop (tk_back Tryz.tbs_ok (i) (n) (c) aB rfl rfl rfl rfl rfl rfl ⟨_,rfl⟩ rfl rfl (by decide) (by omega) (by omega) (by omega) ?_)
 refine aG (aE ?_)
 refine ev_stop (go_copyE (sz:=3) (enc:=encF) Tryz.tbs_ok 2 (i+1) (n-i) (.inr 0) (List.take i (List.take i L++List.replicate (n+1-i) { n:=ByteArray.empty,d:=ByteArray.empty,s:=0:Fl })++List.take 1 [x]++List.drop (i+1) (List.take i L++List.replicate (n+1-i) { n:=ByteArray.empty,d:=ByteArray.empty,s:=0:Fl })) ((((L).take ((i)+(n-i))).drop (i))) ((List.take i (List.take i L++List.replicate (n+1-i) { n:=ByteArray.empty,d:=ByteArray.empty,s:=0:Fl })++List.take 1 [x]++List.drop (i+1) (List.take i L++List.replicate (n+1-i) { n:=ByteArray.empty,d:=ByteArray.empty,s:=0:Fl })).take (i+1)++((((L).take ((i)+(n-i))).drop (i))).take (n-i)++(List.take i (List.take i L++List.replicate (n+1-i) { n:=ByteArray.empty,d:=ByteArray.empty,s:=0:Fl })++List.take 1 [x]++List.drop (i+1) (List.take i L++List.replicate (n+1-i) { n:=ByteArray.empty,d:=ByteArray.empty,s:=0:Fl })).drop ((i+1)+(n-i))) rfl rfl rfl rfl rfl rfl rfl (by decide) rfl (backA_at (by omega)) rfl (fun _ h=>rd_part (lo:=i) (m:=n-i) (fun _=>rfl) (Row.rd h) (by omega) (by omega)) (fun _=>rfl) (by first | rfl | (show _=min _ _;omega)) (by omega) rfl ?_)
 refine aG (aK ?_)
 rotate_left
 refine aG ?_
 refine wN (n+1) ?_
 refine ev_stop (go_front Tryz.tbs_ok (n+1) (c) rfl rfl rfl rfl rfl rfl ⟨_,rfl⟩ rfl (by decide) (by omega) (by omega) ?_)
 refine aG ?_
 refine wN (i+1) ?_
 refine ev_stop (go_back Tryz.tbs_ok (i+1) (n+1) (c) rfl rfl rfl rfl rfl ⟨_,rfl⟩ rfl rfl (by decide) (by omega) (by omega) (by omega) ?_)
 refine aG ?_
 rotate_left
 · have e:L++[x]=L.take i++x::L.drop i:=by
    rw [show i=L.length by omega,List.take_length,List.drop_length]
   rw [e]
   exact ev_fin ⟨trivial,_,rfl,((A1,c2)),rfl,by trivial,aF [0]⟩
 · rw [show i+(n+1-i)=n+1 by omega,ins_grow x _ hn (by omega)]
   exact ev_fin ⟨trivial,_,rfl,((some { block:=b5,off:=0:Addr },c6)),rfl,by trivial,aF [2]⟩
 have hn0:0<n:=by omega
 refine ev_stop (go_know (.inr 0) (Row 187 3 A n c (L.flatMap encF)) rfl (p:=∃ g,A=some ⟨g,0,none⟩) (fun h p=>Row.at0 h p hn0) ?_)
 rintro ⟨g,rfl⟩
 refine go_overlaps (sz:=3) (c:=c) (o:=(i+1)*3) (lb:=n+1-(i+1)) (cb:=c-(i+1)) Tryz.tbs_ok 1 0 Tryz.func245 rfl rfl rfl rfl rfl rfl rfl (congrArg (fun z=>Value.slice z _ _) (backA_at (by omega))) rfl rfl rfl (by decide) rfl rfl (by omega) ?_
 refine aG ?_
 refine ev_stop (go_draw Tryz.tbs_ok false [] [(0,true),(1,true),(2,true),(3,true),(4,true),(5,true),(6,true),(7,true),(8,false)] rfl ?_)
 refine aG (aE ?_)
 refine wN (i+1) ?_
 refine ev_stop (tk_back Tryz.tbs_ok (i+1) (n+1) (c) aB rfl rfl rfl rfl rfl rfl ⟨_,rfl⟩ rfl rfl (by decide) (by omega) (by omega) (by omega) ?_)
 refine aG (aE ?_)
 refine ev_stop (tk_back Tryz.tbs_ok (i) (n+1) (c) aB rfl rfl rfl rfl rfl rfl ⟨_,rfl⟩ rfl rfl (by decide) (by omega) (by omega) (by omega) ?_)
 refine aG (aE ?_)
 refine ev_stop (go_copyX (sz:=3) (enc:=encF) Tryz.tbs_ok 0 (i+1) (n-i) (.inr 0) L (L.drop i) (L.take (i+1)++L.drop i) rfl rfl rfl rfl rfl rfl rfl (by decide) rfl (backA_at (by omega)) rfl (fun _ h=>by
  have:=rd_part (enc:=encF) (L:=L) (n:=n) (lo:=i) (m:=n-i) (mx:=c) (fun _=>rfl) (Row.rd (show (Row 187 3 (some ⟨g,0,none⟩) n c (L.flatMap encF)).holds _ from h)) (by omega) (by omega)
  rw [show i+(n-i)=L.length by omega,List.take_length] at this
  exact this) (fun _=>rfl) (by show _=min _ _;omega) (by omega) (by omega) (by omega) (by omega) (n+1) (by omega) rfl ?_)
 have hl2:(L.take (i+1)++L.drop i).length=n+1:=by rw [List.length_append,List.length_take,List.length_drop];omega
 refine aG (aK ?_)
 refine ev_stop (go_back Tryz.tbs_ok (i) (n+1) (c) rfl rfl rfl rfl rfl ⟨_,rfl⟩ rfl rfl (by decide) (by omega) (by omega) (by omega) ?_)
 refine aG ?_
 refine ev_stop (go_copyE (sz:=3) (enc:=encF) Tryz.tbs_ok 0 (i) (1) (.inr 1) (List.take (i+1) L++List.drop i L) ([x]) ((List.take (i+1) L++List.drop i L).take (i)++([x]).take (1)++(List.take (i+1) L++List.drop i L).drop ((i)+(1))) rfl rfl rfl rfl rfl rfl rfl (by decide) rfl (backA_at (by omega)) rfl (fun _ p=>Pt.rd p rfl) (fun _=>rfl) (by first | rfl | (show _=min _ _;omega)) (by omega) rfl ?_)
 refine aG ?_
 rw [ins_room x hn (by omega)]
 exact ev_fin ⟨trivial,_,rfl,((some { block:=g,off:=0:Addr },c)),rfl,by trivial,aF [0]⟩
end Go.Proofs.YtnhoidnmlibcpaaGreatDoor

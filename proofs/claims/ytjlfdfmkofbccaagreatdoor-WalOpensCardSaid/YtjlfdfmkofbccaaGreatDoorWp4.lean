/-
  What is proved: the texts that the claims share, part 4 of 7, each text behind the other. Conditions: none.
-/
import Derived.Test.YtjlfdfmkofbccaaGreatDoorWp3
set_option maxRecDepth 100000
namespace Go.Sy
open Go.RowKit
def crcB (r:Nat):Nat:=if r % 2=1 then r / 2 ^^^ 2197175160 else r / 2
theorem crcB_lt {r:Nat} (h:r<4294967296):crcB r<4294967296:=by
 unfold crcB
 split
 · exact Nat.xor_lt_two_pow (n:=32) (by omega) (by decide)
 omega
theorem crcB_mask (r:Nat):r / 2 ^^^ (r % 2*2197175160)=crcB r:=by
 unfold crcB
 rcases Nat.mod_two_eq_zero_or_one r with h | h
 · rw [h,if_neg (by decide),Nat.zero_mul,Nat.xor_zero]
 rw [h,if_pos rfl,Nat.one_mul]
def crcN:Nat→Nat→Nat
 | 0,r=>r
 | k+1,r=>crcN k (crcB r)
theorem crcN_lt:∀ (k:Nat) {r:Nat},r<4294967296→crcN k r<4294967296
 | 0,_,h=>h
 | k+1,_,h=>crcN_lt k (crcB_lt h)
theorem crcN_step:∀ (k r:Nat),crcB (crcN k r)=crcN (k+1) r
 | 0,_=>rfl
 | k+1,r=>crcN_step k (crcB r)
def crcO (r:Nat) (c:UInt8):Nat:=crcN 8 (r ^^^ c.toNat)
theorem xor8_lt {r:Nat} (h:r<4294967296) (c:UInt8):r ^^^ c.toNat<4294967296:=Nat.xor_lt_two_pow (n:=32) h (Nat.lt_of_lt_of_le c.toNat_lt (by decide))
theorem crcO_lt {r:Nat} (h:r<4294967296) (c:UInt8):crcO r c<4294967296:=crcN_lt 8 (xor8_lt h c)
def crcL (r:Nat) (l:List UInt8):Nat:=l.foldl crcO r
theorem crcL_lt:∀ (l:List UInt8) {r:Nat},r<4294967296→crcL r l<4294967296
 | [],_,h=>h
 | c::l,_,h=>crcL_lt l (crcO_lt h c)
theorem crcL_step {l:List UInt8} {j r:Nat} (hj:j<l.length):crcL r (l.take (j+1))=crcO (crcL r (l.take j)) l[j]:=by
 unfold crcL
 rw [←List.take_append_getElem hj,List.foldl_append]
 rfl
def ckN (l:List UInt8):Nat:=4294967295-crcL 4294967295 l
def ckL (l:List UInt8):List UInt8:=[UInt8.ofNat (ckN l),UInt8.ofNat (ckN l / 256),UInt8.ofNat (ckN l / 65536),UInt8.ofNat (ckN l / 16777216)]
theorem ckL_len (l:List UInt8):(ckL l).length=4:=rfl
theorem ckN_lt (l:List UInt8):ckN l<4294967296:=by unfold ckN;omega
theorem xor_ones {w a:Nat} (h:a<2 ^ w):(2 ^ w-1) ^^^ a=2 ^ w-1-a:=by
 have:=BitVec.toNat_not (x:=BitVec.ofNat w a)
 rw [BitVec.not_def,BitVec.toNat_xor,BitVec.toNat_allOnes,BitVec.toNat_ofNat,Nat.mod_eq_of_lt h] at this
 exact this
set_option maxRecDepth 20000 in
theorem or128:∀ x,x<256→x ||| 128=x % 128+128:=by decide
theorem and127 (x:Nat):x &&& 127=x % 128:=Nat.and_two_pow_sub_one_eq_mod x 7
theorem and1 (x:Nat):x &&& 1=x % 2:=Nat.and_two_pow_sub_one_eq_mod x 1
theorem or_add {a b i:Nat} (h:a<2 ^ i):a ||| b*2 ^ i=a+b*2 ^ i:=by
 rw [Nat.or_comm,←Nat.shiftLeft_eq,←Nat.shiftLeft_add_eq_or_of_lt h,Nat.add_comm]
/-! the machine's operations -/
theorem b_w64 {n:Nat} (h:n<18446744073709551616):IntKind.u64.wrap (n:Int)=(n:Int):=wrap_un rfl h
theorem b_shl1 {n:Nat} (h:n<9223372036854775808):shlOf .u64 (n:Int) 1=((2*n:Nat):Int):=by
 have:=shl_un (k:=.u64) (a:=n) (b:=1) rfl (by decide)
 rw [show ((1:Nat):Int)=1 from rfl] at this
 rw [this,Nat.mod_eq_of_lt (by show n*2 ^ 1<18446744073709551616;omega)]
 congr 1
 omega
theorem b_shr63 {n:Nat} (h:n<9223372036854775808):shrOf .i64 (n:Int) 63=((0:Nat):Int):=by
 have:=shr_un (k:=.i64) (a:=n) (b:=63) (by decide)
 rw [show ((63:Nat):Int)=63 from rfl] at this
 rw [this,Nat.div_eq_of_lt (by omega)]
theorem b_xor0 {n:Nat} (h:n<18446744073709551616):bitsOf .xor .u64 (n:Int) ((0:Nat):Int)=(n:Int):=by
 rw [xor_un rfl h (by decide),Nat.xor_zero]
theorem b_byte (n:Nat):IntKind.u8.wrap (n:Int)=((UInt8.ofNat n).toNat:Int):=by
 rw [wrap_mod rfl,UInt8.toNat_ofNat']
 rfl
theorem b_or128 (n:Nat):bitsOf .or .u8 ((UInt8.ofNat n).toNat:Int) 128=((UInt8.ofNat (n % 128+128)).toNat:Int):=by
 have:=or_un (k:=.u8) (a:=(UInt8.ofNat n).toNat) (b:=128) rfl (UInt8.toNat_lt _) (by decide)
 rw [show ((128:Nat):Int)=128 from rfl] at this
 rw [this,or128 _ (UInt8.toNat_lt _),UInt8.toNat_ofNat',UInt8.toNat_ofNat']
 congr 1
 omega
theorem b_shr7 (n:Nat):shrOf .u64 (n:Int) 7=((n / 128:Nat):Int):=by
 have:=shr_un (k:=.u64) (a:=n) (b:=7) (by decide)
 exact this
theorem b_shr1 (n:Nat):shrOf .u64 (n:Int) 1=((n / 2:Nat):Int):=shr_un (k:=.u64) (a:=n) (b:=1) (by decide)
theorem b_and1 {n:Nat} (h:n<18446744073709551616):bitsOf .and .u64 (n:Int) 1=((n % 2:Nat):Int):=by
 rw [←and1]
 exact and_un (k:=.u64) (a:=n) (b:=1) rfl h (by decide)
theorem b_not128 (c:UInt8):bitsOf .andNot .u8 (c.toNat:Int) 128=((c.toNat % 128:Nat):Int):=by
 have:=andNot_un (k:=.u8) (a:=c.toNat) (b:=128) rfl c.toNat_lt (by decide)
 rw [←and127]
 exact this
theorem b_shlG {x i:Nat} (h:i≤9):shlOf .u64 (x:Int) ((7*i:Nat):Int)=((x*128 ^ i % 18446744073709551616:Nat):Int):=by
 rw [shl_un rfl (by show 7*i≤64;omega),Nat.pow_mul]
 rfl
theorem b_orG {a b:Nat} (ha:a<18446744073709551616) (hb:b<18446744073709551616):bitsOf .or .u64 (a:Int) (b:Int)=((a ||| b:Nat):Int):=or_un rfl ha hb
def zigM (F:Nat):Int:=if F % 2=1 then -((F / 2:Nat):Int)-1 else ((F / 2:Nat):Int)
theorem b_fold {F:Nat} (hF:F<18446744073709551616):bitsOf .xor .i64 ((F / 2:Nat):Int) (0-((F % 2:Nat):Int))=zigM F:=by
 have hq:F / 2<18446744073709551616:=by omega
 unfold zigM bitsOf
 rcases Nat.mod_two_eq_zero_or_one F with h | h
 · rw [h,if_neg (by decide)]
   have e:(BitVec.ofInt IntKind.i64.bits ((F / 2:Nat):Int) ^^^ BitVec.ofInt IntKind.i64.bits (0-((0:Nat):Int))).toNat=F / 2:=by
    rw [show BitVec.ofInt IntKind.i64.bits (0-((0:Nat):Int))=0#_ from rfl,BitVec.xor_zero,BitVec.ofInt_natCast,BitVec.toNat_ofNat]
    exact Nat.mod_eq_of_lt hq
   simp only [e]
   rw [IntKind.wrap_i64]
   omega
 rw [h,if_pos rfl]
 have e:(BitVec.ofInt IntKind.i64.bits ((F / 2:Nat):Int) ^^^ BitVec.ofInt IntKind.i64.bits (0-((1:Nat):Int))).toNat=18446744073709551615-F / 2:=by
  rw [show BitVec.ofInt IntKind.i64.bits (0-((1:Nat):Int))=BitVec.allOnes _ from rfl,BitVec.xor_comm,←BitVec.not_def,BitVec.toNat_not,BitVec.ofInt_natCast,BitVec.toNat_ofNat]
  rw [show (F / 2) % 2 ^ IntKind.i64.bits=F / 2 from Nat.mod_eq_of_lt hq]
  rfl
 simp only [e]
 rw [IntKind.wrap_i64]
 omega
/-! a check number's -/
theorem b_not32 {n:Nat} (h:n<4294967296):notOf .u32 (n:Int)=((4294967295-n:Nat):Int):=by
 have:=xor_un (k:=.u32) (a:=4294967295) (b:=n) rfl (by decide) h
 rw [xor_ones (w:=32) h] at this
 exact this
theorem b_xor8 {n:Nat} (h:n<4294967296) (c:UInt8):bitsOf .xor .u32 (n:Int) (c.toNat:Int)=((n ^^^ c.toNat:Nat):Int):=xor_un rfl h (Nat.lt_of_lt_of_le c.toNat_lt (by decide))
theorem b_c32 (c:UInt8):IntKind.u32.wrap (c.toNat:Int)=(c.toNat:Int):=wrap_un rfl (Nat.lt_of_lt_of_le c.toNat_lt (by decide))
theorem b_half32 (n:Nat):shrOf .u32 (n:Int) 1=((n / 2:Nat):Int):=shr_un (k:=.u32) (a:=n) (b:=1) (by decide)
theorem b_and32 {n:Nat} (h:n<4294967296):bitsOf .and .u32 (n:Int) 1=((n % 2:Nat):Int):=by
 rw [←and1]
 exact and_un (k:=.u32) (a:=n) (b:=1) rfl h (by decide)
theorem b_neg32 (n:Nat):IntKind.u32.wrap (0-((n % 2:Nat):Int))=((n % 2*4294967295:Nat):Int):=by
 rcases Nat.mod_two_eq_zero_or_one n with h | h<;>rw [h]<;>rfl
theorem b_mask (n:Nat):bitsOf .and .u32 2197175160 ((n % 2*4294967295:Nat):Int)=((n % 2*2197175160:Nat):Int):=by
 rcases Nat.mod_two_eq_zero_or_one n with h | h<;>rw [h]<;>rfl
theorem b_crc {n:Nat} (h:n<4294967296):bitsOf .xor .u32 ((n / 2:Nat):Int) ((n % 2*2197175160:Nat):Int)=((crcB n:Nat):Int):=by
 rw [←crcB_mask]
 exact xor_un rfl (show n / 2<4294967296 by omega) (show n % 2*2197175160<4294967296 by omega)
theorem b_shr8 {n j:Nat} (h:j≤4):shrOf .u32 (n:Int) ((8*j:Nat):Int)=((n / 256 ^ j:Nat):Int):=by
 rw [shr_un (by show 8*j≤32;omega),Nat.pow_mul]
end Go.Sy
namespace Go.Proofs.YtjlfdfmkofbccaaGreatDoor
open Go.Sy
theorem putL_len:∀ (k f:Nat),f<128 ^ (k+1)→(putL f).length≤k+1
 | 0,f,h=>by rw [putL_small (by omega)];simp
 |
  k+1,f,h=>by
  rcases Nat.lt_or_ge f 128 with h1 | h1
  · rw [putL_small h1];simp
  rw [putL_great h1,List.length_cons]
  have:=putL_len k (f / 128) (Nat.div_lt_of_lt_mul (by rw [←pow128];exact h))
  omega
theorem mputT (n:Nat) (h:n≤4611686018427387903):Triple Tryz.prog 132 [.int .i64 (n:Int)] [] [] Unit (fun _=>.string ⟨(putL (2*n)).toArray⟩) (fun _=>True) (fun _=>[]):=by
 refine aT Tryz.func132 [vI (n:Int)] [] (fun E=>?_) ⟨trivial,trivial⟩
 refine go_fact (Row 5 1 none 0 0 (([]:List UInt8).flatMap encC)) (Row.nilE _ _) ?_
 have w1:=b_w64 (n:=n) (by omega)
 have w2:=b_shl1 (n:=n) (by omega)
 have w3:=b_shr63 (n:=n) (by omega)
 have w4:IntKind.u64.wrap ((0:Nat):Int)=((0:Nat):Int):=rfl
 have w5:=b_xor0 (n:=2*n) (by omega)
 refine aG ?_
 refine ev_wrap (z:=(↑n:Int)) w1 ?_
 refine ev_stop (go_bin (.va (.int _ ((↑(2*n):Int)))) trivial rfl rfl rfl rfl rfl (by decide) (by decide) (fun w=>shl_runE w2 (show 0≤1 from (by omega)) w) ?_)
 refine aG ?_
 refine ev_stop (go_bin (.va (.int _ ((↑0:Int)))) trivial rfl rfl rfl rfl rfl (by decide) (by decide) (fun w=>shr_runE w3 (show 0≤63 from (by omega)) w) ?_)
 refine aG ?_
 refine ev_wrap (z:=(↑0:Int)) w4 ?_
 refine ev_stop (go_bin (.va (.int _ ((↑(2*n):Int)))) trivial rfl rfl rfl rfl rfl (by decide) (by decide) (fun w=>bits_runE w5 (by decide) w) ?_)
 refine aG ?_
 refine ev_stop (go_loopR [3,4,12,13,14,15,16,17,18,19,20,21] (fun (f,C,q,e,_)=>[(3,.va (.int .u64 (f:Nat))),(4,vL C q e)]) (fun (_,C,q,e,M)=>[(0,.fact (Row 5 1 C q e (M.flatMap encC)))]) (fun (f,_,q,_,M)=>f<18446744073709551616∧q=M.length∧q≤1000∧M++putL f=putL (2*n)) (fun (f,_,_,_,_)=>f) ((2*n,none,0,0,[]):Nat × Option Addr × Nat × Nat × List UInt8) ⟨by omega,rfl,Nat.zero_le _,rfl⟩ aS (fun x_ h_=>?_))
 obtain ⟨f,C,q,e,M⟩:=x_
 obtain ⟨hf,hq,hq2,hM⟩:=h_
 obtain ⟨x,hx⟩:∃ x,x=UInt8.ofNat f:=⟨_,rfl⟩
 obtain ⟨y,hy⟩:∃ y,y=UInt8.ofNat (f % 128+128):=⟨_,rfl⟩
 have v1:=b_byte f
 have v2:=b_or128 f
 rw [←hx] at v1 v2
 rw [←hy] at v2
 refine aG ?_
 refine ev_if_lt (fun h10=>?_) (fun h10=>?_)
 refine aG ?_
 refine ev_wrap (z:=(↑x.toNat:Int)) v1 ?_
 refine ev_stop (go_bin (.va (.int _ ((↑y.toNat:Int)))) trivial rfl rfl rfl rfl rfl (by decide) (by decide) (fun w=>bits_runE v2 (by decide) w) ?_)
 refine aG ?_
 refine ev_new fun b11=>?_
 refine ev_stop (go_appendE (sz:=1) (M:=[_]) (enc:=encC) Tryz.tbs_ok [0] [] (.inr 1) (M) ([y]) ((M)++([y])) (q+1) rfl rfl rfl rfl rfl rfl rfl (by decide) rfl (by decide) (fun _ p=>starH_one.1 p) rfl (fun _ p=>Pt.rd p rfl) (by first | rfl | simp) (by first | rfl | omega) (aM (q+1)) (aN (q+1)) (fun _ _=>aL) (fun A12 c13 h14=>?_))
 refine aG ?_
 refine ev_stop (go_bin (.va (.int _ ((↑(f / 128):Int)))) trivial rfl rfl rfl rfl rfl (by decide) (by decide) (fun w=>shr_runE (b_shr7 (f)) (show 0≤7 from (by omega)) w) ?_)
 refine aG ?_
 refine ev_fin (round_next ((f / 128,A12,q+1,c13,M++[y])) (?_:f / 128<18446744073709551616∧q+1=(M++[y]).length∧q+1≤1000∧M++[y]++putL (f / 128)=putL (2*n)) (show f / 128<f from (by omega)) aS)
 rotate_left
 refine aG ?_
 refine ev_fin (go Tryz.tbs_ok 1000 ?_)
 refine ev_wrap (z:=(↑x.toNat:Int)) v1 ?_
 refine ev_new fun b15=>?_
 refine ev_stop (go_appendE (sz:=1) (M:=[_]) (enc:=encC) Tryz.tbs_ok [0] [] (.inr 1) (M) ([x]) ((M)++([x])) (q+1) rfl rfl rfl rfl rfl rfl rfl (by decide) rfl (by decide) (fun _ p=>starH_one.1 p) rfl (fun _ p=>Pt.rd p rfl) (by first | rfl | simp) (by first | rfl | omega) (aM (q+1)) (aN (q+1)) (fun _ _=>aL) (fun A16 c17 h18=>?_))
 refine aG ?_
 refine ev_stop (go_stringOf Tryz.tbs_ok (M++[x]) (.inr 0) rfl rfl rfl rfl rfl rfl rfl (by first | rfl | omega | (simp;omega)) (fun _ h=>Row.rd h) ?_)
 refine aG ?_
 refine ev_fin ⟨trivial,_,rfl,(()),?_,(by trivial),Frm.nil _⟩
 rotate_left
 · have h128:128≤f:=by omega
   rw [putL_great h128,←hy] at hM
   refine ⟨by omega,by rw [hq];simp,?_,by rw [List.append_assoc];exact hM⟩
   have:=putL_len 9 (2*n) (by omega)
   rw [←hM] at this
   simp only [List.length_append,List.length_cons] at this
   omega
 have h128:f<128:=by omega
 rw [putL_small h128,←hx] at hM
 rw [hM]
 rfl
theorem moreT (r:Nat) (s:ByteArray) (hr:r<4294967296) (hs:s.size≤1000000000):Triple Tryz.prog 158 [.int .u32 (r:Int),.string s] [] [] Unit (fun _=>.int .u32 ((4294967295-crcL (4294967295-r) s.data.toList:Nat):Int)) (fun _=>True) (fun _=>[]):=by
 refine aT Tryz.func158 [.va (.int .u32 (r:Int)),.va (.string s)] [] (fun E=>?_) ⟨trivial,trivial,trivial⟩
 have hsz:=size_data s
 refine aG ?_
 refine ev_stop (go_not ((↑(4294967295-r):Int)) (b_not32 (by assumption)) rfl rfl rfl ?_)
 refine aG ?_
 refine ev_stop (go_loopR [5,6,11,12,13,14,15,16,17,18,19,20,21,22,23,24,25,26,27,28,29,30] (fun (j,g)=>[(5,.va (.int .u32 (g:Nat))),(11,vI (j:Nat))]) (fun _=>[]) (fun (j,g)=>j≤s.size∧g=crcL (4294967295-r) (s.data.toList.take j)) (fun (j,_)=>s.size-j) ((0,4294967295-r):Nat × Nat) ⟨Nat.zero_le _,rfl⟩ aS (fun x_ h_=>?_))
 obtain ⟨j,g⟩:=x_
 obtain ⟨hj,hg⟩:=h_
 have hg2:g<4294967296:=by rw [hg];exact crcL_lt _ (by omega)
 refine aG ?_
 refine ev_if_lt (fun h10=>?_) (fun h10=>?_)
 refine aG ?_
 refine ev_stop (go_byte Tryz.tbs_ok (j) rfl rfl rfl rfl rfl rfl (by omega) ?_)
 refine aG ?_
 refine ev_wrap (z:=(↑s[j].toNat:Int)) (b_c32 (s[j])) ?_
 refine ev_stop (go_bin (.va (.int _ ((↑(g ^^^ s[j].toNat):Int)))) trivial rfl rfl rfl rfl rfl (by decide) (by decide) (fun w=>bits_runE (b_xor8 (by assumption) (s[j])) (by decide) w) ?_)
 refine aG ?_
 rotate_left
 refine aG ?_
 refine ev_fin (go Tryz.tbs_ok 1000 ?_)
 refine ev_stop (go_not ((↑(4294967295-g):Int)) (b_not32 (by assumption)) rfl rfl rfl ?_)
 refine aG ?_
 refine ev_fin ⟨trivial,_,rfl,(()),?_,(by trivial),Frm.nil _⟩
 rotate_left
 · have hjl:j<s.data.toList.length:=by omega
   obtain ⟨c,hc⟩:∃ c,c=s[j]:=⟨_,rfl⟩
   rw [←hc]
   have hx:=xor8_lt hg2 c
   obtain ⟨g0,hg0⟩:∃ g0,g0=g ^^^ c.toNat:=⟨_,rfl⟩
   rw [←hg0] at hx ⊢
   refine ev_stop (go_loopR [5,20,21,22,23,24,25,26,27,28,29] (fun (k,y)=>[(5,.va (.int .u32 (y:Nat))),(20,vI (k:Nat))]) (fun _=>[]) (fun (k,y)=>k≤8∧y=crcN k g0) (fun (k,_)=>8-k) ((0,g0):Nat × Nat) ⟨Nat.zero_le _,rfl⟩ aS (fun x_ h_=>?_))
   obtain ⟨k,y⟩:=x_
   obtain ⟨hk,hy⟩:=h_
   have hy2:y<4294967296:=by rw [hy];exact crcN_lt k hx
   refine aG ?_
   refine ev_if_lt (fun h30=>?_) (fun h30=>?_)
   refine aG ?_
   refine ev_stop (go_bin (.va (.int _ ((↑(y / 2):Int)))) trivial rfl rfl rfl rfl rfl (by decide) (by decide) (fun w=>shr_runE (b_half32 (y)) (show 0≤1 from (by omega)) w) ?_)
   refine aG ?_
   refine ev_stop (go_bin (.va (.int _ ((↑(y % 2):Int)))) trivial rfl rfl rfl rfl rfl (by decide) (by decide) (fun w=>bits_runE (b_and32 (by assumption)) (by decide) w) ?_)
   refine aG ?_
   refine ev_wrap (z:=(↑(y % 2*4294967295):Int)) (b_neg32 (y)) ?_
   refine ev_stop (go_bin (.va (.int _ ((↑(y % 2*2197175160):Int)))) trivial rfl rfl rfl rfl rfl (by decide) (by decide) (fun w=>bits_runE (b_mask (y)) (by decide) w) ?_)
   refine aG ?_
   refine ev_stop (go_bin (.va (.int _ ((↑(crcB y):Int)))) trivial rfl rfl rfl rfl rfl (by decide) (by decide) (fun w=>bits_runE (b_crc (by assumption)) (by decide) w) ?_)
   refine aG ?_
   refine wN (k+1) ?_
   refine ev_fin (round_next ((k+1,crcB y)) (?_:k+1≤8∧crcB y=crcN (k+1) g0) (show 8-(k+1)<8-k from (by omega)) aS)
   rotate_left
   refine aG ?_
   refine ev_fin (go Tryz.tbs_ok 1000 ?_)
   refine wN (j+1) ?_
   refine ev_fin (round_next ((j+1,y)) (?_:j+1≤s.size∧y=crcL (4294967295-r) (List.take (j+1) s.data.toList)) (show s.size-(j+1)<s.size-j from (by omega)) aS)
   rotate_left
   · exact ⟨by omega,by rw [hy];exact crcN_step k g0⟩
   obtain rfl:k=8:=by omega
   refine ⟨by omega,?_⟩
   rw [crcL_step hjl,←hg,hy,hg0,hc]
   rfl
 obtain rfl:j=s.size:=by omega
 rw [List.take_of_length_le (by omega)] at hg
 rw [hg]
 rfl
theorem sumT (s:ByteArray) (hs:s.size≤1000000000):Triple Tryz.prog 147 [.string s] [] [] Unit (fun _=>.int .u32 (ckN s.data.toList:Nat)) (fun _=>True) (fun _=>[]):=by
 have T1:=moreT 0 s (by decide) hs
 refine aT Tryz.func147 [.va (.string s)] [] (fun E=>?_) ⟨trivial,trivial⟩
 refine aG ?_
 refine aC T1 [] [] fun _ h0=>?_
 refine ev_fin ⟨trivial,_,rfl,(()),rfl,(by trivial),Frm.nil _⟩
theorem checkT (s:ByteArray) (hs:s.size≤1000000000):Triple Tryz.prog 129 [.string s] [] [] Unit (fun _=>.string ⟨(ckL s.data.toList).toArray⟩) (fun _=>True) (fun _=>[]):=by
 have T1:=sumT s hs
 unfold ckL
 obtain ⟨n,hn⟩:∃ n,n=ckN s.data.toList:=⟨_,rfl⟩
 rw [←hn] at T1 ⊢
 have g0:shrOf .u32 (n:Int) 0=((n:Nat):Int):=by have:=b_shr8 (n:=n) (j:=0) (by decide);simpa using this
 have g1:shrOf .u32 (n:Int) 8=((n / 256:Nat):Int):=b_shr8 (n:=n) (j:=1) (by decide)
 have g2:shrOf .u32 (n:Int) 16=((n / 65536:Nat):Int):=b_shr8 (n:=n) (j:=2) (by decide)
 have g3:shrOf .u32 (n:Int) 24=((n / 16777216:Nat):Int):=b_shr8 (n:=n) (j:=3) (by decide)
 have e0:=b_byte n
 have e1:=b_byte (n / 256)
 have e2:=b_byte (n / 65536)
 have e3:=b_byte (n / 16777216)
 obtain ⟨c0,hc0⟩:∃ x,x=UInt8.ofNat n:=⟨_,rfl⟩
 obtain ⟨c1,hc1⟩:∃ x,x=UInt8.ofNat (n / 256):=⟨_,rfl⟩
 obtain ⟨c2,hc2⟩:∃ x,x=UInt8.ofNat (n / 65536):=⟨_,rfl⟩
 obtain ⟨c3,hc3⟩:∃ x,x=UInt8.ofNat (n / 16777216):=⟨_,rfl⟩
 rw [←hc0] at e0
 rw [←hc1] at e1
 rw [←hc2] at e2
 rw [←hc3] at e3
 rw [←hc0,←hc1,←hc2,←hc3]
 refine aT Tryz.func129 [.va (.string s)] [] (fun E=>?_) ⟨trivial,trivial⟩
 refine aG ?_
 refine aC T1 [] [] fun _ h0=>?_
 refine ev_new fun b1=>?_
 refine ev_stop (go_rounds 4 ?_)
 refine aG (aJ ?_)
 refine wN (8*0) ?_
 refine ev_stop (go_bin (.va (.int _ ((↑n:Int)))) trivial rfl rfl rfl rfl rfl (by decide) (by decide) (fun w=>shr_runE g0 (show 0≤(↑(8*0):Int) from (by omega)) w) ?_)
 refine aG ?_
 refine ev_wrap (z:=(↑c0.toNat:Int)) e0 ?_
 refine ev_stop (go_indexArr Tryz.tbs_ok (0) rfl rfl rfl rfl rfl rfl (by first | decide | omega) rfl rfl ?_)
 refine aG ?_
 refine wN (0+1) ?_
 refine ev_fin (go Tryz.tbs_ok 1000 ?_)
 refine aJ ?_
 refine wN (8*(0+1)) ?_
 refine ev_stop (go_bin (.va (.int _ ((↑(n / 256):Int)))) trivial rfl rfl rfl rfl rfl (by decide) (by decide) (fun w=>shr_runE g1 (show 0≤(↑(8*(0+1)):Int) from (by omega)) w) ?_)
 refine aG ?_
 refine ev_wrap (z:=(↑c1.toNat:Int)) e1 ?_
 refine ev_stop (go_indexArr Tryz.tbs_ok (0+1) rfl rfl rfl rfl rfl rfl (by first | decide | omega) rfl rfl ?_)
 refine aG ?_
 refine wN (0+1+1) ?_
 refine ev_fin (go Tryz.tbs_ok 1000 ?_)
 refine aJ ?_
 refine wN (8*(0+1+1)) ?_
 refine ev_stop (go_bin (.va (.int _ ((↑(n / 65536):Int)))) trivial rfl rfl rfl rfl rfl (by decide) (by decide) (fun w=>shr_runE g2 (show 0≤(↑(8*(0+1+1)):Int) from (by omega)) w) ?_)
 refine aG ?_
 refine ev_wrap (z:=(↑c2.toNat:Int)) e2 ?_
 refine ev_stop (go_indexArr Tryz.tbs_ok (0+1+1) rfl rfl rfl rfl rfl rfl (by first | decide | omega) rfl rfl ?_)
 refine aG ?_
 refine wN (0+1+1+1) ?_
 refine ev_fin (go Tryz.tbs_ok 1000 ?_)
 refine aJ ?_
 refine wN (8*(0+1+1+1)) ?_
 refine ev_stop (go_bin (.va (.int _ ((↑(n / 16777216):Int)))) trivial rfl rfl rfl rfl rfl (by decide) (by decide) (fun w=>shr_runE g3 (show 0≤(↑(8*(0+1+1+1)):Int) from (by omega)) w) ?_)
 refine aG ?_
 refine ev_wrap (z:=(↑c3.toNat:Int)) e3 ?_
 refine ev_stop (go_indexArr Tryz.tbs_ok (0+1+1+1) rfl rfl rfl rfl rfl rfl (by first | decide | omega) rfl rfl ?_)
 refine aG ?_
 refine wN (0+1+1+1+1) ?_
 refine ev_fin (go Tryz.tbs_ok 1000 ?_)
 refine aI ?_
 refine ev_fin (go Tryz.tbs_ok 1000 ?_)
 refine ev_stop (go_sliceArr Tryz.tbs_ok rfl rfl rfl rfl ?_)
 refine aG ?_
 refine ev_stop (go_boxfact 0 (Rd 1 (some ⟨b1,0,none⟩) 4 ([c0,c1,c2,c3].flatMap encC)) rfl (fun h p=>⟨rfl,p.2,fun _=>⟨_,0,_,_,_,rfl,p.1,rfl⟩⟩) aL ?_)
 refine aG ?_
 refine ev_stop (go_stringOf Tryz.tbs_ok ([c0,c1,c2,c3]) (.inr 1) rfl rfl rfl rfl rfl rfl rfl (by first | rfl | omega | (simp;omega)) (fun _ h=>h) ?_)
 refine aG ?_
 refine ev_fin ⟨trivial,_,rfl,(()),rfl,(by trivial),Frm.nil _⟩
def getM (l:List UInt8) (a:Nat):Int × Nat × Bool:=match getL 0 0 (l.drop a) with | none=>(0,0,false) | some (F,k)=>(zigM F,a+k,true)
theorem getM_none {l:List UInt8} {a:Nat} (h:getL 0 0 (l.drop a)=none):getM l a=(0,0,false):=by unfold getM;rw [h]
theorem getM_some {l:List UInt8} {a F k:Nat} (h:getL 0 0 (l.drop a)=some (F,k)):getM l a=(zigM F,a+k,true):=by unfold getM;rw [h]
theorem getL_eq {l r:List UInt8} {i f:Nat} {c:UInt8} (h:l=c::r):getL i f l=if 10≤i then none else if 128≤c.toNat then getL (i+1) (f+(c.toNat-128)*128 ^ i) r else if (c.toNat=0∧0<i)∨(i=9∧1<c.toNat) then none else some (f+c.toNat*128 ^ i,i+1):=by
 rw [h,getL]
theorem or_digit {f x i:Nat} (hf:f<128 ^ i) (hx:x*128 ^ i<18446744073709551616):f ||| (x*128 ^ i % 18446744073709551616)=f+x*128 ^ i:=by
 rw [Nat.mod_eq_of_lt hx]
 rw [show 128 ^ i=2 ^ (7*i) from by rw [Nat.pow_mul]] at hf ⊢
 exact or_add hf
theorem digit_lt {x i:Nat} (hx:x<128) (hi:i≤8):x*128 ^ i<18446744073709551616 :=
 Nat.lt_of_le_of_lt (Nat.mul_le_mul (show x≤127 by omega) (Nat.pow_le_pow_right (by decide) hi)) (by decide)
theorem digit_lt9 {x:Nat} (hx:x≤1):x*128 ^ 9<18446744073709551616:=Nat.lt_of_le_of_lt (Nat.mul_le_mul hx (Nat.le_refl _)) (by decide)
theorem mgetT (s:ByteArray) (a:Nat) (hs:s.size≤1000000000) (ha:a≤s.size):Triple Tryz.prog 128 [.string s,.int .i64 (a:Int)] [] [] Unit (fun _=>.tuple #[.int .i64 (getM s.data.toList a).1,.int .i64 ((getM s.data.toList a).2.1:Nat),.bool (getM s.data.toList a).2.2]) (fun _=>True) (fun _=>[]):=by
 refine aT Tryz.func128 [.va (.string s),vI (a:Int)] [] (fun E=>?_) ⟨trivial,trivial,trivial⟩
 have hsz:=size_data s
 obtain ⟨R,hR⟩:∃ R,R=getM s.data.toList a:=⟨_,rfl⟩
 rw [←hR]
 rcases Nat.lt_or_ge a s.size with ha2 | ha2
 · refine aG (aI ?_)
   refine aI ?_ (decide_eq_false (show ¬(↑a:Int) ≥ (↑s.size:Int) from (by omega)))
   refine wO (s.size-a) ?_
   refine ev_stop (go_loopR [4,5,6,7,8,9,23,24,25,26,27,28,29,30,31,32,33,34,35,36,37,38,39,40,41,42,43,44,45,46,47,48,49,50,51,52,53,54,55,56,57,58,59,60,61,62,63,64,65,66,67] (fun (i,f)=>[(7,.va (.int .u64 (f:Nat))),(23,vI (i:Nat))]) (fun _=>[]) (fun (i,f)=>i≤10∧a+i≤s.size∧f<18446744073709551616∧(i≤9→f<128 ^ i∧getL 0 0 (s.data.toList.drop a)=getL i f (s.data.toList.drop (a+i)))∧(i=10→getL 0 0 (s.data.toList.drop a)=none)) (fun (i,_)=>10-i) ((0,0):Nat × Nat) ⟨Nat.zero_le _,ha,by decide,fun _=>⟨by decide,rfl⟩,fun h=>by cases h⟩ aS (fun x_ h_=>?_))
   obtain ⟨i,f⟩:=x_
   obtain ⟨hi,hi2,hf,h9,h10⟩:=h_
   have hl:(s.data.toList.drop (a+i)).length=s.size-(a+i):=by rw [List.length_drop,hsz]
   rcases (show (i<10∧a+i<s.size)∨(i=10∨a+i=s.size) from by omega) with ⟨h1,h2⟩ | hend
   · obtain ⟨h9,hget⟩:=h9 (by omega)
     have hd:s.data.toList.drop (a+i)=s[a+i]::s.data.toList.drop (a+(i+1)):=List.drop_eq_getElem_cons (by rw [hsz];exact h2)
     have hc:=UInt8.toNat_lt (s[a+i])
     obtain ⟨c,hcc⟩:∃ c,c=(s[a+i]).toNat:=⟨_,rfl⟩
     rw [getL_eq hd] at hget
     rw [←hcc] at hc hget
     have g1:bitsOf .andNot .u8 ((s[a+i]).toNat:Int) 128=((c % 128:Nat):Int):=by rw [hcc];exact b_not128 _
     have g2:=b_w64 (n:=c % 128) (by omega)
     have g3:=b_shlG (x:=c % 128) (i:=i) (by omega)
     obtain ⟨f2,hf2⟩:∃ f2,f2=f ||| (c % 128*128 ^ i % 18446744073709551616):=⟨_,rfl⟩
     have hm:c % 128*128 ^ i % 18446744073709551616<18446744073709551616:=Nat.mod_lt _ (by decide)
     have hl2:f2<18446744073709551616:=by rw [hf2];exact Nat.or_lt_two_pow (n:=64) hf hm
     have g4:=b_orG hf hm
     rw [←hf2] at g4
     have g5:=b_shr1 f2
     have g6:=b_and1 hl2
     have g7:=b_fold hl2
     rw [if_neg (by omega)] at hget
     have hget8:i≤8→f2=f+c % 128*128 ^ i:=fun h8=>by rw [hf2];exact or_digit h9 (digit_lt (by omega) h8)
     have hget9:i=9→c≤1→f2=f+c % 128*128 ^ i:=fun h8 h1=>by subst h8;rw [hf2];exact or_digit h9 (digit_lt9 (by omega))
     have hz:c<128→(c=0∧0<i∨i=9∧1<c)→R=(0,0,false):=fun hc1 hq=>by rw [hR,getM_none (by rw [hget,if_neg (by omega),if_pos hq])]
     have hz2:c<128→¬ (c=0∧0<i∨i=9∧1<c)→R=(zigM f2,a+i+1,true):=fun hc1 hq=>by
      have e:f2=f+c*128 ^ i:=by
       have e0:c % 128=c:=Nat.mod_eq_of_lt hc1
       rw [e0] at hget8 hget9
       rcases (show i≤8∨(i=9∧c≤1) by omega) with h8 | ⟨h8,h9⟩
       · exact hget8 h8
       exact hget9 h8 h9
      rw [hR,getM_some (F:=f2) (k:=i+1) (by rw [hget,if_neg (by omega),if_neg hq,e])]
      rfl
     refine aG ?_
     refine aJ ?_ (decide_eq_true (show (↑i:Int)<min (↑(s.size-a):Int) 10 from (by omega)))
     refine wN (a+i) ?_
     refine ev_stop (go_byte Tryz.tbs_ok (a+i) rfl rfl rfl rfl rfl rfl (by omega) ?_)
     refine aG ?_
     refine ev_stop (go_bin (.va (.int _ ((↑(c % 128):Int)))) trivial rfl rfl rfl rfl rfl (by decide) (by decide) (fun w=>bits_runE g1 (by decide) w) ?_)
     refine aG ?_
     refine ev_wrap (z:=(↑(c % 128):Int)) g2 ?_
     refine wN (7*i) ?_
     refine ev_stop (go_bin (.va (.int _ ((↑(c % 128*128 ^ i % 18446744073709551616):Int)))) trivial rfl rfl rfl rfl rfl (by decide) (by decide) (fun w=>shl_runE g3 (show 0≤(↑(7*i):Int) from (by omega)) w) ?_)
     refine aG ?_
     refine ev_stop (go_bin (.va (.int _ ((↑f2:Int)))) trivial rfl rfl rfl rfl rfl (by decide) (by decide) (fun w=>bits_runE g4 (by decide) w) ?_)
     refine aG ?_
     refine ev_if_lt (fun h10=>?_) (fun h10=>?_)
     refine aG ?_
     refine wN (i+1) ?_
     refine ev_fin (round_next ((i+1,f2)) (?_:i+1≤10∧a+(i+1)≤s.size∧f2<18446744073709551616∧(i+1≤9→f2<128 ^ (i+1)∧getL 0 0 (List.drop a s.data.toList)=getL (i+1) f2 (List.drop (a+(i+1)) s.data.toList))∧(i+1=10→getL 0 0 (List.drop a s.data.toList)=none)) (show 10-(i+1)<10-i from (by omega)) aS)
     rotate_left
     refine aG ?_
     refine ev_if_eq (fun h11=>?_) (fun h11=>?_)
     refine aG ?_
     refine ev_if_lt (fun h12=>?_) (fun h12=>?_)
     refine aG ?_
     refine ev_fin (go Tryz.tbs_ok 1000 ?_)
     refine ev_fin ⟨trivial,_,rfl,(()),?_,(by trivial),Frm.nil _⟩
     rotate_left
     refine aG ?_
     refine aI ?_ (beq_eq_false_iff_ne.2 (show ¬(↑i:Int)=9 from (by omega)))
     refine ev_stop (go_bin (.va (.int _ ((↑(f2 / 2):Int)))) trivial rfl rfl rfl rfl rfl (by decide) (by decide) (fun w=>shr_runE g5 (show 0≤1 from (by omega)) w) ?_)
     refine aG ?_
     refine wN (f2 / 2) ?_
     refine ev_stop (go_bin (.va (.int _ ((↑(f2 % 2):Int)))) trivial rfl rfl rfl rfl rfl (by decide) (by decide) (fun w=>bits_runE g6 (by decide) w) ?_)
     refine aG ?_
     refine wN (f2 % 2) ?_
     refine w6 ?_
     refine ev_stop (go_bin (.va (.int _ (zigM f2))) trivial rfl rfl rfl rfl rfl (by decide) (by decide) (fun w=>bits_runE g7 (by decide) w) ?_)
     refine aG ?_
     refine wN (a+i) ?_
     refine wN (a+i+1) ?_
     refine ev_fin ⟨trivial,_,rfl,(()),?_,(by trivial),Frm.nil _⟩
     rotate_left
     refine aG ?_
     refine ev_if_eq (fun h13=>?_) (fun h13=>?_)
     refine aG ?_
     refine ev_if_lt (fun h14=>?_) (fun h14=>?_)
     refine aG ?_
     refine ev_fin (go Tryz.tbs_ok 1000 ?_)
     refine ev_fin ⟨trivial,_,rfl,(()),?_,(by trivial),Frm.nil _⟩
     rotate_left
     refine aG ?_
     refine ev_stop (go_bin (.va (.int _ ((↑(f2 / 2):Int)))) trivial rfl rfl rfl rfl rfl (by decide) (by decide) (fun w=>shr_runE g5 (show 0≤1 from (by omega)) w) ?_)
     refine aG ?_
     refine wN (f2 / 2) ?_
     refine ev_stop (go_bin (.va (.int _ ((↑(f2 % 2):Int)))) trivial rfl rfl rfl rfl rfl (by decide) (by decide) (fun w=>bits_runE g6 (by decide) w) ?_)
     refine aG ?_
     refine wN (f2 % 2) ?_
     refine w6 ?_
     refine ev_stop (go_bin (.va (.int _ (zigM f2))) trivial rfl rfl rfl rfl rfl (by decide) (by decide) (fun w=>bits_runE g7 (by decide) w) ?_)
     refine aG ?_
     refine wN (a+i) ?_
     refine wN (a+i+1) ?_
     refine ev_fin ⟨trivial,_,rfl,(()),?_,(by trivial),Frm.nil _⟩
     rotate_left
     refine aG ?_
     refine ev_stop (go_bin (.va (.int _ ((↑(f2 / 2):Int)))) trivial rfl rfl rfl rfl rfl (by decide) (by decide) (fun w=>shr_runE g5 (show 0≤1 from (by omega)) w) ?_)
     refine aG ?_
     refine wN (f2 / 2) ?_
     refine ev_stop (go_bin (.va (.int _ ((↑(f2 % 2):Int)))) trivial rfl rfl rfl rfl rfl (by decide) (by decide) (fun w=>bits_runE g6 (by decide) w) ?_)
     refine aG ?_
     refine wN (f2 % 2) ?_
     refine w6 ?_
     refine ev_stop (go_bin (.va (.int _ (zigM f2))) trivial rfl rfl rfl rfl rfl (by decide) (by decide) (fun w=>bits_runE g7 (by decide) w) ?_)
     refine aG ?_
     refine wN (a+i) ?_
     refine wN (a+i+1) ?_
     refine ev_fin ⟨trivial,_,rfl,(()),?_,(by trivial),Frm.nil _⟩
     rotate_left
     · refine ⟨by omega,by omega,hl2,fun h=>?_,fun h=>?_⟩
       · have e:=hget8 (by omega)
         rw [if_pos (by omega)] at hget
         have e2:c-128=c % 128:=by omega
         rw [e2,←e] at hget
         refine ⟨?_,hget⟩
         have h3:=Nat.mul_le_mul_right (128 ^ i) (show c % 128≤127 by omega)
         rw [e,pow128]
         omega
       obtain rfl:i=9:=by omega
       rw [hget,if_pos (by omega)]
       cases hr:s.data.toList.drop (a+(9+1)) with
       | nil=>rfl
       | cons x r=>rw [getL,if_pos (by decide)]
     all_goals first | (rw [hz (by omega) (by omega)];rfl) | (rw [hz2 (by omega) (by omega)];rfl)
   have hn:getL 0 0 (s.data.toList.drop a)=none:=by
    rcases hend with rfl | he
    · exact h10 rfl
    rcases (show i=10∨i≤9 by omega) with rfl | h8
    · exact h10 rfl
    rw [(h9 h8).2,List.drop_eq_nil_of_le (by omega)]
    rfl
   rw [getM_none hn] at hR
   subst hR
   refine aG ?_
   refine aI ?_ (decide_eq_false (show ¬(↑i:Int)<min (↑(s.size-a):Int) 10 from (by omega)))
   refine ev_fin (go Tryz.tbs_ok 1000 ?_)
   refine ev_fin ⟨trivial,_,rfl,(()),rfl,(by trivial),Frm.nil _⟩
 rw [getM_none (by rw [List.drop_eq_nil_of_le (by omega)];rfl)] at hR
 subst hR
 refine aG (aI ?_)
 refine aJ ?_ (decide_eq_true (show (↑a:Int) ≥ (↑s.size:Int) from (by omega)))
 refine ev_fin ⟨trivial,_,rfl,(()),rfl,(by trivial),Frm.nil _⟩
theorem ba_eq {a b:ByteArray} (h:a.data.toList=b.data.toList):a=b:=by
 cases a;cases b
 simp only [ByteArray.mk.injEq]
 exact Array.toList_inj.1 h
theorem ba_app (a b:ByteArray):(a++b).data.toList=a.data.toList++b.data.toList:=by
 rw [ByteArray.data_append,Array.toList_append]
theorem ext_l (x:ByteArray) (a b:Nat):(x.extract a b).data.toList=(x.data.toList.take b).drop a:=by
 rw [ByteArray.data_extract,Array.toList_extract,List.extract_eq_take_drop,List.take_drop,Nat.add_comm]
 rcases Nat.le_total a b with h | h
 · rw [Nat.sub_add_cancel h]
 rw [List.drop_eq_nil_of_le (by rw [List.length_take];omega),List.drop_eq_nil_of_le (by rw [List.length_take];omega)]
def strL (l:List UInt8):ByteArray:=⟨l.toArray⟩
theorem strL_list (l:List UInt8):(strL l).data.toList=l:=rfl
theorem strL_size (l:List UInt8):(strL l).size=l.length:=by
 rw [←size_data,strL_list]
theorem list_strL (s:ByteArray):strL s.data.toList=s:=ba_eq rfl
def frameB (p:ByteArray):ByteArray:=strL (frameL ckL p.data.toList)
def frameM (p:ByteArray):ByteArray × Int:=if p.size≤8192 then (frameB p,0) else (.empty,3)
theorem frameT (p:ByteArray) (hp:p.size≤900000000):Triple Tryz.prog 96 [.string p] [] [] Unit (fun _=>.tuple #[.string (frameM p).1,.int .i64 (frameM p).2]) (fun _=>True) (fun _=>[]):=by
 have T1:=mputT p.size (by omega)
 obtain ⟨m,hm⟩:∃ m,m=strL (putL (2*p.size)):=⟨_,rfl⟩
 rw [show (⟨(putL (2*p.size)).toArray⟩:ByteArray)=m from hm.symm] at T1
 have hm1:m.size≤10:=by
  rw [hm,strL_size]
  exact putL_len 9 _ (by omega)
 have T2:=checkT (m++p) (by rw [ByteArray.size_append];omega)
 obtain ⟨k,hk⟩:∃ k,k=strL (ckL (m++p).data.toList):=⟨_,rfl⟩
 rw [show (⟨(ckL (m++p).data.toList).toArray⟩:ByteArray)=k from hk.symm] at T2
 have hk1:k.size=4:=by rw [hk,strL_size,ckL_len]
 have hmk:(m++k).size≤14:=by rw [ByteArray.size_append];omega
 refine aT Tryz.func96 [.va (.string p)] [] (fun E=>?_) ⟨trivial,trivial⟩
 by_cases hsz:p.size≤8192
 · have hR:frameM p=(m++k++p,0):=by
    unfold frameM
    rw [if_pos hsz]
    congr 1
    apply ba_eq
    unfold frameB
    rw [strL_list,frameL,ba_app,ba_app,hk,strL_list,ba_app,hm,strL_list,size_data,List.append_assoc]
   rw [hR]
   refine aG ?_
   refine aI ?_ (decide_eq_false (show ¬(↑p.size:Int) > 8192 from (by omega)))
   refine aC T1 [] [] fun _ h0=>?_
   refine ev_stop (go_bin (.va _) trivial rfl rfl rfl rfl rfl (by decide) (by decide) (fun w=>cat_run (by omega) w) ?_)
   refine aG ?_
   refine aC T2 [] [] fun _ h1=>?_
   refine ev_stop (go_bin (.va _) trivial rfl rfl rfl rfl rfl (by decide) (by decide) (fun w=>cat_run (by omega) w) ?_)
   refine aG ?_
   refine ev_stop (go_bin (.va _) trivial rfl rfl rfl rfl rfl (by decide) (by decide) (fun w=>cat_run (by omega) w) ?_)
   refine aG ?_
   refine ev_fin ⟨trivial,_,rfl,(()),rfl,(by trivial),Frm.nil _⟩
 have hR:frameM p=(.empty,3):=by unfold frameM;rw [if_neg hsz]
 rw [hR]
 refine aG ?_
 refine aJ ?_ (decide_eq_true (show (↑p.size:Int) > 8192 from (by omega)))
 refine ev_fin ⟨trivial,_,rfl,(()),rfl,(by trivial),Frm.nil _⟩
def nextM (s:ByteArray) (a:Nat):ByteArray × Nat × Bool:=match nextL ckL (s.data.toList.drop a) with | none=>(.empty,0,false) | some (p,n)=>(strL p,a+n,true)
theorem nextM_none {s:ByteArray} {a:Nat} (h:nextL ckL (s.data.toList.drop a)=none):nextM s a=(.empty,0,false):=by unfold nextM;rw [h]
theorem nextM_some {s:ByteArray} {a n:Nat} {p:List UInt8} (h:nextL ckL (s.data.toList.drop a)=some (p,n)):nextM s a=(strL p,a+n,true):=by unfold nextM;rw [h]
theorem getL_wide:∀ (l:List UInt8) (i acc F k:Nat),getL i acc l=some (F,k)→acc<128 ^ i→i≤9→F<18446744073709551616
 | [],_,_,_,_,h,_,_=>by cases h
 |
  c::l,i,acc,F,k,h,ha,hi=>by
  have hc:=UInt8.toNat_lt c
  rw [getL,if_neg (by omega)] at h
  split at h
  · rcases (show i≤8∨i=9 by omega) with h8 | rfl
    · refine getL_wide l (i+1) _ F k h ?_ (by omega)
      have h3:=Nat.mul_le_mul_right (128 ^ i) (show c.toNat-128≤127 by omega)
      rw [pow128]
      omega
    cases l with
    | nil=>cases h
    | cons d l=>rw [getL,if_pos (by decide)] at h;cases h
  split at h
  · cases h
  rename_i h1 h2
  cases h
  rcases (show i≤8∨i=9 by omega) with h8 | rfl
  · have h3:=Nat.mul_le_mul_right (128 ^ i) (show c.toNat≤127 by omega)
    have h4:=Nat.pow_le_pow_right (show 128 > 0 by decide) h8
    have h5:(128:Nat) ^ 8=72057594037927936:=rfl
    omega
  have h3:=Nat.mul_le_mul_right (128 ^ 9) (show c.toNat≤1 by omega)
  have h5:(128:Nat) ^ 9=9223372036854775808:=rfl
  omega
set_option maxHeartbeats 2000000 in
theorem nextT (s:ByteArray) (a:Nat) (hs:s.size≤100000000) (ha:a≤s.size):Triple Tryz.prog 90 [.string s,.int .i64 (a:Int)] [] [] Unit (fun _=>.tuple #[.string (nextM s a).1,.int .i64 ((nextM s a).2.1:Nat),.bool (nextM s a).2.2]) (fun _=>True) (fun _=>[]):=by
 have T1:=mgetT s a (by omega) ha
 refine aT Tryz.func90 [.va (.string s),vI (a:Int)] [] (fun E=>?_) ⟨trivial,trivial,trivial⟩
 have hsz:=size_data s
 cases hg:getL 0 0 (s.data.toList.drop a) with
 |
  none =>
  rw [getM_none hg] at T1
  dsimp only at T1
  rw [nextM_none (by unfold nextL;rw [hg])]
  refine aG ?_
  refine aC T1 [] [] fun _ h0=>?_
  refine aJ ?_
  refine ev_fin ⟨trivial,_,rfl,(()),rfl,(by trivial),Frm.nil _⟩
 |
  some x =>
  obtain ⟨F,k⟩:=x
  rw [getM_some hg] at T1
  dsimp only at T1
  obtain ⟨hk0,hk1,_⟩:=getL_some _ _ _ _ _ hg
  rw [List.length_drop,hsz] at hk1
  have hF:=getL_wide _ _ _ _ _ hg (by decide) (by decide)
  have hz:zigM F=if F % 2=1 then -((F / 2:Nat):Int)-1 else ((F / 2:Nat):Int):=rfl
  by_cases hbad:F % 2=1∨16384<F∨s.size-a<k+4+F / 2
  · have hR:nextM s a=(.empty,0,false):=nextM_none (by
     unfold nextL
     rw [hg]
     simp only
     rw [if_pos (by rw [List.length_drop,hsz];exact hbad)])
    rw [hR]
    rcases Nat.mod_two_eq_zero_or_one F with ho | ho
    · have hz2:zigM F=((F / 2:Nat):Int):=by rw [hz,if_neg (by omega)]
      rw [hz2] at T1
      rcases (show 8192<F / 2∨(F / 2≤8192∧s.size<a+k+4+F / 2) by omega) with hb | ⟨hb,hb2⟩
      · refine aG ?_
        refine aC T1 [] [] fun _ h0=>?_
        refine aI (aI ?_)
        refine aJ ?_ (decide_eq_true (show (↑(F / 2):Int) > 8192 from (by omega)))
        refine ev_fin ⟨trivial,_,rfl,(()),rfl,(by trivial),Frm.nil _⟩
      refine aG ?_
      refine aC T1 [] [] fun _ h0=>?_
      refine aI (aI ?_)
      refine aI ?_ (decide_eq_false (show ¬(↑(F / 2):Int) > 8192 from (by omega)))
      refine wO (s.size-(a+k)) ?_
      refine wN (4+F / 2) ?_
      refine aJ ?_ (decide_eq_true (show (↑(s.size-(a+k)):Int)<(↑(4+F / 2):Int) from (by omega)))
      refine ev_fin ⟨trivial,_,rfl,(()),rfl,(by trivial),Frm.nil _⟩
    obtain ⟨z,hz2⟩:∃ z,z=zigM F:=⟨_,rfl⟩
    rw [←hz2] at T1
    have hz3:z<0:=by rw [hz2,hz,if_pos ho];omega
    refine aG ?_
    refine aC T1 [] [] fun _ h0=>?_
    refine aI ?_
    refine aJ ?_ (decide_eq_true (by with_reducible assumption))
    refine ev_fin ⟨trivial,_,rfl,(()),rfl,(by trivial),Frm.nil _⟩
  have hz2:zigM F=((F / 2:Nat):Int):=by rw [hz,if_neg (by omega)]
  rw [hz2] at T1
  obtain ⟨n,hn⟩:∃ n,n=F / 2:=⟨_,rfl⟩
  have hb1:n≤8192:=by omega
  have hb2:a+k+4+n≤s.size:=by omega
  rw [←hn] at T1
  have e1:(s.extract a (a+k)).size=k:=by rw [ByteArray.size_extract];omega
  have e2:(s.extract (a+k+4) (a+k+4+n)).size=n:=by rw [ByteArray.size_extract];omega
  have T2:=checkT (s.extract a (a+k)++s.extract (a+k+4) (a+k+4+n)) (by rw [ByteArray.size_append];omega)
  obtain ⟨q,hq⟩:∃ q,q=strL (ckL (s.extract a (a+k)++s.extract (a+k+4) (a+k+4+n)).data.toList):=⟨_,rfl⟩
  rw [show (⟨(ckL (s.extract a (a+k)++s.extract (a+k+4) (a+k+4+n)).data.toList).toArray⟩:ByteArray)=q from hq.symm] at T2
  have l1:(s.extract a (a+k)).data.toList=(s.data.toList.drop a).take k:=by rw [ext_l,List.drop_take];congr 1;omega
  have l2:(s.extract (a+k+4) (a+k+4+n)).data.toList=((s.data.toList.drop a).drop (k+4)).take n:=by rw [ext_l,List.drop_take,List.drop_drop];congr 1<;>omega
  have l3:(s.extract (a+k) (a+k+4)).data.toList=((s.data.toList.drop a).drop k).take 4:=by rw [ext_l,List.drop_take,List.drop_drop];congr 1;omega
  have hiff:q=s.extract (a+k) (a+k+4)↔ckL ((s.data.toList.drop a).take k++((s.data.toList.drop a).drop (k+4)).take n)=((s.data.toList.drop a).drop k).take 4:=by
   rw [←l1,←l2,←l3,←ba_app,hq]
   exact ⟨fun h=>congrArg (fun x=>x.data.toList) h,fun h=>ba_eq h⟩
  have hnx:nextL ckL (s.data.toList.drop a)=if ckL ((s.data.toList.drop a).take k++((s.data.toList.drop a).drop (k+4)).take n)=((s.data.toList.drop a).drop k).take 4 then some (((s.data.toList.drop a).drop (k+4)).take n,k+4+n) else none:=by
   unfold nextL
   rw [hg]
   simp only
   rw [if_neg (by rw [List.length_drop,hsz];exact hbad),hn]
  by_cases hc:q=s.extract (a+k) (a+k+4)
  · have hR:nextM s a=(s.extract (a+k+4) (a+k+4+n),a+k+4+n,true):=by
     rw [nextM_some (by rw [hnx,if_pos (hiff.1 hc)]),←l2,list_strL]
     congr 2
     omega
    rw [hR]
    refine aG ?_
    refine aC T1 [] [] fun _ h0=>?_
    refine aI (aI ?_)
    refine aI ?_ (decide_eq_false (show ¬(↑n:Int) > 8192 from (by omega)))
    refine wO (s.size-(a+k)) ?_
    refine wN (4+n) ?_
    refine aI ?_ (decide_eq_false (show ¬(↑(s.size-(a+k)):Int)<(↑(4+n):Int) from (by omega)))
    refine wN (a+k+4) ?_
    refine wN (a+k+4+n) ?_
    refine ev_stop (go_sliceS Tryz.tbs_ok (a+k+4) (a+k+4+n) rfl rfl rfl rfl ⟨_,rfl⟩ ⟨_,rfl⟩ (by omega) (by omega) ?_)
    refine aG ?_
    refine ev_stop (go_draw Tryz.tbs_ok true [] [(0,true),(1,true),(2,true),(3,true),(4,true),(5,true),(7,true),(8,true),(9,true),(10,true),(6,false),(11,false)] rfl ?_)
    refine aG (aE ?_)
    refine ev_stop (tk_sliceS Tryz.tbs_ok (a) (a+k) aB rfl rfl rfl rfl rfl ⟨_,rfl⟩ ⟨_,rfl⟩ (by omega) (by omega) ?_)
    refine aG (aE ?_)
    refine ev_stop (tk_bin (.va _) trivial aB rfl rfl rfl rfl rfl rfl (by decide) (by decide) (fun w=>cat_run (by omega) w) ?_)
    refine aG (aE ?_)
    refine ev_stop (tk_sliceS Tryz.tbs_ok (a+k) (a+k+4) aB rfl rfl rfl rfl rfl ⟨_,rfl⟩ ⟨_,rfl⟩ (by omega) (by omega) ?_)
    refine aG (aE ?_)
    refine aC T2 [] [] fun _ h1=>?_
    refine aE (aE ?_)
    refine aI ?_ (dec_no (by with_reducible assumption))
    refine wN (a+k+4+n) ?_
    refine ev_fin ⟨trivial,_,rfl,(()),rfl,(by trivial),Frm.nil _⟩
  have hR:nextM s a=(.empty,0,false):=nextM_none (by rw [hnx,if_neg (fun h=>hc (hiff.2 h))])
  rw [hR]
  refine aG ?_
  refine aC T1 [] [] fun _ h0=>?_
  refine aI (aI ?_)
  refine aI ?_ (decide_eq_false (show ¬(↑n:Int) > 8192 from (by omega)))
  refine wO (s.size-(a+k)) ?_
  refine wN (4+n) ?_
  refine aI ?_ (decide_eq_false (show ¬(↑(s.size-(a+k)):Int)<(↑(4+n):Int) from (by omega)))
  refine wN (a+k+4) ?_
  refine wN (a+k+4+n) ?_
  refine ev_stop (go_sliceS Tryz.tbs_ok (a+k+4) (a+k+4+n) rfl rfl rfl rfl ⟨_,rfl⟩ ⟨_,rfl⟩ (by omega) (by omega) ?_)
  refine aG ?_
  refine ev_stop (go_draw Tryz.tbs_ok true [] [(0,true),(1,true),(2,true),(3,true),(4,true),(5,true),(7,true),(8,true),(9,true),(10,true),(6,false),(11,false)] rfl ?_)
  refine aG (aE ?_)
  refine ev_stop (tk_sliceS Tryz.tbs_ok (a) (a+k) aB rfl rfl rfl rfl rfl ⟨_,rfl⟩ ⟨_,rfl⟩ (by omega) (by omega) ?_)
  refine aG (aE ?_)
  refine ev_stop (tk_bin (.va _) trivial aB rfl rfl rfl rfl rfl rfl (by decide) (by decide) (fun w=>cat_run (by omega) w) ?_)
  refine aG (aE ?_)
  refine ev_stop (tk_sliceS Tryz.tbs_ok (a+k) (a+k+4) aB rfl rfl rfl rfl rfl ⟨_,rfl⟩ ⟨_,rfl⟩ (by omega) (by omega) ?_)
  refine aG (aE ?_)
  refine aC T2 [] [] fun _ h1=>?_
  refine aE (aE ?_)
  refine aJ ?_ (dec_yes (by with_reducible assumption))
  refine ev_fin ⟨trivial,_,rfl,(()),rfl,(by trivial),Frm.nil _⟩
def wholeM (s:ByteArray):List ByteArray × Nat:=((wholeL ckL s.data.toList).1.map strL,(wholeL ckL s.data.toList).2)
theorem wholeT (s:ByteArray) (hs:s.size≤10000000):Triple Tryz.prog 39 [.string s] [] [] (Option Addr × Nat) (fun (C,c)=>.tuple #[.slice C (wholeM s).1.length c,.int .i64 ((wholeM s).2:Nat)]) (fun _=>True) (fun (C,c)=>[Row 9 1 C (wholeM s).1.length c ((wholeM s).1.flatMap encS)]):=by
 refine aT Tryz.func39 [.va (.string s)] [] (fun E=>?_) ⟨trivial,trivial⟩
 have hsz:=size_data s
 obtain ⟨R,hR⟩:∃ R,R=wholeM s:=⟨_,rfl⟩
 rw [←hR]
 refine go_fact (Row 9 1 none 0 0 (([]:List ByteArray).flatMap encS)) (Row.nilE _ _) ?_
 refine aG ?_
 refine ev_stop (go_loopR [2,3,4,5,6,7,8,9,10,11,12,13,14,15,16,17,18,19,20,21,22] (fun (a,C,q,e,_)=>[(2,vL C q e),(3,vI (a:Nat))]) (fun (_,C,q,e,M)=>[(0,.fact (Row 9 1 C q e (M.flatMap encS)))]) (fun (a,_,q,_,M)=>a≤s.size∧q=M.length∧q≤a∧R=(M++(wholeL ckL (s.data.toList.drop a)).1.map strL,a+(wholeL ckL (s.data.toList.drop a)).2)) (fun (a,_,_,_,_)=>s.size-a) ((0,none,0,0,[]):Nat × Option Addr × Nat × Nat × List ByteArray) ⟨Nat.zero_le _,rfl,Nat.zero_le _,by rw [hR];unfold wholeM;simp⟩ aS (fun x_ h_=>?_))
 obtain ⟨a,C,q,e,M⟩:=x_
 obtain ⟨ha,hq,hq2,hM⟩:=h_
 have T1:=nextT s a (by omega) ha
 cases hn:nextL ckL (s.data.toList.drop a) with
 |
  none =>
  rw [nextM_none hn] at T1
  dsimp only at T1
  rw [wholeL_none hn] at hM
  simp only [List.map_nil,List.append_nil,Nat.add_zero] at hM
  subst hM
  subst hq
  refine aG ?_
  refine aC T1 [] [] fun _ h20=>?_
  refine aJ ?_
  exact ev_fin ⟨trivial,_,rfl,((C,e)),rfl,trivial,aF [0]⟩
 |
  some x =>
  obtain ⟨p,n⟩:=x
  rw [nextM_some hn] at T1
  dsimp only at T1
  have hs2:=nextL_some hn
  rw [List.length_drop,hsz] at hs2
  rw [wholeL_some hn,List.drop_drop] at hM
  refine aG ?_
  refine aC T1 [] [] fun _ h20=>?_
  refine aI ?_
  refine ev_new fun b21=>?_
  refine ev_stop (go_appendE (sz:=1) (M:=[_]) (enc:=encS) Tryz.tbs_ok [0] [] (.inr 1) (M) ([strL p]) ((M)++([strL p])) (q+1) rfl rfl rfl rfl rfl rfl rfl (by decide) rfl (by decide) (fun _ p=>starH_one.1 p) rfl (fun _ p=>Pt.rd p rfl) (by first | rfl | simp) (by first | rfl | omega) (aM (q+1)) (aN (q+1)) (fun _ _=>aL) (fun A22 c23 h24=>?_))
  refine aG ?_
  refine ev_fin (round_next ((a+n,A22,q+1,c23,M++[strL p])) (?_:a+n≤s.size∧q+1=(M++[strL p]).length∧q+1≤a+n∧R=(M++[strL p]++List.map strL (wholeL ckL (List.drop (a+n) s.data.toList)).fst,a+n+(wholeL ckL (List.drop (a+n) s.data.toList)).snd)) (show s.size-(a+n)<s.size-a from (by omega)) aS)
  refine ⟨by omega,by rw [hq];simp,by omega,?_⟩
  rw [hM]
  simp only [List.map_cons,List.append_assoc,List.singleton_append,Prod.mk.injEq,true_and]
  omega
end Go.Proofs.YtjlfdfmkofbccaaGreatDoor
namespace Go.Sy
open Go.RowKit
theorem get_put2:∀ (j f i acc:Nat) (r:List UInt8),f<2*128 ^ j→i+j=9→(0<f∨i=0)→getL i acc (putL f++r)=some (acc+f*128 ^ i,i+(putL f).length)
 |
  0,f,i,acc,r,h,hi,h0=>by
  have h2:f<2:=by simpa using h
  rw [putL_small (by omega),List.singleton_append,getL,if_neg (by omega),toNat_of (by omega),if_neg (by omega),if_neg (by omega)]
  rfl
 |
  j+1,f,i,acc,r,h,hi,h0=>by
  rcases Nat.lt_or_ge f 128 with h1 | h1
  · rw [putL_small h1,List.singleton_append,getL,if_neg (by omega),toNat_of (by omega),if_neg (by omega),if_neg (by omega)]
    rfl
  rw [putL_great h1,List.cons_append,getL,if_neg (by omega),toNat_of (by omega),if_pos (by omega)]
  rw [get_put2 j (f / 128) (i+1) _ r (Nat.div_lt_of_lt_mul (by rw [pow128] at h;omega)) (by omega) (.inl (Nat.div_pos h1 (by decide)))]
  have e:f % 128+128-128=f % 128:=by omega
  rw [e,pow128]
  have h3:acc+f % 128*128 ^ i+f / 128*(128*128 ^ i)=acc+f*128 ^ i:=by
   have h4:f / 128*(128*128 ^ i)=(128*(f / 128))*128 ^ i:=by rw [Nat.mul_comm 128 (f / 128),Nat.mul_assoc]
   rw [h4,Nat.add_assoc,←Nat.add_mul,Nat.add_comm (f % 128),Nat.div_add_mod]
  rw [h3,List.length_cons,show i+1+(putL (f / 128)).length=i+((putL (f / 128)).length+1) by omega]
def valL:List UInt8→Nat
 | []=>0
 | c::r=>c.toNat % 128+128*valL r
def runL:List UInt8→Nat
 | []=>0
 | c::r=>if 128≤c.toNat then runL r+1 else 0
theorem val_put (f:Nat):valL (putL f)=f:=by
 induction f using Nat.strongRecOn with
 |
  _ f ih =>
  rcases Nat.lt_or_ge f 128 with h1 | h1
  · rw [putL_small h1]
    show (UInt8.ofNat f).toNat % 128+128*0=f
    rw [toNat_of (by omega)]
    omega
  rw [putL_great h1]
  show (UInt8.ofNat (f % 128+128)).toNat % 128+128*valL (putL (f / 128))=f
  rw [toNat_of (by omega),ih (f / 128) (Nat.div_lt_self (by omega) (by decide))]
  omega
theorem run_put (f:Nat) (r:List UInt8):runL (putL f++r)+1=(putL f).length:=by
 induction f using Nat.strongRecOn with
 |
  _ f ih =>
  rcases Nat.lt_or_ge f 128 with h1 | h1
  · rw [putL_small h1]
    show (if 128≤(UInt8.ofNat f).toNat then runL r+1 else 0)+1=1
    rw [toNat_of (by omega),if_neg (by omega)]
  rw [putL_great h1,List.cons_append,List.length_cons]
  show (if 128≤(UInt8.ofNat (f % 128+128)).toNat then runL (putL (f / 128)++r)+1 else 0)+1=_
  rw [toNat_of (by omega),if_pos (by omega),ih (f / 128) (Nat.div_lt_self (by omega) (by decide))]
theorem get_run {l:List UInt8} {F k:Nat} (h:getL 0 0 l=some (F,k)):k=runL l+1∧k≤10∧runL l<l.length∧l.take k=putL F∧F<18446744073709551616:=by
 obtain ⟨f,h1,h2,_,h4,h5,h6⟩:=get_is_put l 0 0 F k h
 have hF:F=f:=by rw [h1];simp
 subst hF
 rw [Nat.sub_zero] at h2
 have h7:=run_put F (l.drop k)
 rw [←h2,List.take_append_drop,h2] at h7
 have h8:=(getL_some l 0 0 F k h).2.1
 exact ⟨by omega,h5,by omega,h2,Proofs.YtjlfdfmkofbccaaGreatDoor.getL_wide l 0 0 F k h (by decide) (by decide)⟩
theorem get_none {l:List UInt8} (h:runL l=l.length∨9<runL l):getL 0 0 l=none:=by
 cases hg:getL 0 0 l with
 | none=>rfl
 |
  some x =>
  obtain ⟨h1,h2,h3,_⟩:=get_run (F:=x.1) (k:=x.2) hg
  omega
theorem get_def {l:List UInt8} {F:Nat} (h1:runL l<l.length) (h2:runL l≤9) (hF:F=valL (l.take (runL l+1)) % 18446744073709551616):getL 0 0 l=if putL F=l.take (runL l+1) then some (F,runL l+1) else none:=by
 have hF2:F<18446744073709551616:=by rw [hF];exact Nat.mod_lt _ (by decide)
 cases hg:getL 0 0 l with
 |
  none =>
  rw [if_neg]
  intro q
  have h3:=get_put2 9 F 0 0 (l.drop (runL l+1)) (by exact hF2) rfl (.inr rfl)
  rw [q,List.take_append_drop,hg] at h3
  cases h3
 |
  some x =>
  obtain ⟨g1,g2,g3,g4,g5⟩:=get_run (F:=x.1) (k:=x.2) hg
  rw [←g1,g4,val_put,Nat.mod_eq_of_lt g5] at hF
  rw [←g1,g4,hF,if_pos rfl]
end Go.Sy
namespace Go.Proofs.YtjlfdfmkofbccaaGreatDoor
open Go.Sy Go.RowKit
theorem zig_odd {F:Nat} (h:F % 2=1):zigM F = -((F / 2:Nat):Int)-1:=by unfold zigM;rw [if_pos h]
theorem zig_even {F:Nat} (h:¬ F % 2=1):zigM F=((F / 2:Nat):Int):=by unfold zigM;rw [if_neg h]
theorem rFold (F:Nat) (hF:F<18446744073709551616):Triple Tryz.prog 164 [.int .i64 (zigM F)] [] [] Unit (fun _=>.int .u64 (F:Nat)) (fun _=>True) (fun _=>[]):=by
 by_cases h:F % 2=1
 · rw [zig_odd h]
   obtain ⟨G,hG⟩:∃ G,G=F / 2:=⟨_,rfl⟩
   rw [←hG,show F=2*G+1 by omega]
   refine aT Tryz.func164 [vI (-(G:Int)-1)] [] (fun E=>?_) ⟨trivial,trivial⟩
   refine aG ?_
   refine aI ?_ (decide_eq_false (show ¬-(↑G:Int)-1 ≥ 0 from (by omega)))
   refine w6 ?_
   refine w6 ?_
   refine ev_wu64 (show 0≤0-(-(↑G:Int)-1+1)∧0-(-(↑G:Int)-1+1)<18446744073709551616 from (by constructor<;>omega)) ?_
   refine ev_wu64 (show 0≤2*(0-(-(↑G:Int)-1+1))∧2*(0-(-(↑G:Int)-1+1))<18446744073709551616 from (by constructor<;>omega)) ?_
   refine ev_wu64 (show 0≤2*(0-(-(↑G:Int)-1+1))+1∧2*(0-(-(↑G:Int)-1+1))+1<18446744073709551616 from (by constructor<;>omega)) ?_
   refine ev_fin ⟨trivial,_,rfl,(()),?_,(by trivial),Frm.nil _⟩
   exact congrArg (Value.int IntKind.u64) (by omega)
 rw [zig_even h]
 obtain ⟨G,hG⟩:∃ G,G=F / 2:=⟨_,rfl⟩
 rw [←hG,show F=2*G by omega]
 refine aT Tryz.func164 [vI (G:Int)] [] (fun E=>?_) ⟨trivial,trivial⟩
 refine aG (aJ ?_)
 refine ev_wu64 (show 0≤(↑G:Int)∧(↑G:Int)<18446744073709551616 from (by constructor<;>omega)) ?_
 refine ev_wu64 (show 0≤2*(↑G:Int)∧2*(↑G:Int)<18446744073709551616 from (by constructor<;>omega)) ?_
 refine ev_fin ⟨trivial,_,rfl,(()),rfl,(by trivial),Frm.nil _⟩
theorem b_xorP {n:Nat} (h:n<4294967296):bitsOf .xor .u32 (n:Int) 2197175160=((n ^^^ 2197175160:Nat):Int):=xor_un rfl h (by decide)
theorem b_div32 {n:Nat} (h:n<4294967296):IntKind.u32.wrap ((n:Int).tdiv 2)=((n / 2:Nat):Int):=wrap_un (k:=.u32) rfl (Nat.lt_of_le_of_lt (Nat.div_le_self _ _) h)
theorem b_div64 {n k:Nat} (h:n<18446744073709551616):IntKind.u64.wrap ((n:Int).tdiv (k:Nat))=((n / k:Nat):Int):=wrap_un (k:=.u64) rfl (Nat.lt_of_le_of_lt (Nat.div_le_self _ _) h)
theorem b_div128 {n:Nat} (h:n<18446744073709551616):IntKind.u64.wrap ((n:Int).tdiv 128)=((n / 128:Nat):Int):=b_div64 h
theorem b_digit (n:Nat):IntKind.u8.wrap ((n:Int).tmod 128+128)=((UInt8.ofNat (n % 128+128)).toNat:Int):=b_byte (n % 128+128)
theorem rOn (g:Nat) (c:UInt8) (hg:g<4294967296):Triple Tryz.prog 168 [.int .u32 (g:Nat),.int .u8 (c.toNat:Nat)] [] [] Unit (fun _=>.int .u32 (crcO g c:Nat)) (fun _=>True) (fun _=>[]):=by
 refine aT Tryz.func168 [.va (.int .u32 (g:Nat)),.va (.int .u8 (c.toNat:Nat))] [] (fun E=>?_) ⟨trivial,trivial,trivial⟩
 refine aG ?_
 refine ev_wrap (z:=(↑c.toNat:Int)) (b_c32 (c)) ?_
 refine ev_stop (go_bin (.va (.int _ ((↑(g ^^^ c.toNat):Int)))) trivial rfl rfl rfl rfl rfl (by decide) (by decide) (fun w=>bits_runE (b_xor8 (by assumption) (c)) (by decide) w) ?_)
 refine aG ?_
 have hx:=xor8_lt hg c
 obtain ⟨g0,hg0⟩:∃ g0,g0=g ^^^ c.toNat:=⟨_,rfl⟩
 rw [←hg0] at hx ⊢
 refine ev_stop (go_loopR [0,5,10,11,12,13,14,15,16,17,18,19,20,21] (fun (j,r)=>[(0,.va (.int .u32 (r:Nat))),(5,vI (j:Nat))]) (fun _=>[]) (fun (j,r)=>j≤8∧r<4294967296∧crcN (8-j) r=crcO g c) (fun (j,_)=>8-j) ((0,g0):Nat × Nat) ⟨Nat.zero_le _,hx,by rw [hg0];rfl⟩ aS (fun x_ h_=>?_))
 obtain ⟨j,r⟩:=x_
 obtain ⟨hj,hr,hr2⟩:=h_
 by_cases hj8:j=8
 · subst hj8
   have hr3:r=crcO g c:=hr2
   refine aG (aI ?_)
   refine ev_fin (go Tryz.tbs_ok 1000 ?_)
   refine ev_fin ⟨trivial,_,rfl,(()),?_,(by trivial),Frm.nil _⟩
   exact congrArg (fun z:Nat=>Value.int IntKind.u32 z) hr3
 have hs:8-j=(8-(j+1))+1:=by omega
 rw [hs] at hr2
 have hr4:crcN (8-(j+1)) (crcB r)=crcO g c:=hr2
 have hr5:=crcB_lt hr
 have hd:=b_div32 hr
 have hm:((r:Nat):Int).tmod 2=((r % 2:Nat):Int):=rfl
 by_cases h2:r % 2=1
 · have e:crcB r=r / 2 ^^^ 2197175160:=by unfold crcB;rw [if_pos h2]
   rw [e] at hr4 hr5
   have hx:=b_xorP (n:=r / 2) (by omega)
   refine aG ?_
   refine aJ ?_ (decide_eq_true (show (↑j:Int)<8 from (by omega)))
   refine aJ ?_ (beq_iff_eq.2 (show (↑r:Int).tmod 2=1 from (by omega)))
   refine ev_wrap (z:=(↑(r / 2):Int)) hd ?_
   refine ev_stop (go_bin (.va (.int _ ((↑(r / 2 ^^^ 2197175160):Int)))) trivial rfl rfl rfl rfl rfl (by decide) (by decide) (fun w=>bits_runE hx (by decide) w) ?_)
   refine aG ?_
   refine wN (j+1) ?_
   refine ev_fin (round_next ((j+1,r / 2 ^^^ 2197175160)) (show j+1≤8∧r / 2 ^^^ 2197175160<4294967296∧crcN (8-(j+1)) (r / 2 ^^^ 2197175160)=crcO g c from (by omega)) (show 8-(j+1)<8-j from (by omega)) aS)
 have e:crcB r=r / 2:=by unfold crcB;rw [if_neg h2]
 rw [e] at hr4 hr5
 refine aG ?_
 refine aJ ?_ (decide_eq_true (show (↑j:Int)<8 from (by omega)))
 refine aI ?_ (beq_eq_false_iff_ne.2 (show ¬(↑r:Int).tmod 2=1 from (by omega)))
 refine ev_wrap (z:=(↑(r / 2):Int)) hd ?_
 refine wN (j+1) ?_
 refine ev_fin (round_next ((j+1,r / 2)) (show j+1≤8∧r / 2<4294967296∧crcN (8-(j+1)) (r / 2)=crcO g c from (by omega)) (show 8-(j+1)<8-j from (by omega)) aS)
theorem rMore (r:Nat) (s:ByteArray) (hr:r<4294967296) (hs:s.size≤1000000000):Triple Tryz.prog 165 [.int .u32 (r:Int),.string s] [] [] Unit (fun _=>.int .u32 ((4294967295-crcL (4294967295-r) s.data.toList:Nat):Int)) (fun _=>True) (fun _=>[]):=by
 refine aT Tryz.func165 [.va (.int .u32 (r:Int)),.va (.string s)] [] (fun E=>?_) ⟨trivial,trivial,trivial⟩
 have hsz:=size_data s
 have T:=rOn
 refine aG ?_
 refine ev_wu32 (show 0≤4294967295-(↑r:Int)∧4294967295-(↑r:Int)<4294967296 from (by constructor<;>omega)) ?_
 refine ev_stop (go_slot 5 _ (.va (.int .u32 ((4294967295-r:Nat):Int))) rfl rfl (congrArg (Value.int .u32) (by omega)) (fun _=>trivial) ?_)
 refine aG ?_
 refine ev_stop (go_loopR [5,6,9,10,11,12,13,14,15,16,17,18,19] (fun (j,g)=>[(5,.va (.int .u32 (g:Nat))),(6,vI (j:Nat))]) (fun _=>[]) (fun (j,g)=>j≤s.size∧g=crcL (4294967295-r) (s.data.toList.take j)) (fun (j,_)=>s.size-j) ((0,4294967295-r):Nat × Nat) ⟨Nat.zero_le _,rfl⟩ aS (fun x_ h_=>?_))
 obtain ⟨j,g⟩:=x_
 obtain ⟨hj,hg⟩:=h_
 have hg2:g<4294967296:=by rw [hg];exact crcL_lt _ (by omega)
 rcases Nat.lt_or_ge j s.size with hj2 | hj2
 · have hjl:j<s.data.toList.length:=by omega
   have hst:=crcL_step (r:=4294967295-r) hjl
   have hst2:crcL (4294967295-r) (s.data.toList.take (j+1))=crcO g s[j]:=by rw [hst,hg];rfl
   have T1:=rOn g s[j] hg2
   refine aG ?_
   refine aJ ?_ (decide_eq_true (show (↑j:Int)<(↑s.size:Int) from (by omega)))
   refine ev_stop (go_byte Tryz.tbs_ok (j) rfl rfl rfl rfl rfl rfl (by omega) ?_)
   refine aG ?_
   refine aC T1 [] [] fun _ h10=>?_
   refine wN (j+1) ?_
   refine ev_fin (round_next ((j+1,crcO g s[j])) (show j+1≤s.size∧crcO g s[j]=crcL (4294967295-r) (List.take (j+1) s.data.toList) from (by omega)) (show s.size-(j+1)<s.size-j from (by omega)) aS)
 obtain rfl:j=s.size:=by omega
 rw [List.take_of_length_le (by omega)] at hg
 refine aG ?_
 refine aI ?_ (decide_eq_false (show ¬(↑s.size:Int)<(↑s.size:Int) from (by omega)))
 refine ev_fin (go Tryz.tbs_ok 1000 ?_)
 refine ev_wu32 (show 0≤4294967295-(↑g:Int)∧4294967295-(↑g:Int)<4294967296 from (by constructor<;>omega)) ?_
 refine ev_fin ⟨trivial,_,rfl,(()),?_,(by trivial),Frm.nil _⟩
 rw [←hg]
 exact congrArg (Value.int IntKind.u32) (by omega)
theorem rSum (s:ByteArray) (hs:s.size≤1000000000):Triple Tryz.prog 155 [.string s] [] [] Unit (fun _=>.int .u32 (ckN s.data.toList:Nat)) (fun _=>True) (fun _=>[]):=by
 have T1:=rMore 0 s (by decide) hs
 refine aT Tryz.func155 [.va (.string s)] [] (fun E=>?_) ⟨trivial,trivial⟩
 refine aG ?_
 refine aC T1 [] [] fun _ h0=>?_
 refine ev_fin ⟨trivial,_,rfl,(()),rfl,(by trivial),Frm.nil _⟩
theorem rPutM (F:Nat) (hF:F<18446744073709551616):Triple Tryz.prog 154 [.int .i64 (zigM F)] [] [] Unit (fun _=>.string ⟨(putL F).toArray⟩) (fun _=>True) (fun _=>[]):=by
 have T1:=rFold F hF
 obtain ⟨z,hz⟩:∃ z,z=zigM F:=⟨_,rfl⟩
 rw [←hz] at T1 ⊢
 refine aT Tryz.func154 [vI z] [] (fun E=>?_) ⟨trivial,trivial⟩
 refine go_fact (Row 5 1 none 0 0 (([]:List UInt8).flatMap encC)) (Row.nilE _ _) ?_
 refine aG ?_
 refine aC T1 [] [] fun _ h0=>?_
 refine ev_stop (go_loopR [3,4,7,8,9,10,11,12,13,14,15,16,17] (fun (f,C,q,e,_)=>[(3,.va (.int .u64 (f:Nat))),(4,vL C q e)]) (fun (_,C,q,e,M)=>[(0,.fact (Row 5 1 C q e (M.flatMap encC)))]) (fun (f,_,q,_,M)=>f<18446744073709551616∧q=M.length∧q≤100∧M++putL f=putL F) (fun (f,_,_,_,_)=>f) ((F,none,0,0,[]):Nat × Option Addr × Nat × Nat × List UInt8) ⟨hF,rfl,by decide,rfl⟩ aS (fun x_ h_=>?_))
 obtain ⟨f,C,q,e,M⟩:=x_
 obtain ⟨hf,hq,hq2,hM⟩:=h_
 obtain ⟨x,hx⟩:∃ x,x=UInt8.ofNat f:=⟨_,rfl⟩
 obtain ⟨y,hy⟩:∃ y,y=UInt8.ofNat (f % 128+128):=⟨_,rfl⟩
 have v1:=b_byte f
 have v2:=b_digit f
 have v3:=b_div128 hf
 have hm:((f:Nat):Int).tmod 128=((f % 128:Nat):Int):=rfl
 rw [←hx] at v1
 rw [←hy] at v2
 rcases Nat.lt_or_ge f 128 with h128 | h128
 · rw [putL_small h128,←hx] at hM
   refine aG ?_
   refine aI ?_ (decide_eq_false (show ¬(↑f:Int) ≥ 128 from (by omega)))
   refine ev_fin (go Tryz.tbs_ok 1000 ?_)
   refine ev_wrap (z:=(↑x.toNat:Int)) v1 ?_
   refine ev_new fun b10=>?_
   refine ev_stop (go_appendE (sz:=1) (M:=[_]) (enc:=encC) Tryz.tbs_ok [0] [] (.inr 1) (M) ([x]) ((M)++([x])) (q+1) rfl rfl rfl rfl rfl rfl rfl (by decide) rfl (by decide) (fun _ p=>starH_one.1 p) rfl (fun _ p=>Pt.rd p rfl) (by first | rfl | simp) (by first | rfl | omega) (aM (q+1)) (aN (q+1)) (fun _ _=>aL) (fun A11 c12 h13=>?_))
   refine aG ?_
   refine ev_stop (go_stringOf Tryz.tbs_ok (M++[x]) (.inr 0) rfl rfl rfl rfl rfl rfl rfl (by first | rfl | omega | (simp;omega)) (fun _ h=>Row.rd h) ?_)
   refine aG ?_
   refine ev_fin ⟨trivial,_,rfl,(()),?_,(by trivial),Frm.nil _⟩
   rw [←hM]
   rfl
 rw [putL_great h128,←hy] at hM
 have hl:q+1≤100:=by
  have:=putL_len 9 F (by omega)
  rw [←hM] at this
  simp only [List.length_append,List.length_cons] at this
  omega
 refine aG ?_
 refine aJ ?_ (decide_eq_true (show (↑f:Int) ≥ 128 from (by omega)))
 refine ev_wu64 (show 0≤(↑f:Int).tmod 128+128∧(↑f:Int).tmod 128+128<18446744073709551616 from (by constructor<;>omega)) ?_
 refine ev_wrap (z:=(↑y.toNat:Int)) v2 ?_
 refine ev_new fun b10=>?_
 refine ev_stop (go_appendE (sz:=1) (M:=[_]) (enc:=encC) Tryz.tbs_ok [0] [] (.inr 1) (M) ([y]) ((M)++([y])) (q+1) rfl rfl rfl rfl rfl rfl rfl (by decide) rfl (by decide) (fun _ p=>starH_one.1 p) rfl (fun _ p=>Pt.rd p rfl) (by first | rfl | simp) (by first | rfl | omega) (aM (q+1)) (aN (q+1)) (fun _ _=>aL) (fun A11 c12 h13=>?_))
 refine aG ?_
 refine ev_wrap (z:=(↑(f / 128):Int)) v3 ?_
 refine ev_fin (round_next ((f / 128,A11,q+1,c12,M++[y])) (?_:f / 128<18446744073709551616∧q+1=(M++[y]).length∧q+1≤100∧M++[y]++putL (f / 128)=putL F) (show f / 128<f from (by omega)) aS)
 exact ⟨by omega,by rw [hq];simp,hl,by rw [List.append_assoc];exact hM⟩
theorem run_take:∀ {l:List UInt8} {j:Nat},(∀ x∈l.take j,128≤x.toNat)→(hj:j<l.length)→¬ 128≤l[j].toNat→runL l=j
 |
  c::r,0,_,hj,h=>by
  show (if 128≤c.toNat then _ else 0)=0
  rw [if_neg (show ¬ 128≤c.toNat from h)]
 |
  c::r,j+1,h0,hj,h=>by
  show (if 128≤c.toNat then runL r+1 else 0)=j+1
  rw [if_pos (h0 c (by simp)),run_take (l:=r) (j:=j) (fun x hx=>h0 x (by rw [List.take_succ_cons];exact List.mem_cons_of_mem _ hx)) (by simpa using hj) h]
theorem run_full:∀ {l:List UInt8},(∀ x∈l,128≤x.toNat)→runL l=l.length
 | [],_=>rfl
 |
  c::r,h=>by
  show (if 128≤c.toNat then runL r+1 else 0)=r.length+1
  rw [if_pos (h c List.mem_cons_self),run_full fun x hx=>h x (List.mem_cons_of_mem _ hx)]
theorem b_mul128 (f:Nat):IntKind.u64.wrap ((f:Int)*128)=((f*128 % 18446744073709551616:Nat):Int):=by
 have h:IntKind.u64.wrap ((f:Int)*128)=((f:Int)*128) % 18446744073709551616:=rfl
 rw [h]
 omega
theorem b_add128 (f n:Nat):IntKind.u64.wrap ((f:Int)+((n:Nat):Int).tmod 128)=(((f+n % 128) % 18446744073709551616:Nat):Int):=by
 have h:IntKind.u64.wrap ((f:Int)+((n:Nat):Int).tmod 128)=((f:Int)+((n:Nat):Int).tmod 128) % 18446744073709551616:=rfl
 rw [h,show ((n:Nat):Int).tmod 128=((n % 128:Nat):Int) from rfl]
 omega
theorem b_div2 {n:Nat} (h:n<18446744073709551616):IntKind.u64.wrap ((n:Int).tdiv 2)=((n / 2:Nat):Int):=b_div64 h
theorem val_step {l:List UInt8} {r d:Nat} (hd:d<r) (hr:r≤l.length):valL ((l.take r).drop d)=(l[d]'(by omega)).toNat % 128+128*valL ((l.take r).drop (d+1)):=by
 have h1:d<(l.take r).length:=by rw [List.length_take];omega
 rw [List.drop_eq_getElem_cons h1]
 show _ % 128+128*valL ((l.take r).drop (d+1))=_
 rw [List.getElem_take]
set_option maxHeartbeats 1000000 in
theorem rGet (s:ByteArray) (a:Nat) (hs:s.size≤1000000000) (ha:a≤s.size):Triple Tryz.prog 153 [.string s,.int .i64 (a:Int)] [] [] Unit (fun _=>.tuple #[.int .i64 (getM s.data.toList a).1,.int .i64 ((getM s.data.toList a).2.1:Nat),.bool (getM s.data.toList a).2.2]) (fun _=>True) (fun _=>[]):=by
 have hsz:=size_data s
 obtain ⟨l,hl⟩:∃ l,l=s.data.toList.drop a:=⟨_,rfl⟩
 have hll:l.length=s.size-a:=by rw [hl,List.length_drop,hsz]
 have hat:∀ e (h1:a≤e) (h2:e<s.size),s[e]=l[e-a]'(by omega):=fun e h1 h2=>by
  simp only [hl,List.getElem_drop]
  show s.data.toList[e]'(by omega)=_
  congr 1
  omega
 refine aT Tryz.func153 [.va (.string s),vI (a:Int)] [] (fun E=>?_) ⟨trivial,trivial,trivial⟩
 rcases Nat.lt_or_ge a s.size with has | has
 · refine aG (aI ?_)
   refine aI ?_ (decide_eq_false (show ¬(↑a:Int) ≥ (↑s.size:Int) from (by omega)))
   refine ev_stop (go_loopR [7,20,21,22,23,24,25,26,27,28,29,30,31] (fun e=>[(7,vI (e:Nat))]) (fun _=>[]) (fun e=>a≤e∧e≤s.size∧∀ x∈l.take (e-a),128≤x.toNat) (fun e=>s.size-e) (a:Nat) ⟨Nat.le_refl _,ha,by simp⟩ aS (fun e h_=>?_))
   obtain ⟨h1,h2,h3⟩:=h_
   rcases Nat.lt_or_ge e s.size with he | he
   · by_cases h128:128≤s[e].toNat
     · refine aG ?_
       refine aJ ?_ (decide_eq_true (show (↑e:Int)<(↑s.size:Int) from (by omega)))
       refine ev_stop (go_byte Tryz.tbs_ok (e) rfl rfl rfl rfl rfl rfl (by omega) ?_)
       refine aG ?_
       refine aJ ?_ (decide_eq_true (show (↑s[e].toNat:Int) ≥ 128 from (by omega)))
       refine wN (e+1) ?_
       refine ev_fin (round_next (e+1) (?_:a≤e+1∧e+1≤s.size∧∀ (x:UInt8),x∈List.take (e+1-a) l→128≤x.toNat) (show s.size-(e+1)<s.size-e from (by omega)) aS)
       exact ⟨by omega,by omega,fun x hx=>by
        rw [show e+1-a=e-a+1 by omega,List.take_succ_eq_append_getElem (by omega)] at hx
        rcases List.mem_append.1 hx with hx | hx
        · exact h3 x hx
        rw [List.mem_singleton.1 hx,←hat e h1 he];exact h128⟩
     have hr:runL l=e-a:=run_take h3 (by omega) (by rw [←hat e h1 he];exact h128)
     rcases Nat.lt_or_ge 9 (e-a) with h9 | h9
     · have hn:getM s.data.toList a=(0,0,false):=getM_none (by rw [←hl];exact get_none (.inr (by omega)))
       rw [hn]
       refine aG ?_
       refine aJ ?_ (decide_eq_true (show (↑e:Int)<(↑s.size:Int) from (by omega)))
       refine ev_stop (go_byte Tryz.tbs_ok (e) rfl rfl rfl rfl rfl rfl (by omega) ?_)
       refine aG ?_
       refine aI ?_ (decide_eq_false (show ¬(↑s[e].toNat:Int) ≥ 128 from (by omega)))
       refine ev_fin (go Tryz.tbs_ok 1000 ?_)
       refine aI ?_ (beq_eq_false_iff_ne.2 (show ¬(↑e:Int)=(↑s.size:Int) from (by omega)))
       refine wO (e-a) ?_
       refine aJ ?_ (decide_eq_true (show (↑(e-a):Int) > 9 from (by omega)))
       refine ev_fin ⟨trivial,_,rfl,(()),rfl,(by trivial),Frm.nil _⟩
     refine aG ?_
     refine aJ ?_ (decide_eq_true (show (↑e:Int)<(↑s.size:Int) from (by omega)))
     refine ev_stop (go_byte Tryz.tbs_ok (e) rfl rfl rfl rfl rfl rfl (by omega) ?_)
     refine aG ?_
     refine aI ?_ (decide_eq_false (show ¬(↑s[e].toNat:Int) ≥ 128 from (by omega)))
     refine ev_fin (go Tryz.tbs_ok 1000 ?_)
     refine aI ?_ (beq_eq_false_iff_ne.2 (show ¬(↑e:Int)=(↑s.size:Int) from (by omega)))
     refine wO (e-a) ?_
     refine aI ?_ (decide_eq_false (show ¬(↑(e-a):Int) > 9 from (by omega)))
     refine ev_stop (go_slot 9 _ (vI (((e+1:Nat):Int)-1)) rfl rfl (congrArg (Value.int .i64) (by omega)) (fun _=>trivial) ?_)
     refine aG ?_
     refine ev_stop (go_loopR [8,9,43,44,45,46,47,48,49,50,51,52,53,54,55] (fun (m,f)=>[(8,.va (.int .u64 (f:Nat))),(9,vI (((m:Nat):Int)-1))]) (fun _=>[]) (fun (m,f)=>a≤m∧m≤e+1∧f=valL ((l.take (e-a+1)).drop (m-a)) % 18446744073709551616) (fun (m,_)=>m) ((e+1,0):Nat × Nat) ⟨by omega,Nat.le_refl _,by rw [List.drop_of_length_le (by rw [List.length_take];omega)];rfl⟩ aS (fun x_ h_=>?_))
     obtain ⟨m,f⟩:=x_
     obtain ⟨hm,hm2,hf⟩:=h_
     have hf2:f<18446744073709551616:=by rw [hf];exact Nat.mod_lt _ (by decide)
     rcases Nat.lt_or_ge a m with hm3 | hm3
     · obtain ⟨j,rfl⟩:∃ j,m=j+1:=⟨m-1,by omega⟩
       have hjs:j<s.size:=by omega
       have hv:=val_step (l:=l) (r:=e-a+1) (d:=j-a) (by omega) (by omega)
       rw [←hat j (by omega) hjs,show j-a+1=j+1-a by omega] at hv
       have v1:=b_mul128 f
       have v2:=b_add128 (f*128 % 18446744073709551616) s[j].toNat
       refine go_slot 9 _ (vI (j:Nat)) rfl rfl (congrArg (Value.int .i64) (by omega)) (fun _=>trivial) ?_
       refine aG ?_
       refine aJ ?_ (decide_eq_true (show (↑j:Int) ≥ (↑a:Int) from (by omega)))
       refine ev_wrap (z:=(↑(f*128 % 18446744073709551616):Int)) v1 ?_
       refine ev_stop (go_byte Tryz.tbs_ok (j) rfl rfl rfl rfl rfl rfl (by omega) ?_)
       refine aG ?_
       refine ev_mu64 ?_
       refine ev_mu64 ?_
       refine w6 ?_
       refine ev_fin (round_next ((j,(f*128 % 18446744073709551616+s[j].toNat % 128 % Int.natAbs 18446744073709551616) % Int.natAbs 18446744073709551616)) (?_:a≤j∧j≤e+1∧(f*128 % 18446744073709551616+s[j].toNat % 128 % Int.natAbs 18446744073709551616) % Int.natAbs 18446744073709551616=valL (List.drop (j-a) (List.take (e-a+1) l)) % 18446744073709551616) (show j<j+1 from (by omega)) aS)
       have hna:Int.natAbs 18446744073709551616=18446744073709551616:=rfl
       rw [hna]
       refine ⟨by omega,by omega,?_⟩
       rw [hv]
       omega
     obtain rfl:m=a:=by omega
     rw [Nat.sub_self,List.drop_zero] at hf
     have hg:=get_def (l:=l) (F:=f) (by omega) (by omega) (by rw [hr];exact hf)
     rw [hr] at hg
     have T1:=rPutM f hf2
     have hm4:((f:Nat):Int).tmod 2=((f % 2:Nat):Int):=rfl
     have hd:=b_div2 hf2
     have hx:(s.extract m (e+1)).data.toList=l.take (e-m+1):=by rw [ext_l,List.drop_take,←hl,show e+1-m=e-m+1 by omega]
     have hno:¬ (⟨(putL f).toArray⟩:ByteArray)=s.extract m (e+1)→getM s.data.toList m=(0,0,false):=fun q=>getM_none (by rw [←hl,hg,if_neg fun q2=>q (ba_eq (q2.trans hx.symm))])
     have hyes:(⟨(putL f).toArray⟩:ByteArray)=s.extract m (e+1)→getM s.data.toList m=(zigM f,e+1,true):=fun q=>by
      rw [getM_some (F:=f) (k:=e-m+1) (by rw [←hl,hg,if_pos ((congrArg (fun b:ByteArray=>b.data.toList) q).trans hx)]),show m+(e-m+1)=e+1 by omega]
     by_cases h2:f % 2=1
     · rw [zig_odd h2,show -((f / 2:Nat):Int)-1=0-((f / 2:Nat):Int)-1 by omega] at T1
       refine aG ?_
       refine aI ?_ (decide_eq_false (show ¬(↑m:Int)-1 ≥ (↑m:Int) from (by omega)))
       refine ev_fin (go Tryz.tbs_ok 1000 ?_)
       refine ev_wrap (z:=(↑(f / 2):Int)) hd ?_
       refine wN (f / 2) ?_
       refine aJ ?_ (beq_iff_eq.2 (show (↑f:Int).tmod 2=1 from (by omega)))
       refine w6 ?_
       refine w6 ?_
       refine ev_stop (go_draw Tryz.tbs_ok true [] [(0,true),(2,true),(3,true),(4,true),(5,true),(6,true),(1,false),(7,false)] rfl ?_)
       refine aG (aE ?_)
       refine wN (e+1) ?_
       refine ev_stop (tk_sliceS Tryz.tbs_ok (m) (e+1) aB rfl rfl rfl rfl rfl ⟨_,rfl⟩ ⟨_,rfl⟩ (by omega) (by omega) ?_)
       refine aG (aE ?_)
       refine aC T1 [] [] fun _ h10=>?_
       refine aE (aE ?_)
       refine ev_if_nd (fun h11=>?_) (fun h11=>?_)
       refine aG ?_
       refine ev_fin ⟨trivial,_,rfl,(()),?_,(by trivial),Frm.nil _⟩
       rotate_left
       refine aG ?_
       refine wN (e+1) ?_
       refine ev_fin ⟨trivial,_,rfl,(()),?_,(by trivial),Frm.nil _⟩
       rotate_left
       · rw [hno h11]
         rfl
       rw [hyes h11,zig_odd h2,show -((f / 2:Nat):Int)-1=0-((f / 2:Nat):Int)-1 by omega]
       rfl
     rw [zig_even h2] at T1
     refine aG ?_
     refine aI ?_ (decide_eq_false (show ¬(↑m:Int)-1 ≥ (↑m:Int) from (by omega)))
     refine ev_fin (go Tryz.tbs_ok 1000 ?_)
     refine ev_wrap (z:=(↑(f / 2):Int)) hd ?_
     refine wN (f / 2) ?_
     refine aI ?_ (beq_eq_false_iff_ne.2 (show ¬(↑f:Int).tmod 2=1 from (by omega)))
     refine ev_stop (go_draw Tryz.tbs_ok true [] [(0,true),(2,true),(3,true),(4,true),(5,true),(6,true),(1,false),(7,false)] rfl ?_)
     refine aG (aE ?_)
     refine wN (e+1) ?_
     refine ev_stop (tk_sliceS Tryz.tbs_ok (m) (e+1) aB rfl rfl rfl rfl rfl ⟨_,rfl⟩ ⟨_,rfl⟩ (by omega) (by omega) ?_)
     refine aG (aE ?_)
     refine aC T1 [] [] fun _ h10=>?_
     refine aE (aE ?_)
     refine ev_if_nd (fun h11=>?_) (fun h11=>?_)
     refine aG ?_
     refine ev_fin ⟨trivial,_,rfl,(()),?_,(by trivial),Frm.nil _⟩
     rotate_left
     refine aG ?_
     refine wN (e+1) ?_
     refine ev_fin ⟨trivial,_,rfl,(()),?_,(by trivial),Frm.nil _⟩
     rotate_left
     · rw [hno h11]
       rfl
     rw [hyes h11,zig_even h2]
     rfl
   obtain rfl:e=s.size:=by omega
   have hn:getM s.data.toList a=(0,0,false):=getM_none (by
    rw [←hl]
    refine get_none (.inl (run_full fun x hx=>h3 x ?_))
    rwa [List.take_of_length_le (by omega)])
   rw [hn]
   refine aG ?_
   refine aI ?_ (decide_eq_false (show ¬(↑s.size:Int)<(↑s.size:Int) from (by omega)))
   refine ev_fin (go Tryz.tbs_ok 1000 ?_)
   refine aJ ?_ (beq_iff_eq.2 (show (↑s.size:Int)=(↑s.size:Int) from (by omega)))
   refine ev_fin ⟨trivial,_,rfl,(()),rfl,(by trivial),Frm.nil _⟩
 have hn:getM s.data.toList a=(0,0,false):=getM_none (by rw [←hl,List.eq_nil_of_length_eq_zero (by omega:l.length=0)];rfl)
 rw [hn]
 refine aG (aI ?_)
 refine aJ ?_ (decide_eq_true (show (↑a:Int) ≥ (↑s.size:Int) from (by omega)))
 refine ev_fin ⟨trivial,_,rfl,(()),rfl,(by trivial),Frm.nil _⟩
end Go.Proofs.YtjlfdfmkofbccaaGreatDoor
namespace Go.Sy
open Go.RowKit
section
variable {P:Program} {T:Tbs} {E:Entry} {Q:Exit→St→Prop} {ops:Array Oper} {l:List Oper} {r:List It} {st:St}
theorem go_neqSame (hT:TbsOk P T) {dst:Option Tmp} {t yt e:TypeId} {x y:Operand} {ty:TypeId} {pos:String} {after:Array Edge} {gd:Option (Nat × Bool)} {A:Addr}
 (hg:guardS ops st.fr ⟨dst,.binOp .neq t x y yt,ty,pos,after,gd⟩ = .run)
 (hx:(ev st.fr x).den = .pointer (some A)) (hxno:(ev st.fr x).isNo=false) (hy:(ev st.fr y).den = .pointer (some A)) (hyno:(ev st.fr y).isNo=false)
 (ht:(te T.tab t).map (·.k)=some (.ptr e)) (he:(P.info? e).isSome=true)
 (h:Go P E (.o ops l::r) (st.put dst (.bl false)) Q):Go P E (.o ops (⟨dst,.binOp .neq t x y yt,ty,pos,after,gd⟩::l)::r) st Q :=
 go_val (o:=⟨dst,.binOp .neq t x y yt,ty,pos,after,gd⟩) hg (.bl false) trivial (fun a w hR=>by
  obtain ⟨j,hj⟩:=Option.isSome_iff_exists.1 he
  have hu:P.underlying t=some (.pointer e):=by
   obtain ⟨u,hu,hk⟩:=tk_of hT ht
   cases u<;>simp [tkOf] at hk
   subst hk
   exact hu
  have hrun:=Lib.run_neq_ptr_same (P:=P) w A hu hj
  simp [execOp,ev_denv hR.fr rfl hxno,ev_denv hR.fr rfl hyno,hx,hy,eqGuard,hrun,SV.den]) h
theorem go_dataN {dst:Option Tmp} {x:Operand} {t ty:TypeId} {pos:String} {after:Array Edge} {gd:Option (Nat × Bool)} {n c:Nat}
 (hg:guardS ops st.fr ⟨dst,.call { callee:=.builtin .unsafeSliceData,args := #[x],argTypes := #[t] },ty,pos,after,gd⟩ = .run)
 (hx:(ev st.fr x).den = .slice none n c) (hxno:(ev st.fr x).isNo=false)
 (h:Go P E (.o ops l::r) (st.put dst (.va (.pointer none))) Q):Go P E (.o ops (⟨dst,.call { callee:=.builtin .unsafeSliceData,args := #[x],argTypes := #[t] },ty,pos,after,gd⟩::l)::r) st Q :=
 go_val (o:=⟨dst,.call { callee:=.builtin .unsafeSliceData,args := #[x],argTypes := #[t] },ty,pos,after,gd⟩) hg (.va (.pointer none)) trivial (fun a w hR=>by
  have hrun:=Lib.run_unsafeSliceData_nil (P:=P) w #[t] ty n c
  simp [execOp,resolve,invoke,builtin,ev_denv hR.fr rfl hxno,hx,hrun,SV.den]) h
theorem go_dataS {dst:Option Tmp} {x:Operand} {t ty:TypeId} {pos:String} {after:Array Edge} {gd:Option (Nat × Bool)} {A:Addr} {n c:Nat}
 (hg:guardS ops st.fr ⟨dst,.call { callee:=.builtin .unsafeSliceData,args := #[x],argTypes := #[t] },ty,pos,after,gd⟩ = .run)
 (hx:(ev st.fr x).den = .slice (some A) n c) (hxno:(ev st.fr x).isNo=false) (hc:c≠0)
 (h:Go P E (.o ops l::r) (st.put dst (.va (.pointer (some A)))) Q):Go P E (.o ops (⟨dst,.call { callee:=.builtin .unsafeSliceData,args := #[x],argTypes := #[t] },ty,pos,after,gd⟩::l)::r) st Q :=
 go_val (o:=⟨dst,.call { callee:=.builtin .unsafeSliceData,args := #[x],argTypes := #[t] },ty,pos,after,gd⟩) hg (.va (.pointer (some A))) trivial (fun a w hR=>by
  have hrun:=Lib.run_unsafeSliceData_row (P:=P) w #[t] ty A n c hc
  simp [execOp,resolve,invoke,builtin,ev_denv hR.fr rfl hxno,hx,hrun,SV.den]) h
theorem go_unsafeN {dst:Option Tmp} {x y:Operand} {pt it ty:TypeId} {pos:String} {after:Array Edge} {gd:Option (Nat × Bool)} {A:Option Addr}
 (hg:guardS ops st.fr ⟨dst,.call { callee:=.builtin .unsafeString,args := #[x,y],argTypes := #[pt,it] },ty,pos,after,gd⟩ = .run)
 (hx:(ev st.fr x).den = .pointer A) (hxno:(ev st.fr x).isNo=false) (hy:(ev st.fr y).den = .int .i64 0) (hyno:(ev st.fr y).isNo=false)
 (h:Go P E (.o ops l::r) (st.put dst (.va (.string .empty))) Q):Go P E (.o ops (⟨dst,.call { callee:=.builtin .unsafeString,args := #[x,y],argTypes := #[pt,it] },ty,pos,after,gd⟩::l)::r) st Q :=
 go_val (o:=⟨dst,.call { callee:=.builtin .unsafeString,args := #[x,y],argTypes := #[pt,it] },ty,pos,after,gd⟩) hg (.va (.string .empty)) trivial (fun a w hR=>by
  have hrun:=Lib.run_unsafeString_none (P:=P) w pt it ty A
  simp [execOp,resolve,invoke,builtin,ev_denv hR.fr rfl hxno,ev_denv hR.fr rfl hyno,hx,hy,hrun,SV.den]) h
theorem go_unsafeS (hT:TbsOk P T) {dst:Option Tmp} {x y:Operand} {pt it ty et:TypeId} {pos:String} {after:Array Edge} {gd:Option (Nat × Bool)} {g n c:Nat} {bs:List UInt8} (i:Nat)
 (hg:guardS ops st.fr ⟨dst,.call { callee:=.builtin .unsafeString,args := #[x,y],argTypes := #[pt,it] },ty,pos,after,gd⟩ = .run)
 (hx:(ev st.fr x).den = .pointer (some ⟨g,0,none⟩)) (hxno:(ev st.fr x).isNo=false) (hy:(ev st.fr y).den = .int .i64 (n:Int)) (hyno:(ev st.fr y).isNo=false)
 (ht:(te T.tab pt).map (·.k)=some (.ptr et)) (hsz:(te T.tab et).map (·.size)=some 1)
 (hi:st.res[i]? = some (.fact (Row et 1 (some ⟨g,0,none⟩) n c (bs.flatMap encC)))) (hn:n=bs.length) (h0:0<n) (hmax:n≤1000000000)
 (h:Go P E (.o ops l::r) (St.put ⟨st.fr,st.res.set i (.fact (Rd 1 (some ⟨g,0,none⟩) n (bs.flatMap encC))),st.ro⟩ dst (.va (.string ⟨bs.toArray⟩))) Q) :
 Go P E (.o ops (⟨dst,.call { callee:=.builtin .unsafeString,args := #[x,y],argTypes := #[pt,it] },ty,pos,after,gd⟩::l)::r) st Q:=by
 refine Go.step fun a w hR=>⟨by have:=guard_spec hR.fr (ops:=ops) ⟨dst,.call { callee:=.builtin .unsafeString,args := #[x,y],argTypes := #[pt,it] },ty,pos,after,gd⟩;rw [hg] at this;exact this,?_⟩
 obtain ⟨hs',hi',hres⟩:=hR.res
 have hil:=(List.getElem?_eq_some_iff.1 hi).1
 have hsel:[i].map (asnAt st.res)=[Row et 1 (some ⟨g,0,none⟩) n c (bs.flatMap encC)].map some:=by simp [asnAt_fact hi]
 have hrow:(Row et 1 (some ⟨g,0,none⟩) n c (bs.flatMap encC)).holds (selH w hs' [i]):=starH_one.1 (selH_star hres.le hres.dis hres.holds hsel (by simp))
 obtain ⟨g',cur,q1,hgc,hnc,hcm,hcs,htake⟩:∃ g' cur,(some ⟨g,0,none⟩:Option Addr)=some ⟨g',0,none⟩∧selH w hs' [i] g'=some (.cells cur et (0,0))∧n≤c∧c≤maxLen∧cur.size=c*1∧cur.toList.take (n*1)=bs.flatMap encC:=by
  rcases hrow.2.2 with ⟨q,_⟩ | q
  · cases q
  exact q
 cases q1
 have hw:w.heap[g]? = some (.cells cur et (0,0)):=selH_le _ _ _ g _ hgc
 obtain ⟨fz,hfz⟩:=freeze_cells hw n
 obtain ⟨s1,s2,s3,s4⟩:=freeze_same w g n
 have hrun:=Lib.run_unsafeString_row (P:=P) w pt it ty et (by
  obtain ⟨u,hu,hk⟩:=tk_of hT ht
  cases u<;>simp [tkOf] at hk
  subst hk
  exact hu) (by
  cases hq:te T.tab et with
  | none=>rw [hq] at hsz;cases hsz
  |
   some e =>
   rw [hq] at hsz
   simp only [Option.map_some,Option.some.injEq] at hsz
   obtain ⟨i2,u,z,hi2,_,_,_,hs2,_⟩:=te_spec hT.tab hq
   simp [Program.cellsOf,hi2,←hs2,hsz]) g cur.size (by simp [World.shape?,hw]) bs (fun e=>by rw [e] at hn;simp at hn;omega) (by rw [←hn,hcs];omega) (by omega) (fun j v hj=>by
  have hjl:=(List.getElem?_eq_some_iff.1 hj).1
  rw [addr_add,cell_of_row w g _ _ et (0,0) hw]
  have h5:(cur.toList.take (n*1))[j]? = (bs.flatMap encC)[j]? := by rw [htake]
  rw [encC_flat,List.getElem?_map,hj,List.getElem?_take,if_pos (by omega)] at h5
  simpa using h5)
 rw [←hn] at hrun
 have hnew:∀ b,(Hp.one g (.cells cur et fz)) b≠none→selH w hs' [i] b≠none∨w.heap.size≤b:=fun b hb=>by
  by_cases hbg:b=g
  · subst hbg
    rw [hgc]
    exact .inl (by simp)
  exact absurd (by simp [Hp.one,hbg]) hb
 have hext:Ext (selH w hs' [i]) w (w.freeze ⟨g,0,none⟩ n):=⟨s1,s2,s3,by rw [s4];exact Nat.le_refl _,fun b hb hnn=>freeze_other n b (fun e=>by
  subst e
  rw [hgc] at hnn
  cases hnn)⟩
 have hrd:(Rd 1 (some ⟨g,0,none⟩) n (bs.flatMap encC)).holds (Hp.one g (.cells cur et fz)):=by
  have hr:=Row.rd hrow
  exact ⟨hr.1,hr.2.1,fun _=>⟨g,0,cur,et,fz,rfl,by simp [Hp.one],by rw [List.drop_zero];exact htake⟩⟩
 have hplace:=place_ok hres [i] (selH w hs' [i]) selH_C [.fact (Rd 1 (some ⟨g,0,none⟩) n (bs.flatMap encC))] (Hp.one g (.cells cur et fz)) (starH_one.2 hrd) (fun b o hb=>by
  by_cases hbg:b=g
  · subst hbg
    simp [Hp.one] at hb
    subst hb
    exact hfz
  simp [Hp.one,hbg] at hb) hext hnew (newsOk_fact (newsOk_nil _)) (by rw [place_one hil];exact blkLe_set _ hi)
 rw [place_one hil] at hplace
 obtain ⟨hs2',hres'⟩:=hplace
 refine wp_value (v:=.string ⟨bs.toArray⟩) (w':=w.freeze ⟨g,0,none⟩ n) ?_ (h _ _ ?_)
 · simp [execOp,resolve,invoke,builtin,ev_denv hR.fr rfl hxno,ev_denv hR.fr rfl hyno,hx,hy,hrun]
 have hR':R E ⟨st.fr,st.res.set i (.fact (Rd 1 (some ⟨g,0,none⟩) n (bs.flatMap encC))),st.ro⟩ a (w.freeze ⟨g,0,none⟩ n):=⟨hR.fr.mono (blkLe_spec (blkLe_set _ hi)),hs2',hi',hres'⟩
 exact hR'.put dst (x:=.va (.string ⟨bs.toArray⟩)) rfl trivial
end
end Go.Sy
namespace Go.Proofs.YtjlfdfmkofbccaaGreatDoor
open Go.Sy Go.RowKit
def ptB (p:Nat) (q A:Option Addr) (n c:Nat):Asn:=Pt p 128 [.pointer q,.slice A n c]
theorem copyN (p:Nat) (A:Option Addr) (n c:Nat):Triple Tryz.prog 133 [pP p] [ptB p none A n c] [] Unit (fun _=>.tuple #[]) (fun _=>True) (fun _=>[ptB p (some ⟨p,0,none⟩) A n c]):=by
 refine aT Tryz.func133 [.pt 0 p 0] [.box p 128 [.va (.pointer none),vL A n c]] (fun E=>?_) ⟨rfl,trivial⟩
 refine aG ?_
 refine ev_stop (go_toUnsafe (t:=128) rfl rfl (by kernel_rfl) (by kernel_rfl) (by kernel_rfl) rfl (Nat.zero_lt_succ _) ?_)
 refine go_ext (e:=Extern.AbiNoEscape.same) Tryz.func148 rfl rfl rfl rfl rfl (.pt 0 p 0) rfl (fun a w hR=>by
  rw [show Array.map a.eval #[Operand.tmp 9] = #[a.eval (.tmp 9)] from by simp,ev_denv hR.fr rfl rfl]
  rfl) ?_
 refine go_fromUnsafe (u:=128) rfl rfl (by kernel_rfl) (by kernel_rfl) (by kernel_rfl) rfl (by kernel_rfl) ?_
 refine aG ?_
 exact ev_fin ⟨trivial,_,rfl,(),rfl,trivial,aF [0]⟩
theorem copyS (p:Nat) (A:Option Addr) (n c:Nat):Triple Tryz.prog 133 [pP p] [ptB p (some ⟨p,0,none⟩) A n c] [] Unit (fun _=>.tuple #[]) (fun _=>True) (fun _=>[ptB p (some ⟨p,0,none⟩) A n c]):=by
 refine aT Tryz.func133 [.pt 0 p 0] [.box p 128 [.pt 0 p 0,vL A n c]] (fun E=>?_) ⟨rfl,trivial⟩
 refine aG ?_
 refine ev_stop (go_neqSame Tryz.tbs_ok rfl rfl rfl rfl rfl rfl (by kernel_rfl) ?_)
 refine aG ?_
 exact ev_fin ⟨trivial,_,rfl,(),rfl,trivial,aF [0]⟩
theorem copyT (p:Nat) (q A:Option Addr) (n c:Nat) (hq:q=none∨q=some ⟨p,0,none⟩):Triple Tryz.prog 133 [pP p] [ptB p q A n c] [] Unit (fun _=>.tuple #[]) (fun _=>True) (fun _=>[ptB p (some ⟨p,0,none⟩) A n c]):=by
 rcases hq with rfl | rfl
 · exact copyN p A n c
 exact copyS p A n c
theorem writeT (p:Nat) (q A:Option Addr) (n c:Nat) (L:List UInt8) (x:ByteArray) (hq:q=none∨q=some ⟨p,0,none⟩) (hn:n+x.size≤1000000000):Triple Tryz.prog 97 [pP p,.string x] [ptB p q A n c,Row 5 1 A n c (L.flatMap encC)] [] (Option Addr × Nat) (fun _=>.tuple #[.int .i64 (x.size:Nat),.nilIface]) (fun _=>True) (fun (A2,c2)=>[ptB p (some ⟨p,0,none⟩) A2 (n+x.size) c2,Row 5 1 A2 (n+x.size) c2 ((L++x.data.toList).flatMap encC)]):=by
 have T1:=copyT p q A n c hq
 unfold ptB at T1
 refine aT Tryz.func97 [.pt 0 p 0,.va (.string x)] [.box p 128 [.va (.pointer q),vL A n c],.fact (Row 5 1 A n c (L.flatMap encC))] (fun E=>?_) ⟨rfl,trivial,trivial⟩
 refine aG ?_
 refine aD T1 [0] [] (fun v0_=>[.box (p) 128 [vP p,vL A n c]]) fun _ h0=>?_
 refine ev_stop (go_appendS Tryz.tbs_ok (bs:=L) 1 rfl rfl rfl rfl rfl rfl rfl (by kernel_rfl) rfl (by omega) (fun A1 c2 h3=>?_))
 refine aG ?_
 exact ev_fin ⟨trivial,_,rfl,((A1,c2)),rfl,trivial,aF [0,1]⟩
theorem stringN (p:Nat) (q:Option Addr):Triple Tryz.prog 98 [pP p] [ptB p q none 0 0] [] Unit (fun _=>.string .empty) (fun _=>True) (fun _=>[]):=by
 refine aT Tryz.func98 [.pt 0 p 0] [.box p 128 [.va (.pointer q),vL none 0 0]] (fun E=>?_) ⟨rfl,trivial⟩
 refine aG ?_
 refine ev_stop (go_draw Tryz.tbs_ok false [0] [(0,true),(1,true),(2,true),(3,true),(5,true),(6,true),(7,true),(8,true),(9,true),(4,false),(10,false),(11,false)] rfl ?_)
 refine aG (aE ?_)
 refine ev_stop (go_dataN rfl rfl rfl ?_)
 refine aG (aE ?_)
 refine ev_stop (go_unsafeN rfl rfl rfl rfl rfl ?_)
 refine aG (aE (aK ?_))
 refine ev_fin ⟨trivial,_,rfl,(()),rfl,(by trivial),Frm.nil _⟩
theorem stringS (p g:Nat) (q:Option Addr) (n c:Nat) (L:List UInt8) (hn:n=L.length) (hn1:n≤1000000000) (h0:0<n) (hc:n≤c):Triple Tryz.prog 98 [pP p] [ptB p q (some ⟨g,0,none⟩) n c,Row 5 1 (some ⟨g,0,none⟩) n c (L.flatMap encC)] [] Unit (fun _=>.string (strL L)) (fun _=>True) (fun _=>[]):=by
 refine aT Tryz.func98 [.pt 0 p 0] [.box p 128 [.va (.pointer q),vL (some ⟨g,0,none⟩) n c],.fact (Row 5 1 (some ⟨g,0,none⟩) n c (L.flatMap encC))] (fun E=>?_) ⟨rfl,trivial⟩
 refine aG ?_
 refine ev_stop (go_draw Tryz.tbs_ok false [0] [(0,true),(1,true),(2,true),(3,true),(5,true),(6,true),(7,true),(8,true),(9,true),(4,false),(10,false),(11,false)] rfl ?_)
 refine aG (aE ?_)
 refine ev_stop (go_dataS rfl rfl rfl (by omega) ?_)
 refine aG (aE ?_)
 refine ev_stop (go_unsafeS Tryz.tbs_ok 1 rfl rfl rfl rfl rfl rfl rfl rfl hn h0 hn1 ?_)
 refine aG (aE (aK ?_))
 refine ev_fin ⟨trivial,_,rfl,(()),rfl,(by trivial),Frm.nil _⟩
def framedM (ps:List ByteArray):ByteArray × Int:=if ps.all (fun p=>decide (p.size≤8192)) then (strL (framesL ckL (ps.map fun p=>p.data.toList)),0) else (.empty,3)
theorem framesL_take {ps:List ByteArray} {i:Nat} (h:i<ps.length):framesL ckL ((ps.take (i+1)).map fun p=>p.data.toList)=framesL ckL ((ps.take i).map fun p=>p.data.toList)++frameL ckL ps[i].data.toList:=by
 rw [←List.take_append_getElem h,List.map_append,framesL_append]
 simp [framesL]
theorem frameL_size (p:List UInt8):(frameL ckL p).length≤p.length+20∨4611686018427387903<p.length:=by
 rcases Nat.lt_or_ge 4611686018427387903 p.length with h | h
 · exact .inr h
 left
 unfold frameL
 have:=putL_len 9 (2*p.length) (by omega)
 simp only [List.length_append,ckL_len]
 omega
set_option maxHeartbeats 1000000 in
theorem framedT (A:Option Addr) (ps:List ByteArray) (np cp:Nat) (hp:np=ps.length) (hp1:np≤10000) (hp2:∀ p∈ps,p.size≤900000000):Triple Tryz.prog 47 [.slice A np cp] [] [Rd 1 A np (ps.flatMap encS)] Unit (fun _=>.tuple #[.string (framedM ps).1,.int .i64 (framedM ps).2]) (fun _=>True) (fun _=>[]):=by
 obtain ⟨R,hR⟩:∃ R,R=framedM ps:=⟨_,rfl⟩
 rw [←hR]
 refine aT Tryz.func47 [vL A np cp] [] (fun E=>?_) ⟨trivial,trivial⟩
 refine go_fact (Row 5 1 none 0 0 (([]:List UInt8).flatMap encC)) (Row.nilE _ _) ?_
 refine aG ?_
 refine ev_new fun b0=>?_
 refine ev_stop (go_loopR [2,3,6,7,8,11,12,13,14,15,16,17,18,19,20,21,22,23,24,25] (fun (i,_)=>[(11,vI (i:Nat))]) (fun (_,q,C,n,c,L)=>[(0,.fact (Row 5 1 C n c (L.flatMap encC))),(1,.box b0 128 [.va (.pointer q),vL C n c])]) (fun (i,q,C,n,c,L)=>i≤np∧(q=none∨q=some ⟨b0,0,none⟩)∧(ps.take i).all (fun p=>decide (p.size≤8192))=true∧L=framesL ckL ((ps.take i).map fun p=>p.data.toList)∧n=L.length∧n≤i*10000∧(i=0→C=none∧n=0∧c=0)∧(0<i→0<n)) (fun (i,_)=>np-i) ((0,none,none,0,0,[]):Nat × Option Addr × Option Addr × Nat × Nat × List UInt8) ⟨Nat.zero_le _,.inl rfl,rfl,rfl,rfl,Nat.le_refl _,fun _=>⟨rfl,rfl,rfl⟩,fun h=>absurd h (by decide)⟩ aS (fun x_ h_=>?_))
 obtain ⟨i,q,C,n,c,L⟩:=x_
 obtain ⟨hi,hq,hok,hL,hn,hn2,hz,hz2⟩:=h_
 rcases Nat.lt_or_ge i np with hinp | hinp
 · have hil:i<ps.length:=by omega
   have T1:=frameT ps[i] (hp2 _ (List.getElem_mem hil))
   have hall:(ps.take (i+1)).all (fun p=>decide (p.size≤8192))=decide (ps[i].size≤8192):=by
    rw [←List.take_append_getElem hil,List.all_append,hok]
    simp
   by_cases hsz:ps[i].size≤8192
   · have hfr:frameM ps[i]=(frameB ps[i],0):=by unfold frameM;rw [if_pos hsz]
     rw [hfr] at T1
     dsimp only at T1
     have hf1:(frameB ps[i]).data.toList=frameL ckL ps[i].data.toList:=rfl
     have hf2:(frameB ps[i]).size≤8220∧5≤(frameB ps[i]).size:=by
      have e:(frameB ps[i]).size=(frameL ckL ps[i].data.toList).length:=strL_size _
      have h3:=frameL_size ps[i].data.toList
      have h4:=frameL_len ckL_len ps[i].data.toList
      rw [size_data] at h3
      omega
     obtain ⟨F,hF⟩:∃ F,F=frameB ps[i]:=⟨_,rfl⟩
     rw [←hF] at T1 hf1 hf2
     have T2:=writeT b0 q C n c L F hq (by omega)
     unfold ptB at T2
     have hLs:=framesL_take hil
     rw [←hf1,←hL] at hLs
     refine aG ?_
     refine aJ ?_ (decide_eq_true (show (↑i:Int)<(↑np:Int) from (by omega)))
     refine ev_stop (go_indexE (sz:=1) Tryz.tbs_ok (.inl 0) (i) rfl rfl rfl rfl rfl rfl (by omega) rfl (fun _ h=>h) (fun g20 o22 e21=>?_))
     subst e21
     refine aG ?_
     have l23:i<(ps).length:=(by omega)
     refine ev_stop (go_loadE Tryz.tbs_ok (.inl 0) (i) 0 rfl rfl rfl rfl (fun _ h=>h) (by omega) (fun _=>rfl) (by omega) l23 (by decide) ?_)
     refine aG ?_
     refine aC T1 [] [] fun _ h24=>?_
     refine aI ?_
     refine aD T2 [1,0] [] (fun (v0_,v1_)=>[.box (b0) 128 [vP b0,vL v0_ (n+F.size) v1_],.fact (Row 5 1 v0_ (n+F.size) v1_ (List.flatMap encC (L++F.data.toList)))]) fun ⟨x25,x26⟩ h27=>?_
     refine wN (i+1) ?_
     refine ev_fin (round_next ((i+1,some { block:=b0,off:=0:Addr },x25,n+F.size,x26,L++F.data.toList)) (?_:i+1≤np∧(some { block:=b0,off:=0:Addr }=none∨some { block:=b0,off:=0:Addr }=some { block:=b0,off:=0:Addr })∧((List.take (i+1) ps).all fun p ↦ decide (p.size≤8192))=true∧L++F.data.toList=framesL ckL (List.map (fun p ↦ p.data.toList) (List.take (i+1) ps))∧n+F.size=(L++F.data.toList).length∧n+F.size≤(i+1)*10000∧(i+1=0→x25=none∧n+F.size=0∧x26=0)∧(0<i+1→0<n+F.size)) (show np-(i+1)<np-i from (by omega)) aS)
     refine ⟨by omega,.inr rfl,by rw [hall];exact decide_eq_true hsz,hLs.symm,by rw [hn,List.length_append,size_data],by omega,fun h=>absurd h (by omega),fun _=>by omega⟩
   have hfr:frameM ps[i]=(.empty,3):=by unfold frameM;rw [if_neg hsz]
   rw [hfr] at T1
   dsimp only at T1
   have hRe:R=(.empty,3):=by
    rw [hR]
    unfold framedM
    rw [if_neg (fun h=>hsz (by
     have:=List.all_eq_true.1 h _ (List.getElem_mem hil)
     exact of_decide_eq_true this))]
   rw [hRe]
   refine aG ?_
   refine aJ ?_ (decide_eq_true (show (↑i:Int)<(↑np:Int) from (by omega)))
   refine ev_stop (go_indexE (sz:=1) Tryz.tbs_ok (.inl 0) (i) rfl rfl rfl rfl rfl rfl (by omega) rfl (fun _ h=>h) (fun g20 o22 e21=>?_))
   subst e21
   refine aG ?_
   have l23:i<(ps).length:=(by omega)
   refine ev_stop (go_loadE Tryz.tbs_ok (.inl 0) (i) 0 rfl rfl rfl rfl (fun _ h=>h) (by omega) (fun _=>rfl) (by omega) l23 (by decide) ?_)
   refine aG ?_
   refine aC T1 [] [] fun _ h24=>?_
   refine aJ ?_
   refine ev_fin ⟨trivial,_,rfl,(()),rfl,(by trivial),Frm.nil _⟩
 obtain rfl:i=np:=by omega
 rw [List.take_of_length_le (by omega)] at hok hL
 have hRe:R=(strL L,0):=by rw [hR];unfold framedM;rw [if_pos hok,hL]
 rw [hRe]
 rcases Nat.eq_zero_or_pos i with h0 | h0
 · obtain ⟨rfl,rfl,rfl⟩:=hz h0
   have hLn:L=[]:=List.eq_nil_of_length_eq_zero hn.symm
   subst hLn
   have T3:=stringN b0 q
   unfold ptB at T3
   refine aG ?_
   refine aI ?_ (decide_eq_false (show ¬(↑i:Int)<(↑i:Int) from (by omega)))
   refine ev_fin (go Tryz.tbs_ok 1000 ?_)
   refine aC T3 [1] [] fun _ h20=>?_
   refine ev_fin ⟨trivial,_,rfl,(()),rfl,(by trivial),Frm.nil _⟩
 have hn0:=hz2 h0
 refine go_know (.inr 0) (Row 5 1 C n c (L.flatMap encC)) rfl (p:=(∃ g,C=some ⟨g,0,none⟩)∧n≤c) (fun h p=>⟨Row.at0 h p hn0,Row.cap p⟩) fun ⟨⟨g,hg⟩,hc⟩=>?_
 subst hg
 have T3:=stringS b0 g q n c L hn (by omega) hn0 hc
 unfold ptB at T3
 refine aG ?_
 refine aI ?_ (decide_eq_false (show ¬(↑i:Int)<(↑i:Int) from (by omega)))
 refine ev_fin (go Tryz.tbs_ok 1000 ?_)
 refine aC T3 [1,0] [] fun _ h20=>?_
 refine ev_fin ⟨trivial,_,rfl,(()),rfl,(by trivial),Frm.nil _⟩
theorem b_b256 (m:Nat):IntKind.u8.wrap ((m:Int).tmod 256)=((UInt8.ofNat m).toNat:Int):=by
 rw [←b_byte m]
 show ((m % 256:Nat):Int) % 256=(m:Int) % 256
 omega
theorem b_quo32 {n k:Nat} (h:n<4294967296):IntKind.u32.wrap ((n:Int).tdiv (k:Nat))=((n / k:Nat):Int):=wrap_un (k:=.u32) rfl (Nat.lt_of_le_of_lt (Nat.div_le_self _ _) h)
theorem rFrame (p:ByteArray) (hp:p.size≤900000000):Triple Tryz.prog 142 [.string p] [] [] Unit (fun _=>.tuple #[.string (frameM p).1,.int .i64 (frameM p).2]) (fun _=>True) (fun _=>[]):=by
 have T1:=rPutM (2*p.size) (by omega)
 rw [zig_even (by omega),show 2*p.size / 2=p.size by omega] at T1
 obtain ⟨m,hm⟩:∃ m,m=strL (putL (2*p.size)):=⟨_,rfl⟩
 rw [show (⟨(putL (2*p.size)).toArray⟩:ByteArray)=m from hm.symm] at T1
 have hm1:m.size≤10:=by
  rw [hm,strL_size]
  exact putL_len 9 _ (by omega)
 have T2:=rSum (m++p) (by rw [ByteArray.size_append];omega)
 obtain ⟨n,hn⟩:∃ n,n=ckN (m++p).data.toList:=⟨_,rfl⟩
 have hn2:n<4294967296:=by rw [hn];exact ckN_lt _
 rw [←hn] at T2
 obtain ⟨c0,hc0⟩:∃ x,x=UInt8.ofNat n:=⟨_,rfl⟩
 obtain ⟨c1,hc1⟩:∃ x,x=UInt8.ofNat (n / 256):=⟨_,rfl⟩
 obtain ⟨c2,hc2⟩:∃ x,x=UInt8.ofNat (n / 65536):=⟨_,rfl⟩
 obtain ⟨c3,hc3⟩:∃ x,x=UInt8.ofNat (n / 16777216):=⟨_,rfl⟩
 have e0:=b_b256 n
 have e1:=b_b256 (n / 256)
 have e2:=b_b256 (n / 65536)
 have e3:=b_byte (n / 16777216)
 rw [←hc0] at e0
 rw [←hc1] at e1
 rw [←hc2] at e2
 rw [←hc3] at e3
 have d1:IntKind.u32.wrap ((n:Int).tdiv 256)=((n / 256:Nat):Int):=b_quo32 hn2
 have d2:IntKind.u32.wrap ((n:Int).tdiv 65536)=((n / 65536:Nat):Int):=b_quo32 hn2
 have d3:IntKind.u32.wrap ((n:Int).tdiv 16777216)=((n / 16777216:Nat):Int):=b_quo32 hn2
 obtain ⟨k,hk⟩:∃ k,k=(⟨#[c0,c1,c2,c3]⟩:ByteArray):=⟨_,rfl⟩
 have hk2:k.data.toList=ckL (m++p).data.toList:=by rw [hk,hc0,hc1,hc2,hc3,hn];rfl
 have hk1:k.size=4:=by rw [hk];rfl
 have hmk:(m++k).size≤14:=by rw [ByteArray.size_append];omega
 have hks:(⟨#[c0,c1,c2,c3]⟩:ByteArray).size=4:=rfl
 refine aT Tryz.func142 [.va (.string p)] [] (fun E=>?_) ⟨trivial,trivial⟩
 by_cases hsz:p.size≤8192
 · have hR:frameM p=(m++k++p,0):=by
    unfold frameM
    rw [if_pos hsz]
    congr 1
    apply ba_eq
    unfold frameB
    rw [strL_list,frameL,ba_app,ba_app,hk2,ba_app,hm,strL_list,size_data,List.append_assoc]
   rw [hR,hk]
   rw [hk] at hmk
   refine aG ?_
   refine aI ?_ (decide_eq_false (show ¬(↑p.size:Int) > 8192 from (by omega)))
   refine aC T1 [] [] fun _ h0=>?_
   refine ev_stop (go_bin (.va _) trivial rfl rfl rfl rfl rfl (by decide) (by decide) (fun w=>cat_run (by omega) w) ?_)
   refine aG ?_
   refine aC T2 [] [] fun _ h1=>?_
   refine ev_wrap (z:=(↑c0.toNat:Int)) e0 ?_
   refine ev_wrap (z:=(↑(n / 256):Int)) d1 ?_
   refine ev_wrap (z:=(↑c1.toNat:Int)) e1 ?_
   refine ev_wrap (z:=(↑(n / 65536):Int)) d2 ?_
   refine ev_wrap (z:=(↑c2.toNat:Int)) e2 ?_
   refine ev_wrap (z:=(↑(n / 16777216):Int)) d3 ?_
   refine ev_wrap (z:=(↑c3.toNat:Int)) e3 ?_
   refine ev_new fun b2=>?_
   refine ev_stop (go_stringOf Tryz.tbs_ok ([c0,c1,c2,c3]) (.inr 0) rfl rfl rfl rfl rfl rfl rfl (by first | rfl | omega | (simp;omega)) (fun _ p=>Pt.rd p rfl) ?_)
   refine aG ?_
   refine ev_stop (go_bin (.va _) trivial rfl rfl rfl rfl rfl (by decide) (by decide) (fun w=>cat_run (by omega) w) ?_)
   refine aG ?_
   refine ev_stop (go_bin (.va _) trivial rfl rfl rfl rfl rfl (by decide) (by decide) (fun w=>cat_run (by omega) w) ?_)
   refine aG ?_
   refine ev_fin ⟨trivial,_,rfl,(()),rfl,(by trivial),Frm.nil _⟩
 have hR:frameM p=(.empty,3):=by unfold frameM;rw [if_neg hsz]
 rw [hR]
 refine aG ?_
 refine aJ ?_ (decide_eq_true (show (↑p.size:Int) > 8192 from (by omega)))
 refine ev_fin ⟨trivial,_,rfl,(()),rfl,(by trivial),Frm.nil _⟩
set_option maxHeartbeats 1000000 in
theorem rNext (s:ByteArray) (a:Nat) (hs:s.size≤100000000) (ha:a≤s.size):Triple Tryz.prog 139 [.string s,.int .i64 (a:Int)] [] [] Unit (fun _=>.tuple #[.string (nextM s a).1,.int .i64 ((nextM s a).2.1:Nat),.bool (nextM s a).2.2]) (fun _=>True) (fun _=>[]):=by
 have T1:=rGet s a (by omega) ha
 refine aT Tryz.func139 [.va (.string s),vI (a:Int)] [] (fun E=>?_) ⟨trivial,trivial,trivial⟩
 have hsz:=size_data s
 cases hg:getL 0 0 (s.data.toList.drop a) with
 |
  none =>
  rw [getM_none hg] at T1
  dsimp only at T1
  rw [nextM_none (by unfold nextL;rw [hg])]
  refine aG ?_
  refine aC T1 [] [] fun _ h0=>?_
  refine aJ ?_
  refine ev_fin ⟨trivial,_,rfl,(()),rfl,(by trivial),Frm.nil _⟩
 |
  some x =>
  obtain ⟨F,k⟩:=x
  rw [getM_some hg] at T1
  dsimp only at T1
  obtain ⟨hk0,hk1,_⟩:=getL_some _ _ _ _ _ hg
  rw [List.length_drop,hsz] at hk1
  have hF:=getL_wide _ _ _ _ _ hg (by decide) (by decide)
  have hz:zigM F=if F % 2=1 then -((F / 2:Nat):Int)-1 else ((F / 2:Nat):Int):=rfl
  by_cases hbad:F % 2=1∨16384<F∨s.size-a<k+4+F / 2
  · have hR:nextM s a=(.empty,0,false):=nextM_none (by
     unfold nextL
     rw [hg]
     simp only
     rw [if_pos (by rw [List.length_drop,hsz];exact hbad)])
    rw [hR]
    rcases Nat.mod_two_eq_zero_or_one F with ho | ho
    · have hz2:zigM F=((F / 2:Nat):Int):=by rw [hz,if_neg (by omega)]
      rw [hz2] at T1
      rcases (show 8192<F / 2∨(F / 2≤8192∧s.size<a+k+4+F / 2) by omega) with hb | ⟨hb,hb2⟩
      · refine aG ?_
        refine aC T1 [] [] fun _ h0=>?_
        refine aI (aI ?_)
        refine aJ ?_ (decide_eq_true (show (↑(F / 2):Int) > 8192 from (by omega)))
        refine ev_fin ⟨trivial,_,rfl,(()),rfl,(by trivial),Frm.nil _⟩
      refine aG ?_
      refine aC T1 [] [] fun _ h0=>?_
      refine aI (aI ?_)
      refine aI ?_ (decide_eq_false (show ¬(↑(F / 2):Int) > 8192 from (by omega)))
      refine wO (s.size-(a+k)) ?_
      refine w6 ?_
      refine aJ ?_ (decide_eq_true (show (↑(F / 2):Int) > (↑(s.size-(a+k)):Int)-4 from (by omega)))
      refine ev_fin ⟨trivial,_,rfl,(()),rfl,(by trivial),Frm.nil _⟩
    obtain ⟨z,hz2⟩:∃ z,z=zigM F:=⟨_,rfl⟩
    rw [←hz2] at T1
    have hz3:z<0:=by rw [hz2,hz,if_pos ho];omega
    refine aG ?_
    refine aC T1 [] [] fun _ h0=>?_
    refine aI ?_
    refine aJ ?_ (decide_eq_true (by with_reducible assumption))
    refine ev_fin ⟨trivial,_,rfl,(()),rfl,(by trivial),Frm.nil _⟩
  have hz2:zigM F=((F / 2:Nat):Int):=by rw [hz,if_neg (by omega)]
  rw [hz2] at T1
  obtain ⟨n,hn⟩:∃ n,n=F / 2:=⟨_,rfl⟩
  have hb1:n≤8192:=by omega
  have hb2:a+k+4+n≤s.size:=by omega
  rw [←hn] at T1
  have e1:(s.extract a (a+k)).size=k:=by rw [ByteArray.size_extract];omega
  have e2:(s.extract (a+k+4) (a+k+4+n)).size=n:=by rw [ByteArray.size_extract];omega
  obtain ⟨p,hp⟩:∃ p,p=s.extract (a+k+4) (a+k+4+n):=⟨_,rfl⟩
  rw [←hp] at e2
  have T2:=rFrame p (by omega)
  rw [show frameM p=(frameB p,0) by unfold frameM;rw [if_pos (by omega)]] at T2
  obtain ⟨q,hq⟩:∃ q,q=frameB p:=⟨_,rfl⟩
  rw [←hq] at T2
  dsimp only at T2
  have l1:(s.extract a (a+k)).data.toList=(s.data.toList.drop a).take k:=by rw [ext_l,List.drop_take];congr 1;omega
  have l2:(s.extract (a+k+4) (a+k+4+n)).data.toList=((s.data.toList.drop a).drop (k+4)).take n:=by rw [ext_l,List.drop_take,List.drop_drop];congr 1<;>omega
  have l3:(s.extract (a+k) (a+k+4)).data.toList=((s.data.toList.drop a).drop k).take 4:=by rw [ext_l,List.drop_take,List.drop_drop];congr 1;omega
  have l4:(s.extract a (a+k+4+n)).data.toList=(s.data.toList.drop a).take (k+4+n):=by rw [ext_l,List.drop_take];congr 1;omega
  obtain ⟨l,hl⟩:∃ l,l=s.data.toList.drop a:=⟨_,rfl⟩
  rw [←hl] at l1 l2 l3 l4 hg
  rw [←hp] at l2
  have hgr:=(get_run hg).2.2.2.1
  have hpn:2*p.data.toList.length=F:=by rw [size_data];omega
  have hiff:q=s.extract a (a+k+4+n)↔ckL (l.take k++(l.drop (k+4)).take n)=(l.drop k).take 4:=by
   have e:q.data.toList=l.take k++(ckL (l.take k++p.data.toList)++p.data.toList):=by rw [hq];unfold frameB;rw [strL_list,frameL,hpn,hgr]
   have e3:(s.extract a (a+k+4+n)).data.toList=l.take k++((l.drop k).take 4++p.data.toList):=by rw [l4,l2,List.take_add,List.take_add,List.append_assoc]
   rw [←l2]
   refine ⟨fun h=>?_,fun h=>ba_eq ?_⟩
   · have h2:=congrArg (fun b:ByteArray=>b.data.toList) h
     rw [e,e3] at h2
     exact List.append_cancel_right (List.append_cancel_left h2)
   rw [e,e3,h]
  have hnx:nextL ckL l=if ckL (l.take k++(l.drop (k+4)).take n)=(l.drop k).take 4 then some ((l.drop (k+4)).take n,k+4+n) else none:=by
   unfold nextL
   rw [hg]
   simp only
   rw [if_neg (by rw [hl,List.length_drop,hsz];exact hbad),hn]
  by_cases hc:q=s.extract a (a+k+4+n)
  · have hR:nextM s a=(p,a+k+4+n,true):=by
     rw [nextM_some (by rw [←hl,hnx,if_pos (hiff.1 hc)]),←l2,list_strL]
     congr 2
     omega
    rw [hR]
    rw [hp] at T2 hR ⊢
    refine aG ?_
    refine aC T1 [] [] fun _ h0=>?_
    refine aI (aI ?_)
    refine aI ?_ (decide_eq_false (show ¬(↑n:Int) > 8192 from (by omega)))
    refine wO (s.size-(a+k)) ?_
    refine wO (s.size-(a+k)-4) ?_
    refine aI ?_ (decide_eq_false (show ¬(↑n:Int) > (↑(s.size-(a+k)-4):Int) from (by omega)))
    refine wN (a+k+4) ?_
    refine wN (a+k+4) ?_
    refine wN (a+k+4+n) ?_
    refine ev_stop (go_sliceS Tryz.tbs_ok (a+k+4) (a+k+4+n) rfl rfl rfl rfl ⟨_,rfl⟩ ⟨_,rfl⟩ (by omega) (by omega) ?_)
    refine aG ?_
    refine aC T2 [] [] fun _ h1=>?_
    refine aI ?_
    refine wN (a+k+4) ?_
    refine wN (a+k+4+n) ?_
    refine ev_stop (go_sliceS Tryz.tbs_ok (a) (a+k+4+n) rfl rfl rfl rfl ⟨_,rfl⟩ ⟨_,rfl⟩ (by omega) (by omega) ?_)
    refine aG ?_
    refine aI ?_ (dec_no (by with_reducible assumption))
    refine wN (a+k+4) ?_
    refine wN (a+k+4+n) ?_
    refine ev_fin ⟨trivial,_,rfl,(()),rfl,(by trivial),Frm.nil _⟩
  have hR:nextM s a=(.empty,0,false):=nextM_none (by rw [←hl,hnx,if_neg (fun h=>hc (hiff.2 h))])
  rw [hR]
  rw [hp] at T2
  refine aG ?_
  refine aC T1 [] [] fun _ h0=>?_
  refine aI (aI ?_)
  refine aI ?_ (decide_eq_false (show ¬(↑n:Int) > 8192 from (by omega)))
  refine wO (s.size-(a+k)) ?_
  refine wO (s.size-(a+k)-4) ?_
  refine aI ?_ (decide_eq_false (show ¬(↑n:Int) > (↑(s.size-(a+k)-4):Int) from (by omega)))
  refine wN (a+k+4) ?_
  refine wN (a+k+4) ?_
  refine wN (a+k+4+n) ?_
  refine ev_stop (go_sliceS Tryz.tbs_ok (a+k+4) (a+k+4+n) rfl rfl rfl rfl ⟨_,rfl⟩ ⟨_,rfl⟩ (by omega) (by omega) ?_)
  refine aG ?_
  refine aC T2 [] [] fun _ h1=>?_
  refine aI ?_
  refine wN (a+k+4) ?_
  refine wN (a+k+4+n) ?_
  refine ev_stop (go_sliceS Tryz.tbs_ok (a) (a+k+4+n) rfl rfl rfl rfl ⟨_,rfl⟩ ⟨_,rfl⟩ (by omega) (by omega) ?_)
  refine aG ?_
  refine aJ ?_ (dec_yes (by with_reducible assumption))
  refine ev_fin ⟨trivial,_,rfl,(()),rfl,(by trivial),Frm.nil _⟩
theorem rWhole (s:ByteArray) (hs:s.size≤10000000):Triple Tryz.prog 108 [.string s] [] [] (Option Addr × Nat) (fun (C,c)=>.tuple #[.slice C (wholeM s).1.length c,.int .i64 ((wholeM s).2:Nat)]) (fun _=>True) (fun (C,c)=>[Row 9 1 C (wholeM s).1.length c ((wholeM s).1.flatMap encS)]):=by
 refine aT Tryz.func108 [.va (.string s)] [] (fun E=>?_) ⟨trivial,trivial⟩
 have hsz:=size_data s
 obtain ⟨R,hR⟩:∃ R,R=wholeM s:=⟨_,rfl⟩
 rw [←hR]
 refine go_fact (Row 9 1 none 0 0 (([]:List ByteArray).flatMap encS)) (Row.nilE _ _) ?_
 refine aG ?_
 refine ev_stop (go_loopR [2,3,4,5,6,7,8,9,10,11,12,13,14,15,16,17,18,19,20,21,22,23,24] (fun (a,C,q,e,_)=>[(4,vL C q e),(5,vI (a:Nat))]) (fun (_,C,q,e,M)=>[(0,.fact (Row 9 1 C q e (M.flatMap encS)))]) (fun (a,_,q,_,M)=>a≤s.size∧q=M.length∧q≤a∧R=(M++(wholeL ckL (s.data.toList.drop a)).1.map strL,a+(wholeL ckL (s.data.toList.drop a)).2)) (fun (a,_,_,_,_)=>s.size-a) ((0,none,0,0,[]):Nat × Option Addr × Nat × Nat × List ByteArray) ⟨Nat.zero_le _,rfl,Nat.zero_le _,by rw [hR];unfold wholeM;simp⟩ aS (fun x_ h_=>?_))
 obtain ⟨a,C,q,e,M⟩:=x_
 obtain ⟨ha,hq,hq2,hM⟩:=h_
 have T1:=rNext s a (by omega) ha
 cases hn:nextL ckL (s.data.toList.drop a) with
 |
  none =>
  rw [nextM_none hn] at T1
  dsimp only at T1
  rw [wholeL_none hn] at hM
  simp only [List.map_nil,List.append_nil,Nat.add_zero] at hM
  subst hM
  subst hq
  refine aG ?_
  refine aC T1 [] [] fun _ h20=>?_
  refine aJ ?_
  exact ev_fin ⟨trivial,_,rfl,((C,e)),rfl,trivial,aF [0]⟩
 |
  some x =>
  obtain ⟨p,n⟩:=x
  rw [nextM_some hn] at T1
  dsimp only at T1
  have hs2:=nextL_some hn
  rw [List.length_drop,hsz] at hs2
  rw [wholeL_some hn,List.drop_drop] at hM
  refine aG ?_
  refine aC T1 [] [] fun _ h20=>?_
  refine aI ?_
  refine ev_new fun b21=>?_
  refine ev_stop (go_appendE (sz:=1) (M:=[_]) (enc:=encS) Tryz.tbs_ok [0] [] (.inr 1) (M) ([strL p]) ((M)++([strL p])) (q+1) rfl rfl rfl rfl rfl rfl rfl (by decide) rfl (by decide) (fun _ p=>starH_one.1 p) rfl (fun _ p=>Pt.rd p rfl) (by first | rfl | simp) (by first | rfl | omega) (aM (q+1)) (aN (q+1)) (fun _ _=>aL) (fun A22 c23 h24=>?_))
  refine aG ?_
  refine ev_fin (round_next ((a+n,A22,q+1,c23,M++[strL p])) (?_:a+n≤s.size∧q+1=(M++[strL p]).length∧q+1≤a+n∧R=(M++[strL p]++List.map strL (wholeL ckL (List.drop (a+n) s.data.toList)).fst,a+n+(wholeL ckL (List.drop (a+n) s.data.toList)).snd)) (show s.size-(a+n)<s.size-a from (by omega)) aS)
  refine ⟨by omega,by rw [hq];simp,by omega,?_⟩
  rw [hM]
  simp only [List.map_cons,List.append_assoc,List.singleton_append,Prod.mk.injEq,true_and]
  omega
open Go.Sy
theorem rNumber (x:ByteArray) (ch:UInt8) (hx9:x.size≤1000000000):Triple Tryz.prog 138 [.string x,.int .u8 (ch.toNat:Nat)] [] [] Unit (fun _=>.int .i64 (numM ch x.data.toList:Nat)) (fun _=>True) (fun _=>[]):=by
 have hx:=size_data x
 refine aT Tryz.func138 [.va (.string x),.va (.int .u8 (ch.toNat:Nat))] [] (fun E=>?_) ⟨trivial,trivial,trivial⟩
 by_cases hsz:x.size<2∨10<x.size
 · have hno:numM ch x.data.toList=0:=by
    obtain ⟨l,hl⟩:∃ l,l=x.data.toList:=⟨_,rfl⟩
    rw [←hl] at hx ⊢
    cases l with
    | nil=>rfl
    |
     cons c r =>
     rw [numM,if_neg]
     rintro ⟨_,q1,q2,_⟩
     have:=List.length_pos_iff.2 q1
     rw [List.length_cons] at hx
     omega
   rw [hno]
   rcases hsz with hsz | hsz
   · refine aG ?_
     refine aJ ?_ (decide_eq_true (show (↑x.size:Int)<2 from (by omega)))
     refine ev_fin ⟨trivial,_,rfl,(()),rfl,(by trivial),Frm.nil _⟩
   refine aG ?_
   refine aI ?_ (decide_eq_false (show ¬(↑x.size:Int)<2 from (by omega)))
   refine aJ ?_ (decide_eq_true (show (↑x.size:Int) > 10 from (by omega)))
   refine ev_fin ⟨trivial,_,rfl,(()),rfl,(by trivial),Frm.nil _⟩
 obtain ⟨R,hR⟩:∃ R,R=x.data.toList.drop 1:=⟨_,rfl⟩
 have hRl:R.length=x.size-1:=by rw [hR,List.length_drop,hx]
 have hat:∀ i (h1:1≤i) (h2:i<x.size),x[i]=R[i-1]'(by omega):=fun i h1 h2=>by
  simp only [hR,List.getElem_drop]
  show x.data.toList[i]'(by omega)=_
  congr 1
  omega
 have h0:0<x.size:=by omega
 have hl:x.data.toList=x[0]::R:=by
  rw [hR]
  exact (List.drop_zero (l:=x.data.toList)).symm.trans (List.drop_eq_getElem_cons (by omega))
 have hnum:numM ch x.data.toList=if x[0]=ch∧R≠[]∧R.length≤9∧R.head? ≠ some 48 then (digL 0 R).getD 0 else 0:=by rw [hl,numM]
 have hhd:R.head? = some x[1]:=by rw [List.head?_eq_getElem?,List.getElem?_eq_getElem (by omega),hat 1 (Nat.le_refl _) (by omega)]
 rw [hhd] at hnum
 by_cases hc:x[0]=ch
 · have hcn:x[0].toNat=ch.toNat:=by rw [hc]
   by_cases h48:x[1]=48
   · have h48n:x[1].toNat=48:=by rw [h48];rfl
     rw [hnum,if_neg fun q=>q.2.2.2 (by rw [h48])]
     refine aG ?_
     refine aI ?_ (decide_eq_false (show ¬(↑x.size:Int)<2 from (by omega)))
     refine aI ?_ (decide_eq_false (show ¬(↑x.size:Int) > 10 from (by omega)))
     refine ev_stop (go_byte Tryz.tbs_ok (0) rfl rfl rfl rfl rfl rfl (by omega) ?_)
     refine aG ?_
     refine aI ?_ (ne_no (show (↑x[0].toNat:Int)=(↑ch.toNat:Int) from (by omega)))
     refine ev_stop (go_byte Tryz.tbs_ok (1) rfl rfl rfl rfl rfl rfl (by omega) ?_)
     refine aG ?_
     refine aJ ?_ (beq_iff_eq.2 (show (↑x[1].toNat:Int)=48 from (by omega)))
     refine ev_fin ⟨trivial,_,rfl,(()),rfl,(by trivial),Frm.nil _⟩
   have h48n:¬ x[1].toNat=48:=fun q=>h48 (UInt8.toNat_inj.1 q)
   rw [if_pos ⟨hc,fun q=>by rw [q] at hRl;simp at hRl;omega,by omega,fun q=>h48 (Option.some.inj q)⟩] at hnum
   rw [hnum]
   refine aG ?_
   refine aI ?_ (decide_eq_false (show ¬(↑x.size:Int)<2 from (by omega)))
   refine aI ?_ (decide_eq_false (show ¬(↑x.size:Int) > 10 from (by omega)))
   refine ev_stop (go_byte Tryz.tbs_ok (0) rfl rfl rfl rfl rfl rfl (by omega) ?_)
   refine aG ?_
   refine aI ?_ (ne_no (show (↑x[0].toNat:Int)=(↑ch.toNat:Int) from (by omega)))
   refine ev_stop (go_byte Tryz.tbs_ok (1) rfl rfl rfl rfl rfl rfl (by omega) ?_)
   refine aG ?_
   refine aI ?_ (beq_eq_false_iff_ne.2 (show ¬(↑x[1].toNat:Int)=48 from (by omega)))
   refine ev_stop (go_loopR [4,5,6,26,27,28,29,30,31,32,33,34,35,36,37,38,39,40,41,42,43,44,45,46,47,48,49] (fun (j,n)=>[(5,vI (n:Nat)),(6,vI (j:Nat))]) (fun _=>[]) (fun (j,n)=>1≤j∧j≤x.size∧digL 0 (R.take (j-1))=some n) (fun (j,_)=>x.size-j) ((1,0):Nat × Nat) ⟨Nat.le_refl _,by omega,rfl⟩ aS (fun x_ h_=>?_))
   obtain ⟨j,n⟩:=x_
   obtain ⟨hj1,hj,hn⟩:=h_
   have hn9:n<1000000000:=by
    have:=digL_lt (R.take (j-1)) 0 n 0 hn (by decide)
    rw [List.length_take] at this
    have h9:min (j-1) R.length≤9:=Nat.le_trans (Nat.min_le_right _ _) (by omega)
    exact Nat.lt_of_lt_of_le this (Nat.le_trans (Nat.pow_le_pow_right (by decide) (by omega)) (by decide:10 ^ 9≤1000000000))
   rcases Nat.lt_or_ge j x.size with hjl | hjl
   · have hstep:digL 0 (R.take (j+1-1))=if x[j].toNat<48∨57<x[j].toNat then none else some (10*n+(x[j].toNat-48)):=by
      rw [hat j hj1 hjl,show j+1-1=j-1+1 by omega,←List.take_append_getElem (by omega:j-1<R.length),digL_append,hn]
      simp only [Option.bind_some,digL]
     have hb:x[j].toNat<256:=UInt8.toNat_lt _
     by_cases hd:x[j].toNat<48∨57<x[j].toNat
     · rw [if_pos hd] at hstep
       have hdn:digL 0 R=none:=digL_pre R _ 0 hstep
       rw [hdn]
       rcases hd with hd | hd
       · refine aG ?_
         refine aJ ?_ (decide_eq_true (show (↑j:Int)<(↑x.size:Int) from (by omega)))
         refine ev_stop (go_byte Tryz.tbs_ok (j) rfl rfl rfl rfl rfl rfl (by omega) ?_)
         refine aG ?_
         refine aJ ?_ (decide_eq_true (show (↑x[j].toNat:Int)<48 from (by omega)))
         refine ev_fin ⟨trivial,_,rfl,(()),rfl,(by trivial),Frm.nil _⟩
       refine aG ?_
       refine aJ ?_ (decide_eq_true (show (↑j:Int)<(↑x.size:Int) from (by omega)))
       refine ev_stop (go_byte Tryz.tbs_ok (j) rfl rfl rfl rfl rfl rfl (by omega) ?_)
       refine aG ?_
       refine aI ?_ (decide_eq_false (show ¬(↑x[j].toNat:Int)<48 from (by omega)))
       refine ev_stop (go_byte Tryz.tbs_ok (j) rfl rfl rfl rfl rfl rfl (by omega) ?_)
       refine aG ?_
       refine aJ ?_ (decide_eq_true (show (↑x[j].toNat:Int) > 57 from (by omega)))
       refine ev_fin ⟨trivial,_,rfl,(()),rfl,(by trivial),Frm.nil _⟩
     rw [if_neg hd] at hstep
     have hd1:48≤x[j].toNat:=by omega
     have hd2:x[j].toNat≤57:=by omega
     refine aG ?_
     refine aJ ?_ (decide_eq_true (show (↑j:Int)<(↑x.size:Int) from (by omega)))
     refine ev_stop (go_byte Tryz.tbs_ok (j) rfl rfl rfl rfl rfl rfl (by omega) ?_)
     refine aG ?_
     refine aI ?_ (decide_eq_false (show ¬(↑x[j].toNat:Int)<48 from (by omega)))
     refine ev_stop (go_byte Tryz.tbs_ok (j) rfl rfl rfl rfl rfl rfl (by omega) ?_)
     refine aG ?_
     refine aI ?_ (decide_eq_false (show ¬(↑x[j].toNat:Int) > 57 from (by omega)))
     refine wN (n*10) ?_
     refine ev_stop (go_byte Tryz.tbs_ok (j) rfl rfl rfl rfl rfl rfl (by omega) ?_)
     refine aG ?_
     refine ev_wu8 (show 0≤(↑x[j].toNat:Int)-48∧(↑x[j].toNat:Int)-48<256 from (by constructor<;>omega)) ?_
     refine wO (x[j].toNat-48) ?_
     refine wN (n*10+(x[j].toNat-48)) ?_
     refine wN (j+1) ?_
     refine ev_fin (round_next ((j+1,n*10+(x[j].toNat-48))) (?_:1≤j+1∧j+1≤x.size∧digL 0 (List.take (j+1-1) R)=some (n*10+(x[j].toNat-48))) (show x.size-(j+1)<x.size-j from (by omega)) aS)
     exact ⟨by omega,by omega,by rw [hstep];congr 1;omega⟩
   have hnR:digL 0 R=some n:=by rw [←hn,List.take_of_length_le (by omega)]
   rw [hnR]
   refine aG ?_
   refine aI ?_ (decide_eq_false (show ¬(↑j:Int)<(↑x.size:Int) from (by omega)))
   refine ev_fin (go Tryz.tbs_ok 1000 ?_)
   refine ev_fin ⟨trivial,_,rfl,(()),rfl,(by trivial),Frm.nil _⟩
 have hcn:¬ x[0].toNat=ch.toNat:=fun q=>hc (UInt8.toNat_inj.1 q)
 rw [hnum,if_neg fun q=>hc q.1]
 refine aG ?_
 refine aI ?_ (decide_eq_false (show ¬(↑x.size:Int)<2 from (by omega)))
 refine aI ?_ (decide_eq_false (show ¬(↑x.size:Int) > 10 from (by omega)))
 refine ev_stop (go_byte Tryz.tbs_ok (0) rfl rfl rfl rfl rfl rfl (by omega) ?_)
 refine aG ?_
 refine aJ ?_ (ne_yes (show ¬(↑x[0].toNat:Int)=(↑ch.toNat:Int) from (by omega)))
 refine ev_fin ⟨trivial,_,rfl,(()),rfl,(by trivial),Frm.nil _⟩
theorem dec_more (f:Nat) (M:List UInt8) (h:0<f):decL f++M=(if f / 10=0 then [] else decL (f / 10))++(UInt8.ofNat (48+f % 10)::M):=by
 rcases Nat.lt_or_ge f 10 with h1 | h1
 · rw [decL_small h1,if_pos (by omega),Nat.mod_eq_of_lt h1]
   rfl
 rw [decL_great h1,if_neg (by omega),List.append_assoc]
 rfl
theorem b_dig10 (f:Nat):IntKind.u8.wrap (48+((f:Nat):Int).tmod 10)=((UInt8.ofNat (48+f % 10)).toNat:Int):=b_byte (48+f % 10)
theorem rName2 (y:ByteArray) (c:UInt8) (n:Nat) (hy:y=⟨#[c]⟩) (h0:0<n) (hn:n≤1000000000):Triple Tryz.prog 117 [.string y,.int .i64 (n:Nat)] [] [] Unit (fun _=>.string (nmB c n)) (fun _=>True) (fun _=>[]):=by
 subst hy
 have hc1:(⟨#[c]⟩:ByteArray).size=1:=rfl
 refine aT Tryz.func117 [.va (.string ⟨#[c]⟩),vI (n:Nat)] [] (fun E=>?_) ⟨trivial,trivial,trivial⟩
 have hz:(⟨#[]⟩:ByteArray) = .empty:=rfl
 refine aG ?_
 refine ev_stop (go_loopR [1,5,6,7,8,9,10,11,12,13,14,15,16,17] (fun (f,t)=>[(1,vI (f:Nat)),(5,.va (.string t))]) (fun _=>[]) (fun (f,t)=>f≤n∧t.size≤11∧(if f=0 then [] else decL f)++t.data.toList=decL n) (fun (f,_)=>f) ((n,.empty):Nat × ByteArray) ⟨Nat.le_refl _,Nat.zero_le _,by rw [if_neg (by omega)];exact List.append_nil _⟩ aS (fun x_ h_=>?_))
 obtain ⟨f,t⟩:=x_
 obtain ⟨hf,hf2,hf3⟩:=h_
 rcases Nat.eq_zero_or_pos f with hf0 | hf0
 · subst hf0
   rw [if_pos rfl,List.nil_append] at hf3
   refine aG (aI ?_)
   refine ev_fin (go Tryz.tbs_ok 1000 ?_)
   refine ev_stop (go_bin (.va _) trivial rfl rfl rfl rfl rfl (by decide) (by decide) (fun w=>cat_run (by omega) w) ?_)
   refine aG ?_
   refine ev_fin ⟨trivial,_,rfl,(()),?_,(by trivial),Frm.nil _⟩
   exact congrArg Value.string (ba_eq (by rw [nmB_list,ba_app,hf3];rfl))
 rw [if_neg (by omega),dec_more f _ hf0] at hf3
 have v1:=b_dig10 f
 have hm:((f:Nat):Int).tmod 10=((f % 10:Nat):Int):=rfl
 obtain ⟨d,hd⟩:∃ d,d=UInt8.ofNat (48+f % 10):=⟨_,rfl⟩
 rw [←hd] at hf3 v1
 have hd1:(⟨#[d]⟩:ByteArray).size=1:=rfl
 have hq:((f:Nat):Int).tdiv 10=((f / 10:Nat):Int):=rfl
 have hlen:t.size+1≤11:=by
  have h1:=congrArg List.length hf3
  have h2:=decL_len 9 n (Nat.lt_of_le_of_lt hn (by decide))
  rw [List.length_append,List.length_cons,size_data] at h1
  omega
 have hsz:(⟨#[d]⟩++t:ByteArray).size=t.size+1:=by rw [ByteArray.size_append,hd1,Nat.add_comm]
 have hgo:f / 10≤n∧(⟨#[d]⟩++t:ByteArray).size≤11∧(if f / 10=0 then [] else decL (f / 10))++(⟨#[d]⟩++t:ByteArray).data.toList=decL n:=⟨by omega,by rw [hsz];exact hlen,by rw [ba_app];exact hf3⟩
 refine aG ?_
 refine aJ ?_ (decide_eq_true (show (↑f:Int) > 0 from (by omega)))
 refine wN (48+f % 10) ?_
 refine ev_wrap (z:=(↑d.toNat:Int)) v1 ?_
 refine ev_new fun b10=>?_
 refine ev_stop (go_stringOf Tryz.tbs_ok ([d]) (.inr 0) rfl rfl rfl rfl rfl rfl rfl (by first | rfl | omega | (simp;omega)) (fun _ p=>Pt.rd p rfl) ?_)
 refine aG ?_
 refine ev_stop (go_bin (.va _) trivial rfl rfl rfl rfl rfl (by decide) (by decide) (fun w=>cat_run (by omega) w) ?_)
 refine aG ?_
 refine wN (f / 10) ?_
 refine ev_fin (round_next ((f / 10,{ data := #[d]:ByteArray }++t)) (show f / 10≤n∧({ data := #[d]:ByteArray }++t).size≤11∧(if f / 10=0 then [] else decL (f / 10))++({ data := #[d]:ByteArray }++t).data.toList=decL n from (by assumption)) (show f / 10<f from (by omega)) aS)
def ixF (L:List Fl) (x:ByteArray):Int:=if hasF L x then (posF L x:Nat) else -1
theorem ixF_at {L:List Fl} (hs:riseF L) {x:ByteArray} {i:Nat} (hi:i<L.length) (e:L[i].n=x):ixF L x=(i:Nat):=by
 subst e
 obtain ⟨h1,h2⟩:=find_at hs hi
 unfold ixF
 rw [if_pos h1,h2]
theorem ixF_no {L:List Fl} {x:ByteArray} (h:∀ f∈L,f.n≠x):ixF L x = -1:=by
 unfold ixF
 rw [if_neg (by rw [hasF_no.2 h];decide)]
theorem rFind (r:Nat) (m s:Int) (dn:Bool) (A:Option Addr) (n c:Nat) (st:Bool) (lf:Int) (B:Option Addr) (k d:Nat) (L:List Fl) (hn:n=L.length) (h1:n≤1000) (x:ByteArray) (hs:riseF L):Triple Tryz.prog 82 [pP r,.string x] [Pt r 105 [.int .i64 m,.int .i64 s,.bool dn,.slice A n c,.bool st,.int .i64 lf,.slice B k d],Row 117 3 A n c (L.flatMap encF)] [] Unit (fun _=>.int .i64 (ixF L x)) (fun _=>True) (fun _=>[Pt r 105 [.int .i64 m,.int .i64 s,.bool dn,.slice A n c,.bool st,.int .i64 lf,.slice B k d],Row 117 3 A n c (L.flatMap encF)]):=by
 refine aT Tryz.func82 [.pt 0 r 0,.va (.string x)] [.box r 105 [vI m,vI s,.va (.bool dn),vL A n c,.va (.bool st),vI lf,vL B k d],.fact (Row 117 3 A n c (L.flatMap encF))] (fun E=>?_) ⟨rfl,trivial,trivial⟩
 refine aG ?_
 refine ev_stop (go_loopR [4,5,6,7,8,9,10,11,12,13,14,15,16,17,18,19,20,21,22,23,24,25] (fun i=>[(5,vI (i:Nat))]) (fun _=>[]) (fun i=>i≤n∧∀ f∈L.take i,f.n≠x) (fun i=>n-i) (0:Nat) ⟨Nat.zero_le _,by simp⟩ aS (fun i h_=>?_))
 obtain ⟨hi,h0⟩:=h_
 refine aG ?_
 refine ev_if_lt (fun h20=>?_) (fun h20=>?_)
 refine aG ?_
 refine ev_stop (go_index0 (sz:=3) Tryz.tbs_ok (.inr 1) (i) rfl rfl rfl rfl rfl rfl (by omega) rfl Row.at0 (fun g21 e22=>?_))
 subst e22
 refine aG ?_
 have l23:i<(L).length:=(by omega)
 refine ev_stop (go_loadE Tryz.tbs_ok (.inr 1) (i) 0 rfl rfl rfl rfl (fun _ h=>Row.rd h) (by omega) (fun _=>rfl) (by omega) l23 (by decide) ?_)
 refine aG ?_
 refine ev_if_lt (fun h24=>?_) (fun h24=>?_)
 refine aG ?_
 refine ev_fin ⟨trivial,_,rfl,(),?_,trivial,aF [0,1]⟩
 rotate_left
 refine aG ?_
 refine wN (i+1) ?_
 refine ev_fin (round_next (i+1) (?_:i+1≤n∧∀ (f:Fl),f∈List.take (i+1) L→f.n≠x) (show n-(i+1)<n-i from (by omega)) aS)
 rotate_left
 refine aG ?_
 refine ev_fin (go Tryz.tbs_ok 1000 ?_)
 refine ev_fin ⟨trivial,_,rfl,(),?_,trivial,aF [0,1]⟩
 rotate_left
 · rw [ixF_at hs (by omega) h24]
   rfl
 · refine ⟨by omega,fun f hf=>?_⟩
   rw [←List.take_append_getElem (show i<L.length by omega)] at hf
   rcases List.mem_append.1 hf with hf | hf
   · exact h0 f hf
   rw [List.mem_singleton.1 hf]
   exact h24
 rw [List.take_of_length_le (by omega)] at h0
 rw [ixF_no h0]
 rfl
theorem erase_step {L:List Fl} {i kk:Nat} (hi:i<L.length) (h:i≠kk):(L.take (i+1)).eraseIdx kk=(L.take i).eraseIdx kk++[L[i]]:=by
 rw [←List.take_append_getElem hi]
 rcases Nat.lt_or_ge kk i with h1 | h1
 · rw [List.eraseIdx_append_of_lt_length (by rw [List.length_take];omega)]
 rw [List.eraseIdx_append_of_length_le (by rw [List.length_take];omega),List.eraseIdx_of_length_le (show (L.take i).length≤kk by rw [List.length_take];omega),List.eraseIdx_of_length_le (by rw [List.length_take];simp only [List.length_singleton];omega)]
theorem erase_stay {L:List Fl} {i:Nat} (hi:i<L.length):(L.take (i+1)).eraseIdx i=(L.take i).eraseIdx i:=by
 rw [←List.take_append_getElem hi,List.eraseIdx_append_of_length_le (by rw [List.length_take];omega),List.eraseIdx_of_length_le (show (L.take i).length≤i by rw [List.length_take];omega),List.length_take,Nat.min_eq_left (by omega),Nat.sub_self]
 simp
theorem rWithout (r:Nat) (m s:Int) (dn:Bool) (A:Option Addr) (n c:Nat) (st:Bool) (lf:Int) (B:Option Addr) (k d:Nat) (L:List Fl) (hn:n=L.length) (h1:n≤1000) (kk:Nat) (hk:kk<n):Triple Tryz.prog 143 [pP r,.int .i64 (kk:Nat)] [Pt r 105 [.int .i64 m,.int .i64 s,.bool dn,.slice A n c,.bool st,.int .i64 lf,.slice B k d],Row 117 3 A n c (L.flatMap encF)] [] (Option Addr × Nat) (fun (C,e)=>.slice C (n-1) e) (fun _=>True) (fun (C,e)=>[Pt r 105 [.int .i64 m,.int .i64 s,.bool dn,.slice A n c,.bool st,.int .i64 lf,.slice B k d],Row 117 3 A n c (L.flatMap encF),Row 117 3 C (n-1) e ((L.eraseIdx kk).flatMap encF)]):=by
 refine aT Tryz.func143 [.pt 0 r 0,vI (kk:Nat)] [.box r 105 [vI m,vI s,.va (.bool dn),vL A n c,.va (.bool st),vI lf,vL B k d],.fact (Row 117 3 A n c (L.flatMap encF))] (fun E=>?_) ⟨rfl,trivial,trivial⟩
 refine aG ?_
 refine ev_stop (go_fact (Row 117 3 none 0 0 (([]:List Fl).flatMap encF)) (Row.nilE _ _) ?_)
 refine aG ?_
 refine ev_stop (go_loopR [5,6,7,8,9,10,11,12,13,14,15,16,17,18,19,20,21,22,23,24,25,26,27,28] (fun (i,C,q,e,_)=>[(5,vL C q e),(6,vI (i:Nat))]) (fun (_,C,q,e,M)=>[(2,.fact (Row 117 3 C q e (M.flatMap encF)))]) (fun (i,_,q,_,M)=>i≤n∧q=M.length∧M=(L.take i).eraseIdx kk) (fun (i,_,_,_,_)=>n-i) ((0,none,0,0,[]):Nat × Option Addr × Nat × Nat × List Fl) ⟨Nat.zero_le _,rfl,rfl⟩ aS (fun x_ h_=>?_))
 obtain ⟨i,C,q,e,M⟩:=x_
 obtain ⟨hi,hq,hM⟩:=h_
 refine aG ?_
 refine ev_if_lt (fun hlt=>?_) (fun hge=>?_)
 · have hil:i<L.length:=by
    have:(i:Int)<(n:Int):=hlt
    omega
   have hq2:q≤n:=by
    rw [hq,hM]
    exact Nat.le_trans (List.eraseIdx_sublist _ _).length_le (by rw [List.length_take];omega)
   by_cases hik:i=kk
   · have hst:=erase_stay hil
     subst hik
     refine aG ?_
     refine aI ?_ (ne_no (show (↑i:Int)=(↑i:Int) from (by omega)))
     refine wN (i+1) ?_
     refine ev_fin (round_next ((i+1,C,q,e,M)) (?_:i+1≤n∧q=M.length∧M=(List.take (i+1) L).eraseIdx i) (show n-(i+1)<n-i from (by omega)) aS)
     exact ⟨by omega,hq,by rw [hst];exact hM⟩
   have hst:=erase_step hil hik
   refine aG ?_
   refine aJ ?_ (ne_yes (show ¬(↑i:Int)=(↑kk:Int) from (by omega)))
   refine ev_stop (go_index0 (sz:=3) Tryz.tbs_ok (.inr 1) (i) rfl rfl rfl rfl rfl rfl (by omega) rfl Row.at0 (fun g60 e61=>?_))
   subst e61
   refine aG ?_
   have l62:i<(L).length:=(by omega)
   refine ev_stop (go_loadE Tryz.tbs_ok (.inr 1) (i) 0 rfl rfl rfl rfl (fun _ h=>Row.rd h) (by omega) (fun _=>rfl) (by omega) l62 (by decide) ?_)
   refine aG ?_
   refine ev_new fun b63=>?_
   refine ev_stop (go_appendE (sz:=3) (M:=[_]) (enc:=encF) Tryz.tbs_ok [2] [] (.inr 3) (M) ([L[i]]) ((M)++([L[i]])) (q+1) rfl rfl rfl rfl rfl rfl rfl (by decide) rfl (by decide) (fun _ p=>starH_one.1 p) rfl (fun _ p=>Pt.rd p rfl) (by first | rfl | simp) (by first | rfl | omega) (aM (q+1)) (aN (q+1)) (fun _ _=>aL) (fun A64 c65 h66=>?_))
   refine aG ?_
   refine wN (i+1) ?_
   refine ev_fin (round_next ((i+1,A64,q+1,c65,M++[L[i]])) (?_:i+1≤n∧q+1=(M++[L[i]]).length∧M++[L[i]]=(List.take (i+1) L).eraseIdx kk) (show n-(i+1)<n-i from (by omega)) aS)
   exact ⟨by omega,by rw [List.length_append,←hq];rfl,by rw [hst,←hM]⟩
 rw [List.take_of_length_le (by omega)] at hM
 have hq3:q=n-1:=by rw [hq,hM,List.length_eraseIdx_of_lt (by omega)];omega
 subst hM hq3
 refine aG ?_
 refine ev_fin (go Tryz.tbs_ok 1000 ?_)
 exact ev_fin ⟨trivial,_,rfl,((C,e)),rfl,trivial,aF [0,1,2]⟩
def putM (L:List Fl) (f:Fl) (i:Nat):List Fl:=if i≤posF L f.n then L.take i else L.take (posF L f.n)++f::(L.take i).drop (posF L f.n)
theorem putM_lt {L:List Fl} {f:Fl} {i:Nat} (hi:i<L.length) (h:i≠posF L f.n):putM L f (i+1)=putM L f i++[L[i]]:=by
 unfold putM
 rcases Nat.lt_or_ge i (posF L f.n) with h1 | h1
 · rw [if_pos (by omega),if_pos (by omega),List.take_append_getElem hi]
 rw [if_neg (by omega),if_neg (by omega),←List.take_append_getElem hi,List.drop_append_of_le_length (by rw [List.length_take];omega)]
 simp
theorem putM_at {L:List Fl} {f:Fl} {i:Nat} (hi:i<L.length) (h:i=posF L f.n):putM L f (i+1)=(putM L f i++[f])++[L[i]]:=by
 unfold putM
 rw [if_neg (by omega),if_pos (by omega),←List.take_append_getElem hi,←h,List.drop_append_of_le_length (by rw [List.length_take];omega),List.drop_of_length_le (by rw [List.length_take];omega)]
 simp
theorem putM_len {L:List Fl} (f:Fl) {i:Nat} (hi:i≤L.length):(putM L f i).length=if i≤posF L f.n then i else i+1:=by
 unfold putM
 split
 · rw [List.length_take];omega
 simp only [List.length_append,List.length_take,List.length_cons,List.length_drop]
 omega
theorem putM_end {L:List Fl} (f:Fl) (h:posF L f.n<L.length):putM L f L.length=insF L f:=by
 unfold putM insF
 rw [if_neg (by omega),List.take_length]
theorem putM_end2 {L:List Fl} (f:Fl) (h:posF L f.n=L.length):putM L f L.length++[f]=insF L f:=by
 unfold putM insF
 rw [if_pos (by omega),h,List.take_length,List.drop_length]
theorem put_lt {L:List Fl} (hs:riseF L) {f:Fl} (hh:hasF L f.n=false) {i:Nat} (hi:i<L.length):(i<posF L f.n→¬ ltS f.n L[i].n)∧(i=posF L f.n→ltS f.n L[i].n):=by
 obtain ⟨h1,h2⟩:=posF_split hs f.n
 refine ⟨fun h=>(h1 _ (List.mem_take_iff_getElem.2 ⟨i,by omega,rfl⟩)).asymm,fun h=>?_⟩
 have h3:=h2 _ (List.mem_drop_iff_getElem.2 ⟨0,by omega,rfl⟩)
 simp only [Nat.add_zero] at h3
 have h4:¬ ltS L[i].n f.n:=by
  have e:L[posF L f.n]'(by omega)=L[i]:=by congr 1;exact h.symm
  rwa [e] at h3
 by_cases h5:ltS f.n L[i].n
 · exact h5
 exact absurd (ltS.total h4 h5) (hasF_no.1 hh _ (List.getElem_mem hi))
set_option maxHeartbeats 1000000 in
theorem rPut (r:Nat) (m s:Int) (dn:Bool) (A:Option Addr) (n c:Nat) (st:Bool) (lf:Int) (B:Option Addr) (k d:Nat) (L:List Fl) (hn:n=L.length) (h1:n≤1000) (f:Fl) (hs:riseF L) (hh:hasF L f.n=false):Triple Tryz.prog 84 [pP r,.agg #[.string f.n,.string f.d,.int .i64 f.s]] [Pt r 105 [.int .i64 m,.int .i64 s,.bool dn,.slice A n c,.bool st,.int .i64 lf,.slice B k d],Row 117 3 A n c (L.flatMap encF)] [] (Option Addr × Nat) (fun _=>.tuple #[]) (fun _=>True) (fun (C,e)=>[Pt r 105 [.int .i64 m,.int .i64 s,.bool dn,.slice C (n+1) e,.bool st,.int .i64 lf,.slice B k d],Row 117 3 C (n+1) e ((insF L f).flatMap encF)]):=by
 refine aT Tryz.func84 [.pt 0 r 0,.ag [.va (.string f.n),.va (.string f.d),vI f.s]] [.box r 105 [vI m,vI s,.va (.bool dn),vL A n c,.va (.bool st),vI lf,vL B k d],.fact (Row 117 3 A n c (L.flatMap encF))] (fun E=>?_) ⟨rfl,by simp [SV.good,SV.goodL],trivial⟩
 have hp:=posF_le L f.n
 refine aG ?_
 refine ev_new fun b0=>?_
 refine ev_stop (go_fact (Row 117 3 none 0 0 (([]:List Fl).flatMap encF)) (Row.nilE _ _) ?_)
 refine go_slot 5 _ (.bq false) rfl rfl rfl (fun _=>trivial) ?_
 refine aG ?_
 refine ev_stop (go_loopR [1,4,5,6,7,8,9,10,11,12,13,14,15,16,17,18,19,20,21,22,23,24,25,26,27,28,29,30,31,32,33,34,35,36,37,38,39,40,41,42,43,44] (fun (i,C,q,e,_,b)=>[(4,vL C q e),(5,.bq b),(6,vI (i:Nat))]) (fun (_,C,q,e,M,_)=>[(3,.fact (Row 117 3 C q e (M.flatMap encF)))]) (fun (i,_,q,_,M,b)=>i≤n∧q=M.length∧M=putM L f i∧b=decide (posF L f.n<i)) (fun (i,_,_,_,_,_)=>n-i) ((0,none,0,0,[],false):Nat × Option Addr × Nat × Nat × List Fl × Bool) ⟨Nat.zero_le _,rfl,by simp [putM],(decide_eq_false (by omega)).symm⟩ aS (fun x_ h_=>?_))
 obtain ⟨i,C,q,e,M,b⟩:=x_
 obtain ⟨hi,hq,hM,hb⟩:=h_
 refine aG ?_
 refine ev_if_lt (fun hlt=>?_) (fun hge=>?_)
 · have hil:i<L.length:=by
    have:(i:Int)<(n:Int):=hlt
    omega
   have hql:=putM_len f (Nat.le_of_lt hil)
   rw [←hM,←hq] at hql
   have hq2:q≤n+1:=by split at hql<;>omega
   obtain ⟨g1,g2⟩:=put_lt hs hh hil
   rcases Nat.lt_trichotomy i (posF L f.n) with h | h | h
   · have hb0:b=false:=by rw [hb];exact decide_eq_false (by omega)
     have hst:=putM_lt hil (show i≠posF L f.n by omega)
     have g:=g1 h
     subst hb0
     refine aG ?_
     refine ev_stop (go_draw Tryz.tbs_ok true [0,1,2,3] [(0,true),(1,true),(2,true),(3,true),(4,true),(5,true),(6,true),(7,true),(8,true),(9,true),(10,true),(11,true),(12,true),(13,true),(14,true)] rfl ?_)
     refine aG (aE (aJ (aE ?_)))
     refine ev_stop (tk_index0 (sz:=3) Tryz.tbs_ok (.inr 1) (i) aB rfl rfl rfl rfl rfl rfl rfl (by omega) rfl Row.at0 (fun g40 e41=>?_))
     subst e41
     refine aG (aE ?_)
     have l42:i<(L).length:=(by omega)
     refine ev_stop (tk_loadE Tryz.tbs_ok (.inr 1) (i) 0 aB rfl rfl rfl rfl rfl (fun _ h=>Row.rd h) (by omega) (fun _=>rfl) (by omega) l42 (by decide) ?_)
     refine aG (aE ?_)
     refine ev_stop (tk_bin (.bq (decide (ltS (f.n) (L[i].n)))) trivial aB rfl rfl rfl rfl rfl rfl (by decide) (by decide) (fun w=>lss_runS w) ?_)
     refine aG (aE ?_)
     refine aI ?_ (decide_eq_false (by with_reducible assumption))
     refine ev_stop (go_atE (sz:=3) Tryz.tbs_ok (i) rfl rfl rfl rfl rfl rfl (by omega) ?_)
     refine aG ?_
     have l43:i<(L).length:=(by omega)
     refine ev_stop (go_loadE Tryz.tbs_ok (.inr 1) (i) 0 rfl rfl rfl rfl (fun _ h=>Row.rd h) (by omega) (fun _=>rfl) (by omega) l43 (by decide) ?_)
     refine aG ?_
     refine ev_new fun b44=>?_
     refine ev_stop (go_appendE (sz:=3) (M:=[_]) (enc:=encF) Tryz.tbs_ok [3] [] (.inr 4) (M) ([L[i]]) ((M)++([L[i]])) (q+1) rfl rfl rfl rfl rfl rfl rfl (by decide) rfl (by decide) (fun _ p=>starH_one.1 p) rfl (fun _ p=>Pt.rd p rfl) (by first | rfl | simp) (by first | rfl | omega) (aM (q+1)) (aN (q+1)) (fun _ _=>aL) (fun A45 c46 h47=>?_))
     refine aG ?_
     refine wN (i+1) ?_
     refine ev_fin (round_next ((i+1,A45,q+1,c46,M++[L[i]],false)) (?_:i+1≤n∧q+1=(M++[L[i]]).length∧M++[L[i]]=putM L f (i+1)∧false=decide (posF L f.n<i+1)) (show n-(i+1)<n-i from (by omega)) aS)
     exact ⟨by omega,by rw [List.length_append,←hq];rfl,by rw [hst,←hM],(decide_eq_false (by omega)).symm⟩
   · have hb0:b=false:=by rw [hb];exact decide_eq_false (by omega)
     have hst:=putM_at hil h
     have g:=g2 h
     subst hb0
     refine aG ?_
     refine ev_stop (go_draw Tryz.tbs_ok true [0,1,2,3] [(0,true),(1,true),(2,true),(3,true),(4,true),(5,true),(6,true),(7,true),(8,true),(9,true),(10,true),(11,true),(12,true),(13,true),(14,true)] rfl ?_)
     refine aG (aE (aJ (aE ?_)))
     refine ev_stop (tk_index0 (sz:=3) Tryz.tbs_ok (.inr 1) (i) aB rfl rfl rfl rfl rfl rfl rfl (by omega) rfl Row.at0 (fun g60 e61=>?_))
     subst e61
     refine aG (aE ?_)
     have l62:i<(L).length:=(by omega)
     refine ev_stop (tk_loadE Tryz.tbs_ok (.inr 1) (i) 0 aB rfl rfl rfl rfl rfl (fun _ h=>Row.rd h) (by omega) (fun _=>rfl) (by omega) l62 (by decide) ?_)
     refine aG (aE ?_)
     refine ev_stop (tk_bin (.bq (decide (ltS (f.n) (L[i].n)))) trivial aB rfl rfl rfl rfl rfl rfl (by decide) (by decide) (fun w=>lss_runS w) ?_)
     refine aG (aE ?_)
     refine aJ ?_ (decide_eq_true (by with_reducible assumption))
     refine ev_new fun b63=>?_
     refine ev_stop (go_appendE (sz:=3) (M:=[_]) (enc:=encF) Tryz.tbs_ok [3] [] (.inr 4) (M) ([f]) ((M)++([f])) (q+1) rfl rfl rfl rfl rfl rfl rfl (by decide) rfl (by decide) (fun _ p=>starH_one.1 p) rfl (fun _ p=>Pt.rd p rfl) (by first | rfl | simp) (by first | rfl | omega) (aM (q+1)) (aN (q+1)) (fun _ _=>aL) (fun A64 c65 h66=>?_))
     refine aG ?_
     refine ev_stop (go_atE (sz:=3) Tryz.tbs_ok (i) rfl rfl rfl rfl rfl rfl (by omega) ?_)
     refine aG ?_
     have l67:i<(L).length:=(by omega)
     refine ev_stop (go_loadE Tryz.tbs_ok (.inr 1) (i) 0 rfl rfl rfl rfl (fun _ h=>Row.rd h) (by omega) (fun _=>rfl) (by omega) l67 (by decide) ?_)
     refine aG ?_
     refine ev_new fun b68=>?_
     refine ev_stop (go_appendE (sz:=3) (M:=[_]) (enc:=encF) Tryz.tbs_ok [3] [] (.inr 5) (M++[f]) ([L[i]]) ((M++[f])++([L[i]])) (q+1+1) rfl rfl rfl rfl rfl rfl rfl (by decide) rfl (by decide) (fun _ p=>starH_one.1 p) rfl (fun _ p=>Pt.rd p rfl) (by first | rfl | simp) (by first | rfl | omega) (aM (q+1+1)) (aN (q+1+1)) (fun _ _=>aL) (fun A69 c70 h71=>?_))
     refine aG ?_
     refine wN (i+1) ?_
     refine ev_slot 5 _ (.bq true) rfl rfl rfl (fun _=>trivial) ?_
     refine ev_fin (round_next ((i+1,A69,q+1+1,c70,M++[f]++[L[i]],true)) (?_:i+1≤n∧q+1+1=(M++[f]++[L[i]]).length∧M++[f]++[L[i]]=putM L f (i+1)∧true=decide (posF L f.n<i+1)) (show n-(i+1)<n-i from (by omega)) aS)
     exact ⟨by omega,by rw [List.length_append,List.length_append,←hq];rfl,by rw [hst,←hM],(decide_eq_true (by omega)).symm⟩
   have hb0:b=true:=by rw [hb];exact decide_eq_true (by omega)
   have hst:=putM_lt hil (show i≠posF L f.n by omega)
   subst hb0
   refine aG ?_
   refine ev_stop (go_draw Tryz.tbs_ok true [0,1,2,3] [(0,true),(1,true),(2,true),(3,true),(4,true),(5,true),(6,true),(7,true),(8,true),(9,true),(10,true),(11,true),(12,true),(13,true),(14,true)] rfl ?_)
   refine aG (aE (aI (aE ?_)))
   refine ev_stop (go_index0 (sz:=3) Tryz.tbs_ok (.inr 1) (i) rfl rfl rfl rfl rfl rfl (by omega) rfl Row.at0 (fun g80 e81=>?_))
   subst e81
   refine aG ?_
   have l82:i<(L).length:=(by omega)
   refine ev_stop (go_loadE Tryz.tbs_ok (.inr 1) (i) 0 rfl rfl rfl rfl (fun _ h=>Row.rd h) (by omega) (fun _=>rfl) (by omega) l82 (by decide) ?_)
   refine aG ?_
   refine ev_new fun b83=>?_
   refine ev_stop (go_appendE (sz:=3) (M:=[_]) (enc:=encF) Tryz.tbs_ok [3] [] (.inr 4) (M) ([L[i]]) ((M)++([L[i]])) (q+1) rfl rfl rfl rfl rfl rfl rfl (by decide) rfl (by decide) (fun _ p=>starH_one.1 p) rfl (fun _ p=>Pt.rd p rfl) (by first | rfl | simp) (by first | rfl | omega) (aM (q+1)) (aN (q+1)) (fun _ _=>aL) (fun A84 c85 h86=>?_))
   refine aG ?_
   refine wN (i+1) ?_
   refine ev_fin (round_next ((i+1,A84,q+1,c85,M++[L[i]],true)) (?_:i+1≤n∧q+1=(M++[L[i]]).length∧M++[L[i]]=putM L f (i+1)∧true=decide (posF L f.n<i+1)) (show n-(i+1)<n-i from (by omega)) aS)
   exact ⟨by omega,by rw [List.length_append,←hq];rfl,by rw [hst,←hM],(decide_eq_true (by omega)).symm⟩
 obtain rfl:i=n:=by
  have:¬ (i:Int)<(n:Int):=hge
  omega
 have hql:=putM_len f (show i≤L.length by omega)
 rw [←hM,←hq] at hql
 by_cases h:posF L f.n<i
 · have hb0:b=true:=by rw [hb];exact decide_eq_true h
   subst hb0
   rw [if_neg (by omega)] at hql
   have hM2:M=insF L f:=by rw [hM,hn];exact putM_end f (by omega)
   subst hM2 hql
   refine aG ?_
   refine ev_fin (go Tryz.tbs_ok 1000 ?_)
   refine aI ?_
   exact ev_fin ⟨trivial,_,rfl,((C,e)),rfl,trivial,aF [0,3]⟩
 have hb0:b=false:=by rw [hb];exact decide_eq_false h
 subst hb0
 rw [if_pos (by omega)] at hql
 have hM2:M++[f]=insF L f:=by rw [hM,hn];exact putM_end2 f (by omega)
 subst hql
 refine aG ?_
 refine ev_fin (go Tryz.tbs_ok 1000 ?_)
 refine aJ ?_
 refine ev_new fun b120=>?_
 refine ev_stop (go_appendE (sz:=3) (M:=[_]) (enc:=encF) Tryz.tbs_ok [3] [] (.inr 4) (M) ([f]) ((M)++([f])) (q+1) rfl rfl rfl rfl rfl rfl rfl (by decide) rfl (by decide) (fun _ p=>starH_one.1 p) rfl (fun _ p=>Pt.rd p rfl) (by first | rfl | simp) (by first | rfl | omega) (aM (q+1)) (aN (q+1)) (fun _ _=>aL) (fun A121 c122 h123=>?_))
 refine aG ?_
 rw [hM2]
 exact ev_fin ⟨trivial,_,rfl,((A121,c122)),rfl,trivial,aF [0,3]⟩
theorem rSize (r:Nat) (m s:Int) (dn:Bool) (A:Option Addr) (n c:Nat) (st:Bool) (lf:Int) (B:Option Addr) (k d:Nat) (L:List Fl) (hn:n=L.length) (h1:n≤1000) (hb:sumD L≤1000000000):Triple Tryz.prog 83 [pP r] [Pt r 105 [.int .i64 m,.int .i64 s,.bool dn,.slice A n c,.bool st,.int .i64 lf,.slice B k d],Row 117 3 A n c (L.flatMap encF)] [] Unit (fun _=>.int .i64 (sumD L:Nat)) (fun _=>True) (fun _=>[Pt r 105 [.int .i64 m,.int .i64 s,.bool dn,.slice A n c,.bool st,.int .i64 lf,.slice B k d],Row 117 3 A n c (L.flatMap encF)]):=by
 refine aT Tryz.func83 [.pt 0 r 0] [.box r 105 [vI m,vI s,.va (.bool dn),vL A n c,.va (.bool st),vI lf,vL B k d],.fact (Row 117 3 A n c (L.flatMap encF))] (fun E=>?_) ⟨rfl,trivial⟩
 refine aG ?_
 refine ev_stop (go_loopR [3,4,5,6,7,8,9,10,11,12,13,14,15,16,17,18,19,20,21,22,23,24] (fun (j,q)=>[(3,vI q),(4,vI (j:Nat))]) (fun _=>[]) (fun (j,q)=>j≤n∧q=((sumD (L.take j):Nat):Int)) (fun (j,_)=>n-j) ((0,0):Nat × Int) ⟨Nat.zero_le _,rfl⟩ aS (fun x_ h_=>?_))
 obtain ⟨j,q⟩:=x_
 obtain ⟨hj,hq⟩:=h_
 refine aG ?_
 refine ev_if_lt (fun hlt=>?_) (fun hge=>?_)
 · have hjn:j<L.length:=by
    have:(j:Int)<(n:Int):=hlt
    omega
   have hs1:=sumD_step hjn
   have hs2:=sumD_take L (j+1)
   refine aG ?_
   refine ev_stop (go_index0 (sz:=3) Tryz.tbs_ok (.inr 1) (j) rfl rfl rfl rfl rfl rfl (by omega) rfl Row.at0 (fun g40 e41=>?_))
   subst e41
   refine aG ?_
   have l42:j<(L).length:=(by omega)
   refine ev_stop (go_loadE Tryz.tbs_ok (.inr 1) (j) 1 rfl rfl rfl rfl (fun _ h=>Row.rd h) (by omega) (fun _=>rfl) (by omega) l42 (by decide) ?_)
   refine aG ?_
   refine w6 ?_
   refine wN (j+1) ?_
   refine ev_fin (round_next ((j+1,q+(↑L[j].d.size:Int))) (show j+1≤n∧q+(↑L[j].d.size:Int)=(↑(sumD (List.take (j+1) L)):Int) from (by omega)) (show n-(j+1)<n-j from (by omega)) aS)
 refine aG ?_
 refine ev_fin (go Tryz.tbs_ok 1000 ?_)
 refine ev_fin ⟨trivial,_,rfl,(),?_,trivial,aF [0,1]⟩
 rw [hq,List.take_of_length_le (by omega)]
 rfl
theorem rNames (r:Nat) (m s:Int) (dn:Bool) (A:Option Addr) (n c:Nat) (st:Bool) (lf:Int) (B:Option Addr) (k d:Nat) (L:List Fl) (hn:n=L.length) (h1:n≤1000):Triple Tryz.prog 34 [pP r] [Pt r 105 [.int .i64 m,.int .i64 s,.bool dn,.slice A n c,.bool st,.int .i64 lf,.slice B k d],Row 117 3 A n c (L.flatMap encF)] [] (Option Addr × Nat) (fun (C,e)=>.slice C n e) (fun _=>True) (fun (C,e)=>[Pt r 105 [.int .i64 m,.int .i64 s,.bool dn,.slice A n c,.bool st,.int .i64 lf,.slice B k d],Row 117 3 A n c (L.flatMap encF),Row 9 1 C n e ((L.map nameEG).flatMap encS)]):=by
 refine aT Tryz.func34 [.pt 0 r 0] [.box r 105 [vI m,vI s,.va (.bool dn),vL A n c,.va (.bool st),vI lf,vL B k d],.fact (Row 117 3 A n c (L.flatMap encF))] (fun E=>?_) ⟨rfl,trivial⟩
 refine aG ?_
 refine ev_stop (go_fact (Row 9 1 none 0 0 (([]:List ByteArray).flatMap encS)) (Row.nilE _ _) ?_)
 refine aG ?_
 refine ev_stop (go_loopR [3,4,5,6,7,8,9,10,11,12,13,14,15,16,17,18,19,20,21,22,23,24] (fun (j,C,q,e,_)=>[(3,vL C q e),(4,vI (j:Nat))]) (fun (_,C,q,e,M)=>[(2,.fact (Row 9 1 C q e (M.flatMap encS)))]) (fun (j,_,q,_,M)=>j≤n∧q=M.length∧q=j∧M=(L.take j).map nameEG) (fun (j,_,_,_,_)=>n-j) ((0,none,0,0,[]):Nat × Option Addr × Nat × Nat × List ByteArray) ⟨Nat.zero_le _,rfl,rfl,rfl⟩ aS (fun x_ h_=>?_))
 obtain ⟨j,C,q,e,M⟩:=x_
 obtain ⟨hj,hq,hqj,hM⟩:=h_
 refine aG ?_
 refine ev_if_lt (fun hlt=>?_) (fun hge=>?_)
 · have hjn:j<L.length:=by
    have:(j:Int)<(n:Int):=hlt
    omega
   refine aG ?_
   refine ev_stop (go_index0 (sz:=3) Tryz.tbs_ok (.inr 1) (j) rfl rfl rfl rfl rfl rfl (by omega) rfl Row.at0 (fun g40 e41=>?_))
   subst e41
   refine aG ?_
   have l42:j<(L).length:=(by omega)
   refine ev_stop (go_loadE Tryz.tbs_ok (.inr 1) (j) 0 rfl rfl rfl rfl (fun _ h=>Row.rd h) (by omega) (fun _=>rfl) (by omega) l42 (by decide) ?_)
   refine aG ?_
   refine ev_new fun b43=>?_
   refine ev_stop (go_appendE (sz:=1) (M:=[_]) (enc:=encS) Tryz.tbs_ok [2] [] (.inr 3) (M) ([L[j].n]) ((M)++([L[j].n])) (q+1) rfl rfl rfl rfl rfl rfl rfl (by decide) rfl (by decide) (fun _ p=>starH_one.1 p) rfl (fun _ p=>Pt.rd p rfl) (by first | rfl | simp) (by first | rfl | omega) (aM (q+1)) (aN (q+1)) (fun _ _=>aL) (fun A44 c45 h46=>?_))
   refine aG ?_
   refine wN (j+1) ?_
   refine ev_fin (round_next ((j+1,A44,q+1,c45,M++[L[j].n])) (?_:j+1≤n∧q+1=(M++[L[j].n]).length∧q+1=j+1∧M++[L[j].n]=List.map nameEG (List.take (j+1) L)) (show n-(j+1)<n-j from (by omega)) aS)
   refine ⟨by omega,by rw [List.length_append,←hq];rfl,by omega,?_⟩
   rw [hM,←List.take_append_getElem hjn,List.map_append]
   rfl
 obtain rfl:j=n:=by
  have:¬ (j:Int)<(n:Int):=hge
  omega
 obtain rfl:=hqj
 rw [List.take_of_length_le (by omega)] at hM
 subst hM
 refine aG ?_
 refine ev_fin (go Tryz.tbs_ok 1000 ?_)
 exact ev_fin ⟨trivial,_,rfl,((C,e)),rfl,trivial,aF [0,1,2]⟩
theorem rLeft (r:Nat) (m s:Int) (dn:Bool) (A:Option Addr) (n c:Nat) (st:Bool) (lf:Int) (B:Option Addr) (k d:Nat) (L:List Fl) (hn:n=L.length) (h1:n≤1000) (hL:okF L):Triple Tryz.prog 72 [pP r] [Pt r 105 [.int .i64 m,.int .i64 s,.bool dn,.slice A n c,.bool st,.int .i64 lf,.slice B k d],Row 117 3 A n c (L.flatMap encF)] [] (Option Addr × Nat) (fun (C,e)=>.slice C n e) (fun _=>True) (fun (C,e)=>[Pt r 105 [.int .i64 m,.int .i64 s,.bool dn,.slice A n c,.bool st,.int .i64 lf,.slice B k d],Row 117 3 A n c (L.flatMap encF),Row 3 1 C n e ((L.map leftEG).flatMap encN)]):=by
 refine aT Tryz.func72 [.pt 0 r 0] [.box r 105 [vI m,vI s,.va (.bool dn),vL A n c,.va (.bool st),vI lf,vL B k d],.fact (Row 117 3 A n c (L.flatMap encF))] (fun E=>?_) ⟨rfl,trivial⟩
 refine aG ?_
 refine ev_stop (go_fact (Row 3 1 none 0 0 (([]:List Int).flatMap encN)) (Row.nilE _ _) ?_)
 refine aG ?_
 refine ev_stop (go_loopR [3,4,5,6,7,8,9,10,11,12,13,14,15,16,17,18,19,20,21,22,23,24,25,26,27,28,29,30,31,32,33,34] (fun (j,C,q,e,_)=>[(3,vL C q e),(4,vI (j:Nat))]) (fun (_,C,q,e,M)=>[(2,.fact (Row 3 1 C q e (M.flatMap encN)))]) (fun (j,_,q,_,M)=>j≤n∧q=M.length∧q=j∧M=(L.take j).map leftEG) (fun (j,_,_,_,_)=>n-j) ((0,none,0,0,[]):Nat × Option Addr × Nat × Nat × List Int) ⟨Nat.zero_le _,rfl,rfl,rfl⟩ aS (fun x_ h_=>?_))
 obtain ⟨j,C,q,e,M⟩:=x_
 obtain ⟨hj,hq,hqj,hM⟩:=h_
 refine aG ?_
 refine ev_if_lt (fun hlt=>?_) (fun hge=>?_)
 · have hjn:j<L.length:=by
    have:(j:Int)<(n:Int):=hlt
    omega
   have hf:=hL _ (List.getElem_mem hjn)
   refine aG ?_
   refine ev_stop (go_draw Tryz.tbs_ok false [0,1] [(0,true),(1,true),(2,true),(3,true),(4,true),(5,true),(6,true),(7,true),(8,true),(9,true),(10,true),(11,true),(12,true),(13,true),(14,true),(15,true),(16,true),(17,true),(18,true),(19,false),(20,false),(21,false)] rfl ?_)
   refine aG (aE ?_)
   refine ev_stop (tk_index0 (sz:=3) Tryz.tbs_ok (.inr 1) (j) aB rfl rfl rfl rfl rfl rfl rfl (by omega) rfl Row.at0 (fun g40 e41=>?_))
   subst e41
   refine aG (aE ?_)
   have l42:j<(L).length:=(by omega)
   refine ev_stop (tk_loadE Tryz.tbs_ok (.inr 1) (j) 1 aB rfl rfl rfl rfl rfl (fun _ h=>Row.rd h) (by omega) (fun _=>rfl) (by omega) l42 (by decide) ?_)
   refine aG (aE ?_)
   refine ev_stop (tk_atE (sz:=3) Tryz.tbs_ok (j) aB rfl rfl rfl rfl rfl rfl rfl (by omega) ?_)
   refine aG (aE ?_)
   have l43:j<(L).length:=(by omega)
   refine ev_stop (tk_loadE Tryz.tbs_ok (.inr 1) (j) 2 aB rfl rfl rfl rfl rfl (fun _ h=>Row.rd h) (by omega) (fun _=>rfl) (by omega) l43 (by decide) ?_)
   refine aG (aE ?_)
   refine w6 ?_
   refine ev_new fun b44=>?_
   refine aE ?_
   refine ev_stop (go_appendE (sz:=1) (M:=[_]) (enc:=encN) Tryz.tbs_ok [2] [] (.inr 3) (M) ([(↑L[j].d.size:Int)-L[j].s]) ((M)++([(↑L[j].d.size:Int)-L[j].s])) (q+1) rfl rfl rfl rfl rfl rfl rfl (by decide) rfl (by decide) (fun _ p=>starH_one.1 p) rfl (fun _ p=>Pt.rd p rfl) (by first | rfl | simp) (by first | rfl | omega) (aM (q+1)) (aN (q+1)) (fun _ _=>aL) (fun A45 c46 h47=>?_))
   refine aG (aE (aK ?_))
   refine wN (j+1) ?_
   refine ev_fin (round_next ((j+1,A45,q+1,c46,M++[(↑L[j].d.size:Int)-L[j].s])) (?_:j+1≤n∧q+1=(M++[(↑L[j].d.size:Int)-L[j].s]).length∧q+1=j+1∧M++[(↑L[j].d.size:Int)-L[j].s]=List.map leftEG (List.take (j+1) L)) (show n-(j+1)<n-j from (by omega)) aS)
   refine ⟨by omega,by rw [List.length_append,←hq];rfl,by omega,?_⟩
   rw [hM,←List.take_append_getElem hjn,List.map_append]
   rfl
 obtain rfl:j=n:=by
  have:¬ (j:Int)<(n:Int):=hge
  omega
 obtain rfl:=hqj
 rw [List.take_of_length_le (by omega)] at hM
 subst hM
 refine aG ?_
 refine ev_fin (go Tryz.tbs_ok 1000 ?_)
 exact ev_fin ⟨trivial,_,rfl,((C,e)),rfl,trivial,aF [0,1,2]⟩
theorem rFailsN (r:Nat) (m s:Int) (dn:Bool) (A:Option Addr) (n c:Nat) (lf:Int) (B:Option Addr) (k d:Nat):Triple Tryz.prog 85 [pP r] [Pt r 105 [.int .i64 m,.int .i64 s,.bool dn,.slice A n c,.bool false,.int .i64 lf,.slice B k d]] [] Unit (fun _=>.bool false) (fun _=>True) (fun _=>[Pt r 105 [.int .i64 m,.int .i64 s,.bool dn,.slice A n c,.bool false,.int .i64 lf,.slice B k d]]):=by
 refine aT Tryz.func85 [.pt 0 r 0] [.box r 105 [vI m,vI s,.va (.bool dn),vL A n c,.va (.bool false),vI lf,vL B k d]] (fun E=>?_) ⟨rfl,trivial⟩
 refine aG (aJ ?_)
 exact ev_fin ⟨trivial,_,rfl,(),rfl,trivial,aF [0]⟩
theorem rFailsG (r:Nat) (m s:Int) (dn:Bool) (A:Option Addr) (n c:Nat) (lf:Int) (B:Option Addr) (k d:Nat) (hq:0<lf) (hq2:lf≤9223372036854775807):Triple Tryz.prog 85 [pP r] [Pt r 105 [.int .i64 m,.int .i64 s,.bool dn,.slice A n c,.bool true,.int .i64 lf,.slice B k d]] [] Unit (fun _=>.bool false) (fun _=>True) (fun _=>[Pt r 105 [.int .i64 m,.int .i64 s,.bool dn,.slice A n c,.bool true,.int .i64 (lf-1),.slice B k d]]):=by
 refine aT Tryz.func85 [.pt 0 r 0] [.box r 105 [vI m,vI s,.va (.bool dn),vL A n c,.va (.bool true),vI lf,vL B k d]] (fun E=>?_) ⟨rfl,trivial⟩
 refine aG (aI ?_)
 refine aI ?_ (beq_eq_false_iff_ne.2 (show ¬lf=0 from (by omega)))
 refine w6 ?_
 exact ev_fin ⟨trivial,_,rfl,(),rfl,trivial,aF [0]⟩
theorem rFailsS (r:Nat) (m s:Int) (dn:Bool) (A:Option Addr) (n c:Nat) (lf:Int) (B:Option Addr) (k d:Nat) (hq:lf=0):Triple Tryz.prog 85 [pP r] [Pt r 105 [.int .i64 m,.int .i64 s,.bool dn,.slice A n c,.bool true,.int .i64 lf,.slice B k d]] [] Unit (fun _=>.bool true) (fun _=>True) (fun _=>[Pt r 105 [.int .i64 m,.int .i64 s,.bool dn,.slice A n c,.bool true,.int .i64 lf,.slice B k d]]):=by
 refine aT Tryz.func85 [.pt 0 r 0] [.box r 105 [vI m,vI s,.va (.bool dn),vL A n c,.va (.bool true),vI lf,vL B k d]] (fun E=>?_) ⟨rfl,trivial⟩
 refine aG (aI ?_)
 refine aJ ?_ (beq_iff_eq.2 (by with_reducible assumption))
 exact ev_fin ⟨trivial,_,rfl,(),rfl,trivial,aF [0]⟩
theorem rCrashDown (r:Nat) (m s:Int) (A:Option Addr) (n c:Nat) (st:Bool) (lf:Int) (B:Option Addr) (k d:Nat) (Q:Option Addr) (kq dq:Nat):Triple Tryz.prog 66 [pP r,.slice Q kq dq] [Pt r 105 [.int .i64 m,.int .i64 s,.bool true,.slice A n c,.bool st,.int .i64 lf,.slice B k d]] [] Unit (fun _=>.int .i64 41) (fun _=>True) (fun _=>[Pt r 105 [.int .i64 m,.int .i64 s,.bool true,.slice A n c,.bool st,.int .i64 lf,.slice B k d]]):=by
 refine aT Tryz.func66 [.pt 0 r 0,vL Q kq dq] [.box r 105 [vI m,vI s,.va (.bool true),vL A n c,.va (.bool st),vI lf,vL B k d]] (fun E=>?_) ⟨rfl,trivial,trivial⟩
 refine aG (aJ ?_)
 exact ev_fin ⟨trivial,_,rfl,(),rfl,trivial,aF [0]⟩
set_option maxHeartbeats 1000000 in
theorem rCrash (r:Nat) (m s:Int) (A:Option Addr) (n c:Nat) (st:Bool) (lf:Int) (B:Option Addr) (k d:Nat) (L:List Fl) (hn:n=L.length) (h1:n≤1000) (Q:Option Addr) (kq dq:Nat) (K:List Int) (hq:kq=K.length) (hL:okF L):Triple Tryz.prog 66 [pP r,.slice Q kq dq] [Pt r 105 [.int .i64 m,.int .i64 s,.bool false,.slice A n c,.bool st,.int .i64 lf,.slice B k d],Row 117 3 A n c (L.flatMap encF)] [Rd 1 Q kq (K.flatMap encN)] Unit (fun _=>.int .i64 0) (fun _=>True) (fun _=>[Pt r 105 [.int .i64 m,.int .i64 s,.bool true,.slice A n c,.bool false,.int .i64 lf,.slice B k d],Row 117 3 A n c ((crashF L K).flatMap encF)]):=by
 refine aT Tryz.func66 [.pt 0 r 0,vL Q kq dq] [.box r 105 [vI m,vI s,.va (.bool false),vL A n c,.va (.bool st),vI lf,vL B k d],.fact (Row 117 3 A n c (L.flatMap encF))] (fun E=>?_) ⟨rfl,trivial,trivial⟩
 refine aG (aI ?_)
 refine ev_stop (go_loopR [5,6,17,18,19,20,21,22,23,24,25,26,27,28,29,30,31,32,33,34,35,36,37,38,39,40,41,42,43,44,45,46,47,48,49,50,51,52,53,54,55,56,57,58,59,60,61,62,63,64,65,66,67,68,69,70,71,72,73,74,75,76,77,78,79,80,81,82,83,84,85,86,87,88,89,90,91,92,93,94] (fun j=>[(5,vI (j:Nat))]) (fun j=>[(1,.fact (Row 117 3 A n c (((crashF L K).take j++L.drop j).flatMap encF)))]) (fun j=>j≤n) (fun j=>n-j) (0:Nat) (Nat.zero_le _) aS (fun j hj=>?_))
 refine aG ?_
 refine ev_if_lt (fun hlt=>?_) (fun hge=>?_)
 · have hjn:j<L.length:=by
    have:(j:Int)<(n:Int):=hlt
    omega
   have hf:=hL _ (List.getElem_mem hjn)
   obtain ⟨C,hC⟩:∃ C,C=(crashF L K).take j++L.drop j:=⟨_,rfl⟩
   have hCl:C.length=n:=by rw [hC,List.length_append,List.length_take,crashF_len,List.length_drop];omega
   have hCj:C[j]'(by omega)=L[j]:=by simp only [hC];exact crashF_get hjn
   rw [←hCj] at hf
   rw [←hC]
   have hj2:j<C.length:=by omega
   by_cases hK:j<K.length
   · have e1:C.set j (⟨C[j].n,C[j].d.extract 0 (C[j].s+max 0 (min K[j] ((C[j].d.size:Int)-C[j].s))).toNat,C[j].s+max 0 (min K[j] ((C[j].d.size:Int)-C[j].s))⟩:Fl)=(crashF L K).take (j+1)++L.drop (j+1):=by
      rw [hCj,hC]
      exact crashF_step hjn _ (by rw [List.getElem?_eq_getElem hK];rfl)
     refine aG ?_
     refine aJ ?_ (decide_eq_true (show (↑j:Int)<(↑kq:Int) from (by omega)))
     refine ev_stop (go_draw Tryz.tbs_ok false [0,1] [(0,true),(1,true),(2,true),(3,true),(4,true),(5,true),(6,true),(7,true),(8,true),(9,true),(10,true),(11,true),(12,true),(13,true),(14,true),(15,true),(16,true),(17,true),(18,true),(19,true),(20,true),(21,true),(22,true),(23,true),(24,false)] rfl ?_)
     refine aG (aE ?_)
     refine ev_stop (tk_indexE (sz:=1) Tryz.tbs_ok (.inl 0) (j) aB rfl rfl rfl rfl rfl rfl rfl (by omega) rfl (fun _ h=>h) (fun g40 o42 e41=>?_))
     subst e41
     refine aG (aE ?_)
     have l43:j<(K).length:=(by omega)
     refine ev_stop (tk_loadE Tryz.tbs_ok (.inl 0) (j) 0 aB rfl rfl rfl rfl rfl (fun _ h=>h) (by omega) (fun _=>rfl) (by omega) l43 (by decide) ?_)
     refine aG (aE ?_)
     refine ev_stop (tk_index0 (sz:=3) Tryz.tbs_ok (.inr 1) (j) aB rfl rfl rfl rfl rfl rfl rfl (by omega) rfl Row.at0 (fun g44 e45=>?_))
     subst e45
     refine aG (aE ?_)
     have l46:j<(C).length:=(by omega)
     refine ev_stop (tk_loadE Tryz.tbs_ok (.inr 1) (j) 1 aB rfl rfl rfl rfl rfl (fun _ h=>Row.rd h) (by omega) (fun _=>rfl) (by omega) l46 (by decide) ?_)
     refine aG (aE ?_)
     refine ev_stop (tk_atE (sz:=3) Tryz.tbs_ok (j) aB rfl rfl rfl rfl rfl rfl rfl (by omega) ?_)
     refine aG (aE ?_)
     have l47:j<(C).length:=(by omega)
     refine ev_stop (tk_loadE Tryz.tbs_ok (.inr 1) (j) 2 aB rfl rfl rfl rfl rfl (fun _ h=>Row.rd h) (by omega) (fun _=>rfl) (by omega) l47 (by decide) ?_)
     refine aG (aE ?_)
     refine w6 ?_
     refine aK ?_
     refine ev_stop (go_draw Tryz.tbs_ok false [0,1] [(0,true),(1,true),(2,true),(3,true),(4,true),(5,true),(6,true),(7,true),(8,true),(9,true),(10,true),(11,true),(12,true),(13,true),(14,true),(15,true),(16,true),(17,false)] rfl ?_)
     refine aG (aE ?_)
     refine ev_stop (tk_atE (sz:=3) Tryz.tbs_ok (j) aB rfl rfl rfl rfl rfl rfl rfl (by omega) ?_)
     refine aG (aE ?_)
     have l48:j<(C).length:=(by omega)
     refine ev_stop (tk_loadE Tryz.tbs_ok (.inr 1) (j) 2 aB rfl rfl rfl rfl rfl (fun _ h=>Row.rd h) (by omega) (fun _=>rfl) (by omega) l48 (by decide) ?_)
     refine aG (aE ?_)
     refine w6 ?_
     refine ev_stop (tk_atE (sz:=3) Tryz.tbs_ok (j) aB rfl rfl rfl rfl rfl rfl rfl (by omega) ?_)
     refine aG (aE ?_)
     have l49:j<(C).length:=(by omega)
     refine ev_stop (go_storeR Tryz.tbs_ok 1 (j) 2 ({ n:=C[j].n,d:=C[j].d,s:=C[j].s+max 0 (min K[j] ((↑C[j].d.size:Int)-C[j].s)):Fl }) rfl rfl rfl rfl rfl (by omega) (fun _=>rfl) (ones_of rfl) (by omega) l49 rfl (by decide) (ones_of rfl) rfl ?_)
     refine aG (aK ?_)
     refine ev_stop (go_draw Tryz.tbs_ok false [0,1] [(0,true),(1,true),(2,true),(3,true),(4,true),(5,true),(6,true),(7,true),(8,true),(9,true),(10,true),(11,true),(12,true),(13,true),(14,true),(15,true),(16,true),(17,true),(18,true),(19,true),(20,true),(21,true),(22,true),(23,true),(24,false)] rfl ?_)
     refine aG (aE ?_)
     refine ev_stop (tk_atE (sz:=3) Tryz.tbs_ok (j) aB rfl rfl rfl rfl rfl rfl rfl (by omega) ?_)
     refine aG (aE ?_)
     have l50:j<(C.set j { n:=C[j].n,d:=C[j].d,s:=C[j].s+max 0 (min K[j] ((↑C[j].d.size:Int)-C[j].s)):Fl }).length:=(by (simp only [List.length_set];omega))
     refine ev_stop (tk_loadE Tryz.tbs_ok (.inr 1) (j) 1 aB rfl rfl rfl rfl rfl (fun _ h=>Row.rd h) (by omega) (fun _=>rfl) (by omega) l50 (by decide) ?_)
     refine aG (aE ?_)
     refine ev_stop (tk_atE (sz:=3) Tryz.tbs_ok (j) aB rfl rfl rfl rfl rfl rfl rfl (by omega) ?_)
     refine aG (aE ?_)
     have l51:j<(C.set j { n:=C[j].n,d:=C[j].d,s:=C[j].s+max 0 (min K[j] ((↑C[j].d.size:Int)-C[j].s)):Fl }).length:=(by omega)
     refine ev_stop (tk_loadE Tryz.tbs_ok (.inr 1) (j) 2 aB rfl rfl rfl rfl rfl (fun _ h=>Row.rd h) (by omega) (fun _=>rfl) (by omega) l51 (by decide) ?_)
     refine aG (aE ?_)
     refine ev_stop (go_slot 91 _ (.va (.int IntKind.i64 (((C.set j { n:=C[j].n,d:=C[j].d,s:=C[j].s+max 0 (min K[j] ((↑C[j].d.size:Int)-C[j].s)):Fl })[j].s.toNat:Nat):Int))) rfl rfl (congrArg (fun z=>Value.int IntKind.i64 z) (show (C.set j { n:=C[j].n,d:=C[j].d,s:=C[j].s+max 0 (min K[j] ((↑C[j].d.size:Int)-C[j].s)):Fl })[j].s=(((C.set j { n:=C[j].n,d:=C[j].d,s:=C[j].s+max 0 (min K[j] ((↑C[j].d.size:Int)-C[j].s)):Fl })[j].s.toNat:Nat):Int) by first | omega | (simp only [List.getElem_set_self];omega))) (fun _=>trivial) ?_)
     refine aG (aE ?_)
     refine ev_stop (tk_sliceS Tryz.tbs_ok (0) ((C.set j { n:=C[j].n,d:=C[j].d,s:=C[j].s+max 0 (min K[j] ((↑C[j].d.size:Int)-C[j].s)):Fl })[j].s.toNat) aB rfl rfl rfl rfl rfl rfl ⟨_,rfl⟩ (by omega) (by (simp only [List.getElem_set_self];omega)) ?_)
     refine aG (aE ?_)
     refine ev_stop (tk_atE (sz:=3) Tryz.tbs_ok (j) aB rfl rfl rfl rfl rfl rfl rfl (by omega) ?_)
     refine aG (aE ?_)
     have l52:j<(C.set j { n:=C[j].n,d:=C[j].d,s:=C[j].s+max 0 (min K[j] ((↑C[j].d.size:Int)-C[j].s)):Fl }).length:=(by omega)
     refine ev_stop (go_storeR Tryz.tbs_ok 1 (j) 1 ({ n:=(C.set j { n:=C[j].n,d:=C[j].d,s:=C[j].s+max 0 (min K[j] ((↑C[j].d.size:Int)-C[j].s)):Fl })[j].n,d:=(C.set j { n:=C[j].n,d:=C[j].d,s:=C[j].s+max 0 (min K[j] ((↑C[j].d.size:Int)-C[j].s)):Fl })[j].d.extract 0 (C.set j { n:=C[j].n,d:=C[j].d,s:=C[j].s+max 0 (min K[j] ((↑C[j].d.size:Int)-C[j].s)):Fl })[j].s.toNat,s:=(C.set j { n:=C[j].n,d:=C[j].d,s:=C[j].s+max 0 (min K[j] ((↑C[j].d.size:Int)-C[j].s)):Fl })[j].s:Fl }) rfl rfl rfl rfl rfl (by omega) (fun _=>rfl) (ones_of rfl) (by omega) l52 rfl (by decide) (ones_of rfl) rfl ?_)
     refine aG (aK ?_)
     refine wN (j+1) ?_
     simp only [List.getElem_set_self,List.set_set]
     rw [e1]
     refine ev_fin (round_next (j+1) (show j+1≤n from (by omega)) (show n-(j+1)<n-j from (by omega)) aS)
   have e2:C.set j (⟨C[j].n,C[j].d.extract 0 (C[j].s+0).toNat,C[j].s+0⟩:Fl)=(crashF L K).take (j+1)++L.drop (j+1):=by
    rw [hCj,hC,Int.add_zero]
    exact crashF_step hjn _ (by rw [List.getElem?_eq_none (by omega)];rfl)
   refine aG ?_
   refine aI ?_ (decide_eq_false (show ¬(↑j:Int)<(↑kq:Int) from (by omega)))
   refine ev_stop (go_draw Tryz.tbs_ok false [0,1] [(0,true),(1,true),(2,true),(3,true),(4,true),(5,true),(6,true),(7,true),(8,true),(9,true),(10,true),(11,true),(12,true),(13,true),(14,true),(15,true),(16,true),(17,false)] rfl ?_)
   refine aG (aE ?_)
   refine ev_stop (tk_index0 (sz:=3) Tryz.tbs_ok (.inr 1) (j) aB rfl rfl rfl rfl rfl rfl rfl (by omega) rfl Row.at0 (fun g40 e41=>?_))
   subst e41
   refine aG (aE ?_)
   have l42:j<(C).length:=(by omega)
   refine ev_stop (tk_loadE Tryz.tbs_ok (.inr 1) (j) 2 aB rfl rfl rfl rfl rfl (fun _ h=>Row.rd h) (by omega) (fun _=>rfl) (by omega) l42 (by decide) ?_)
   refine aG (aE ?_)
   refine w6 ?_
   refine ev_stop (tk_atE (sz:=3) Tryz.tbs_ok (j) aB rfl rfl rfl rfl rfl rfl rfl (by omega) ?_)
   refine aG (aE ?_)
   have l43:j<(C).length:=(by omega)
   refine ev_stop (go_storeR Tryz.tbs_ok 1 (j) 2 ({ n:=C[j].n,d:=C[j].d,s:=C[j].s+0:Fl }) rfl rfl rfl rfl rfl (by omega) (fun _=>rfl) (ones_of rfl) (by omega) l43 rfl (by decide) (ones_of rfl) rfl ?_)
   refine aG (aK ?_)
   refine ev_stop (go_draw Tryz.tbs_ok false [0,1] [(0,true),(1,true),(2,true),(3,true),(4,true),(5,true),(6,true),(7,true),(8,true),(9,true),(10,true),(11,true),(12,true),(13,true),(14,true),(15,true),(16,true),(17,true),(18,true),(19,true),(20,true),(21,true),(22,true),(23,true),(24,false)] rfl ?_)
   refine aG (aE ?_)
   refine ev_stop (tk_atE (sz:=3) Tryz.tbs_ok (j) aB rfl rfl rfl rfl rfl rfl rfl (by omega) ?_)
   refine aG (aE ?_)
   have l44:j<(C.set j { n:=C[j].n,d:=C[j].d,s:=C[j].s+0:Fl }).length:=(by (simp only [List.length_set];omega))
   refine ev_stop (tk_loadE Tryz.tbs_ok (.inr 1) (j) 1 aB rfl rfl rfl rfl rfl (fun _ h=>Row.rd h) (by omega) (fun _=>rfl) (by omega) l44 (by decide) ?_)
   refine aG (aE ?_)
   refine ev_stop (tk_atE (sz:=3) Tryz.tbs_ok (j) aB rfl rfl rfl rfl rfl rfl rfl (by omega) ?_)
   refine aG (aE ?_)
   have l45:j<(C.set j { n:=C[j].n,d:=C[j].d,s:=C[j].s+0:Fl }).length:=(by omega)
   refine ev_stop (tk_loadE Tryz.tbs_ok (.inr 1) (j) 2 aB rfl rfl rfl rfl rfl (fun _ h=>Row.rd h) (by omega) (fun _=>rfl) (by omega) l45 (by decide) ?_)
   refine aG (aE ?_)
   refine ev_stop (go_slot 91 _ (.va (.int IntKind.i64 (((C.set j { n:=C[j].n,d:=C[j].d,s:=C[j].s+0:Fl })[j].s.toNat:Nat):Int))) rfl rfl (congrArg (fun z=>Value.int IntKind.i64 z) (show (C.set j { n:=C[j].n,d:=C[j].d,s:=C[j].s+0:Fl })[j].s=(((C.set j { n:=C[j].n,d:=C[j].d,s:=C[j].s+0:Fl })[j].s.toNat:Nat):Int) by first | omega | (simp only [List.getElem_set_self];omega))) (fun _=>trivial) ?_)
   refine aG (aE ?_)
   refine ev_stop (tk_sliceS Tryz.tbs_ok (0) ((C.set j { n:=C[j].n,d:=C[j].d,s:=C[j].s+0:Fl })[j].s.toNat) aB rfl rfl rfl rfl rfl rfl ⟨_,rfl⟩ (by omega) (by (simp only [List.getElem_set_self];omega)) ?_)
   refine aG (aE ?_)
   refine ev_stop (tk_atE (sz:=3) Tryz.tbs_ok (j) aB rfl rfl rfl rfl rfl rfl rfl (by omega) ?_)
   refine aG (aE ?_)
   have l46:j<(C.set j { n:=C[j].n,d:=C[j].d,s:=C[j].s+0:Fl }).length:=(by omega)
   refine ev_stop (go_storeR Tryz.tbs_ok 1 (j) 1 ({ n:=(C.set j { n:=C[j].n,d:=C[j].d,s:=C[j].s+0:Fl })[j].n,d:=(C.set j { n:=C[j].n,d:=C[j].d,s:=C[j].s+0:Fl })[j].d.extract 0 (C.set j { n:=C[j].n,d:=C[j].d,s:=C[j].s+0:Fl })[j].s.toNat,s:=(C.set j { n:=C[j].n,d:=C[j].d,s:=C[j].s+0:Fl })[j].s:Fl }) rfl rfl rfl rfl rfl (by omega) (fun _=>rfl) (ones_of rfl) (by omega) l46 rfl (by decide) (ones_of rfl) rfl ?_)
   refine aG (aK ?_)
   refine wN (j+1) ?_
   simp only [List.getElem_set_self,List.set_set]
   rw [e2]
   refine ev_fin (round_next (j+1) (show j+1≤n from (by omega)) (show n-(j+1)<n-j from (by omega)) aS)
 obtain rfl:j=n:=by
  have:¬ (j:Int)<(n:Int):=hge
  omega
 have e:(crashF L K).take j++L.drop j=crashF L K:=by
  rw [List.take_of_length_le (by rw [crashF_len];omega),List.drop_of_length_le (by omega),List.append_nil]
 rw [e]
 refine aG ?_
 refine ev_fin (go Tryz.tbs_ok 1000 ?_)
 exact ev_fin ⟨trivial,_,rfl,(),rfl,trivial,aF [0,1]⟩
theorem rThereDown (r:Nat) (m s:Int) (A:Option Addr) (n c:Nat) (st:Bool) (lf:Int) (B:Option Addr) (k d:Nat) (x:ByteArray):Triple Tryz.prog 120 [pP r,.string x] [Pt r 105 [.int .i64 m,.int .i64 s,.bool true,.slice A n c,.bool st,.int .i64 lf,.slice B k d]] [] Unit (fun _=>.tuple #[.int .i64 0,.int .i64 41]) (fun _=>True) (fun _=>[Pt r 105 [.int .i64 m,.int .i64 s,.bool true,.slice A n c,.bool st,.int .i64 lf,.slice B k d]]):=by
 refine aT Tryz.func120 [.pt 0 r 0,.va (.string x)] [.box r 105 [vI m,vI s,.va (.bool true),vL A n c,.va (.bool st),vI lf,vL B k d]] (fun E=>?_) ⟨rfl,trivial,trivial⟩
 refine aG (aJ ?_)
 exact ev_fin ⟨trivial,_,rfl,(),rfl,trivial,aF [0]⟩
theorem rThereNo (r:Nat) (m s:Int) (A:Option Addr) (n c:Nat) (st:Bool) (lf:Int) (B:Option Addr) (k d:Nat) (L:List Fl) (hn:n=L.length) (h1:n≤1000) (x:ByteArray) (hs:riseF L) (hh:hasF L x=false):Triple Tryz.prog 120 [pP r,.string x] [Pt r 105 [.int .i64 m,.int .i64 s,.bool false,.slice A n c,.bool st,.int .i64 lf,.slice B k d],Row 117 3 A n c (L.flatMap encF)] [] Unit (fun _=>.tuple #[.int .i64 0,.int .i64 4]) (fun _=>True) (fun _=>[Pt r 105 [.int .i64 m,.int .i64 s,.bool false,.slice A n c,.bool st,.int .i64 lf,.slice B k d],Row 117 3 A n c (L.flatMap encF)]):=by
 have T1:=rFind r m s false A n c st lf B k d L hn h1 x hs
 rw [show ixF L x = -1 from by unfold ixF;rw [hh];rfl] at T1
 refine aT Tryz.func120 [.pt 0 r 0,.va (.string x)] [.box r 105 [vI m,vI s,.va (.bool false),vL A n c,.va (.bool st),vI lf,vL B k d],.fact (Row 117 3 A n c (L.flatMap encF))] (fun E=>?_) ⟨rfl,trivial,trivial⟩
 refine aG (aI ?_)
 refine aD T1 [0,1] [] (fun v0_=>[.box (r) 105 [vI m,vI s,.bl false,vL A n c,.bq (st),vI lf,vL B k d],.fact (Row 117 3 A n c (List.flatMap encF L))]) fun _ h0=>?_
 refine aJ ?_
 exact ev_fin ⟨trivial,_,rfl,(),rfl,trivial,aF [0,1]⟩
theorem rThereOk (r:Nat) (m s:Int) (A:Option Addr) (n c:Nat) (st:Bool) (lf:Int) (B:Option Addr) (k d:Nat) (L:List Fl) (hn:n=L.length) (h1:n≤1000) (x:ByteArray) (hs:riseF L) (hh:hasF L x=true):Triple Tryz.prog 120 [pP r,.string x] [Pt r 105 [.int .i64 m,.int .i64 s,.bool false,.slice A n c,.bool st,.int .i64 lf,.slice B k d],Row 117 3 A n c (L.flatMap encF)] [] Unit (fun _=>.tuple #[.int .i64 (posF L x:Nat),.int .i64 0]) (fun _=>True) (fun _=>[Pt r 105 [.int .i64 m,.int .i64 s,.bool false,.slice A n c,.bool st,.int .i64 lf,.slice B k d],Row 117 3 A n c (L.flatMap encF)]):=by
 have T1:=rFind r m s false A n c st lf B k d L hn h1 x hs
 rw [show ixF L x=(posF L x:Nat) from by unfold ixF;rw [hh];rfl] at T1
 refine aT Tryz.func120 [.pt 0 r 0,.va (.string x)] [.box r 105 [vI m,vI s,.va (.bool false),vL A n c,.va (.bool st),vI lf,vL B k d],.fact (Row 117 3 A n c (L.flatMap encF))] (fun E=>?_) ⟨rfl,trivial,trivial⟩
 refine aG (aI ?_)
 refine aD T1 [0,1] [] (fun v0_=>[.box (r) 105 [vI m,vI s,.bl false,vL A n c,.bq (st),vI lf,vL B k d],.fact (Row 117 3 A n c (List.flatMap encF L))]) fun _ h0=>?_
 refine aI ?_
 exact ev_fin ⟨trivial,_,rfl,(),rfl,trivial,aF [0,1]⟩
theorem rChangeN (r:Nat) (m s:Int) (A:Option Addr) (n c:Nat) (lf:Int) (B:Option Addr) (k d:Nat):Triple Tryz.prog 141 [pP r] [Pt r 105 [.int .i64 m,.int .i64 s,.bool false,.slice A n c,.bool false,.int .i64 lf,.slice B k d]] [] Unit (fun _=>.int .i64 0) (fun _=>True) (fun _=>[Pt r 105 [.int .i64 m,.int .i64 s,.bool false,.slice A n c,.bool false,.int .i64 lf,.slice B k d]]):=by
 have TF:=rFailsN r m s false A n c lf B k d
 refine aT Tryz.func141 [.pt 0 r 0] [.box r 105 [vI m,vI s,.va (.bool false),vL A n c,.va (.bool false),vI lf,vL B k d]] (fun E=>?_) ⟨rfl,trivial⟩
 refine aG ?_
 refine aD TF [0] [] (fun v0_=>[.box (r) 105 [vI m,vI s,.bl false,vL A n c,.bl false,vI lf,vL B k d]]) fun _ h0=>?_
 refine aI ?_
 exact ev_fin ⟨trivial,_,rfl,(),rfl,trivial,aF [0]⟩
theorem rChangeG (r:Nat) (m s:Int) (A:Option Addr) (n c:Nat) (lf:Int) (B:Option Addr) (k d:Nat) (hq:0<lf) (hq2:lf≤9223372036854775807):Triple Tryz.prog 141 [pP r] [Pt r 105 [.int .i64 m,.int .i64 s,.bool false,.slice A n c,.bool true,.int .i64 lf,.slice B k d]] [] Unit (fun _=>.int .i64 0) (fun _=>True) (fun _=>[Pt r 105 [.int .i64 m,.int .i64 s,.bool false,.slice A n c,.bool true,.int .i64 (lf-1),.slice B k d]]):=by
 have TF:=rFailsG r m s false A n c lf B k d hq hq2
 refine aT Tryz.func141 [.pt 0 r 0] [.box r 105 [vI m,vI s,.va (.bool false),vL A n c,.va (.bool true),vI lf,vL B k d]] (fun E=>?_) ⟨rfl,trivial⟩
 refine aG ?_
 refine aD TF [0] [] (fun v0_=>[.box (r) 105 [vI m,vI s,.bl false,vL A n c,.bl true,vI (lf-1),vL B k d]]) fun _ h0=>?_
 refine aI ?_
 exact ev_fin ⟨trivial,_,rfl,(),rfl,trivial,aF [0]⟩
theorem rChangeS (r:Nat) (m s:Int) (A:Option Addr) (n c:Nat) (lf:Int) (B:Option Addr) (k d:Nat) (L:List Fl) (hn:n=L.length) (h1:n≤1000) (hq:lf=0) (K:List Int) (hk:k=K.length) (hL:okF L):Triple Tryz.prog 141 [pP r] [Pt r 105 [.int .i64 m,.int .i64 s,.bool false,.slice A n c,.bool true,.int .i64 lf,.slice B k d],Row 117 3 A n c (L.flatMap encF),Row 3 1 B k d (K.flatMap encN)] [] Unit (fun _=>.int .i64 41) (fun _=>True) (fun _=>[Pt r 105 [.int .i64 m,.int .i64 s,.bool true,.slice A n c,.bool false,.int .i64 lf,.slice B k d],Row 117 3 A n c ((crashF L K).flatMap encF),Row 3 1 B k d (K.flatMap encN)]):=by
 have TF:=rFailsS r m s false A n c lf B k d hq
 have TC:=(rCrash r m s A n c true lf B k d L hn h1 B k d K hk hL).reads (N':=[Row 3 1 B k d (K.flatMap encN)]) (fun X hX=>⟨_,List.mem_cons_self,fun _ q=>by rw [List.mem_singleton.1 hX];exact Row.rd q⟩)
 refine aT Tryz.func141 [.pt 0 r 0] [.box r 105 [vI m,vI s,.va (.bool false),vL A n c,.va (.bool true),vI lf,vL B k d],.fact (Row 117 3 A n c (L.flatMap encF)),.fact (Row 3 1 B k d (K.flatMap encN))] (fun E=>?_) ⟨rfl,trivial⟩
 refine aG ?_
 refine aD TF [0] [] (fun v0_=>[.box (r) 105 [vI m,vI s,.bl false,vL A n c,.bl true,vI lf,vL B k d]]) fun _ h0=>?_
 refine aJ ?_
 refine aD TC [0,1] [.inr 2] (fun v0_=>[.box (r) 105 [vI m,vI s,.bl true,vL A n c,.bl false,vI lf,vL B k d],.fact (Row 117 3 A n c (List.flatMap encF (crashF L K)))]) fun _ h1=>?_
 exact ev_fin ⟨trivial,_,rfl,(),rfl,trivial,aF [0,1,2]⟩
theorem rSyncN (r:Nat) (m s:Int) (A:Option Addr) (n c:Nat) (lf:Int) (B:Option Addr) (k d:Nat) (L:List Fl) (hn:n=L.length) (h1:n≤1000) (x:ByteArray) (hs:riseF L) (hh:hasF L x=true) (hi:posF L x<L.length):Triple Tryz.prog 114 [pP r,.string x] [Pt r 105 [.int .i64 m,.int .i64 s,.bool false,.slice A n c,.bool false,.int .i64 lf,.slice B k d],Row 117 3 A n c (L.flatMap encF)] [] Unit (fun _=>.int .i64 0) (fun _=>True) (fun _=>[Pt r 105 [.int .i64 m,.int .i64 s,.bool false,.slice A n c,.bool false,.int .i64 lf,.slice B k d],Row 117 3 A n c ((L.set (posF L x) ⟨(L[posF L x]'hi).n,(L[posF L x]'hi).d,((L[posF L x]'hi).d.size:Nat)⟩).flatMap encF)]):=by
 have TT:=rThereOk r m s A n c false lf B k d L hn h1 x hs hh
 have TC:=rChangeN r m s A n c lf B k d
 refine aT Tryz.func114 [.pt 0 r 0,.va (.string x)] [.box r 105 [vI m,vI s,.va (.bool false),vL A n c,.va (.bool false),vI lf,vL B k d],.fact (Row 117 3 A n c (L.flatMap encF))] (fun E=>?_) ⟨rfl,trivial,trivial⟩
 refine aG ?_
 refine aD TT [0,1] [] (fun v0_=>[.box (r) 105 [vI m,vI s,.bl false,vL A n c,.bl false,vI lf,vL B k d],.fact (Row 117 3 A n c (List.flatMap encF L))]) fun _ h0=>?_
 refine aJ ?_
 refine aD TC [0] [] (fun v0_=>[.box (r) 105 [vI m,vI s,.bl false,vL A n c,.bl false,vI lf,vL B k d]]) fun _ h1=>?_
 refine aJ ?_
 refine ev_stop (go_draw Tryz.tbs_ok false [0,1] [(0,true),(1,true),(2,true),(3,true),(4,true),(5,true),(6,true),(7,true),(8,true),(9,true),(10,true),(11,true),(12,true),(13,true),(14,true),(15,true),(16,false)] rfl ?_)
 refine aG (aE ?_)
 refine ev_stop (tk_index0 (sz:=3) Tryz.tbs_ok (.inr 1) (posF L x) aB rfl rfl rfl rfl rfl rfl rfl (by omega) rfl Row.at0 (fun g2 e3=>?_))
 subst e3
 refine aG (aE ?_)
 have l4:posF L x<(L).length:=(by omega)
 refine ev_stop (tk_loadE Tryz.tbs_ok (.inr 1) (posF L x) 1 aB rfl rfl rfl rfl rfl (fun _ h=>Row.rd h) (by omega) (fun _=>rfl) (by omega) l4 (by decide) ?_)
 refine aG (aE ?_)
 refine ev_stop (tk_atE (sz:=3) Tryz.tbs_ok (posF L x) aB rfl rfl rfl rfl rfl rfl rfl (by omega) ?_)
 refine aG (aE ?_)
 have l5:posF L x<(L).length:=(by omega)
 refine ev_stop (go_storeR Tryz.tbs_ok 1 (posF L x) 2 ({ n:=L[posF L x].n,d:=L[posF L x].d,s:=(↑L[posF L x].d.size:Int):Fl }) rfl rfl rfl rfl rfl (by omega) (fun _=>rfl) (ones_of rfl) (by omega) l5 rfl (by decide) (ones_of rfl) rfl ?_)
 refine aG (aK ?_)
 exact ev_fin ⟨trivial,_,rfl,(),rfl,trivial,aF [0,1]⟩
theorem rSyncG (r:Nat) (m s:Int) (A:Option Addr) (n c:Nat) (lf:Int) (B:Option Addr) (k d:Nat) (L:List Fl) (hn:n=L.length) (h1:n≤1000) (x:ByteArray) (hs:riseF L) (hh:hasF L x=true) (hi:posF L x<L.length) (hq:0<lf) (hq2:lf≤9223372036854775807):Triple Tryz.prog 114 [pP r,.string x] [Pt r 105 [.int .i64 m,.int .i64 s,.bool false,.slice A n c,.bool true,.int .i64 lf,.slice B k d],Row 117 3 A n c (L.flatMap encF)] [] Unit (fun _=>.int .i64 0) (fun _=>True) (fun _=>[Pt r 105 [.int .i64 m,.int .i64 s,.bool false,.slice A n c,.bool true,.int .i64 (lf-1),.slice B k d],Row 117 3 A n c ((L.set (posF L x) ⟨(L[posF L x]'hi).n,(L[posF L x]'hi).d,((L[posF L x]'hi).d.size:Nat)⟩).flatMap encF)]):=by
 have TT:=rThereOk r m s A n c true lf B k d L hn h1 x hs hh
 have TC:=rChangeG r m s A n c lf B k d hq hq2
 refine aT Tryz.func114 [.pt 0 r 0,.va (.string x)] [.box r 105 [vI m,vI s,.va (.bool false),vL A n c,.va (.bool true),vI lf,vL B k d],.fact (Row 117 3 A n c (L.flatMap encF))] (fun E=>?_) ⟨rfl,trivial,trivial⟩
 refine aG ?_
 refine aD TT [0,1] [] (fun v0_=>[.box (r) 105 [vI m,vI s,.bl false,vL A n c,.bl true,vI lf,vL B k d],.fact (Row 117 3 A n c (List.flatMap encF L))]) fun _ h0=>?_
 refine aJ ?_
 refine aD TC [0] [] (fun v0_=>[.box (r) 105 [vI m,vI s,.bl false,vL A n c,.bl true,vI (lf-1),vL B k d]]) fun _ h1=>?_
 refine aJ ?_
 refine ev_stop (go_draw Tryz.tbs_ok false [0,1] [(0,true),(1,true),(2,true),(3,true),(4,true),(5,true),(6,true),(7,true),(8,true),(9,true),(10,true),(11,true),(12,true),(13,true),(14,true),(15,true),(16,false)] rfl ?_)
 refine aG (aE ?_)
 refine ev_stop (tk_index0 (sz:=3) Tryz.tbs_ok (.inr 1) (posF L x) aB rfl rfl rfl rfl rfl rfl rfl (by omega) rfl Row.at0 (fun g2 e3=>?_))
 subst e3
 refine aG (aE ?_)
 have l4:posF L x<(L).length:=(by omega)
 refine ev_stop (tk_loadE Tryz.tbs_ok (.inr 1) (posF L x) 1 aB rfl rfl rfl rfl rfl (fun _ h=>Row.rd h) (by omega) (fun _=>rfl) (by omega) l4 (by decide) ?_)
 refine aG (aE ?_)
 refine ev_stop (tk_atE (sz:=3) Tryz.tbs_ok (posF L x) aB rfl rfl rfl rfl rfl rfl rfl (by omega) ?_)
 refine aG (aE ?_)
 have l5:posF L x<(L).length:=(by omega)
 refine ev_stop (go_storeR Tryz.tbs_ok 1 (posF L x) 2 ({ n:=L[posF L x].n,d:=L[posF L x].d,s:=(↑L[posF L x].d.size:Int):Fl }) rfl rfl rfl rfl rfl (by omega) (fun _=>rfl) (ones_of rfl) (by omega) l5 rfl (by decide) (ones_of rfl) rfl ?_)
 refine aG (aK ?_)
 exact ev_fin ⟨trivial,_,rfl,(),rfl,trivial,aF [0,1]⟩
theorem rSyncS (r:Nat) (m s:Int) (A:Option Addr) (n c:Nat) (lf:Int) (B:Option Addr) (k d:Nat) (L:List Fl) (hn:n=L.length) (h1:n≤1000) (x:ByteArray) (hs:riseF L) (hh:hasF L x=true) (hi:posF L x<L.length) (hq:lf=0) (K:List Int) (hk:k=K.length) (hL:okF L):Triple Tryz.prog 114 [pP r,.string x] [Pt r 105 [.int .i64 m,.int .i64 s,.bool false,.slice A n c,.bool true,.int .i64 lf,.slice B k d],Row 117 3 A n c (L.flatMap encF),Row 3 1 B k d (K.flatMap encN)] [] Unit (fun _=>.int .i64 41) (fun _=>True) (fun _=>[Pt r 105 [.int .i64 m,.int .i64 s,.bool true,.slice A n c,.bool false,.int .i64 lf,.slice B k d],Row 117 3 A n c ((crashF L K).flatMap encF),Row 3 1 B k d (K.flatMap encN)]):=by
 have TT:=rThereOk r m s A n c true lf B k d L hn h1 x hs hh
 have TC:=rChangeS r m s A n c lf B k d L hn h1 hq K hk hL
 refine aT Tryz.func114 [.pt 0 r 0,.va (.string x)] [.box r 105 [vI m,vI s,.va (.bool false),vL A n c,.va (.bool true),vI lf,vL B k d],.fact (Row 117 3 A n c (L.flatMap encF)),.fact (Row 3 1 B k d (K.flatMap encN))] (fun E=>?_) ⟨rfl,trivial,trivial⟩
 refine aG ?_
 refine aD TT [0,1] [] (fun v0_=>[.box (r) 105 [vI m,vI s,.bl false,vL A n c,.bl true,vI lf,vL B k d],.fact (Row 117 3 A n c (List.flatMap encF L))]) fun _ h0=>?_
 refine aJ ?_
 refine aD TC [0,1,2] [] (fun v0_=>[.box (r) 105 [vI m,vI s,.bl true,vL A n c,.bl false,vI lf,vL B k d],.fact (Row 117 3 A n c (List.flatMap encF (crashF L K))),.fact (Row 3 1 B k d (List.flatMap encN K))]) fun _ h1=>?_
 refine aI ?_
 exact ev_fin ⟨trivial,_,rfl,(),rfl,trivial,aF [0,1,2]⟩
theorem rTruncN (r:Nat) (m s:Int) (A:Option Addr) (n c:Nat) (lf:Int) (B:Option Addr) (k d:Nat) (L:List Fl) (hn:n=L.length) (h1:n≤1000) (x:ByteArray) (z:Int) (hs:riseF L) (hh:hasF L x=true) (hi:posF L x<L.length) (hz1:0≤z) (hz2:z≤(L[posF L x]'hi).d.size):Triple Tryz.prog 111 [pP r,.string x,.int .i64 z] [Pt r 105 [.int .i64 m,.int .i64 s,.bool false,.slice A n c,.bool false,.int .i64 lf,.slice B k d],Row 117 3 A n c (L.flatMap encF)] [] Unit (fun _=>.int .i64 0) (fun _=>True) (fun _=>[Pt r 105 [.int .i64 m,.int .i64 s,.bool false,.slice A n c,.bool false,.int .i64 lf,.slice B k d],Row 117 3 A n c ((L.set (posF L x) ⟨(L[posF L x]'hi).n,(L[posF L x]'hi).d.extract 0 z.toNat,min (L[posF L x]'hi).s z⟩).flatMap encF)]):=by
 have TT:=rThereOk r m s A n c false lf B k d L hn h1 x hs hh
 have TC:=rChangeN r m s A n c lf B k d
 refine aT Tryz.func111 [.pt 0 r 0,.va (.string x),vI z] [.box r 105 [vI m,vI s,.va (.bool false),vL A n c,.va (.bool false),vI lf,vL B k d],.fact (Row 117 3 A n c (L.flatMap encF))] (fun E=>?_) ⟨rfl,trivial,trivial,trivial⟩
 refine aG ?_
 refine aD TT [0,1] [] (fun v0_=>[.box (r) 105 [vI m,vI s,.bl false,vL A n c,.bl false,vI lf,vL B k d],.fact (Row 117 3 A n c (List.flatMap encF L))]) fun _ h0=>?_
 refine aI ?_
 refine aI ?_ (decide_eq_false (show ¬z<0 from (by omega)))
 refine ev_stop (go_index0 (sz:=3) Tryz.tbs_ok (.inr 1) (posF L x) rfl rfl rfl rfl rfl rfl (by omega) rfl Row.at0 (fun g1 e2=>?_))
 subst e2
 refine aG ?_
 have l3:posF L x<(L).length:=(by omega)
 refine ev_stop (go_loadE Tryz.tbs_ok (.inr 1) (posF L x) 1 rfl rfl rfl rfl (fun _ h=>Row.rd h) (by omega) (fun _=>rfl) (by omega) l3 (by decide) ?_)
 refine aG ?_
 refine aI ?_ (decide_eq_false (show ¬z > (↑L[posF L x].d.size:Int) from (by omega)))
 refine aD TC [0] [] (fun v0_=>[.box (r) 105 [vI m,vI s,.bl false,vL (some { block:=g1,off:=0:Addr }) n c,.bl false,vI lf,vL B k d]]) fun _ h4=>?_
 refine aI ?_
 refine ev_stop (go_draw Tryz.tbs_ok false [0,1] [(0,true),(1,true),(2,true),(3,true),(4,true),(5,true),(6,true),(7,true),(8,true),(9,true),(10,true),(11,true),(12,true),(13,true),(14,true),(15,true),(16,true),(17,false)] rfl ?_)
 refine aG (aE ?_)
 refine ev_stop (tk_atE (sz:=3) Tryz.tbs_ok (posF L x) aB rfl rfl rfl rfl rfl rfl rfl (by omega) ?_)
 refine aG (aE ?_)
 have l5:posF L x<(L).length:=(by omega)
 refine ev_stop (tk_loadE Tryz.tbs_ok (.inr 1) (posF L x) 1 aB rfl rfl rfl rfl rfl (fun _ h=>Row.rd h) (by omega) (fun _=>rfl) (by omega) l5 (by decide) ?_)
 refine aG (aE ?_)
 refine ev_stop (go_slot 51 _ (.va (.int IntKind.i64 ((z.toNat:Nat):Int))) rfl rfl (congrArg (fun z=>Value.int IntKind.i64 z) (show z=((z.toNat:Nat):Int) by first | omega | (simp only [List.getElem_set_self];omega))) (fun _=>trivial) ?_)
 refine aG (aE ?_)
 refine ev_stop (tk_sliceS Tryz.tbs_ok (0) (z.toNat) aB rfl rfl rfl rfl rfl rfl ⟨_,rfl⟩ (by omega) (by omega) ?_)
 refine aG (aE ?_)
 refine ev_stop (tk_atE (sz:=3) Tryz.tbs_ok (posF L x) aB rfl rfl rfl rfl rfl rfl rfl (by omega) ?_)
 refine aG (aE ?_)
 have l6:posF L x<(L).length:=(by omega)
 refine ev_stop (go_storeR Tryz.tbs_ok 1 (posF L x) 1 ({ n:=L[posF L x].n,d:=L[posF L x].d.extract 0 z.toNat,s:=L[posF L x].s:Fl }) rfl rfl rfl rfl rfl (by omega) (fun _=>rfl) (ones_of rfl) (by omega) l6 rfl (by decide) (ones_of rfl) rfl ?_)
 refine aG (aK ?_)
 refine ev_stop (go_draw Tryz.tbs_ok false [0,1] [(0,true),(1,true),(2,true),(3,true),(4,true),(5,true),(6,true),(7,true),(8,true),(9,true),(10,true),(11,true),(12,true),(13,true),(14,true),(15,true),(16,true),(17,false)] rfl ?_)
 refine aG (aE ?_)
 refine ev_stop (tk_atE (sz:=3) Tryz.tbs_ok (posF L x) aB rfl rfl rfl rfl rfl rfl rfl (by omega) ?_)
 refine aG (aE ?_)
 have l7:posF L x<(L.set (posF L x) { n:=L[posF L x].n,d:=L[posF L x].d.extract 0 z.toNat,s:=L[posF L x].s:Fl }).length:=(by (simp only [List.length_set];omega))
 refine ev_stop (tk_loadE Tryz.tbs_ok (.inr 1) (posF L x) 2 aB rfl rfl rfl rfl rfl (fun _ h=>Row.rd h) (by omega) (fun _=>rfl) (by omega) l7 (by decide) ?_)
 refine aG (aE ?_)
 refine ev_stop (tk_atE (sz:=3) Tryz.tbs_ok (posF L x) aB rfl rfl rfl rfl rfl rfl rfl (by omega) ?_)
 refine aG (aE ?_)
 have l8:posF L x<(L.set (posF L x) { n:=L[posF L x].n,d:=L[posF L x].d.extract 0 z.toNat,s:=L[posF L x].s:Fl }).length:=(by omega)
 refine ev_stop (go_storeR Tryz.tbs_ok 1 (posF L x) 2 ({ n:=(L.set (posF L x) { n:=L[posF L x].n,d:=L[posF L x].d.extract 0 z.toNat,s:=L[posF L x].s:Fl })[posF L x].n,d:=(L.set (posF L x) { n:=L[posF L x].n,d:=L[posF L x].d.extract 0 z.toNat,s:=L[posF L x].s:Fl })[posF L x].d,s:=min (L.set (posF L x) { n:=L[posF L x].n,d:=L[posF L x].d.extract 0 z.toNat,s:=L[posF L x].s:Fl })[posF L x].s z:Fl }) rfl rfl rfl rfl rfl (by omega) (fun _=>rfl) (ones_of rfl) (by omega) l8 rfl (by decide) (ones_of rfl) rfl ?_)
 refine aG (aK ?_)
 simp only [List.getElem_set_self,List.set_set]
 exact ev_fin ⟨trivial,_,rfl,(),rfl,trivial,aF [0,1]⟩
theorem rTruncG (r:Nat) (m s:Int) (A:Option Addr) (n c:Nat) (lf:Int) (B:Option Addr) (k d:Nat) (L:List Fl) (hn:n=L.length) (h1:n≤1000) (x:ByteArray) (z:Int) (hs:riseF L) (hh:hasF L x=true) (hi:posF L x<L.length) (hz1:0≤z) (hz2:z≤(L[posF L x]'hi).d.size) (hq:0<lf) (hq2:lf≤9223372036854775807):Triple Tryz.prog 111 [pP r,.string x,.int .i64 z] [Pt r 105 [.int .i64 m,.int .i64 s,.bool false,.slice A n c,.bool true,.int .i64 lf,.slice B k d],Row 117 3 A n c (L.flatMap encF)] [] Unit (fun _=>.int .i64 0) (fun _=>True) (fun _=>[Pt r 105 [.int .i64 m,.int .i64 s,.bool false,.slice A n c,.bool true,.int .i64 (lf-1),.slice B k d],Row 117 3 A n c ((L.set (posF L x) ⟨(L[posF L x]'hi).n,(L[posF L x]'hi).d.extract 0 z.toNat,min (L[posF L x]'hi).s z⟩).flatMap encF)]):=by
 have TT:=rThereOk r m s A n c true lf B k d L hn h1 x hs hh
 have TC:=rChangeG r m s A n c lf B k d hq hq2
 refine aT Tryz.func111 [.pt 0 r 0,.va (.string x),vI z] [.box r 105 [vI m,vI s,.va (.bool false),vL A n c,.va (.bool true),vI lf,vL B k d],.fact (Row 117 3 A n c (L.flatMap encF))] (fun E=>?_) ⟨rfl,trivial,trivial,trivial⟩
 refine aG ?_
 refine aD TT [0,1] [] (fun v0_=>[.box (r) 105 [vI m,vI s,.bl false,vL A n c,.bl true,vI lf,vL B k d],.fact (Row 117 3 A n c (List.flatMap encF L))]) fun _ h0=>?_
 refine aI ?_
 refine aI ?_ (decide_eq_false (show ¬z<0 from (by omega)))
 refine ev_stop (go_index0 (sz:=3) Tryz.tbs_ok (.inr 1) (posF L x) rfl rfl rfl rfl rfl rfl (by omega) rfl Row.at0 (fun g1 e2=>?_))
 subst e2
 refine aG ?_
 have l3:posF L x<(L).length:=(by omega)
 refine ev_stop (go_loadE Tryz.tbs_ok (.inr 1) (posF L x) 1 rfl rfl rfl rfl (fun _ h=>Row.rd h) (by omega) (fun _=>rfl) (by omega) l3 (by decide) ?_)
 refine aG ?_
 refine aI ?_ (decide_eq_false (show ¬z > (↑L[posF L x].d.size:Int) from (by omega)))
 refine aD TC [0] [] (fun v0_=>[.box (r) 105 [vI m,vI s,.bl false,vL (some { block:=g1,off:=0:Addr }) n c,.bl true,vI (lf-1),vL B k d]]) fun _ h4=>?_
 refine aI ?_
 refine ev_stop (go_draw Tryz.tbs_ok false [0,1] [(0,true),(1,true),(2,true),(3,true),(4,true),(5,true),(6,true),(7,true),(8,true),(9,true),(10,true),(11,true),(12,true),(13,true),(14,true),(15,true),(16,true),(17,false)] rfl ?_)
 refine aG (aE ?_)
 refine ev_stop (tk_atE (sz:=3) Tryz.tbs_ok (posF L x) aB rfl rfl rfl rfl rfl rfl rfl (by omega) ?_)
 refine aG (aE ?_)
 have l5:posF L x<(L).length:=(by omega)
 refine ev_stop (tk_loadE Tryz.tbs_ok (.inr 1) (posF L x) 1 aB rfl rfl rfl rfl rfl (fun _ h=>Row.rd h) (by omega) (fun _=>rfl) (by omega) l5 (by decide) ?_)
 refine aG (aE ?_)
 refine ev_stop (go_slot 51 _ (.va (.int IntKind.i64 ((z.toNat:Nat):Int))) rfl rfl (congrArg (fun z=>Value.int IntKind.i64 z) (show z=((z.toNat:Nat):Int) by first | omega | (simp only [List.getElem_set_self];omega))) (fun _=>trivial) ?_)
 refine aG (aE ?_)
 refine ev_stop (tk_sliceS Tryz.tbs_ok (0) (z.toNat) aB rfl rfl rfl rfl rfl rfl ⟨_,rfl⟩ (by omega) (by omega) ?_)
 refine aG (aE ?_)
 refine ev_stop (tk_atE (sz:=3) Tryz.tbs_ok (posF L x) aB rfl rfl rfl rfl rfl rfl rfl (by omega) ?_)
 refine aG (aE ?_)
 have l6:posF L x<(L).length:=(by omega)
 refine ev_stop (go_storeR Tryz.tbs_ok 1 (posF L x) 1 ({ n:=L[posF L x].n,d:=L[posF L x].d.extract 0 z.toNat,s:=L[posF L x].s:Fl }) rfl rfl rfl rfl rfl (by omega) (fun _=>rfl) (ones_of rfl) (by omega) l6 rfl (by decide) (ones_of rfl) rfl ?_)
 refine aG (aK ?_)
 refine ev_stop (go_draw Tryz.tbs_ok false [0,1] [(0,true),(1,true),(2,true),(3,true),(4,true),(5,true),(6,true),(7,true),(8,true),(9,true),(10,true),(11,true),(12,true),(13,true),(14,true),(15,true),(16,true),(17,false)] rfl ?_)
 refine aG (aE ?_)
 refine ev_stop (tk_atE (sz:=3) Tryz.tbs_ok (posF L x) aB rfl rfl rfl rfl rfl rfl rfl (by omega) ?_)
 refine aG (aE ?_)
 have l7:posF L x<(L.set (posF L x) { n:=L[posF L x].n,d:=L[posF L x].d.extract 0 z.toNat,s:=L[posF L x].s:Fl }).length:=(by (simp only [List.length_set];omega))
 refine ev_stop (tk_loadE Tryz.tbs_ok (.inr 1) (posF L x) 2 aB rfl rfl rfl rfl rfl (fun _ h=>Row.rd h) (by omega) (fun _=>rfl) (by omega) l7 (by decide) ?_)
 refine aG (aE ?_)
 refine ev_stop (tk_atE (sz:=3) Tryz.tbs_ok (posF L x) aB rfl rfl rfl rfl rfl rfl rfl (by omega) ?_)
 refine aG (aE ?_)
 have l8:posF L x<(L.set (posF L x) { n:=L[posF L x].n,d:=L[posF L x].d.extract 0 z.toNat,s:=L[posF L x].s:Fl }).length:=(by omega)
 refine ev_stop (go_storeR Tryz.tbs_ok 1 (posF L x) 2 ({ n:=(L.set (posF L x) { n:=L[posF L x].n,d:=L[posF L x].d.extract 0 z.toNat,s:=L[posF L x].s:Fl })[posF L x].n,d:=(L.set (posF L x) { n:=L[posF L x].n,d:=L[posF L x].d.extract 0 z.toNat,s:=L[posF L x].s:Fl })[posF L x].d,s:=min (L.set (posF L x) { n:=L[posF L x].n,d:=L[posF L x].d.extract 0 z.toNat,s:=L[posF L x].s:Fl })[posF L x].s z:Fl }) rfl rfl rfl rfl rfl (by omega) (fun _=>rfl) (ones_of rfl) (by omega) l8 rfl (by decide) (ones_of rfl) rfl ?_)
 refine aG (aK ?_)
 simp only [List.getElem_set_self,List.set_set]
 exact ev_fin ⟨trivial,_,rfl,(),rfl,trivial,aF [0,1]⟩
theorem rTruncS (r:Nat) (m s:Int) (A:Option Addr) (n c:Nat) (lf:Int) (B:Option Addr) (k d:Nat) (L:List Fl) (hn:n=L.length) (h1:n≤1000) (x:ByteArray) (z:Int) (hs:riseF L) (hh:hasF L x=true) (hi:posF L x<L.length) (hz1:0≤z) (hz2:z≤(L[posF L x]'hi).d.size) (hq:lf=0) (K:List Int) (hk:k=K.length) (hL:okF L):Triple Tryz.prog 111 [pP r,.string x,.int .i64 z] [Pt r 105 [.int .i64 m,.int .i64 s,.bool false,.slice A n c,.bool true,.int .i64 lf,.slice B k d],Row 117 3 A n c (L.flatMap encF),Row 3 1 B k d (K.flatMap encN)] [] Unit (fun _=>.int .i64 41) (fun _=>True) (fun _=>[Pt r 105 [.int .i64 m,.int .i64 s,.bool true,.slice A n c,.bool false,.int .i64 lf,.slice B k d],Row 117 3 A n c ((crashF L K).flatMap encF),Row 3 1 B k d (K.flatMap encN)]):=by
 have TT:=rThereOk r m s A n c true lf B k d L hn h1 x hs hh
 have TC:=rChangeS r m s A n c lf B k d L hn h1 hq K hk hL
 refine aT Tryz.func111 [.pt 0 r 0,.va (.string x),vI z] [.box r 105 [vI m,vI s,.va (.bool false),vL A n c,.va (.bool true),vI lf,vL B k d],.fact (Row 117 3 A n c (L.flatMap encF)),.fact (Row 3 1 B k d (K.flatMap encN))] (fun E=>?_) ⟨rfl,trivial,trivial,trivial⟩
 refine aG ?_
 refine aD TT [0,1] [] (fun v0_=>[.box (r) 105 [vI m,vI s,.bl false,vL A n c,.bl true,vI lf,vL B k d],.fact (Row 117 3 A n c (List.flatMap encF L))]) fun _ h0=>?_
 refine aI ?_
 refine aI ?_ (decide_eq_false (show ¬z<0 from (by omega)))
 refine ev_stop (go_index0 (sz:=3) Tryz.tbs_ok (.inr 1) (posF L x) rfl rfl rfl rfl rfl rfl (by omega) rfl Row.at0 (fun g1 e2=>?_))
 subst e2
 refine aG ?_
 have l3:posF L x<(L).length:=(by omega)
 refine ev_stop (go_loadE Tryz.tbs_ok (.inr 1) (posF L x) 1 rfl rfl rfl rfl (fun _ h=>Row.rd h) (by omega) (fun _=>rfl) (by omega) l3 (by decide) ?_)
 refine aG ?_
 refine aI ?_ (decide_eq_false (show ¬z > (↑L[posF L x].d.size:Int) from (by omega)))
 refine aD TC [0,1,2] [] (fun v0_=>[.box (r) 105 [vI m,vI s,.bl true,vL (some { block:=g1,off:=0:Addr }) n c,.bl false,vI lf,vL B k d],.fact (Row 117 3 (some { block:=g1,off:=0:Addr }) n c (List.flatMap encF (crashF L K))),.fact (Row 3 1 B k d (List.flatMap encN K))]) fun _ h4=>?_
 refine aJ ?_
 exact ev_fin ⟨trivial,_,rfl,(),rfl,trivial,aF [0,1,2]⟩
theorem rRemN (r:Nat) (m s:Int) (A:Option Addr) (n c:Nat) (lf:Int) (B:Option Addr) (k d:Nat) (L:List Fl) (hn:n=L.length) (h1:n≤1000) (x:ByteArray) (hs:riseF L) (hh:hasF L x=true) (hi:posF L x<L.length):Triple Tryz.prog 140 [pP r,.string x] [Pt r 105 [.int .i64 m,.int .i64 s,.bool false,.slice A n c,.bool false,.int .i64 lf,.slice B k d],Row 117 3 A n c (L.flatMap encF)] [] (Option Addr × Nat) (fun _=>.int .i64 0) (fun _=>True) (fun (C,e)=>[Pt r 105 [.int .i64 m,.int .i64 s,.bool false,.slice C (n-1) e,.bool false,.int .i64 lf,.slice B k d],Row 117 3 C (n-1) e ((L.eraseIdx (posF L x)).flatMap encF)]):=by
 have TT:=rThereOk r m s A n c false lf B k d L hn h1 x hs hh
 have TC:=rChangeN r m s A n c lf B k d
 have TW:=rWithout r m s false A n c false lf B k d L hn h1 (posF L x) (by omega)
 refine aT Tryz.func140 [.pt 0 r 0,.va (.string x)] [.box r 105 [vI m,vI s,.va (.bool false),vL A n c,.va (.bool false),vI lf,vL B k d],.fact (Row 117 3 A n c (L.flatMap encF))] (fun E=>?_) ⟨rfl,trivial,trivial⟩
 refine aG ?_
 refine aD TT [0,1] [] (fun v0_=>[.box (r) 105 [vI m,vI s,.bl false,vL A n c,.bl false,vI lf,vL B k d],.fact (Row 117 3 A n c (List.flatMap encF L))]) fun _ h0=>?_
 refine aJ ?_
 refine aD TC [0] [] (fun v0_=>[.box (r) 105 [vI m,vI s,.bl false,vL A n c,.bl false,vI lf,vL B k d]]) fun _ h1=>?_
 refine aJ ?_
 refine aD TW [0,1] [] (fun (v0_,v1_)=>[.box (r) 105 [vI m,vI s,.bl false,vL A n c,.bl false,vI lf,vL B k d],.fact (Row 117 3 A n c (List.flatMap encF L)),.fact (Row 117 3 v0_ (n-1) v1_ (List.flatMap encF (L.eraseIdx (posF L x))))]) fun ⟨x2,x3⟩ h4=>?_
 exact ev_fin ⟨trivial,_,rfl,((x2,x3)),rfl,trivial,aF [0,2]⟩
theorem rRemG (r:Nat) (m s:Int) (A:Option Addr) (n c:Nat) (lf:Int) (B:Option Addr) (k d:Nat) (L:List Fl) (hn:n=L.length) (h1:n≤1000) (x:ByteArray) (hs:riseF L) (hh:hasF L x=true) (hi:posF L x<L.length) (hq:0<lf) (hq2:lf≤9223372036854775807):Triple Tryz.prog 140 [pP r,.string x] [Pt r 105 [.int .i64 m,.int .i64 s,.bool false,.slice A n c,.bool true,.int .i64 lf,.slice B k d],Row 117 3 A n c (L.flatMap encF)] [] (Option Addr × Nat) (fun _=>.int .i64 0) (fun _=>True) (fun (C,e)=>[Pt r 105 [.int .i64 m,.int .i64 s,.bool false,.slice C (n-1) e,.bool true,.int .i64 (lf-1),.slice B k d],Row 117 3 C (n-1) e ((L.eraseIdx (posF L x)).flatMap encF)]):=by
 have TT:=rThereOk r m s A n c true lf B k d L hn h1 x hs hh
 have TC:=rChangeG r m s A n c lf B k d hq hq2
 have TW:=rWithout r m s false A n c true (lf-1) B k d L hn h1 (posF L x) (by omega)
 refine aT Tryz.func140 [.pt 0 r 0,.va (.string x)] [.box r 105 [vI m,vI s,.va (.bool false),vL A n c,.va (.bool true),vI lf,vL B k d],.fact (Row 117 3 A n c (L.flatMap encF))] (fun E=>?_) ⟨rfl,trivial,trivial⟩
 refine aG ?_
 refine aD TT [0,1] [] (fun v0_=>[.box (r) 105 [vI m,vI s,.bl false,vL A n c,.bl true,vI lf,vL B k d],.fact (Row 117 3 A n c (List.flatMap encF L))]) fun _ h0=>?_
 refine aJ ?_
 refine aD TC [0] [] (fun v0_=>[.box (r) 105 [vI m,vI s,.bl false,vL A n c,.bl true,vI (lf-1),vL B k d]]) fun _ h1=>?_
 refine aJ ?_
 refine aD TW [0,1] [] (fun (v0_,v1_)=>[.box (r) 105 [vI m,vI s,.bl false,vL A n c,.bl true,vI (lf-1),vL B k d],.fact (Row 117 3 A n c (List.flatMap encF L)),.fact (Row 117 3 v0_ (n-1) v1_ (List.flatMap encF (L.eraseIdx (posF L x))))]) fun ⟨x2,x3⟩ h4=>?_
 exact ev_fin ⟨trivial,_,rfl,((x2,x3)),rfl,trivial,aF [0,2]⟩
theorem rRemS (r:Nat) (m s:Int) (A:Option Addr) (n c:Nat) (lf:Int) (B:Option Addr) (k d:Nat) (L:List Fl) (hn:n=L.length) (h1:n≤1000) (x:ByteArray) (hs:riseF L) (hh:hasF L x=true) (hi:posF L x<L.length) (hq:lf=0) (K:List Int) (hk:k=K.length) (hL:okF L):Triple Tryz.prog 140 [pP r,.string x] [Pt r 105 [.int .i64 m,.int .i64 s,.bool false,.slice A n c,.bool true,.int .i64 lf,.slice B k d],Row 117 3 A n c (L.flatMap encF),Row 3 1 B k d (K.flatMap encN)] [] Unit (fun _=>.int .i64 41) (fun _=>True) (fun _=>[Pt r 105 [.int .i64 m,.int .i64 s,.bool true,.slice A n c,.bool false,.int .i64 lf,.slice B k d],Row 117 3 A n c ((crashF L K).flatMap encF),Row 3 1 B k d (K.flatMap encN)]):=by
 have TT:=rThereOk r m s A n c true lf B k d L hn h1 x hs hh
 have TC:=rChangeS r m s A n c lf B k d L hn h1 hq K hk hL
 refine aT Tryz.func140 [.pt 0 r 0,.va (.string x)] [.box r 105 [vI m,vI s,.va (.bool false),vL A n c,.va (.bool true),vI lf,vL B k d],.fact (Row 117 3 A n c (L.flatMap encF)),.fact (Row 3 1 B k d (K.flatMap encN))] (fun E=>?_) ⟨rfl,trivial,trivial⟩
 refine aG ?_
 refine aD TT [0,1] [] (fun v0_=>[.box (r) 105 [vI m,vI s,.bl false,vL A n c,.bl true,vI lf,vL B k d],.fact (Row 117 3 A n c (List.flatMap encF L))]) fun _ h0=>?_
 refine aJ ?_
 refine aD TC [0,1,2] [] (fun v0_=>[.box (r) 105 [vI m,vI s,.bl true,vL A n c,.bl false,vI lf,vL B k d],.fact (Row 117 3 A n c (List.flatMap encF (crashF L K))),.fact (Row 3 1 B k d (List.flatMap encN K))]) fun _ h1=>?_
 refine aI ?_
 exact ev_fin ⟨trivial,_,rfl,(),rfl,trivial,aF [0,1,2]⟩
theorem posF_erase {L:List Fl} (hs:riseF L) {x:ByteArray} {i:Nat} (hi:i<L.length) (e:L[i].n=x):posF (L.eraseIdx i) x=i:=by
 subst e
 obtain ⟨h1,h2⟩:=posF_split hs L[i].n
 rw [(find_at hs hi).2] at h1 h2
 rw [List.eraseIdx_eq_take_drop_succ]
 refine posF_of (by rw [List.length_append,List.length_take];omega) (fun y hy=>?_) (fun y hy=>?_)
 · rw [List.take_append_of_le_length (by rw [List.length_take];omega),List.take_take,Nat.min_self] at hy
   exact h1 y hy
 rw [List.drop_append,List.drop_of_length_le (by rw [List.length_take];omega),List.length_take,Nat.min_eq_left (by omega),Nat.sub_self,List.drop_zero,List.nil_append] at hy
 refine h2 y ?_
 rw [List.drop_eq_getElem_cons hi]
 exact List.mem_cons_of_mem _ hy
theorem ins_erase {L:List Fl} (hs:riseF L) {f:Fl} {i:Nat} (hi:i<L.length) (e:L[i].n=f.n):insF (L.eraseIdx i) f=L.set i f:=by
 unfold insF
 rw [posF_erase hs hi e,List.eraseIdx_eq_take_drop_succ,List.take_append_of_le_length (by rw [List.length_take];omega),List.take_take,Nat.min_self,List.drop_append,List.drop_of_length_le (by rw [List.length_take];omega),List.length_take,Nat.min_eq_left (by omega),Nat.sub_self,List.drop_zero,List.nil_append,List.set_eq_take_append_cons_drop,if_pos hi]
theorem hasF_erase {L:List Fl} (hs:riseF L) {x:ByteArray} {i:Nat} (hi:i<L.length) (e:L[i].n=x):hasF (L.eraseIdx i) x=false:=by
 rw [hasF_no]
 intro f hf e2
 obtain ⟨_,h2⟩:=erase_mem hs hi hf
 exact h2 (by rw [e,e2])
theorem posF_ins (L:List Fl) (hs:riseF L) (f:Fl):posF (insF L f) f.n=posF L f.n:=by
 obtain ⟨h1,h2⟩:=posF_split hs f.n
 have hp:=posF_le L f.n
 have hl:(L.take (posF L f.n)).length=posF L f.n:=by rw [List.length_take];omega
 refine posF_of (by rw [insF_len];omega) (fun y hy=>?_) (fun y hy=>?_)
 · unfold insF at hy
   rw [List.take_append_of_le_length (by omega),List.take_of_length_le (by omega)] at hy
   exact h1 y hy
 unfold insF at hy
 rw [List.drop_append,List.drop_of_length_le (by omega),hl,Nat.sub_self,List.nil_append,List.drop_zero] at hy
 rcases List.mem_cons.1 hy with rfl | hy
 · exact ltS.irrefl _
 exact h2 y hy
theorem insF_at (L:List Fl) (f:Fl):∃ h:posF L f.n<(insF L f).length,(insF L f)[posF L f.n]'h=f:=by
 have hp:=posF_le L f.n
 have hl:(L.take (posF L f.n)).length=posF L f.n:=by rw [List.length_take];omega
 refine ⟨by rw [insF_len];omega,?_⟩
 unfold insF
 rw [List.getElem_append_right (by omega)]
 simp only [hl,Nat.sub_self,List.getElem_cons_zero]
theorem insF_set (L:List Fl) (f g:Fl) (e:g.n=f.n):(insF L f).set (posF L f.n) g=insF L g:=by
 have hp:=posF_le L f.n
 have hl:(L.take (posF L f.n)).length=posF L f.n:=by rw [List.length_take];omega
 unfold insF
 rw [e,List.set_append_right _ _ (by omega),hl,Nat.sub_self,List.set_cons_zero]
theorem insF_has (L:List Fl) (f:Fl):hasF (insF L f) f.n=true:=hasF_iff.2 ⟨f,by unfold insF;simp,rfl⟩
theorem rName (x:ByteArray):Triple Tryz.prog 81 [.string x] [] [] Unit (fun _=>.bool (!oddS x)) (fun _=>True) (fun _=>[]):=by
 refine aT Tryz.func81 [.va (.string x)] [] (fun E=>?_) ⟨trivial,trivial⟩
 refine aG ?_
 refine ev_if_lt (fun h0=>?_) (fun h0=>?_)
 refine aG ?_
 refine ev_fin ⟨trivial,_,rfl,(()),?_,(by trivial),Frm.nil _⟩
 rotate_left
 refine aG ?_
 refine ev_fin ⟨trivial,_,rfl,(()),?_,(by trivial),Frm.nil _⟩
 rotate_left
 · refine congrArg Value.bool ?_
   unfold oddS
   rw [decide_eq_false (show ¬ x.size=0 by omega),Bool.false_or,Bool.eq_iff_iff,decide_eq_true_iff]
   simp
   omega
 refine congrArg Value.bool ?_
 unfold oddS
 rw [decide_eq_true (show x.size=0 by omega)]
 rfl
theorem rRenTN (r:Nat) (m s:Int) (A:Option Addr) (n c:Nat) (lf:Int) (B:Option Addr) (k d:Nat) (L:List Fl) (hn:n=L.length) (h1:n≤1000) (x y:ByteArray) (hs:riseF L) (hh:hasF L x=true) (hi:posF L x<L.length) (ho:oddS y=false) (hh2:hasF (L.eraseIdx (posF L x)) y=true):Triple Tryz.prog 118 [pP r,.string x,.string y] [Pt r 105 [.int .i64 m,.int .i64 s,.bool false,.slice A n c,.bool false,.int .i64 lf,.slice B k d],Row 117 3 A n c (L.flatMap encF)] [] (Option Addr × Nat) (fun _=>.int .i64 0) (fun _=>True) (fun (C,e)=>[Pt r 105 [.int .i64 m,.int .i64 s,.bool false,.slice C (n-1) e,.bool false,.int .i64 lf,.slice B k d],Row 117 3 C (n-1) e (((L.eraseIdx (posF L x)).set (posF (L.eraseIdx (posF L x)) y) ⟨y,(L[posF L x]'hi).d,(L[posF L x]'hi).s⟩).flatMap encF)]):=by
 have TT:=rThereOk r m s A n c false lf B k d L hn h1 x hs hh
 have TO:=rName y
 rw [ho] at TO
 have TC:=rChangeN r m s A n c lf B k d
 have hsM:riseF (L.eraseIdx (posF L x)):=List.Pairwise.sublist (List.eraseIdx_sublist _ _) hs
 have hl:(L.eraseIdx (posF L x)).length=n-1:=by rw [List.length_eraseIdx_of_lt hi,hn]
 have TW:=rWithout r m s false A n c false lf B k d L hn h1 (posF L x) (by omega)
 have TG:=fun A c=>rFind r m s false A (n-1) c false lf B k d (L.eraseIdx (posF L x)) hl.symm (by omega) y hsM
 obtain ⟨hp2,ep2⟩:=has_pos hsM hh2
 rw [show ixF (L.eraseIdx (posF L x)) y=(posF (L.eraseIdx (posF L x)) y:Nat) from by unfold ixF;rw [hh2];rfl] at TG
 have TV:=fun A c=>rWithout r m s false A (n-1) c false lf B k d (L.eraseIdx (posF L x)) hl.symm (by omega) (posF (L.eraseIdx (posF L x)) y) (by omega)
 have TP:=fun A c=>rPut r m s false A (n-1-1) c false lf B k d ((L.eraseIdx (posF L x)).eraseIdx (posF (L.eraseIdx (posF L x)) y)) (by rw [List.length_eraseIdx_of_lt hp2,hl]) (by omega) ⟨y,(L[posF L x]'hi).d,(L[posF L x]'hi).s⟩ (List.Pairwise.sublist (List.eraseIdx_sublist _ _) hsM) (hasF_erase hsM hp2 ep2)
 rw [ins_erase hsM hp2 (f:=⟨y,(L[posF L x]'hi).d,(L[posF L x]'hi).s⟩) ep2,show n-1-1+1=n-1 by omega] at TP
 refine aT Tryz.func118 [.pt 0 r 0,.va (.string x),.va (.string y)] [.box r 105 [vI m,vI s,.va (.bool false),vL A n c,.va (.bool false),vI lf,vL B k d],.fact (Row 117 3 A n c (L.flatMap encF))] (fun E=>?_) ⟨rfl,trivial,trivial,trivial⟩
 refine aG ?_
 refine aD TT [0,1] [] (fun v0_=>[.box (r) 105 [vI m,vI s,.bl false,vL A n c,.bl false,vI lf,vL B k d],.fact (Row 117 3 A n c (List.flatMap encF L))]) fun _ h0=>?_
 refine aI ?_
 refine aC TO [] [] fun _ h1=>?_
 refine aI ?_
 refine aD TC [0] [] (fun v0_=>[.box (r) 105 [vI m,vI s,.bl false,vL A n c,.bl false,vI lf,vL B k d]]) fun _ h2=>?_
 refine aI ?_
 refine ev_stop (go_index0 (sz:=3) Tryz.tbs_ok (.inr 1) (posF L x) rfl rfl rfl rfl rfl rfl (by omega) rfl Row.at0 (fun g3 e4=>?_))
 subst e4
 refine aG ?_
 have l5:posF L x<(L).length:=(by omega)
 refine ev_stop (go_loadE Tryz.tbs_ok (.inr 1) (posF L x) 0 rfl rfl rfl rfl (fun _ h=>Row.rd h) (by omega) (fun _=>rfl) (by omega) l5 (by decide) ?_)
 refine aG ?_
 refine ev_new fun b6=>?_
 refine aD TW [0,1] [] (fun (v0_,v1_)=>[.box (r) 105 [vI m,vI s,.bl false,vL (some { block:=g3,off:=0:Addr }) n c,.bl false,vI lf,vL B k d],.fact (Row 117 3 (some { block:=g3,off:=0:Addr }) n c (List.flatMap encF L)),.fact (Row 117 3 v0_ (n-1) v1_ (List.flatMap encF (L.eraseIdx (posF L x))))]) fun ⟨x7,x8⟩ h9=>?_
 refine aD (TG (x7) (x8)) [0,3] [] (fun v0_=>[.box (r) 105 [vI m,vI s,.bl false,vL x7 (n-1) x8,.bl false,vI lf,vL B k d],.fact (Row 117 3 x7 (n-1) x8 (List.flatMap encF (L.eraseIdx (posF L x))))]) fun _ h10=>?_
 refine aJ ?_
 refine aD (TV (x7) (x8)) [0,3] [] (fun (v0_,v1_)=>[.box (r) 105 [vI m,vI s,.bl false,vL x7 (n-1) x8,.bl false,vI lf,vL B k d],.fact (Row 117 3 x7 (n-1) x8 (List.flatMap encF (L.eraseIdx (posF L x)))),.fact (Row 117 3 v0_ (n-1-1) v1_ (List.flatMap encF ((L.eraseIdx (posF L x)).eraseIdx (posF (L.eraseIdx (posF L x)) y))))]) fun ⟨x11,x12⟩ h13=>?_
 refine aD (TP (x11) (x12)) [0,4] [] (fun (v0_,v1_)=>[.box (r) 105 [vI m,vI s,.bl false,vL v0_ (n-1) v1_,.bl false,vI lf,vL B k d],.fact (Row 117 3 v0_ (n-1) v1_ (List.flatMap encF ((L.eraseIdx (posF L x)).set (posF (L.eraseIdx (posF L x)) y) { n:=y,d:=L[posF L x].d,s:=L[posF L x].s:Fl })))]) fun ⟨x14,x15⟩ h16=>?_
 exact ev_fin ⟨trivial,_,rfl,((x14,x15)),rfl,trivial,aF [0,4]⟩
theorem rRenFN (r:Nat) (m s:Int) (A:Option Addr) (n c:Nat) (lf:Int) (B:Option Addr) (k d:Nat) (L:List Fl) (hn:n=L.length) (h1:n≤1000) (x y:ByteArray) (hs:riseF L) (hh:hasF L x=true) (hi:posF L x<L.length) (ho:oddS y=false) (hh2:hasF (L.eraseIdx (posF L x)) y=false):Triple Tryz.prog 118 [pP r,.string x,.string y] [Pt r 105 [.int .i64 m,.int .i64 s,.bool false,.slice A n c,.bool false,.int .i64 lf,.slice B k d],Row 117 3 A n c (L.flatMap encF)] [] (Option Addr × Nat) (fun _=>.int .i64 0) (fun _=>True) (fun (C,e)=>[Pt r 105 [.int .i64 m,.int .i64 s,.bool false,.slice C (n-1+1) e,.bool false,.int .i64 lf,.slice B k d],Row 117 3 C (n-1+1) e ((insF (L.eraseIdx (posF L x)) ⟨y,(L[posF L x]'hi).d,(L[posF L x]'hi).s⟩).flatMap encF)]):=by
 have TT:=rThereOk r m s A n c false lf B k d L hn h1 x hs hh
 have TO:=rName y
 rw [ho] at TO
 have TC:=rChangeN r m s A n c lf B k d
 have hsM:riseF (L.eraseIdx (posF L x)):=List.Pairwise.sublist (List.eraseIdx_sublist _ _) hs
 have hl:(L.eraseIdx (posF L x)).length=n-1:=by rw [List.length_eraseIdx_of_lt hi,hn]
 have TW:=rWithout r m s false A n c false lf B k d L hn h1 (posF L x) (by omega)
 have TG:=fun A c=>rFind r m s false A (n-1) c false lf B k d (L.eraseIdx (posF L x)) hl.symm (by omega) y hsM
 rw [show ixF (L.eraseIdx (posF L x)) y = -1 from by unfold ixF;rw [hh2];rfl] at TG
 have TP:=fun A c=>rPut r m s false A (n-1) c false lf B k d (L.eraseIdx (posF L x)) hl.symm (by omega) ⟨y,(L[posF L x]'hi).d,(L[posF L x]'hi).s⟩ hsM hh2
 refine aT Tryz.func118 [.pt 0 r 0,.va (.string x),.va (.string y)] [.box r 105 [vI m,vI s,.va (.bool false),vL A n c,.va (.bool false),vI lf,vL B k d],.fact (Row 117 3 A n c (L.flatMap encF))] (fun E=>?_) ⟨rfl,trivial,trivial,trivial⟩
 refine aG ?_
 refine aD TT [0,1] [] (fun v0_=>[.box (r) 105 [vI m,vI s,.bl false,vL A n c,.bl false,vI lf,vL B k d],.fact (Row 117 3 A n c (List.flatMap encF L))]) fun _ h0=>?_
 refine aI ?_
 refine aC TO [] [] fun _ h1=>?_
 refine aI ?_
 refine aD TC [0] [] (fun v0_=>[.box (r) 105 [vI m,vI s,.bl false,vL A n c,.bl false,vI lf,vL B k d]]) fun _ h2=>?_
 refine aI ?_
 refine ev_stop (go_index0 (sz:=3) Tryz.tbs_ok (.inr 1) (posF L x) rfl rfl rfl rfl rfl rfl (by omega) rfl Row.at0 (fun g3 e4=>?_))
 subst e4
 refine aG ?_
 have l5:posF L x<(L).length:=(by omega)
 refine ev_stop (go_loadE Tryz.tbs_ok (.inr 1) (posF L x) 0 rfl rfl rfl rfl (fun _ h=>Row.rd h) (by omega) (fun _=>rfl) (by omega) l5 (by decide) ?_)
 refine aG ?_
 refine ev_new fun b6=>?_
 refine aD TW [0,1] [] (fun (v0_,v1_)=>[.box (r) 105 [vI m,vI s,.bl false,vL (some { block:=g3,off:=0:Addr }) n c,.bl false,vI lf,vL B k d],.fact (Row 117 3 (some { block:=g3,off:=0:Addr }) n c (List.flatMap encF L)),.fact (Row 117 3 v0_ (n-1) v1_ (List.flatMap encF (L.eraseIdx (posF L x))))]) fun ⟨x7,x8⟩ h9=>?_
 refine aD (TG (x7) (x8)) [0,3] [] (fun v0_=>[.box (r) 105 [vI m,vI s,.bl false,vL x7 (n-1) x8,.bl false,vI lf,vL B k d],.fact (Row 117 3 x7 (n-1) x8 (List.flatMap encF (L.eraseIdx (posF L x))))]) fun _ h10=>?_
 refine aI ?_
 refine aD (TP (x7) (x8)) [0,3] [] (fun (v0_,v1_)=>[.box (r) 105 [vI m,vI s,.bl false,vL v0_ (n-1+1) v1_,.bl false,vI lf,vL B k d],.fact (Row 117 3 v0_ (n-1+1) v1_ (List.flatMap encF (insF (L.eraseIdx (posF L x)) { n:=y,d:=L[posF L x].d,s:=L[posF L x].s:Fl })))]) fun ⟨x11,x12⟩ h13=>?_
 exact ev_fin ⟨trivial,_,rfl,((x11,x12)),rfl,trivial,aF [0,3]⟩
theorem rRenTG (r:Nat) (m s:Int) (A:Option Addr) (n c:Nat) (lf:Int) (B:Option Addr) (k d:Nat) (L:List Fl) (hn:n=L.length) (h1:n≤1000) (x y:ByteArray) (hs:riseF L) (hh:hasF L x=true) (hi:posF L x<L.length) (ho:oddS y=false) (hh2:hasF (L.eraseIdx (posF L x)) y=true) (hq:0<lf) (hq2:lf≤9223372036854775807):Triple Tryz.prog 118 [pP r,.string x,.string y] [Pt r 105 [.int .i64 m,.int .i64 s,.bool false,.slice A n c,.bool true,.int .i64 lf,.slice B k d],Row 117 3 A n c (L.flatMap encF)] [] (Option Addr × Nat) (fun _=>.int .i64 0) (fun _=>True) (fun (C,e)=>[Pt r 105 [.int .i64 m,.int .i64 s,.bool false,.slice C (n-1) e,.bool true,.int .i64 (lf-1),.slice B k d],Row 117 3 C (n-1) e (((L.eraseIdx (posF L x)).set (posF (L.eraseIdx (posF L x)) y) ⟨y,(L[posF L x]'hi).d,(L[posF L x]'hi).s⟩).flatMap encF)]):=by
 have TT:=rThereOk r m s A n c true lf B k d L hn h1 x hs hh
 have TO:=rName y
 rw [ho] at TO
 have TC:=rChangeG r m s A n c lf B k d hq hq2
 have hsM:riseF (L.eraseIdx (posF L x)):=List.Pairwise.sublist (List.eraseIdx_sublist _ _) hs
 have hl:(L.eraseIdx (posF L x)).length=n-1:=by rw [List.length_eraseIdx_of_lt hi,hn]
 have TW:=rWithout r m s false A n c true (lf-1) B k d L hn h1 (posF L x) (by omega)
 have TG:=fun A c=>rFind r m s false A (n-1) c true (lf-1) B k d (L.eraseIdx (posF L x)) hl.symm (by omega) y hsM
 obtain ⟨hp2,ep2⟩:=has_pos hsM hh2
 rw [show ixF (L.eraseIdx (posF L x)) y=(posF (L.eraseIdx (posF L x)) y:Nat) from by unfold ixF;rw [hh2];rfl] at TG
 have TV:=fun A c=>rWithout r m s false A (n-1) c true (lf-1) B k d (L.eraseIdx (posF L x)) hl.symm (by omega) (posF (L.eraseIdx (posF L x)) y) (by omega)
 have TP:=fun A c=>rPut r m s false A (n-1-1) c true (lf-1) B k d ((L.eraseIdx (posF L x)).eraseIdx (posF (L.eraseIdx (posF L x)) y)) (by rw [List.length_eraseIdx_of_lt hp2,hl]) (by omega) ⟨y,(L[posF L x]'hi).d,(L[posF L x]'hi).s⟩ (List.Pairwise.sublist (List.eraseIdx_sublist _ _) hsM) (hasF_erase hsM hp2 ep2)
 rw [ins_erase hsM hp2 (f:=⟨y,(L[posF L x]'hi).d,(L[posF L x]'hi).s⟩) ep2,show n-1-1+1=n-1 by omega] at TP
 refine aT Tryz.func118 [.pt 0 r 0,.va (.string x),.va (.string y)] [.box r 105 [vI m,vI s,.va (.bool false),vL A n c,.va (.bool true),vI lf,vL B k d],.fact (Row 117 3 A n c (L.flatMap encF))] (fun E=>?_) ⟨rfl,trivial,trivial,trivial⟩
 refine aG ?_
 refine aD TT [0,1] [] (fun v0_=>[.box (r) 105 [vI m,vI s,.bl false,vL A n c,.bl true,vI lf,vL B k d],.fact (Row 117 3 A n c (List.flatMap encF L))]) fun _ h0=>?_
 refine aI ?_
 refine aC TO [] [] fun _ h1=>?_
 refine aI ?_
 refine aD TC [0] [] (fun v0_=>[.box (r) 105 [vI m,vI s,.bl false,vL A n c,.bl true,vI (lf-1),vL B k d]]) fun _ h2=>?_
 refine aI ?_
 refine ev_stop (go_index0 (sz:=3) Tryz.tbs_ok (.inr 1) (posF L x) rfl rfl rfl rfl rfl rfl (by omega) rfl Row.at0 (fun g3 e4=>?_))
 subst e4
 refine aG ?_
 have l5:posF L x<(L).length:=(by omega)
 refine ev_stop (go_loadE Tryz.tbs_ok (.inr 1) (posF L x) 0 rfl rfl rfl rfl (fun _ h=>Row.rd h) (by omega) (fun _=>rfl) (by omega) l5 (by decide) ?_)
 refine aG ?_
 refine ev_new fun b6=>?_
 refine aD TW [0,1] [] (fun (v0_,v1_)=>[.box (r) 105 [vI m,vI s,.bl false,vL (some { block:=g3,off:=0:Addr }) n c,.bl true,vI (lf-1),vL B k d],.fact (Row 117 3 (some { block:=g3,off:=0:Addr }) n c (List.flatMap encF L)),.fact (Row 117 3 v0_ (n-1) v1_ (List.flatMap encF (L.eraseIdx (posF L x))))]) fun ⟨x7,x8⟩ h9=>?_
 refine aD (TG (x7) (x8)) [0,3] [] (fun v0_=>[.box (r) 105 [vI m,vI s,.bl false,vL x7 (n-1) x8,.bl true,vI (lf-1),vL B k d],.fact (Row 117 3 x7 (n-1) x8 (List.flatMap encF (L.eraseIdx (posF L x))))]) fun _ h10=>?_
 refine aJ ?_
 refine aD (TV (x7) (x8)) [0,3] [] (fun (v0_,v1_)=>[.box (r) 105 [vI m,vI s,.bl false,vL x7 (n-1) x8,.bl true,vI (lf-1),vL B k d],.fact (Row 117 3 x7 (n-1) x8 (List.flatMap encF (L.eraseIdx (posF L x)))),.fact (Row 117 3 v0_ (n-1-1) v1_ (List.flatMap encF ((L.eraseIdx (posF L x)).eraseIdx (posF (L.eraseIdx (posF L x)) y))))]) fun ⟨x11,x12⟩ h13=>?_
 refine aD (TP (x11) (x12)) [0,4] [] (fun (v0_,v1_)=>[.box (r) 105 [vI m,vI s,.bl false,vL v0_ (n-1) v1_,.bl true,vI (lf-1),vL B k d],.fact (Row 117 3 v0_ (n-1) v1_ (List.flatMap encF ((L.eraseIdx (posF L x)).set (posF (L.eraseIdx (posF L x)) y) { n:=y,d:=L[posF L x].d,s:=L[posF L x].s:Fl })))]) fun ⟨x14,x15⟩ h16=>?_
 exact ev_fin ⟨trivial,_,rfl,((x14,x15)),rfl,trivial,aF [0,4]⟩
theorem rRenFG (r:Nat) (m s:Int) (A:Option Addr) (n c:Nat) (lf:Int) (B:Option Addr) (k d:Nat) (L:List Fl) (hn:n=L.length) (h1:n≤1000) (x y:ByteArray) (hs:riseF L) (hh:hasF L x=true) (hi:posF L x<L.length) (ho:oddS y=false) (hh2:hasF (L.eraseIdx (posF L x)) y=false) (hq:0<lf) (hq2:lf≤9223372036854775807):Triple Tryz.prog 118 [pP r,.string x,.string y] [Pt r 105 [.int .i64 m,.int .i64 s,.bool false,.slice A n c,.bool true,.int .i64 lf,.slice B k d],Row 117 3 A n c (L.flatMap encF)] [] (Option Addr × Nat) (fun _=>.int .i64 0) (fun _=>True) (fun (C,e)=>[Pt r 105 [.int .i64 m,.int .i64 s,.bool false,.slice C (n-1+1) e,.bool true,.int .i64 (lf-1),.slice B k d],Row 117 3 C (n-1+1) e ((insF (L.eraseIdx (posF L x)) ⟨y,(L[posF L x]'hi).d,(L[posF L x]'hi).s⟩).flatMap encF)]):=by
 have TT:=rThereOk r m s A n c true lf B k d L hn h1 x hs hh
 have TO:=rName y
 rw [ho] at TO
 have TC:=rChangeG r m s A n c lf B k d hq hq2
 have hsM:riseF (L.eraseIdx (posF L x)):=List.Pairwise.sublist (List.eraseIdx_sublist _ _) hs
 have hl:(L.eraseIdx (posF L x)).length=n-1:=by rw [List.length_eraseIdx_of_lt hi,hn]
 have TW:=rWithout r m s false A n c true (lf-1) B k d L hn h1 (posF L x) (by omega)
 have TG:=fun A c=>rFind r m s false A (n-1) c true (lf-1) B k d (L.eraseIdx (posF L x)) hl.symm (by omega) y hsM
 rw [show ixF (L.eraseIdx (posF L x)) y = -1 from by unfold ixF;rw [hh2];rfl] at TG
 have TP:=fun A c=>rPut r m s false A (n-1) c true (lf-1) B k d (L.eraseIdx (posF L x)) hl.symm (by omega) ⟨y,(L[posF L x]'hi).d,(L[posF L x]'hi).s⟩ hsM hh2
 refine aT Tryz.func118 [.pt 0 r 0,.va (.string x),.va (.string y)] [.box r 105 [vI m,vI s,.va (.bool false),vL A n c,.va (.bool true),vI lf,vL B k d],.fact (Row 117 3 A n c (L.flatMap encF))] (fun E=>?_) ⟨rfl,trivial,trivial,trivial⟩
 refine aG ?_
 refine aD TT [0,1] [] (fun v0_=>[.box (r) 105 [vI m,vI s,.bl false,vL A n c,.bl true,vI lf,vL B k d],.fact (Row 117 3 A n c (List.flatMap encF L))]) fun _ h0=>?_
 refine aI ?_
 refine aC TO [] [] fun _ h1=>?_
 refine aI ?_
 refine aD TC [0] [] (fun v0_=>[.box (r) 105 [vI m,vI s,.bl false,vL A n c,.bl true,vI (lf-1),vL B k d]]) fun _ h2=>?_
 refine aI ?_
 refine ev_stop (go_index0 (sz:=3) Tryz.tbs_ok (.inr 1) (posF L x) rfl rfl rfl rfl rfl rfl (by omega) rfl Row.at0 (fun g3 e4=>?_))
 subst e4
 refine aG ?_
 have l5:posF L x<(L).length:=(by omega)
 refine ev_stop (go_loadE Tryz.tbs_ok (.inr 1) (posF L x) 0 rfl rfl rfl rfl (fun _ h=>Row.rd h) (by omega) (fun _=>rfl) (by omega) l5 (by decide) ?_)
 refine aG ?_
 refine ev_new fun b6=>?_
 refine aD TW [0,1] [] (fun (v0_,v1_)=>[.box (r) 105 [vI m,vI s,.bl false,vL (some { block:=g3,off:=0:Addr }) n c,.bl true,vI (lf-1),vL B k d],.fact (Row 117 3 (some { block:=g3,off:=0:Addr }) n c (List.flatMap encF L)),.fact (Row 117 3 v0_ (n-1) v1_ (List.flatMap encF (L.eraseIdx (posF L x))))]) fun ⟨x7,x8⟩ h9=>?_
 refine aD (TG (x7) (x8)) [0,3] [] (fun v0_=>[.box (r) 105 [vI m,vI s,.bl false,vL x7 (n-1) x8,.bl true,vI (lf-1),vL B k d],.fact (Row 117 3 x7 (n-1) x8 (List.flatMap encF (L.eraseIdx (posF L x))))]) fun _ h10=>?_
 refine aI ?_
 refine aD (TP (x7) (x8)) [0,3] [] (fun (v0_,v1_)=>[.box (r) 105 [vI m,vI s,.bl false,vL v0_ (n-1+1) v1_,.bl true,vI (lf-1),vL B k d],.fact (Row 117 3 v0_ (n-1+1) v1_ (List.flatMap encF (insF (L.eraseIdx (posF L x)) { n:=y,d:=L[posF L x].d,s:=L[posF L x].s:Fl })))]) fun ⟨x11,x12⟩ h13=>?_
 exact ev_fin ⟨trivial,_,rfl,((x11,x12)),rfl,trivial,aF [0,3]⟩
theorem rRenS (r:Nat) (m s:Int) (A:Option Addr) (n c:Nat) (lf:Int) (B:Option Addr) (k d:Nat) (L:List Fl) (hn:n=L.length) (h1:n≤1000) (x y:ByteArray) (hs:riseF L) (hh:hasF L x=true) (hi:posF L x<L.length) (ho:oddS y=false) (hq:lf=0) (K:List Int) (hk:k=K.length) (hL:okF L):Triple Tryz.prog 118 [pP r,.string x,.string y] [Pt r 105 [.int .i64 m,.int .i64 s,.bool false,.slice A n c,.bool true,.int .i64 lf,.slice B k d],Row 117 3 A n c (L.flatMap encF),Row 3 1 B k d (K.flatMap encN)] [] Unit (fun _=>.int .i64 41) (fun _=>True) (fun _=>[Pt r 105 [.int .i64 m,.int .i64 s,.bool true,.slice A n c,.bool false,.int .i64 lf,.slice B k d],Row 117 3 A n c ((crashF L K).flatMap encF),Row 3 1 B k d (K.flatMap encN)]):=by
 have TT:=rThereOk r m s A n c true lf B k d L hn h1 x hs hh
 have TO:=rName y
 rw [ho] at TO
 have TC:=rChangeS r m s A n c lf B k d L hn h1 hq K hk hL
 refine aT Tryz.func118 [.pt 0 r 0,.va (.string x),.va (.string y)] [.box r 105 [vI m,vI s,.va (.bool false),vL A n c,.va (.bool true),vI lf,vL B k d],.fact (Row 117 3 A n c (L.flatMap encF)),.fact (Row 3 1 B k d (K.flatMap encN))] (fun E=>?_) ⟨rfl,trivial,trivial,trivial⟩
 refine aG ?_
 refine aD TT [0,1] [] (fun v0_=>[.box (r) 105 [vI m,vI s,.bl false,vL A n c,.bl true,vI lf,vL B k d],.fact (Row 117 3 A n c (List.flatMap encF L))]) fun _ h0=>?_
 refine aI ?_
 refine aC TO [] [] fun _ h1=>?_
 refine aI ?_
 refine aD TC [0,1,2] [] (fun v0_=>[.box (r) 105 [vI m,vI s,.bl true,vL A n c,.bl false,vI lf,vL B k d],.fact (Row 117 3 A n c (List.flatMap encF (crashF L K))),.fact (Row 3 1 B k d (List.flatMap encN K))]) fun _ h2=>?_
 refine aJ ?_
 exact ev_fin ⟨trivial,_,rfl,(),rfl,trivial,aF [0,1,2]⟩
set_option maxHeartbeats 1000000 in
theorem rAppTN (r:Nat) (m s:Int) (A:Option Addr) (n c:Nat) (lf:Int) (B:Option Addr) (k d:Nat) (L:List Fl) (hn:n=L.length) (h1:n≤1000) (x y:ByteArray) (hs:riseF L) (ho:oddS x=false) (hb:sumD L≤1000000000) (hm2:m≤1048576) (hy:(y.size:Int)≤m-sumD L) (hh:hasF L x=true) (hi:posF L x<L.length):Triple Tryz.prog 33 [pP r,.string x,.string y] [Pt r 105 [.int .i64 m,.int .i64 s,.bool false,.slice A n c,.bool false,.int .i64 lf,.slice B k d],Row 117 3 A n c (L.flatMap encF)] [] Unit (fun _=>.int .i64 0) (fun _=>True) (fun _=>[Pt r 105 [.int .i64 m,.int .i64 s,.bool false,.slice A n c,.bool false,.int .i64 lf,.slice B k d],Row 117 3 A n c ((L.set (posF L x) ⟨(L[posF L x]'hi).n,(L[posF L x]'hi).d++y,(L[posF L x]'hi).s⟩).flatMap encF)]):=by
 have TO:=rName x
 rw [ho] at TO
 have T1:=rFind r m s false A n c false lf B k d L hn h1 x hs
 have TS:=rSize r m s false A n c false lf B k d L hn h1 hb
 rw [show ixF L x=(posF L x:Nat) from by unfold ixF;rw [hh];rfl] at T1
 have hz:=sumD_mem (List.getElem_mem hi)
 have TF:=rFailsN r m s false A n c lf B k d
 refine aT Tryz.func33 [.pt 0 r 0,.va (.string x),.va (.string y)] [.box r 105 [vI m,vI s,.va (.bool false),vL A n c,.va (.bool false),vI lf,vL B k d],.fact (Row 117 3 A n c (L.flatMap encF))] (fun E=>?_) ⟨rfl,trivial,trivial,trivial⟩
 refine aG (aI ?_)
 refine aC TO [] [] fun _ h0=>?_
 refine aI ?_
 refine aD T1 [0,1] [] (fun v0_=>[.box (r) 105 [vI m,vI s,.bl false,vL A n c,.bl false,vI lf,vL B k d],.fact (Row 117 3 A n c (List.flatMap encF L))]) fun _ h1=>?_
 refine ev_stop (go_draw Tryz.tbs_ok true [0] [(0,true),(1,true),(2,true),(3,true),(4,true),(5,true),(6,true),(7,true),(8,true),(9,true),(10,true),(11,true),(12,true),(13,true),(14,true),(15,true),(16,true),(17,true),(18,false),(19,false),(20,false),(21,false)] rfl ?_)
 refine aG (aE (aI (aE ?_)))
 refine aD TS [0,1] [] (fun v0_=>[.box (r) 105 [vI m,vI s,.bl false,vL A n c,.bl false,vI lf,vL B k d],.fact (Row 117 3 A n c (List.flatMap encF L))]) fun _ h2=>?_
 refine aE ?_
 refine w6 ?_
 refine aE (aE (aE ?_))
 refine aI ?_ (decide_eq_false (show ¬(↑y.size:Int) > m-(↑(sumD L):Int) from (by omega)))
 refine aI ?_
 refine ev_stop (go_draw Tryz.tbs_ok false [0,1] [(0,true),(1,true),(2,true),(3,true),(4,true),(5,true),(6,true),(7,true),(8,true),(9,true),(10,true),(11,true),(12,true),(13,true),(14,true),(15,true),(16,true),(17,false)] rfl ?_)
 refine aG (aE ?_)
 refine ev_stop (tk_index0 (sz:=3) Tryz.tbs_ok (.inr 1) (posF L x) aB rfl rfl rfl rfl rfl rfl rfl (by omega) rfl Row.at0 (fun g3 e4=>?_))
 subst e4
 refine aG (aE ?_)
 have l5:posF L x<(L).length:=(by omega)
 refine ev_stop (tk_loadE Tryz.tbs_ok (.inr 1) (posF L x) 1 aB rfl rfl rfl rfl rfl (fun _ h=>Row.rd h) (by omega) (fun _=>rfl) (by omega) l5 (by decide) ?_)
 refine aG (aE ?_)
 refine ev_stop (tk_bin (.va _) trivial aB rfl rfl rfl rfl rfl rfl (by decide) (by decide) (fun w=>cat_run (by omega) w) ?_)
 refine aG (aE ?_)
 refine ev_stop (tk_atE (sz:=3) Tryz.tbs_ok (posF L x) aB rfl rfl rfl rfl rfl rfl rfl (by omega) ?_)
 refine aG (aE ?_)
 have l6:posF L x<(L).length:=(by omega)
 refine ev_stop (go_storeR Tryz.tbs_ok 1 (posF L x) 1 ({ n:=L[posF L x].n,d:=L[posF L x].d++y,s:=L[posF L x].s:Fl }) rfl rfl rfl rfl rfl (by omega) (fun _=>rfl) (ones_of rfl) (by omega) l6 rfl (by decide) (ones_of rfl) rfl ?_)
 refine aG (aK ?_)
 refine aD TF [0] [] (fun v0_=>[.box (r) 105 [vI m,vI s,.bl false,vL (some { block:=g3,off:=0:Addr }) n c,.bl false,vI lf,vL B k d]]) fun _ h7=>?_
 refine aI ?_
 exact ev_fin ⟨trivial,_,rfl,(),rfl,trivial,aF [0,1]⟩
set_option maxHeartbeats 1000000 in
theorem rAppFN (r:Nat) (m s:Int) (A:Option Addr) (n c:Nat) (lf:Int) (B:Option Addr) (k d:Nat) (L:List Fl) (hn:n=L.length) (h1:n≤1000) (x y:ByteArray) (hs:riseF L) (ho:oddS x=false) (hb:sumD L≤1000000000) (hm2:m≤1048576) (hy:(y.size:Int)≤m-sumD L) (hh:hasF L x=false) (h16:n<16):Triple Tryz.prog 33 [pP r,.string x,.string y] [Pt r 105 [.int .i64 m,.int .i64 s,.bool false,.slice A n c,.bool false,.int .i64 lf,.slice B k d],Row 117 3 A n c (L.flatMap encF)] [] (Option Addr × Nat) (fun _=>.int .i64 0) (fun _=>True) (fun (C,e)=>[Pt r 105 [.int .i64 m,.int .i64 s,.bool false,.slice C (n+1) e,.bool false,.int .i64 lf,.slice B k d],Row 117 3 C (n+1) e ((insF L ⟨x,y,0⟩).flatMap encF)]):=by
 have TO:=rName x
 rw [ho] at TO
 have T1:=rFind r m s false A n c false lf B k d L hn h1 x hs
 have TS:=rSize r m s false A n c false lf B k d L hn h1 hb
 rw [show ixF L x = -1 from by unfold ixF;rw [hh];rfl] at T1
 have hle:0≤(sumD L:Int):=Int.natCast_nonneg _
 have TP:=rPut r m s false A n c false lf B k d L hn h1 ⟨x,ByteArray.empty,0⟩ hs hh
 obtain ⟨J,hJ⟩:∃ J,J=insF L ⟨x,ByteArray.empty,0⟩:=⟨_,rfl⟩
 have hsJ:riseF J:=by rw [hJ];exact riseF_ins hs hh
 have hJl:n+1=J.length:=by rw [hJ,insF_len,hn]
 have TG:=fun A c=>rFind r m s false A (n+1) c false lf B k d J hJl (by omega) x hsJ
 have hJp:posF J x=posF L x:=by rw [hJ];exact posF_ins L hs ⟨x,ByteArray.empty,0⟩
 obtain ⟨hq0,hq1⟩:=insF_at L ⟨x,ByteArray.empty,0⟩
 have hpJ:posF L x<J.length:=by rw [hJ];exact hq0
 have hJe:J[posF L x]'hpJ=⟨x,ByteArray.empty,0⟩:=by simp only [hJ];exact hq1
 have hsz:(J[posF L x]'hpJ).d.size+y.size≤1000000000:=by
  rw [hJe]
  have:ByteArray.empty.size=0:=rfl
  simp only [this]
  omega
 have e1:J.set (posF L x) ⟨(J[posF L x]'hpJ).n,(J[posF L x]'hpJ).d++y,(J[posF L x]'hpJ).s⟩=insF L ⟨x,y,0⟩:=by
  rw [hJe,hJ]
  simp only [ByteArray.empty_append]
  exact insF_set L ⟨x,ByteArray.empty,0⟩ ⟨x,y,0⟩ rfl
 rw [show ixF J x=(posF L x:Nat) from by unfold ixF;rw [hJ,insF_has L ⟨x,ByteArray.empty,0⟩,←hJ,hJp];rfl] at TG
 rw [←hJ] at TP
 have TF:=fun A c=>rFailsN r m s false A (n+1) c lf B k d
 refine aT Tryz.func33 [.pt 0 r 0,.va (.string x),.va (.string y)] [.box r 105 [vI m,vI s,.va (.bool false),vL A n c,.va (.bool false),vI lf,vL B k d],.fact (Row 117 3 A n c (L.flatMap encF))] (fun E=>?_) ⟨rfl,trivial,trivial,trivial⟩
 refine aG (aI ?_)
 refine aC TO [] [] fun _ h0=>?_
 refine aI ?_
 refine aD T1 [0,1] [] (fun v0_=>[.box (r) 105 [vI m,vI s,.bl false,vL A n c,.bl false,vI lf,vL B k d],.fact (Row 117 3 A n c (List.flatMap encF L))]) fun _ h1=>?_
 refine ev_stop (go_draw Tryz.tbs_ok true [0] [(0,true),(1,true),(2,true),(3,true),(4,true),(5,true),(6,true),(7,true),(8,true),(9,true),(10,true),(11,true),(12,true),(13,true),(14,true),(15,true),(16,true),(17,true),(18,false),(19,false),(20,false),(21,false)] rfl ?_)
 refine aG (aE (aJ (aE ?_)))
 refine aI ?_ (decide_eq_false (show ¬(↑n:Int) ≥ 16 from (by omega)))
 refine aE ?_
 refine aD TS [0,1] [] (fun v0_=>[.box (r) 105 [vI m,vI s,.bl false,vL A n c,.bl false,vI lf,vL B k d],.fact (Row 117 3 A n c (List.flatMap encF L))]) fun _ h2=>?_
 refine aE ?_
 refine w6 ?_
 refine aE (aE (aE ?_))
 refine aI ?_ (decide_eq_false (show ¬(↑y.size:Int) > m-(↑(sumD L):Int) from (by omega)))
 refine aJ ?_
 refine aD TP [0,1] [] (fun (v0_,v1_)=>[.box (r) 105 [vI m,vI s,.bl false,vL v0_ (n+1) v1_,.bl false,vI lf,vL B k d],.fact (Row 117 3 v0_ (n+1) v1_ (List.flatMap encF J))]) fun ⟨x3,x4⟩ h5=>?_
 refine aD (TG (x3) (x4)) [0,1] [] (fun v0_=>[.box (r) 105 [vI m,vI s,.bl false,vL x3 (n+1) x4,.bl false,vI lf,vL B k d],.fact (Row 117 3 x3 (n+1) x4 (List.flatMap encF J))]) fun _ h6=>?_
 refine ev_stop (go_draw Tryz.tbs_ok false [0,1] [(0,true),(1,true),(2,true),(3,true),(4,true),(5,true),(6,true),(7,true),(8,true),(9,true),(10,true),(11,true),(12,true),(13,true),(14,true),(15,true),(16,true),(17,false)] rfl ?_)
 refine aG (aE ?_)
 refine ev_stop (tk_index0 (sz:=3) Tryz.tbs_ok (.inr 1) (posF L x) aB rfl rfl rfl rfl rfl rfl rfl (by omega) rfl Row.at0 (fun g7 e8=>?_))
 subst e8
 refine aG (aE ?_)
 have l9:posF L x<(J).length:=(by omega)
 refine ev_stop (tk_loadE Tryz.tbs_ok (.inr 1) (posF L x) 1 aB rfl rfl rfl rfl rfl (fun _ h=>Row.rd h) (by omega) (fun _=>rfl) (by omega) l9 (by decide) ?_)
 refine aG (aE ?_)
 refine ev_stop (tk_bin (.va _) trivial aB rfl rfl rfl rfl rfl rfl (by decide) (by decide) (fun w=>cat_run (by omega) w) ?_)
 refine aG (aE ?_)
 refine ev_stop (tk_atE (sz:=3) Tryz.tbs_ok (posF L x) aB rfl rfl rfl rfl rfl rfl rfl (by omega) ?_)
 refine aG (aE ?_)
 have l10:posF L x<(J).length:=(by omega)
 refine ev_stop (go_storeR Tryz.tbs_ok 1 (posF L x) 1 ({ n:=J[posF L x].n,d:=J[posF L x].d++y,s:=J[posF L x].s:Fl }) rfl rfl rfl rfl rfl (by omega) (fun _=>rfl) (ones_of rfl) (by omega) l10 rfl (by decide) (ones_of rfl) rfl ?_)
 refine aG (aK ?_)
 rw [e1]
 refine aD (TF (some { block:=g7,off:=0:Addr }) (x4)) [0] [] (fun v0_=>[.box (r) 105 [vI m,vI s,.bl false,vL (some { block:=g7,off:=0:Addr }) (n+1) x4,.bl false,vI lf,vL B k d]]) fun _ h100=>?_
 refine aI ?_
 exact ev_fin ⟨trivial,_,rfl,((some { block:=g7,off:=0:Addr },x4)),rfl,trivial,aF [0,1]⟩
set_option maxHeartbeats 1000000 in
theorem rAppTG (r:Nat) (m s:Int) (A:Option Addr) (n c:Nat) (lf:Int) (B:Option Addr) (k d:Nat) (L:List Fl) (hn:n=L.length) (h1:n≤1000) (x y:ByteArray) (hs:riseF L) (ho:oddS x=false) (hb:sumD L≤1000000000) (hm2:m≤1048576) (hy:(y.size:Int)≤m-sumD L) (hh:hasF L x=true) (hi:posF L x<L.length) (hq:0<lf) (hq2:lf≤9223372036854775807):Triple Tryz.prog 33 [pP r,.string x,.string y] [Pt r 105 [.int .i64 m,.int .i64 s,.bool false,.slice A n c,.bool true,.int .i64 lf,.slice B k d],Row 117 3 A n c (L.flatMap encF)] [] Unit (fun _=>.int .i64 0) (fun _=>True) (fun _=>[Pt r 105 [.int .i64 m,.int .i64 s,.bool false,.slice A n c,.bool true,.int .i64 (lf-1),.slice B k d],Row 117 3 A n c ((L.set (posF L x) ⟨(L[posF L x]'hi).n,(L[posF L x]'hi).d++y,(L[posF L x]'hi).s⟩).flatMap encF)]):=by
 have TO:=rName x
 rw [ho] at TO
 have T1:=rFind r m s false A n c true lf B k d L hn h1 x hs
 have TS:=rSize r m s false A n c true lf B k d L hn h1 hb
 rw [show ixF L x=(posF L x:Nat) from by unfold ixF;rw [hh];rfl] at T1
 have hz:=sumD_mem (List.getElem_mem hi)
 have TF:=rFailsG r m s false A n c lf B k d hq hq2
 refine aT Tryz.func33 [.pt 0 r 0,.va (.string x),.va (.string y)] [.box r 105 [vI m,vI s,.va (.bool false),vL A n c,.va (.bool true),vI lf,vL B k d],.fact (Row 117 3 A n c (L.flatMap encF))] (fun E=>?_) ⟨rfl,trivial,trivial,trivial⟩
 refine aG (aI ?_)
 refine aC TO [] [] fun _ h0=>?_
 refine aI ?_
 refine aD T1 [0,1] [] (fun v0_=>[.box (r) 105 [vI m,vI s,.bl false,vL A n c,.bl true,vI lf,vL B k d],.fact (Row 117 3 A n c (List.flatMap encF L))]) fun _ h1=>?_
 refine ev_stop (go_draw Tryz.tbs_ok true [0] [(0,true),(1,true),(2,true),(3,true),(4,true),(5,true),(6,true),(7,true),(8,true),(9,true),(10,true),(11,true),(12,true),(13,true),(14,true),(15,true),(16,true),(17,true),(18,false),(19,false),(20,false),(21,false)] rfl ?_)
 refine aG (aE (aI (aE ?_)))
 refine aD TS [0,1] [] (fun v0_=>[.box (r) 105 [vI m,vI s,.bl false,vL A n c,.bl true,vI lf,vL B k d],.fact (Row 117 3 A n c (List.flatMap encF L))]) fun _ h2=>?_
 refine aE ?_
 refine w6 ?_
 refine aE (aE (aE ?_))
 refine aI ?_ (decide_eq_false (show ¬(↑y.size:Int) > m-(↑(sumD L):Int) from (by omega)))
 refine aI ?_
 refine ev_stop (go_draw Tryz.tbs_ok false [0,1] [(0,true),(1,true),(2,true),(3,true),(4,true),(5,true),(6,true),(7,true),(8,true),(9,true),(10,true),(11,true),(12,true),(13,true),(14,true),(15,true),(16,true),(17,false)] rfl ?_)
 refine aG (aE ?_)
 refine ev_stop (tk_index0 (sz:=3) Tryz.tbs_ok (.inr 1) (posF L x) aB rfl rfl rfl rfl rfl rfl rfl (by omega) rfl Row.at0 (fun g3 e4=>?_))
 subst e4
 refine aG (aE ?_)
 have l5:posF L x<(L).length:=(by omega)
 refine ev_stop (tk_loadE Tryz.tbs_ok (.inr 1) (posF L x) 1 aB rfl rfl rfl rfl rfl (fun _ h=>Row.rd h) (by omega) (fun _=>rfl) (by omega) l5 (by decide) ?_)
 refine aG (aE ?_)
 refine ev_stop (tk_bin (.va _) trivial aB rfl rfl rfl rfl rfl rfl (by decide) (by decide) (fun w=>cat_run (by omega) w) ?_)
 refine aG (aE ?_)
 refine ev_stop (tk_atE (sz:=3) Tryz.tbs_ok (posF L x) aB rfl rfl rfl rfl rfl rfl rfl (by omega) ?_)
 refine aG (aE ?_)
 have l6:posF L x<(L).length:=(by omega)
 refine ev_stop (go_storeR Tryz.tbs_ok 1 (posF L x) 1 ({ n:=L[posF L x].n,d:=L[posF L x].d++y,s:=L[posF L x].s:Fl }) rfl rfl rfl rfl rfl (by omega) (fun _=>rfl) (ones_of rfl) (by omega) l6 rfl (by decide) (ones_of rfl) rfl ?_)
 refine aG (aK ?_)
 refine aD TF [0] [] (fun v0_=>[.box (r) 105 [vI m,vI s,.bl false,vL (some { block:=g3,off:=0:Addr }) n c,.bl true,vI (lf-1),vL B k d]]) fun _ h7=>?_
 refine aI ?_
 exact ev_fin ⟨trivial,_,rfl,(),rfl,trivial,aF [0,1]⟩
set_option maxHeartbeats 1000000 in
theorem rAppFG (r:Nat) (m s:Int) (A:Option Addr) (n c:Nat) (lf:Int) (B:Option Addr) (k d:Nat) (L:List Fl) (hn:n=L.length) (h1:n≤1000) (x y:ByteArray) (hs:riseF L) (ho:oddS x=false) (hb:sumD L≤1000000000) (hm2:m≤1048576) (hy:(y.size:Int)≤m-sumD L) (hh:hasF L x=false) (h16:n<16) (hq:0<lf) (hq2:lf≤9223372036854775807):Triple Tryz.prog 33 [pP r,.string x,.string y] [Pt r 105 [.int .i64 m,.int .i64 s,.bool false,.slice A n c,.bool true,.int .i64 lf,.slice B k d],Row 117 3 A n c (L.flatMap encF)] [] (Option Addr × Nat) (fun _=>.int .i64 0) (fun _=>True) (fun (C,e)=>[Pt r 105 [.int .i64 m,.int .i64 s,.bool false,.slice C (n+1) e,.bool true,.int .i64 (lf-1),.slice B k d],Row 117 3 C (n+1) e ((insF L ⟨x,y,0⟩).flatMap encF)]):=by
 have TO:=rName x
 rw [ho] at TO
 have T1:=rFind r m s false A n c true lf B k d L hn h1 x hs
 have TS:=rSize r m s false A n c true lf B k d L hn h1 hb
 rw [show ixF L x = -1 from by unfold ixF;rw [hh];rfl] at T1
 have hle:0≤(sumD L:Int):=Int.natCast_nonneg _
 have TP:=rPut r m s false A n c true lf B k d L hn h1 ⟨x,ByteArray.empty,0⟩ hs hh
 obtain ⟨J,hJ⟩:∃ J,J=insF L ⟨x,ByteArray.empty,0⟩:=⟨_,rfl⟩
 have hsJ:riseF J:=by rw [hJ];exact riseF_ins hs hh
 have hJl:n+1=J.length:=by rw [hJ,insF_len,hn]
 have TG:=fun A c=>rFind r m s false A (n+1) c true lf B k d J hJl (by omega) x hsJ
 have hJp:posF J x=posF L x:=by rw [hJ];exact posF_ins L hs ⟨x,ByteArray.empty,0⟩
 obtain ⟨hq0,hq1⟩:=insF_at L ⟨x,ByteArray.empty,0⟩
 have hpJ:posF L x<J.length:=by rw [hJ];exact hq0
 have hJe:J[posF L x]'hpJ=⟨x,ByteArray.empty,0⟩:=by simp only [hJ];exact hq1
 have hsz:(J[posF L x]'hpJ).d.size+y.size≤1000000000:=by
  rw [hJe]
  have:ByteArray.empty.size=0:=rfl
  simp only [this]
  omega
 have e1:J.set (posF L x) ⟨(J[posF L x]'hpJ).n,(J[posF L x]'hpJ).d++y,(J[posF L x]'hpJ).s⟩=insF L ⟨x,y,0⟩:=by
  rw [hJe,hJ]
  simp only [ByteArray.empty_append]
  exact insF_set L ⟨x,ByteArray.empty,0⟩ ⟨x,y,0⟩ rfl
 rw [show ixF J x=(posF L x:Nat) from by unfold ixF;rw [hJ,insF_has L ⟨x,ByteArray.empty,0⟩,←hJ,hJp];rfl] at TG
 rw [←hJ] at TP
 have TF:=fun A c=>rFailsG r m s false A (n+1) c lf B k d hq hq2
 refine aT Tryz.func33 [.pt 0 r 0,.va (.string x),.va (.string y)] [.box r 105 [vI m,vI s,.va (.bool false),vL A n c,.va (.bool true),vI lf,vL B k d],.fact (Row 117 3 A n c (L.flatMap encF))] (fun E=>?_) ⟨rfl,trivial,trivial,trivial⟩
 refine aG (aI ?_)
 refine aC TO [] [] fun _ h0=>?_
 refine aI ?_
 refine aD T1 [0,1] [] (fun v0_=>[.box (r) 105 [vI m,vI s,.bl false,vL A n c,.bl true,vI lf,vL B k d],.fact (Row 117 3 A n c (List.flatMap encF L))]) fun _ h1=>?_
 refine ev_stop (go_draw Tryz.tbs_ok true [0] [(0,true),(1,true),(2,true),(3,true),(4,true),(5,true),(6,true),(7,true),(8,true),(9,true),(10,true),(11,true),(12,true),(13,true),(14,true),(15,true),(16,true),(17,true),(18,false),(19,false),(20,false),(21,false)] rfl ?_)
 refine aG (aE (aJ (aE ?_)))
 refine aI ?_ (decide_eq_false (show ¬(↑n:Int) ≥ 16 from (by omega)))
 refine aE ?_
 refine aD TS [0,1] [] (fun v0_=>[.box (r) 105 [vI m,vI s,.bl false,vL A n c,.bl true,vI lf,vL B k d],.fact (Row 117 3 A n c (List.flatMap encF L))]) fun _ h2=>?_
 refine aE ?_
 refine w6 ?_
 refine aE (aE (aE ?_))
 refine aI ?_ (decide_eq_false (show ¬(↑y.size:Int) > m-(↑(sumD L):Int) from (by omega)))
 refine aJ ?_
 refine aD TP [0,1] [] (fun (v0_,v1_)=>[.box (r) 105 [vI m,vI s,.bl false,vL v0_ (n+1) v1_,.bl true,vI lf,vL B k d],.fact (Row 117 3 v0_ (n+1) v1_ (List.flatMap encF J))]) fun ⟨x3,x4⟩ h5=>?_
 refine aD (TG (x3) (x4)) [0,1] [] (fun v0_=>[.box (r) 105 [vI m,vI s,.bl false,vL x3 (n+1) x4,.bl true,vI lf,vL B k d],.fact (Row 117 3 x3 (n+1) x4 (List.flatMap encF J))]) fun _ h6=>?_
 refine ev_stop (go_draw Tryz.tbs_ok false [0,1] [(0,true),(1,true),(2,true),(3,true),(4,true),(5,true),(6,true),(7,true),(8,true),(9,true),(10,true),(11,true),(12,true),(13,true),(14,true),(15,true),(16,true),(17,false)] rfl ?_)
 refine aG (aE ?_)
 refine ev_stop (tk_index0 (sz:=3) Tryz.tbs_ok (.inr 1) (posF L x) aB rfl rfl rfl rfl rfl rfl rfl (by omega) rfl Row.at0 (fun g7 e8=>?_))
 subst e8
 refine aG (aE ?_)
 have l9:posF L x<(J).length:=(by omega)
 refine ev_stop (tk_loadE Tryz.tbs_ok (.inr 1) (posF L x) 1 aB rfl rfl rfl rfl rfl (fun _ h=>Row.rd h) (by omega) (fun _=>rfl) (by omega) l9 (by decide) ?_)
 refine aG (aE ?_)
 refine ev_stop (tk_bin (.va _) trivial aB rfl rfl rfl rfl rfl rfl (by decide) (by decide) (fun w=>cat_run (by omega) w) ?_)
 refine aG (aE ?_)
 refine ev_stop (tk_atE (sz:=3) Tryz.tbs_ok (posF L x) aB rfl rfl rfl rfl rfl rfl rfl (by omega) ?_)
 refine aG (aE ?_)
 have l10:posF L x<(J).length:=(by omega)
 refine ev_stop (go_storeR Tryz.tbs_ok 1 (posF L x) 1 ({ n:=J[posF L x].n,d:=J[posF L x].d++y,s:=J[posF L x].s:Fl }) rfl rfl rfl rfl rfl (by omega) (fun _=>rfl) (ones_of rfl) (by omega) l10 rfl (by decide) (ones_of rfl) rfl ?_)
 refine aG (aK ?_)
 rw [e1]
 refine aD (TF (some { block:=g7,off:=0:Addr }) (x4)) [0] [] (fun v0_=>[.box (r) 105 [vI m,vI s,.bl false,vL (some { block:=g7,off:=0:Addr }) (n+1) x4,.bl true,vI (lf-1),vL B k d]]) fun _ h100=>?_
 refine aI ?_
 exact ev_fin ⟨trivial,_,rfl,((some { block:=g7,off:=0:Addr },x4)),rfl,trivial,aF [0,1]⟩
set_option maxHeartbeats 1000000 in
theorem rAppTS (r:Nat) (m s:Int) (A:Option Addr) (n c:Nat) (lf:Int) (B:Option Addr) (k d:Nat) (L:List Fl) (hn:n=L.length) (h1:n≤1000) (x y:ByteArray) (hs:riseF L) (ho:oddS x=false) (hb:sumD L≤1000000000) (hm2:m≤1048576) (hy:(y.size:Int)≤m-sumD L) (hh:hasF L x=true) (hi:posF L x<L.length) (hq:lf=0) (K:List Int) (hk:k=K.length) (hL:okF (L.set (posF L x) ⟨(L[posF L x]'hi).n,(L[posF L x]'hi).d++y,(L[posF L x]'hi).s⟩)):Triple Tryz.prog 33 [pP r,.string x,.string y] [Pt r 105 [.int .i64 m,.int .i64 s,.bool false,.slice A n c,.bool true,.int .i64 lf,.slice B k d],Row 117 3 A n c (L.flatMap encF),Row 3 1 B k d (K.flatMap encN)] [] Unit (fun _=>.int .i64 41) (fun _=>True) (fun _=>[Pt r 105 [.int .i64 m,.int .i64 s,.bool true,.slice A n c,.bool false,.int .i64 lf,.slice B k d],Row 117 3 A n c ((crashF (L.set (posF L x) ⟨(L[posF L x]'hi).n,(L[posF L x]'hi).d++y,(L[posF L x]'hi).s⟩) K).flatMap encF),Row 3 1 B k d (K.flatMap encN)]):=by
 have TO:=rName x
 rw [ho] at TO
 have T1:=rFind r m s false A n c true lf B k d L hn h1 x hs
 have TS:=rSize r m s false A n c true lf B k d L hn h1 hb
 rw [show ixF L x=(posF L x:Nat) from by unfold ixF;rw [hh];rfl] at T1
 have hz:=sumD_mem (List.getElem_mem hi)
 have TF:=rFailsS r m s false A n c lf B k d hq
 have TX:=(rCrash r m s A n c true lf B k d (L.set (posF L x) ⟨(L[posF L x]'hi).n,(L[posF L x]'hi).d++y,(L[posF L x]'hi).s⟩) (by rw [List.length_set];exact hn) h1 B k d K hk hL).reads (N':=[Row 3 1 B k d (K.flatMap encN)]) (fun X hX=>⟨_,List.mem_cons_self,fun _ q=>by rw [List.mem_singleton.1 hX];exact Row.rd q⟩)
 refine aT Tryz.func33 [.pt 0 r 0,.va (.string x),.va (.string y)] [.box r 105 [vI m,vI s,.va (.bool false),vL A n c,.va (.bool true),vI lf,vL B k d],.fact (Row 117 3 A n c (L.flatMap encF)),.fact (Row 3 1 B k d (K.flatMap encN))] (fun E=>?_) ⟨rfl,trivial,trivial,trivial⟩
 refine aG (aI ?_)
 refine aC TO [] [] fun _ h0=>?_
 refine aI ?_
 refine aD T1 [0,1] [] (fun v0_=>[.box (r) 105 [vI m,vI s,.bl false,vL A n c,.bl true,vI lf,vL B k d],.fact (Row 117 3 A n c (List.flatMap encF L))]) fun _ h1=>?_
 refine ev_stop (go_draw Tryz.tbs_ok true [0] [(0,true),(1,true),(2,true),(3,true),(4,true),(5,true),(6,true),(7,true),(8,true),(9,true),(10,true),(11,true),(12,true),(13,true),(14,true),(15,true),(16,true),(17,true),(18,false),(19,false),(20,false),(21,false)] rfl ?_)
 refine aG (aE (aI (aE ?_)))
 refine aD TS [0,1] [] (fun v0_=>[.box (r) 105 [vI m,vI s,.bl false,vL A n c,.bl true,vI lf,vL B k d],.fact (Row 117 3 A n c (List.flatMap encF L))]) fun _ h2=>?_
 refine aE ?_
 refine w6 ?_
 refine aE (aE (aE ?_))
 refine aI ?_ (decide_eq_false (show ¬(↑y.size:Int) > m-(↑(sumD L):Int) from (by omega)))
 refine aI ?_
 refine ev_stop (go_draw Tryz.tbs_ok false [0,1] [(0,true),(1,true),(2,true),(3,true),(4,true),(5,true),(6,true),(7,true),(8,true),(9,true),(10,true),(11,true),(12,true),(13,true),(14,true),(15,true),(16,true),(17,false)] rfl ?_)
 refine aG (aE ?_)
 refine ev_stop (tk_index0 (sz:=3) Tryz.tbs_ok (.inr 1) (posF L x) aB rfl rfl rfl rfl rfl rfl rfl (by omega) rfl Row.at0 (fun g3 e4=>?_))
 subst e4
 refine aG (aE ?_)
 have l5:posF L x<(L).length:=(by omega)
 refine ev_stop (tk_loadE Tryz.tbs_ok (.inr 1) (posF L x) 1 aB rfl rfl rfl rfl rfl (fun _ h=>Row.rd h) (by omega) (fun _=>rfl) (by omega) l5 (by decide) ?_)
 refine aG (aE ?_)
 refine ev_stop (tk_bin (.va _) trivial aB rfl rfl rfl rfl rfl rfl (by decide) (by decide) (fun w=>cat_run (by omega) w) ?_)
 refine aG (aE ?_)
 refine ev_stop (tk_atE (sz:=3) Tryz.tbs_ok (posF L x) aB rfl rfl rfl rfl rfl rfl rfl (by omega) ?_)
 refine aG (aE ?_)
 have l6:posF L x<(L).length:=(by omega)
 refine ev_stop (go_storeR Tryz.tbs_ok 1 (posF L x) 1 ({ n:=L[posF L x].n,d:=L[posF L x].d++y,s:=L[posF L x].s:Fl }) rfl rfl rfl rfl rfl (by omega) (fun _=>rfl) (ones_of rfl) (by omega) l6 rfl (by decide) (ones_of rfl) rfl ?_)
 refine aG (aK ?_)
 refine aD TF [0] [] (fun v0_=>[.box (r) 105 [vI m,vI s,.bl false,vL (some { block:=g3,off:=0:Addr }) n c,.bl true,vI lf,vL B k d]]) fun _ h7=>?_
 refine aJ ?_
 refine aD TX [0,1] [.inr 2] (fun v0_=>[.box (r) 105 [vI m,vI s,.bl true,vL (some { block:=g3,off:=0:Addr }) n c,.bl false,vI lf,vL B k d],.fact (Row 117 3 (some { block:=g3,off:=0:Addr }) n c (List.flatMap encF (crashF (L.set (posF L x) { n:=L[posF L x].n,d:=L[posF L x].d++y,s:=L[posF L x].s:Fl }) K)))]) fun _ h8=>?_
 exact ev_fin ⟨trivial,_,rfl,(),rfl,trivial,aF [0,1,2]⟩
set_option maxHeartbeats 1000000 in
theorem rAppFS (r:Nat) (m s:Int) (A:Option Addr) (n c:Nat) (lf:Int) (B:Option Addr) (k d:Nat) (L:List Fl) (hn:n=L.length) (h1:n≤1000) (x y:ByteArray) (hs:riseF L) (ho:oddS x=false) (hb:sumD L≤1000000000) (hm2:m≤1048576) (hy:(y.size:Int)≤m-sumD L) (hh:hasF L x=false) (h16:n<16) (hq:lf=0) (K:List Int) (hk:k=K.length) (hL:okF (insF L ⟨x,y,0⟩)):Triple Tryz.prog 33 [pP r,.string x,.string y] [Pt r 105 [.int .i64 m,.int .i64 s,.bool false,.slice A n c,.bool true,.int .i64 lf,.slice B k d],Row 117 3 A n c (L.flatMap encF),Row 3 1 B k d (K.flatMap encN)] [] (Option Addr × Nat) (fun _=>.int .i64 41) (fun _=>True) (fun (C,e)=>[Pt r 105 [.int .i64 m,.int .i64 s,.bool true,.slice C (n+1) e,.bool false,.int .i64 lf,.slice B k d],Row 117 3 C (n+1) e ((crashF (insF L ⟨x,y,0⟩) K).flatMap encF),Row 3 1 B k d (K.flatMap encN)]):=by
 have TO:=rName x
 rw [ho] at TO
 have T1:=rFind r m s false A n c true lf B k d L hn h1 x hs
 have TS:=rSize r m s false A n c true lf B k d L hn h1 hb
 rw [show ixF L x = -1 from by unfold ixF;rw [hh];rfl] at T1
 have hle:0≤(sumD L:Int):=Int.natCast_nonneg _
 have TP:=rPut r m s false A n c true lf B k d L hn h1 ⟨x,ByteArray.empty,0⟩ hs hh
 obtain ⟨J,hJ⟩:∃ J,J=insF L ⟨x,ByteArray.empty,0⟩:=⟨_,rfl⟩
 have hsJ:riseF J:=by rw [hJ];exact riseF_ins hs hh
 have hJl:n+1=J.length:=by rw [hJ,insF_len,hn]
 have TG:=fun A c=>rFind r m s false A (n+1) c true lf B k d J hJl (by omega) x hsJ
 have hJp:posF J x=posF L x:=by rw [hJ];exact posF_ins L hs ⟨x,ByteArray.empty,0⟩
 obtain ⟨hq0,hq1⟩:=insF_at L ⟨x,ByteArray.empty,0⟩
 have hpJ:posF L x<J.length:=by rw [hJ];exact hq0
 have hJe:J[posF L x]'hpJ=⟨x,ByteArray.empty,0⟩:=by simp only [hJ];exact hq1
 have hsz:(J[posF L x]'hpJ).d.size+y.size≤1000000000:=by
  rw [hJe]
  have:ByteArray.empty.size=0:=rfl
  simp only [this]
  omega
 have e1:J.set (posF L x) ⟨(J[posF L x]'hpJ).n,(J[posF L x]'hpJ).d++y,(J[posF L x]'hpJ).s⟩=insF L ⟨x,y,0⟩:=by
  rw [hJe,hJ]
  simp only [ByteArray.empty_append]
  exact insF_set L ⟨x,ByteArray.empty,0⟩ ⟨x,y,0⟩ rfl
 rw [show ixF J x=(posF L x:Nat) from by unfold ixF;rw [hJ,insF_has L ⟨x,ByteArray.empty,0⟩,←hJ,hJp];rfl] at TG
 rw [←hJ] at TP
 have TF:=fun A c=>rFailsS r m s false A (n+1) c lf B k d hq
 have TX:=fun A c=>(rCrash r m s A (n+1) c true lf B k d (insF L ⟨x,y,0⟩) (by rw [insF_len,hn]) (by omega) B k d K hk hL).reads (N':=[Row 3 1 B k d (K.flatMap encN)]) (fun X hX=>⟨_,List.mem_cons_self,fun _ q=>by rw [List.mem_singleton.1 hX];exact Row.rd q⟩)
 refine aT Tryz.func33 [.pt 0 r 0,.va (.string x),.va (.string y)] [.box r 105 [vI m,vI s,.va (.bool false),vL A n c,.va (.bool true),vI lf,vL B k d],.fact (Row 117 3 A n c (L.flatMap encF)),.fact (Row 3 1 B k d (K.flatMap encN))] (fun E=>?_) ⟨rfl,trivial,trivial,trivial⟩
 refine aG (aI ?_)
 refine aC TO [] [] fun _ h0=>?_
 refine aI ?_
 refine aD T1 [0,1] [] (fun v0_=>[.box (r) 105 [vI m,vI s,.bl false,vL A n c,.bl true,vI lf,vL B k d],.fact (Row 117 3 A n c (List.flatMap encF L))]) fun _ h1=>?_
 refine ev_stop (go_draw Tryz.tbs_ok true [0] [(0,true),(1,true),(2,true),(3,true),(4,true),(5,true),(6,true),(7,true),(8,true),(9,true),(10,true),(11,true),(12,true),(13,true),(14,true),(15,true),(16,true),(17,true),(18,false),(19,false),(20,false),(21,false)] rfl ?_)
 refine aG (aE (aJ (aE ?_)))
 refine aI ?_ (decide_eq_false (show ¬(↑n:Int) ≥ 16 from (by omega)))
 refine aE ?_
 refine aD TS [0,1] [] (fun v0_=>[.box (r) 105 [vI m,vI s,.bl false,vL A n c,.bl true,vI lf,vL B k d],.fact (Row 117 3 A n c (List.flatMap encF L))]) fun _ h2=>?_
 refine aE ?_
 refine w6 ?_
 refine aE (aE (aE ?_))
 refine aI ?_ (decide_eq_false (show ¬(↑y.size:Int) > m-(↑(sumD L):Int) from (by omega)))
 refine aJ ?_
 refine aD TP [0,1] [] (fun (v0_,v1_)=>[.box (r) 105 [vI m,vI s,.bl false,vL v0_ (n+1) v1_,.bl true,vI lf,vL B k d],.fact (Row 117 3 v0_ (n+1) v1_ (List.flatMap encF J))]) fun ⟨x3,x4⟩ h5=>?_
 refine aD (TG (x3) (x4)) [0,1] [] (fun v0_=>[.box (r) 105 [vI m,vI s,.bl false,vL x3 (n+1) x4,.bl true,vI lf,vL B k d],.fact (Row 117 3 x3 (n+1) x4 (List.flatMap encF J))]) fun _ h6=>?_
 refine ev_stop (go_draw Tryz.tbs_ok false [0,1] [(0,true),(1,true),(2,true),(3,true),(4,true),(5,true),(6,true),(7,true),(8,true),(9,true),(10,true),(11,true),(12,true),(13,true),(14,true),(15,true),(16,true),(17,false)] rfl ?_)
 refine aG (aE ?_)
 refine ev_stop (tk_index0 (sz:=3) Tryz.tbs_ok (.inr 1) (posF L x) aB rfl rfl rfl rfl rfl rfl rfl (by omega) rfl Row.at0 (fun g7 e8=>?_))
 subst e8
 refine aG (aE ?_)
 have l9:posF L x<(J).length:=(by omega)
 refine ev_stop (tk_loadE Tryz.tbs_ok (.inr 1) (posF L x) 1 aB rfl rfl rfl rfl rfl (fun _ h=>Row.rd h) (by omega) (fun _=>rfl) (by omega) l9 (by decide) ?_)
 refine aG (aE ?_)
 refine ev_stop (tk_bin (.va _) trivial aB rfl rfl rfl rfl rfl rfl (by decide) (by decide) (fun w=>cat_run (by omega) w) ?_)
 refine aG (aE ?_)
 refine ev_stop (tk_atE (sz:=3) Tryz.tbs_ok (posF L x) aB rfl rfl rfl rfl rfl rfl rfl (by omega) ?_)
 refine aG (aE ?_)
 have l10:posF L x<(J).length:=(by omega)
 refine ev_stop (go_storeR Tryz.tbs_ok 1 (posF L x) 1 ({ n:=J[posF L x].n,d:=J[posF L x].d++y,s:=J[posF L x].s:Fl }) rfl rfl rfl rfl rfl (by omega) (fun _=>rfl) (ones_of rfl) (by omega) l10 rfl (by decide) (ones_of rfl) rfl ?_)
 refine aG (aK ?_)
 rw [e1]
 refine aD (TF (some { block:=g7,off:=0:Addr }) (x4)) [0] [] (fun v0_=>[.box (r) 105 [vI m,vI s,.bl false,vL (some { block:=g7,off:=0:Addr }) (n+1) x4,.bl true,vI lf,vL B k d]]) fun _ h100=>?_
 refine aJ ?_
 refine aD (TX (some { block:=g7,off:=0:Addr }) (x4)) [0,1] [.inr 2] (fun v0_=>[.box (r) 105 [vI m,vI s,.bl true,vL (some { block:=g7,off:=0:Addr }) (n+1) x4,.bl false,vI lf,vL B k d],.fact (Row 117 3 (some { block:=g7,off:=0:Addr }) (n+1) x4 (List.flatMap encF (crashF (insF L { n:=x,d:=y,s:=0:Fl }) K)))]) fun _ h101=>?_
 exact ev_fin ⟨trivial,_,rfl,((some { block:=g7,off:=0:Addr },x4)),rfl,trivial,aF [0,1,2]⟩
end Go.Proofs.YtjlfdfmkofbccaaGreatDoor

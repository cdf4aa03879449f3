/-
  What is proved: the texts that the claims share, part 5 of 5, each text behind the other. Conditions: none.
-/
import Derived.Carry
import Derived.ChangeSame
import Derived.JoinedOf
import Derived.JoinedAt
import Derived.ChangeArms
import Derived.WideKeyArr2
import Derived.Test.YtnhoidnmlibcpaaGreatDoorZa4
set_option maxRecDepth 100000
namespace Go.Proofs.YtnhoidnmlibcpaaGreatDoor
open Go.Sy
structure Lay (N:List ByteArray) (b t:Nat):Prop where
 few:b+t≤999999999
 segs:∀ x∈segsM b t,x∈N
 all:∀ x∈N,x∈segsM b t∨staleB b x=true
theorem nmB_inj {c c':UInt8} {m n:Nat} (h:nmB c m=nmB c' n):c=c'∧m=n:=by
 have:=congrArg (fun x=>x.data.toList) h
 simp only [nmB_list,List.cons.injEq] at this
 exact ⟨this.1,decL_inj this.2⟩
theorem nmB_num {c c':UInt8} {n:Nat} (h:n≤999999999):numM c' (nmB c n).data.toList=if c=c' then n else 0:=by
 rw [nmB_list]
 by_cases e:c=c'
 · subst e
   rw [if_pos rfl]
   rcases Nat.eq_zero_or_pos n with h0 | h0
   · subst h0
     rw [decL_small (by decide),numM,if_neg (fun q=>q.2.2.2 rfl)]
   exact num_name h0 h
 rw [if_neg e,numM,if_neg (fun q=>e q.1)]
theorem segs_mem {b t:Nat} {x:ByteArray}:x∈segsM b t↔(0<b∧x=nmB 99 b)∨∃ i,i<t∧x=nmB 115 (b+1+i):=by
 unfold segsM
 rw [List.mem_append]
 constructor
 · rintro (h | h)
   · split at h
     · rename_i hb
       exact .inl ⟨hb,List.mem_singleton.1 h⟩
     cases h
   obtain ⟨i,hi,rfl⟩:=List.mem_map.1 h
   exact .inr ⟨i,List.mem_range.1 hi,rfl⟩
 rintro (⟨hb,rfl⟩ | ⟨i,hi,rfl⟩)
 · exact .inl (by rw [if_pos hb];exact List.mem_singleton_self _)
 exact .inr (List.mem_map.2 ⟨i,List.mem_range.2 hi,rfl⟩)
theorem stale_num {b:Nat} {x:ByteArray} (h:staleB b x=true):numM 99 x.data.toList≤b∧numM 115 x.data.toList≤b:=by
 rcases stale_iff.1 h with h | ⟨h1,h2⟩ | ⟨h1,h2⟩
 · subst h
   exact ⟨Nat.zero_le _,Nat.zero_le _⟩
 · refine ⟨by omega,?_⟩
   obtain ⟨e,_⟩:=name_num rfl h1
   rw [e,numM,if_neg (fun q=>absurd q.1 (by decide))]
   exact Nat.zero_le _
 refine ⟨?_,by omega⟩
 obtain ⟨e,_⟩:=name_num rfl h1
 rw [e,numM,if_neg (fun q=>absurd q.1 (by decide))]
 exact Nat.zero_le _
theorem seg_num {b t:Nat} (h:b+t≤999999999) {x:ByteArray} (hx:x∈segsM b t):numM 99 x.data.toList≤b∧numM 115 x.data.toList≤b+t∧(numM 99 x.data.toList=b∧0<b∨b<numM 115 x.data.toList):=by
 rcases segs_mem.1 hx with ⟨hb,rfl⟩ | ⟨i,hi,rfl⟩
 · rw [nmB_num (by omega),nmB_num (by omega),if_pos rfl,if_neg (by decide)]
   exact ⟨Nat.le_refl _,by omega,.inl ⟨rfl,hb⟩⟩
 rw [nmB_num (by omega),nmB_num (by omega),if_pos rfl,if_neg (by decide)]
 exact ⟨by omega,by omega,.inr (by omega)⟩
theorem seg_fresh {b t:Nat} (h:b+t≤999999999) {x:ByteArray} (hx:x∈segsM b t):staleB b x=false:=by
 cases hs:staleB b x with
 | false=>rfl
 |
  true =>
  rcases segs_mem.1 hx with ⟨hb,rfl⟩ | ⟨i,hi,rfl⟩
  · rcases stale_iff.1 hs with h | ⟨h1,h2⟩ | ⟨h1,h2⟩
    · have:=congrArg (fun x=>x.data.toList) h
      rw [nmB_list] at this
      simp at this
    · rw [nmB_num (by omega),if_pos rfl] at h2
      omega
    rw [nmB_num (by omega),if_neg (by decide)] at h1
    omega
  rcases stale_iff.1 hs with h | ⟨h1,h2⟩ | ⟨h1,h2⟩
  · have:=congrArg (fun x=>x.data.toList) h
    rw [nmB_list] at this
    simp at this
  · rw [nmB_num (by omega),if_neg (by decide)] at h1
    omega
  rw [nmB_num (by omega),if_pos rfl] at h2
  omega
theorem base_le {N:List ByteArray} {b:Nat} (h:∀ x∈N,numM 99 x.data.toList≤b):baseM N≤b:=by
 unfold baseM
 have:∀ (N:List ByteArray) (a:Nat),a≤b→(∀ x∈N,numM 99 x.data.toList≤b)→N.foldl (fun b s=>max b (numM 99 s.data.toList)) a≤b:=by
  intro N
  induction N with
  | nil=>exact fun _ h _=>h
  | cons x N ih=>exact fun a h1 h2=>ih _ (Nat.max_le.2 ⟨h1,h2 x List.mem_cons_self⟩) fun y hy=>h2 y (List.mem_cons_of_mem _ hy)
 exact this N 0 (Nat.zero_le _) h
theorem base_ge {N:List ByteArray} {x:ByteArray} (h:x∈N):numM 99 x.data.toList≤baseM N:=by
 obtain ⟨j,hj,rfl⟩:=List.getElem_of_mem h
 have h1:=baseM_step hj
 have mono:∀ k,k≤N.length→baseM (N.take k)≤baseM N:=by
  intro k hk
  have:∀ d,k+d≤N.length→baseM (N.take k)≤baseM (N.take (k+d)):=by
   intro d
   induction d with
   | zero=>exact fun _=>Nat.le_refl _
   |
    succ d ih =>
    intro hd
    have:=ih (by omega)
    have h2:=baseM_step (L:=N) (j:=k+d) (by omega)
    rw [show k+(d+1)=k+d+1 by omega,h2]
    omega
  have:=this (N.length-k) (by omega)
  rwa [show k+(N.length-k)=N.length by omega,List.take_length] at this
 have:=mono (j+1) hj
 omega
theorem Lay.base {N:List ByteArray} {b t:Nat} (h:Lay N b t):baseM N=b:=by
 refine Nat.le_antisymm (base_le fun x hx=>?_) ?_
 · rcases h.all x hx with h1 | h1
   · exact (seg_num h.few h1).1
   exact (stale_num h1).1
 rcases Nat.eq_zero_or_pos b with h0 | h0
 · omega
 have:=base_ge (h.segs (nmB 99 b) (segs_mem.2 (.inl ⟨h0,rfl⟩)))
 rwa [nmB_num (by have:=h.few;omega),if_pos rfl] at this
theorem tails_go {N:List ByteArray} {b t:Nat} (h1:∀ i,i<t→nmB 115 (b+1+i)∈N) (h2:¬ (b+t<999999999∧nmB 115 (b+t+1)∈N)) (h3:b+t≤999999999):∀ (k i:Nat),i+k=t→tailsG N b i=t:=by
 intro k
 induction k with
 |
  zero =>
  intro i hi
  obtain rfl:i=t:=hi
  exact tailsG_no fun q=>h2 ⟨q.1,memB_iff.1 q.2⟩
 |
  succ k ih =>
  intro i hi
  rw [tailsG_yes (by omega) (memB_iff.2 (by have:=h1 i (by omega);rwa [show b+1+i=b+i+1 by omega] at this))]
  exact ih (i+1) (by omega)
theorem Lay.tails {N:List ByteArray} {b t:Nat} (h:Lay N b t):tailsM N=t:=by
 unfold tailsM
 rw [h.base]
 refine tails_go (fun i hi=>h.segs _ (segs_mem.2 (.inr ⟨i,hi,rfl⟩))) (fun ⟨q1,q2⟩=>?_) h.few t 0 (by omega)
 rcases h.all _ q2 with h1 | h1
 · have:=(seg_num h.few h1).2.1
   rw [nmB_num (by omega),if_pos rfl] at this
   omega
 have:=(stale_num h1).2
 rw [nmB_num (by omega),if_pos rfl] at this
 omega
theorem Lay.okN {N:List ByteArray} {b t:Nat} (h:Lay N b t):Proofs.YtnhoidnmlibcpaaGreatDoor.okN N=true:=by
 unfold Proofs.YtnhoidnmlibcpaaGreatDoor.okN
 rw [h.base,h.tails]
 simp only [Bool.not_eq_true',List.any_eq_false]
 intro x hx ho
 obtain ⟨h1,h2⟩:=odd_iff.1 ho
 rcases h.all x hx with h3 | h3
 · have:=seg_num h.few h3
   omega
 exact h1 h3
theorem Lay.stale {N:List ByteArray} {b t:Nat} (h:Lay N b t):staleM N=N.filter (staleB b):=by
 unfold staleM
 rw [h.okN,if_pos rfl,h.base]
def Bare (N:List ByteArray) (b t:Nat):Prop:=b+t≤999999999∧∀ x,x∈N↔x∈segsM b t
theorem Bare.lay {N:List ByteArray} {b t:Nat} (h:Bare N b t):Lay N b t:=⟨h.1,fun x hx=>(h.2 x).2 hx,fun x hx=>.inl ((h.2 x).1 hx)⟩
theorem Bare.stale {N:List ByteArray} {b t:Nat} (h:Bare N b t):staleM N=[]:=by
 rw [h.lay.stale,List.filter_eq_nil_iff]
 intro x hx
 rw [seg_fresh h.1 ((h.2 x).1 hx)]
 decide
theorem base_mem {L:List ByteArray} (h:0<baseM L):nmB 99 (baseM L)∈L:=by
 have key:∀ (L:List ByteArray) (a:Nat),L.foldl (fun b s=>max b (numM 99 s.data.toList)) a=a∨∃ x∈L,numM 99 x.data.toList=L.foldl (fun b s=>max b (numM 99 s.data.toList)) a:=by
  intro L
  induction L with
  | nil=>exact fun a=>.inl rfl
  |
   cons x L ih =>
   intro a
   rw [List.foldl_cons]
   rcases ih (max a (numM 99 x.data.toList)) with h | ⟨y,hy,h⟩
   · rw [h]
     rcases Nat.le_total a (numM 99 x.data.toList) with h2 | h2
     · exact .inr ⟨x,List.mem_cons_self,(Nat.max_eq_right h2).symm⟩
     exact .inl (Nat.max_eq_left h2)
   exact .inr ⟨y,List.mem_cons_of_mem _ hy,h⟩
 rcases key L 0 with h1 | ⟨x,hx,h1⟩
 · have h1:baseM L=0:=h1
   omega
 have h1:numM 99 x.data.toList=baseM L:=h1
 obtain ⟨e,_⟩:=name_num h1 h
 have:x=nmB 99 (baseM L):=ba_ext (by rw [e,nmB_list])
 rwa [←this]
theorem tails_mem {L:List ByteArray} {b:Nat}:∀ (f i:Nat),999999999-(b+i)≤f→∀ j,i≤j→j<tailsG L b i→nmB 115 (b+j+1)∈L:=by
 intro f
 induction f with
 |
  zero =>
  intro i hf j h1 h2
  rw [tailsG_no (fun q=>by omega)] at h2
  omega
 |
  succ f ih =>
  intro i hf j h1 h2
  by_cases hq:b+i<999999999∧memB L (nmB 115 (b+i+1))=true
  · rcases Nat.lt_or_ge i j with h3 | h3
    · rw [tailsG_yes hq.1 hq.2] at h2
      exact ih (i+1) (by omega) j h3 h2
    obtain rfl:j=i:=by omega
    exact memB_iff.1 hq.2
  rw [tailsG_no hq] at h2
  omega
theorem segs_sub (L:List ByteArray):∀ x∈segsM (baseM L) (tailsM L),x∈L:=fun x hx=>by
 rcases segs_mem.1 hx with ⟨hb,rfl⟩ | ⟨i,hi,rfl⟩
 · exact base_mem hb
 have:=tails_mem _ 0 (Nat.le_refl _) i (Nat.zero_le _) hi
 rwa [show baseM L+i+1=baseM L+1+i by omega] at this
theorem segs_nodup (b t:Nat):(segsM b t).Nodup:=by
 unfold segsM
 rw [List.nodup_append]
 refine ⟨?_,?_,?_⟩
 · split<;>simp
 · refine List.Pairwise.map _ (fun i j hij e=>?_) List.nodup_range
   have:=(nmB_inj e).2
   omega
 intro x hx y hy e
 obtain ⟨i,_,rfl⟩:=List.mem_map.1 hy
 split at hx
 · rw [List.mem_singleton.1 hx] at e
   have:=(nmB_inj e).1
   revert this
   decide
 cases hx
theorem segs_few (L:List ByteArray):(segsM (baseM L) (tailsM L)).length≤L.length:=(segs_nodup _ _).length_le_of_subset (segs_sub L)
theorem whole_no {x:ByteArray} (h:(wholeM x).2<x.size):wholeB x=false:=by
 unfold wholeB
 exact decide_eq_false (by omega)
theorem whole_yes {x:ByteArray} (h:¬ (wholeM x).2<x.size):wholeB x=true:=by
 unfold wholeB
 have:=(whole_len x).2
 exact decide_eq_true (by omega)
theorem appW_ask {W:WK} {D:DK} {ps:List ByteArray} (h:askW W.s W.bad D=41):appW W D ps=(W,D,41):=by
 unfold appW
 rw [h,if_pos (by decide)]
theorem appW_long {W:WK} {D:DK} {ps:List ByteArray} (h:askW W.s W.bad D=0) (h1:(framedM ps).2≠0):appW W D ps=(W,D,(framedM ps).2):=by
 unfold appW
 rw [h,if_neg (by decide),if_pos h1]
theorem appW_none {W:WK} {D:DK} (h:askW W.s W.bad D=0):appW W D []=(W,D,0):=by
 unfold appW
 rw [h,if_neg (by decide),if_neg (by simp [framedM]),if_pos rfl]
theorem appW_some {W:WK} {D:DK} {ps:List ByteArray} (h:askW W.s W.bad D=0) (h1:(framedM ps).2=0) (h2:ps≠[]):appW W D ps =
 if 0<W.t∧(readD D (nmB 115 (W.b+W.t))).1.size<16384 then
  let r:=appD D (nmB 115 (W.b+W.t)) (framedM ps).1
  (⟨W.s,W.bad || badE r.2,W.b,W.t⟩,r.1,r.2)
 else
  let r:=if 0<W.t then syncD D (nmB 115 (W.b+W.t)) else (D,0)
  if r.2≠0 then (⟨W.s,W.bad || badE r.2,W.b,W.t⟩,r.1,r.2)
  else if 15≤r.1.files.length∨999999999≤W.b+W.t then (W,r.1,40)
  else
   let r2:=appD r.1 (nmB 115 (W.b+W.t+1)) (framedM ps).1
   (⟨W.s,W.bad || badE r2.2,W.b,if r2.2=0 then W.t+1 else W.t⟩,r2.1,r2.2):=by
 rw [appW,h,if_neg (by decide),if_neg (by simpa using h1),if_neg h2]
abbrev AppT (p q:Nat) (A:Option Addr) (np cp:Nat) (ps:List ByteArray) (s:Int) (bad:Bool) (b t:Nat) (D:DK) (R:WK × DK × Int):Prop :=
 Triple Tryz.prog 164 [pP p,.slice A np cp] [Pt p 195 [pP q,.int .i64 s,.bool bad,.int .i64 (b:Nat),.int .i64 (t:Nat)],DiskM q D] [TabA,Rd 1 A np (ps.flatMap encS)] Unit (fun _=>.int .i64 R.2.2) (fun _=>True) (fun _=>[Pt p 195 [pP q,.int .i64 R.1.s,.bool R.1.bad,.int .i64 (R.1.b:Nat),.int .i64 (R.1.t:Nat)],DiskM q R.2.1])
theorem nmB_pos (c:UInt8) (n:Nat):0<(nmB c n).size:=by
 unfold nmB
 rw [ByteArray.size_append]
 show 0<1+_
 omega
theorem bad_zero (bad:Bool):(bad || badE 0)=bad:=by simp [badE]
set_option maxHeartbeats 8000000 in
theorem appWT (p q:Nat) (W:WK) (D:DK) (A:Option Addr) (ps:List ByteArray) (np cp:Nat) (hp:np=ps.length) (hp1:np≤10000) (hp2:∀ p∈ps,p.size≤900000000) (hD:okD D) (hW:okW W) :
 Triple Tryz.prog 164 [pP p,.slice A np cp] [WalM p q W,DiskM q D] [TabA,Rd 1 A np (ps.flatMap encS)] Unit (fun _=>.int .i64 (appW W D ps).2.2) (fun _=>True) (fun _=>[WalM p q (appW W D ps).1,DiskM q (appW W D ps).2.1]):=by
 obtain ⟨s,bad,b,t⟩:=W
 replace hW:b+t≤999999999:=hW
 have TA:=askT p q s bad b t D hD
 have TE:=endT p q s bad b t hW
 have TF:=framedT A ps np cp hp hp1 hp2
 obtain ⟨R,hR⟩:∃ R,R=appW ⟨s,bad,b,t⟩ D ps:=⟨_,rfl⟩
 unfold WalM ptW
 unfold ptW at TA TE
 rw [←hR]
 show AppT p q A np cp ps s bad b t D R
 rcases ask_cases s bad D with h | h
 · rw [h] at TA
   by_cases hf:(framedM ps).2=0
   · rw [hf] at TF
     have hF:=framed_size hf
     by_cases hn:ps=[]
     · subst hn
       rw [appW_none h] at hR
       subst hR
       have h0:np=0:=hp
       refine aT Tryz.func164 [.pt 0 p 0,vL A np cp] [.box p 195 [vP q,vI s,.bq bad,vI (b:Nat),vI (t:Nat)],.fact (DiskM q D)] (fun E=>?_) ⟨rfl,trivial,trivial⟩
       refine aG ?_
       refine aD TA [0,1] [] (fun v0_=>[.box (p) 195 [vP q,vI s,.bq (bad),vI ↑b,vI ↑t],.fact (DiskM q D)]) fun _ h0=>?_
       refine aI ?_
       refine aC TF [] [.inl 1] fun _ h1=>?_
       refine aI ?_
       refine aJ ?_ (beq_iff_eq.2 (show (↑np:Int)=0 from (by omega)))
       exact ev_fin ⟨trivial,_,rfl,(),rfl,by trivial,aF [0,1]⟩
     have hnp:0<np:=by rw [hp];exact List.length_pos_iff.2 hn
     rw [appW_some h hf hn] at hR
     obtain ⟨F,hFe⟩:∃ F,F=(framedM ps).1:=⟨_,rfl⟩
     rw [←hFe] at hR hF TF
     have hF2:F.size≤100000000:=by rw [←hp] at hF;omega
     dsimp only at hR
     have TL:=Proofs.YtnhoidnmlibcpaaGreatDoor.lastT b t (by omega)
     have TI:=fun h=>itoaT (b+t+1) h
     have hz:=fun h=>decB_size (b+t+1) h
     have h115:(⟨#[115]⟩:ByteArray).size=1:=rfl
     obtain ⟨f,hfe⟩:∃ f:DK→DK × Int,f=fun D=>appD D (nmB 115 (b+t+1)) F:=⟨_,rfl⟩
     have TP:Triple Tryz.prog 144 [pP p,.string (⟨#[115]⟩++decB (b+t+1)),.string F] [] [] FnV (fun v=>.func (.func v.1) #[] v.2) (fun _=>True) (fun v=>[ChgA p q s b t v f]):=by
      rw [hfe]
      exact putF p q s b t (nmB 115 (b+t+1)) F hF2
     have TO:=fun bx va vc=>one1 p q s b t bx va vc f
     have hfa:∀ D,appD D (nmB 115 (b+t+1)) F=f D:=fun D=>by rw [hfe]
     simp only [hfa] at hR
     clear hfa
     by_cases ht:t=0
     · subst ht
       simp only [Nat.lt_irrefl,if_false,false_and,ne_eq,not_true_eq_false] at hR
       have e0:endM b 0 = .empty:=rfl
       rw [e0] at TE
       have TN:=namesM q D hD
       by_cases hful:15≤D.files.length∨999999999≤b+0
       · rw [if_pos hful] at hR
         subst hR
         refine aT Tryz.func164 [.pt 0 p 0,vL A np cp] [.box p 195 [vP q,vI s,.bq bad,vI (b:Nat),vI ((0:Nat):Int)],.fact (DiskM q D)] (fun E=>?_) ⟨rfl,trivial,trivial⟩
         by_cases h15:15≤D.files.length
         · refine aG ?_
           refine aD TA [0,1] [] (fun v0_=>[.box (p) 195 [vP q,vI s,.bq (bad),vI ↑b,vI ↑0],.fact (DiskM q D)]) fun _ h0=>?_
           refine aI ?_
           refine aC TF [] [.inl 1] fun _ h1=>?_
           refine aI ?_
           refine aI ?_ (beq_eq_false_iff_ne.2 (show ¬(↑np:Int)=0 from (by omega)))
           refine aD TE [0] [.inl 0] (fun v0_=>[.box (p) 195 [vP q,vI s,.bq (bad),vI ↑b,vI ↑0]]) fun _ h2=>?_
           refine aI ?_
           refine aC TN [1] [] fun ⟨x3,x4⟩ h5=>?_
           refine aJ ?_ (decide_eq_true (show (↑D.files.length:Int) ≥ 15 from (by omega)))
           exact ev_fin ⟨trivial,_,rfl,(),rfl,by trivial,aF [0,1]⟩
         have h99:999999999≤b+0:=by omega
         refine aG ?_
         refine aD TA [0,1] [] (fun v0_=>[.box (p) 195 [vP q,vI s,.bq (bad),vI ↑b,vI ↑0],.fact (DiskM q D)]) fun _ h0=>?_
         refine aI ?_
         refine aC TF [] [.inl 1] fun _ h1=>?_
         refine aI ?_
         refine aI ?_ (beq_eq_false_iff_ne.2 (show ¬(↑np:Int)=0 from (by omega)))
         refine aD TE [0] [.inl 0] (fun v0_=>[.box (p) 195 [vP q,vI s,.bq (bad),vI ↑b,vI ↑0]]) fun _ h2=>?_
         refine aI ?_
         refine aC TN [1] [] fun ⟨x3,x4⟩ h5=>?_
         refine aI ?_ (decide_eq_false (show ¬(↑D.files.length:Int) ≥ 15 from (by omega)))
         refine aC TL [] [] fun _ h6=>?_
         refine aJ ?_ (decide_eq_true (show (↑(b+0):Int) ≥ 999999999 from (by omega)))
         exact ev_fin ⟨trivial,_,rfl,(),rfl,by trivial,aF [0,1]⟩
       rw [if_neg hful] at hR
       have TD:=fun ia ic=>doA p q s bad b ((0:Nat):Int) ia ic [f] D hD
       rw [run_one] at TD
       unfold ptW at TD
       obtain ⟨G,hG⟩:∃ G,G=f D:=⟨_,rfl⟩
       rw [←hG] at TD hR
       obtain ⟨bd,hbd⟩:∃ bd,bd=(bad || badE G.2):=⟨_,rfl⟩
       rw [←hbd] at TD hR
       have h15:¬ 15≤D.files.length:=fun q=>hful (.inl q)
       have h99:¬ 999999999≤b+0:=fun q=>hful (.inr q)
       by_cases hg:G.2=0
       · rw [hg] at TD hR
         rw [if_pos rfl] at hR
         subst hR
         refine aT Tryz.func164 [.pt 0 p 0,vL A np cp] [.box p 195 [vP q,vI s,.bq bad,vI (b:Nat),vI ((0:Nat):Int)],.fact (DiskM q D)] (fun E=>?_) ⟨rfl,trivial,trivial⟩
         refine aG ?_
         refine aD TA [0,1] [] (fun v0_=>[.box (p) 195 [vP q,vI s,.bq (bad),vI ↑b,vI ↑0],.fact (DiskM q D)]) fun _ h0=>?_
         refine aI ?_
         refine aC TF [] [.inl 1] fun _ h1=>?_
         refine aI ?_
         refine aI ?_ (beq_eq_false_iff_ne.2 (show ¬(↑np:Int)=0 from (by omega)))
         refine aD TE [0] [.inl 0] (fun v0_=>[.box (p) 195 [vP q,vI s,.bq (bad),vI ↑b,vI ↑0]]) fun _ h2=>?_
         refine aI ?_
         refine aC TN [1] [] fun ⟨x3,x4⟩ h5=>?_
         refine aI ?_ (decide_eq_false (show ¬(↑D.files.length:Int) ≥ 15 from (by omega)))
         refine aC TL [] [] fun _ h6=>?_
         refine aI ?_ (decide_eq_false (show ¬(↑(b+0):Int) ≥ 999999999 from (by omega)))
         refine aC TL [] [] fun _ h7=>?_
         refine wN (b+0+1) ?_
         refine aC (TI (show b+0+1≤9223372036854775807 from (by omega))) [] [.inl 0] fun _ h8=>?_
         refine ev_stop (go_bin (.va _) trivial rfl rfl rfl rfl rfl (by decide) (by decide) (fun w=>cat_run (by omega) w) ?_)
         refine aG ?_
         refine aC TP [] [] fun ⟨x9,x10⟩ h11=>?_
         refine ev_new fun b12=>?_
         refine aC (TO (b12) (x9) (x10)) [3,4] [] fun ⟨x13,x14⟩ h15=>?_
         refine aD (TD (x13) (x14)) [0,3,1] [.inl 0] (fun v0_=>[.box (p) 195 [vP q,vI s,.bq (bd),vI ↑b,vI ↑0],.fact (DiskM q G.fst)]) fun _ h16=>?_
         refine aJ ?_
         refine wN (0+1) ?_
         exact ev_fin ⟨trivial,_,rfl,(),rfl,by trivial,aF [0,3]⟩
       rw [if_neg hg] at hR
       subst hR
       refine aT Tryz.func164 [.pt 0 p 0,vL A np cp] [.box p 195 [vP q,vI s,.bq bad,vI (b:Nat),vI ((0:Nat):Int)],.fact (DiskM q D)] (fun E=>?_) ⟨rfl,trivial,trivial⟩
       refine aG ?_
       refine aD TA [0,1] [] (fun v0_=>[.box (p) 195 [vP q,vI s,.bq (bad),vI ↑b,vI ↑0],.fact (DiskM q D)]) fun _ h0=>?_
       refine aI ?_
       refine aC TF [] [.inl 1] fun _ h1=>?_
       refine aI ?_
       refine aI ?_ (beq_eq_false_iff_ne.2 (show ¬(↑np:Int)=0 from (by omega)))
       refine aD TE [0] [.inl 0] (fun v0_=>[.box (p) 195 [vP q,vI s,.bq (bad),vI ↑b,vI ↑0]]) fun _ h2=>?_
       refine aI ?_
       refine aC TN [1] [] fun ⟨x3,x4⟩ h5=>?_
       refine aI ?_ (decide_eq_false (show ¬(↑D.files.length:Int) ≥ 15 from (by omega)))
       refine aC TL [] [] fun _ h6=>?_
       refine aI ?_ (decide_eq_false (show ¬(↑(b+0):Int) ≥ 999999999 from (by omega)))
       refine aC TL [] [] fun _ h7=>?_
       refine wN (b+0+1) ?_
       refine aC (TI (show b+0+1≤9223372036854775807 from (by omega))) [] [.inl 0] fun _ h8=>?_
       refine ev_stop (go_bin (.va _) trivial rfl rfl rfl rfl rfl (by decide) (by decide) (fun w=>cat_run (by omega) w) ?_)
       refine aG ?_
       refine aC TP [] [] fun ⟨x9,x10⟩ h11=>?_
       refine ev_new fun b12=>?_
       refine aC (TO (b12) (x9) (x10)) [3,4] [] fun ⟨x13,x14⟩ h15=>?_
       refine aD (TD (x13) (x14)) [0,3,1] [.inl 0] (fun v0_=>[.box (p) 195 [vP q,vI s,.bq (bd),vI ↑b,vI ↑0],.fact (DiskM q G.fst)]) fun _ h16=>?_
       refine aI ?_ (beq_eq_false_iff_ne.2 (by with_reducible assumption))
       exact ev_fin ⟨trivial,_,rfl,(),rfl,by trivial,aF [0,3]⟩
     have ht0:0<t:=by omega
     have e0:endM b t=nmB 115 (b+t):=by unfold endM;rw [if_neg ht]
     rw [e0] at TE
     obtain ⟨la,hla⟩:∃ la,la=nmB 115 (b+t):=⟨_,rfl⟩
     have hlz:0<la.size:=by rw [hla];exact nmB_pos _ _
     have hle:¬ la=(⟨#[]⟩:ByteArray):=fun q=>by rw [q] at hlz;exact absurd hlz (by decide)
     rw [←hla] at TE hR
     have TZ:=sizeW p q s bad b t D la hD
     unfold ptW at TZ
     obtain ⟨z,hz1⟩:∃ z,z=(readD D la).1.size:=⟨_,rfl⟩
     rw [←hz1] at TZ hR
     by_cases hz2:z<16384
     · rw [if_pos ⟨ht0,hz2⟩] at hR
       obtain ⟨g,hge⟩:∃ g:DK→DK × Int,g=fun D=>appD D la F:=⟨_,rfl⟩
       have TP2:=putF p q s b t la F hF2
       rw [←hge] at TP2
       have TO2:=fun bx va vc=>one1 p q s b t bx va vc g
       have TD:=fun ia ic=>doA p q s bad b t ia ic [g] D hD
       rw [run_one] at TD
       unfold ptW at TD
       rw [show appD D la F=g D by rw [hge]] at hR
       obtain ⟨G,hG⟩:∃ G,G=g D:=⟨_,rfl⟩
       rw [←hG] at TD hR
       obtain ⟨bd,hbd⟩:∃ bd,bd=(bad || badE G.2):=⟨_,rfl⟩
       rw [←hbd] at TD hR
       subst hR
       refine aT Tryz.func164 [.pt 0 p 0,vL A np cp] [.box p 195 [vP q,vI s,.bq bad,vI (b:Nat),vI (t:Nat)],.fact (DiskM q D)] (fun E=>?_) ⟨rfl,trivial,trivial⟩
       refine aG ?_
       refine aD TA [0,1] [] (fun v0_=>[.box (p) 195 [vP q,vI s,.bq (bad),vI ↑b,vI ↑t],.fact (DiskM q D)]) fun _ h0=>?_
       refine aI ?_
       refine aC TF [] [.inl 1] fun _ h1=>?_
       refine aI ?_
       refine aI ?_ (beq_eq_false_iff_ne.2 (show ¬(↑np:Int)=0 from (by omega)))
       refine aD TE [0] [.inl 0] (fun v0_=>[.box (p) 195 [vP q,vI s,.bq (bad),vI ↑b,vI ↑t]]) fun _ h2=>?_
       refine aJ ?_ (dec_yes (by with_reducible assumption))
       refine aD TZ [0,1] [] (fun v0_=>[.box (p) 195 [vP q,vI s,.bq (bad),vI ↑b,vI ↑t],.fact (DiskM q D)]) fun _ h3=>?_
       refine aJ ?_ (decide_eq_true (show (↑z:Int)<16384 from (by omega)))
       refine aC TP2 [] [] fun ⟨x4,x5⟩ h6=>?_
       refine ev_new fun b7=>?_
       refine aC (TO2 (b7) (x4) (x5)) [2,3] [] fun ⟨x8,x9⟩ h10=>?_
       refine aD (TD (x8) (x9)) [0,2,1] [.inl 0] (fun v0_=>[.box (p) 195 [vP q,vI s,.bq (bd),vI ↑b,vI ↑t],.fact (DiskM q G.fst)]) fun _ h11=>?_
       exact ev_fin ⟨trivial,_,rfl,(),rfl,by trivial,aF [0,2]⟩
     rw [if_neg (fun q=>hz2 q.2),if_pos ht0] at hR
     obtain ⟨g,hge⟩:∃ g:DK→DK × Int,g=fun D=>syncD D la:=⟨_,rfl⟩
     have TP2:=syncF p q s b t la
     rw [←hge] at TP2
     have TO2:=fun bx va vc=>one1 p q s b t bx va vc g
     have TD2:=fun ia ic=>doA p q s bad b t ia ic [g] D hD
     rw [run_one] at TD2
     unfold ptW at TD2
     have hD1:okD (g D).1:=by rw [hge];exact sync_ok hD _
     rw [show syncD D la=g D by rw [hge]] at hR
     obtain ⟨D1,hG1⟩:∃ D1,D1=g D:=⟨_,rfl⟩
     rw [←hG1] at TD2 hR hD1
     by_cases hg:D1.2=0
     · rw [hg,bad_zero] at TD2
       rw [if_neg (by simpa using hg)] at hR
       have TN:=namesM q D1.1 hD1
       by_cases hful:15≤D1.1.files.length∨999999999≤b+t
       · rw [if_pos hful] at hR
         subst hR
         refine aT Tryz.func164 [.pt 0 p 0,vL A np cp] [.box p 195 [vP q,vI s,.bq bad,vI (b:Nat),vI (t:Nat)],.fact (DiskM q D)] (fun E=>?_) ⟨rfl,trivial,trivial⟩
         by_cases h15:15≤D1.1.files.length
         · refine aG ?_
           refine aD TA [0,1] [] (fun v0_=>[.box (p) 195 [vP q,vI s,.bq (bad),vI ↑b,vI ↑t],.fact (DiskM q D)]) fun _ h0=>?_
           refine aI ?_
           refine aC TF [] [.inl 1] fun _ h1=>?_
           refine aI ?_
           refine aI ?_ (beq_eq_false_iff_ne.2 (show ¬(↑np:Int)=0 from (by omega)))
           refine aD TE [0] [.inl 0] (fun v0_=>[.box (p) 195 [vP q,vI s,.bq (bad),vI ↑b,vI ↑t]]) fun _ h2=>?_
           refine aJ ?_ (dec_yes (by with_reducible assumption))
           refine aD TZ [0,1] [] (fun v0_=>[.box (p) 195 [vP q,vI s,.bq (bad),vI ↑b,vI ↑t],.fact (DiskM q D)]) fun _ h3=>?_
           refine aI ?_ (decide_eq_false (show ¬(↑z:Int)<16384 from (by omega)))
           refine aC TP2 [] [] fun ⟨x4,x5⟩ h6=>?_
           refine ev_new fun b7=>?_
           refine aC (TO2 (b7) (x4) (x5)) [2,3] [] fun ⟨x8,x9⟩ h10=>?_
           refine aD (TD2 (x8) (x9)) [0,2,1] [.inl 0] (fun v0_=>[.box (p) 195 [vP q,vI s,.bq (bad),vI ↑b,vI ↑t],.fact (DiskM q D1.fst)]) fun _ h11=>?_
           refine aI ?_
           refine aC TN [2] [] fun ⟨x12,x13⟩ h14=>?_
           refine aJ ?_ (decide_eq_true (show (↑D1.fst.files.length:Int) ≥ 15 from (by omega)))
           exact ev_fin ⟨trivial,_,rfl,(),rfl,by trivial,aF [0,2]⟩
         have h99:999999999≤b+t:=by omega
         refine aG ?_
         refine aD TA [0,1] [] (fun v0_=>[.box (p) 195 [vP q,vI s,.bq (bad),vI ↑b,vI ↑t],.fact (DiskM q D)]) fun _ h0=>?_
         refine aI ?_
         refine aC TF [] [.inl 1] fun _ h1=>?_
         refine aI ?_
         refine aI ?_ (beq_eq_false_iff_ne.2 (show ¬(↑np:Int)=0 from (by omega)))
         refine aD TE [0] [.inl 0] (fun v0_=>[.box (p) 195 [vP q,vI s,.bq (bad),vI ↑b,vI ↑t]]) fun _ h2=>?_
         refine aJ ?_ (dec_yes (by with_reducible assumption))
         refine aD TZ [0,1] [] (fun v0_=>[.box (p) 195 [vP q,vI s,.bq (bad),vI ↑b,vI ↑t],.fact (DiskM q D)]) fun _ h3=>?_
         refine aI ?_ (decide_eq_false (show ¬(↑z:Int)<16384 from (by omega)))
         refine aC TP2 [] [] fun ⟨x4,x5⟩ h6=>?_
         refine ev_new fun b7=>?_
         refine aC (TO2 (b7) (x4) (x5)) [2,3] [] fun ⟨x8,x9⟩ h10=>?_
         refine aD (TD2 (x8) (x9)) [0,2,1] [.inl 0] (fun v0_=>[.box (p) 195 [vP q,vI s,.bq (bad),vI ↑b,vI ↑t],.fact (DiskM q D1.fst)]) fun _ h11=>?_
         refine aI ?_
         refine aC TN [2] [] fun ⟨x12,x13⟩ h14=>?_
         refine aI ?_ (decide_eq_false (show ¬(↑D1.fst.files.length:Int) ≥ 15 from (by omega)))
         refine aC TL [] [] fun _ h15=>?_
         refine aJ ?_ (decide_eq_true (show (↑(b+t):Int) ≥ 999999999 from (by omega)))
         exact ev_fin ⟨trivial,_,rfl,(),rfl,by trivial,aF [0,2]⟩
       rw [if_neg hful] at hR
       have TD:=fun ia ic=>doA p q s bad b t ia ic [f] D1.1 hD1
       rw [run_one] at TD
       unfold ptW at TD
       obtain ⟨G,hG⟩:∃ G,G=f D1.1:=⟨_,rfl⟩
       rw [←hG] at TD hR
       obtain ⟨bd,hbd⟩:∃ bd,bd=(bad || badE G.2):=⟨_,rfl⟩
       rw [←hbd] at TD hR
       have h15:¬ 15≤D1.1.files.length:=fun q=>hful (.inl q)
       have h99:¬ 999999999≤b+t:=fun q=>hful (.inr q)
       by_cases hg:G.2=0
       · rw [hg] at TD hR
         rw [if_pos rfl] at hR
         subst hR
         refine aT Tryz.func164 [.pt 0 p 0,vL A np cp] [.box p 195 [vP q,vI s,.bq bad,vI (b:Nat),vI (t:Nat)],.fact (DiskM q D)] (fun E=>?_) ⟨rfl,trivial,trivial⟩
         refine aG ?_
         refine aD TA [0,1] [] (fun v0_=>[.box (p) 195 [vP q,vI s,.bq (bad),vI ↑b,vI ↑t],.fact (DiskM q D)]) fun _ h0=>?_
         refine aI ?_
         refine aC TF [] [.inl 1] fun _ h1=>?_
         refine aI ?_
         refine aI ?_ (beq_eq_false_iff_ne.2 (show ¬(↑np:Int)=0 from (by omega)))
         refine aD TE [0] [.inl 0] (fun v0_=>[.box (p) 195 [vP q,vI s,.bq (bad),vI ↑b,vI ↑t]]) fun _ h2=>?_
         refine aJ ?_ (dec_yes (by with_reducible assumption))
         refine aD TZ [0,1] [] (fun v0_=>[.box (p) 195 [vP q,vI s,.bq (bad),vI ↑b,vI ↑t],.fact (DiskM q D)]) fun _ h3=>?_
         refine aI ?_ (decide_eq_false (show ¬(↑z:Int)<16384 from (by omega)))
         refine aC TP2 [] [] fun ⟨x4,x5⟩ h6=>?_
         refine ev_new fun b7=>?_
         refine aC (TO2 (b7) (x4) (x5)) [2,3] [] fun ⟨x8,x9⟩ h10=>?_
         refine aD (TD2 (x8) (x9)) [0,2,1] [.inl 0] (fun v0_=>[.box (p) 195 [vP q,vI s,.bq (bad),vI ↑b,vI ↑t],.fact (DiskM q D1.fst)]) fun _ h11=>?_
         refine aI ?_
         refine aC TN [2] [] fun ⟨x12,x13⟩ h14=>?_
         refine aI ?_ (decide_eq_false (show ¬(↑D1.fst.files.length:Int) ≥ 15 from (by omega)))
         refine aC TL [] [] fun _ h15=>?_
         refine aI ?_ (decide_eq_false (show ¬(↑(b+t):Int) ≥ 999999999 from (by omega)))
         refine aC TL [] [] fun _ h16=>?_
         refine wN (b+t+1) ?_
         refine aC (TI (show b+t+1≤9223372036854775807 from (by omega))) [] [.inl 0] fun _ h17=>?_
         refine ev_stop (go_bin (.va _) trivial rfl rfl rfl rfl rfl (by decide) (by decide) (fun w=>cat_run (by omega) w) ?_)
         refine aG ?_
         refine aC TP [] [] fun ⟨x18,x19⟩ h20=>?_
         refine ev_new fun b21=>?_
         refine aC (TO (b21) (x18) (x19)) [5,6] [] fun ⟨x22,x23⟩ h24=>?_
         refine aD (TD (x22) (x23)) [0,5,2] [.inl 0] (fun v0_=>[.box (p) 195 [vP q,vI s,.bq (bd),vI ↑b,vI ↑t],.fact (DiskM q G.fst)]) fun _ h25=>?_
         refine aJ ?_
         refine wN (t+1) ?_
         exact ev_fin ⟨trivial,_,rfl,(),rfl,by trivial,aF [0,5]⟩
       rw [if_neg hg] at hR
       subst hR
       refine aT Tryz.func164 [.pt 0 p 0,vL A np cp] [.box p 195 [vP q,vI s,.bq bad,vI (b:Nat),vI (t:Nat)],.fact (DiskM q D)] (fun E=>?_) ⟨rfl,trivial,trivial⟩
       refine aG ?_
       refine aD TA [0,1] [] (fun v0_=>[.box (p) 195 [vP q,vI s,.bq (bad),vI ↑b,vI ↑t],.fact (DiskM q D)]) fun _ h0=>?_
       refine aI ?_
       refine aC TF [] [.inl 1] fun _ h1=>?_
       refine aI ?_
       refine aI ?_ (beq_eq_false_iff_ne.2 (show ¬(↑np:Int)=0 from (by omega)))
       refine aD TE [0] [.inl 0] (fun v0_=>[.box (p) 195 [vP q,vI s,.bq (bad),vI ↑b,vI ↑t]]) fun _ h2=>?_
       refine aJ ?_ (dec_yes (by with_reducible assumption))
       refine aD TZ [0,1] [] (fun v0_=>[.box (p) 195 [vP q,vI s,.bq (bad),vI ↑b,vI ↑t],.fact (DiskM q D)]) fun _ h3=>?_
       refine aI ?_ (decide_eq_false (show ¬(↑z:Int)<16384 from (by omega)))
       refine aC TP2 [] [] fun ⟨x4,x5⟩ h6=>?_
       refine ev_new fun b7=>?_
       refine aC (TO2 (b7) (x4) (x5)) [2,3] [] fun ⟨x8,x9⟩ h10=>?_
       refine aD (TD2 (x8) (x9)) [0,2,1] [.inl 0] (fun v0_=>[.box (p) 195 [vP q,vI s,.bq (bad),vI ↑b,vI ↑t],.fact (DiskM q D1.fst)]) fun _ h11=>?_
       refine aI ?_
       refine aC TN [2] [] fun ⟨x12,x13⟩ h14=>?_
       refine aI ?_ (decide_eq_false (show ¬(↑D1.fst.files.length:Int) ≥ 15 from (by omega)))
       refine aC TL [] [] fun _ h15=>?_
       refine aI ?_ (decide_eq_false (show ¬(↑(b+t):Int) ≥ 999999999 from (by omega)))
       refine aC TL [] [] fun _ h16=>?_
       refine wN (b+t+1) ?_
       refine aC (TI (show b+t+1≤9223372036854775807 from (by omega))) [] [.inl 0] fun _ h17=>?_
       refine ev_stop (go_bin (.va _) trivial rfl rfl rfl rfl rfl (by decide) (by decide) (fun w=>cat_run (by omega) w) ?_)
       refine aG ?_
       refine aC TP [] [] fun ⟨x18,x19⟩ h20=>?_
       refine ev_new fun b21=>?_
       refine aC (TO (b21) (x18) (x19)) [5,6] [] fun ⟨x22,x23⟩ h24=>?_
       refine aD (TD (x22) (x23)) [0,5,2] [.inl 0] (fun v0_=>[.box (p) 195 [vP q,vI s,.bq (bd),vI ↑b,vI ↑t],.fact (DiskM q G.fst)]) fun _ h25=>?_
       refine aI ?_ (beq_eq_false_iff_ne.2 (by with_reducible assumption))
       exact ev_fin ⟨trivial,_,rfl,(),rfl,by trivial,aF [0,5]⟩
     rw [if_pos (by simpa using hg)] at hR
     obtain ⟨bd,hbd⟩:∃ bd,bd=(bad || badE D1.2):=⟨_,rfl⟩
     rw [←hbd] at TD2 hR
     subst hR
     refine aT Tryz.func164 [.pt 0 p 0,vL A np cp] [.box p 195 [vP q,vI s,.bq bad,vI (b:Nat),vI (t:Nat)],.fact (DiskM q D)] (fun E=>?_) ⟨rfl,trivial,trivial⟩
     refine aG ?_
     refine aD TA [0,1] [] (fun v0_=>[.box (p) 195 [vP q,vI s,.bq (bad),vI ↑b,vI ↑t],.fact (DiskM q D)]) fun _ h0=>?_
     refine aI ?_
     refine aC TF [] [.inl 1] fun _ h1=>?_
     refine aI ?_
     refine aI ?_ (beq_eq_false_iff_ne.2 (show ¬(↑np:Int)=0 from (by omega)))
     refine aD TE [0] [.inl 0] (fun v0_=>[.box (p) 195 [vP q,vI s,.bq (bad),vI ↑b,vI ↑t]]) fun _ h2=>?_
     refine aJ ?_ (dec_yes (by with_reducible assumption))
     refine aD TZ [0,1] [] (fun v0_=>[.box (p) 195 [vP q,vI s,.bq (bad),vI ↑b,vI ↑t],.fact (DiskM q D)]) fun _ h3=>?_
     refine aI ?_ (decide_eq_false (show ¬(↑z:Int)<16384 from (by omega)))
     refine aC TP2 [] [] fun ⟨x4,x5⟩ h6=>?_
     refine ev_new fun b7=>?_
     refine aC (TO2 (b7) (x4) (x5)) [2,3] [] fun ⟨x8,x9⟩ h10=>?_
     refine aD (TD2 (x8) (x9)) [0,2,1] [.inl 0] (fun v0_=>[.box (p) 195 [vP q,vI s,.bq (bd),vI ↑b,vI ↑t],.fact (DiskM q D1.fst)]) fun _ h11=>?_
     refine aJ ?_ (ne_yes (by with_reducible assumption))
     exact ev_fin ⟨trivial,_,rfl,(),rfl,by trivial,aF [0,2]⟩
   rw [appW_long h hf] at hR
   subst hR
   refine aT Tryz.func164 [.pt 0 p 0,vL A np cp] [.box p 195 [vP q,vI s,.bq bad,vI (b:Nat),vI (t:Nat)],.fact (DiskM q D)] (fun E=>?_) ⟨rfl,trivial,trivial⟩
   refine aG ?_
   refine aD TA [0,1] [] (fun v0_=>[.box (p) 195 [vP q,vI s,.bq (bad),vI ↑b,vI ↑t],.fact (DiskM q D)]) fun _ h0=>?_
   refine aI ?_
   refine aC TF [] [.inl 1] fun _ h1=>?_
   refine aJ ?_ (ne_yes (by with_reducible assumption))
   exact ev_fin ⟨trivial,_,rfl,(),rfl,by trivial,aF [0,1]⟩
 rw [appW_ask h] at hR
 rw [h] at TA
 subst hR
 refine aT Tryz.func164 [.pt 0 p 0,vL A np cp] [.box p 195 [vP q,vI s,.bq bad,vI (b:Nat),vI (t:Nat)],.fact (DiskM q D)] (fun E=>?_) ⟨rfl,trivial,trivial⟩
 refine aG ?_
 refine aD TA [0,1] [] (fun v0_=>[.box (p) 195 [vP q,vI s,.bq (bad),vI ↑b,vI ↑t],.fact (DiskM q D)]) fun _ h0=>?_
 refine aJ ?_
 exact ev_fin ⟨trivial,_,rfl,(),rfl,by trivial,aF [0,1]⟩
theorem runD_ok:∀ {fs:List (DK→DK × Int)} {D:DK},(∀ f∈fs,∀ D,okD D→okD (f D).1)→okD D→okD (runD fs D).1
 | [],_,_,h=>h
 |
  f::fs,D,hf,h=>by
  have h1:=hf f List.mem_cons_self D h
  unfold runD
  split
  · exact runD_ok (fun g hg=>hf g (List.mem_cons_of_mem _ hg)) h1
  exact h1
theorem remL_ok {L:List ByteArray}:∀ f∈remL L,∀ D,okD D→okD (f D).1:=fun f hf D h=>by
 obtain ⟨x,_,rfl⟩:=List.mem_map.1 hf
 exact rem_ok h _
def cutAt (_t:Nat) (dat:List ByteArray) (e:ByteArray) (i:Nat) (cut:ByteArray) (en:Int):Prop :=
 (cut=⟨#[]⟩∧en=0∧∀ k x,k<i→dat[k]? = some x→wholeB x=true)∨(i=dat.length∧cut=e∧∃ z:Nat,en=(z:Int)∧cutM dat=some z)
theorem cutAt_end {t:Nat} {dat:List ByteArray} {e cut:ByteArray} {en:Int} (h:cutAt t dat e dat.length cut en):(cut=⟨#[]⟩∧en=0∧cutM dat=none)∨(cut=e∧∃ z:Nat,en=(z:Int)∧cutM dat=some z):=by
 rcases h with ⟨h1,h2,h3⟩ | ⟨_,h2,h3⟩
 · refine .inl ⟨h1,h2,cutM_no fun x hx=>?_⟩
   obtain ⟨k,hk,rfl⟩:=List.getElem_of_mem hx
   exact h3 k _ hk (List.getElem?_eq_getElem hk)
 exact .inr ⟨h2,h3⟩
theorem cutAt_whole {t:Nat} {dat:List ByteArray} {e cut:ByteArray} {en:Int} {i:Nat} (h:cutAt t dat e i cut en) (hi:i<dat.length) {x:ByteArray} (hx:dat[i]? = some x) (hw:wholeB x=true):cutAt t dat e (i+1) cut en:=by
 rcases h with ⟨h1,h2,h3⟩ | ⟨h1,_⟩
 · refine .inl ⟨h1,h2,fun k y hk hy=>?_⟩
   rcases Nat.lt_or_ge k i with h4 | h4
   · exact h3 k y h4 hy
   obtain rfl:k=i:=by omega
   rw [hx] at hy
   cases hy
   exact hw
 omega
theorem cutAt_torn {t:Nat} {dat:List ByteArray} {e:ByteArray} {i:Nat} {x:ByteArray} (hx:dat[i]? = some x) (hi:i+1=dat.length) (hw:wholeB x=false):cutAt t dat e (i+1) e ((wholeM x).2:Nat):=by
 refine .inr ⟨hi,rfl,_,rfl,?_⟩
 obtain ⟨h1,h2⟩:=List.getElem?_eq_some_iff.1 hx
 have:=cutM_yes hi (by rw [h2];exact hw)
 rwa [h2] at this
theorem stale_len (L:List ByteArray):(staleM L).length≤L.length:=by
 unfold staleM
 split
 · exact List.length_filter_le _ _
 simp
theorem seg_last {b t i:Nat} (h:0<t) (hi:i+1=(segsM b t).length) (h2:i<(segsM b t).length):(segsM b t)[i]=endM b t:=by
 have h3:=segs_end (b:=b) h
 rw [List.getLast?_eq_getElem?,show (segsM b t).length-1=i by omega,List.getElem?_eq_getElem h2] at h3
 exact Option.some.inj h3
set_option maxHeartbeats 8000000 in
theorem openCutE (q:Nat) (D:DK) (hD:okD D) (h:D.down=false) (ho:okN (namesD D)=true) (hs:okSeg (tailsM (namesD D)) (dataD D)=true) (hre:(runD (remL (staleM (namesD D))) D).2=0) (zc:Nat) (hc:cutM (dataD D)=some zc)
 (R:DK × Int) (hR:R=truncD (runD (remL (staleM (namesD D))) D).1 (endM (baseM (namesD D)) (tailsM (namesD D))) (zc:Nat)) (hR2:R.2≠0):Triple Tryz.prog 152 [pP q] [DiskM q D] [TabA] Unit (fun _=>.tuple #[.pointer none,.slice none 0 0,.int .i64 R.2]) (fun _=>True) (fun _=>[DiskM q R.1]):=by
 unfold dataD at hc
 have T1:=startsM q D hD
 have T2:=upM q D hD
 rw [h] at T2
 have T3:=namesM q D hD
 have hfew:=hD.few
 unfold dataD at hs
 obtain ⟨L,hL⟩:∃ L,L=D.files.map nameEG:=⟨_,rfl⟩
 obtain ⟨n,hn⟩:∃ n,n=D.files.length:=⟨_,rfl⟩
 have hnl:n=L.length:=by rw [hL,hn,List.length_map]
 have hLN:namesD D=L:=hL.symm
 rw [hLN] at ho hs
 rw [←hL,←hn] at T3
 have T4:=fun A c=>lookR A L n c hnl (by omega)
 rw [ho] at T4
 have hbt:=last_le L
 obtain ⟨b,hb⟩:∃ b,b=baseM L:=⟨_,rfl⟩
 obtain ⟨t,ht⟩:∃ t,t=tailsM L:=⟨_,rfl⟩
 rw [←hb,←ht] at hbt hs T4
 have T5:=segsT b t (by omega) (by omega)
 obtain ⟨S,hS⟩:∃ S,S=segsM b t:=⟨_,rfl⟩
 rw [←hS] at hs T5
 obtain ⟨m,hm⟩:∃ m,m=S.length:=⟨_,rfl⟩
 rw [←hm] at T5
 have hm1:m≤16:=by rw [hm,hS,hb,ht];have:=segs_few L;omega
 obtain ⟨dat,hdat⟩:∃ dat,dat=S.map fun x=>(readD D x).1:=⟨_,rfl⟩
 rw [←hdat] at hs
 have hdl:dat.length=m:=by rw [hdat,List.length_map,hm]
 have hget:∀ i (hi:i<S.length),dat[i]? = some (readD D S[i]).1:=fun i hi=>by rw [hdat,List.getElem?_map,List.getElem?_eq_getElem hi];rfl
 rw [hLN,←hb,←ht,←hS,←hdat] at hc
 rw [hLN,←hb,←ht] at hR
 rw [hLN] at hre
 obtain ⟨la,hla⟩:∃ la,la=endM b t:=⟨_,rfl⟩
 have hlz:0<t→¬ la=(⟨#[]⟩:ByteArray):=fun ht q=>by
  have:=congrArg ByteArray.size q
  rw [hla] at this
  unfold endM at this
  rw [if_neg (by omega)] at this
  have h2:=nmB_pos 115 (b+t)
  rw [this] at h2
  exact absurd h2 (by decide)
 obtain ⟨sl,hsl⟩:∃ sl,sl=staleM L:=⟨_,rfl⟩
 rw [←hsl] at T4
 have hsn:sl.length≤1000:=by rw [hsl];have:=stale_len L;omega
 obtain ⟨ns,hns⟩:∃ ns,ns=sl.length:=⟨_,rfl⟩
 rw [←hns] at T4 hsn
 have T8:=fun p A c=>removedF p q D.starts (b:Nat) (t:Nat) A ns c sl hns (by omega)
 have T9:=fun p ia ic=>doA p q D.starts false (b:Nat) (t:Nat) ia ic (remL sl) D hD
 unfold ptW at T9
 have hD1:okD (runD (remL sl) D).1:=runD_ok remL_ok hD
 obtain ⟨r,hr⟩:∃ r,r=runD (remL sl) D:=⟨_,rfl⟩
 rw [←hr] at T9 hD1
 obtain ⟨bd,hbd⟩:∃ bd,bd=(false || badE r.2):=⟨_,rfl⟩
 rw [←hbd] at T9
 obtain ⟨fs,hfs⟩:∃ fs,fs=remL sl:=⟨_,rfl⟩
 rw [←hfs] at T9
 replace T8:∀ p A c,Triple Tryz.prog 150 [pP p,.slice A ns c] [Row 9 1 A ns c (sl.flatMap encS)] [] FnV (fun v=>.func (.func v.1) #[] v.2) (fun _=>True) (fun it=>[IterA p q D.starts (b:Nat) (t:Nat) it fs]):=fun p A c=>by
  rw [hfs]
  exact T8 p A c
 rw [←hsl,←hfs,hfs,←hr] at hre hR
 rw [←hla] at hR
 rw [hre] at T9
 have T10:=truncM q r.1 la (zc:Nat) hD1
 rw [←hR] at T10
 refine aT Tryz.func152 [vP q] [.fact (DiskM q D)] (fun E=>?_) ⟨trivial,trivial⟩
 refine go_fact (Row 9 1 none 0 0 (([]:List ByteArray).flatMap encS)) (Row.nilE _ _) ?_
 refine aG ?_
 refine aC T1 [0] [] fun _ h0=>?_
 refine ev_new fun b1=>?_
 refine aC T2 [0] [] fun _ h2=>?_
 refine aI ?_
 refine aC T3 [0] [] fun ⟨x3,x4⟩ h5=>?_
 refine aC (T4 (x3) (x4)) [] [.inl 0,.inr 3] fun ⟨x6,x7⟩ h8=>?_
 refine ev_new fun b9=>?_
 refine aI ?_
 refine aC T5 [] [.inl 0] fun ⟨x10,x11⟩ h12=>?_
 refine ev_stop (go_loopR [2,3,4,10,11,12,13,14,15,16,17,18,23,30,33,34,40,43,47,48,49,50,51,52,53,54,55,56,57,58,59,60,61,62,63,64,65,66,67,68,69,70,71,72,73,74,75,76,77,78,79,80,81,82] (fun (i,C,z,e,_,cut,en)=>[(10,vL C z e),(11,.va (.string cut)),(12,vI en),(47,vI (i:Nat))]) (fun (_,C,z,e,M,_)=>[(1,.fact (Row 9 1 C z e (M.flatMap encS)))]) (fun (i,_,z,_,M,cut,en)=>i≤m∧z=M.length∧z≤i*2000000∧M=payM (dat.take i)∧cutAt t dat la i cut en) (fun (i,_)=>m-i) ((0,none,0,0,[],⟨#[]⟩,0):Nat × Option Addr × Nat × Nat × List ByteArray × ByteArray × Int) ⟨Nat.zero_le _,rfl,Nat.zero_le _,rfl,.inl ⟨rfl,rfl,fun k x hk=>absurd hk (by omega)⟩⟩ aS (fun x_ h_=>?_))
 obtain ⟨i,C,z,e,M,cut,en⟩:=x_
 obtain ⟨hi,hz,hz2,hM,hup⟩:=h_
 rcases Nat.lt_or_ge i m with him | him
 · have hiS:i<S.length:=by omega
   obtain ⟨x,hx⟩:∃ x,x=(readD D S[i]).1:=⟨_,rfl⟩
   have hxs:=read_size hD S[i]
   have hgx:=hget i hiS
   have T6:=readM q D S[i] hD
   rw [←hx] at hxs hgx T6
   have T7:=wholeT x (by omega)
   have hwl:=whole_len x
   have hzl:z+(wholeM x).1.length≤(i+1)*2000000:=by rw [Nat.succ_mul];omega
   have hzm:z+(wholeM x).1.length≤100000000:=by have:(i+1)*2000000≤16*2000000:=Nat.mul_le_mul_right _ (by omega);omega
   have hst:=payM_step (dat:=dat) (i:=i) (by omega)
   have hxe:dat[i]'(by omega)=x:=by
    have:=hgx
    rw [List.getElem?_eq_getElem (by omega)] at this
    exact Option.some.inj this
   rw [hxe,←hM] at hst
   have hno:wholeB x=false→¬ (i+1<m∨t=0):=fun hw h2=>by
    have:=okSeg_no (t:=t) (dat:=dat) (k:=i) (by omega) (by rw [hxe];exact hw) (by rw [hdl];exact h2)
    rw [hs] at this
    cases this
   refine aG ?_
   refine aJ ?_ (decide_eq_true (show (↑i:Int)<(↑m:Int) from (by omega)))
   refine ev_stop (go_index0 (sz:=1) Tryz.tbs_ok (.inr 6) (i) rfl rfl rfl rfl rfl rfl (by omega) rfl Row.at0 (fun g60 e61=>?_))
   subst e61
   refine aG ?_
   have l62:i<(S).length:=(by omega)
   refine ev_stop (go_loadE Tryz.tbs_ok (.inr 6) (i) 0 rfl rfl rfl rfl (fun _ h=>Row.rd h) (by omega) (fun _=>rfl) (by omega) l62 (by decide) ?_)
   refine aG ?_
   refine aC T6 [0] [] fun _ h63=>?_
   refine aC T7 [] [] fun ⟨x64,x65⟩ h66=>?_
   refine ev_if_lt (fun h67=>?_) (fun h67=>?_)
   refine aG ?_
   refine wO (m-1) ?_
   refine ev_if_lt (fun h68=>?_) (fun h68=>?_)
   refine aG ?_
   rotate_left
   refine aG ?_
   refine ev_if_eq (fun h69=>?_) (fun h69=>?_)
   refine aG ?_
   rotate_left
   refine aG ?_
   refine ev_stop (go_appendE (sz:=1) (M:=[_]) (enc:=encS) Tryz.tbs_ok [1] [] (.inr 7) (M) ((wholeM x).fst) ((M)++((wholeM x).fst)) (z+(wholeM x).fst.length) rfl rfl rfl rfl rfl rfl rfl (by decide) rfl (by decide) (fun _ p=>starH_one.1 p) rfl (fun _ h=>Row.rd h) (by first | rfl | simp) (by first | rfl | omega) (aM (z+(wholeM x).fst.length)) (aN (z+(wholeM x).fst.length)) (fun _ _=>aL) (fun A70 c71 h72=>?_))
   refine aG ?_
   refine wN (i+1) ?_
   refine ev_fin (round_next ((i+1,A70,z+(wholeM x).fst.length,c71,M++(wholeM x).fst,S[i],(↑(wholeM x).snd:Int))) (?_:i+1≤m∧z+(wholeM x).fst.length=(M++(wholeM x).fst).length∧z+(wholeM x).fst.length≤(i+1)*2000000∧M++(wholeM x).fst=payM (List.take (i+1) dat)∧cutAt t dat la (i+1) S[i] (↑(wholeM x).snd:Int)) (show m-(i+1)<m-i from (by omega)) aS)
   rotate_left
   refine aG ?_
   refine ev_stop (go_appendE (sz:=1) (M:=[_]) (enc:=encS) Tryz.tbs_ok [1] [] (.inr 7) (M) ((wholeM x).fst) ((M)++((wholeM x).fst)) (z+(wholeM x).fst.length) rfl rfl rfl rfl rfl rfl rfl (by decide) rfl (by decide) (fun _ p=>starH_one.1 p) rfl (fun _ h=>Row.rd h) (by first | rfl | simp) (by first | rfl | omega) (aM (z+(wholeM x).fst.length)) (aN (z+(wholeM x).fst.length)) (fun _ _=>aL) (fun A73 c74 h75=>?_))
   refine aG ?_
   refine wN (i+1) ?_
   refine ev_fin (round_next ((i+1,A73,z+(wholeM x).fst.length,c74,M++(wholeM x).fst,cut,en)) (?_:i+1≤m∧z+(wholeM x).fst.length=(M++(wholeM x).fst).length∧z+(wholeM x).fst.length≤(i+1)*2000000∧M++(wholeM x).fst=payM (List.take (i+1) dat)∧cutAt t dat la (i+1) cut en) (show m-(i+1)<m-i from (by omega)) aS)
   rotate_left
   · exact absurd (by omega) (hno (whole_no (by omega)))
   · exact absurd (by omega) (hno (whole_no (by omega)))
   · refine ⟨by omega,by rw [List.length_append,hz],hzl,hst.symm,?_⟩
     have hi1:i+1=m:=by omega
     have ht1:0<t:=by omega
     have hc:S[i]=la:=by subst hS;rw [hla];exact seg_last ht1 (by omega) _
     rw [hc]
     exact cutAt_torn hgx (by omega) (whole_no (by omega))
   exact ⟨by omega,by rw [List.length_append,hz],hzl,hst.symm,cutAt_whole hup (by omega) hgx (whole_yes (by omega))⟩
 obtain rfl:i=m:=by omega
 rw [←hdl] at hup
 rcases cutAt_end hup with ⟨_,_,q3⟩ | ⟨q1,z',q2,q3⟩
 · rw [q3] at hc
   cases hc
 rw [q3] at hc
 cases hc
 subst q1 q2
 have ht0:0<t:=by
  rcases Nat.eq_zero_or_pos t with h0 | h0
  · exfalso
    have hw:∀ x∈dat,wholeB x=true:=fun x hx=>by
     obtain ⟨k,hk,rfl⟩:=List.getElem_of_mem hx
     cases hb2:wholeB dat[k] with
     | true=>rfl
     |
      false =>
      rw [okSeg_no hk hb2 (.inr h0)] at hs
      cases hs
    rw [cutM_no hw] at q3
    cases q3
  exact h0
 have hlz2:=hlz ht0
 refine aG ?_
 refine aI ?_ (decide_eq_false (show ¬(↑i:Int)<(↑i:Int) from (by omega)))
 refine ev_fin (go Tryz.tbs_ok 1000 ?_)
 refine aC (T8 (b1) (x6) (x7)) [4] [] fun ⟨x100,x101⟩ h102=>?_
 refine aD (T9 (b1) (x100) (x101)) [2,4,0] [.inl 0] (fun v0_=>[.box (b1) 195 [vP q,vI D.starts,.bq (bd),vI ↑b,vI ↑t],.fact (DiskM q r.fst)]) fun _ h103=>?_
 refine aJ ?_
 refine aJ ?_ (dec_yes (by with_reducible assumption))
 refine aC T10 [4] [] fun _ h104=>?_
 refine aJ ?_ (ne_yes (by with_reducible assumption))
 exact ev_fin ⟨trivial,_,rfl,(),rfl,by trivial,aF [4]⟩
set_option maxHeartbeats 8000000 in
theorem openCut (q:Nat) (D:DK) (hD:okD D) (h:D.down=false) (ho:okN (namesD D)=true) (hs:okSeg (tailsM (namesD D)) (dataD D)=true) (hre:(runD (remL (staleM (namesD D))) D).2=0) (zc:Nat) (hc:cutM (dataD D)=some zc)
 (R:DK × Int) (hR:R=truncD (runD (remL (staleM (namesD D))) D).1 (endM (baseM (namesD D)) (tailsM (namesD D))) (zc:Nat)) (hR2:R.2=0):Triple Tryz.prog 152 [pP q] [DiskM q D] [TabA] (Nat × Option Addr × Nat) (fun (p,C,c)=>.tuple #[pP p,.slice C (payM (dataD D)).length c,.int .i64 0]) (fun _=>True) (fun (p,C,c)=>[WalM p q ⟨D.starts,false,baseM (namesD D),tailsM (namesD D)⟩,DiskM q R.1,Row 9 1 C (payM (dataD D)).length c ((payM (dataD D)).flatMap encS)]):=by
 unfold WalM ptW
 unfold dataD at hc ⊢
 have T1:=startsM q D hD
 have T2:=upM q D hD
 rw [h] at T2
 have T3:=namesM q D hD
 have hfew:=hD.few
 unfold dataD at hs
 obtain ⟨L,hL⟩:∃ L,L=D.files.map nameEG:=⟨_,rfl⟩
 obtain ⟨n,hn⟩:∃ n,n=D.files.length:=⟨_,rfl⟩
 have hnl:n=L.length:=by rw [hL,hn,List.length_map]
 have hLN:namesD D=L:=hL.symm
 rw [hLN] at ho hs
 rw [←hL,←hn] at T3
 have T4:=fun A c=>lookR A L n c hnl (by omega)
 rw [ho] at T4
 have hbt:=last_le L
 obtain ⟨b,hb⟩:∃ b,b=baseM L:=⟨_,rfl⟩
 obtain ⟨t,ht⟩:∃ t,t=tailsM L:=⟨_,rfl⟩
 rw [←hb,←ht] at hbt hs T4
 have T5:=segsT b t (by omega) (by omega)
 obtain ⟨S,hS⟩:∃ S,S=segsM b t:=⟨_,rfl⟩
 rw [←hS] at hs T5
 obtain ⟨m,hm⟩:∃ m,m=S.length:=⟨_,rfl⟩
 rw [←hm] at T5
 have hm1:m≤16:=by rw [hm,hS,hb,ht];have:=segs_few L;omega
 obtain ⟨dat,hdat⟩:∃ dat,dat=S.map fun x=>(readD D x).1:=⟨_,rfl⟩
 rw [←hdat] at hs
 have hdl:dat.length=m:=by rw [hdat,List.length_map,hm]
 have hget:∀ i (hi:i<S.length),dat[i]? = some (readD D S[i]).1:=fun i hi=>by rw [hdat,List.getElem?_map,List.getElem?_eq_getElem hi];rfl
 rw [hLN,←hb,←ht,←hS,←hdat] at hc ⊢
 rw [hLN,←hb,←ht] at hR
 rw [hLN] at hre
 obtain ⟨la,hla⟩:∃ la,la=endM b t:=⟨_,rfl⟩
 have hlz:0<t→¬ la=(⟨#[]⟩:ByteArray):=fun ht q=>by
  have:=congrArg ByteArray.size q
  rw [hla] at this
  unfold endM at this
  rw [if_neg (by omega)] at this
  have h2:=nmB_pos 115 (b+t)
  rw [this] at h2
  exact absurd h2 (by decide)
 obtain ⟨sl,hsl⟩:∃ sl,sl=staleM L:=⟨_,rfl⟩
 rw [←hsl] at T4
 have hsn:sl.length≤1000:=by rw [hsl];have:=stale_len L;omega
 obtain ⟨ns,hns⟩:∃ ns,ns=sl.length:=⟨_,rfl⟩
 rw [←hns] at T4 hsn
 have T8:=fun p A c=>removedF p q D.starts (b:Nat) (t:Nat) A ns c sl hns (by omega)
 have T9:=fun p ia ic=>doA p q D.starts false (b:Nat) (t:Nat) ia ic (remL sl) D hD
 unfold ptW at T9
 have hD1:okD (runD (remL sl) D).1:=runD_ok remL_ok hD
 obtain ⟨r,hr⟩:∃ r,r=runD (remL sl) D:=⟨_,rfl⟩
 rw [←hr] at T9 hD1
 obtain ⟨bd,hbd⟩:∃ bd,bd=(false || badE r.2):=⟨_,rfl⟩
 rw [←hbd] at T9
 obtain ⟨fs,hfs⟩:∃ fs,fs=remL sl:=⟨_,rfl⟩
 rw [←hfs] at T9
 replace T8:∀ p A c,Triple Tryz.prog 150 [pP p,.slice A ns c] [Row 9 1 A ns c (sl.flatMap encS)] [] FnV (fun v=>.func (.func v.1) #[] v.2) (fun _=>True) (fun it=>[IterA p q D.starts (b:Nat) (t:Nat) it fs]):=fun p A c=>by
  rw [hfs]
  exact T8 p A c
 rw [←hsl,←hfs,hfs,←hr] at hre hR
 rw [←hla] at hR
 rw [hre,show (false || badE 0)=false from rfl] at hbd
 rw [hre,hbd] at T9
 have T10:=truncM q r.1 la (zc:Nat) hD1
 rw [←hR,hR2] at T10
 refine aT Tryz.func152 [vP q] [.fact (DiskM q D)] (fun E=>?_) ⟨trivial,trivial⟩
 refine go_fact (Row 9 1 none 0 0 (([]:List ByteArray).flatMap encS)) (Row.nilE _ _) ?_
 refine aG ?_
 refine aC T1 [0] [] fun _ h0=>?_
 refine ev_new fun b1=>?_
 refine aC T2 [0] [] fun _ h2=>?_
 refine aI ?_
 refine aC T3 [0] [] fun ⟨x3,x4⟩ h5=>?_
 refine aC (T4 (x3) (x4)) [] [.inl 0,.inr 3] fun ⟨x6,x7⟩ h8=>?_
 refine ev_new fun b9=>?_
 refine aI ?_
 refine aC T5 [] [.inl 0] fun ⟨x10,x11⟩ h12=>?_
 refine ev_stop (go_loopR [2,3,4,10,11,12,13,14,15,16,17,18,23,30,33,34,40,43,47,48,49,50,51,52,53,54,55,56,57,58,59,60,61,62,63,64,65,66,67,68,69,70,71,72,73,74,75,76,77,78,79,80,81,82] (fun (i,C,z,e,_,cut,en)=>[(10,vL C z e),(11,.va (.string cut)),(12,vI en),(47,vI (i:Nat))]) (fun (_,C,z,e,M,_)=>[(1,.fact (Row 9 1 C z e (M.flatMap encS)))]) (fun (i,_,z,_,M,cut,en)=>i≤m∧z=M.length∧z≤i*2000000∧M=payM (dat.take i)∧cutAt t dat la i cut en) (fun (i,_)=>m-i) ((0,none,0,0,[],⟨#[]⟩,0):Nat × Option Addr × Nat × Nat × List ByteArray × ByteArray × Int) ⟨Nat.zero_le _,rfl,Nat.zero_le _,rfl,.inl ⟨rfl,rfl,fun k x hk=>absurd hk (by omega)⟩⟩ aS (fun x_ h_=>?_))
 obtain ⟨i,C,z,e,M,cut,en⟩:=x_
 obtain ⟨hi,hz,hz2,hM,hup⟩:=h_
 rcases Nat.lt_or_ge i m with him | him
 · have hiS:i<S.length:=by omega
   obtain ⟨x,hx⟩:∃ x,x=(readD D S[i]).1:=⟨_,rfl⟩
   have hxs:=read_size hD S[i]
   have hgx:=hget i hiS
   have T6:=readM q D S[i] hD
   rw [←hx] at hxs hgx T6
   have T7:=wholeT x (by omega)
   have hwl:=whole_len x
   have hzl:z+(wholeM x).1.length≤(i+1)*2000000:=by rw [Nat.succ_mul];omega
   have hzm:z+(wholeM x).1.length≤100000000:=by have:(i+1)*2000000≤16*2000000:=Nat.mul_le_mul_right _ (by omega);omega
   have hst:=payM_step (dat:=dat) (i:=i) (by omega)
   have hxe:dat[i]'(by omega)=x:=by
    have:=hgx
    rw [List.getElem?_eq_getElem (by omega)] at this
    exact Option.some.inj this
   rw [hxe,←hM] at hst
   have hno:wholeB x=false→¬ (i+1<m∨t=0):=fun hw h2=>by
    have:=okSeg_no (t:=t) (dat:=dat) (k:=i) (by omega) (by rw [hxe];exact hw) (by rw [hdl];exact h2)
    rw [hs] at this
    cases this
   refine aG ?_
   refine aJ ?_ (decide_eq_true (show (↑i:Int)<(↑m:Int) from (by omega)))
   refine ev_stop (go_index0 (sz:=1) Tryz.tbs_ok (.inr 6) (i) rfl rfl rfl rfl rfl rfl (by omega) rfl Row.at0 (fun g60 e61=>?_))
   subst e61
   refine aG ?_
   have l62:i<(S).length:=(by omega)
   refine ev_stop (go_loadE Tryz.tbs_ok (.inr 6) (i) 0 rfl rfl rfl rfl (fun _ h=>Row.rd h) (by omega) (fun _=>rfl) (by omega) l62 (by decide) ?_)
   refine aG ?_
   refine aC T6 [0] [] fun _ h63=>?_
   refine aC T7 [] [] fun ⟨x64,x65⟩ h66=>?_
   refine ev_if_lt (fun h67=>?_) (fun h67=>?_)
   refine aG ?_
   refine wO (m-1) ?_
   refine ev_if_lt (fun h68=>?_) (fun h68=>?_)
   refine aG ?_
   rotate_left
   refine aG ?_
   refine ev_if_eq (fun h69=>?_) (fun h69=>?_)
   refine aG ?_
   rotate_left
   refine aG ?_
   refine ev_stop (go_appendE (sz:=1) (M:=[_]) (enc:=encS) Tryz.tbs_ok [1] [] (.inr 7) (M) ((wholeM x).fst) ((M)++((wholeM x).fst)) (z+(wholeM x).fst.length) rfl rfl rfl rfl rfl rfl rfl (by decide) rfl (by decide) (fun _ p=>starH_one.1 p) rfl (fun _ h=>Row.rd h) (by first | rfl | simp) (by first | rfl | omega) (aM (z+(wholeM x).fst.length)) (aN (z+(wholeM x).fst.length)) (fun _ _=>aL) (fun A70 c71 h72=>?_))
   refine aG ?_
   refine wN (i+1) ?_
   refine ev_fin (round_next ((i+1,A70,z+(wholeM x).fst.length,c71,M++(wholeM x).fst,S[i],(↑(wholeM x).snd:Int))) (?_:i+1≤m∧z+(wholeM x).fst.length=(M++(wholeM x).fst).length∧z+(wholeM x).fst.length≤(i+1)*2000000∧M++(wholeM x).fst=payM (List.take (i+1) dat)∧cutAt t dat la (i+1) S[i] (↑(wholeM x).snd:Int)) (show m-(i+1)<m-i from (by omega)) aS)
   rotate_left
   refine aG ?_
   refine ev_stop (go_appendE (sz:=1) (M:=[_]) (enc:=encS) Tryz.tbs_ok [1] [] (.inr 7) (M) ((wholeM x).fst) ((M)++((wholeM x).fst)) (z+(wholeM x).fst.length) rfl rfl rfl rfl rfl rfl rfl (by decide) rfl (by decide) (fun _ p=>starH_one.1 p) rfl (fun _ h=>Row.rd h) (by first | rfl | simp) (by first | rfl | omega) (aM (z+(wholeM x).fst.length)) (aN (z+(wholeM x).fst.length)) (fun _ _=>aL) (fun A73 c74 h75=>?_))
   refine aG ?_
   refine wN (i+1) ?_
   refine ev_fin (round_next ((i+1,A73,z+(wholeM x).fst.length,c74,M++(wholeM x).fst,cut,en)) (?_:i+1≤m∧z+(wholeM x).fst.length=(M++(wholeM x).fst).length∧z+(wholeM x).fst.length≤(i+1)*2000000∧M++(wholeM x).fst=payM (List.take (i+1) dat)∧cutAt t dat la (i+1) cut en) (show m-(i+1)<m-i from (by omega)) aS)
   rotate_left
   · exact absurd (by omega) (hno (whole_no (by omega)))
   · exact absurd (by omega) (hno (whole_no (by omega)))
   · refine ⟨by omega,by rw [List.length_append,hz],hzl,hst.symm,?_⟩
     have hi1:i+1=m:=by omega
     have ht1:0<t:=by omega
     have hc:S[i]=la:=by subst hS;rw [hla];exact seg_last ht1 (by omega) _
     rw [hc]
     exact cutAt_torn hgx (by omega) (whole_no (by omega))
   exact ⟨by omega,by rw [List.length_append,hz],hzl,hst.symm,cutAt_whole hup (by omega) hgx (whole_yes (by omega))⟩
 obtain rfl:i=m:=by omega
 rw [List.take_of_length_le (by omega)] at hM
 rw [←hM,←hz]
 rw [←hdl] at hup
 rcases cutAt_end hup with ⟨_,_,q3⟩ | ⟨q1,z',q2,q3⟩
 · rw [q3] at hc
   cases hc
 rw [q3] at hc
 cases hc
 subst q1 q2
 have ht0:0<t:=by
  rcases Nat.eq_zero_or_pos t with h0 | h0
  · exfalso
    have hw:∀ x∈dat,wholeB x=true:=fun x hx=>by
     obtain ⟨k,hk,rfl⟩:=List.getElem_of_mem hx
     cases hb2:wholeB dat[k] with
     | true=>rfl
     |
      false =>
      rw [okSeg_no hk hb2 (.inr h0)] at hs
      cases hs
    rw [cutM_no hw] at q3
    cases q3
  exact h0
 have hlz2:=hlz ht0
 refine aG ?_
 refine aI ?_ (decide_eq_false (show ¬(↑i:Int)<(↑i:Int) from (by omega)))
 refine ev_fin (go Tryz.tbs_ok 1000 ?_)
 refine aC (T8 (b1) (x6) (x7)) [4] [] fun ⟨x100,x101⟩ h102=>?_
 refine aD (T9 (b1) (x100) (x101)) [2,4,0] [.inl 0] (fun v0_=>[.box (b1) 195 [vP q,vI D.starts,.bl false,vI ↑b,vI ↑t],.fact (DiskM q r.fst)]) fun _ h103=>?_
 refine aJ ?_
 refine aJ ?_ (dec_yes (by with_reducible assumption))
 refine aC T10 [4] [] fun _ h104=>?_
 refine aI ?_
 exact ev_fin ⟨trivial,_,rfl,((b1,C,e)),rfl,by trivial,aF [2,4,1]⟩
set_option maxHeartbeats 8000000 in
theorem openWhole (q:Nat) (D:DK) (hD:okD D) (h:D.down=false) (ho:okN (namesD D)=true) (hs:okSeg (tailsM (namesD D)) (dataD D)=true) (hre:(runD (remL (staleM (namesD D))) D).2=0) (hc:cutM (dataD D)=none):Triple Tryz.prog 152 [pP q] [DiskM q D] [TabA] (Nat × Option Addr × Nat) (fun (p,C,c)=>.tuple #[pP p,.slice C (payM (dataD D)).length c,.int .i64 0]) (fun _=>True) (fun (p,C,c)=>[WalM p q ⟨D.starts,false,baseM (namesD D),tailsM (namesD D)⟩,DiskM q (runD (remL (staleM (namesD D))) D).1,Row 9 1 C (payM (dataD D)).length c ((payM (dataD D)).flatMap encS)]):=by
 unfold WalM ptW
 unfold dataD at hc ⊢
 have T1:=startsM q D hD
 have T2:=upM q D hD
 rw [h] at T2
 have T3:=namesM q D hD
 have hfew:=hD.few
 unfold dataD at hs
 obtain ⟨L,hL⟩:∃ L,L=D.files.map nameEG:=⟨_,rfl⟩
 obtain ⟨n,hn⟩:∃ n,n=D.files.length:=⟨_,rfl⟩
 have hnl:n=L.length:=by rw [hL,hn,List.length_map]
 have hLN:namesD D=L:=hL.symm
 rw [hLN] at ho hs
 rw [←hL,←hn] at T3
 have T4:=fun A c=>lookR A L n c hnl (by omega)
 rw [ho] at T4
 have hbt:=last_le L
 obtain ⟨b,hb⟩:∃ b,b=baseM L:=⟨_,rfl⟩
 obtain ⟨t,ht⟩:∃ t,t=tailsM L:=⟨_,rfl⟩
 rw [←hb,←ht] at hbt hs T4
 have T5:=segsT b t (by omega) (by omega)
 obtain ⟨S,hS⟩:∃ S,S=segsM b t:=⟨_,rfl⟩
 rw [←hS] at hs T5
 obtain ⟨m,hm⟩:∃ m,m=S.length:=⟨_,rfl⟩
 rw [←hm] at T5
 have hm1:m≤16:=by rw [hm,hS,hb,ht];have:=segs_few L;omega
 obtain ⟨dat,hdat⟩:∃ dat,dat=S.map fun x=>(readD D x).1:=⟨_,rfl⟩
 rw [←hdat] at hs
 have hdl:dat.length=m:=by rw [hdat,List.length_map,hm]
 have hget:∀ i (hi:i<S.length),dat[i]? = some (readD D S[i]).1:=fun i hi=>by rw [hdat,List.getElem?_map,List.getElem?_eq_getElem hi];rfl
 rw [hLN] at hre ⊢
 rw [hLN] at hc
 rw [←hb,←ht,←hS,←hdat] at hc ⊢
 obtain ⟨la,hla⟩:∃ la,la=endM b t:=⟨_,rfl⟩
 have hlz:0<t→¬ la=(⟨#[]⟩:ByteArray):=fun ht q=>by
  have:=congrArg ByteArray.size q
  rw [hla] at this
  unfold endM at this
  rw [if_neg (by omega)] at this
  have h2:=nmB_pos 115 (b+t)
  rw [this] at h2
  exact absurd h2 (by decide)
 obtain ⟨sl,hsl⟩:∃ sl,sl=staleM L:=⟨_,rfl⟩
 rw [←hsl] at T4
 have hsn:sl.length≤1000:=by rw [hsl];have:=stale_len L;omega
 obtain ⟨ns,hns⟩:∃ ns,ns=sl.length:=⟨_,rfl⟩
 rw [←hns] at T4 hsn
 have T8:=fun p A c=>removedF p q D.starts (b:Nat) (t:Nat) A ns c sl hns (by omega)
 have T9:=fun p ia ic=>doA p q D.starts false (b:Nat) (t:Nat) ia ic (remL sl) D hD
 unfold ptW at T9
 have hD1:okD (runD (remL sl) D).1:=runD_ok remL_ok hD
 obtain ⟨r,hr⟩:∃ r,r=runD (remL sl) D:=⟨_,rfl⟩
 rw [←hr] at T9 hD1
 obtain ⟨bd,hbd⟩:∃ bd,bd=(false || badE r.2):=⟨_,rfl⟩
 rw [←hbd] at T9
 obtain ⟨fs,hfs⟩:∃ fs,fs=remL sl:=⟨_,rfl⟩
 rw [←hfs] at T9
 replace T8:∀ p A c,Triple Tryz.prog 150 [pP p,.slice A ns c] [Row 9 1 A ns c (sl.flatMap encS)] [] FnV (fun v=>.func (.func v.1) #[] v.2) (fun _=>True) (fun it=>[IterA p q D.starts (b:Nat) (t:Nat) it fs]):=fun p A c=>by
  rw [hfs]
  exact T8 p A c
 rw [←hsl,←hfs,hfs,←hr] at hre ⊢
 rw [hre,show (false || badE 0)=false from rfl] at hbd
 rw [hre,hbd] at T9
 refine aT Tryz.func152 [vP q] [.fact (DiskM q D)] (fun E=>?_) ⟨trivial,trivial⟩
 refine go_fact (Row 9 1 none 0 0 (([]:List ByteArray).flatMap encS)) (Row.nilE _ _) ?_
 refine aG ?_
 refine aC T1 [0] [] fun _ h0=>?_
 refine ev_new fun b1=>?_
 refine aC T2 [0] [] fun _ h2=>?_
 refine aI ?_
 refine aC T3 [0] [] fun ⟨x3,x4⟩ h5=>?_
 refine aC (T4 (x3) (x4)) [] [.inl 0,.inr 3] fun ⟨x6,x7⟩ h8=>?_
 refine ev_new fun b9=>?_
 refine aI ?_
 refine aC T5 [] [.inl 0] fun ⟨x10,x11⟩ h12=>?_
 refine ev_stop (go_loopR [2,3,4,10,11,12,13,14,15,16,17,18,23,30,33,34,40,43,47,48,49,50,51,52,53,54,55,56,57,58,59,60,61,62,63,64,65,66,67,68,69,70,71,72,73,74,75,76,77,78,79,80,81,82] (fun (i,C,z,e,_,cut,en)=>[(10,vL C z e),(11,.va (.string cut)),(12,vI en),(47,vI (i:Nat))]) (fun (_,C,z,e,M,_)=>[(1,.fact (Row 9 1 C z e (M.flatMap encS)))]) (fun (i,_,z,_,M,cut,en)=>i≤m∧z=M.length∧z≤i*2000000∧M=payM (dat.take i)∧cutAt t dat la i cut en) (fun (i,_)=>m-i) ((0,none,0,0,[],⟨#[]⟩,0):Nat × Option Addr × Nat × Nat × List ByteArray × ByteArray × Int) ⟨Nat.zero_le _,rfl,Nat.zero_le _,rfl,.inl ⟨rfl,rfl,fun k x hk=>absurd hk (by omega)⟩⟩ aS (fun x_ h_=>?_))
 obtain ⟨i,C,z,e,M,cut,en⟩:=x_
 obtain ⟨hi,hz,hz2,hM,hup⟩:=h_
 rcases Nat.lt_or_ge i m with him | him
 · have hiS:i<S.length:=by omega
   obtain ⟨x,hx⟩:∃ x,x=(readD D S[i]).1:=⟨_,rfl⟩
   have hxs:=read_size hD S[i]
   have hgx:=hget i hiS
   have T6:=readM q D S[i] hD
   rw [←hx] at hxs hgx T6
   have T7:=wholeT x (by omega)
   have hwl:=whole_len x
   have hzl:z+(wholeM x).1.length≤(i+1)*2000000:=by rw [Nat.succ_mul];omega
   have hzm:z+(wholeM x).1.length≤100000000:=by have:(i+1)*2000000≤16*2000000:=Nat.mul_le_mul_right _ (by omega);omega
   have hst:=payM_step (dat:=dat) (i:=i) (by omega)
   have hxe:dat[i]'(by omega)=x:=by
    have:=hgx
    rw [List.getElem?_eq_getElem (by omega)] at this
    exact Option.some.inj this
   rw [hxe,←hM] at hst
   have hno:wholeB x=false→¬ (i+1<m∨t=0):=fun hw h2=>by
    have:=okSeg_no (t:=t) (dat:=dat) (k:=i) (by omega) (by rw [hxe];exact hw) (by rw [hdl];exact h2)
    rw [hs] at this
    cases this
   refine aG ?_
   refine aJ ?_ (decide_eq_true (show (↑i:Int)<(↑m:Int) from (by omega)))
   refine ev_stop (go_index0 (sz:=1) Tryz.tbs_ok (.inr 6) (i) rfl rfl rfl rfl rfl rfl (by omega) rfl Row.at0 (fun g60 e61=>?_))
   subst e61
   refine aG ?_
   have l62:i<(S).length:=(by omega)
   refine ev_stop (go_loadE Tryz.tbs_ok (.inr 6) (i) 0 rfl rfl rfl rfl (fun _ h=>Row.rd h) (by omega) (fun _=>rfl) (by omega) l62 (by decide) ?_)
   refine aG ?_
   refine aC T6 [0] [] fun _ h63=>?_
   refine aC T7 [] [] fun ⟨x64,x65⟩ h66=>?_
   refine ev_if_lt (fun h67=>?_) (fun h67=>?_)
   refine aG ?_
   refine wO (m-1) ?_
   refine ev_if_lt (fun h68=>?_) (fun h68=>?_)
   refine aG ?_
   rotate_left
   refine aG ?_
   refine ev_if_eq (fun h69=>?_) (fun h69=>?_)
   refine aG ?_
   rotate_left
   refine aG ?_
   refine ev_stop (go_appendE (sz:=1) (M:=[_]) (enc:=encS) Tryz.tbs_ok [1] [] (.inr 7) (M) ((wholeM x).fst) ((M)++((wholeM x).fst)) (z+(wholeM x).fst.length) rfl rfl rfl rfl rfl rfl rfl (by decide) rfl (by decide) (fun _ p=>starH_one.1 p) rfl (fun _ h=>Row.rd h) (by first | rfl | simp) (by first | rfl | omega) (aM (z+(wholeM x).fst.length)) (aN (z+(wholeM x).fst.length)) (fun _ _=>aL) (fun A70 c71 h72=>?_))
   refine aG ?_
   refine wN (i+1) ?_
   refine ev_fin (round_next ((i+1,A70,z+(wholeM x).fst.length,c71,M++(wholeM x).fst,S[i],(↑(wholeM x).snd:Int))) (?_:i+1≤m∧z+(wholeM x).fst.length=(M++(wholeM x).fst).length∧z+(wholeM x).fst.length≤(i+1)*2000000∧M++(wholeM x).fst=payM (List.take (i+1) dat)∧cutAt t dat la (i+1) S[i] (↑(wholeM x).snd:Int)) (show m-(i+1)<m-i from (by omega)) aS)
   rotate_left
   refine aG ?_
   refine ev_stop (go_appendE (sz:=1) (M:=[_]) (enc:=encS) Tryz.tbs_ok [1] [] (.inr 7) (M) ((wholeM x).fst) ((M)++((wholeM x).fst)) (z+(wholeM x).fst.length) rfl rfl rfl rfl rfl rfl rfl (by decide) rfl (by decide) (fun _ p=>starH_one.1 p) rfl (fun _ h=>Row.rd h) (by first | rfl | simp) (by first | rfl | omega) (aM (z+(wholeM x).fst.length)) (aN (z+(wholeM x).fst.length)) (fun _ _=>aL) (fun A73 c74 h75=>?_))
   refine aG ?_
   refine wN (i+1) ?_
   refine ev_fin (round_next ((i+1,A73,z+(wholeM x).fst.length,c74,M++(wholeM x).fst,cut,en)) (?_:i+1≤m∧z+(wholeM x).fst.length=(M++(wholeM x).fst).length∧z+(wholeM x).fst.length≤(i+1)*2000000∧M++(wholeM x).fst=payM (List.take (i+1) dat)∧cutAt t dat la (i+1) cut en) (show m-(i+1)<m-i from (by omega)) aS)
   rotate_left
   · exact absurd (by omega) (hno (whole_no (by omega)))
   · exact absurd (by omega) (hno (whole_no (by omega)))
   · refine ⟨by omega,by rw [List.length_append,hz],hzl,hst.symm,?_⟩
     have hi1:i+1=m:=by omega
     have ht1:0<t:=by omega
     have hc:S[i]=la:=by subst hS;rw [hla];exact seg_last ht1 (by omega) _
     rw [hc]
     exact cutAt_torn hgx (by omega) (whole_no (by omega))
   exact ⟨by omega,by rw [List.length_append,hz],hzl,hst.symm,cutAt_whole hup (by omega) hgx (whole_yes (by omega))⟩
 obtain rfl:i=m:=by omega
 rw [List.take_of_length_le (by omega)] at hM
 rw [←hM,←hz]
 rw [←hdl] at hup
 rcases cutAt_end hup with ⟨q1,q2,q3⟩ | ⟨q1,z',q2,q3⟩
 · subst q1 q2
   refine aG ?_
   refine aI ?_ (decide_eq_false (show ¬(↑i:Int)<(↑i:Int) from (by omega)))
   refine ev_fin (go Tryz.tbs_ok 1000 ?_)
   refine aC (T8 (b1) (x6) (x7)) [4] [] fun ⟨x100,x101⟩ h102=>?_
   refine aD (T9 (b1) (x100) (x101)) [2,4,0] [.inl 0] (fun v0_=>[.box (b1) 195 [vP q,vI D.starts,.bl false,vI ↑b,vI ↑t],.fact (DiskM q r.fst)]) fun _ h103=>?_
   refine aJ (aI (aI ?_))
   exact ev_fin ⟨trivial,_,rfl,((b1,C,e)),rfl,by trivial,aF [2,4,1]⟩
 rw [q3] at hc
 cases hc
theorem openOk (q:Nat) (D:DK) (hD:okD D) (h:(openD D).2.1=0):Triple Tryz.prog 152 [pP q] [DiskM q D] [TabA] (Nat × Option Addr × Nat) (fun (p,C,c)=>.tuple #[pP p,.slice C (openD D).2.2.2.length c,.int .i64 0]) (fun _=>True) (fun (p,C,c)=>[WalM p q (openD D).2.2.1,DiskM q (openD D).1,Row 9 1 C (openD D).2.2.2.length c ((openD D).2.2.2.flatMap encS)]):=by
 unfold openD at h ⊢
 cases hd:D.down with
 |
  true =>
  rw [hd,if_pos rfl] at h
  cases h
 |
  false =>
  rw [hd,if_neg (by decide)] at h
  rw [if_neg (by decide)]
  cases ho:okN (namesD D) with
  |
   false =>
   rw [ho,if_pos (.inl rfl)] at h
   cases h
  |
   true =>
   cases hs:okSeg (tailsM (namesD D)) (dataD D) with
   |
    false =>
    rw [hs,if_pos (.inr rfl)] at h
    cases h
   |
    true =>
    rw [ho,hs,if_neg (by decide)] at h
    rw [if_neg (by decide)]
    by_cases hr:(runD (remL (staleM (namesD D))) D).2=0
    · rw [if_neg (by simpa using hr)] at h ⊢
      cases hc:cutM (dataD D) with
      | none=>exact openWhole q D hD hd ho hs hr hc
      |
       some z =>
       rw [hc] at h
       exact openCut q D hD hd ho hs hr z hc _ rfl h
    rw [if_pos hr] at h
    exact absurd h hr
open Go.Sy Go.RowKit
def stoV (w:Nat) (x:StaS) (sure:Nat) (dirty:Bool):List SV:=vP w::(svG x.r0++(svG x.r1++(svG x.r2++(svG x.r3++[vL x.A x.F.length x.c,vI (sure:Nat),.bq dirty]))))
def StoP (p w:Nat) (x:StaS) (sure:Nat) (dirty:Bool):Asn:=Pt p 102 (SV.denL (stoV w x sure dirty))
theorem feedSt (p w:Nat) (x:StaS) (sure:Nat) (dirty:Bool) (hx:x.F.length≤100000):Triple Tryz.prog 29 [pP p] [StoP p w x sure dirty] [x.rd] Sl (fun (A',c')=>.tuple #[.slice A' x.F.length c',.int .i64 (sure:Nat)]) (fun (_,c')=>x.F.length≤c') (fun (A',c')=>[StoP p w x sure dirty,Row 112 2 A' x.F.length c' (x.F.flatMap encP)]):=by
 have T1:=(cloneP x.A x.F x.F.length x.c rfl hx).reads (N':=[x.rd]) (fun X hX=>by
  obtain rfl:=List.mem_singleton.1 hX
  exact ⟨_,List.mem_cons_self,fun _ q=>q.2.1⟩)
 refine triple_intro Tryz.tbs_ok Tryz.func29 rfl [.pt 0 p 0] [.box p 102 (stoV w x sure dirty)] ⟨rfl,trivial⟩ rfl (by simp [stoV,svG,SV.good,SV.goodL]) ?_
 intro E
 refine aG ?_
 refine ev_inline Tryz.tbs_ok Tryz.func61 rfl rfl ?_
 refine aG ?_
 refine ev_fin ⟨trivial,aL,_,rfl,?_⟩
 refine aG ?_
 refine ev_stop (go_draw Tryz.tbs_ok false [0] [(0,true),(1,true),(2,true),(3,true),(4,true),(6,true),(7,true),(8,true),(9,true),(5,false),(10,false),(11,false)] rfl ?_)
 refine aG (aE ?_)
 refine aC T1 [] [.inl 0] fun ⟨x0,x1⟩ h2=>?_
 refine aE (aE (aK ?_))
 exact ev_fin ⟨trivial,_,rfl,((x0,x1)),rfl,by trivial,aF [0,1]⟩
 all_goals skip
def SyncR (_w _q:Nat) (x:StaS) (sure:Nat) (dirty:Bool) (W:WK) (D:DK):(Nat × Bool) × (WK × DK) × Int :=
 if dirty=false then ((sure,dirty),(W,D),0) else if (syncW W D).2.2≠0 then ((sure,dirty),((syncW W D).1,(syncW W D).2.1),(syncW W D).2.2) else ((x.F.length,false),((syncW W D).1,(syncW W D).2.1),0)
theorem syncStT (p w q:Nat) (x:StaS) (sure:Nat) (dirty:Bool) (W:WK) (D:DK) (hD:okD D) (hW:okW W) :
 Triple Tryz.prog 24 [pP p] [StoP p w x sure dirty,WalM w q W,DiskM q D] [TabA] Unit (fun _=>.int .i64 (SyncR w q x sure dirty W D).2.2) (fun _=>True) (fun _=>[StoP p w x (SyncR w q x sure dirty W D).1.1 (SyncR w q x sure dirty W D).1.2,WalM w q (SyncR w q x sure dirty W D).2.1.1,DiskM q (SyncR w q x sure dirty W D).2.1.2]):=by
 have T1:=syncWT w q W D hD hW
 obtain ⟨R,hR⟩:∃ R,R=syncW W D:=⟨_,rfl⟩
 unfold SyncR
 rw [←hR] at T1 ⊢
 refine triple_intro Tryz.tbs_ok Tryz.func24 rfl [.pt 0 p 0] [.box p 102 (stoV w x sure dirty),.fact (WalM w q W),.fact (DiskM q D)] ⟨rfl,trivial⟩ rfl (by simp [stoV,svG,SV.good,SV.goodL]) ?_
 intro E
 cases dirty with
 | false =>
  refine go Tryz.tbs_ok 1000 ?_
  refine ev_inline Tryz.tbs_ok Tryz.func61 rfl rfl ?_
  refine aG ?_
  refine ev_fin ⟨trivial,aL,_,rfl,?_⟩
  refine aG (aJ ?_)
  exact ev_fin ⟨trivial,_,rfl,(),rfl,by trivial,aF [0,1,2]⟩
 |
  true =>
  rw [if_neg (show ¬ (true=false) by decide)]
  by_cases h:R.2.2=0
  · rw [if_neg (fun e=>e h)]
    rw [h] at T1
    refine aG ?_
    refine ev_inline Tryz.tbs_ok Tryz.func61 rfl rfl ?_
    refine aG ?_
    refine ev_fin ⟨trivial,aL,_,rfl,?_⟩
    refine aG (aI ?_)
    refine aC T1 [1,2] [.inl 0] fun _ h0=>?_
    refine aI ?_
    exact ev_fin ⟨trivial,_,rfl,(),rfl,by trivial,aF [0,1,2]⟩
    all_goals skip
  rw [if_pos h]
  refine aG ?_
  refine ev_inline Tryz.tbs_ok Tryz.func61 rfl rfl ?_
  refine aG ?_
  refine ev_fin ⟨trivial,aL,_,rfl,?_⟩
  refine aG (aI ?_)
  refine aC T1 [1,2] [.inl 0] fun _ h50=>?_
  refine aJ ?_ (ne_yes (by with_reducible assumption))
  exact ev_fin ⟨trivial,_,rfl,(),rfl,by trivial,aF [0,1,2]⟩
  all_goals skip
set_option maxHeartbeats 4000000 in
theorem mayT (x:RecS) (hl:x.r.L.length≤1000000) (hf:x.r.F.length≤1000000):Triple Tryz.prog 136 [.agg (encR x).toArray] [] [x.rdL,x.rdF] Unit (fun _=>.bool (mayR x.r)) (fun _=>True) (fun _=>[]):=by
 obtain ⟨⟨k,s,e,v,f,n,L,F⟩,A,a,B,b⟩:=x
 obtain ⟨m,hm⟩:∃ m,m=L.length:=⟨_,rfl⟩
 obtain ⟨q,hq⟩:∃ q,q=F.length:=⟨_,rfl⟩
 have T1:=fun f=>logT A L m a s f hm (by rw [hm];exact hl)
 have T2:=feedT B F q b hq (by rw [hq];exact hf)
 obtain ⟨g,hg⟩:∃ g,g=fun f=>logE L s f:=⟨_,rfl⟩
 obtain ⟨w,hw⟩:∃ w,w=feedE F:=⟨_,rfl⟩
 obtain ⟨M,hM⟩:∃ M,M=mayR ⟨k,s,e,v,f,n,L,F⟩:=⟨_,rfl⟩
 simp only [show ∀ f,logE L s f=g f from fun f=>by rw [hg]] at T1
 rw [←hw] at T2
 rw [←hM]
 unfold mayR at hM
 simp only [show ∀ f,logE L s f=g f from fun f=>by rw [hg],←hw,←hm,←hq] at hM
 simp only [show (q=0)=(¬ (q:Int) > 0) from propext (by omega),show (m=0)=((m:Int)=0) from propext (by omega)] at hM
 unfold RecS.rdL RecS.rdF encR
 simp only [←hm,←hq]
 refine aT Tryz.func136 [.ag [vI k,vI s,vI e,vI v,vI f,vI n,vL A m a,vL B q b]] [] (fun E=>?_) ⟨⟨trivial,trivial,trivial,trivial,trivial,trivial,trivial,trivial,trivial⟩,trivial⟩
 refine aG ?_
 refine ev_new fun b0=>?_
 refine ev_inline Tryz.tbs_ok Tryz.func184 rfl rfl ?_
 refine aG ?_
 refine ev_if_lt (fun h1=>?_) (fun h1=>?_)
 refine aG ?_
 refine ev_fin ⟨trivial,aL,_,rfl,?_⟩
 refine aG ?_
 refine ev_if_nd (fun h2=>?_) (fun h2=>?_)
 refine aG ?_
 refine ev_fin ⟨trivial,_,rfl,(()),?_,(by trivial),Frm.nil _⟩
 rotate_left
 refine aG ?_
 refine ev_if_ne (fun h3=>?_) (fun h3=>?_)
 refine aG ?_
 refine ev_if_lt (fun h4=>?_) (fun h4=>?_)
 refine aG ?_
 refine ev_fin ⟨trivial,_,rfl,(()),?_,(by trivial),Frm.nil _⟩
 rotate_left
 refine aG ?_
 refine ev_stop (go_draw Tryz.tbs_ok false [0] [(0,true),(1,true),(2,true),(3,true),(4,true),(5,false),(6,false),(7,false)] rfl ?_)
 refine aG (aE ?_)
 refine ev_new fun b5=>?_
 refine aE (aE (aK ?_))
 refine ev_if_eq (fun h6=>?_) (fun h6=>?_)
 refine aG ?_
 refine ev_inline Tryz.tbs_ok Tryz.func174 rfl rfl ?_
 refine aG ?_
 refine ev_if_lt (fun h7=>?_) (fun h7=>?_)
 refine aG ?_
 refine ev_fin ⟨trivial,aL,_,rfl,?_⟩
 refine aG ?_
 refine ev_if_lt (fun h8=>?_) (fun h8=>?_)
 refine aG ?_
 refine ev_if_eq (fun h9=>?_) (fun h9=>?_)
 refine aG ?_
 refine ev_inline Tryz.tbs_ok Tryz.func185 rfl rfl ?_
 refine aG ?_
 refine ev_new fun b10=>?_
 refine aJ ?_
 refine ev_if_eq (fun h11=>?_) (fun h11=>?_)
 refine aG ?_
 refine ev_if_eq (fun h12=>?_) (fun h12=>?_)
 refine aG ?_
 refine ev_fin ⟨trivial,aL,_,rfl,?_⟩
 refine aG ?_
 refine ev_fin ⟨trivial,_,rfl,(()),?_,(by trivial),Frm.nil _⟩
 rotate_left
 refine aG ?_
 refine ev_fin ⟨trivial,aL,_,rfl,?_⟩
 refine aG ?_
 refine ev_fin ⟨trivial,_,rfl,(()),?_,(by trivial),Frm.nil _⟩
 rotate_left
 refine aG ?_
 refine ev_fin ⟨trivial,aL,_,rfl,?_⟩
 refine aG ?_
 refine ev_fin ⟨trivial,_,rfl,(()),?_,(by trivial),Frm.nil _⟩
 rotate_left
 refine aG ?_
 refine ev_fin ⟨trivial,_,rfl,(()),?_,(by trivial),Frm.nil _⟩
 rotate_left
 refine aG ?_
 refine ev_fin ⟨trivial,_,rfl,(()),?_,(by trivial),Frm.nil _⟩
 rotate_left
 refine aG ?_
 refine ev_fin ⟨trivial,aL,_,rfl,?_⟩
 refine aG ?_
 refine ev_fin ⟨trivial,_,rfl,(()),?_,(by trivial),Frm.nil _⟩
 rotate_left
 refine aG ?_
 refine ev_if_eq (fun h13=>?_) (fun h13=>?_)
 refine aG ?_
 refine ev_inline Tryz.tbs_ok Tryz.func174 rfl rfl ?_
 refine aG ?_
 refine ev_if_lt (fun h14=>?_) (fun h14=>?_)
 refine aG ?_
 refine ev_fin ⟨trivial,aL,_,rfl,?_⟩
 refine aG ?_
 refine ev_if_lt (fun h15=>?_) (fun h15=>?_)
 refine aG ?_
 refine aC (T1 (f)) [] [.inl 0] fun _ h16=>?_
 refine ev_if (fun h17=>?_) (fun h17=>?_)
 refine aG ?_
 refine ev_inline Tryz.tbs_ok Tryz.func185 rfl rfl ?_
 refine aG ?_
 refine ev_new fun b18=>?_
 refine aJ ?_
 refine ev_if_eq (fun h19=>?_) (fun h19=>?_)
 refine aG (aJ ?_)
 refine ev_fin ⟨trivial,aL,_,rfl,?_⟩
 refine aG ?_
 refine ev_fin ⟨trivial,_,rfl,(()),?_,(by trivial),Frm.nil _⟩
 rotate_left
 refine aG ?_
 refine ev_fin ⟨trivial,aL,_,rfl,?_⟩
 refine aG ?_
 refine ev_fin ⟨trivial,_,rfl,(()),?_,(by trivial),Frm.nil _⟩
 rotate_left
 refine aG ?_
 refine ev_fin ⟨trivial,_,rfl,(()),?_,(by trivial),Frm.nil _⟩
 rotate_left
 refine aG ?_
 refine ev_fin ⟨trivial,_,rfl,(()),?_,(by trivial),Frm.nil _⟩
 rotate_left
 refine aG ?_
 refine ev_fin ⟨trivial,aL,_,rfl,?_⟩
 refine aG ?_
 refine ev_fin ⟨trivial,_,rfl,(()),?_,(by trivial),Frm.nil _⟩
 rotate_left
 refine aG ?_
 refine ev_if_eq (fun h20=>?_) (fun h20=>?_)
 refine aG ?_
 refine ev_inline Tryz.tbs_ok Tryz.func171 rfl rfl ?_
 refine aG ?_
 refine ev_if_lt (fun h21=>?_) (fun h21=>?_)
 refine aG ?_
 refine ev_fin ⟨trivial,aL,_,rfl,?_⟩
 refine aG ?_
 refine ev_if_lt (fun h22=>?_) (fun h22=>?_)
 refine aG ?_
 refine ev_if_eq (fun h23=>?_) (fun h23=>?_)
 refine aG ?_
 refine ev_inline Tryz.tbs_ok Tryz.func185 rfl rfl ?_
 refine aG ?_
 refine ev_new fun b24=>?_
 refine ev_if_eq (fun h25=>?_) (fun h25=>?_)
 refine aG ?_
 refine ev_if_eq (fun h26=>?_) (fun h26=>?_)
 refine aG ?_
 refine ev_if_eq (fun h27=>?_) (fun h27=>?_)
 refine aG ?_
 refine ev_fin ⟨trivial,aL,_,rfl,?_⟩
 refine aG ?_
 refine ev_fin ⟨trivial,_,rfl,(()),?_,(by trivial),Frm.nil _⟩
 rotate_left
 refine aG ?_
 refine ev_fin ⟨trivial,aL,_,rfl,?_⟩
 refine aG ?_
 refine ev_fin ⟨trivial,_,rfl,(()),?_,(by trivial),Frm.nil _⟩
 rotate_left
 refine aG ?_
 refine ev_fin ⟨trivial,aL,_,rfl,?_⟩
 refine aG ?_
 refine ev_fin ⟨trivial,_,rfl,(()),?_,(by trivial),Frm.nil _⟩
 rotate_left
 refine aG ?_
 refine ev_fin ⟨trivial,aL,_,rfl,?_⟩
 refine aG ?_
 refine ev_fin ⟨trivial,_,rfl,(()),?_,(by trivial),Frm.nil _⟩
 rotate_left
 refine aG ?_
 refine ev_fin ⟨trivial,_,rfl,(()),?_,(by trivial),Frm.nil _⟩
 rotate_left
 refine aG ?_
 refine ev_fin ⟨trivial,_,rfl,(()),?_,(by trivial),Frm.nil _⟩
 rotate_left
 refine aG ?_
 refine ev_fin ⟨trivial,aL,_,rfl,?_⟩
 refine aG ?_
 refine ev_fin ⟨trivial,_,rfl,(()),?_,(by trivial),Frm.nil _⟩
 rotate_left
 refine aG ?_
 refine ev_if_eq (fun h28=>?_) (fun h28=>?_)
 refine aG ?_
 refine ev_inline Tryz.tbs_ok Tryz.func174 rfl rfl ?_
 refine aG ?_
 refine ev_if_lt (fun h29=>?_) (fun h29=>?_)
 refine aG ?_
 refine ev_fin ⟨trivial,aL,_,rfl,?_⟩
 refine aG ?_
 refine ev_if_lt (fun h30=>?_) (fun h30=>?_)
 refine aG ?_
 refine ev_inline Tryz.tbs_ok Tryz.func174 rfl rfl ?_
 refine aG ?_
 refine ev_if_lt (fun h31=>?_) (fun h31=>?_)
 refine aG ?_
 refine ev_fin ⟨trivial,aL,_,rfl,?_⟩
 refine aG ?_
 refine ev_if_lt (fun h32=>?_) (fun h32=>?_)
 refine aG ?_
 refine aC (T1 (0)) [] [.inl 0] fun _ h33=>?_
 refine ev_if (fun h34=>?_) (fun h34=>?_)
 refine aG ?_
 refine ev_if_lt (fun h35=>?_) (fun h35=>?_)
 refine aG ?_
 refine ev_if_lt (fun h36=>?_) (fun h36=>?_)
 refine aG ?_
 refine ev_inline Tryz.tbs_ok Tryz.func185 rfl rfl ?_
 refine aG ?_
 refine ev_new fun b37=>?_
 refine aJ (aJ ?_)
 refine ev_if_eq (fun h38=>?_) (fun h38=>?_)
 refine aG ?_
 refine ev_fin ⟨trivial,aL,_,rfl,?_⟩
 refine aG ?_
 refine ev_fin ⟨trivial,_,rfl,(()),?_,(by trivial),Frm.nil _⟩
 rotate_left
 refine aG ?_
 refine ev_fin ⟨trivial,aL,_,rfl,?_⟩
 refine aG ?_
 refine ev_fin ⟨trivial,_,rfl,(()),?_,(by trivial),Frm.nil _⟩
 rotate_left
 refine aG ?_
 refine ev_fin ⟨trivial,_,rfl,(()),?_,(by trivial),Frm.nil _⟩
 rotate_left
 refine aG ?_
 refine ev_fin ⟨trivial,_,rfl,(()),?_,(by trivial),Frm.nil _⟩
 rotate_left
 refine aG ?_
 refine ev_fin ⟨trivial,_,rfl,(()),?_,(by trivial),Frm.nil _⟩
 rotate_left
 refine aG ?_
 refine ev_fin ⟨trivial,_,rfl,(()),?_,(by trivial),Frm.nil _⟩
 rotate_left
 refine aG ?_
 refine ev_fin ⟨trivial,aL,_,rfl,?_⟩
 refine aG ?_
 refine ev_fin ⟨trivial,_,rfl,(()),?_,(by trivial),Frm.nil _⟩
 rotate_left
 refine aG ?_
 refine ev_fin ⟨trivial,_,rfl,(()),?_,(by trivial),Frm.nil _⟩
 rotate_left
 refine aG ?_
 refine ev_fin ⟨trivial,aL,_,rfl,?_⟩
 refine aG ?_
 refine ev_fin ⟨trivial,_,rfl,(()),?_,(by trivial),Frm.nil _⟩
 rotate_left
 refine aG ?_
 refine aI ?_ (beq_eq_false_iff_ne.2 (by with_reducible assumption))
 refine ev_fin ⟨trivial,_,rfl,(()),?_,(by trivial),Frm.nil _⟩
 rotate_left
 refine aG ?_
 refine ev_stop (go_draw Tryz.tbs_ok false [0] [(0,true),(1,true),(2,true),(3,true),(4,true),(5,false),(6,false),(7,false)] rfl ?_)
 refine aG (aE ?_)
 refine ev_new fun b39=>?_
 refine aE (aE (aK ?_))
 refine aI ?_ (beq_eq_false_iff_ne.2 (show ¬k=1 from (by omega)))
 refine aI ?_ (beq_eq_false_iff_ne.2 (show ¬k=2 from (by omega)))
 refine aI ?_ (beq_eq_false_iff_ne.2 (show ¬k=3 from (by omega)))
 refine aI ?_ (beq_eq_false_iff_ne.2 (show ¬k=4 from (by omega)))
 refine aJ ?_ (beq_iff_eq.2 (by with_reducible assumption))
 refine ev_if_eq (fun h40=>?_) (fun h40=>?_)
 refine aG ?_
 refine ev_if_eq (fun h41=>?_) (fun h41=>?_)
 refine aG ?_
 refine aC T2 [] [.inl 1] fun _ h42=>?_
 refine ev_if (fun h43=>?_) (fun h43=>?_)
 refine aG ?_
 refine ev_inline Tryz.tbs_ok Tryz.func185 rfl rfl ?_
 refine aG ?_
 refine ev_new fun b44=>?_
 refine ev_if_eq (fun h45=>?_) (fun h45=>?_)
 refine aG ?_
 refine ev_if_eq (fun h46=>?_) (fun h46=>?_)
 refine aG ?_
 refine ev_if_eq (fun h47=>?_) (fun h47=>?_)
 refine aG ?_
 refine ev_fin ⟨trivial,aL,_,rfl,?_⟩
 refine aG ?_
 refine ev_fin ⟨trivial,_,rfl,(()),?_,(by trivial),Frm.nil _⟩
 rotate_left
 refine aG ?_
 refine ev_fin ⟨trivial,aL,_,rfl,?_⟩
 refine aG ?_
 refine ev_fin ⟨trivial,_,rfl,(()),?_,(by trivial),Frm.nil _⟩
 rotate_left
 refine aG ?_
 refine ev_fin ⟨trivial,aL,_,rfl,?_⟩
 refine aG ?_
 refine ev_fin ⟨trivial,_,rfl,(()),?_,(by trivial),Frm.nil _⟩
 rotate_left
 refine aG ?_
 refine ev_fin ⟨trivial,aL,_,rfl,?_⟩
 refine aG ?_
 refine ev_fin ⟨trivial,_,rfl,(()),?_,(by trivial),Frm.nil _⟩
 rotate_left
 refine aG ?_
 refine ev_fin ⟨trivial,_,rfl,(()),?_,(by trivial),Frm.nil _⟩
 rotate_left
 refine aG ?_
 refine ev_fin ⟨trivial,_,rfl,(()),?_,(by trivial),Frm.nil _⟩
 rotate_left
 refine aG ?_
 refine ev_fin ⟨trivial,_,rfl,(()),?_,(by trivial),Frm.nil _⟩
 rotate_left
 refine aG ?_
 refine ev_fin ⟨trivial,aL,_,rfl,?_⟩
 refine aG ?_
 refine ev_fin ⟨trivial,_,rfl,(()),?_,(by trivial),Frm.nil _⟩
 rotate_left
 all_goals (show Value.bool _=Value.bool M;congr 1;clear T1 T2 hw hg hm hq hl hf;first | grind | (rw [hM];simp [*];first | rfl | omega) | (rw [hM];simp [*];done))
def recB (x:Rec):ByteArray:=⟨(recL x).toArray⟩
theorem encBad (x:RecS) (hl:x.r.L.length≤1000000) (hf:x.r.F.length≤1000000) (h:mayR x.r=false):Triple Tryz.prog 100 [.agg (encR x).toArray] [] [x.rdL,x.rdF] Unit (fun _=>.tuple #[.string .empty,.int .i64 2]) (fun _=>True) (fun _=>[]):=by
 have T1:=mayT x hl hf
 rw [h] at T1
 obtain ⟨⟨k,s,e,v,f,n,L,F⟩,A,a,B,b⟩:=x
 refine aT Tryz.func100 [.ag [vI k,vI s,vI e,vI v,vI f,vI n,vL A L.length a,vL B F.length b]] [] (fun E=>?_) ⟨⟨trivial,trivial,trivial,trivial,trivial,trivial,trivial,trivial,trivial⟩,trivial⟩
 refine aG ?_
 refine ev_new fun b0=>?_
 refine aC T1 [] [.inl 0,.inl 1] fun _ h1=>?_
 refine aJ ?_
 refine ev_fin ⟨trivial,_,rfl,(()),rfl,(by trivial),Frm.nil _⟩
theorem encGood (x:RecS) (h:mayR x.r=true):Triple Tryz.prog 100 [.agg (encR x).toArray] [] [x.rdL,x.rdF] Unit (fun _=>.tuple #[.string (recB x.r),.int .i64 0]) (fun _=>True) (fun _=>[]):=by
 have hs:=small_of_may h
 have hl:=hs.len
 have hf:=hs.flen
 have T1:=mayT x (by omega) (by omega)
 rw [h] at T1
 have hi:=hs.ints
 have he:=hs.ents
 have hp:=hs.feed
 have hb:=hs.len_le
 obtain ⟨⟨k,s,e,v,f,n,L,F⟩,A,a,B,b⟩:=x
 simp only at hl hf he hp hb
 have T2:=fun q=>intsP none [] [k,s,e,v,f,n] 0 q 3 6 rfl (Nat.zero_le _) (by decide) hi
 obtain ⟨B1,hB1⟩:∃ B1,B1=intsL [k,s,e,v,f,n]:=⟨_,rfl⟩
 obtain ⟨B2,hB2⟩:∃ B2,B2=B1++(intsL [(L.length:Int)]++entsL L):=⟨_,rfl⟩
 obtain ⟨B3,hB3⟩:∃ B3,B3=B2++(intsL [(F.length:Int)]++sptsL F):=⟨_,rfl⟩
 have hR:recB ⟨k,s,e,v,f,n,L,F⟩=⟨B3.toArray⟩:=by
  unfold recB recL
  rw [hB3,hB2,hB1]
  simp only [Rec.ints,List.append_assoc]
 have hz:B3.length≤10000:=by
  have:recL ⟨k,s,e,v,f,n,L,F⟩=B3:=by
   unfold recL
   rw [hB3,hB2,hB1]
   simp only [Rec.ints,List.append_assoc]
  rw [this] at hb
  skip
  omega
 have hz2:B2.length≤10000:=by rw [hB3,List.length_append] at hz;omega
 have hz1:B1.length≤10000:=by rw [hB2,List.length_append] at hz2;omega
 rw [List.nil_append,←hB1] at T2
 have T3:=fun C c=>listE C A B1 L c L.length a rfl hz1 (by omega) (fun y hy=>ent_i5 ⟨(he y hy).1,(he y hy).2.1⟩ (he y hy).2.2.2)
 rw [←hB2] at T3
 have T4:=fun C c=>listP C B B2 F c F.length b rfl hz2 (by omega) (fun y hy=>spt_i5 (hp y hy))
 rw [←hB3] at T4
 rw [hR]
 refine aT Tryz.func100 [.ag [vI k,vI s,vI e,vI v,vI f,vI n,vL A L.length a,vL B F.length b]] [] (fun E=>?_) ⟨⟨trivial,trivial,trivial,trivial,trivial,trivial,trivial,trivial,trivial⟩,trivial⟩
 refine go_fact (ByA none 0 []) (Row.nilE _ _) ?_
 refine aG ?_
 refine ev_new fun b0=>?_
 refine aC T1 [] [.inl 0,.inl 1] fun _ h1=>?_
 refine aI ?_
 refine ev_new fun b2=>?_
 refine aC (T2 (b2)) [0] [.inr 2] fun ⟨x3,x4⟩ h5=>?_
 refine aC (T3 (x3) (x4)) [0] [.inl 0] fun ⟨x6,x7⟩ h8=>?_
 refine aC (T4 (x6) (x7)) [0] [.inl 1] fun ⟨x9,x10⟩ h11=>?_
 refine ev_stop (go_stringOf Tryz.tbs_ok (B3) (.inr 0) rfl rfl rfl rfl rfl rfl rfl (by first | rfl | omega | (simp;omega)) (fun _ h=>Row.rd h) ?_)
 refine aG ?_
 refine ev_fin ⟨trivial,_,rfl,(()),rfl,(by trivial),Frm.nil _⟩
structure GetIs (s:ByteArray) (a:Nat) (v:Int) (b:Nat):Prop where
 lt:a≤s.size
 le:b≤s.size
 get:getM s.data.toList a=(v,b,true)
def Reads (s:ByteArray):Nat→List Int→Nat→Prop
 | a,[],b=>a=b∧b≤s.size
 | a,v::l,b=>∃ c,GetIs s a v c∧Reads s c l b
theorem reads_of {s:ByteArray}:∀ {vs:List Int} {a:Nat} {r:List UInt8},(∀ v∈vs,i5 v)→a≤s.size→s.data.toList.drop a=intsL vs++r→Reads s a vs (a+(intsL vs).length)∧s.data.toList.drop (a+(intsL vs).length)=r∧a+(intsL vs).length≤s.size
 | [],a,r,_,ha,h=>⟨⟨rfl,ha⟩,h,ha⟩
 |
  v::l,a,r,hv,ha,h=>by
  have h1:=hv v List.mem_cons_self
  rw [intsL_cons,List.append_assoc] at h
  have hg:=get_zz (n:=v) (by unfold i5 at h1;omega) (by unfold i5 at h1;omega) (intsL l++r)
  rw [←h] at hg
  have hd:s.data.toList.drop (a+(putL (zz v)).length)=intsL l++r:=by rw [←List.drop_drop,h,List.drop_left]
  have hlen:a+(putL (zz v)).length≤s.size:=by
   have:=congrArg List.length h
   rw [List.length_drop,size_data,List.length_append] at this
   have:=putL_pos (zz v)
   omega
  obtain ⟨q1,q2,q3⟩:=reads_of (vs:=l) (fun w hw=>hv w (List.mem_cons_of_mem _ hw)) hlen hd
  rw [intsL_cons,List.length_append,←Nat.add_assoc]
  exact ⟨⟨_,⟨ha,hlen,by rw [getM_some hg,zig_zz]⟩,q1⟩,q2,q3⟩
theorem getIsT {s:ByteArray} {a b:Nat} {v:Int} (h:GetIs s a v b) (hs:s.size≤1000000000):Triple Tryz.prog 257 [.string s,.int .i64 (a:Int)] [] [] Unit (fun _=>.tuple #[.int .i64 v,.int .i64 (b:Nat),.bool true]) (fun _=>True) (fun _=>[]):=by
 have T:=mgetT s a hs h.lt
 rw [h.get] at T
 exact T
theorem Reads.le {s:ByteArray}:∀ {vs:List Int} {a b:Nat},Reads s a vs b→a≤s.size
 | [],_,_,h=>by rw [h.1];exact h.2
 | _::_,_,_,⟨_,g,_⟩=>g.lt
def encQ (b:Nat) (o:Nat):List Value:=[.pointer (some ⟨b,o,none⟩)]
def rdC (s:ByteArray) (a:Nat):List Value:=[.string s,.int .i64 (a:Int),.bool false]
theorem over_next (vs:List Int) (cs:List Value) (i:Nat) (h:i<vs.length):over ((vs.take i).flatMap encN++cs.drop i) i [.int .i64 vs[i]]=(vs.take (i+1)).flatMap encN++cs.drop (i+1):=by
 have hl:((vs.take i).flatMap encN).length=i:=by rw [flat_len (sz:=1) (fun _=>rfl),List.length_take];omega
 unfold over
 rw [List.take_left' hl,←List.take_append_getElem h,List.flatMap_append,List.drop_append,List.drop_eq_nil_of_le (by rw [hl];simp),hl,List.nil_append,List.drop_drop]
 simp [encN]
theorem readInts (rd b lt t:Nat) (s:ByteArray) (a a' k:Nat) (vs:List Int) (cs:List Value) (hR:Reads s a vs a') (hs:s.size≤1000000000) (hk:k=vs.length) (hcs:k≤cs.length) (hone:∀ c∈cs,c.oneCell'=true) (hk1:k≤1000) :
 Triple Tryz.prog 215 [pP rd,.slice (some ⟨lt,0,none⟩) k k] [Pt rd 300 (rdC s a),Pt b t cs] [Pt lt 138 ((List.range k).flatMap (encQ b))] Unit (fun _=>.tuple #[]) (fun _=>True)
  (fun _=>[Pt rd 300 (rdC s a'),Pt b t (vs.flatMap encN++cs.drop k)]):=by
 refine aT Tryz.func215 [.pt 0 rd 0,vL (some ⟨lt,0,none⟩) k k] [.box rd 300 [.va (.string s),vI (a:Int),.bq false],.fact (Pt b t cs)] (fun E=>?_) ⟨rfl,trivial,trivial⟩
 refine go_more 0 (Pt lt 138 ((List.range k).flatMap (encQ b))) (Rd 1 (some ⟨lt,0,none⟩) k ((List.range k).flatMap (encQ b))) rfl (fun h p=>?_) ?_
 · have:=rd_pt p
   rw [show ((List.range k).flatMap (encQ b)).length=k by rw [flat_len (sz:=1) (fun _=>rfl),Nat.mul_one,List.length_range]] at this
   exact this
 refine go_turn (X:=Unit) 1 (Pt b t cs) (fun _=>Blk b t cs) rfl (fun h p=>⟨(),p.1⟩) fun _=>?_
 refine aG ?_
 refine ev_stop (go_loopR [5,6,7,8,11,12,13,14,15,16,17,18,19,20,21,22,23,24,25,26,27,28,29,30,31,32,33,34,35,36,37,38,39,40,41,42,43,44,45,46,47,48,49,50] (fun (i,_)=>[(11,vI (i:Nat))]) (fun (i,c,z)=>[(0,.box rd 300 [.va (.string s),vI (c:Int),.bq z]),(1,.fact (Blk b t ((vs.take i).flatMap encN++cs.drop i)))]) (fun (i,c,z)=>i≤k∧z=false∧Reads s c (vs.drop i) a'∧c≤s.size) (fun (i,_)=>k-i) ((0,a,false):Nat × Nat × Bool) ⟨Nat.zero_le _,rfl,hR,hR.le⟩ aS (fun x_ h_=>?_))
 obtain ⟨i,c,z⟩:=x_
 obtain ⟨hi,hz,hc,hcl⟩:=h_
 rcases Nat.lt_or_ge i k with hik | hik
 · have hil:i<vs.length:=by omega
   rw [List.drop_eq_getElem_cons hil] at hc
   obtain ⟨c2,hg,hr⟩:=hc
   have T1:=getIsT hg hs
   have hrl:(List.range k).length=k:=List.length_range
   refine aG ?_
   refine aJ ?_ (decide_eq_true (show (↑i:Int)<(↑k:Int) from (by omega)))
   refine ev_stop (go_atE (sz:=1) Tryz.tbs_ok (i) rfl rfl rfl rfl rfl rfl (by omega) ?_)
   refine aG ?_
   have l10:i<(List.range k).length:=(by omega)
   refine ev_stop (go_loadE Tryz.tbs_ok (.inl 1) (i) 0 rfl rfl rfl rfl (fun _ h=>h) (by omega) (fun _=>rfl) (by omega) l10 (by decide) ?_)
   refine aG ?_
   refine ev_stop (go_draw Tryz.tbs_ok false [0] [(0,true),(1,true),(2,true),(3,true),(4,true),(5,true),(6,true),(7,true),(8,false),(9,false),(10,true),(11,true),(12,true),(13,false),(14,false),(15,false)] rfl ?_)
   refine aG (aE ?_)
   refine aC T1 [] [] fun _ h11=>?_
   refine aE (aE (aE (aE (aK ?_))))
   refine aI ?_ (by assumption)
   refine aI ?_
   refine ev_stop (go_store Tryz.tbs_ok 1 b t ((List.range k)[i]) ((vs.take i).flatMap encN++cs.drop i) [.int .i64 vs[i]] _ rfl rfl rfl rfl rfl rfl (by simp [Value.oneCell']) rfl ?_ aL ?_)
   · rw [List.getElem_range,List.length_append,flat_len (sz:=1) (fun _=>rfl),List.length_take,List.length_drop,List.length_singleton]
     omega
   refine go_turn (X:=Unit) 1 _ (fun _=>Blk b t ((vs.take (i+1)).flatMap encN++cs.drop (i+1))) rfl (fun h p=>⟨(),by rw [List.getElem_range,over_next vs cs i hil] at p;exact p⟩) fun _=>?_
   refine aG ?_
   refine wN (i+1) ?_
   refine ev_fin (round_next ((i+1,c2,!true)) (?_:i+1≤k∧(!true)=false∧Reads s c2 (List.drop (i+1) vs) a'∧c2≤s.size) (show k-(i+1)<k-i from (by omega)) aS)
   exact ⟨by omega,rfl,hr,hr.le⟩
 obtain rfl:i=k:=by omega
 subst hz
 have htk:vs.take i=vs:=List.take_of_length_le (by omega)
 have hca:c=a':=by rw [List.drop_of_length_le (by omega)] at hc;exact hc.1
 subst hca
 refine go_turn (X:=Unit) 1 _ (fun _=>Pt b t (vs.flatMap encN++cs.drop i)) rfl (fun h p=>⟨(),by rw [htk] at p;exact p,fun v hv=>?_⟩) fun _=>?_
 · rcases List.mem_append.1 hv with hv | hv
   · obtain ⟨z,_,hz⟩:=List.mem_flatMap.1 hv
     rw [List.mem_singleton.1 hz];rfl
   exact hone v (List.mem_of_mem_drop hv)
 refine aG ?_
 refine aI ?_ (decide_eq_false (show ¬(↑i:Int)<(↑i:Int) from (by omega)))
 refine ev_fin (go Tryz.tbs_ok 1000 ?_)
 exact ev_fin ⟨trivial,_,rfl,(),rfl,by trivial,aF [0,1]⟩
theorem Reads.split {s:ByteArray}:∀ {l m:List Int} {a b:Nat},Reads s a (l++m) b→∃ c,Reads s a l c∧Reads s c m b
 | [],_,a,_,h=>⟨a,⟨rfl,h.le⟩,h⟩
 | _::l,_,_,_,⟨c,g,h⟩=>let ⟨d,h1,h2⟩:=Reads.split (l:=l) h;⟨d,⟨c,g,h1⟩,h2⟩
abbrev z0:Value:=.int .i64 0
theorem orderR (rd:Nat) (s:ByteArray) (a a':Nat) (x:Ent) (hR:Reads s a x.ord a') (hs:s.size≤1000000000) :
 Triple Tryz.prog 258 [pP rd] [Pt rd 300 (rdC s a)] [] Unit (fun _=>.agg (encO x).toArray) (fun _=>True) (fun _=>[Pt rd 300 (rdC s a')]):=by
 obtain ⟨e,id,st,ex,k,g⟩:=x
 have T1:=fun b lt=>readInts rd b lt 23 s a a' 5 [id,st,ex,k,g] [z0,z0,z0,z0,z0] hR hs rfl (by decide) (by decide) (by decide)
 refine aT Tryz.func258 [.pt 0 rd 0] [.box rd 300 [.va (.string s),vI (a:Int),.bq false]] (fun E=>?_) ⟨rfl,trivial⟩
 refine aG ?_
 refine ev_new fun b0=>?_
 refine ev_new fun b1=>?_
 refine aD (T1 (b0) (b1)) [0,1] [.inr 2] (fun v0_=>[.box (rd) 300 [.va (Value.string s),vI ↑a',.bl false],.box (b0) 23 [vI id,vI st,vI ex,vI k,vI g]]) fun _ h2=>?_
 exact ev_fin ⟨trivial,_,rfl,(),rfl,by trivial,aF [0]⟩
theorem entryR (rd:Nat) (s:ByteArray) (a a':Nat) (x:Ent) (hR:Reads s a x.ints a') (hs:s.size≤1000000000) :
 Triple Tryz.prog 217 [pP rd] [Pt rd 300 (rdC s a)] [] Unit (fun _=>.agg (encE x).toArray) (fun _=>True) (fun _=>[Pt rd 300 (rdC s a')]):=by
 obtain ⟨c,h1,h2⟩:=Reads.split (l:=[x.e]) (m:=x.ord) hR
 have T2:=orderR rd s c a' x h2 hs
 obtain ⟨e,id,st,ex,k,g⟩:=x
 have T1:=fun b lt=>readInts rd b lt 127 s a c 1 [e] [z0,z0,z0,z0,z0,z0] h1 hs rfl (by decide) (by decide) (by decide)
 refine aT Tryz.func217 [.pt 0 rd 0] [.box rd 300 [.va (.string s),vI (a:Int),.bq false]] (fun E=>?_) ⟨rfl,trivial⟩
 refine aG ?_
 refine ev_new fun b0=>?_
 refine ev_new fun b1=>?_
 refine aD (T1 (b0) (b1)) [0,1] [.inr 2] (fun v0_=>[.box (rd) 300 [.va (Value.string s),vI ↑c,.bl false],.box (b0) 127 [vI e,vI 0,vI 0,vI 0,vI 0,vI 0]]) fun _ h2=>?_
 refine aD T2 [0] [] (fun v0_=>[.box (rd) 300 [.va (Value.string s),vI ↑a',.bl false]]) fun _ h3=>?_
 exact ev_fin ⟨trivial,_,rfl,(),rfl,by trivial,aF [0]⟩
theorem spotR (rd pb:Nat) (s:ByteArray) (a a':Nat) (x:Spt) (hR:Reads s a x.ints a') (hs:s.size≤1000000000) :
 Triple Tryz.prog 219 [pP pb] [Pt rd 300 (rdC s a),Pt pb 298 [pP rd]] [] Unit (fun _=>.agg (encP x).toArray) (fun _=>True) (fun _=>[Pt rd 300 (rdC s a'),Pt pb 298 [pP rd]]):=by
 obtain ⟨u,i⟩:=x
 have T1:=fun b lt=>readInts rd b lt 112 s a a' 2 [u,i] [z0,z0] hR hs rfl (by decide) (by decide) (by decide)
 refine aT Tryz.func219 [.pt 1 pb 0] [.box rd 300 [.va (.string s),vI (a:Int),.bq false],.box pb 298 [.pt 0 rd 0]] (fun E=>?_) ⟨rfl,trivial⟩
 refine aG ?_
 refine ev_new fun b0=>?_
 refine ev_new fun b1=>?_
 refine aD (T1 (b0) (b1)) [0,2] [.inr 3] (fun v0_=>[.box (rd) 300 [.va (Value.string s),vI ↑a',.bl false],.box (b0) 112 [vI u,vI i]]) fun _ h2=>?_
 exact ev_fin ⟨trivial,_,rfl,(),rfl,by trivial,aF [0,1]⟩
theorem readE (rd:Nat) (s:ByteArray) (a a1 a2:Nat) (L:List Ent) (h1:Reads s a [(L.length:Int)] a1) (hr2:Reads s a1 (L.flatMap Ent.ints) a2) (hl:L.length≤1000) (hs:s.size≤1000000000) :
 Triple Tryz.prog 216 [pP rd,.func (.func 217) #[pP rd] #[]] [Pt rd 300 (rdC s a)] [] Sl (fun (A',c')=>.slice A' L.length c') (fun _=>True) (fun (A',c')=>[Pt rd 300 (rdC s a2),Row 127 6 A' L.length c' (L.flatMap encE)]):=by
 have T1:=fun b lt=>readInts rd b lt 3 s a a1 1 [(L.length:Int)] [z0] h1 hs rfl (by decide) (by decide) (by decide)
 obtain ⟨m,hm⟩:∃ m,m=L.length:=⟨_,rfl⟩
 rw [←hm] at T1 hl ⊢
 refine aT Tryz.func216 [.pt 0 rd 0,.fu (.func 217) [.pt 0 rd 0] []] [.box rd 300 [.va (.string s),vI (a:Int),.bq false]] (fun E=>?_) ⟨rfl,⟨⟨rfl,trivial⟩,trivial⟩,trivial⟩
 refine go_fact (Row 127 6 none 0 0 (([]:List Ent).flatMap encE)) (Row.nilE _ _) ?_
 refine aG ?_
 refine ev_new fun b0=>?_
 refine ev_new fun b1=>?_
 refine aD (T1 (b0) (b1)) [0,2] [.inr 3] (fun v0_=>[.box (rd) 300 [.va (Value.string s),vI ↑a1,.bl false],.box (b0) 3 [vI ↑m]]) fun _ h2=>?_
 refine ev_stop (go_loopR [6,9,10,11,12,13,14,15,16,17,18,19,20,21,22,23,24,25] (fun (i,C,c,_)=>[(6,vL C i c)]) (fun (i,C,c,p,z,M)=>[(0,.box rd 300 [.va (.string s),vI (p:Int),.bl false]),(1,.fact (Row 127 6 C i c (M.flatMap encE))),(2,.box b0 3 [vI z])]) (fun (i,_,_,p,z,M)=>i≤m∧z=(m:Int)-i∧M=L.take i∧Reads s p ((L.drop i).flatMap Ent.ints) a2) (fun (i,_)=>m-i) ((0,none,0,a1,(m:Int),[]):Nat × Option Addr × Nat × Nat × Int × List Ent) ⟨Nat.zero_le _,by omega,rfl,hr2⟩ aS (fun x_ h_=>?_))
 obtain ⟨i,C,c,p,z,M⟩:=x_
 obtain ⟨hi,hz,hM,hp⟩:=h_
 rcases Nat.lt_or_ge i m with him | him
 · have hil:i<L.length:=by omega
   rw [List.drop_eq_getElem_cons hil,List.flatMap_cons] at hp
   obtain ⟨q,g1,g2⟩:=Reads.split hp
   have T2:=entryR rd s p q L[i] g1 hs
   have htk:L.take (i+1)=L.take i++[L[i]]:=(List.take_append_getElem hil).symm
   have hMl:i=M.length:=by rw [hM,List.length_take];omega
   refine aG ?_
   refine aJ ?_ (decide_eq_true (show z > 0 from (by omega)))
   refine aD T2 [0] [] (fun v0_=>[.box (rd) 300 [.va (Value.string s),vI ↑q,.bl false]]) fun _ h10=>?_
   refine ev_new fun b11=>?_
   refine ev_stop (go_appendE (sz:=6) (M:=[_]) (enc:=encE) Tryz.tbs_ok [1] [] (.inr 4) (M) ([L[i]]) ((M)++([L[i]])) (i+1) rfl rfl rfl rfl rfl rfl rfl (by decide) rfl (by decide) (fun _ p=>starH_one.1 p) rfl (fun _ p=>Pt.rd p rfl) (by first | rfl | simp) (by first | rfl | omega) (aM (i+1)) (aN (i+1)) (fun _ _=>aL) (fun A12 c13 h14=>?_))
   refine aG ?_
   refine w6 ?_
   refine ev_fin (round_next ((i+1,A12,c13,q,z-1,M++[L[i]])) (?_:i+1≤m∧z-1=(↑m:Int)-(↑(i+1):Int)∧M++[L[i]]=List.take (i+1) L∧Reads s q (List.flatMap Ent.ints (List.drop (i+1) L)) a2) (show m-(i+1)<m-i from (by omega)) aS)
   exact ⟨by omega,by omega,by rw [hM,htk],g2⟩
 have hir:i=m:=by omega
 rw [List.take_of_length_le (by omega)] at hM
 subst hM hir
 rw [List.drop_of_length_le (by omega)] at hp
 obtain ⟨rfl,_⟩:=hp
 refine aG ?_
 refine aI ?_ (decide_eq_false (show ¬z > 0 from (by omega)))
 refine ev_fin (go Tryz.tbs_ok 1000 ?_)
 exact ev_fin ⟨trivial,_,rfl,((C,c)),rfl,by trivial,aF [0,1]⟩
 all_goals skip
theorem readP (rd pb:Nat) (s:ByteArray) (a a1 a2:Nat) (L:List Spt) (h1:Reads s a [(L.length:Int)] a1) (hr2:Reads s a1 (L.flatMap Spt.ints) a2) (hl:L.length≤1000) (hs:s.size≤1000000000) :
 Triple Tryz.prog 218 [pP rd,.func (.func 219) #[] #[pP pb]] [Pt rd 300 (rdC s a),Pt pb 298 [pP rd]] [] Sl (fun (A',c')=>.slice A' L.length c') (fun _=>True) (fun (A',c')=>[Pt rd 300 (rdC s a2),Pt pb 298 [pP rd],Row 112 2 A' L.length c' (L.flatMap encP)]):=by
 have T1:=fun b lt=>readInts rd b lt 3 s a a1 1 [(L.length:Int)] [z0] h1 hs rfl (by decide) (by decide) (by decide)
 obtain ⟨m,hm⟩:∃ m,m=L.length:=⟨_,rfl⟩
 rw [←hm] at T1 hl ⊢
 refine aT Tryz.func218 [.pt 0 rd 0,.fu (.func 219) [] [.pt 1 pb 0]] [.box rd 300 [.va (.string s),vI (a:Int),.bq false],.box pb 298 [.pt 0 rd 0]] (fun E=>?_) ⟨rfl,⟨trivial,⟨rfl,trivial⟩⟩,trivial⟩
 refine go_fact (Row 112 2 none 0 0 (([]:List Spt).flatMap encP)) (Row.nilE _ _) ?_
 refine aG ?_
 refine ev_new fun b0=>?_
 refine ev_new fun b1=>?_
 refine aD (T1 (b0) (b1)) [0,3] [.inr 4] (fun v0_=>[.box (rd) 300 [.va (Value.string s),vI ↑a1,.bl false],.box (b0) 3 [vI ↑m]]) fun _ h2=>?_
 refine ev_stop (go_loopR [6,9,10,11,12,13,14,15,16,17,18,19,20,21,22,23,24,25] (fun (i,C,c,_)=>[(6,vL C i c)]) (fun (i,C,c,p,z,M)=>[(0,.box rd 300 [.va (.string s),vI (p:Int),.bl false]),(2,.fact (Row 112 2 C i c (M.flatMap encP))),(3,.box b0 3 [vI z])]) (fun (i,_,_,p,z,M)=>i≤m∧z=(m:Int)-i∧M=L.take i∧Reads s p ((L.drop i).flatMap Spt.ints) a2) (fun (i,_)=>m-i) ((0,none,0,a1,(m:Int),[]):Nat × Option Addr × Nat × Nat × Int × List Spt) ⟨Nat.zero_le _,by omega,rfl,hr2⟩ aS (fun x_ h_=>?_))
 obtain ⟨i,C,c,p,z,M⟩:=x_
 obtain ⟨hi,hz,hM,hp⟩:=h_
 rcases Nat.lt_or_ge i m with him | him
 · have hil:i<L.length:=by omega
   rw [List.drop_eq_getElem_cons hil,List.flatMap_cons] at hp
   obtain ⟨q,g1,g2⟩:=Reads.split hp
   have T2:=spotR rd pb s p q L[i] g1 hs
   have htk:L.take (i+1)=L.take i++[L[i]]:=(List.take_append_getElem hil).symm
   have hMl:i=M.length:=by rw [hM,List.length_take];omega
   refine aG ?_
   refine aJ ?_ (decide_eq_true (show z > 0 from (by omega)))
   refine ev_call (T2 ) [0,1] [] (fun v0_=>[.box (rd) 300 [.va (Value.string s),vI ↑q,.bl false],.box (pb) 298 [SV.pt 0 rd 0]]) rfl rfl (by decide) rfl (by simp) (fun _=>rfl) (fun _=>(newsOk_box (by repeat (first | exact trivial | refine ⟨rfl,?_⟩ | refine ⟨trivial,?_⟩)) (newsOk_box (by repeat (first | exact trivial | refine ⟨rfl,?_⟩ | refine ⟨trivial,?_⟩)) (newsOk_nil _)))) (fun _=>aL) (fun _ h10=>?_)
   refine aG ?_
   refine ev_new fun b11=>?_
   refine ev_stop (go_appendE (sz:=2) (M:=[_]) (enc:=encP) Tryz.tbs_ok [2] [] (.inr 5) (M) ([L[i]]) ((M)++([L[i]])) (i+1) rfl rfl rfl rfl rfl rfl rfl (by decide) rfl (by decide) (fun _ p=>starH_one.1 p) rfl (fun _ p=>Pt.rd p rfl) (by first | rfl | simp) (by first | rfl | omega) (aM (i+1)) (aN (i+1)) (fun _ _=>aL) (fun A12 c13 h14=>?_))
   refine aG ?_
   refine w6 ?_
   refine ev_fin (round_next ((i+1,A12,c13,q,z-1,M++[L[i]])) (?_:i+1≤m∧z-1=(↑m:Int)-(↑(i+1):Int)∧M++[L[i]]=List.take (i+1) L∧Reads s q (List.flatMap Spt.ints (List.drop (i+1) L)) a2) (show m-(i+1)<m-i from (by omega)) aS)
   exact ⟨by omega,by omega,by rw [hM,htk],g2⟩
 have hir:i=m:=by omega
 rw [List.take_of_length_le (by omega)] at hM
 subst hM hir
 rw [List.drop_of_length_le (by omega)] at hp
 obtain ⟨rfl,_⟩:=hp
 refine aG ?_
 refine aI ?_ (decide_eq_false (show ¬z > 0 from (by omega)))
 refine ev_fin (go Tryz.tbs_ok 1000 ?_)
 exact ev_fin ⟨trivial,_,rfl,((C,c)),rfl,by trivial,aF [0,1,2]⟩
 all_goals skip
set_option maxHeartbeats 1000000 in
theorem decGood (x:Rec) (h:mayR x=true) :
 Triple Tryz.prog 153 [.string (recB x)] [] [] (Sl × Sl) (fun (p,q)=>.tuple #[.agg (encR ⟨x,p.1,p.2,q.1,q.2⟩).toArray,.int .i64 0]) (fun _=>True) (fun (p,q)=>[Row 127 6 p.1 x.L.length p.2 (x.L.flatMap encE),Row 112 2 q.1 x.F.length q.2 (x.F.flatMap encP)]):=by
 have hs:=small_of_may h
 have hb:=hs.bytes
 obtain ⟨s,hS⟩:∃ s,s=recB x:=⟨_,rfl⟩
 have hsl:s.data.toList=recL x:=by rw [hS];rfl
 have hsz:s.size=(recL x).length:=by rw [←size_data,hsl]
 obtain ⟨r1,d1,l1⟩:=reads_of (s:=s) (a:=0) (vs:=x.ints) (r:=intsL [(x.L.length:Int)]++(entsL x.L++(intsL [(x.F.length:Int)]++sptsL x.F))) hs.ints (Nat.zero_le _) (by rw [List.drop_zero,hsl];rfl)
 obtain ⟨r2,d2,l2⟩:=reads_of (vs:=[(x.L.length:Int)]) (fun v hv=>by rw [List.mem_singleton.1 hv];exact i5_len (by have:=hs.len;omega)) l1 d1
 have hf:∀ {α:Type} {g:α→List Int} {l:List α},(l.flatMap fun y=>intsL (g y))=intsL (l.flatMap g):=fun {α} {g} {l}=>by
  induction l with
  | nil=>rfl
  | cons y l ih=>rw [List.flatMap_cons,List.flatMap_cons,intsL_append,ih]
 obtain ⟨r3,d3,l3⟩:=reads_of (vs:=x.L.flatMap Ent.ints) (fun v hv=>by
  obtain ⟨y,hy,hv⟩:=List.mem_flatMap.1 hv
  exact ent_i5 ⟨(hs.ents y hy).1,(hs.ents y hy).2.1⟩ (hs.ents y hy).2.2.2 v hv) l2 (by rw [d2];unfold entsL;rw [hf])
 obtain ⟨r4,d4,l4⟩:=reads_of (vs:=[(x.F.length:Int)]) (fun v hv=>by rw [List.mem_singleton.1 hv];exact i5_len (by have:=hs.flen;omega)) l3 d3
 obtain ⟨r5,_,l5⟩:=reads_of (vs:=x.F.flatMap Spt.ints) (r:=[]) (fun v hv=>by
  obtain ⟨y,hy,hv⟩:=List.mem_flatMap.1 hv
  exact spt_i5 (hs.feed y hy) v hv) l4 (by rw [d4,List.append_nil];unfold sptsL;rw [hf])
 have T5:=fun A a B b=>(encGood ⟨x,A,a,B,b⟩ h).reads (N':=[Row 127 6 A x.L.length a (x.L.flatMap encE),Row 112 2 B x.F.length b (x.F.flatMap encP)]) (fun X hX=>by
  simp only [List.mem_cons,List.not_mem_nil,or_false] at hX
  rcases hX with rfl | rfl
  · exact ⟨_,List.mem_cons_self,fun _ q=>Row.rd q⟩
  exact ⟨_,List.mem_cons_of_mem _ List.mem_cons_self,fun _ q=>Row.rd q⟩)
 simp only [←hS] at T5 ⊢
 generalize 0+(intsL x.ints).length=p1 at *
 generalize p1+(intsL [(x.L.length:Int)]).length=p2 at *
 generalize p2+(intsL (x.L.flatMap Ent.ints)).length=p3 at *
 generalize p3+(intsL [(x.F.length:Int)]).length=p4 at *
 generalize p4+(intsL (x.F.flatMap Spt.ints)).length=p5 at *
 have hll:=hs.len
 have hfl:=hs.flen
 clear hf hsl d1 d2 d3 d4 hs hS h
 obtain ⟨k,u,e,v,f,n,L,F⟩:=x
 simp only at *
 have T1:=fun rd b lt=>readInts rd b lt 108 s 0 p1 6 [k,u,e,v,f,n] [z0,z0,z0,z0,z0,z0,.slice none 0 0,.slice none 0 0] r1 (by omega) rfl (by decide) (by decide) (by decide)
 have T2:=fun rd=>readE rd s p1 p2 p3 L r2 r3 (by omega) (by omega)
 have T3:=fun rd pb=>readP rd pb s p3 p4 p5 F r4 r5 (by omega) (by omega)
 refine aT Tryz.func153 [.va (.string s)] [] (fun E=>?_) ⟨trivial,trivial⟩
 refine aG ?_
 refine ev_new fun b0=>?_
 refine ev_new fun b1=>?_
 refine ev_new fun b2=>?_
 refine ev_new fun b3=>?_
 refine ev_new fun b4=>?_
 have T4:=T1 b1 b3 b4
 refine aD T4 [1,3] [.inr 4] (fun v0_=>[.box (b1) 300 [.va (Value.string s),vI ↑p1,.bl false],.box (b3) 108 [vI k,vI u,vI e,vI v,vI f,vI n,vL none 0 0,vL none 0 0]]) fun _ h10=>?_
 refine aD (T2 (b1)) [1] [] (fun (v0_,v1_)=>[.box (b1) 300 [.va (Value.string s),vI ↑p3,.bl false],.fact (Row 127 6 v0_ L.length v1_ (List.flatMap encE L))]) fun ⟨x11,x12⟩ h13=>?_
 refine ev_call (T3 (b1) (b2)) [1,2] [] (fun (v0_,v1_)=>[.box (b1) 300 [.va (Value.string s),vI ↑p5,.bl false],.box (b2) 298 [SV.pt 1 b1 0],.fact (Row 112 2 v0_ F.length v1_ (List.flatMap encP F))]) rfl rfl (by decide) rfl (by simp) (fun _=>rfl) (fun _=>(newsOk_box (by repeat (first | exact trivial | refine ⟨rfl,?_⟩ | refine ⟨trivial,?_⟩)) (newsOk_box (by repeat (first | exact trivial | refine ⟨rfl,?_⟩ | refine ⟨trivial,?_⟩)) (newsOk_fact (newsOk_nil _))))) (fun _=>aL) (fun ⟨x14,x15⟩ h16=>?_)
 refine aG ?_
 refine aC (T5 (x11) (x12) (x14) (x15)) [] [.inr 5,.inr 6] fun _ h17=>?_
 refine aI ?_
 refine aI ?_ (dec_no (by rfl))
 exact ev_fin ⟨trivial,_,rfl,(((x11,x12),x14,x15)),rfl,by trivial,aF [5,6]⟩
 all_goals skip
def RecsRd (L:List RecS):Asn:=⟨fun h=>∀ y∈L,y.rdL.holds h∧y.rdF.holds h,fun e p y hy=>⟨Asn.mono _ e (p y hy).1,Asn.mono _ e (p y hy).2⟩⟩
def Both (x X:StaS):Asn:=Asn.and x.rd X.rd
def recsR (L:List RecS):List Rec:=L.map (·.r)
theorem both_step (x X X':StaS) (h:Hp) (p:Asn.starH [Both x X,Gives X.rd X'.rd] h):∃ _:Unit,Asn.starH [Both x X',Asn.tt] h:=by
 obtain ⟨h1,h2,_,a1,a2,p1,p2⟩:=p
 refine ⟨(),h,Hp.emp,Hp.dis_emp _,Hp.le_refl _,Hp.emp_le _,⟨Asn.mono _ a1 p1.1,(starH_one.1 p2) h a2 (Asn.mono _ a1 p1.2)⟩,starH_one.2 trivial⟩
theorem writeS_stop {l:List Rec} {r:Rec} {m:List Rec} {x y:Sta} (h:writeS x l=some y) (e:stepS y r=none):writeS x (l++r::m)=none:=by
 induction l generalizing x with
 | nil=>cases h;simp [writeS,e]
 |
  cons a l ih =>
  rw [List.cons_append,writeS]
  rw [writeS] at h
  cases hs:stepS x a with
  | none=>rfl
  | some z=>rw [hs] at h;exact ih h
theorem writeS_snoc {l:List Rec} {r:Rec} {x y z:Sta} (h:writeS x l=some y) (e:stepS y r=some z):writeS x (l++[r])=some z:=by
 induction l generalizing x with
 | nil=>cases h;simp [writeS,e]
 |
  cons a l ih =>
  rw [List.cons_append,writeS]
  rw [writeS] at h
  cases hs:stepS x a with
  | none=>rw [hs] at h;cases h
  | some w=>rw [hs] at h;exact ih h
theorem both_back (x X:StaS) (h:Hp) (p:Asn.starH [Both x X] h):∃ _:Unit,Asn.starH [Both x x] h:=⟨(),starH_one.2 ⟨(starH_one.1 p).1,(starH_one.1 p).1⟩⟩
def WriteR (L:List RecS) (x:Sta) (W:WK) (D:DK):WK × DK × Int × Bool:=match writeS x (recsR L) with
 | none=>(W,D,2,false)
 | some _=>if L.length=0 then (W,D,0,false) else let r:=appW W D ((recsR L).map recB);(r.1,r.2.1,r.2.2,decide (r.2.2=0))
set_option maxHeartbeats 2000000 in
theorem writeST (p w q:Nat) (x:StaS) (sure:Nat) (dirty:Bool) (W:WK) (D:DK) (C:Option Addr) (L:List RecS) (n c:Nat) (hn:n=L.length) (hn1:n≤1000) (hL:∀ y∈L,y.r.L.length≤2000∧y.r.F.length≤100000) (hD:okD D) (hW:okW W) (hx:okS x.abs) (R:WK × DK × Int × Bool) (hR:R=WriteR L x.abs W D) :
 Triple Tryz.prog 115 [pP p,.slice C n c] [StoP p w x sure dirty,WalM w q W,DiskM q D,x.rd] [TabA,Rd 8 C n (L.flatMap encR),RecsRd L] StaS (fun _=>.int .i64 R.2.2.1) (fun X=>if R.2.2.2=true then writeS x.abs (recsR L)=some X.abs else X=x) (fun X=>[Both x X,StoP p w X sure (R.2.2.2 || dirty),WalM w q R.1,DiskM q R.2.1]):=by
 refine triple_intro Tryz.tbs_ok Tryz.func115 rfl [.pt 0 p 0,vL C n c] [.box p 102 (stoV w x sure dirty),.fact (WalM w q W),.fact (DiskM q D),.fact x.rd] ⟨rfl,trivial,trivial⟩ rfl (by simp [stoV,svG,SV.good,SV.goodL]) ?_
 intro E
 refine aG ?_
 refine ev_inline Tryz.tbs_ok Tryz.func61 rfl rfl ?_
 refine aG ?_
 refine ev_fin ⟨trivial,aL,_,rfl,?_⟩
 refine aG ?_
 refine ev_new fun b10=>?_
 refine ev_stop (go_ghost [3] (M:=[x.rd]) (X:=Unit) (fun _=>[.fact (Both x x)]) rfl (by decide) (fun h p=>⟨(),starH_one.2 ⟨starH_one.1 p,starH_one.1 p⟩⟩) (fun _=>newsOk_fact (fun x hx=>by cases hx)) (fun _=>by repeat (first | exact trivial | refine ⟨rfl,?_⟩)) (fun _=>?_))
 refine go_fact (Row 9 1 none 0 0 (([]:List ByteArray).flatMap encS)) (Row.nilE _ _) ?_
 refine aG ?_
 refine ev_stop (go_loopR [4,6,8,9,10,11,18,21,22,23,24,25,26,27,28,29,30,31,32,33,34,35,36,37,38,39,40,41,42,43,44,45,46,47,48,49,50,51,52,53,54,55] (fun (i,_,T,t,_)=>[(6,vL T i t),(21,vI (i:Nat))]) (fun (i,X,T,t,M)=>[(3,.fact (Both x X)),(4,.box b10 100 (svSt X)),(5,.fact (Row 9 1 T i t (M.flatMap encS)))]) (fun (i,X,_,_,M)=>i≤n∧writeS x.abs (recsR (L.take i))=some X.abs∧M=(recsR (L.take i)).map recB) (fun (i,_)=>n-i) ((0,x,none,0,[]):Nat × StaS × Option Addr × Nat × List ByteArray) ⟨Nat.zero_le _,rfl,rfl⟩ aS (fun x_ h_=>?_))
 obtain ⟨i,X,T,t,M⟩:=x_
 obtain ⟨hi,hX,hM⟩:=h_
 have hok:okS X.abs:=(writeS_some hX hx).1
 have hXF:X.F.length≤256:=(feed_small hok).1
 have hXR:∀ g∈X.regs,okR g.r=true:=fun g hg=>hok.regs _ (by rw [abs_R];exact List.mem_map_of_mem hg)
 rcases Nat.lt_or_ge i n with him | him
 · have hil:i<L.length:=by omega
   have hm:L[i]∈L:=List.getElem_mem hil
   have hlim:=hL L[i] hm
   have hrd:∀ Z∈[X.rd,L[i].rdL,L[i].rdF],∃ A∈[Both x X,RecsRd L],∀ h,A.holds h→Z.holds h:=fun Z hZ=>by
    simp only [List.mem_cons,List.not_mem_nil,or_false] at hZ
    rcases hZ with rfl | rfl | rfl
    · exact ⟨_,List.mem_cons_self,fun _ q=>q.2⟩
    · exact ⟨_,List.mem_cons_of_mem _ List.mem_cons_self,fun _ q=>(q L[i] hm).1⟩
    exact ⟨_,List.mem_cons_of_mem _ List.mem_cons_self,fun _ q=>(q L[i] hm).2⟩
   have hre:∀ Z∈[L[i].rdL,L[i].rdF],∃ A∈[RecsRd L],∀ h,A.holds h→Z.holds h:=fun Z hZ=>by
    simp only [List.mem_cons,List.not_mem_nil,or_false] at hZ
    rcases hZ with rfl | rfl
    · exact ⟨_,List.mem_cons_self,fun _ q=>(q _ hm).1⟩
    exact ⟨_,List.mem_cons_self,fun _ q=>(q _ hm).2⟩
   have hcut:recsR L=recsR (L.take i)++L[i].r::recsR (L.drop (i+1)):=by
    unfold recsR
    rw [←List.map_cons,←List.drop_eq_getElem_cons hil,←List.map_append,List.take_append_drop]
   cases hst:stepS X.abs L[i].r with
   |
    none =>
    have hno:=writeS_stop (m:=recsR (L.drop (i+1))) hX hst
    rw [←hcut] at hno
    obtain rfl:R=(W,D,2,false):=by rw [hR];unfold WriteR;rw [hno]
    unfold stepS at hst
    have hl1:L[i].r.L.length≤1000000:=by omega
    have hl2:L[i].r.F.length≤1000000:=by omega
    cases hmay:mayR L[i].r with
    |
     true =>
     have T2:=(encGood L[i] hmay).reads (N':=[RecsRd L]) hre
     by_cases h4:L[i].r.k=4
     · refine aG ?_
       refine aJ ?_ (decide_eq_true (show (↑i:Int)<(↑n:Int) from (by omega)))
       refine ev_stop (go_indexE (sz:=8) Tryz.tbs_ok (.inl 1) (i) rfl rfl rfl rfl rfl rfl (by omega) rfl (fun _ h=>h) (fun g130 o132 e131=>?_))
       subst e131
       refine aG ?_
       have l133:i<(L).length:=(by omega)
       refine ev_stop (go_loadE Tryz.tbs_ok (.inl 1) (i) 0 rfl rfl rfl rfl (fun _ h=>h) (by omega) (fun _=>rfl) (by omega) l133 (by decide) ?_)
       refine aG ?_
       refine ev_new fun b134=>?_
       refine aI ?_ (ne_no (by with_reducible assumption))
       refine ev_ghost [3] (M:=[Both x X]) (X:=Unit) (fun _=>[.fact (Both x x)]) rfl (by decide) (both_back x X) (fun _=>newsOk_fact (fun x hx=>by cases hx)) (fun _=>by repeat (first | exact trivial | refine ⟨rfl,?_⟩)) (fun _=>?_)
       refine aC T2 [] [.inl 2] fun _ h150=>?_
       exact ev_fin ⟨trivial,_,rfl,(x),rfl,by trivial,aF [3,0,1,2]⟩
     by_cases h5:L[i].r.k=5
     · refine aG ?_
       refine aJ ?_ (decide_eq_true (show (↑i:Int)<(↑n:Int) from (by omega)))
       refine ev_stop (go_indexE (sz:=8) Tryz.tbs_ok (.inl 1) (i) rfl rfl rfl rfl rfl rfl (by omega) rfl (fun _ h=>h) (fun g180 o182 e181=>?_))
       subst e181
       refine aG ?_
       have l183:i<(L).length:=(by omega)
       refine ev_stop (go_loadE Tryz.tbs_ok (.inl 1) (i) 0 rfl rfl rfl rfl (fun _ h=>h) (by omega) (fun _=>rfl) (by omega) l183 (by decide) ?_)
       refine aG ?_
       refine ev_new fun b184=>?_
       refine aJ ?_ (ne_yes (by with_reducible assumption))
       refine aI ?_ (ne_no (by with_reducible assumption))
       refine ev_ghost [3] (M:=[Both x X]) (X:=Unit) (fun _=>[.fact (Both x x)]) rfl (by decide) (both_back x X) (fun _=>newsOk_fact (fun x hx=>by cases hx)) (fun _=>by repeat (first | exact trivial | refine ⟨rfl,?_⟩)) (fun _=>?_)
       refine aC T2 [] [.inl 2] fun _ h200=>?_
       refine aJ ?_ (by simp [*])
       exact ev_fin ⟨trivial,_,rfl,(x),rfl,by trivial,aF [3,0,1,2]⟩
     have hap:applyS X.abs L[i].r=none:=by rw [if_neg (by rw [hmay];simp [h4,h5])] at hst;exact hst
     have T1:=(applyBad X L[i] hXR hlim.1 hlim.2 hap).reads hrd
     refine aG ?_
     refine aJ ?_ (decide_eq_true (show (↑i:Int)<(↑n:Int) from (by omega)))
     refine ev_stop (go_indexE (sz:=8) Tryz.tbs_ok (.inl 1) (i) rfl rfl rfl rfl rfl rfl (by omega) rfl (fun _ h=>h) (fun g230 o232 e231=>?_))
     subst e231
     refine aG ?_
     have l233:i<(L).length:=(by omega)
     refine ev_stop (go_loadE Tryz.tbs_ok (.inl 1) (i) 0 rfl rfl rfl rfl (fun _ h=>h) (by omega) (fun _=>rfl) (by omega) l233 (by decide) ?_)
     refine aG ?_
     refine ev_new fun b234=>?_
     refine aJ ?_ (ne_yes (by with_reducible assumption))
     refine aJ ?_ (ne_yes (by with_reducible assumption))
     refine aC T1 [] [.inr 3,.inl 2] fun x235 h236=>?_
     refine ev_ghost [3] (M:=[Both x X]) (X:=Unit) (fun _=>[.fact (Both x x)]) rfl (by decide) (both_back x X) (fun _=>newsOk_fact (fun x hx=>by cases hx)) (fun _=>by repeat (first | exact trivial | refine ⟨rfl,?_⟩)) (fun _=>?_)
     refine aC T2 [] [.inl 2] fun _ h250=>?_
     refine aJ ?_
     exact ev_fin ⟨trivial,_,rfl,(x),rfl,by trivial,aF [3,0,1,2]⟩
    |
     false =>
     have T2:=(encBad L[i] hl1 hl2 hmay).reads (N':=[RecsRd L]) hre
     by_cases h4:L[i].r.k=4
     · refine aG ?_
       refine aJ ?_ (decide_eq_true (show (↑i:Int)<(↑n:Int) from (by omega)))
       refine ev_stop (go_indexE (sz:=8) Tryz.tbs_ok (.inl 1) (i) rfl rfl rfl rfl rfl rfl (by omega) rfl (fun _ h=>h) (fun g280 o282 e281=>?_))
       subst e281
       refine aG ?_
       have l283:i<(L).length:=(by omega)
       refine ev_stop (go_loadE Tryz.tbs_ok (.inl 1) (i) 0 rfl rfl rfl rfl (fun _ h=>h) (by omega) (fun _=>rfl) (by omega) l283 (by decide) ?_)
       refine aG ?_
       refine ev_new fun b284=>?_
       refine aI ?_ (ne_no (by with_reducible assumption))
       refine ev_ghost [3] (M:=[Both x X]) (X:=Unit) (fun _=>[.fact (Both x x)]) rfl (by decide) (both_back x X) (fun _=>newsOk_fact (fun x hx=>by cases hx)) (fun _=>by repeat (first | exact trivial | refine ⟨rfl,?_⟩)) (fun _=>?_)
       refine aC T2 [] [.inl 2] fun _ h300=>?_
       exact ev_fin ⟨trivial,_,rfl,(x),rfl,by trivial,aF [3,0,1,2]⟩
     by_cases h5:L[i].r.k=5
     · refine aG ?_
       refine aJ ?_ (decide_eq_true (show (↑i:Int)<(↑n:Int) from (by omega)))
       refine ev_stop (go_indexE (sz:=8) Tryz.tbs_ok (.inl 1) (i) rfl rfl rfl rfl rfl rfl (by omega) rfl (fun _ h=>h) (fun g330 o332 e331=>?_))
       subst e331
       refine aG ?_
       have l333:i<(L).length:=(by omega)
       refine ev_stop (go_loadE Tryz.tbs_ok (.inl 1) (i) 0 rfl rfl rfl rfl (fun _ h=>h) (by omega) (fun _=>rfl) (by omega) l333 (by decide) ?_)
       refine aG ?_
       refine ev_new fun b334=>?_
       refine aJ ?_ (ne_yes (by with_reducible assumption))
       refine aI ?_ (ne_no (by with_reducible assumption))
       refine ev_ghost [3] (M:=[Both x X]) (X:=Unit) (fun _=>[.fact (Both x x)]) rfl (by decide) (both_back x X) (fun _=>newsOk_fact (fun x hx=>by cases hx)) (fun _=>by repeat (first | exact trivial | refine ⟨rfl,?_⟩)) (fun _=>?_)
       refine aC T2 [] [.inl 2] fun _ h350=>?_
       refine aJ ?_ (by simp [*])
       exact ev_fin ⟨trivial,_,rfl,(x),rfl,by trivial,aF [3,0,1,2]⟩
     cases hap:applyS X.abs L[i].r with
     |
      none =>
      have T1:=(applyBad X L[i] hXR hlim.1 hlim.2 hap).reads hrd
      refine aG ?_
      refine aJ ?_ (decide_eq_true (show (↑i:Int)<(↑n:Int) from (by omega)))
      refine ev_stop (go_indexE (sz:=8) Tryz.tbs_ok (.inl 1) (i) rfl rfl rfl rfl rfl rfl (by omega) rfl (fun _ h=>h) (fun g380 o382 e381=>?_))
      subst e381
      refine aG ?_
      have l383:i<(L).length:=(by omega)
      refine ev_stop (go_loadE Tryz.tbs_ok (.inl 1) (i) 0 rfl rfl rfl rfl (fun _ h=>h) (by omega) (fun _=>rfl) (by omega) l383 (by decide) ?_)
      refine aG ?_
      refine ev_new fun b384=>?_
      refine aJ ?_ (ne_yes (by with_reducible assumption))
      refine aJ ?_ (ne_yes (by with_reducible assumption))
      refine aC T1 [] [.inr 3,.inl 2] fun x385 h386=>?_
      refine ev_ghost [3] (M:=[Both x X]) (X:=Unit) (fun _=>[.fact (Both x x)]) rfl (by decide) (both_back x X) (fun _=>newsOk_fact (fun x hx=>by cases hx)) (fun _=>by repeat (first | exact trivial | refine ⟨rfl,?_⟩)) (fun _=>?_)
      refine aC T2 [] [.inl 2] fun _ h400=>?_
      refine aJ ?_
      exact ev_fin ⟨trivial,_,rfl,(x),rfl,by trivial,aF [3,0,1,2]⟩
     |
      some z =>
      have T1:=(applyT X L[i] z hXR (by omega) hlim.1 hlim.2 hap).reads hrd
      refine aG ?_
      refine aJ ?_ (decide_eq_true (show (↑i:Int)<(↑n:Int) from (by omega)))
      refine ev_stop (go_indexE (sz:=8) Tryz.tbs_ok (.inl 1) (i) rfl rfl rfl rfl rfl rfl (by omega) rfl (fun _ h=>h) (fun g430 o432 e431=>?_))
      subst e431
      refine aG ?_
      have l433:i<(L).length:=(by omega)
      refine ev_stop (go_loadE Tryz.tbs_ok (.inl 1) (i) 0 rfl rfl rfl rfl (fun _ h=>h) (by omega) (fun _=>rfl) (by omega) l433 (by decide) ?_)
      refine aG ?_
      refine ev_new fun b434=>?_
      refine aJ ?_ (ne_yes (by with_reducible assumption))
      refine aJ ?_ (ne_yes (by with_reducible assumption))
      refine aC T1 [] [.inr 3,.inl 2] fun x435 h436=>?_
      refine ev_ghost [3] (M:=[Both x X]) (X:=Unit) (fun _=>[.fact (Both x x)]) rfl (by decide) (both_back x X) (fun _=>newsOk_fact (fun x hx=>by cases hx)) (fun _=>by repeat (first | exact trivial | refine ⟨rfl,?_⟩)) (fun _=>?_)
      refine aC T2 [] [.inl 2] fun _ h450=>?_
      refine aI (aJ ?_)
      exact ev_fin ⟨trivial,_,rfl,(x),rfl,by trivial,aF [3,0,1,2]⟩
   |
    some z =>
    obtain ⟨h4,h5,hmay,hap⟩:=stepS_some hst
    have T1:=(applyT X L[i] z hXR (by omega) hlim.1 hlim.2 hap).reads hrd
    have T2:=(encGood L[i] hmay).reads (N':=[RecsRd L]) hre
    refine aG ?_
    refine aJ ?_ (decide_eq_true (show (↑i:Int)<(↑n:Int) from (by omega)))
    refine ev_stop (go_indexE (sz:=8) Tryz.tbs_ok (.inl 1) (i) rfl rfl rfl rfl rfl rfl (by omega) rfl (fun _ h=>h) (fun g30 o32 e31=>?_))
    subst e31
    refine aG ?_
    have l33:i<(L).length:=(by omega)
    refine ev_stop (go_loadE Tryz.tbs_ok (.inl 1) (i) 0 rfl rfl rfl rfl (fun _ h=>h) (by omega) (fun _=>rfl) (by omega) l33 (by decide) ?_)
    refine aG ?_
    refine ev_new fun b34=>?_
    refine aJ ?_ (ne_yes (by with_reducible assumption))
    refine aJ ?_ (ne_yes (by with_reducible assumption))
    refine aC T1 [] [.inr 3,.inl 2] fun x35 h36=>?_
    refine ev_ghost [3,7] (M:=[Both x X,Gives X.rd x35.rd]) (X:=Unit) (fun _=>[.fact (Both x x35),.dead none]) rfl (by decide) (both_step x X x35) (fun _=>newsOk_fact (fun x hx=>by rw [List.mem_singleton.1 hx];trivial)) (fun _=>by repeat (first | exact trivial | refine ⟨rfl,?_⟩)) (fun _=>?_)
    refine aC T2 [] [.inl 2] fun _ h50=>?_
    refine aI (aI ?_)
    refine ev_new fun b51=>?_
    refine ev_stop (go_appendE (sz:=1) (M:=[_]) (enc:=encS) Tryz.tbs_ok [5] [] (.inr 8) (M) ([recB L[i].r]) ((M)++([recB L[i].r])) (i+1) rfl rfl rfl rfl rfl rfl rfl (by decide) rfl (by decide) (fun _ p=>starH_one.1 p) rfl (fun _ p=>Pt.rd p rfl) (by first | rfl | simp) (by first | rfl | omega) (aM (i+1)) (aN (i+1)) (fun _ _=>aL) (fun A52 c53 h54=>?_))
    refine aG ?_
    refine wN (i+1) ?_
    refine ev_fin (round_next ((i+1,x35,A52,c53,M++[recB L[i].r])) (?_:i+1≤n∧writeS x.abs (recsR (List.take (i+1) L))=some x35.abs∧M++[recB L[i].r]=List.map recB (recsR (List.take (i+1) L))) (show n-(i+1)<n-i from (by omega)) aS)
    have ht:recsR (L.take (i+1))=recsR (L.take i)++[L[i].r]:=by unfold recsR;rw [←List.take_append_getElem hil,List.map_append];rfl
    rw [ht,List.map_append,hM]
    exact ⟨by omega,writeS_snoc hX (by rw [hst];exact congrArg some (Eq.symm ‹x35.abs=z›)),rfl⟩
 obtain rfl:i=n:=by omega
 have htk:L.take i=L:=by rw [hn];exact List.take_length
 rw [htk] at hX hM
 have hmy:=(writeS_some hX hx).2.2.2
 have hMl:M.length=i:=by rw [hM,List.length_map];unfold recsR;rw [List.length_map,hn]
 rcases Nat.eq_zero_or_pos i with h0 | h0
 · obtain rfl:R=(W,D,0,false):=by rw [hR];unfold WriteR;rw [hX];dsimp only;rw [if_pos (by omega)]
   refine go_ghost [3] (M:=[Both x X]) (X:=Unit) (fun _=>[.fact (Both x x)]) rfl (by decide) (both_back x X) (fun _=>newsOk_fact (fun x hx=>by cases hx)) (fun _=>by repeat (first | exact trivial | refine ⟨rfl,?_⟩)) (fun _=>?_)
   refine aG ?_
   refine aI ?_ (decide_eq_false (show ¬(↑i:Int)<(↑i:Int) from (by omega)))
   refine ev_fin (go Tryz.tbs_ok 1000 ?_)
   refine aJ ?_ (beq_iff_eq.2 (show (↑i:Int)=0 from (by omega)))
   exact ev_fin ⟨trivial,_,rfl,(x),rfl,by trivial,aF [3,0,1,2]⟩
   all_goals skip
 have T3:=(appWT w q W D T M i t hMl.symm (by omega) (fun s hs=>by
  rw [hM] at hs
  obtain ⟨r,hr,rfl⟩:=List.mem_map.1 hs
  have:=(small_of_may (hmy r hr)).bytes
  exact Nat.le_trans this (by decide)) hD hW).reads (N':=[TabA,Row 9 1 T i t (M.flatMap encS)]) (fun Z hZ=>by
   simp only [List.mem_cons,List.not_mem_nil,or_false] at hZ
   rcases hZ with rfl | rfl
   · exact ⟨_,List.mem_cons_self,fun _ q=>q⟩
   exact ⟨_,List.mem_cons_of_mem _ List.mem_cons_self,fun _ q=>Row.rd q⟩)
 obtain ⟨r,hr⟩:∃ r,r=appW W D M:=⟨_,rfl⟩
 rw [←hr] at T3
 have hR2:R=(r.1,r.2.1,r.2.2,decide (r.2.2=0)):=by rw [hR];unfold WriteR;rw [hX];dsimp only;rw [if_neg (by omega),←hM,←hr]
 by_cases he:r.2.2=0
 · rw [he] at T3
   rw [decide_eq_true he,he] at hR2
   subst hR2
   refine aG ?_
   refine aI ?_ (decide_eq_false (show ¬(↑i:Int)<(↑i:Int) from (by omega)))
   refine ev_fin (go Tryz.tbs_ok 1000 ?_)
   refine aI ?_ (beq_eq_false_iff_ne.2 (show ¬(↑i:Int)=0 from (by omega)))
   refine aC T3 [1,2] [.inl 0,.inr 5] fun _ h90=>?_
   refine aI ?_
   exact ev_fin ⟨trivial,_,rfl,(X),rfl,by trivial,aF [3,0,1,2]⟩
   all_goals skip
 rw [decide_eq_false he] at hR2
 subst hR2
 refine go_ghost [3] (M:=[Both x X]) (X:=Unit) (fun _=>[.fact (Both x x)]) rfl (by decide) (both_back x X) (fun _=>newsOk_fact (fun x hx=>by cases hx)) (fun _=>by repeat (first | exact trivial | refine ⟨rfl,?_⟩)) (fun _=>?_)
 refine aG ?_
 refine aI ?_ (decide_eq_false (show ¬(↑i:Int)<(↑i:Int) from (by omega)))
 refine ev_fin (go Tryz.tbs_ok 1000 ?_)
 refine aI ?_ (beq_eq_false_iff_ne.2 (show ¬(↑i:Int)=0 from (by omega)))
 refine aC T3 [1,2] [.inl 0,.inr 5] fun _ h110=>?_
 refine aJ ?_ (ne_yes (by with_reducible assumption))
 exact ev_fin ⟨trivial,_,rfl,(x),rfl,by trivial,aF [3,0,1,2]⟩
 all_goals skip
theorem applyS_keeps {x y:Sta} {r:Rec} (h:applyS x r=some y) (hR:∀ g∈x.R,okR g=true):(∀ g∈y.R,okR g=true)∧x.F.length≤y.F.length:=by
 unfold applyS at h
 split at h
 · split at h
   · rename_i hc
     cases h
     exact ⟨hR,by rw [hc.1];exact Nat.zero_le _⟩
   cases h
 split at h
 · split at h
   · cases h
   rename_i r' hr
   cases h
   refine ⟨fun g hg=>?_,?_⟩
   · rcases List.mem_or_eq_of_mem_set hg with hg | rfl
     · exact hR g hg
     exact (applyR_ok hr).2
   dsimp only
   split
   · rw [List.length_append];omega
   exact Nat.le_refl _
 cases h
theorem foldS_keeps {l:List Rec}:∀ {x z:Sta},foldS x l=some z→x.F.length≤z.F.length∨¬ (∀ g∈x.R,okR g=true):=by
 induction l with
 | nil=>intro x z h;cases h;exact .inl (Nat.le_refl _)
 |
  cons r l ih =>
  intro x z h
  rw [foldS] at h
  by_cases hR:∀ g∈x.R,okR g=true
  · cases hs:applyS x r with
    | none=>rw [hs] at h;cases h
    |
     some y =>
     rw [hs] at h
     obtain ⟨h1,h2⟩:=applyS_keeps hs hR
     rcases ih h with h3 | h3
     · exact .inl (by omega)
     exact absurd h1 h3
  exact .inr hR
def stoZ (w:Nat) (x:StaS):List SV:=vP w::(svG x.r0++(svG x.r1++(svG x.r2++(svG x.r3++[vL x.A x.F.length x.c,vI 0,.bl false]))))
theorem zero_rd:∀ h,zeroSt.rd.holds h:=fun h=>⟨fun y hy=>by
 simp only [StaS.regs,zeroSt,List.mem_cons,List.not_mem_nil,or_false,or_self] at hy
 subst hy
 exact ⟨⟨rfl,(fun c hc=>by cases hc),fun h0=>absurd h0 (by decide)⟩,Nat.le_refl _⟩,⟨rfl,(fun c hc=>by cases hc),fun h0=>absurd h0 (by decide)⟩,Nat.le_refl _,fun _=>rfl⟩
set_option maxHeartbeats 2000000 in
theorem openST (q:Nat) (D:DK) (hD:okD D) (h:(openD D).2.1=0) (rs:List Rec) (hrs:(openD D).2.2.2=rs.map recB) (hmay:∀ r∈rs,mayR r=true) (hn:rs.length≤100000) (z:Sta) (hz:foldS noSta rs=some z) (hok:okS z) :
 Triple Tryz.prog 105 [pP q] [DiskM q D] [TabA] (Nat × Nat × StaS) (fun (p,_,_)=>.tuple #[pP p,.int .i64 0]) (fun (_,_,X)=>X.abs=z) (fun (p,w,X)=>[X.rd,StoP p w X z.F.length false,WalM w q (openD D).2.2.1,DiskM q (openD D).1]):=by
 have T1:=openOk q D hD h
 obtain ⟨ps,hps⟩:∃ ps,ps=rs.map recB:=⟨_,rfl⟩
 obtain ⟨n,hnl⟩:∃ n,n=ps.length:=⟨_,rfl⟩
 rw [hrs,←hps,←hnl] at T1
 obtain ⟨W',hW'⟩:∃ W',W'=(openD D).2.2.1:=⟨_,rfl⟩
 obtain ⟨D',hD'⟩:∃ D',D'=(openD D).1:=⟨_,rfl⟩
 rw [←hW',←hD'] at T1 ⊢
 refine aT Tryz.func105 [vP q] [.fact (DiskM q D)] (fun E=>?_) ⟨trivial,trivial⟩
 refine go_fact zeroSt.rd zero_rd ?_
 refine aG ?_
 refine aC T1 [0] [.inl 0] fun ⟨x10,x11,x12⟩ h13=>?_
 refine aI ?_
 refine ev_new fun b14=>?_
 have hnr:n=rs.length:=by rw [hnl,hps,List.length_map]
 refine ev_stop (go_loopR [2,3,9,10,11,12,13,15,23,27,28,29,30,31,32,33,34,35,36,37,38,39,40,41,42,43,44,45,46,47,48,49,50,51,52] (fun (i,_)=>[(27,vI (i:Nat))]) (fun (i,X)=>[(1,.fact X.rd),(4,.box b14 102 (stoZ x10 X))]) (fun (i,X)=>i≤n∧foldS X.abs (rs.drop i)=some z∧∀ g∈X.abs.R,okR g=true) (fun (i,_)=>n-i) ((0,zeroSt):Nat × StaS) ⟨Nat.zero_le _,hz,okS_no.regs⟩ aS (fun x_ h_=>?_))
 obtain ⟨i,X⟩:=x_
 obtain ⟨hi,hX,hXR⟩:=h_
 have hXF:X.F.length≤256:=by
  rcases foldS_keeps hX with h1 | h1
  · exact Nat.le_trans h1 (feed_small hok).1
  exact absurd hXR h1
 rcases Nat.lt_or_ge i n with him | him
 · have hil:i<rs.length:=by omega
   have hip:i<ps.length:=by omega
   have hpi:ps[i]=recB rs[i]:=by simp only [hps,List.getElem_map]
   have hmi:=hmay rs[i] (List.getElem_mem hil)
   have hlen:=(small_of_may hmi).len
   have hflen:=(small_of_may hmi).flen
   rw [List.drop_eq_getElem_cons hil,foldS] at hX
   cases hap:applyS X.abs rs[i] with
   | none=>rw [hap] at hX;cases hX
   |
    some y =>
    rw [hap] at hX
    have T2:=decGood rs[i] hmi
    rw [←hpi] at T2
    have T3:=fun A a B b=>((applyT X ⟨rs[i],A,a,B,b⟩ y (fun g hg=>hXR _ (by rw [abs_R];exact List.mem_map_of_mem hg)) (by omega) (by show rs[i].L.length≤2000;omega) (by show rs[i].F.length≤100000;omega) hap).lend [X.rd,Row 127 6 A rs[i].L.length a (rs[i].L.flatMap encE),Row 112 2 B rs[i].F.length b (rs[i].F.flatMap encP)] (fun h ⟨h1,h2,_,a1,a2,p1,h3,h4,_,a3,a4,p2,p3⟩ Z hZ=>by
     simp only [List.mem_cons,List.not_mem_nil,or_false] at hZ
     rcases hZ with rfl | rfl | rfl
     · exact Asn.mono _ a1 p1
     · exact Asn.mono _ (a3.trans a2) (Row.rd p2)
     exact Asn.mono _ (a4.trans a2) (Row.rd (starH_one.1 p3)))).imp' (post':=fun x'=>[x'.rd]) (fun x' h g ⟨h1,h2,_,a1,a2,p1,h3,h4,_,a3,a4,p2,p3⟩=>⟨x',rfl,g,starH_one.2 (p1 h a1 (Asn.mono _ (a3.trans a2) p2))⟩)
    refine aG ?_
    refine aJ ?_ (decide_eq_true (show (↑i:Int)<(↑n:Int) from (by omega)))
    refine ev_stop (go_index0 (sz:=1) Tryz.tbs_ok (.inr 3) (i) rfl rfl rfl rfl rfl rfl (by omega) rfl Row.at0 (fun g30 e31=>?_))
    subst e31
    refine aG ?_
    have l32:i<(ps).length:=(by omega)
    refine ev_stop (go_loadE Tryz.tbs_ok (.inr 3) (i) 0 rfl rfl rfl rfl (fun _ h=>Row.rd h) (by omega) (fun _=>rfl) (by omega) l32 (by decide) ?_)
    refine aG ?_
    refine aC T2 [] [] fun ⟨x33,x34,x35⟩ h36=>?_
    refine ev_new fun b37=>?_
    refine aI ?_
    refine ev_stop (go_draw Tryz.tbs_ok false [7] [(0,true),(1,true),(2,true),(3,true),(5,true),(4,false),(6,false),(7,false),(8,true),(9,true),(10,false),(11,false),(12,false),(13,false)] rfl ?_)
    refine aG (aE (aE ?_))
    refine aC (T3 (x33.fst) (x33.snd) (x34) (x35)) [1,5,6] [] fun x38 h39=>?_
    refine aE (aE (aE (aE (aE (aK (aI ?_))))))
    refine wN (i+1) ?_
    refine ev_fin (round_next ((i+1,x38)) (?_:i+1≤n∧foldS x38.abs (List.drop (i+1) rs)=some z∧∀ (g:Reg),g∈x38.abs.R→okR g=true) (show n-(i+1)<n-i from (by omega)) aS)
    have e:x38.abs=y := ‹_›
    rw [e]
    exact ⟨by omega,hX,(applyS_keeps hap hXR).1⟩
 obtain rfl:i=n:=by omega
 rw [hnr,List.drop_length] at hX
 obtain rfl:X.abs=z:=by cases hX;rfl
 have T4:=toldT X X.A X.F X.F.length X.c rfl (by omega)
 rw [show toldF X.abs.R X.F=true from hok.told] at T4
 have T5:=T4.reads (N':=[X.rd]) (fun Z hZ=>by
  obtain rfl:=List.mem_singleton.1 hZ
  exact ⟨_,List.mem_cons_self,fun _ q=>q.2.1⟩)
 refine aG ?_
 refine aI ?_ (decide_eq_false (show ¬(↑i:Int)<(↑i:Int) from (by omega)))
 refine ev_fin (go Tryz.tbs_ok 1000 ?_)
 refine ev_stop (go_draw Tryz.tbs_ok true [4] [(0,true),(1,true),(2,true),(3,true),(4,true),(5,true),(6,true),(7,true),(8,true),(9,false),(10,false)] rfl ?_)
 refine aG (aE ?_)
 refine aC T5 [] [.inr 1] fun _ h90=>?_
 refine aE (aE (aI ?_))
 exact ev_fin ⟨trivial,_,rfl,((b14,x10,X)),rfl,by trivial,aF [1,4,0,2]⟩
 all_goals skip
set_option maxHeartbeats 2000000 in
theorem regGood (p w:Nat) (x:StaS) (sure:Nat) (dirty:Bool) (j:Nat) (g:RegS) (hj:j<4) (hg:x.regs[j]? = some g) (hl:g.r.L.length≤1000):Triple Tryz.prog 32 [pP p,.int .i64 (j:Int)] [StoP p w x sure dirty] [x.rd] Sl (fun (A',c')=>.tuple #[.agg (encG ⟨g.r,A',c'⟩).toArray,.int .i64 0]) (fun (_,c')=>g.r.L.length≤c') (fun (A',c')=>[StoP p w x sure dirty,Row 127 6 A' g.r.L.length c' (g.r.L.flatMap encE)]):=by
 have T1:=(cloneG g (by omega)).reads (N':=[x.rd]) (fun X hX=>by
  obtain rfl:=List.mem_singleton.1 hX
  exact ⟨_,List.mem_cons_self,fun _ q=>(q.1 g (List.mem_of_getElem? hg)).1⟩)
 refine triple_intro Tryz.tbs_ok Tryz.func32 rfl [.pt 0 p 0,vI (j:Int)] [.box p 102 (stoV w x sure dirty)] ⟨rfl,trivial,trivial⟩ rfl (by simp [stoV,svG,SV.good,SV.goodL]) ?_
 intro E
 rcases (show j=0∨j=1∨j=2∨j=3 by omega) with rfl | rfl | rfl | rfl
 · obtain rfl:x.r0=g:=Option.some.inj hg
   refine aG ?_
   refine ev_new fun b10=>?_
   refine ev_inline Tryz.tbs_ok Tryz.func61 rfl rfl ?_
   refine aG ?_
   refine ev_fin ⟨trivial,aL,_,rfl,?_⟩
   refine aG (aI (aI ?_))
   refine ev_stop (go_indexArr Tryz.tbs_ok (0) rfl rfl rfl rfl rfl rfl (by first | decide | omega) rfl rfl ?_)
   refine aG ?_
   refine aC T1 [] [.inl 0] fun ⟨x11,x12⟩ h13=>?_
   refine ev_fin ⟨trivial,_,rfl,((x11,x12)),?_,by trivial,aF [0,2]⟩
   rfl
 · obtain rfl:x.r1=g:=Option.some.inj hg
   refine aG ?_
   refine ev_new fun b30=>?_
   refine ev_inline Tryz.tbs_ok Tryz.func61 rfl rfl ?_
   refine aG ?_
   refine ev_fin ⟨trivial,aL,_,rfl,?_⟩
   refine aG (aI (aI ?_))
   refine ev_stop (go_indexArr Tryz.tbs_ok (1) rfl rfl rfl rfl rfl rfl (by first | decide | omega) rfl rfl ?_)
   refine aG ?_
   refine aC T1 [] [.inl 0] fun ⟨x31,x32⟩ h33=>?_
   refine ev_fin ⟨trivial,_,rfl,((x31,x32)),?_,by trivial,aF [0,2]⟩
   rfl
 · obtain rfl:x.r2=g:=Option.some.inj hg
   refine aG ?_
   refine ev_new fun b50=>?_
   refine ev_inline Tryz.tbs_ok Tryz.func61 rfl rfl ?_
   refine aG ?_
   refine ev_fin ⟨trivial,aL,_,rfl,?_⟩
   refine aG (aI (aI ?_))
   refine ev_stop (go_indexArr Tryz.tbs_ok (2) rfl rfl rfl rfl rfl rfl (by first | decide | omega) rfl rfl ?_)
   refine aG ?_
   refine aC T1 [] [.inl 0] fun ⟨x51,x52⟩ h53=>?_
   refine ev_fin ⟨trivial,_,rfl,((x51,x52)),?_,by trivial,aF [0,2]⟩
   rfl
 obtain rfl:x.r3=g:=Option.some.inj hg
 refine aG ?_
 refine ev_new fun b70=>?_
 refine ev_inline Tryz.tbs_ok Tryz.func61 rfl rfl ?_
 refine aG ?_
 refine ev_fin ⟨trivial,aL,_,rfl,?_⟩
 refine aG (aI (aI ?_))
 refine ev_stop (go_indexArr Tryz.tbs_ok (3) rfl rfl rfl rfl rfl rfl (by first | decide | omega) rfl rfl ?_)
 refine aG ?_
 refine aC T1 [] [.inl 0] fun ⟨x71,x72⟩ h73=>?_
 refine ev_fin ⟨trivial,_,rfl,((x71,x72)),?_,by trivial,aF [0,2]⟩
 rfl
abbrev BA:=ByteArray
def FB (ps:List BA):BA:=strL (framesL ckL (ps.map fun p=>p.data.toList))
def small (ps:List BA):Prop:=∀ p∈ps,p.size≤8192
theorem FB_nil:FB [] = .empty:=ba_eq rfl
theorem FB_list (ps:List BA):(FB ps).data.toList=framesL ckL (ps.map fun p=>p.data.toList):=rfl
theorem FB_append (ps qs:List BA):FB (ps++qs)=FB ps++FB qs:=ba_eq (by rw [ba_app,FB_list,FB_list,FB_list,List.map_append,framesL_append])
theorem FB_size_append (ps qs:List BA):(FB (ps++qs)).size=(FB ps).size+(FB qs).size:=by rw [FB_append,ByteArray.size_append]
theorem FB_take_le (ps:List BA) (j:Nat):(FB (ps.take j)).size≤(FB ps).size:=by
 conv=>rhs;rw [←List.take_append_drop j ps]
 rw [FB_size_append]
 omega
theorem FB_take_mono (ps:List BA) {i j:Nat} (h:i≤j):(FB (ps.take i)).size≤(FB (ps.take j)).size:=by
 have:=FB_take_le (ps.take j) i
 rwa [List.take_take,Nat.min_eq_left h] at this
theorem back_map (ps:List BA):(ps.map fun p=>p.data.toList).map strL=ps:=by
 rw [List.map_map]
 conv=>rhs;rw [←List.map_id ps]
 exact List.map_congr_left fun p _=>list_strL p
theorem framed_small {ps:List BA} (h:small ps):framedM ps=(FB ps,0):=by
 unfold framedM
 rw [if_pos (List.all_eq_true.2 fun p hp=>decide_eq_true (h p hp))]
 rfl
theorem small_map {ps:List BA} (h:small ps):∀ p∈ps.map (fun p=>p.data.toList),p.length≤8192:=fun p hp=>by
 obtain ⟨q,hq,rfl⟩:=List.mem_map.1 hp
 rw [size_data]
 exact h q hq
theorem whole_FB {ps:List BA} (h:small ps):wholeM (FB ps)=(ps,(FB ps).size):=by
 have:=whole_frames ckL_len (ps.map fun p=>p.data.toList) [] (small_map h)
 rw [List.append_nil,wholeL_none (l:=[]) rfl] at this
 unfold wholeM
 rw [FB_list,this]
 simp only [List.append_nil,Nat.add_zero,back_map]
 rw [←FB_list,size_data]
theorem wholeB_FB {ps:List BA} (h:small ps):wholeB (FB ps)=true:=by
 unfold wholeB
 rw [whole_FB h]
 exact decide_eq_true rfl
theorem whole_torn {ps:List BA} (h:small ps) {l r:BA} (e:l++r=FB ps):∃ k,k≤ps.length∧wholeM l=(ps.take k,(FB (ps.take k)).size)∧(FB (ps.take k)).size≤l.size∧∀ j,j≤ps.length→(FB (ps.take j)).size≤l.size→j≤k:=by
 have e2:l.data.toList++r.data.toList=framesL ckL (ps.map fun p=>p.data.toList):=by rw [←ba_app,e];rfl
 obtain ⟨k,hk,hw,hmax⟩:=whole_cut ckL_len _ _ _ (small_map h) e2
 rw [List.length_map] at hk hmax
 have hs:∀ j,(framesL ckL ((ps.map fun p=>p.data.toList).take j)).length=(FB (ps.take j)).size:=fun j=>by
  rw [←List.map_take]
  exact (size_data (FB (ps.take j))).symm ▸ rfl
 refine ⟨k,hk,?_,?_,fun j hj hle=>hmax j hj ?_⟩
 · unfold wholeM
   rw [hw,hs]
   simp only [←List.map_take,back_map]
 · have:=(whole_len l).2
   unfold wholeM at this
   rw [hw] at this
   simp only [hs] at this
   exact this
 rw [hs,size_data]
 exact hle
theorem torn_take {ps:List BA} {l r:BA} (e:l++r=FB ps) {k:Nat} (h:(FB (ps.take k)).size≤l.size):l.extract 0 (FB (ps.take k)).size=FB (ps.take k):=by
 refine ba_eq ?_
 rw [ext_l,List.drop_zero]
 have e2:l.data.toList++r.data.toList=(FB (ps.take k)).data.toList++(FB (ps.drop k)).data.toList:=by rw [←ba_app,e,←ba_app,←FB_append,List.take_append_drop]
 have e3:=congrArg (fun x=>x.take (FB (ps.take k)).size) e2
 rw [List.take_append_of_le_length (by rw [size_data];exact h)] at e3
 rw [e3,←size_data,List.take_left]
def full (L:List Fl) (names:List BA) (Ps:List (List BA)):Prop:=names.map (lk L)=Ps.map fun ps=>some (FB ps,((FB ps).size:Int))
structure Torn (L:List Fl) (b t:Nat) (init:List (List BA)) (last:List BA) (l:BA) (s:Int):Prop where
 rise:riseF L
 lay:Lay (L.map (·.n)) b t
 few:(segsM b t).length≤15
 smalls:(∀ ps∈init,small ps)∧small last
 zero:t=0→full L (segsM b 0) init∧last=[]
 more:0<t→full L (segsM b (t-1)) init∧lk L (nmB 115 (b+t))=some (l,s)∧∃ r,l++r=FB last
theorem segs_succ {b t:Nat} (h:0<t):segsM b t=segsM b (t-1)++[nmB 115 (b+t)]:=by
 obtain ⟨k,rfl⟩:∃ k,t=k+1:=⟨t-1,by omega⟩
 unfold segsM
 rw [List.range_succ,List.map_append,←List.append_assoc,Nat.add_sub_cancel]
 simp only [List.map_cons,List.map_nil]
 rw [show b+1+k=b+(k+1) by omega]
theorem names_fl (D:DK):namesD D=D.files.map (·.n):=rfl
theorem read_lk {D:DK} (h:D.down=false) (hs:riseF D.files) (x:BA):(readD D x).1=match lk D.files x with | some v=>v.1 | none=>.empty:=by
 unfold readD
 rw [h,if_neg (by decide),lk_has]
 cases hl:lk D.files x with
 | none=>rfl
 |
  some v =>
  obtain ⟨hi,he⟩:=lk_at hs hl
  simp only [Option.isSome_some,if_true]
  rw [getF_eq hi,he]
theorem data_full {D:DK} (h:D.down=false) (hs:riseF D.files) {names:List BA} {Ps:List (List BA)} (hf:full D.files names Ps):(names.map fun x=>(readD D x).1)=Ps.map FB:=by
 unfold full at hf
 induction names generalizing Ps with
 |
  nil =>
  cases Ps with
  | nil=>rfl
  | cons p Ps=>simp at hf
 |
  cons x names ih =>
  cases Ps with
  | nil=>simp at hf
  |
   cons p Ps =>
   simp only [List.map_cons,List.cons.injEq] at hf
   simp only [List.map_cons]
   rw [ih hf.2,read_lk h hs,hf.1]
theorem Torn.data {D:DK} {b t:Nat} {init:List (List BA)} {last:List BA} {l:BA} {s:Int} (H:Torn D.files b t init last l s) (hu:D.down=false):dataD D=init.map FB++if 0<t then [l] else []:=by
 unfold dataD
 rw [names_fl,H.lay.base,H.lay.tails]
 rcases Nat.eq_zero_or_pos t with h0 | h0
 · rw [if_neg (by omega),List.append_nil]
   subst h0
   exact data_full hu H.rise (H.zero rfl).1
 rw [if_pos h0,segs_succ h0,List.map_append,data_full hu H.rise (H.more h0).1]
 congr 1
 simp only [List.map_cons,List.map_nil]
 rw [read_lk hu H.rise,(H.more h0).2.1]
theorem Torn.okSeg {D:DK} {b t:Nat} {init:List (List BA)} {last:List BA} {l:BA} {s:Int} (H:Torn D.files b t init last l s) (hu:D.down=false):okSeg t (dataD D)=true:=by
 rw [H.data hu]
 have h1:∀ x∈init.map FB,wholeB x=true:=fun x hx=>by
  obtain ⟨ps,hp,rfl⟩:=List.mem_map.1 hx
  exact wholeB_FB (H.smalls.1 ps hp)
 rcases Nat.eq_zero_or_pos t with h0 | h0
 · rw [if_neg (by omega),List.append_nil]
   exact okSeg_yes h1
 rw [if_pos h0]
 unfold Proofs.YtnhoidnmlibcpaaGreatDoor.okSeg
 rw [List.dropLast_concat]
 simp only [Bool.and_eq_true,Bool.or_eq_true,decide_eq_true_eq]
 exact ⟨List.all_eq_true.2 h1,.inl h0⟩
theorem pay_FB {Ps:List (List BA)} (h:∀ ps∈Ps,small ps):payM (Ps.map FB)=Ps.flatten:=by
 unfold payM
 induction Ps with
 | nil=>rfl
 |
  cons ps Ps ih =>
  simp only [List.map_cons,List.flatMap_cons,List.flatten_cons]
  rw [ih fun q hq=>h q (List.mem_cons_of_mem _ hq),whole_FB (h ps List.mem_cons_self)]
/-! removals -/
theorem rem_calm {D:DK} (_hD:okD D) (hu:D.down=false) (hf:D.fails=none) {x:BA} {v:BA × Int} (h:lk D.files x=some v):remD D x=(⟨D.most,D.starts,false,D.files.eraseIdx (posF D.files x),none,D.keep⟩,0):=by
 unfold remD
 rw [hu,if_neg (by decide),lk_has,h]
 simp only [Option.isSome_some,if_true]
 unfold chg
 rw [hf,hu]
theorem rem_all:∀ {S:List BA} {D:DK},okD D→D.down=false→D.fails=none→S.Nodup→(∀ x∈S,∃ v,lk D.files x=some v) →
 (runD (remL S) D).2=0∧okD (runD (remL S) D).1∧(runD (remL S) D).1.down=false∧(runD (remL S) D).1.fails=none∧(runD (remL S) D).1.starts=D.starts∧(runD (remL S) D).1.most=D.most∧(runD (remL S) D).1.keep=D.keep∧∀ z,lk (runD (remL S) D).1.files z=if memB S z then none else lk D.files z
 | [],D,h1,h2,h3,_,_=>⟨rfl,h1,h2,h3,rfl,rfl,rfl,fun z=>rfl⟩
 |
  x::S,D,h1,h2,h3,h4,h5=>by
  obtain ⟨v,hv⟩:=h5 x List.mem_cons_self
  have e:=rem_calm h1 h2 h3 hv
  obtain ⟨n1,n2⟩:=List.nodup_cons.1 h4
  have hl:∀ z,lk (D.files.eraseIdx (posF D.files x)) z=if z=x then none else lk D.files z:=lk_erase h1.rise hv
  have hok:okD (⟨D.most,D.starts,false,D.files.eraseIdx (posF D.files x),none,D.keep⟩:DK):=by
   have:=rem_ok h1 x
   rwa [e] at this
  obtain ⟨i1,i2,i3,i4,i5,i6,i7,i8⟩:=rem_all (S:=S) hok rfl rfl n2 (fun y hy=>by
   obtain ⟨w,hw⟩:=h5 y (List.mem_cons_of_mem _ hy)
   exact ⟨w,by rw [hl,if_neg (fun q=>n1 (by rw [←q];exact hy))];exact hw⟩)
  have er:runD (remL (x::S)) D=runD (remL S) ⟨D.most,D.starts,false,D.files.eraseIdx (posF D.files x),none,D.keep⟩:=by
   show runD ((fun D=>remD D x)::remL S) D=_
   rw [runD]
   simp only [e,if_true]
  rw [er]
  refine ⟨i1,i2,i3,i4,i5,i6,i7,fun z=>?_⟩
  rw [i8,hl]
  have em:memB (x::S) z=(decide (x=z) || memB S z):=rfl
  rw [em]
  by_cases hx:z=x
  · rw [if_pos hx,decide_eq_true hx.symm]
    simp
  rw [if_neg hx,decide_eq_false (fun q=>hx q.symm),Bool.false_or]
theorem mem_names {L:List Fl} {x:BA}:x∈L.map (·.n)↔lk L x≠none:=by
 rw [Ne,lk_none]
 constructor
 · intro h q
   obtain ⟨f,hf,e⟩:=List.mem_map.1 h
   exact q f hf e
 intro h
 refine Classical.byContradiction fun q=>h fun f hf e=>q (List.mem_map.2 ⟨f,hf,e⟩)
theorem full_congr {L L':List Fl} {names:List BA} {Ps:List (List BA)} (h:∀ x∈names,lk L' x=lk L x) (H:full L names Ps):full L' names Ps:=by
 unfold full at H ⊢
 rw [←H]
 exact List.map_congr_left h
theorem full_has {L:List Fl} {names:List BA} {Ps:List (List BA)} (H:full L names Ps) {x:BA} (h:x∈names):∃ ps∈Ps,lk L x=some (FB ps,((FB ps).size:Int)):=by
 unfold full at H
 have h1:lk L x∈names.map (lk L):=List.mem_map.2 ⟨x,h,rfl⟩
 rw [H] at h1
 obtain ⟨ps,hp,e⟩:=List.mem_map.1 h1
 exact ⟨ps,hp,e.symm⟩
theorem seg_in {b t:Nat} (h:0<t) {x:BA} (hx:x∈segsM b (t-1)):x∈segsM b t∧x≠nmB 115 (b+t):=by
 rw [segs_succ h]
 refine ⟨List.mem_append_left _ hx,fun e=>?_⟩
 have:=segs_nodup b t
 rw [segs_succ h,List.nodup_append] at this
 exact this.2.2 x hx _ (List.mem_singleton_self _) e
theorem Torn.move {L L':List Fl} {b t:Nat} {init:List (List BA)} {last last':List BA} {l l':BA} {s s':Int} (H:Torn L b t init last l s) (hr:riseF L') (hsegs:∀ x∈segsM b t,(0<t→x≠nmB 115 (b+t))→lk L' x=lk L x)
 (hend:0<t→lk L' (nmB 115 (b+t))=some (l',s')) (hall:∀ x,lk L' x≠none→x∈segsM b t∨staleB b x=true) (hsm:small last') (hl:0<t→∃ r,l'++r=FB last') (h0:t=0→last'=[]):Torn L' b t init last' l' s':=by
 refine ⟨hr,⟨H.lay.few,fun x hx=>mem_names.2 ?_,fun x hx=>hall x (mem_names.1 hx)⟩,H.few,⟨H.smalls.1,hsm⟩,fun ht=>⟨?_,h0 ht⟩,fun ht=>⟨?_,hend ht,hl ht⟩⟩
 · by_cases hq:0<t∧x=nmB 115 (b+t)
   · rw [hq.2,hend hq.1]
     simp
   rw [hsegs x hx fun ht e=>hq ⟨ht,e⟩]
   exact mem_names.1 (H.lay.segs x hx)
 · subst ht
   exact full_congr (fun x hx=>hsegs x hx fun q=>absurd q (by decide)) (H.zero rfl).1
 exact full_congr (fun x hx=>hsegs x (seg_in ht hx).1 fun _=>(seg_in ht hx).2) (H.more ht).1
theorem extract_all (x:BA):x.extract 0 x.size=x:=ba_eq (by rw [ext_l,List.drop_zero,←size_data,List.take_length])
theorem Torn.crash {L:List Fl} {b t:Nat} {init:List (List BA)} {last:List BA} {l:BA} {s:Int} (H:Torn L b t init last l s) (hL:∀ f∈L,0≤f.s∧f.s≤f.d.size) (K:List Int) :
 ∃ l':BA,Torn (crashF L K) b t init last l' (l'.size:Nat)∧(0<t→s≤(l'.size:Nat)):=by
 have hr:riseF (crashF L K):=riseF_names (crashF_names L K) H.rise
 have hfull:∀ x,(∃ d:BA,lk L x=some (d,(d.size:Int)))→lk (crashF L K) x=lk L x:=fun x ⟨d,hd⟩=>by
  rcases lk_crash hL K x with ⟨_,h2⟩ | ⟨v,w,h1,h2,k,h3,h4,h5⟩
  · rw [hd] at h2
    cases h2
  rw [hd] at h1
  cases h1
  obtain rfl:k=d.size:=by simp only at h3 h4;omega
  rw [h2,h5,hd]
  simp only
  rw [extract_all]
 have hsegs:∀ x∈segsM b t,(0<t→x≠nmB 115 (b+t))→lk (crashF L K) x=lk L x:=fun x hx hne=>by
  refine hfull x ?_
  rcases Nat.eq_zero_or_pos t with h0 | h0
  · subst h0
    obtain ⟨ps,_,e⟩:=full_has (H.zero rfl).1 hx
    exact ⟨_,e⟩
  rw [segs_succ h0] at hx
  rcases List.mem_append.1 hx with hx | hx
  · obtain ⟨ps,_,e⟩:=full_has (H.more h0).1 hx
    exact ⟨_,e⟩
  exact absurd (List.mem_singleton.1 hx) (hne h0)
 have hall:∀ x,lk (crashF L K) x≠none→x∈segsM b t∨staleB b x=true:=fun x hx=>by
  refine H.lay.all x (mem_names.2 ?_)
  rcases lk_crash hL K x with ⟨h1,_⟩ | ⟨v,w,h1,_⟩
  · exact absurd h1 hx
  rw [h1]
  simp
 rcases Nat.eq_zero_or_pos t with h0 | h0
 · exact ⟨.empty,H.move hr hsegs (fun q=>by omega) hall H.smalls.2 (fun q=>by omega) (fun _=>(H.zero h0).2),fun q=>by omega⟩
 obtain ⟨h1,h2,r,h3⟩:=H.more h0
 rcases lk_crash hL K (nmB 115 (b+t)) with ⟨_,h4⟩ | ⟨v,w,h4,h5,k,h6,h7,h8⟩
 · rw [h2] at h4
   cases h4
 rw [h2] at h4
 cases h4
 simp only at h6 h7
 have hk:(l.extract 0 k).size=k:=by rw [ByteArray.size_extract];omega
 refine ⟨l.extract 0 k,H.move hr hsegs (fun _=>by rw [h5,h8,hk]) hall H.smalls.2 (fun _=>⟨l.extract k l.size++r,?_⟩) (fun q=>by omega),fun _=>by rw [hk];exact h6⟩
 rw [←h3]
 refine ba_eq ?_
 rw [ba_app,ba_app,ba_app,ext_l,ext_l,←size_data,List.take_length,List.drop_zero,←List.append_assoc,List.take_append_drop]
structure Live (W:WK) (D:DK) (init:List (List BA)) (last:List BA) (j:Nat):Prop where
 ok:okD D
 up:D.down=false
 st:D.starts=W.s
 nb:W.bad=false
 torn:∃ s:Int,Torn D.files W.b W.t init last (FB last) s∧(0<W.t→((FB (last.take j)).size:Int)≤s)
 few:j≤last.length
 bare:∀ x,lk D.files x≠none→x∈segsM W.b W.t
theorem Live.names {W:WK} {D:DK} {init:List (List BA)} {last:List BA} {j:Nat} (H:Live W D init last j):Bare (namesD D) W.b W.t:=by
 obtain ⟨s,h,_⟩:=H.torn
 exact ⟨h.lay.few,fun x=>⟨fun hx=>H.bare x (mem_names.1 hx),fun hx=>h.lay.segs x hx⟩⟩
theorem Live.okW {W:WK} {D:DK} {init:List (List BA)} {last:List BA} {j:Nat} (H:Live W D init last j):Proofs.YtnhoidnmlibcpaaGreatDoor.okW W:=H.names.1
theorem Live.ask {W:WK} {D:DK} {init:List (List BA)} {last:List BA} {j:Nat} (H:Live W D init last j):askW W.s W.bad D=0:=by
 unfold askW
 rw [H.nb,H.up,H.st]
 simp
theorem rise_nodup {L:List Fl} (h:riseF L):(L.map (·.n)).Nodup:=by
 refine List.Pairwise.map _ ?_ h
 exact fun a b hab=>hab.ne
theorem Live.len {W:WK} {D:DK} {init:List (List BA)} {last:List BA} {j:Nat} (H:Live W D init last j):D.files.length=(segsM W.b W.t).length:=by
 have h1:=H.names
 have h2:=((List.perm_ext_iff_of_nodup (rise_nodup H.ok.rise) (segs_nodup W.b W.t)).2 h1.2).length_eq
 rwa [List.length_map] at h2
theorem Live.opens {W:WK} {D:DK} {init:List (List BA)} {last:List BA} {j:Nat} (H:Live W D init last j):openD D=(D,0,⟨D.starts,false,W.b,W.t⟩,init.flatten++last):=by
 obtain ⟨s,hT,_⟩:=H.torn
 have hb:=H.names
 unfold openD
 rw [H.up,if_neg (by decide),if_neg]
 · rw [hb.stale]
   have hd:=hT.data H.up
   have hc:cutM (dataD D)=none:=by
    rw [hd]
    refine cutM_no fun x hx=>?_
    rcases List.mem_append.1 hx with hx | hx
    · obtain ⟨ps,hp,rfl⟩:=List.mem_map.1 hx
      exact wholeB_FB (hT.smalls.1 ps hp)
    split at hx
    · rw [List.mem_singleton.1 hx]
      exact wholeB_FB hT.smalls.2
    cases hx
   have hp:payM (dataD D)=init.flatten++last:=by
    rw [hd]
    split
    · have:init.map FB++[FB last]=(init++[last]).map FB:=by simp
      rw [this,pay_FB (fun ps hps=>by
       rcases List.mem_append.1 hps with h | h
       · exact hT.smalls.1 ps h
       rw [List.mem_singleton.1 h];exact hT.smalls.2)]
      simp
    rename_i ht
    rw [(hT.zero (by omega)).2,List.append_nil,List.append_nil,pay_FB hT.smalls.1]
   simp only [remL,List.map_nil,runD,hc,hp,ne_eq,not_true_eq_false,if_false]
   rw [names_fl,hT.lay.base,hT.lay.tails]
 rw [names_fl,hT.lay.okN,hT.lay.tails,hT.okSeg H.up]
 decide
theorem Torn.opens {D:DK} {b t:Nat} {init:List (List BA)} {last:List BA} {l:BA} {s:Int} (hD:okD D) (hu:D.down=false) (hf:D.fails=none) (H:Torn D.files b t init last l s) (_hs:0<t→0≤s∧s≤(l.size:Nat)) :
 ∃ (k:Nat) (D':DK),k≤last.length∧(0<t→(FB (last.take k)).size≤l.size)∧(∀ j,j≤last.length→(0<t→(FB (last.take j)).size≤l.size)→j≤k)∧openD D=(D',0,⟨D.starts,false,b,t⟩,init.flatten++last.take k)∧D'.fails=none∧D'.most=D.most∧D'.keep=D.keep ∧
  ∀ j,j≤k→(0<t→((FB (last.take j)).size:Int)≤s)→Live ⟨D.starts,false,b,t⟩ D' init (last.take k) j:=by
 have hst:=H.lay.stale
 have hnd:(D.files.map (·.n)).Nodup:=rise_nodup H.rise
 obtain ⟨S,hS⟩:∃ S,S=staleM (namesD D):=⟨_,rfl⟩
 have hSm:∀ x,x∈S↔lk D.files x≠none∧staleB b x=true:=fun x=>by
  rw [hS,names_fl,hst,List.mem_filter,mem_names]
 obtain ⟨r1,r2,r3,r4,r5,r6,r7,r8⟩:=rem_all (S:=S) hD hu hf (by rw [hS,names_fl,hst];exact hnd.filter _) (fun x hx=>Option.ne_none_iff_exists'.1 ((hSm x).1 hx).1)
 obtain ⟨D1,hD1⟩:∃ D1,D1=(runD (remL S) D).1:=⟨_,rfl⟩
 rw [←hD1] at r2 r3 r4 r5 r6 r7 r8
 have hseg:∀ x∈segsM b t,lk D1.files x=lk D.files x:=fun x hx=>by
  rw [r8,if_neg]
  intro q
  have:=((hSm x).1 (memB_iff.1 q)).2
  rw [seg_fresh H.lay.few hx] at this
  cases this
 have hbare:∀ x,lk D1.files x≠none→x∈segsM b t:=fun x hx=>by
  rw [r8] at hx
  split at hx
  · exact absurd rfl hx
  rename_i hq
  rcases H.lay.all x (mem_names.2 hx) with h | h
  · exact h
  exact absurd (memB_iff.2 ((hSm x).2 ⟨hx,h⟩)) hq
 have hdat:=H.data hu
 have fin:∀ (k:Nat) (D':DK),k≤last.length→(t=0→k=0)→okD D'→D'.down=false→D'.starts=D.starts→(∃ s':Int,(0<t→lk D'.files (nmB 115 (b+t))=some (FB (last.take k),s')∧∀ j,j≤k→((FB (last.take j)).size:Int)≤s→((FB (last.take j)).size:Int)≤s')) →
  (∀ x∈segsM b t,(0<t→x≠nmB 115 (b+t))→lk D'.files x=lk D.files x)→(∀ x,lk D'.files x≠none→x∈segsM b t)→∀ j,j≤k→(0<t→((FB (last.take j)).size:Int)≤s)→Live ⟨D.starts,false,b,t⟩ D' init (last.take k) j:=by
  intro k D' hk hk0 h1 h2 h3 ⟨s',h4⟩ h5 h6 j hj hjs
  refine ⟨h1,h2,h3,rfl,⟨s',?_,fun ht=>?_⟩,by rw [List.length_take];omega,h6⟩
  · refine H.move h1.rise h5 (fun ht=>(h4 ht).1) (fun x hx=>.inl (h6 x hx)) (fun p hp=>H.smalls.2 p (List.mem_of_mem_take hp)) (fun ht=>⟨.empty,?_⟩) (fun ht=>by rw [hk0 ht];rfl)
    exact ba_eq (by rw [ba_app];simp)
  rw [List.take_take,Nat.min_eq_left hj]
  exact (h4 ht).2 j hj (hjs ht)
 have hinit:∀ x∈init.map FB,wholeB x=true:=fun x hx=>by
  obtain ⟨ps,hp,rfl⟩:=List.mem_map.1 hx
  exact wholeB_FB (H.smalls.1 ps hp)
 have hopen:∀ (k:Nat) (D':DK),payM (dataD D)=init.flatten++last.take k→((cutM (dataD D)=none∧D'=D1)∨∃ z:Nat,cutM (dataD D)=some z∧truncD D1 (endM b t) (z:Nat)=(D',0))→openD D=(D',0,⟨D.starts,false,b,t⟩,init.flatten++last.take k):=by
  intro k D' hp hc
  unfold openD
  rw [hu,if_neg (by decide),if_neg]
  · rw [←hS]
    simp only [r1,ne_eq,not_true_eq_false,if_false]
    rw [←hD1,names_fl,H.lay.base,H.lay.tails,hp]
    rcases hc with ⟨hc,rfl⟩ | ⟨z,hc,hz⟩
    · rw [hc]
    rw [hc]
    simp only [hz]
  rw [names_fl,H.lay.okN,H.lay.tails,H.okSeg hu]
  decide
 rcases Nat.eq_zero_or_pos t with h0 | h0
 · obtain ⟨hf0,hl0⟩:=H.zero h0
   subst hl0
   rw [if_neg (by omega),List.append_nil] at hdat
   refine ⟨0,D1,Nat.zero_le _,fun q=>by omega,fun j hj _=>hj,hopen 0 D1 ?_ (.inl ⟨by rw [hdat];exact cutM_no hinit,rfl⟩),r4,r6,r7,fin 0 D1 (Nat.zero_le _) (fun _=>rfl) r2 r3 r5 ⟨0,fun q=>by omega⟩ (fun x hx _=>hseg x hx) hbare⟩
   rw [hdat,pay_FB H.smalls.1]
   simp
 obtain ⟨hfm,hle,r,hr⟩:=H.more h0
 rw [if_pos h0] at hdat
 obtain ⟨k,hk,hw,hkl,hmax⟩:=whole_torn H.smalls.2 hr
 have hkf:=torn_take hr hkl
 have hpay:payM (dataD D)=init.flatten++last.take k:=by
  rw [hdat]
  unfold payM
  rw [List.flatMap_append]
  have:=pay_FB H.smalls.1
  unfold payM at this
  rw [this]
  simp [hw]
 have hend:endM b t=nmB 115 (b+t):=by unfold endM;rw [if_neg (by omega)]
 have hmemE:nmB 115 (b+t)∈segsM b t:=by rw [segs_succ h0];exact List.mem_append_right _ (List.mem_singleton_self _)
 have hle1:lk D1.files (nmB 115 (b+t))=some (l,s):=by rw [hseg _ hmemE];exact hle
 have hlast:(dataD D).getLast? = some l:=by rw [hdat];simp
 by_cases hz:(FB (last.take k)).size=l.size
 · have hl:l=FB (last.take k):=by rw [←hkf,hz,extract_all]
   refine ⟨k,D1,hk,fun _=>hkl,fun j hj hjl=>hmax j hj (hjl h0),hopen k D1 hpay (.inl ⟨?_,rfl⟩),r4,r6,r7,fin k D1 hk (fun q=>by omega) r2 r3 r5 ⟨s,fun _=>⟨by rw [←hl];exact hle1,fun j _ h=>h⟩⟩ (fun x hx _=>hseg x hx) hbare⟩
   unfold cutM
   rw [hlast]
   simp only
   rw [if_pos]
   unfold wholeB
   rw [hw]
   exact decide_eq_true hz
 have hcut:cutM (dataD D)=some (FB (last.take k)).size:=by
  unfold cutM
  rw [hlast]
  simp only
  rw [if_neg,hw]
  unfold wholeB
  rw [hw]
  simpa using hz
 obtain ⟨hi,he⟩:=lk_at r2.rise hle1
 have htr:truncD D1 (nmB 115 (b+t)) ((FB (last.take k)).size:Nat)=(⟨D1.most,D1.starts,false,setF D1.files (nmB 115 (b+t)) fun f=>⟨f.n,f.d.extract 0 (((FB (last.take k)).size:Nat):Int).toNat,min f.s ((FB (last.take k)).size:Nat)⟩,none,D1.keep⟩,0):=by
  unfold truncD
  rw [r3,if_neg (by decide),lk_has,hle1]
  simp only [Option.isSome_some,if_true]
  rw [getF_eq hi,he,if_neg (by simp only;omega)]
  unfold chg
  rw [r4,r3]
 obtain ⟨D2,hD2⟩:∃ D2,D2=(truncD D1 (nmB 115 (b+t)) ((FB (last.take k)).size:Nat)).1:=⟨_,rfl⟩
 have hok2:okD D2:=by rw [hD2];exact trunc_ok r2 _ _
 rw [htr] at hD2
 have hl2:∀ z,lk D2.files z=if z=nmB 115 (b+t) then some (FB (last.take k),min s ((FB (last.take k)).size:Nat)) else lk D1.files z:=fun z=>by
  rw [hD2]
  simp only
  rw [lk_setF r2.rise hle1 (g:=fun f=>⟨f.n,f.d.extract 0 (((FB (last.take k)).size:Nat):Int).toNat,min f.s ((FB (last.take k)).size:Nat)⟩) (fun _=>rfl)]
  simp only [Int.toNat_natCast,hkf]
 refine ⟨k,D2,hk,fun _=>hkl,fun j hj hjl=>hmax j hj (hjl h0),hopen k D2 hpay (.inr ⟨_,hcut,by rw [hend,htr,hD2]⟩),by rw [hD2],by rw [hD2];exact r6,by rw [hD2];exact r7,fin k D2 hk (fun q=>by omega) hok2 (by rw [hD2]) (by rw [hD2];exact r5) ⟨min s ((FB (last.take k)).size:Nat),fun _=>⟨by rw [hl2,if_pos rfl],fun j hj h=>?_⟩⟩ (fun x hx hne=>by rw [hl2,if_neg (hne h0),hseg x hx]) (fun x hx=>?_)⟩
 · have:=FB_take_mono last hj
   omega
 rw [hl2] at hx
 split at hx
 · rename_i e
   rw [e]
   exact hmemE
 exact hbare x hx
structure Brk (D:DK) (longer:List BA) (sure:Nat):Prop where
 ok:okD D
 down:D.down=true
 fails:D.fails=none
 torn:∃ b t init last l j,Torn D.files b t init last l (l.size:Nat)∧j≤last.length∧(0<t→(FB (last.take j)).size≤l.size)∧sure≤init.flatten.length+j∧(init.flatten++last) <+: longer
theorem chg_cases {D:DK} (hu:D.down=false) (late:Bool) (L2:List Fl):(∃ fl,(D.fails=none→fl=none)∧chg D late L2=(⟨D.most,D.starts,false,L2,fl,D.keep⟩,0))∨(D.fails≠none∧chg D late L2=(⟨D.most,D.starts,true,crashF (if late then L2 else D.files) D.keep,none,D.keep⟩,41)):=by
 unfold chg
 split
 · exact .inl ⟨none,fun _=>rfl,by rw [hu]⟩
 rename_i q hq
 split
 · exact .inl ⟨some (q-1),fun h=>by (rw [hq] at h;cases h),by rw [hu]⟩
 exact .inr ⟨by rw [hq];simp,rfl⟩
theorem Brk.of {_D:DK} {K:List Int} {L:List Fl} {D':DK} (h1:okD D') (h2:D'.down=true) (h3:D'.fails=none) (h4:D'.files=crashF L K) (hL:∀ f∈L,0≤f.s∧f.s≤f.d.size)
 {b t:Nat} {init:List (List BA)} {last:List BA} {s:Int} (H:Torn L b t init last (FB last) s) {j:Nat} (hj:j≤last.length) (hjs:0<t→((FB (last.take j)).size:Int)≤s) {longer:List BA} {sure:Nat} (hs:sure≤init.flatten.length+j) (hp:(init.flatten++last) <+: longer):Brk D' longer sure:=by
 obtain ⟨l',h5,h6⟩:=H.crash hL K
 refine ⟨h1,h2,h3,b,t,init,last,l',j,by rw [h4];exact h5,hj,fun ht=>?_,hs,hp⟩
 have:=h6 ht
 have:=hjs ht
 omega
theorem Live.last {W:WK} {D:DK} {init:List (List BA)} {last:List BA} {j:Nat} (H:Live W D init last j) (ht:0<W.t):∃ s:Int,lk D.files (nmB 115 (W.b+W.t))=some (FB last,s)∧((FB (last.take j)).size:Int)≤s∧s≤(FB last).size∧full D.files (segsM W.b (W.t-1)) init:=by
 obtain ⟨s,hT,hjs⟩:=H.torn
 obtain ⟨h1,h2,_⟩:=hT.more ht
 exact ⟨s,h2,hjs ht,(H.ok.sure _ (lk_mem h2)).2,h1⟩
theorem Live.sync {W:WK} {D:DK} {init:List (List BA)} {last:List BA} {j:Nat} (H:Live W D init last j) (ht:0<W.t) :
 ((syncD D (nmB 115 (W.b+W.t))).2=0∧Live W (syncD D (nmB 115 (W.b+W.t))).1 init last last.length∧(∀ x,(lk (syncD D (nmB 115 (W.b+W.t))).1.files x).map (·.1)=(lk D.files x).map (·.1))∧(D.fails=none→(syncD D (nmB 115 (W.b+W.t))).1.fails=none)) ∨
 (D.fails≠none∧(syncD D (nmB 115 (W.b+W.t))).2=41∧Brk (syncD D (nmB 115 (W.b+W.t))).1 (init.flatten++last) (init.flatten.length+j)):=by
 obtain ⟨s,hT,hjs⟩:=H.torn
 obtain ⟨s0,hl,_,_,hf⟩:=H.last ht
 have hok:=sync_ok H.ok (nmB 115 (W.b+W.t))
 have e:syncD D (nmB 115 (W.b+W.t))=chg D false (setF D.files (nmB 115 (W.b+W.t)) fun f=>⟨f.n,f.d,(f.d.size:Nat)⟩):=by
  unfold syncD
  rw [H.up,if_neg (by decide),lk_has,hl]
  rfl
 rw [e] at hok ⊢
 have hl2:∀ z,lk (setF D.files (nmB 115 (W.b+W.t)) fun f=>⟨f.n,f.d,(f.d.size:Nat)⟩) z=if z=nmB 115 (W.b+W.t) then some (FB last,((FB last).size:Int)) else lk D.files z:=fun z=>lk_setF H.ok.rise hl (g:=fun f=>⟨f.n,f.d,(f.d.size:Nat)⟩) (fun _=>rfl) z
 rcases chg_cases H.up false (setF D.files (nmB 115 (W.b+W.t)) fun f=>⟨f.n,f.d,(f.d.size:Nat)⟩) with ⟨fl,hfl,ec⟩ | ⟨hfn,ec⟩
 · left
   rw [ec] at hok ⊢
   have hb:∀ x,lk (setF D.files (nmB 115 (W.b+W.t)) fun f=>⟨f.n,f.d,(f.d.size:Nat)⟩) x≠none→x∈segsM W.b W.t:=fun x hx=>by
    rw [hl2] at hx
    split at hx
    · rename_i e
      rw [e,segs_succ ht]
      exact List.mem_append_right _ (List.mem_singleton_self _)
    exact H.bare x hx
   refine ⟨rfl,⟨hok,rfl,H.st,H.nb,⟨((FB last).size:Nat),?_,fun _=>by rw [List.take_length];exact Int.le_refl _⟩,Nat.le_refl _,hb⟩,fun x=>?_,hfl⟩
   · refine hT.move hok.rise (fun x _ hne=>by rw [hl2,if_neg (hne ht)]) (fun _=>by rw [hl2,if_pos rfl]) (fun x hx=>.inl (hb x hx)) hT.smalls.2 (fun _=>⟨.empty,ba_eq (by rw [ba_app];simp)⟩) (fun h0=>by omega)
   simp only
   rw [hl2]
   split
   · rename_i e
     rw [e,hl]
     rfl
   rfl
 right
 rw [ec] at hok ⊢
 exact ⟨hfn,rfl,Brk.of (_D:=D) hok rfl rfl rfl H.ok.sure hT H.few hjs (Nat.le_refl _) List.prefix_rfl⟩
theorem FB_add (ps qs:List BA):FB ps++FB qs=FB (ps++qs):=(FB_append ps qs).symm
theorem nm_odd {c:UInt8} {n:Nat} (h:n≤9999999999):oddS (nmB c n)=false:=by
 have h1:=nmB_size c n h
 have h2:=nmB_pos c n
 unfold oddS
 simp only [Bool.or_eq_false_iff,decide_eq_false_iff_not]
 omega
theorem Live.put {W:WK} {D:DK} {init:List (List BA)} {last:List BA} {j:Nat} (H:Live W D init last j) (ht:0<W.t) {ps:List BA} (hp:small ps) :
 (D.most-sumD D.files<((FB ps).size:Int)∧appD D (nmB 115 (W.b+W.t)) (FB ps)=(D,40)) ∨
 ((appD D (nmB 115 (W.b+W.t)) (FB ps)).2=0∧Live W (appD D (nmB 115 (W.b+W.t)) (FB ps)).1 init (last++ps) j∧(D.fails=none→(appD D (nmB 115 (W.b+W.t)) (FB ps)).1.fails=none)) ∨
 (D.fails≠none∧(appD D (nmB 115 (W.b+W.t)) (FB ps)).2=41∧Brk (appD D (nmB 115 (W.b+W.t)) (FB ps)).1 (init.flatten++last++ps) (init.flatten.length+j)):=by
 obtain ⟨s0,hl,hjs,hs0,hf⟩:=H.last ht
 obtain ⟨s,hT,_⟩:=H.torn
 have hfew:=H.few
 have hok:=app_ok H.ok (nmB 115 (W.b+W.t)) (FB ps)
 have hb9:=H.okW
 unfold Proofs.YtnhoidnmlibcpaaGreatDoor.okW at hb9
 have hodd:=nm_odd (c:=115) (n:=W.b+W.t) (by omega)
 have hhas:hasF D.files (nmB 115 (W.b+W.t))=true:=by rw [lk_has,hl];rfl
 by_cases hroom:D.most-sumD D.files<((FB ps).size:Int)
 · left
   refine ⟨hroom,?_⟩
   unfold appD
   rw [H.up,if_neg (by decide),hodd,if_neg (by decide),if_pos (.inr hroom)]
 right
 have e:appD D (nmB 115 (W.b+W.t)) (FB ps)=chg D true (appF D.files (nmB 115 (W.b+W.t)) (FB ps)):=by
  unfold appD
  rw [H.up,if_neg (by decide),hodd,if_neg (by decide),if_neg]
  rintro (⟨h1,_⟩ | h1)
  · rw [hhas] at h1
    cases h1
  exact hroom h1
 rw [e] at hok ⊢
 obtain ⟨L2,hL2⟩:∃ L2,L2=appF D.files (nmB 115 (W.b+W.t)) (FB ps):=⟨_,rfl⟩
 have hl2:∀ z,lk L2 z=if z=nmB 115 (W.b+W.t) then some (FB (last++ps),s0) else lk D.files z:=fun z=>by
  rw [hL2,lk_app H.ok.rise,hl]
  simp only [FB_add]
 have hrise:riseF L2:=by
  rw [hL2]
  unfold appF
  rw [if_pos hhas]
  exact riseF_names (setF_names fun _=>rfl) H.ok.rise
 have hsure:∀ f∈L2,0≤f.s∧f.s≤f.d.size:=fun f hf=>by
  have h1:=lk_of hrise hf
  rw [hl2] at h1
  split at h1
  · rename_i en
    have h2:=H.ok.sure _ (lk_mem hl)
    simp only [Option.some.injEq,Prod.mk.injEq] at h1
    rw [←h1.1,←h1.2,FB_size_append]
    simp only at h2
    omega
  exact H.ok.sure _ (lk_mem h1)
 have hb:∀ x,lk L2 x≠none→x∈segsM W.b W.t:=fun x hx=>by
  rw [hl2] at hx
  split at hx
  · rename_i e
    rw [e,segs_succ ht]
    exact List.mem_append_right _ (List.mem_singleton_self _)
  exact H.bare x hx
 have hT2:Torn L2 W.b W.t init (last++ps) (FB (last++ps)) s0:=by
  refine hT.move hrise (fun x _ hne=>by rw [hl2,if_neg (hne ht)]) (fun _=>by rw [hl2,if_pos rfl]) (fun x hx=>.inl (hb x hx)) (fun p hp2=>?_) (fun _=>⟨.empty,ba_eq (by rw [ba_app];simp)⟩) (fun h0=>by omega)
  rcases List.mem_append.1 hp2 with h | h
  · exact hT.smalls.2 p h
  exact hp p h
 have hjs2:0<W.t→((FB ((last++ps).take j)).size:Int)≤s0:=fun _=>by
  rw [List.take_append_of_le_length H.few]
  exact hjs
 have hjl:j≤(last++ps).length:=by rw [List.length_append];omega
 rw [←hL2] at hok ⊢
 rcases chg_cases H.up true L2 with ⟨fl,hfl,ec⟩ | ⟨hfn,ec⟩
 · left
   rw [ec] at hok ⊢
   exact ⟨rfl,⟨hok,rfl,H.st,H.nb,⟨s0,hT2,hjs2⟩,hjl,hb⟩,hfl⟩
 right
 rw [ec] at hok ⊢
 refine ⟨hfn,rfl,Brk.of (_D:=D) hok rfl rfl rfl hsure hT2 hjl hjs2 (Nat.le_refl _) (by rw [List.append_assoc];exact List.prefix_rfl)⟩
structure Whole (W:WK) (D:DK) (Ps:List (List BA)):Prop where
 ok:okD D
 up:D.down=false
 st:D.starts=W.s
 nb:W.bad=false
 lay:Bare (namesD D) W.b W.t
 smalls:∀ ps∈Ps,small ps
 full:Proofs.YtnhoidnmlibcpaaGreatDoor.full D.files (segsM W.b W.t) Ps
theorem Live.whole {W:WK} {D:DK} {init:List (List BA)} {last:List BA} (H:Live W D init last last.length):∃ Ps,Whole W D Ps∧Ps.flatten=init.flatten++last:=by
 obtain ⟨s,hT,hjs⟩:=H.torn
 rcases Nat.eq_zero_or_pos W.t with h0 | h0
 · obtain ⟨h1,h2⟩:=hT.zero h0
   exact ⟨init,⟨H.ok,H.up,H.st,H.nb,H.names,hT.smalls.1,by rw [h0];exact h1⟩,by rw [h2,List.append_nil]⟩
 obtain ⟨s0,hl,hj,hs0,hf⟩:=H.last h0
 rw [List.take_length] at hj
 obtain rfl:s0=((FB last).size:Int):=by omega
 refine ⟨init++[last],⟨H.ok,H.up,H.st,H.nb,H.names,fun ps hps=>?_,?_⟩,by simp⟩
 · rcases List.mem_append.1 hps with h | h
   · exact hT.smalls.1 ps h
   rw [List.mem_singleton.1 h];exact hT.smalls.2
 unfold full at hf ⊢
 rw [segs_succ h0,List.map_append,List.map_append,hf]
 simp [hl]
theorem Whole.next {W:WK} {D:DK} {Ps:List (List BA)} (H:Whole W D Ps) {ps:List BA} (hp:small ps) (h9:W.b+W.t<999999999) (h15:D.files.length<15) :
 (D.most-sumD D.files<((FB ps).size:Int)∧appD D (nmB 115 (W.b+W.t+1)) (FB ps)=(D,40)) ∨
 ((appD D (nmB 115 (W.b+W.t+1)) (FB ps)).2=0∧Live ⟨W.s,W.bad,W.b,W.t+1⟩ (appD D (nmB 115 (W.b+W.t+1)) (FB ps)).1 Ps ps 0∧(D.fails=none→(appD D (nmB 115 (W.b+W.t+1)) (FB ps)).1.fails=none)) ∨
 (D.fails≠none∧(appD D (nmB 115 (W.b+W.t+1)) (FB ps)).2=41∧Brk (appD D (nmB 115 (W.b+W.t+1)) (FB ps)).1 (Ps.flatten++ps) Ps.flatten.length):=by
 have hok:=app_ok H.ok (nmB 115 (W.b+W.t+1)) (FB ps)
 have hodd:=nm_odd (c:=115) (n:=W.b+W.t+1) (by omega)
 have hss:segsM W.b (W.t+1)=segsM W.b W.t++[nmB 115 (W.b+W.t+1)]:=segs_succ (b:=W.b) (t:=W.t+1) (by omega)
 have hnew:nmB 115 (W.b+W.t+1) ∉ segsM W.b W.t:=fun hx=>by
  have:=segs_nodup W.b (W.t+1)
  rw [hss,List.nodup_append] at this
  exact this.2.2 _ hx _ (List.mem_singleton_self _) rfl
 have hno:lk D.files (nmB 115 (W.b+W.t+1))=none:=by
  cases h:lk D.files (nmB 115 (W.b+W.t+1)) with
  | none=>rfl
  | some v=>exact absurd ((H.lay.2 _).1 (mem_names.2 (by rw [h];simp))) hnew
 have hhas:hasF D.files (nmB 115 (W.b+W.t+1))=false:=by rw [lk_has,hno];rfl
 have hlen:(segsM W.b W.t).length=D.files.length:=by
  have h2:=((List.perm_ext_iff_of_nodup (rise_nodup H.ok.rise) (segs_nodup W.b W.t)).2 H.lay.2).length_eq
  rw [List.length_map] at h2
  exact h2.symm
 by_cases hroom:D.most-sumD D.files<((FB ps).size:Int)
 · left
   refine ⟨hroom,?_⟩
   unfold appD
   rw [H.up,if_neg (by decide),hodd,if_neg (by decide),if_pos (.inr hroom)]
 right
 have e:appD D (nmB 115 (W.b+W.t+1)) (FB ps)=chg D true (appF D.files (nmB 115 (W.b+W.t+1)) (FB ps)):=by
  unfold appD
  rw [H.up,if_neg (by decide),hodd,if_neg (by decide),if_neg]
  rintro (⟨_,h1⟩ | h1)
  · omega
  exact hroom h1
 rw [e] at hok ⊢
 obtain ⟨L2,hL2⟩:∃ L2,L2=appF D.files (nmB 115 (W.b+W.t+1)) (FB ps):=⟨_,rfl⟩
 have hl2:∀ z,lk L2 z=if z=nmB 115 (W.b+W.t+1) then some (FB ps,0) else lk D.files z:=fun z=>by
  rw [hL2,lk_app H.ok.rise,hno]
 have hrise:riseF L2:=by
  rw [hL2]
  unfold appF
  rw [if_neg (by rw [hhas];decide)]
  exact riseF_ins H.ok.rise hhas
 have hsure:∀ f∈L2,0≤f.s∧f.s≤f.d.size:=fun f hf=>by
  have h1:=lk_of hrise hf
  rw [hl2] at h1
  split at h1
  · simp only [Option.some.injEq,Prod.mk.injEq] at h1
    rw [←h1.2]
    exact ⟨Int.le_refl _,Int.natCast_nonneg _⟩
  exact H.ok.sure _ (lk_mem h1)
 have hb:∀ x,lk L2 x≠none→x∈segsM W.b (W.t+1):=fun x hx=>by
  rw [hss]
  rw [hl2] at hx
  split at hx
  · rename_i e
    rw [e]
    exact List.mem_append_right _ (List.mem_singleton_self _)
  exact List.mem_append_left _ ((H.lay.2 x).1 (mem_names.2 hx))
 have hold:∀ x∈segsM W.b W.t,lk L2 x=lk D.files x:=fun x hx=>by
  rw [hl2,if_neg (fun e=>hnew (by rw [←e];exact hx))]
 have hT2:Torn L2 W.b (W.t+1) Ps ps (FB ps) 0:=by
  refine ⟨hrise,⟨by omega,fun x hx=>mem_names.2 ?_,fun x hx=>.inl (hb x (mem_names.1 hx))⟩,by rw [hss,List.length_append];simp only [List.length_singleton];omega,⟨H.smalls,hp⟩,fun q=>by omega,fun _=>⟨?_,?_,.empty,ba_eq (by rw [ba_app];simp)⟩⟩
  · rw [hss] at hx
    rcases List.mem_append.1 hx with hx | hx
    · rw [hold x hx]
      exact mem_names.1 ((H.lay.2 x).2 hx)
    rw [List.mem_singleton.1 hx,hl2,if_pos rfl]
    simp
  · exact full_congr hold H.full
  show lk L2 (nmB 115 (W.b+W.t+1))=_
  rw [hl2,if_pos rfl]
 have hjs2:0<W.t+1→((FB (ps.take 0)).size:Int)≤0:=fun _=>by
  rw [List.take_zero,FB_nil]
  exact Int.le_refl _
 rw [←hL2] at hok ⊢
 rcases chg_cases H.up true L2 with ⟨fl,hfl,ec⟩ | ⟨hfn,ec⟩
 · left
   rw [ec] at hok ⊢
   exact ⟨rfl,⟨hok,rfl,H.st,H.nb,⟨0,hT2,hjs2⟩,Nat.zero_le _,hb⟩,hfl⟩
 right
 rw [ec] at hok ⊢
 exact ⟨hfn,rfl,Brk.of (_D:=D) hok rfl rfl rfl hsure hT2 (Nat.zero_le _) hjs2 (Nat.le_refl _) List.prefix_rfl⟩
theorem Live.new {m:Int} (h1:1≤m) (h2:m≤1048576):Live ⟨0,false,0,0⟩ ⟨m,0,false,[],none,[]⟩ [] [] 0:=by
 have hs0:segsM 0 0=[]:=rfl
 exact ⟨new_ok h1 h2,rfl,rfl,rfl,⟨0,⟨List.Pairwise.nil,⟨by decide,fun x hx=>(by rw [hs0] at hx;cases hx),fun x hx=>(by cases hx)⟩,by rw [hs0];decide,⟨fun q hq=>(by cases hq),fun q hq=>(by cases hq)⟩,fun _=>⟨rfl,rfl⟩,fun q=>absurd q (by decide)⟩,fun q=>absurd q (by decide)⟩,Nat.le_refl _,fun x hx=>absurd rfl hx⟩
structure Calm (D D':DK) (n:Int):Prop where
 fails:D'.fails=none
 most:D'.most=D.most
 starts:D'.starts=D.starts
 sum:(sumD D'.files:Int)=sumD D.files+n
theorem chg_calm0 {D:DK} (hu:D.down=false) (hf:D.fails=none) (late:Bool) (L2:List Fl):chg D late L2=(⟨D.most,D.starts,false,L2,none,D.keep⟩,0):=by
 unfold chg
 rw [hf,hu]
theorem appD_calm {D:DK} (hD:okD D) (hu:D.down=false) (hf:D.fails=none) {x y:BA} (ho:oddS x=false) (hr:(sumD D.files:Int)+y.size≤D.most) (hh:hasF D.files x=true∨D.files.length≠16) :
 (appD D x y).2=0∧Calm D (appD D x y).1 y.size∧(appD D x y).1.files=appF D.files x y:=by
 have e:appD D x y=(⟨D.most,D.starts,false,appF D.files x y,none,D.keep⟩,0):=by
  unfold appD
  rw [hu,if_neg (by decide),ho,if_neg (by decide),if_neg,chg_calm0 hu hf]
  rintro (⟨h1,h2⟩ | h1)
  · rcases hh with h | h
    · rw [h] at h1
      cases h1
    exact h h2
  omega
 rw [e]
 refine ⟨rfl,⟨rfl,rfl,rfl,?_⟩,rfl⟩
 simp only
 rw [appF_sum hD.rise]
 omega
theorem syncD_calm {D:DK} (hD:okD D) (hu:D.down=false) (hf:D.fails=none) {x:BA} {v:BA × Int} (hv:lk D.files x=some v):(syncD D x).2=0∧Calm D (syncD D x).1 0:=by
 obtain ⟨hi,he⟩:=lk_at hD.rise hv
 have e:syncD D x=(⟨D.most,D.starts,false,setF D.files x fun f=>⟨f.n,f.d,(f.d.size:Nat)⟩,none,D.keep⟩,0):=by
  unfold syncD
  rw [hu,if_neg (by decide),lk_has,hv]
  simp only [Option.isSome_some,if_true]
  rw [chg_calm0 hu hf]
 rw [e]
 refine ⟨rfl,rfl,rfl,rfl,?_⟩
 simp only
 rw [setF_eq hi]
 have:=sumD_set hi (⟨D.files[posF D.files x].n,D.files[posF D.files x].d,(D.files[posF D.files x].d.size:Nat)⟩:Fl)
 simp only at this
 omega
theorem Live.more {W:WK} {D:DK} {init:List (List BA)} {last:List BA} {j:Nat} (H:Live W D init last j) (hf:D.fails=none) (ht:0<W.t) (hz:(FB last).size<16384) {ps:List BA} (hp:small ps) (hn:ps≠[]) (hr:(sumD D.files:Int)+(FB ps).size≤D.most) :
 ∃ D',appW W D ps=(W,D',0)∧Live W D' init (last++ps) j∧Calm D D' (FB ps).size∧∀ v,lk D.files (nmB 115 (W.b+W.t))=some v→lk D'.files (nmB 115 (W.b+W.t))=some (v.1++FB ps,v.2):=by
 have hb9:=H.okW
 unfold Proofs.YtnhoidnmlibcpaaGreatDoor.okW at hb9
 obtain ⟨s0,hl,_⟩:=H.last ht
 obtain ⟨h1,h2,hfiles⟩:=appD_calm H.ok H.up hf (nm_odd (c:=115) (n:=W.b+W.t) (by omega)) hr (.inl (by rw [lk_has,hl];rfl))
 rcases H.put ht hp with ⟨_,h⟩ | ⟨_,h,_⟩ | ⟨_,h,_⟩
 · rw [h] at h1
   cases h1
 · refine ⟨_,?_,h,h2,fun v hv=>by rw [hfiles,lk_app H.ok.rise,if_pos rfl,hv]⟩
   rw [appW_some H.ask (by rw [framed_small hp]) hn,framed_small hp]
   have e:(readD D (nmB 115 (W.b+W.t))).1=FB last:=by rw [read_lk H.up H.ok.rise,hl]
   rw [e,if_pos ⟨ht,hz⟩]
   simp only [h1,bad_zero]
 rw [h1] at h
 cases h
theorem Live.first {W:WK} {D:DK} {init:List (List BA)} (H:Live W D init [] 0) (hf:D.fails=none) (ht:W.t=0) (h9:W.b<999999999) (h15:D.files.length<15) {ps:List BA} (hp:small ps) (hn:ps≠[]) (hr:(sumD D.files:Int)+(FB ps).size≤D.most) :
 ∃ D',appW W D ps=(⟨W.s,W.bad,W.b,1⟩,D',0)∧Live ⟨W.s,W.bad,W.b,1⟩ D' init ps 0∧Calm D D' (FB ps).size:=by
 obtain ⟨s,hT,_⟩:=H.torn
 obtain ⟨hfu,_⟩:=hT.zero ht
 have hw:Whole W D init:=⟨H.ok,H.up,H.st,H.nb,H.names,hT.smalls.1,by rw [ht];exact hfu⟩
 obtain ⟨h1,h2,hfiles⟩:=appD_calm H.ok H.up hf (nm_odd (c:=115) (n:=W.b+W.t+1) (by omega)) hr (.inr (by omega))
 rcases hw.next hp (by omega) h15 with ⟨_,h⟩ | ⟨_,h,_⟩ | ⟨_,h,_⟩
 · rw [h] at h1
   cases h1
 · rw [ht] at h
   refine ⟨(appD D (nmB 115 (W.b+0+1)) (FB ps)).1,?_,h,by rw [ht] at h2;exact h2⟩
   rw [appW_some H.ask (by rw [framed_small hp]) hn,framed_small hp,ht]
   simp only [Nat.lt_irrefl,if_false,false_and,ne_eq,not_true_eq_false]
   rw [if_neg (by omega)]
   rw [ht] at h1
   simp only [h1,bad_zero,if_true]
 rw [h1] at h
 cases h
theorem Live.grows {W:WK} {D:DK} {init:List (List BA)} {last:List BA} {j:Nat} (H:Live W D init last j) (hf:D.fails=none) (ht:0<W.t) (hz:¬ (FB last).size<16384) (h9:W.b+W.t<999999999) (h15:D.files.length<15) {ps:List BA} (hp:small ps) (hn:ps≠[]) (hr:(sumD D.files:Int)+(FB ps).size≤D.most) :
 ∃ D' Ps,appW W D ps=(⟨W.s,W.bad,W.b,W.t+1⟩,D',0)∧Live ⟨W.s,W.bad,W.b,W.t+1⟩ D' Ps ps 0∧Calm D D' (FB ps).size∧Ps.flatten=init.flatten++last:=by
 obtain ⟨s0,hl,_⟩:=H.last ht
 obtain ⟨g1,g2⟩:=syncD_calm H.ok H.up hf hl
 rcases H.sync ht with ⟨_,h2,h3,_⟩ | ⟨_,h,_⟩
 · obtain ⟨D1,hD1⟩:∃ D1,D1=(syncD D (nmB 115 (W.b+W.t))).1:=⟨_,rfl⟩
   rw [←hD1] at g2 h2
   obtain ⟨Ps,hw,hfl⟩:=h2.whole
   have hlen:D1.files.length=D.files.length:=by rw [h2.len,H.len]
   have hsum:=g2.sum
   obtain ⟨k1,k2,_⟩:=appD_calm h2.ok h2.up g2.fails (nm_odd (c:=115) (n:=W.b+W.t+1) (by omega)) (y:=FB ps) (by rw [g2.most];omega) (.inr (by omega))
   rcases hw.next hp h9 (by omega) with ⟨_,h⟩ | ⟨_,h,_⟩ | ⟨_,h,_⟩
   · rw [h] at k1
     cases k1
   · refine ⟨_,Ps,?_,h,⟨k2.fails,by rw [k2.most,g2.most],by rw [k2.starts,g2.starts],by rw [k2.sum];omega⟩,hfl⟩
     rw [appW_some H.ask (by rw [framed_small hp]) hn,framed_small hp]
     have e:(readD D (nmB 115 (W.b+W.t))).1=FB last:=by rw [read_lk H.up H.ok.rise,hl]
     rw [e,if_neg (fun q=>hz q.2),if_pos ht]
     dsimp only
     rw [g1,if_neg (by decide),←hD1,if_neg (by omega)]
     simp only [k1,bad_zero,if_true]
   rw [k1] at h
   cases h
 rw [g1] at h
 cases h
theorem Live.syncs {W:WK} {D:DK} {init:List (List BA)} {last:List BA} {j:Nat} (H:Live W D init last j) (hf:D.fails=none) (ht:0<W.t):∃ D',syncW W D=(W,D',0)∧Live W D' init last last.length∧Calm D D' 0:=by
 obtain ⟨s0,hl,_⟩:=H.last ht
 obtain ⟨g1,g2⟩:=syncD_calm H.ok H.up hf hl
 rcases H.sync ht with ⟨_,h2,h3,_⟩ | ⟨_,h,_⟩
 · refine ⟨_,?_,h2,g2⟩
   unfold syncW
   rw [H.ask,if_neg (by decide),if_neg (by omega)]
   simp only [g1,bad_zero]
 rw [g1] at h
 cases h
theorem FB_cons (p:BA) (ps:List BA):(FB (p::ps)).size=(putL (2*p.size)).length+4+p.size+(FB ps).size:=by
 have h:FB (p::ps)=FB [p]++FB ps:=by rw [FB_add];rfl
 rw [h,ByteArray.size_append]
 have h2:(FB [p]).size=(frameL ckL p.data.toList).length:=by
  unfold FB
  rw [strL_size]
  simp [framesL]
 rw [h2]
 unfold frameL
 simp only [List.length_append,ckL_len,size_data]
 omega
def szF (L:List Fl) (x:BA):Nat:=match lk L x with | some v=>v.1.size | none=>0
theorem sumD_names {L:List Fl} (h:riseF L):sumD L=((L.map (·.n)).map (szF L)).sum:=by
 unfold sumD
 rw [List.map_map]
 congr 1
 refine List.map_congr_left fun f hf=>?_
 simp only [Function.comp_apply,szF]
 rw [lk_of h hf]
theorem perm_sum {l m:List Nat} (h:l.Perm m):l.sum=m.sum:=by
 induction h with
 | nil=>rfl
 | cons x _ ih=>rw [List.sum_cons,List.sum_cons,ih]
 | swap x y l=>simp only [List.sum_cons];omega
 | trans _ _ h1 h2=>rw [h1,h2]
theorem full_sum {L:List Fl}:∀ {names:List BA} {Ps:List (List BA)},full L names Ps→(names.map (szF L)).sum=(FB Ps.flatten).size
 | [],[],_=>by rw [List.flatten_nil,FB_nil];rfl
 | [],p::Ps,h=>by simp [full] at h
 | x::names,[],h=>by simp [full] at h
 |
  x::names,p::Ps,h=>by
  unfold full at h
  simp only [List.map_cons,List.cons.injEq] at h
  rw [List.map_cons,List.sum_cons,full_sum (names:=names) (Ps:=Ps) h.2,List.flatten_cons,FB_size_append]
  congr 1
  unfold szF
  rw [h.1]
theorem Live.segsum {W:WK} {D:DK} {init:List (List BA)} {last:List BA} {j:Nat} (H:Live W D init last j):((segsM W.b W.t).map (szF D.files)).sum=(FB (init.flatten++last)).size:=by
 obtain ⟨s,hT,_⟩:=H.torn
 rcases Nat.eq_zero_or_pos W.t with h0 | h0
 · obtain ⟨h1,h2⟩:=hT.zero h0
   rw [h2,List.append_nil,h0]
   exact full_sum h1
 obtain ⟨h1,h2,_⟩:=hT.more h0
 rw [segs_succ h0,List.map_append,List.sum_append,full_sum h1,FB_size_append]
 congr 1
 simp [szF,h2]
theorem Live.sum {W:WK} {D:DK} {init:List (List BA)} {last:List BA} {j:Nat} (H:Live W D init last j):sumD D.files=(FB (init.flatten++last)).size:=by
 rw [sumD_names H.ok.rise,←H.segsum]
 exact perm_sum (((List.perm_ext_iff_of_nodup (rise_nodup H.ok.rise) (segs_nodup W.b W.t)).2 H.names.2).map _)
theorem Live.few15 {W:WK} {D:DK} {init:List (List BA)} {last:List BA} {j:Nat} (H:Live W D init last j):D.files.length≤15∧W.t≤15:=by
 obtain ⟨s,hT,_⟩:=H.torn
 have h1:=hT.few
 rw [H.len]
 refine ⟨h1,?_⟩
 unfold segsM at h1
 simp only [List.length_append,List.length_map,List.length_range] at h1
 omega
theorem Live.self {W:WK} {D:DK} {init:List (List BA)} {last:List BA} {j:Nat} (H:Live W D init last j):openD D=(D,0,W,init.flatten++last):=by
 have h:=H.opens
 have hb:=H.nb
 have hs:=H.st
 obtain ⟨s,bad,b,t⟩:=W
 dsimp only at *
 subst hb hs
 exact h
theorem recB_size (x:Rec):(recB x).size=(recL x).length:=by simp [recB,ByteArray.size]
theorem FB_le:∀ {ps:List BA},small ps→(FB ps).size≤(ps.map ByteArray.size).sum+7*ps.length
 | [],_=>by rw [FB_nil];exact Nat.le_refl _
 |
  p::ps,h=>by
  have h1:=h p List.mem_cons_self
  have h2:=FB_le (ps:=ps) fun q hq=>h q (List.mem_cons_of_mem _ hq)
  have h3:=putL_le 2 (2*p.size) (by have:(128:Nat) ^ (2+1)=2097152:=rfl;omega)
  rw [FB_cons,List.map_cons,List.sum_cons,List.length_cons]
  omega
def roomR (r:Rec):Nat:=47+30*r.L.length+10*r.F.length
def roomL (l:List Rec):Nat:=(l.map roomR).sum
theorem roomL_cons (r:Rec) (l:List Rec):roomL (r::l)=roomR r+roomL l:=by simp [roomL]
theorem roomL_append (l m:List Rec):roomL (l++m)=roomL l+roomL m:=by simp [roomL]
theorem recs_small {l:List Rec} (h:∀ r∈l,mayR r=true):small (l.map recB):=fun p hp=>by
 obtain ⟨r,hr,rfl⟩:=List.mem_map.1 hp
 rw [recB_size]
 exact (small_of_may (h r hr)).bytes
theorem recs_room {l:List Rec} (h:∀ r∈l,mayR r=true):(FB (l.map recB)).size≤roomL l:=by
 have h1:=FB_le (recs_small h)
 have h2:((l.map recB).map ByteArray.size).sum+7*(l.map recB).length≤roomL l:=by
  clear h1
  induction l with
  | nil=>exact Nat.le_refl _
  |
   cons r l ih =>
   have h3:=ih fun q hq=>h q (List.mem_cons_of_mem _ hq)
   have h4:=(small_of_may (h r List.mem_cons_self)).len_le
   rw [roomL_cons,List.map_cons,List.map_cons,List.sum_cons,List.length_cons,recB_size]
   unfold roomR
   omega
 omega
def exD:DK:=⟨262144,0,false,[],none,[]⟩
def exW:WK:=⟨0,false,0,0⟩
theorem ex_live:Live exW exD [] [] 0:=Live.new (by decide) (by decide)
def entsR (L:List RecS):Nat:=(L.map fun y=>y.r.L.length).sum
theorem segs_le (b t:Nat):(segsM b t).length≤t+1:=by
 unfold segsM
 rw [List.length_append,List.length_map,List.length_range]
 split<;>simp only [List.length_cons,List.length_nil]<;>omega
theorem FB_pre (ps qs:List BA):(FB ps).size≤(FB (ps++qs)).size:=by
 rw [FB_size_append]
 omega
structure Hold (x:Sta) (W:WK) (D:DK) (rs:List Rec) (b k:Nat):Prop where
 st:okS x
 fold:foldS noSta rs=some x
 may:∀ r∈rs,mayR r=true
 log:∃ init last j,Live W D init last j∧init.flatten++last=rs.map recB∧16384*(W.t-1)≤(FB init.flatten).size
 fails:D.fails=none
 most:D.most=262144
 room:roomL rs≤b
 few:W.b≤k
theorem Hold.bytes {x:Sta} {W:WK} {D:DK} {rs:List Rec} {b k:Nat} (h:Hold x W D rs b k):sumD D.files≤b∧(FB (rs.map recB)).size≤b:=by
 have h1:=recs_room h.may
 have h2:=h.room
 obtain ⟨_,_,_,hL,e,_⟩:=h.log
 rw [hL.sum,e]
 omega
def sumE (l:List Rec):Nat:=(l.map fun r=>r.L.length).sum
theorem room_write:∀ {l:List Rec} {x y:Sta},writeS x l=some y→roomL l≤47*l.length+30*sumE l
 | [],_,_,_=>Nat.le_refl _
 |
  r::l,x,y,h=>by
  simp only [writeS] at h
  cases hs:stepS x r with
  | none=>rw [hs] at h;cases h
  |
   some z =>
   rw [hs] at h
   have h1:=room_write h
   obtain ⟨_,h5,hm,_⟩:=stepS_some hs
   have hF:r.F=[]:=(small_of_may hm).four h5
   rw [roomL_cons,List.length_cons]
   simp only [sumE,List.map_cons,List.sum_cons] at h1 ⊢
   unfold roomR
   rw [hF,List.length_nil]
   omega
theorem sumE_recs (L:List RecS):sumE (recsR L)=entsR L:=by
 unfold sumE recsR entsR
 rw [List.map_map]
 rfl
theorem Live.appendsS {W:WK} {D:DK} {init:List (List BA)} {last:List BA} {j:Nat} (H:Live W D init last j) (hf:D.fails=none) (h9:W.b+W.t<999999999) (hseg:16384*(W.t-1)≤(FB init.flatten).size) (hbig:(FB (init.flatten++last)).size≤200000) {ps:List BA} (hp:small ps) (hn:ps≠[]) (hr:(sumD D.files:Int)+(FB ps).size≤D.most) :
 ∃ W' D' init' last' j',appW W D ps=(W',D',0)∧Live W' D' init' last' j'∧init'.flatten++last'=(init.flatten++last)++ps∧16384*(W'.t-1)≤(FB init'.flatten).size∧D'.fails=none∧D'.most=D.most∧W'.b=W.b∧init.flatten.length+j≤init'.flatten.length+j'∧D'.starts=D.starts:=by
 have hlen:=H.len
 have hsl:=segs_le W.b W.t
 rcases Nat.eq_zero_or_pos W.t with h0 | h0
 · obtain ⟨_,hT,_⟩:=H.torn
   obtain ⟨_,rfl⟩:=hT.zero h0
   obtain rfl:j=0:=by have:=H.few;simpa using this
   obtain ⟨D',h1,h2,h3⟩:=H.first hf h0 (by omega) (by omega) hp hn hr
   exact ⟨_,D',init,ps,0,h1,h2,by rw [List.append_nil],by simp,h3.fails,h3.most,rfl,Nat.le_refl _,h3.starts⟩
 by_cases hz:(FB last).size<16384
 · obtain ⟨D',h1,h2,h3,_⟩:=H.more hf h0 hz hp hn hr
   exact ⟨W,D',init,last++ps,j,h1,h2,by rw [List.append_assoc],hseg,h3.fails,h3.most,rfl,Nat.le_refl _,h3.starts⟩
 have hpre:=FB_pre init.flatten last
 obtain ⟨D',Ps,h1,h2,h3,h4⟩:=H.grows hf h0 hz (by omega) (by omega) hp hn hr
 have hj:=H.few
 refine ⟨_,D',Ps,ps,0,h1,h2,by rw [h4],?_,h3.fails,h3.most,rfl,by rw [h4,List.length_append];omega,h3.starts⟩
 rw [h4,FB_size_append]
 dsimp only
 omega
structure HoldS (x:Sta) (W:WK) (D:DK) (rs:List Rec) (m b k i:Nat):Prop where
 st:okS x
 fold:foldS noSta rs=some x
 may:∀ r∈rs,mayR r=true
 log:∃ init last j,Live W D init last j∧init.flatten++last=rs.map recB∧16384*(W.t-1)≤(FB init.flatten).size∧m≤init.flatten.length+j
 fails:D.fails=none
 most:D.most=262144
 room:roomL rs≤b
 few:W.b≤k
 lo:0≤D.starts
 hi:D.starts≤i
theorem HoldS.hold {x:Sta} {W:WK} {D:DK} {rs:List Rec} {m b k i:Nat} (h:HoldS x W D rs m b k i):Hold x W D rs b k:=by
 obtain ⟨init,last,j,h1,h2,h3,_⟩:=h.log
 exact ⟨h.st,h.fold,h.may,⟨init,last,j,h1,h2,h3⟩,h.fails,h.most,h.room,h.few⟩
theorem HoldS.more {x:Sta} {W:WK} {D:DK} {rs:List Rec} {m b k i b' k' i':Nat} (h:HoldS x W D rs m b k i) (hb:b≤b') (hk:k≤k') (hi:i≤i'):HoldS x W D rs m b' k' i':=⟨h.st,h.fold,h.may,h.log,h.fails,h.most,Nat.le_trans h.room hb,Nat.le_trans h.few hk,h.lo,by have:=h.hi;omega⟩
theorem HoldS.new:HoldS noSta exW exD [] 0 0 0 0:=⟨okS_no,rfl,fun _ q=>(by cases q),⟨[],[],0,ex_live,rfl,Nat.zero_le _,Nat.zero_le _⟩,rfl,rfl,Nat.le_refl _,Nat.le_refl _,Int.le_refl _,Int.le_refl _⟩
theorem HoldS.write {x z:Sta} {W:WK} {D:DK} {rs:List Rec} {m b k i:Nat} (h:HoldS x W D rs m b k i) {L:List RecS} (hb:b+(47*L.length+30*entsR L)≤200000) (hk:k≤1000000) (hw:writeS x (recsR L)=some z):∃ W' D',WriteR L x W D=(W',D',0,decide (L≠[]))∧HoldS z W' D' (rs++recsR L) m (b+(47*L.length+30*entsR L)) k i:=by
 unfold WriteR
 rw [hw]
 dsimp only
 by_cases h0:L.length=0
 · obtain rfl:L=[]:=List.eq_nil_of_length_eq_zero h0
   cases hw
   rw [if_pos (show ([]:List RecS).length=0 from rfl)]
   refine ⟨W,D,by simp,?_⟩
   rw [show recsR []=[] from rfl,List.append_nil]
   exact h.more (Nat.le_add_right _ _) (Nat.le_refl _) (Nat.le_refl _)
 rw [if_neg h0]
 obtain ⟨g1,_,g3,g4⟩:=writeS_some hw h.st
 have hrw:=room_write hw
 rw [sumE_recs,show (recsR L).length=L.length by unfold recsR;exact List.length_map _] at hrw
 obtain ⟨init,last,j,hL,hl,hseg,hm⟩:=h.log
 obtain ⟨hb1,hb2⟩:=h.hold.bytes
 have hsm:=recs_room g4
 have h15:=hL.few15.2
 have hfw:=h.few
 obtain ⟨W',D',init',last',j',a1,a2,a3,a4,a5,a6,a7,a8,a9⟩:=hL.appendsS h.fails (by omega) hseg (by rw [hl];omega) (recs_small g4) (by intro e;exact h0 (by have:=congrArg List.length e;unfold recsR at this;simpa using this)) (by rw [h.most];omega)
 have hne:L≠[]:=fun e=>h0 (by rw [e];rfl)
 refine ⟨W',D',by rw [a1];simp [hne],g1,by rw [foldS_append,h.fold];exact g3,fun r hr=>?_,⟨init',last',j',a2,by rw [a3,hl,List.map_append],a4,by omega⟩,a5,by rw [a6];exact h.most,by rw [roomL_append];have:=h.room;omega,by rw [a7];exact h.few,by rw [a9];exact h.lo,by rw [a9];exact h.hi⟩
 rcases List.mem_append.1 hr with hr | hr
 · exact h.may r hr
 exact g4 r hr
theorem HoldS.sync {w q:Nat} {x:StaS} {sure:Nat} {dirty:Bool} {W:WK} {D:DK} {rs:List Rec} {m b k i:Nat} (h:HoldS x.abs W D rs m b k i) (hs:dirty=false→sure=x.F.length∧m=rs.length):∃ D',SyncR w q x sure dirty W D=((x.F.length,false),(W,D'),0)∧HoldS x.abs W D' rs rs.length b k i:=by
 obtain ⟨init,last,j,hL,hl,hseg,hm⟩:=h.log
 unfold SyncR
 cases dirty with
 |
  false =>
  obtain ⟨e1,e2⟩:=hs rfl
  rw [if_pos rfl,e1]
  exact ⟨D,rfl,⟨h.st,h.fold,h.may,⟨init,last,j,hL,hl,hseg,by rw [←e2];exact hm⟩,h.fails,h.most,h.room,h.few,h.lo,h.hi⟩⟩
 |
  true =>
  rw [if_neg (by decide)]
  have hlen:init.flatten.length+last.length=rs.length:=by
   have:=congrArg List.length hl
   rwa [List.length_append,List.length_map] at this
  rcases Nat.eq_zero_or_pos W.t with h0 | h0
  · have e:Proofs.YtnhoidnmlibcpaaGreatDoor.syncW W D=(W,D,0):=by
     unfold Proofs.YtnhoidnmlibcpaaGreatDoor.syncW
     rw [hL.ask,if_neg (by decide),if_pos h0]
    obtain ⟨_,hT,_⟩:=hL.torn
    obtain ⟨_,rfl⟩:=hT.zero h0
    rw [e,if_neg (by simp)]
    exact ⟨D,rfl,⟨h.st,h.fold,h.may,⟨init,[],j,hL,hl,hseg,by rw [←hlen];simp⟩,h.fails,h.most,h.room,h.few,h.lo,h.hi⟩⟩
  obtain ⟨D',h1,h2,h3⟩:=hL.syncs h.fails h0
  rw [h1,if_neg (by simp)]
  exact ⟨D',rfl,⟨h.st,h.fold,h.may,⟨init,last,_,h2,hl,hseg,by omega⟩,h3.fails,by rw [h3.most];exact h.most,h.room,h.few,by rw [h3.starts];exact h.lo,by rw [h3.starts];exact h.hi⟩⟩
theorem HoldS.crash {x:Sta} {W:WK} {D:DK} {rs:List Rec} {m b k i:Nat} (h:HoldS x W D rs m b k i) (K:List Int) (hpre:∀ J,m≤J→J≤rs.length→∃ y,foldS noSta (rs.take J)=some y∧okS y) :
 ∃ D1 D2 D3 W3 J y,crashD D K=(D1,0)∧okD D1∧D1.starts=D.starts∧startD D1=(D2,0)∧okD D2∧openD D2=(D3,0,W3,(rs.take J).map recB)∧m≤J∧J≤rs.length∧foldS noSta (rs.take J)=some y∧HoldS y W3 D3 (rs.take J) J b k (i+1):=by
 obtain ⟨init,last,j,hL,hl,hseg,hm⟩:=h.log
 obtain ⟨s,hT,hjs⟩:=hL.torn
 have ec:crashD D K=(⟨D.most,D.starts,true,crashF D.files K,none,D.keep⟩,0):=by unfold crashD;rw [hL.up];rfl
 have hok:=crash_ok hL.ok K
 rw [ec] at hok
 obtain ⟨l',h5,h6⟩:=hT.crash hL.ok.sure K
 have e2:startD (⟨D.most,D.starts,true,crashF D.files K,none,D.keep⟩:DK)=(⟨D.most,D.starts+1,false,crashF D.files K,none,D.keep⟩,0):=by unfold startD;rfl
 have hok2:okD (⟨D.most,D.starts+1,false,crashF D.files K,none,D.keep⟩:DK):=by
  have:=start_ok hok
  rwa [e2] at this
 obtain ⟨k2,D',hk2,hkl0,hmax,ho,hf,hmo,_,hLv⟩:=Torn.opens (D:=⟨D.most,D.starts+1,false,crashF D.files K,none,D.keep⟩) hok2 rfl rfl h5 (fun _=>⟨by omega,Int.le_refl _⟩)
 have hjk:=hmax j hL.few (fun ht=>by
  have:=h6 ht
  have:=hjs ht
  omega)
 have hlen:init.flatten.length+last.length=rs.length:=by
  have:=congrArg List.length hl
  rwa [List.length_append,List.length_map] at this
 have hcut:init.flatten++last.take k2=(rs.take (init.flatten.length+k2)).map recB:=by
  rw [List.map_take,←hl];exact (List.take_length_add_append _).symm
 obtain ⟨y,hy1,hy2⟩:=hpre (init.flatten.length+k2) (by omega) (by omega)
 have hLk:=hLv k2 (Nat.le_refl _) (fun ht=>Int.ofNat_le.2 (hkl0 ht))
 refine ⟨_,_,D',_,init.flatten.length+k2,y,ec,hok,rfl,e2,hok2,by rw [ho,hcut],by omega,by omega,hy1,hy2,hy1,fun r hr=>h.may r (List.mem_of_mem_take hr),⟨init,last.take k2,k2,hLk,hcut,hseg,Nat.le_refl _⟩,hf,by rw [hmo];exact h.most,?_,h.few,?_,?_⟩
 · have:∀ (l:List Rec) (n:Nat),roomL (l.take n)≤roomL l:=fun l n=>by
    have e:=roomL_append (l.take n) (l.drop n)
    rw [List.take_append_drop] at e
    omega
   exact Nat.le_trans (this _ _) h.room
 · have:=hLk.st
   have:=h.lo
   dsimp only at *
   omega
 have:=hLk.st
 have:=h.hi
 dsimp only at *
 omega
theorem rot4 {A B C D:Asn} {h:Hp} (p:Asn.starH [A,B,C,D] h):Asn.starH [B,C,D,A] h:=by
 obtain ⟨h1,h2,d,a,b,p1,p2⟩:=starH_swap p
 obtain ⟨h3,h4,d2,a2,b2,p3,p4⟩:=starH_swap p2
 exact ⟨h1,h2,d,a,b,p1,h3,h4,d2,a2,b2,p3,starH_swap p4⟩
theorem writeLT (p w q:Nat) (x:StaS) (sure:Nat) (dirty:Bool) (W:WK) (D:DK) (C:Option Addr) (L:List RecS) (n c:Nat) (hn:n=L.length) (hn1:n≤1000) (hL:∀ y∈L,y.r.L.length≤2000∧y.r.F.length≤100000) (hD:okD D) (hW:okW W) (hx:okS x.abs) (R:WK × DK × Int × Bool) (hR:WriteR L x.abs W D=R) :
 Triple Tryz.prog 115 [pP p,.slice C n c] [StoP p w x sure dirty,WalM w q W,DiskM q D,x.rd] [TabA,Rd 8 C n (L.flatMap encR),RecsRd L] StaS (fun _=>.int .i64 R.2.2.1) (fun X=>if R.2.2.2=true then writeS x.abs (recsR L)=some X.abs else X=x) (fun X=>[StoP p w X sure (R.2.2.2 || dirty),WalM w q R.1,DiskM q R.2.1,X.rd]) :=
 (writeST p w q x sure dirty W D C L n c hn hn1 hL hD hW hx R hR.symm).imp fun X g=>⟨X,rfl,g,fun _h ⟨h1,h2,e,a1,a2,p1,p2⟩=>rot4 ⟨h1,h2,e,a1,a2,p1.2,p2⟩⟩
theorem syncLT (p w q:Nat) (x:StaS) (sure:Nat) (dirty:Bool) (W:WK) (D:DK) (hD:okD D) (hW:okW W) {s:Nat} {d:Bool} {W':WK} {D':DK} {e:Int} (h:SyncR w q x sure dirty W D=((s,d),(W',D'),e)) :
 Triple Tryz.prog 24 [pP p] [StoP p w x sure dirty,WalM w q W,DiskM q D] [TabA] Unit (fun _=>.int .i64 e) (fun _=>True) (fun _=>[StoP p w x s d,WalM w q W',DiskM q D']):=by
 have:=syncStT p w q x sure dirty W D hD hW
 rw [h] at this
 exact this
theorem openLT (q:Nat) (D:DK) (hD:okD D) {D':DK} {W':WK} (rs:List Rec) (h:openD D=(D',0,W',rs.map recB)) (hmay:∀ r∈rs,mayR r=true) (hn:rs.length≤100000) (z:Sta) (hz:foldS noSta rs=some z) (hok:okS z) (m:Nat) (hm:m=z.F.length) :
 Triple Tryz.prog 105 [pP q] [DiskM q D] [TabA] (Nat × Nat × StaS) (fun (p,_,_)=>.tuple #[pP p,.int .i64 0]) (fun (_,_,X)=>X.abs=z) (fun (p,w,X)=>[DiskM q D',X.rd,StoP p w X m false,WalM w q W']):=by
 subst hm
 have:=openST q D hD (by rw [h]) rs (by rw [h]) hmay hn z hz hok
 rw [h] at this
 exact this.imp fun x g=>⟨x,rfl,g,fun _ p=>rot4 (rot4 (rot4 p))⟩
structure HoldQ (x:StaS) (z:Sta) (W:WK) (D:DK) (s:Nat) (d:Bool) (b i:Nat):Prop where
 eq:x.abs=z
 ok:∃ rs m,HoldS z W D rs m b 0 i∧(d=false→s=z.F.length∧m=rs.length)
structure QI (q:Nat) (z:Sta) (s:Nat) (d:Bool) (b i:Nat) where
 w:Nat
 x:StaS
 W:WK
 D:DK
 h:HoldQ x z W D s d b i
def StQ (p q:Nat) (z:Sta) (s:Nat) (d:Bool) (b i:Nat):Asn:=Asn.ex fun (y:QI q z s d b i)=>Asn.star [StoP p y.w y.x s d,WalM y.w q y.W,DiskM q y.D,y.x.rd]
theorem StQ.out {p q:Nat} {z:Sta} {s:Nat} {d:Bool} {b i:Nat} (h:Hp) (g:Asn.starH [StQ p q z s d b i] h):∃ y:QI q z s d b i,Asn.starH [StoP p y.w y.x s d,WalM y.w q y.W,DiskM q y.D,y.x.rd] h:=by
 obtain ⟨y,hy⟩:=starH_one.1 g
 exact ⟨y,star_holds.1 hy⟩
theorem StQ.in {p q:Nat} {z:Sta} {s:Nat} {d:Bool} {b i w:Nat} {x:StaS} {W:WK} {D:DK} (k:HoldQ x z W D s d b i) {h:Hp} (g:Asn.starH [StoP p w x s d,WalM w q W,DiskM q D,x.rd] h):(StQ p q z s d b i).holds h:=⟨⟨w,x,W,D,k⟩,star_holds.2 g⟩
theorem HoldQ.i {x:StaS} {z:Sta} {W:WK} {D:DK} {s:Nat} {d:Bool} {b i:Nat} (k:HoldQ x z W D s d b i):okS x.abs∧okD D∧okW W:=by
 obtain ⟨rs,m,h,_⟩:=k.ok
 obtain ⟨_,_,_,hL,_⟩:=h.log
 exact ⟨by rw [k.eq];exact h.st,hL.ok,hL.okW⟩
theorem regQ (p q:Nat) (z:Sta) (s:Nat) (d:Bool) (b i j:Nat) (g:Reg) (hj:j<4) (hg:z.R[j]? = some g) (hl:g.L.length≤1000):Triple Tryz.prog 32 [pP p,.int .i64 (j:Int)] [StQ p q z s d b i] [] Sl (fun (A',c')=>.tuple #[.agg (encG ⟨g,A',c'⟩).toArray,.int .i64 0]) (fun (_,c')=>g.L.length≤c') (fun (A',c')=>[StQ p q z s d b i,Row 127 6 A' g.L.length c' (g.L.flatMap encE)]):=by
 refine Triple.pre (fun h=>StQ.out h) fun ⟨w,x,W,D,k⟩=>?_
 have e:∃ y,x.regs[j]? = some y∧y.r=g:=by
  rw [←k.eq,abs_R,List.getElem?_map] at hg
  cases hy:x.regs[j]? with
  | none=>rw [hy] at hg;cases hg
  | some y=>rw [hy] at hg;exact ⟨y,rfl,Option.some.inj hg⟩
 obtain ⟨y,hy,rfl⟩:=e
 refine ((regGood p w x s d j y hj hy hl).lend [WalM w q W,DiskM q D,x.rd] fun h r Z hZ=>?_).imp fun (A',c') g'=>⟨(A',c'),rfl,g',fun h r=>?_⟩
 · obtain rfl:=List.mem_singleton.1 hZ
   exact starH_mem (by simp) r
 obtain ⟨h1,h2,d1,a1,a2,p1,h3,h4,d2,b1,b2,p2,p3⟩:=r
 have d3:h3.dis h1:=(d1.mono (Hp.le_refl _) b1).symm
 have d4:h4.dis h1:=(d1.mono (Hp.le_refl _) b2).symm
 have hd:(h1.join h4).dis h3:=Hp.join_dis d3.symm d2.symm
 exact ⟨h1.join h4,h3,hd,Hp.join_le a1 (b2.trans a2),b1.trans a2,StQ.in k ⟨h1,h4,d4.symm,Hp.le_join_left _ _,Hp.le_join_right d4.symm,p1,p3⟩,starH_one.2 p2⟩
theorem writeQ (p q:Nat) (z z':Sta) (s:Nat) (d:Bool) (b i:Nat) (C:Option Addr) (L:List RecS) (n c b':Nat) (hn:n=L.length) (hn0:0<n) (hn1:n≤1000) (hL:∀ y∈L,y.r.L.length≤2000∧y.r.F.length≤100000) (hw:writeS z (recsR L)=some z') (hb:b'=b+(47*L.length+30*entsR L)) (hb2:b'≤200000) :
 Triple Tryz.prog 115 [pP p,.slice C n c] [StQ p q z s d b i] [TabA,Rd 8 C n (L.flatMap encR),RecsRd L] Unit (fun _=>.int .i64 0) (fun _=>True) (fun _=>[StQ p q z' s true b' i]):=by
 subst hb
 refine Triple.pre (fun h=>StQ.out h) fun ⟨w,x,W,D,k⟩=>?_
 obtain ⟨rs,m,hS,_⟩:=k.ok
 obtain ⟨k1,k2,k3⟩:=k.i
 obtain ⟨W',D',e,hS'⟩:=hS.write hb2 (Nat.zero_le _) hw
 have hne:L≠[]:=fun h0=>by rw [h0] at hn;simp at hn;omega
 refine (writeLT p w q x s d W D C L n c hn hn1 hL k2 k3 k1 (W',D',0,true) (by rw [k.eq,e];simp [hne])).imp fun X g=>⟨(),rfl,trivial,fun h r=>starH_one.2 ?_⟩
 rw [if_pos rfl,k.eq,hw] at g
 exact StQ.in ⟨(Option.some.inj g).symm,_,m,hS',fun h0=>by cases h0⟩ (by simpa using r)
theorem syncQ (p q:Nat) (z:Sta) (s:Nat) (d:Bool) (b i:Nat):Triple Tryz.prog 24 [pP p] [StQ p q z s d b i] [TabA] Unit (fun _=>.int .i64 0) (fun _=>True) (fun _=>[StQ p q z z.F.length false b i]):=by
 refine Triple.pre (fun h=>StQ.out h) fun ⟨w,x,W,D,k⟩=>?_
 obtain ⟨rs,m,hS,hm⟩:=k.ok
 obtain ⟨_,k2,k3⟩:=k.i
 have hxF:x.F.length=z.F.length:=by rw [←k.eq];rfl
 have hS2:=hS
 rw [←k.eq] at hS2
 obtain ⟨D',e,hS'⟩:=hS2.sync (w:=w) (q:=q) (sure:=s) (dirty:=d) (fun h0=>by rw [hxF];exact hm h0)
 rw [k.eq] at hS'
 refine ((syncLT p w q x s d W D k2 k3 e).frame [x.rd]).imp fun _ _=>⟨(),rfl,trivial,fun h r=>starH_one.2 ?_⟩
 exact StQ.in (x:=x) (W:=W) (D:=D') (d:=false) ⟨k.eq,rs,_,hS',fun _=>⟨rfl,rfl⟩⟩ (by rw [hxF] at r;exact r)
theorem feedQ (p q:Nat) (z:Sta) (s:Nat) (d:Bool) (b i:Nat):Triple Tryz.prog 29 [pP p] [StQ p q z s d b i] [] Sl (fun (A',c')=>.tuple #[.slice A' z.F.length c',.int .i64 (s:Nat)]) (fun (_,c')=>z.F.length≤c') (fun (A',c')=>[StQ p q z s d b i,Row 112 2 A' z.F.length c' (z.F.flatMap encP)]):=by
 refine Triple.pre (fun h=>StQ.out h) fun ⟨w,x,W,D,k⟩=>?_
 obtain ⟨k1,_,_⟩:=k.i
 have hx:x.F=z.F:=by rw [←k.eq];rfl
 have T:=feedSt p w x s d (Nat.le_trans (feed_small k1).1 (by decide))
 rw [hx] at T
 refine (T.lend [WalM w q W,DiskM q D,x.rd] fun h r Z hZ=>?_).imp fun (A',c') g'=>⟨(A',c'),rfl,g',fun h r=>?_⟩
 · obtain rfl:=List.mem_singleton.1 hZ
   exact starH_mem (by simp) r
 obtain ⟨h1,h2,d1,a1,a2,p1,h3,h4,d2,b1,b2,p2,p3⟩:=r
 have d3:h3.dis h1:=(d1.mono (Hp.le_refl _) b1).symm
 have d4:h4.dis h1:=(d1.mono (Hp.le_refl _) b2).symm
 have hd:(h1.join h4).dis h3:=Hp.join_dis d3.symm d2.symm
 exact ⟨h1.join h4,h3,hd,Hp.join_le a1 (b2.trans a2),b1.trans a2,StQ.in k ⟨h1,h4,d4.symm,Hp.le_join_left _ _,Hp.le_join_right d4.symm,p1,p3⟩,starH_one.2 p2⟩
structure HoldD (z:Sta) (D:DK) (b i:Nat):Prop where
 ok:okD D
 lo:0≤D.starts
 hi:D.starts≤i
 up:∃ D2,startD D=(D2,0)∧okD D2∧∃ D3 W3 rs,openD D2=(D3,0,W3,rs.map recB)∧HoldS z W3 D3 rs rs.length b 0 (i+1)
def DownQ (q:Nat) (z:Sta) (b i:Nat):Asn:=Asn.ex fun (y:{D:DK // HoldD z D b i})=>DiskM q y.1
def UpQ (q:Nat) (z:Sta) (b i:Nat):Asn:=Asn.ex fun (y:{D:DK // okD D∧∃ D3 W3 rs,openD D=(D3,0,W3,rs.map recB)∧HoldS z W3 D3 rs rs.length b 0 i})=>DiskM q y.1
theorem crashQ (p q:Nat) (z:Sta) (s:Nat) (b i:Nat):Triple Tryz.prog 55 [pP q,.slice none 0 0] [StQ p q z s false b i] [] Unit (fun _=>.int .i64 0) (fun _=>True) (fun _=>[DownQ q z b i]):=by
 refine Triple.pre (fun h=>StQ.out h) fun ⟨w,x,W,D,k⟩=>?_
 obtain ⟨rs,m,hS,hm⟩:=k.ok
 obtain ⟨_,rfl⟩:=hm rfl
 obtain ⟨_,k2,_⟩:=k.i
 obtain ⟨D1,D2,D3,W3,J,y,e1,o1,s1,e2,o2,e3,j1,j2,f1,hS'⟩:=hS.crash [] (fun J h1 h2=>by
  obtain rfl:J=rs.length:=Nat.le_antisymm h2 h1
  rw [List.take_length]
  exact ⟨z,hS.fold,hS.st⟩)
 obtain rfl:J=rs.length:=Nat.le_antisymm j2 j1
 rw [List.take_length] at f1 e3 hS'
 obtain rfl:z=y:=Option.some.inj (hS.fold.symm.trans f1)
 have T:=(crashM q D none 0 0 [] k2 rfl).nfree (fun Z hZ h=>by
  obtain rfl:=List.mem_singleton.1 hZ
  exact Rd.nil _ _ h)
 rw [e1] at T
 refine Triple.imp (Triple.pre (M':=[StoP p w x s false,WalM w q W,DiskM q D,x.rd]) (α:=Unit) (fun h r=>⟨(),?_⟩) fun _=>T.frame [StoP p w x s false,WalM w q W,x.rd]) fun _ _=>⟨(),rfl,trivial,fun h r=>starH_one.2 ?_⟩
 · obtain ⟨h1,h2,d1,a1,a2,p1,p2⟩:=r
   exact starH_swap ⟨h1,h2,d1,a1,a2,p1,starH_swap p2⟩
 obtain ⟨h1,h2,d1,a1,a2,p1,_⟩:=r
 exact Asn.mono _ a1 ⟨⟨D1,o1,by rw [s1];exact hS.lo,by rw [s1];exact hS.hi,D2,e2,o2,D3,W3,rs,e3,hS'⟩,p1⟩
theorem startQ (q:Nat) (z:Sta) (b i:Nat) (hi:i≤1000000):Triple Tryz.prog 58 [pP q] [DownQ q z b i] [] Unit (fun _=>.int .i64 0) (fun _=>True) (fun _=>[UpQ q z b (i+1)]):=by
 refine Triple.pre (α:={D:DK // HoldD z D b i}) (M:=fun y=>[DiskM q y.1]) (fun h r=>?_) fun ⟨D,k⟩=>?_
 · obtain ⟨y,hy⟩:=starH_one.1 r
   exact ⟨y,starH_one.2 hy⟩
 obtain ⟨D2,e,o2,D3,W3,rs,e3,hS⟩:=k.up
 have T:=startM q D k.ok k.lo (by have:=k.hi;omega)
 rw [e] at T
 exact T.imp fun _ _=>⟨(),rfl,trivial,fun h r=>starH_one.2 ⟨⟨D2,o2,D3,W3,rs,e3,hS⟩,starH_one.1 r⟩⟩
theorem openQ (q:Nat) (z:Sta) (b i m:Nat) (hb:b≤100000) (hm:m=z.F.length):Triple Tryz.prog 105 [pP q] [UpQ q z b i] [TabA] Nat (fun p=>.tuple #[pP p,.int .i64 0]) (fun _=>True) (fun p=>[StQ p q z m false b i]):=by
 subst hm
 refine Triple.pre (α:={D:DK // okD D∧∃ D3 W3 rs,openD D=(D3,0,W3,rs.map recB)∧HoldS z W3 D3 rs rs.length b 0 i}) (M:=fun y=>[DiskM q y.1]) (fun h r=>?_) fun ⟨D,o,D3,W3,rs,e3,hS⟩=>?_
 · obtain ⟨y,hy⟩:=starH_one.1 r
   exact ⟨y,starH_one.2 hy⟩
 have hlen:rs.length≤b:=by
  have h2:=hS.room
  have:∀ l:List Rec,l.length≤roomL l:=fun l=>by
   induction l with
   | nil=>exact Nat.le_refl _
   | cons r l ih=>rw [roomL_cons,List.length_cons];unfold roomR;omega
  exact Nat.le_trans (this rs) h2
 refine (openLT q D o rs e3 hS.may (by omega) z hS.fold hS.st _ rfl).imp fun (p,w,X) g=>⟨p,rfl,trivial,fun h r=>starH_one.2 ?_⟩
 exact StQ.in (W:=W3) (D:=D3) (x:=X) ⟨g,rs,rs.length,hS,fun _=>⟨rfl,rfl⟩⟩ (rot4 (rot4 r))
theorem newQ:Triple Tryz.prog 60 [.int .i64 262144] [] [] Nat (fun q=>.tuple #[pP q,.int .i64 0]) (fun _=>True) (fun q=>[UpQ q noSta 0 0]) :=
 (newM 262144 (by decide) (by decide)).imp fun q _=>⟨q,rfl,trivial,fun h r=>starH_one.2 ⟨⟨exD,ex_live.ok,exD,exW,[],ex_live.self,HoldS.new⟩,starH_one.1 r⟩⟩
end Go.Proofs.YtnhoidnmlibcpaaGreatDoor
namespace Go.Sy
open Go.RowKit Go.ChangeShapes Go.WideShapes
section
variable {H:Type} {enc:TypeId × Value→H} {P:Program}
def typesOk (P:Program) (ts:List TypeId):Bool:=ts.all fun t=>P.readableRec t&&decide (t<P.types.size)
theorem trodAll_below (hl:laidOutB P=true) {W W':World} (hb:Below W.heap.size W W') (sp:Nat→Bool) :
 ∀ {ts:List TypeId} {vs:List Value} {ds:List (DataW H)} {ps:List MemPlace},typesOk P ts=true→DataW.TrodAll enc P W 0 (fun _=>true) true ts vs ds ps→(∀ x∈ps,x.block<W.heap.size)→(∀ x∈ps,sp x.block=true) →
  DataW.TrodAll enc P W' 0 sp true ts vs ds ps
 | [],[],[],_,_,h,_,_=>h
 |
  t::ts,v::vs,d::ds,_,ht,⟨p,q,h1,h2,e⟩,hlt,hsp=>by
  subst e
  simp only [typesOk,List.all_cons,Bool.and_eq_true,decide_eq_true_eq] at ht
  exact ⟨p,q,WideElems.Trod_stays hl ht.1.1 ht.1.2 h1 (fun x hx=>hb.same (hlt x (List.mem_append_left _ hx))) (fun x hx=>hsp x (List.mem_append_left _ hx)),
   trodAll_below hl hb sp (ts:=ts) (by simpa [typesOk] using ht.2) h2 (fun x hx=>hlt x (List.mem_append_right _ hx)) (fun x hx=>hsp x (List.mem_append_right _ hx)),rfl⟩
 | [],[],_::_,_,_,h,_,_=>h.elim
 | [],_::_,[],_,_,h,_,_=>h.elim
 | [],_::_,_::_,_,_,h,_,_=>h.elim
 | _::_,[],[],_,_,h,_,_=>h.elim
 | _::_,[],_::_,_,_,h,_,_=>h.elim
 | _::_,_::_,[],_,_,h,_,_=>h.elim
theorem post_true {f:Func} {s:ChangeSpec} {apart fresh handsOn again:Bool} {W W':World} {args:Array Value} {ds gs:List (DataW H)} {before:List MemPlace} {rt:TypeId}
 (hl:laidOutB P=true) (hts:typesOk P f.params.toList=true) (hvars:s.vars=[]) (hrt:f.resultTypes = #[rt]) (hbool:P.underlying rt=some .bool)
 (hW:DataW.Whole enc P f.params.toList s.vars apart W args.toList ds gs before) (hb:Below W.heap.size W W')
 (hr:(s.fn H (ds++gs)).results=[.lit (.bool true)]) (ha:(s.fn H (ds++gs)).args=ds) (hv:(s.fn H (ds++gs)).vars=[]) :
 s.post enc P f apart fresh handsOn again W args (.bool true) W':=by
 have hlt:∀ p∈before,p.block<W.heap.size:=fun p hp=>hW.lt p hp
 have hold:∀ p∈before,(fun b=>decide (b<W.heap.size)) p.block=true:=fun p hp=>by simpa using hlt p hp
 have hW2:=hW
 obtain ⟨p,q,hA,hV,rfl,hz,hn⟩:=hW2
 rw [hvars] at hV
 obtain ⟨rfl,rfl⟩:=trodVars_none hV
 rw [List.append_nil] at hlt hold hz hn hW
 have hres:∀ (b:Nat) (sp:Nat→Bool) (hd:Bool),DataW.TrodAll enc P W' b sp hd f.resultTypes.toList ((Value.bool true).resultList f.resultTypes.size) (s.fn H (ds++[])).results []:=fun b sp hd=>by
  rw [hr,hrt]
  exact trodAll_mk1 (shut_bool hbool true)
 have hargs:∀ sp:Nat→Bool,(∀ x∈p,sp x.block=true)→DataW.TrodAll enc P W' 0 sp true f.params.toList args.toList (s.fn H (ds++[])).args p:=fun sp hsp=>by
  rw [ha]
  exact trodAll_below hl hb sp hts hA hlt hsp
 have hvs:∀ sp:Nat→Bool,DataW.TrodVars enc P W' sp s.vars (s.fn H (ds++[])).vars []:=fun sp=>by rw [hv,hvars];rfl
 have hok:∀ (j:Nat) (t:TypeId) (r:Value),f.resultTypes[j]? = some t→((Value.bool true).resultList f.resultTypes.size)[j]? = some r→Value.okWide P W' .any 0 t r:=by
  intro j t r hj hr'
  rw [hrt] at hj hr'
  match j,hj,hr' with
  |
   0,hj,hr' =>
   simp [Value.resultList] at hj hr'
   subst hj;subst hr'
   exact okWide_bool_mk hbool true
 refine ⟨ds,[],p,[],p,[],hW,hres _ _ _,hargs _ hold,hvs _,World.keptBut_mono (fun x hx=>⟨hx,?_⟩) (hb.frame (· ∈ p)),fun _=>?_⟩
 · exact .inr (.inl hx)
 refine ⟨hok,_,_,([]++p)++[],⟨[]++p,[],trodAll_append (hargs _ (fun _ _=>rfl)) (hres _ _ _),hvs _,rfl,?_,?_⟩,?_⟩
 · intro b off hp
   have hin:MemPlace.cell b off∈p:=by simpa using hp
   rw [hb.frozen (hlt _ hin)]
   exact hz b off hin
 · intro h
   simpa using hn h
 intro x hx _
 simpa using hx
end
def Sees (T:Tab) (w:World):Nat→TypeId→List Value→Prop
 | 0,_,_=>True
 |
  F+1,t,cs=>match (te T t).map (fun e:TE=>e.k) with
  | some (TK.int k)=>∃ n,cs=[.int k n]∧(Lit.int k n).wf=true
  | some TK.bool=>∃ b,cs=[.bool b]
  | some TK.string=>∃ s:ByteArray,cs=[.string s]∧s.size≤maxLen
  | some (TK.slice el)=>cs=[.slice none 0 0]∨∃ a n c,cs=[.slice (some a) n c]∧n≤c∧(c≤maxLen∧n≤reachBytes) ∧
   ∀ e',te T el=some e'→∀ i,i<n→∃ vs,w.cells? 0 (a.add (i*e'.size)) e'.size=some vs∧Sees T w F el vs
  | some (TK.struct fs)=>∀ f∈fs,∀ e',te T f.2=some e'→Sees T w F f.2 ((cs.drop f.1).take e'.size)
  | _=>True
theorem cellsOf_te {P:Program} {T:Tab} (hT:TabOk P T) {t:TypeId} {e:TE} (h:te T t=some e):P.cellsOf t=e.size:=by
 obtain ⟨i,u,z,h1,_,_,_,h2,_⟩:=te_spec hT h
 simp [Program.cellsOf,h1,h2]
def bytesOk (P:Program) (T:Tab):Bool:=T.all fun o=>match o.map (fun e:TE=>e.k) with
 | some (TK.slice el)=>decide (1≤P.bytesOf el)
 | _=>true
theorem bytesOk_at {P:Program} {T:Tab} (h:bytesOk P T=true) {t el:TypeId} (hk:(te T t).map (fun e:TE=>e.k)=some (TK.slice el)):1≤P.bytesOf el:=by
 unfold te at hk
 cases ht:T[t]? with
 | none=>rw [ht] at hk;cases hk
 |
  some o =>
  rw [ht] at hk
  have h1:=List.all_eq_true.1 h o (List.mem_of_getElem? ht)
  rw [show o.map (fun e:TE=>e.k)=some (TK.slice el) from hk] at h1
  exact of_decide_eq_true h1
theorem weightsAll_get {H:Type} (P:Program) (e:TypeId):∀ (l:List (DataW H)) (i:Nat) (d:DataW H),l[i]? = some d→∀ k∈d.weights P e,k∈DataW.weightsAll P e l
 | [],_,_,h,_,_=>by cases h
 |
  x::l,0,d,h,k,hk=>by
  cases h
  rw [DataW.weightsAll]
  exact List.mem_append_left _ hk
 |
  x::l,i+1,d,h,k,hk=>by
  rw [DataW.weightsAll]
  exact List.mem_append_right _ (weightsAll_get P e l i d h k hk)
theorem weightsEach_get {H:Type} (P:Program):∀ (ts:List TypeId) (l:List (DataW H)) (i:Nat) (t:TypeId) (d:DataW H),ts[i]? = some t→l[i]? = some d→∀ k∈d.weights P t,k∈DataW.weightsEach P ts l
 | [],_,_,_,_,h,_,_,_=>by cases h
 | _::_,[],_,_,_,_,h,_,_=>by cases h
 |
  s::ts,x::l,0,t,d,h,h2,k,hk=>by
  cases h
  cases h2
  rw [DataW.weightsEach]
  exact List.mem_append_left _ hk
 |
  s::ts,x::l,i+1,t,d,h,h2,k,hk=>by
  rw [DataW.weightsEach]
  exact List.mem_append_right _ (weightsEach_get P ts l i t d h h2 k hk)
theorem sees_of_trod {H:Type} {enc:TypeId × Value→H} {P:Program} {T:Tab} (hT:TabOk P T) (hB:bytesOk P T=true) {w:World} {sp:Nat→Bool} {held:Bool} :
 ∀ (F fuel:Nat) (t:TypeId) (cs:List Value) (x:DataW H × List MemPlace),DataW.trod enc P w 0 sp held fuel t cs=some x→(∀ k∈x.1.weights P t,k≤reachBytes)→Sees T w F t cs
 | 0,_,_,_,_,_,_=>trivial
 |
  F+1,fuel,t,cs,x,h,hw=>by
  unfold Sees
  cases ht:te T t with
  | none=>trivial
  |
   some e =>
   obtain ⟨i,u,z,hi,hu,hz,hk,hs,_⟩:=te_spec hT ht
   simp only [Option.map_some,hk]
   cases u with
   |
    int k =>
    obtain ⟨n,h1,_,h2⟩:=DataW.trod_int hu h
    exact ⟨n,h1,h2⟩
   |
    bool =>
    obtain ⟨b,h1,_⟩:=DataW.trod_bool hu h
    exact ⟨b,h1⟩
   |
    string =>
    obtain ⟨s,h1,_,h2⟩:=DataW.trod_string hu h
    exact ⟨s,h1,h2⟩
   |
    slice el =>
    rcases DataW.trod_slice hu h with ⟨h1,_⟩ | ⟨a,n,c,elems,rest,m,_,h1,hx,_,h2,h3,h4,h5,_,_⟩
    · exact .inl h1
    have h1b:1≤P.bytesOf el:=bytesOk_at hB (by rw [ht,Option.map_some,hk];rfl)
    have hxw:x.1.weights P t=((elems.map (·.1)).length+(rest.map (·.1)).length)*P.bytesOf el::(DataW.weightsAll P el (elems.map (·.1))++DataW.weightsAll P el (rest.map (·.1))):=by rw [hx,DataW.weights,hu]
    rw [hxw] at hw
    have hnb:n≤reachBytes:=by
     have h7:=hw _ List.mem_cons_self
     have h8:=Nat.le_mul_of_pos_right ((elems.map (·.1)).length+(rest.map (·.1)).length) h1b
     rw [List.length_map] at h8
     rw [List.length_map] at h7
     omega
    refine .inr ⟨a,n,c,h1,h2,⟨h3,hnb⟩,fun e' he' j hj=>?_⟩
    have h6:=h5 j hj
    rw [cellsOf_te hT he'] at h6
    have hlt:j<elems.length:=by omega
    rw [List.getElem?_eq_getElem hlt] at h6
    cases hc:w.cells? 0 (a.add (j*e'.size)) e'.size with
    | none=>rw [hc] at h6;cases h6
    |
     some vs =>
     rw [hc] at h6
     exact ⟨vs,rfl,sees_of_trod hT hB F m el vs _ h6 fun k hk'=>hw k (List.mem_cons_of_mem _ (List.mem_append_left _ (weightsAll_get P el _ j elems[j].1 (by rw [List.getElem?_map,List.getElem?_eq_getElem hlt];rfl) k hk')))⟩
   |
    struct fs =>
    obtain ⟨xs,n,_,hx,hlen,hxl,hf⟩:=DataW.trod_struct hu h
    have hxw:x.1.weights P t=DataW.weightsEach P (fs.toList.map (·.type)) (xs.map (·.1)):=by rw [hx,DataW.weights,hu]
    rw [hxw] at hw
    intro f hf' e' he'
    obtain ⟨g,hg,rfl⟩:=List.mem_map.1 hf'
    obtain ⟨j,hj⟩:=List.mem_iff_getElem?.1 hg
    have h6:=hf j g (by simpa using hj)
    rw [cellsOf_te hT he'] at h6
    have hlt:j<xs.length:=by
     have:=(List.getElem?_eq_some_iff.1 hj).1
     simp at this
     omega
    rw [List.getElem?_eq_getElem hlt] at h6
    exact sees_of_trod hT hB F n g.type _ _ h6 fun k hk'=>hw k (weightsEach_get P _ _ j g.type xs[j].1 (by rw [List.getElem?_map,hj];rfl) (by rw [List.getElem?_map,List.getElem?_eq_getElem hlt];rfl) k hk')
   | _=>trivial
def leaves (T:Tab):Nat→TypeId→List (Nat × TypeId)
 | 0,t=>[(0,t)]
 |
  d+1,t=>match (te T t).map (fun e:TE=>e.k) with
  | some (TK.struct fs)=>fs.flatMap fun f=>(leaves T d f.2).map fun p=>(f.1+p.1,p.2)
  | _=>[(0,t)]
theorem sees_down {T:Tab} {w:World}:∀ (F:Nat) {t:TypeId} {cs:List Value},Sees T w (F+1) t cs→Sees T w F t cs
 | 0,_,_,_=>trivial
 |
  F+1,t,cs,h=>by
  unfold Sees at h ⊢
  cases hk:(te T t).map (fun e:TE=>e.k) with
  | none=>trivial
  |
   some k =>
   rw [hk] at h
   cases k with
   |
    slice el =>
    rcases h with h | ⟨a,n,c,h1,h2,h3,h4⟩
    · exact .inl h
    exact .inr ⟨a,n,c,h1,h2,h3,fun e' he' i hi=>let ⟨vs,hv,hs⟩:=h4 e' he' i hi;⟨vs,hv,sees_down F hs⟩⟩
   | struct fs=>exact fun f hf e' he'=>sees_down F (h f hf e' he')
   | _=>exact h
theorem sees_downs {T:Tab} {w:World} {F:Nat} {t:TypeId} {cs:List Value}:∀ (d:Nat),Sees T w (F+d) t cs→Sees T w F t cs
 | 0,h=>h
 | d+1,h=>sees_downs d (sees_down (F+d) h)
def oneK:TK→Bool
 | .int _=>true
 | .bool=>true
 | .string=>true
 | .slice _=>true
 | _=>false
theorem sees_one {T:Tab} {w:World} {F:Nat} {t:TypeId} {cs:List Value} {k:TK} (hk:(te T t).map (fun e:TE=>e.k)=some k) (ho:oneK k=true) (h:Sees T w (F+1) t cs):∃ v,cs=[v]:=by
 unfold Sees at h
 rw [hk] at h
 cases k<;>first | (cases ho;done) | (obtain ⟨n,h1,_⟩:=h;exact ⟨_,h1⟩;done) | (obtain ⟨n,h1⟩:=h;exact ⟨_,h1⟩;done) | (rcases h with h | ⟨a,n,c,h,_⟩<;>exact ⟨_,h⟩)
theorem sees_leaf {T:Tab} {w:World} {F:Nat} {k:TK} (ho:oneK k=true) {u:TypeId} (hk:(te T u).map (fun e:TE=>e.k)=some k):∀ (d:Nat) {t:TypeId} {cs:List Value} {o:Nat},(o,u)∈leaves T d t→(∀ p∈leaves T d t,(te T p.2).isSome=true)→Sees T w (F+1+d) t cs→∃ v,cs[o]? = some v∧Sees T w (F+1) u [v]
 |
  0,t,cs,o,hm,_,h=>by
  simp [leaves] at hm
  obtain ⟨rfl,rfl⟩:=hm
  obtain ⟨v,rfl⟩:=sees_one hk ho h
  exact ⟨v,rfl,h⟩
 |
  d+1,t,cs,o,hm,hi,h=>by
  have h0:=sees_downs (d+1) h
  have h':Sees T w (F+1+d+1) t cs:=h
  unfold leaves at hm hi
  unfold Sees at h'
  cases hkt:(te T t).map (fun e:TE=>e.k) with
  |
   none =>
   rw [hkt] at hm
   simp at hm
   obtain ⟨rfl,rfl⟩:=hm
   rw [hk] at hkt;cases hkt
  |
   some kt =>
   rw [hkt] at hm hi h'
   have base:(o,u)∈[(0,t)]→∃ v,cs[o]? = some v∧Sees T w (F+1) u [v]:=fun hm=>by
    simp at hm
    obtain ⟨rfl,rfl⟩:=hm
    obtain ⟨v,rfl⟩:=sees_one hk ho h0
    exact ⟨v,rfl,h0⟩
   cases kt with
   |
    struct fs =>
    simp only [List.mem_flatMap,List.mem_map] at hm
    obtain ⟨f,hf,⟨o',u'⟩,hp,he⟩:=hm
    simp only [Prod.mk.injEq] at he
    obtain ⟨rfl,rfl⟩:=he
    cases hte:te T f.2 with
    |
     none =>
     exfalso
     have h1:leaves T d f.2=[(0,f.2)]:=by cases d<;>simp [leaves,hte]
     have h2:=hi (f.1+0,f.2) (List.mem_flatMap.2 ⟨f,hf,by rw [h1];exact List.mem_map.2 ⟨(0,f.2),by simp,rfl⟩⟩)
     rw [hte] at h2;cases h2
    |
     some e' =>
     obtain ⟨v,hv,hs⟩:=sees_leaf ho hk d hp (fun p hp'=>hi (f.1+p.1,p.2) (List.mem_flatMap.2 ⟨f,hf,List.mem_map.2 ⟨p,hp',rfl⟩⟩)) (h' f hf e' hte)
     refine ⟨v,?_,hs⟩
     rw [List.getElem?_take] at hv
     split at hv
     · rwa [List.getElem?_drop] at hv
     cases hv
   | _=>exact base hm
theorem leaf_int {T:Tab} {w:World} {F d:Nat} {k:IntKind} {u t:TypeId} {cs:List Value} (hk:(te T u).map (fun e:TE=>e.k)=some (.int k)) (hi:(leaves T d t).all (fun p=>(te T p.2).isSome)=true) (h:Sees T w (F+1+d) t cs) (o:Nat) (hm:(o,u)∈leaves T d t):∃ n,cs[o]? = some (.int k n)∧(Lit.int k n).wf=true:=by
 obtain ⟨v,hv,hs⟩:=sees_leaf rfl hk d hm (List.all_eq_true.1 hi) h
 unfold Sees at hs
 rw [hk] at hs
 obtain ⟨n,h1,h2⟩:=hs
 cases h1
 exact ⟨n,hv,h2⟩
theorem list_of_sees {T:Tab} {w:World} {F:Nat} {t el:TypeId} {e:TE} {cs:List Value} {α:Type} [Inhabited α] {enc:α→List Value} {G:α→Prop} (hk:(te T t).map (fun e:TE=>e.k)=some (.slice el)) (he:te T el=some e) (h0:0<e.size)
 (hlen:∀ x,(enc x).length=e.size) (hone:∀ x,(enc x).all Value.oneCell'=true)
 (hdec:∀ vs,vs.length=e.size→Sees T w F el vs→∃ x,vs=enc x∧G x) (h:Sees T w (F+1) t cs) :
 ∃ A n c,∃ l:List α,cs=[.slice A n c]∧l.length=n∧n≤c∧(c≤maxLen∧n≤reachBytes)∧(Rd e.size A n (l.flatMap enc)).holds (hp w)∧∀ x∈l,G x:=by
 unfold Sees at h
 rw [hk] at h
 rcases h with h | ⟨a,n,c,h1,h2,h3,h4⟩
 · exact ⟨none,0,0,[],h,rfl,Nat.le_refl _,⟨Nat.zero_le _,Nat.zero_le _⟩,Rd.nil _ _ _,fun _ h=>by cases h⟩
 have key:∀ i,i<n→∃ x,w.cells? 0 (a.add (i*e.size)) e.size=some (enc x)∧G x:=fun i hi=>by
  obtain ⟨vs,hv,hs⟩:=h4 e he i hi
  obtain ⟨x,rfl,hx⟩:=hdec vs (World.cells?_some hv).2.1 hs
  exact ⟨x,hv,hx⟩
 obtain ⟨f,hf⟩:∃ f:Nat→α,∀ i,i<n→w.cells? 0 (a.add (i*e.size)) e.size=some (enc (f i))∧G (f i):=by
  refine ⟨fun i=>if hi:i<n then Classical.choose (key i hi) else default,fun i hi=>?_⟩
  simp only [hi,dite_true]
  exact Classical.choose_spec (key i hi)
 let l:=(List.range n).map f
 have hll:l.length=n:=by simp [l]
 refine ⟨some a,n,c,l,h1,hll,h2,h3,⟨by rw [flat_len hlen,hll],fun v hv=>?_,fun hn=>?_⟩,fun x hx=>?_⟩
 · obtain ⟨x,_,hx⟩:=List.mem_flatMap.1 hv
   exact List.all_eq_true.1 (hone x) v hx
 · have hc0:=(World.cells?_some (hf 0 hn).1).2.2 0 h0
   have ha0:a.add 0=a:=by unfold Addr.add;simp
   simp only [Nat.zero_mul,ha0] at hc0
   obtain ⟨g,o,sp⟩:=a
   have hx0:(enc (f 0))[0]? ≠ none:=by simp [hlen];omega
   rw [←hc0] at hx0
   unfold World.cell? at hx0
   cases hw:w.heap[g]? with
   | none=>simp [hw] at hx0
   |
    some ob =>
    cases ob<;>simp [hw] at hx0
    rename_i cur el' fz
    cases sp with
    | some s=>simp at hx0
    |
     none =>
     refine ⟨g,o,cur,el',fz,rfl,hw,?_⟩
     have hcell:∀ j,w.cell? ⟨g,j,none⟩=cur[j]? := fun j=>by unfold World.cell?;simp [hw]
     have hget:∀ k,k<n*e.size→cur[o+k]? = (l.flatMap enc)[k]? := fun k hk'=>by
      have hq:k / e.size<n:=by rw [Nat.div_lt_iff_lt_mul h0];exact hk'
      have hm:k % e.size<e.size:=Nat.mod_lt _ h0
      have h5:=(World.cells?_some (hf (k / e.size) hq).1).2.2 (k % e.size) hm
      rw [addr_add,addr_add,hcell,Nat.add_assoc,Nat.div_add_mod'] at h5
      rw [h5]
      have h6:(enc (f (k / e.size)))[k % e.size]? = ((l.flatMap enc).drop (k / e.size*e.size))[k % e.size]? := by
       rw [flat_drop hlen]
       have:l.drop (k / e.size)=f (k / e.size)::l.drop (k / e.size+1):=by
        rw [List.drop_eq_getElem_cons (by rw [hll];exact hq)]
        simp [l]
       rw [this,List.flatMap_cons,List.getElem?_append_left (by rw [hlen];exact hm)]
      rw [h6,List.getElem?_drop,Nat.div_add_mod']
     have hL:(l.flatMap enc).length=n*e.size:=by rw [flat_len hlen,hll]
     apply List.ext_getElem?
     intro k
     rcases Nat.lt_or_ge k (n*e.size) with hk' | hk'
     · rw [List.getElem?_take,if_pos hk',List.getElem?_drop,Array.getElem?_toList,hget k hk']
     rw [List.getElem?_eq_none (by rw [List.length_take];omega),List.getElem?_eq_none (by omega)]
 obtain ⟨i,hi,rfl⟩:=List.mem_map.1 hx
 exact (hf i (List.mem_range.1 hi)).2
theorem leaf_slice {T:Tab} {w:World} {F d:Nat} {u t el:TypeId} {e:TE} {cs:List Value} {α:Type} [Inhabited α] {enc:α→List Value} {G:α→Prop} (hk:(te T u).map (fun e:TE=>e.k)=some (.slice el)) (he:te T el=some e) (h0:0<e.size)
 (hlen:∀ x,(enc x).length=e.size) (hone:∀ x,(enc x).all Value.oneCell'=true)
 (hdec:∀ vs,vs.length=e.size→Sees T w F el vs→∃ x,vs=enc x∧G x) (hi:(leaves T d t).all (fun p=>(te T p.2).isSome)=true) (h:Sees T w (F+1+d) t cs) (o:Nat) (hm:(o,u)∈leaves T d t) :
 ∃ A n c,∃ l:List α,cs[o]? = some (.slice A n c)∧l.length=n∧n≤c∧(c≤maxLen∧n≤reachBytes)∧(Rd e.size A n (l.flatMap enc)).holds (hp w)∧∀ x∈l,G x:=by
 obtain ⟨v,hv,hs⟩:=sees_leaf rfl hk d hm (List.all_eq_true.1 hi) h
 obtain ⟨A,n,c,l,h1,h2⟩:=list_of_sees hk he h0 hlen hone hdec hs
 cases h1
 exact ⟨A,n,c,l,hv,h2⟩
def AllAt (vs:List Value):Nat→List Value→Prop
 | _,[]=>True
 | k,x::ws=>vs[k]? = some x∧AllAt vs (k+1) ws
theorem drop_of_at (vs:List Value):∀ (ws:List Value) (k:Nat),AllAt vs k ws→vs.length=k+ws.length→vs.drop k=ws
 | [],k,_,hl=>List.drop_eq_nil_of_le (by simp at hl;omega)
 |
  x::ws,k,h,hl=>by
  have hk:k<vs.length:=by simp at hl;omega
  have h1:=h.1
  rw [List.getElem?_eq_getElem hk] at h1
  rw [List.drop_eq_getElem_cons hk,drop_of_at vs ws (k+1) h.2 (by simp at hl;omega)]
  simp at h1
  rw [h1]
theorem eq_of_at {vs ws:List Value} (hl:vs.length=ws.length) (h:AllAt vs 0 ws):vs=ws:=drop_of_at vs ws 0 h (by omega)
end Go.Sy
namespace Go.Proofs.YtnhoidnmlibcpaaGreatDoor
open Go.Sy Go.RowKit Go.ChangeShapes Go.WideShapes
theorem Tryz.own:ownKnob Tryz.prog.godebug=none:=by kernel_rfl
theorem Tryz.laidOut:laidOutB Tryz.prog=true:=by kernel_rfl
end Go.Proofs.YtnhoidnmlibcpaaGreatDoor

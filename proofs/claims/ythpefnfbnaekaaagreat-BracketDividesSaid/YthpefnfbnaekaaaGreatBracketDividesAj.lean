/-
  Contracts: the program's long integers: numbers of bits, products by powers of 2, quotients. Contracts: the reference's long integers: products, quotients, divisors.
-/
import Derived.Test.YthpefnfbnaekaaaGreatBracketDividesAi
import Derived.Test.YthpefnfbnaekaaaGreatBracketDividesAg
import Derived.Test.YthpefnfbnaekaaaGreatBracketDividesAh
set_option linter.unusedVariables false
set_option linter.unusedSimpArgs false
set_option linter.defProp false
set_option linter.deprecated false
namespace Go.Id
open Go
theorem bq_cutE {P:Program} {fn:FuncId} {nt:Nat} {rd:Option Nat} {a c:Code} {fr:Fr} {h:IH} {Q:IExit→Fr→IH→Prop} {b:Bool} (R:Fr→IH→Prop)
  (h1:b=true→Do (wpC P fn nt rd a fr h) (seqK (fun fr h=>Pst (R fr h) nx) Q) nx) (h2:b=false→Do (wpC P fn nt rd c fr h) (seqK (fun fr h=>Pst (R fr h) nx) Q) nx) (k : ∀fr h,R fr h→Q .normal fr h) :
  Bq b (Do (wpC P fn nt rd a fr h) Q nx,Do (wpC P fn nt rd c fr h) Q nx) nx:=by
 have e:Q=seqK (Q .normal) Q:=by funext e fr h;cases e<;>rfl
 refine bq_intro (fun hb=>?_) fun hb=>?_
 ·rw[e];exact cut R (h1 hb) k
 ·rw[e];exact cut R (h2 hb) k
def BitsOf (x k:Nat):Prop:=(x=0→k=0)∧(x≠0→0<k∧2 ^ (k - 1)≤x∧x<2 ^ k)
theorem length_ok {h:IH} {v:Value} {ds:List Nat} (hd:WrdU h v ds) (n:B.Norm ds):WV Proofs.Tryz.prog (.func (.func 161) #[] #[]) [v] h fun r h'=>h'=h ∧ ∃k:Nat,r=KN k∧k≤64*ds.length∧BitsOf (B.valD ds) k:=by
 have hb:=hd.2.2
 have hz:=n.nil_iff
 refine enter (nt:=17) (rs:=[.tmp 2]) Proofs.Tryz.func161 rfl rfl rfl (by simp) ?_
 simp -dsimp (maxSteps:=1000000) (disch:=first|omega|(simp only[new_n,put_n];omega)|decide +kernel|(repeat first|rw[new_n]|rw[put_n])) only[wpS,Nat.reduceEqDiff,hd.1.len sl92]
 refine bq_intro ?_ ?_<;>intro hc<;>simp only[beq_iff_eq,beq_eq_false_iff_ne,ne_eq] at hc
 ·have h0:ds = []:=List.length_eq_zero_iff.1 (by omega)
  simp -dsimp (maxSteps:=1000000) (disch:=first|omega|(simp only[new_n,put_n];omega)|decide +kernel|(repeat first|rw[new_n]|rw[put_n])) only[wpS,wpT,Nat.reduceEqDiff]
  exact⟨0,rfl,by omega,fun _=>rfl,fun hne=>absurd (hz.2 h0) hne⟩
 ·obtain⟨m,hm⟩ : ∃m,ds.length=m+1:=⟨ds.length - 1,by omega⟩
  have hne:ds.getD m 0≠0:=by
   rcases n with rfl|hn
   ·simp at hm
   ·rwa [hm,Nat.add_sub_cancel] at hn
  have dl:=B.getD_lt hd.2.1 m
  have gm:=get_some (show m<ds.length by omega)
  have e1:(ds.length:Int) - 1=(m:Int):=by omega
  simp -dsimp (maxSteps:=1000000) (disch:=first|omega|(simp only[new_n,put_n];omega)|decide +kernel|(repeat first|rw[new_n]|rw[put_n])) only[wpS,wpT,Nat.reduceEqDiff,hd.1.len sl92,e1,hd.1.idx es92 (show m<ds.length by omega),hd.1.ld (Keep.refl _) (P:=Proofs.Tryz.prog) (t:=43) (c:=m) (by simp<;>omega) ag43,map_get,gm]
  refine call (lz_ok (ds.getD m 0) (by omega) dl) ?_
  rintro _ _ ⟨rfl,s,rfl,hs,_,_,h1,h2⟩
  have e2:(64:Int)*(ds.length:Int) - (s:Int)=((64*m+(63 - s)+1:Nat):Int):=by omega
  have hbits:=B.bits_of (k:=63 - s) hd.2.1 hm h1 (by rw[show 63 - s+1=64 - s by omega];exact h2)
  simp -dsimp (maxSteps:=1000000) (disch:=first|omega|(simp only[new_n,put_n];omega)|decide +kernel|(repeat first|rw[new_n]|rw[put_n])) only[wpS,wpT,Nat.reduceEqDiff,e2]
  refine⟨64*m+(63 - s)+1,rfl,by omega,fun h0=>?_,fun _=>⟨by omega,?_,hbits.2⟩⟩
  ·have:=hz.1 h0
   rw[this] at hm;simp at hm
  ·rw[Nat.add_sub_cancel];exact hbits.1
set_option maxHeartbeats 2000000 in
theorem moved_ok {h:IH} {v:Value} {ds:List Nat} (hd:WrdU h v ds) (k:Nat) (hk:ds.length+k / 64+1≤1100000):WV Proofs.Tryz.prog (.func (.func 162) #[] #[]) [v,KN k] h fun r h'=>Ext h h'∧Wrd h' r (B.valD ds*2 ^ k):=by
 obtain⟨m,hm⟩ : ∃m,m=k / 64:=⟨_,rfl⟩
 obtain⟨s,hs⟩ : ∃s,s=k % 64:=⟨_,rfl⟩
 have eM:(k:Int) / 64=(m:Int):=by omega
 have eS:(k:Int) % 64=(s:Int):=by omega
 have s64:s<64:=by omega
 have hk2:k=64*m+s:=by omega
 rw[←hm] at hk
 have eL:(ds.length:Int)+(m:Int)+1=((ds.length+m+1:Nat):Int):=by omega
 refine enter (nt:=54) (rs:=[.tmp 4]) Proofs.Tryz.func162 rfl rfl rfl (by simp) ?_
 simp -dsimp (maxSteps:=1000000) (disch:=first|omega|(simp only[new_n,put_n];omega)|decide +kernel|(repeat first|rw[new_n]|rw[put_n])) only[wpS,wpT,Nat.reduceEqDiff,Nat.reduceAdd,ms92,hd.1.len sl92,eM,eL]
 refine loop (fun j fr h1 => ∃(i:Nat) (os:List Nat),i+j=ds.length∧Ext h h1∧h.n<h1.n∧h1.ext.get h.n=some (.cells (os.map K64) 1 none)∧os.length=ds.length+m+1∧B.Digs os∧B.valD os=B.valT ds i*2 ^ k∧os.getD (i+m) 0<2 ^ s∧(∀j,i+m<j→os.getD j 0=0) ∧
   fget fr 1=some (KN k)∧fget fr 5=some (.slice (some ⟨2*h.n,0,none⟩) (ds.length+m+1) (2*(ds.length+m+1)+1))∧fget fr 15=some v∧fget fr 16=some (KN ds.length)∧fget fr 17=some (KN i)) ds.length
  ⟨0,List.replicate (ds.length+m+1) 0,by omega,(Ext.refl h).new _,by simp,by rw[get_new_same _ _ rfl,repl_k64];rfl,by simp,B.Digs.repl _,by rw[B.valD_repl];simp[B.valT],by rw[B.getD_repl];exact Nat.pow_pos (by omega),fun k _=>B.getD_repl _ _,by simp,by simp,by simp,by simp,by simp⟩ ?_
 rintro j fr h1 ⟨i,os,him,hE,hn,hg,hol,hod,hov,hot,hoz,f1,f5,f15,f16,f17⟩
 simp -dsimp (maxSteps:=1000000) (disch:=first|omega|(simp only[new_n,put_n];omega)|decide +kernel|(repeat first|rw[new_n]|rw[put_n])) only[wpS,f16,f17]
 refine bq_intro ?_ ?_<;>intro hc<;>simp only[decide_eq_true_eq,decide_eq_false_iff_not] at hc
 ·have hi:i<ds.length:=by omega
  have dx:=B.getD_lt hd.2.1 i
  have gx:=get_some hi
  have hr:h1.row (2*h.n)=some (os.map K64):=row_kn hg
  have go:=get_some (show i+m<os.length by omega)
  obtain⟨x,hx⟩ : ∃x,x=ds.getD i 0:=⟨_,rfl⟩
  obtain⟨o,ho⟩ : ∃o,o=os.getD (i+m) 0:=⟨_,rfl⟩
  rw[←hx] at gx dx
  rw[←ho] at go hot
  have gor:(os.map K64)[i+m]?=some (K64 o):=by rw[List.getElem?_map,go];rfl
  have eI:(i:Int)+(m:Int)=((i+m:Nat):Int):=by omega
  obtain⟨y,hy⟩ : ∃y,y=x*2 ^ s % 18446744073709551616:=⟨_,rfl⟩
  have hyl:y<18446744073709551616:=by omega
  have hor:o ||| y=o+y:=B.or_add' hot (by rw[hy];exact B.shl_dvd x s64)
  have hsum:o+y<18446744073709551616:=by
   rw[←hor]
   exact Nat.or_lt_two_pow (n:=64) (Nat.lt_of_lt_of_le hot (Nat.pow_le_pow_right (by omega) (by omega))) hyl
  have eY:x*2 ^ s % 18446744073709551616=y:=hy.symm
  obtain⟨z,hz⟩ : ∃z,z=x / 2 ^ (64 - s):=⟨_,rfl⟩
  have hzl:z<2 ^ s:=by rw[hz];exact B.shr_small dx (by omega)
  have hparts:y+z*18446744073709551616=x*2 ^ s:=by rw[hy,hz];exact B.shl_parts dx s64
  have spl:=spl_k64 (o+y) (show i+m<os.length by omega)
  have hval:B.valD (os.set (i+m) (o+y))=B.valD os+y*18446744073709551616 ^ (i+m):=by
   have:=B.valD_set (o+y) (show i+m<os.length by omega)
   rw[←ho,Nat.add_mul] at this;omega
  have hkey:B.valT ds (i+1)*2 ^ k=B.valT ds i*2 ^ k+(y*18446744073709551616 ^ (i+m)+z*18446744073709551616 ^ (i+1+m)):=by
   have e1:18446744073709551616 ^ (i+1+m)=18446744073709551616*18446744073709551616 ^ (i+m):=by rw[show i+1+m=(i+m)+1 by omega,Nat.pow_succ,Nat.mul_comm]
   have e2:2 ^ k=18446744073709551616 ^ m*2 ^ s:=by rw[B.pow64,←Nat.pow_add,hk2]
   have e3:y*(18446744073709551616 ^ i*18446744073709551616 ^ m)+z*(18446744073709551616*(18446744073709551616 ^ i*18446744073709551616 ^ m))=(y+z*18446744073709551616)*(18446744073709551616 ^ i*18446744073709551616 ^ m):=by rw[Nat.add_mul,Nat.mul_assoc]
   rw[B.valT,←hx,e1,e2,Nat.pow_add,e3,hparts,Nat.add_mul]
   congr 1
   ac_rfl
  have gx':=gx
  simp -dsimp (maxSteps:=1000000) (disch:=first|omega|(simp only[new_n,put_n];omega)|decide +kernel|(repeat first|rw[new_n]|rw[put_n])) only[wpS,wpT,Nat.reduceEqDiff,Nat.reduceLeDiff,es92,ld43,st43,f1,f5,f15,f17,hd.1.idx es92 hi,hd.1.ld hE.keep (P:=Proofs.Tryz.prog) (t:=43) (c:=i) (by simpa using hi) ag43,map_get,gx,hr,gor,eM,eS,eI,shl_n,eY,hor,hg,spl,List.length_map,hol]
  refine bq_cutE (fun fr2 h2 => ∃os2:List Nat,Ext h h2∧h.n<h2.n∧h2.ext.get h.n=some (.cells (os2.map K64) 1 none)∧os2.length=ds.length+m+1∧B.Digs os2∧B.valD os2=B.valT ds (i+1)*2 ^ k∧os2.getD (i+1+m) 0<2 ^ s∧(∀j,i+1+m<j→os2.getD j 0=0) ∧
   fget fr2 1=some (KN k)∧fget fr2 5=some (.slice (some ⟨2*h.n,0,none⟩) (ds.length+m+1) (2*(ds.length+m+1)+1))∧fget fr2 15=some v∧fget fr2 16=some (KN ds.length)∧fget fr2 17=some (KN i)) (fun hc=>?_) (fun hc=>?_) ?_
  ·simp only[decide_eq_true_eq] at hc
   have eJ:((i+m:Nat):Int)+1=((i+1+m:Nat):Int):=by omega
   have e64:(64:Int) - (s:Int)=((64 - s:Nat):Int):=by omega
   have eZ:nshr x (64 - s)=z:=by rw[hz];exact Nat.shiftRight_eq_div_pow _ _
   have hj2:i+1+m<(os.set (i+m) (o+y)).length:=by rw[List.length_set];omega
   have hz0:(os.set (i+m) (o+y)).getD (i+1+m) 0=0:=by rw[B.getD_set (by omega),if_neg (by omega)];exact hoz _ (by omega)
   have spl2:=spl_k64 z hj2
   have hg2:(h1.put h.n (.cells ((os.set (i+m) (o+y)).map K64) 1 none)).ext.get h.n=some (.cells ((os.set (i+m) (o+y)).map K64) 1 none):=get_put_same _ _ rfl
   simp -dsimp (maxSteps:=1000000) (disch:=first|omega|(simp only[new_n,put_n];omega)|decide +kernel|(repeat first|rw[new_n]|rw[put_n])) only[wpS,wpT,Nat.reduceEqDiff,Nat.reduceLeDiff,es92,st43,f1,f5,eM,eS,eI,eJ,e64,eZ,hg2,spl2,List.length_map,List.length_set,hol]
   refine⟨(os.set (i+m) (o+y)).set (i+1+m) z,(hE.put (Nat.le_refl _) _).put (Nat.le_refl _) _,hn,get_put_same _ _ rfl,by rw[List.length_set,List.length_set,hol],(hod.set _ hsum).set _ (Nat.lt_trans hzl (by exact Nat.lt_of_lt_of_le (Nat.pow_lt_pow_right (by omega) s64) (by omega))),?_,?_,?_,by simp[f1],by simp[f5],by simp[f15],by simp[f16],by simp[f17]⟩
   ·have:=B.valD_set z hj2
    rw[hz0,Nat.zero_mul,Nat.add_zero] at this
    rw[this,hval,hov,hkey,Nat.add_assoc]
   ·rw[B.getD_set hj2,if_pos rfl];exact hzl
   ·intro j hj
    rw[B.getD_set hj2,if_neg (by omega),B.getD_set (by omega),if_neg (by omega)]
    exact hoz _ (by omega)
  ·simp only[decide_eq_false_iff_not] at hc
   have hs0:s=0:=by omega
   have hz0:z=0:=by rw[hs0] at hzl;omega
   simp -dsimp (maxSteps:=1000000) (disch:=first|omega|(simp only[new_n,put_n];omega)|decide +kernel|(repeat first|rw[new_n]|rw[put_n])) only[wpS,wpT]
   refine⟨os.set (i+m) (o+y),hE.put (Nat.le_refl _) _,hn,get_put_same _ _ rfl,by rw[List.length_set,hol],hod.set _ hsum,?_,?_,?_,by simp[f1],by simp[f5],by simp[f15],by simp[f16],by simp[f17]⟩
   ·rw[hval,hov,hkey,hz0,Nat.zero_mul,Nat.add_zero]
   ·rw[B.getD_set (by omega),if_neg (by omega),hoz _ (by omega)];exact Nat.pow_pos (by omega)
   ·intro j hj
    rw[B.getD_set (by omega),if_neg (by omega)]
    exact hoz _ (by omega)
  ·clear hE hn hg hol hod hov hot hoz hr go gor ho hor hsum spl hval hkey f1 f5 f15 f16 f17 gx gx'
   rintro fr2 h2 ⟨os2,hE,hn,hg,hol,hod,hov,hot,hoz,f1,f5,f15,f16,f17⟩
   simp -dsimp (maxSteps:=1000000) (disch:=first|omega|(simp only[new_n,put_n];omega)|decide +kernel|(repeat first|rw[new_n]|rw[put_n])) only[wpS,f17]
   exact⟨j - 1,by omega,i+1,os2,by omega,hE,hn,hg,hol,hod,hov,hot,hoz,by simp[f1],by simp[f5],by simp[f15],by simp[f16],by simp⟩
 ·obtain rfl:i=ds.length:=by omega
  have hW:WrdU h1 (.slice (some ⟨2*h.n,0,none⟩) (ds.length+m+1) (2*(ds.length+m+1)+1)) os:=by
   refine⟨?_,hod,by omega⟩
   rw[hol]
   exact sl_block hg hn (by decide) (by rw[List.length_map,hol];omega) (by omega) (by omega)
  simp -dsimp (maxSteps:=1000000) (disch:=first|omega|(simp only[new_n,put_n];omega)|decide +kernel|(repeat first|rw[new_n]|rw[put_n])) only[wpS,wpT,Nat.reduceEqDiff,f5]
  refine call (trimmed_ok hW false) ?_
  rintro _ h2 ⟨hE2,sv,rfl,hw⟩
  simp -dsimp (maxSteps:=1000000) (disch:=first|omega|(simp only[new_n,put_n];omega)|decide +kernel|(repeat first|rw[new_n]|rw[put_n])) only[wpS,wpT,Nat.reduceEqDiff,Nat.reduceAdd,fp94_1,Bool.false_eq_true]
  refine⟨hE.trans hE2,?_⟩
  simp only[Bool.false_eq_true,if_false,Int.natAbs_natCast] at hw
  rw[hov,show B.valT ds ds.length=B.valD ds from rfl] at hw
  exact hw
theorem lin_step {r x d q0 r0 P B:Nat} (dm:d*q0+r0=r*B+x):r*(P*B)+x*P=d*(q0*P)+r0*P:=by
 have e:(d*q0+r0)*P=(r*B+x)*P:=by rw[dm]
 grind
set_option maxHeartbeats 4000000 in
theorem divided_ok {h:IH} {v w:Value} {a b:List Nat} (ha:WrdU h v a) (hb:WrdU h w b) (na:B.Norm a) (nb:B.Norm b) (hb0:B.valD b≠0) (la:a.length≤1000000) (lb:b.length≤1000000) :
  WV Proofs.Tryz.prog (.func (.func 130) #[] #[]) [v,w] h fun r h'=>Ext h h' ∧ ∃q t,r=.tuple #[q,t]∧(∃qs,WrdU h' q qs∧B.valD qs=B.valD a / B.valD b)∧Wrd h' t (B.valD a % B.valD b):=by
 have hbz:=nb.nil_iff
 have hbl:0<b.length:=by
  apply Nat.pos_of_ne_zero;intro h0
  exact hb0 (hbz.2 (List.length_eq_zero_iff.1 h0))
 refine enter (nt:=77) (rs:=[.tmp 4,.tmp 5]) Proofs.Tryz.func130 rfl rfl rfl (by simp) ?_
 simp -dsimp (maxSteps:=1000000) (disch:=first|omega|(simp only[new_n,put_n];omega)|decide +kernel|(repeat first|rw[new_n]|rw[put_n])) only[wpS,Nat.reduceEqDiff,Nat.reduceAdd,ms92,ha.1.len sl92,hb.1.len sl92]
 refine bq_intro ?_ ?_<;>intro hc<;>simp only[beq_iff_eq,beq_eq_false_iff_ne,ne_eq] at hc
 ·have hb1:b.length=1:=by omega
  obtain⟨d,rfl⟩:=List.length_eq_one_iff.1 hb1
  have hv:B.valD [d]=d:=by simp[B.valD,B.valT]
  rw[hv] at hb0 ⊢
  have dd:d<18446744073709551616:=hb.2.1 d (by simp)
  simp -dsimp (maxSteps:=1000000) (disch:=first|omega|(simp only[new_n,put_n];omega)|decide +kernel|(repeat first|rw[new_n]|rw[put_n])) only[wpS,wpT,Nat.reduceEqDiff,ha.1.len sl92]
  refine loop (fun m fr h1 => ∃(r:Nat) (os:List Nat),m≤a.length∧Ext h h1∧h.n<h1.n∧h1.ext.get h.n=some (.cells (os.map K64) 1 none)∧os.length=a.length∧B.Digs os∧r<d∧B.valD a=d*B.valD os+r*18446744073709551616 ^ m+B.valT a m∧(∀j,j<m→os.getD j 0=0) ∧
    fget fr 0=some v∧fget fr 1=some w∧fget fr 4=some (.slice (some ⟨2*h.n,0,none⟩) a.length (2*a.length+1))∧fget fr 6=some (K64 r)∧fget fr 7=some (KI ((m:Int) - 1))) a.length
   ⟨0,List.replicate a.length 0,Nat.le_refl _,(Ext.refl h).new _,by simp,by rw[get_new_same _ _ rfl,repl_k64],by simp,B.Digs.repl _,by omega,by rw[B.valD_repl];simp[B.valD],fun k _=>B.getD_repl _ _,by simp,by simp,by simp,by simp,by simp⟩ ?_
  rintro m fr h1 ⟨r,os,hm,hE,hn,hg,hol,hod,hr,hva,hoz,f0,f1,f4,f6,f7⟩
  rcases Nat.eq_zero_or_pos m with rfl|hp
  ·simp -dsimp (maxSteps:=1000000) (disch:=first|omega|(simp only[new_n,put_n];omega)|decide +kernel|(repeat first|rw[new_n]|rw[put_n])) only[wpS,wpT,Nat.reduceEqDiff,Nat.reduceLeDiff,Nat.reduceAdd,bs92,f4,f6,f7]
   have hbs:WrdU (h1.new (.cells [K64 r] 1 none)) (.slice (some ⟨2*h1.n,0,none⟩) 1 (2*1+1)) [r]:=⟨by simpa using built_sl (h:=h1) (sz:=1) (m:=1) (cs:=[K64 r]) (by omega) rfl (by omega),fun x hx=>by simp at hx;omega,by simp⟩
   refine call (trimmed_ok hbs false) ?_
   rintro _ h2 ⟨hE2,sv,rfl,hw⟩
   simp -dsimp (maxSteps:=1000000) (disch:=first|omega|(simp only[new_n,put_n];omega)|decide +kernel|(repeat first|rw[new_n]|rw[put_n])) only[wpS,wpT,Nat.reduceEqDiff,Nat.reduceAdd,fp94_1,Bool.false_eq_true]
   have e3:=((Ext.refl h1).new (.cells [K64 r] 1 none)).trans hE2
   simp only[Bool.false_eq_true,if_false,Int.natAbs_natCast] at hw
   have hv1:B.valD [r]=r:=by simp[B.valD,B.valT]
   rw[hv1] at hw
   simp only[B.valT,Nat.pow_zero,Nat.mul_one,Nat.add_zero] at hva
   obtain⟨d1,d2⟩:B.valD os=B.valD a / d∧r=B.valD a % d:=by
    rw[hva,Nat.mul_add_mod,Nat.mul_add_div (by omega),Nat.div_eq_of_lt hr,Nat.mod_eq_of_lt hr];exact⟨rfl,rfl⟩
   refine⟨hE.trans e3,_,_,rfl,⟨os,?_,d1⟩,by rw[←d2];exact hw⟩
   refine WrdU.keep (h:=h1) ⟨?_,hod,by omega⟩ e3.keep
   rw[hol]
   exact sl_block hg hn (by decide) (by rw[List.length_map,hol];omega) (by omega) (by omega)
  ·obtain⟨k,rfl⟩ : ∃k,m=k+1:=⟨m - 1,by omega⟩
   have e1:(((k+1:Nat):Int) - 1)=(k:Int):=by omega
   rw[e1] at f7
   have dx:=B.getD_lt ha.2.1 k
   have gx:=get_some (show k<a.length by omega)
   have hr2:h1.row (2*h.n)=some (os.map K64):=row_kn hg
   rw[B.valT] at hva
   obtain⟨x,hx⟩ : ∃x,x=a.getD k 0:=⟨_,rfl⟩
   rw[←hx] at gx dx hva
   have ib:indexAddr Proofs.Tryz.prog 92 w (.int .i64 0)=some (elemAddr w 0):=by
    simpa using hb.1.idxI (P:=Proofs.Tryz.prog) (t:=92) es92 (k:=.i64) (i:=0) (by omega) (by simp)
   have lb0:load Proofs.Tryz.prog h1 43 (elemAddr w 0)=some (K64 d):=hb.1.ld hE.keep (P:=Proofs.Tryz.prog) (t:=43) (c:=0) (by simp) ag43
   simp -dsimp (maxSteps:=1000000) (disch:=first|omega|(simp only[new_n,put_n];omega)|decide +kernel|(repeat first|rw[new_n]|rw[put_n])) only[wpS,wpT,Nat.reduceEqDiff,f0,f1,f4,f6,f7,ha.1.idx es92 (show k<a.length by omega),ha.1.ld hE.keep (P:=Proofs.Tryz.prog) (t:=43) (c:=k) (by simp<;>omega) ag43,map_get,gx,ib,lb0]
   refine call (div64_ok r x d hr dx dd) ?_
   rintro _ h2 ⟨rfl,rfl⟩
   have dm:=Nat.div_add_mod (r*18446744073709551616+x) d
   have dl:=Nat.mod_lt (r*18446744073709551616+x) (show 0<d by omega)
   have dq:(r*18446744073709551616+x) / d<18446744073709551616:=by
    rw[Nat.div_lt_iff_lt_mul (by omega)]
    have:(r+1)*18446744073709551616≤d*18446744073709551616:=Nat.mul_le_mul_right _ hr
    omega
   obtain⟨q0,hq0⟩ : ∃q,q=(r*18446744073709551616+x) / d:=⟨_,rfl⟩
   obtain⟨r0,hr0⟩ : ∃q,q=(r*18446744073709551616+x) % d:=⟨_,rfl⟩
   rw[←hq0] at dm dq ⊢
   rw[←hr0] at dm dl ⊢
   have spl:=spl_k64 q0 (show k<os.length by omega)
   simp -dsimp (maxSteps:=1000000) (disch:=first|omega|(simp only[new_n,put_n];omega)|decide +kernel|(repeat first|rw[new_n]|rw[put_n])) only[wpS,wpT,Nat.reduceEqDiff,es92,st43,f7,hg,spl,List.length_map,hol]
   refine⟨k,by omega,r0,os.set k q0,by omega,hE.put (Nat.le_refl _) _,hn,get_put_same _ _ rfl,by rw[List.length_set,hol],hod.set _ dq,dl,?_,?_,by simp[f0],by simp[f1],by simp[f4],by simp,by simp⟩
   ·have:=B.valD_set q0 (show k<os.length by omega)
    rw[hoz k (by omega),Nat.zero_mul,Nat.add_zero] at this
    rw[hva,this,Nat.pow_succ]
    have e5:=lin_step (P:=18446744073709551616 ^ k) dm
    rw[Nat.mul_add]
    omega
   ·intro j hj
    rw[B.getD_set (by omega),if_neg (by omega)]
    exact hoz j (by omega)
 ·simp -dsimp (maxSteps:=1000000) (disch:=first|omega|(simp only[new_n,put_n];omega)|decide +kernel|(repeat first|rw[new_n]|rw[put_n])) only[wpS,wpT,Nat.reduceEqDiff]
  have e0:Ext h (h.new (.cells (repl a.length [K64 0]) 1 none)):=(Ext.refl h).new _
  refine call (length_ok (ha.keep e0.keep) na) ?_
  rintro _ h2 ⟨rfl,L,rfl,hL,hBL⟩
  simp -dsimp (maxSteps:=1000000) (disch:=first|omega|(simp only[new_n,put_n];omega)|decide +kernel|(repeat first|rw[new_n]|rw[put_n])) only[wpS,Nat.reduceEqDiff]
  refine call (length_ok (hb.keep e0.keep) nb) ?_
  rintro _ h3 ⟨rfl,M,rfl,hM,hBM⟩
  obtain⟨M0,M1,M2⟩:=hBM.2 hb0
  have bG:=nb.ge (fun h0=>hb0 (hbz.2 h0))
  rw[B.pow64] at bG
  have bM:64*(b.length - 1)<M:=by
   have h1:2 ^ (64*(b.length - 1))<2 ^ M:=Nat.lt_of_le_of_lt bG M2
   exact(Nat.pow_lt_pow_iff_right (by omega)).1 h1
  have aL:B.valD a<2 ^ L:=by
   rcases Nat.eq_zero_or_pos (B.valD a) with h0|h0
   ·rw[h0];exact Nat.pow_pos (by omega)
   ·exact(hBL.2 (by omega)).2.2
  simp -dsimp (maxSteps:=1000000) (disch:=first|omega|(simp only[new_n,put_n];omega)|decide +kernel|(repeat first|rw[new_n]|rw[put_n])) only[wpS,Nat.reduceEqDiff]
  refine loop (fun m fr h1 => ∃(kk:Int) (V r:Nat) (os:List Nat) (rv:Value),(kk+1=m∨(kk<0∧m=0))∧m≤L+1 - M ∧ -100000000<kk∧Ext h h1∧h.n<h1.n∧h1.ext.get h.n=some (.cells (os.map K64) 1 none)∧os.length=a.length∧B.Digs os∧B.valD os=V∧B.DivB (B.valD a) (B.valD b) m V r∧Wrd h1 rv r ∧
    fget fr 1=some w∧fget fr 4=some (.slice (some ⟨2*h.n,0,none⟩) a.length (2*a.length+1))∧fget fr 5=some rv∧fget fr 8=some (KI kk)) (L+1 - M)
   ⟨(L:Int) - (M:Int),0,B.valD a,List.replicate a.length 0,v,by omega,Nat.le_refl _,by omega,e0,by simp,by rw[get_new_same _ _ rfl,repl_k64],by simp,B.Digs.repl _,B.valD_repl _,?_,⟨a,ha.keep e0.keep,na,rfl⟩,by simp,by simp,by simp,by simp⟩ ?_
  ·by_cases hlm:M≤L+1
   ·have:=B.divB_start (lb:=M - 1) (la:=L) aL M1 (by omega)
    rwa [show L - (M - 1)=L+1 - M by omega] at this
   ·rw[show L+1 - M=0 by omega]
    refine⟨by simp,by simp,?_⟩
    rw[Nat.pow_zero,Nat.mul_one]
    exact Nat.lt_of_lt_of_le aL (Nat.le_trans (Nat.pow_le_pow_right (by omega) (by omega)) M1)
  rintro m fr h1 ⟨kk,V,r,os,rv,hkm,hmL,hkb,hE,hn,hg,hol,hod,hov,hD,hr,f1,f4,f5,f8⟩
  rcases Nat.eq_zero_or_pos m with rfl|hp
  ·have k0:kk<0:=by omega
   simp -dsimp (maxSteps:=1000000) (disch:=first|omega|(simp only[new_n,put_n];omega)|decide +kernel|(repeat first|rw[new_n]|rw[put_n])) only[wpS,wpT,Nat.reduceEqDiff,f4,f5,f8]
   obtain⟨d1,d2⟩:=B.divB_end hD
   refine⟨hE,_,_,rfl,⟨os,⟨?_,hod,by omega⟩,by rw[hov,d1]⟩,by rw[←d2];exact hr⟩
   rw[hol]
   exact sl_block hg hn (by decide) (by rw[List.length_map,hol];omega) (by omega) (by omega)
  ·obtain⟨k,rfl⟩ : ∃k,m=k+1:=⟨m - 1,by omega⟩
   obtain rfl:kk=(k:Int):=by omega
   have hk0:(0:Int)≤(k:Int):=by omega
   simp -dsimp (maxSteps:=1000000) (disch:=first|omega|(simp only[new_n,put_n];omega)|decide +kernel|(repeat first|rw[new_n]|rw[put_n])) only[wpS,wpT,Nat.reduceEqDiff,f1,f8]
   refine call (moved_ok (hb.keep hE.keep) k (by omega)) ?_
   rintro t h2 ⟨hE2,ht⟩
   simp -dsimp (maxSteps:=1000000) (disch:=first|omega|(simp only[new_n,put_n];omega)|decide +kernel|(repeat first|rw[new_n]|rw[put_n])) only[wpS,Nat.reduceEqDiff,f5]
   obtain⟨rs,hrs,nr,vr⟩:=id hr
   obtain⟨ts,hts,nt,vt⟩:=id ht
   refine call (compared_ok (hrs.keep hE2.keep) hts nr nt) ?_
   rintro _ h3 ⟨rfl,c,rfl,c1,c2,c3,c4⟩
   rw[vr,vt] at c1
   simp -dsimp (maxSteps:=1000000) (disch:=first|omega|(simp only[new_n,put_n];omega)|decide +kernel|(repeat first|rw[new_n]|rw[put_n])) only[wpS,Nat.reduceEqDiff]
   have hg3:=(hE2.get _ hn).trans hg
   have hn3:h.n<h3.n:=Nat.lt_of_lt_of_le hn hE2.n
   refine bq_cutE (fun fr2 h4 => ∃(V2 r2:Nat) (os2:List Nat) (rv2:Value),Ext h h4∧h.n<h4.n∧h4.ext.get h.n=some (.cells (os2.map K64) 1 none)∧os2.length=a.length∧B.Digs os2∧B.valD os2=V2∧B.DivB (B.valD a) (B.valD b) k V2 r2∧Wrd h4 rv2 r2 ∧
    fget fr2 1=some w∧fget fr2 4=some (.slice (some ⟨2*h.n,0,none⟩) a.length (2*a.length+1))∧fget fr2 5=some rv2∧fget fr2 8=some (KN k)) (fun hc=>?_) (fun hc=>?_) ?_
   ·simp only[decide_eq_true_eq] at hc
    have hge:B.valD b*2 ^ k≤r:=by omega
    simp -dsimp (maxSteps:=1000000) (disch:=first|omega|(simp only[new_n,put_n];omega)|decide +kernel|(repeat first|rw[new_n]|rw[put_n])) only[wpS,wpT,Nat.reduceEqDiff,f5]
    refine call (taken_ok (hrs.keep hE2.keep) hts nt (by rw[vr,vt];exact hge)) ?_
    rintro _ h4 ⟨hE4,xs,rfl,hxs,hxv⟩
    simp -dsimp (maxSteps:=1000000) (disch:=first|omega|(simp only[new_n,put_n];omega)|decide +kernel|(repeat first|rw[new_n]|rw[put_n])) only[wpS,Nat.reduceEqDiff]
    refine call (trimmed_at hxs false) ?_
    rintro _ h5 ⟨⟨hE5,sv,rfl,hw0⟩,hput⟩
    have hw:=hput h.n (.cells ((os.set (k / 64) (os.getD (k / 64) 0+2 ^ (k % 64))).map K64) 1 none) (by simp only[blockOf,ne_eq,Option.some.injEq];omega)
    obtain⟨_,hsv,hw⟩:=hw
    cases hsv
    simp only[Bool.false_eq_true,if_false,Int.natAbs_natCast] at hw
    rw[hxv,vr,vt] at hw
    have x35:=hE4.trans hE5
    have hg5:=(x35.get _ hn3).trans hg3
    have hn5:h.n<h5.n:=Nat.lt_of_lt_of_le hn3 x35.n
    have hki:k / 64<os.length:=by omega
    have hr5:h5.row (2*h.n)=some (os.map K64):=row_kn hg5
    have go:=get_some hki
    obtain⟨bs1,bs2⟩:=B.bit_set (k:=k) hod (by rw[hov];exact hD.2.1)
    have hvs:=B.valD_set (os.getD (k / 64) 0+2 ^ (k % 64)) hki
    obtain⟨o,ho⟩ : ∃o,o=os.getD (k / 64) 0:=⟨_,rfl⟩
    rw[←ho] at go bs1 bs2 hvs hw
    have gor:(os.map K64)[k / 64]?=some (K64 o):=by rw[List.getElem?_map,go];rfl
    have eM:(k:Int) / 64=((k / 64:Nat):Int):=by omega
    have eS:(k:Int) % 64=((k % 64:Nat):Int):=by omega
    have hS:k % 64<64:=Nat.mod_lt _ (by omega)
    have hMM:k / 64≤1000000:=by omega
    have hpl:2 ^ (k % 64)<18446744073709551616:=Nat.pow_lt_pow_right (n:=64) (by omega) hS
    have spl:=spl_k64 (o+2 ^ (k % 64)) hki
    have hDn:=B.divB_one hD hge
    have hpk:2 ^ (k % 64)*18446744073709551616 ^ (k / 64)=2 ^ k:=by rw[B.pow64,←Nat.pow_add];congr 1;omega
    obtain⟨km,hkm⟩ : ∃km,km=k / 64:=⟨_,rfl⟩
    obtain⟨ks,hks⟩ : ∃ks,ks=k % 64:=⟨_,rfl⟩
    rw[←hkm] at eM hki go gor spl hMM hvs hpk hw
    rw[←hks] at eS hS bs1 bs2 spl hvs hpk hw hpl
    have hbo:=fun t ox oy=>binop_or_u64 Proofs.Tryz.prog t ox oy o (2 ^ ks) (Nat.lt_of_le_of_lt (Nat.le_add_right _ _) bs2) hpl
    simp -dsimp (maxSteps:=1000000) (disch:=first|omega|(simp only[new_n,put_n];omega)|decide +kernel|(repeat first|rw[new_n]|rw[put_n])) only[wpS,wpT,Nat.reduceEqDiff,Nat.reduceAdd,es92,ld43,st43,fp94_1,f4,f8,eM,eS,hr5,gor,hbo,bs1,hg5,spl,List.length_map,hol,Bool.false_eq_true]
    refine⟨V+2 ^ k,r - B.valD b*2 ^ k,os.set km (o+2 ^ ks),sv,(hE.trans (hE2.trans x35)).put (Nat.le_refl _) _,hn5,get_put_same _ _ rfl,by rw[List.length_set,hol],hod.set _ bs2,?_,hDn,?_,by simp[f1],by simp[f4],by simp,by simp[f8]⟩
    ·rw[Nat.add_mul,hpk] at hvs
     omega
    ·exact hw
   ·simp only[decide_eq_false_iff_not] at hc
    have hlt:r<B.valD b*2 ^ k:=by omega
    simp -dsimp (maxSteps:=1000000) (disch:=first|omega|(simp only[new_n,put_n];omega)|decide +kernel|(repeat first|rw[new_n]|rw[put_n])) only[wpS,wpT]
    exact⟨V,r,os,rv,hE.trans hE2,hn3,hg3,hol,hod,hov,B.divB_zero hD hlt,hr.keep hE2.keep,by simp[f1],by simp[f4],by simp[f5],by simp[f8]⟩
   ·clear hr hg hn hol hod hov hD f1 f4 f5 f8 hE
    rintro fr2 h4 ⟨V2,r2,os2,rv2,hE,hn,hg,hol,hod,hov,hD,hr,f1,f4,f5,f8⟩
    simp -dsimp (maxSteps:=1000000) (disch:=first|omega|(simp only[new_n,put_n];omega)|decide +kernel|(repeat first|rw[new_n]|rw[put_n])) only[wpS,Nat.reduceEqDiff,f8]
    exact⟨k,by omega,(k:Int) - 1,V2,r2,os2,rv2,by omega,by omega,by omega,hE,hn,hg,hol,hod,hov,hD,hr,by simp[f1],by simp[f4],by simp[f5],by simp⟩
end Go.Id

namespace Go.Id
open Go
open Go.Proofs.Tryz (prog)
open Nat (reduceAdd reduceEqDiff reduceLeDiff)
set_option maxHeartbeats 16000000
theorem pow_one_lt (b k:Nat) (hb:1<b) (hk:k≠0):1<b ^ k:=Nat.one_lt_pow hk hb
theorem pow_base (a b k:Nat) (h:a≤b):a ^ k≤b ^ k:=Nat.pow_le_pow_left h k
theorem pow_conv (b c k m n:Nat) (h:b=c ^ m) (h2:n=m*k):b ^ k=c ^ n:=by rw[h,h2,Nat.pow_mul]
theorem pow_lt2 (b k n:Nat) (hb:1<b) (h:k<n):b ^ k<b ^ n:=Nat.pow_lt_pow_right hb h
theorem half_mul (b k m x y:Nat) (hm:m=k+k) (h1:x<b ^ k) (h2:y<b ^ k):x*y<b ^ m:=by
 rw[hm,Nat.pow_add]
 exact Nat.mul_lt_mul'' h1 h2
theorem small1:Small 1:=.mk (pow_one_lt 4294967296 1000000 (by decide) (by decide))
theorem small_nat {n:Nat} (h:Small n):SmallI (n:Int):=(Int.natAbs_natCast n).symm▸h
@[irreducible] def Half (x:Nat):Prop:=x<4294967296 ^ 500000
abbrev HalfI (z:Int):Prop:=Half z.natAbs
theorem Half.lt {x:Nat} (h:Half x):x<4294967296 ^ 500000:=by unfold Half at h;exact h
theorem Half.mk {x:Nat} (h:x<4294967296 ^ 500000):Half x:=by unfold Half;exact h
theorem Half.le {x y:Nat} (h:Half x) (k:y≤x):Half y:=.mk (Nat.lt_of_le_of_lt k h.lt)
theorem Half.small {x:Nat} (h:Half x):Small x:=by
 have:=h.lt
 refine .mk ?_
 exact Nat.lt_of_lt_of_le this (pow_up 4294967296 (by decide) 500000 1000000 (by decide))
theorem Half.mul {x y:Nat} (h:Half x) (k:Half y):Small (x*y):=.mk (half_mul 4294967296 500000 1000000 x y (by decide) h.lt k.lt)
theorem Half.len {ds:List Nat} (h:Half (valD ds)) (n:Norm ds):ds.length≤500000:=n.lenlt h.lt
theorem sign_mul (x y:Int):(if (decide (x<0) != decide (y<0))=true then -((x.natAbs*y.natAbs:Nat):Int) else ((x.natAbs*y.natAbs:Nat):Int))=x*y:=by
 have e1:((x.natAbs*y.natAbs:Nat):Int)=(x.natAbs:Int)*(y.natAbs:Int):=by simp
 rw[e1]
 rcases Int.lt_or_le x 0 with hx|hx<;>rcases Int.lt_or_le y 0 with hy|hy
 ·have a:(x.natAbs:Int) = -x:=by omega
  have b:(y.natAbs:Int) = -y:=by omega
  simp[hx,hy,a,b,Int.neg_mul_neg]
 ·have a:(x.natAbs:Int) = -x:=by omega
  have b:(y.natAbs:Int)=y:=by omega
  have c : ¬y<0:=by omega
  simp[hx,c,a,b,Int.neg_mul]
 ·have a:(x.natAbs:Int)=x:=by omega
  have b:(y.natAbs:Int) = -y:=by omega
  have c : ¬x<0:=by omega
  simp[hy,c,a,b,Int.mul_neg]
 ·have a:(x.natAbs:Int)=x:=by omega
  have b:(y.natAbs:Int)=y:=by omega
  have c : ¬x<0:=by omega
  have d : ¬y<0:=by omega
  simp[c,d,a,b]
theorem tk_two (a b:Value):List.take 2 [a,b] = [a,b]:=rfl
theorem bne_bool (a b:Bool):(!(a == b))=(a != b):=rfl
theorem parts_a {x y:Int} (hy:y≠0) (h : ¬(if decide (x<0)=true then -((x.natAbs % y.natAbs:Nat):Int) else ((x.natAbs % y.natAbs:Nat):Int))<0) :
  (if (decide (x<0) != decide (y<0))=true then -((x.natAbs / y.natAbs:Nat):Int) else ((x.natAbs / y.natAbs:Nat):Int))=x / y∧(if decide (x<0)=true then -((x.natAbs % y.natAbs:Nat):Int) else ((x.natAbs % y.natAbs:Nat):Int))=x % y:=by
 have hb:0<y.natAbs:=by omega
 have h1:=Nat.div_add_mod x.natAbs y.natAbs
 have h2:=Nat.mod_lt x.natAbs hb
 generalize x.natAbs / y.natAbs=q at *
 generalize x.natAbs % y.natAbs=r at *
 have h1':(y.natAbs:Int)*(q:Int)+(r:Int)=(x.natAbs:Int):=by rw[←h1];simp
 have key : ∀y':Int,0<y' → ∀q' r':Int,r'+y'*q'=x→0≤r'→r'<y'→x / y'=q'∧x % y'=r':=fun y' hy' q' r' a b c=>(Int.ediv_emod_unique hy').2 ⟨a,b,c⟩
 rcases Int.lt_or_le x 0 with hx|hx
 ·simp only[hx,decide_true,if_true] at h ⊢
  obtain rfl:r=0:=by omega
  rcases Int.lt_or_le y 0 with hy0|hy0
  ·have a:(x.natAbs:Int) = -x:=by omega
   have b:(y.natAbs:Int) = -y:=by omega
   rw[a,b] at h1'
   obtain⟨k1,k2⟩:=key (-y) (by omega) (-q) 0 (by rw[Int.mul_neg];omega) (by omega) (by omega)
   rw[Int.ediv_neg] at k1
   rw[Int.emod_neg] at k2
   simp only[hy0,decide_true,bne_self_eq_false,Bool.false_eq_true,if_false]
   exact⟨by omega,by omega⟩
  ·have a:(x.natAbs:Int) = -x:=by omega
   have b:(y.natAbs:Int)=y:=by omega
   rw[a,b] at h1'
   obtain⟨k1,k2⟩:=key y (by omega) (-q) 0 (by rw[Int.mul_neg];omega) (by omega) (by omega)
   have : ¬y<0:=by omega
   simp only[this,decide_false,bne_iff_ne,ne_eq,reduceCtorEq,not_false_eq_true,if_true]
   exact⟨by omega,by omega⟩
 ·have hx' : ¬x<0:=by omega
  simp only[hx',decide_false,Bool.false_eq_true,if_false] at h ⊢
  rcases Int.lt_or_le y 0 with hy0|hy0
  ·have a:(x.natAbs:Int)=x:=by omega
   have b:(y.natAbs:Int) = -y:=by omega
   rw[a,b] at h1'
   obtain⟨k1,k2⟩:=key (-y) (by omega) q r (by omega) (by omega) (by omega)
   rw[Int.ediv_neg] at k1
   rw[Int.emod_neg] at k2
   simp only[hy0,decide_true,bne_iff_ne,ne_eq,reduceCtorEq,not_false_eq_true,if_true]
   exact⟨by omega,by omega⟩
  ·have a:(x.natAbs:Int)=x:=by omega
   have b:(y.natAbs:Int)=y:=by omega
   rw[a,b] at h1'
   obtain⟨k1,k2⟩:=key y (by omega) q r (by omega) (by omega) (by omega)
   have : ¬y<0:=by omega
   simp only[this,decide_false,bne_self_eq_false,Bool.false_eq_true,if_false]
   exact⟨by omega,by omega⟩
theorem parts_b {x y:Int} (hy:y≠0) (h:(if decide (x<0)=true then -((x.natAbs % y.natAbs:Nat):Int) else ((x.natAbs % y.natAbs:Nat):Int))<0) :
  (if (decide (x<0) != decide (y<0))=true then -((x.natAbs / y.natAbs:Nat):Int) else ((x.natAbs / y.natAbs:Nat):Int))+(if y<0 then 1 else -1)=x / y∧(if decide (x<0)=true then -((x.natAbs % y.natAbs:Nat):Int) else ((x.natAbs % y.natAbs:Nat):Int))+(y.natAbs:Int)=x % y:=by
 have hb:0<y.natAbs:=by omega
 have h1:=Nat.div_add_mod x.natAbs y.natAbs
 have h2:=Nat.mod_lt x.natAbs hb
 generalize x.natAbs / y.natAbs=q at *
 generalize x.natAbs % y.natAbs=r at *
 have h1':(y.natAbs:Int)*(q:Int)+(r:Int)=(x.natAbs:Int):=by rw[←h1];simp
 have key : ∀y':Int,0<y' → ∀q' r':Int,r'+y'*q'=x→0≤r'→r'<y'→x / y'=q'∧x % y'=r':=fun y' hy' q' r' a b c=>(Int.ediv_emod_unique hy').2 ⟨a,b,c⟩
 have hx:x<0:=by
  apply Classical.byContradiction;intro hn
  simp only[hn,decide_false,Bool.false_eq_true,if_false] at h
  omega
 simp only[hx,decide_true,if_true] at h ⊢
 have a:(x.natAbs:Int) = -x:=by omega
 rcases Int.lt_or_le y 0 with hy0|hy0
 ·have b:(y.natAbs:Int) = -y:=by omega
  rw[a,b] at h1'
  obtain⟨k1,k2⟩:=key (-y) (by omega) (-(q+1)) (-y - r) (by rw[Int.mul_neg,Int.mul_add];omega) (by omega) (by omega)
  rw[Int.ediv_neg] at k1
  rw[Int.emod_neg] at k2
  simp only[hy0,decide_true,bne_self_eq_false,Bool.false_eq_true,if_false,if_true]
  exact⟨by omega,by omega⟩
 ·have b:(y.natAbs:Int)=y:=by omega
  rw[a,b] at h1'
  obtain⟨k1,k2⟩:=key y (by omega) (-(q+1)) (y - r) (by rw[Int.mul_neg,Int.mul_add];omega) (by omega) (by omega)
  have : ¬y<0:=by omega
  simp only[this,decide_false,bne_iff_ne,ne_eq,reduceCtorEq,not_false_eq_true,if_true,if_false]
  exact⟨by omega,by omega⟩
theorem divisor_ok {h:IH} {v w:Value} {x y:Int} (hv:LongIs h v x) (hw:LongIs h w y) (sx:SmallI x) (sy:SmallI y) :
  WV prog (.func (.func 149) #[] #[]) [v,w] h fun r h'=>Ext h h'∧LongIs h' r (Int.gcd x y):=by
 obtain⟨s,rfl,hS⟩:=hv
 obtain⟨t,rfl,hT⟩:=hw
 obtain⟨ds,hD,hN,hx⟩:=id hS
 obtain⟨es,hE,hM,hy⟩:=id hT
 refine enter (nt:=26) (rs:=[.cell 4 133]) Proofs.Tryz.func149 rfl rfl rfl (by simp) ?_
 simp -dsimp (maxSteps:=1000000) (disch:=try exact dx) only[wpS,reduceEqDiff,reduceAdd,zc133,fa133_1,ld29]
 have kk : ∀o1 o2 o3,Ext h (((h.new o1).new o2).new o3):=fun o1 o2 o3=>(((Ext.refl h).new _).new _).new _
 refine loop (fun m fr h1 => ∃(xv yv:Value) (a:Nat),Ext (((h.new (.cells [.bool (decide (x<0)),s] 0 none)).new (.cells [.bool (decide (y<0)),t] 0 none)).new (.cells [.bool false,.slice none 0 0] 0 none)) h1∧Dig h1 xv a∧Dig h1 yv m∧Small a∧Small m∧Nat.gcd a m=Int.gcd x y∧fget fr 4=some (ptr (2*(h.n+1+1)) 0)∧fget fr 5=some xv∧fget fr 6=some yv) y.natAbs
  ⟨s,t,x.natAbs,Ext.refl _,hS.keep (kk _ _ _).keep,hT.keep (kk _ _ _).keep,sx,sy,rfl,by simp,by simp,by simp⟩ ?_
 clear hS hT hD hN hx hE hM hy ds es
 rintro m fr h1 ⟨xv,yv,a,hE1,hA,hB,sa,sb,hgcd,f4,f5,f6⟩
 obtain⟨ds,hD,hN,hx⟩:=id hA
 obtain⟨es,hE,hM,hy⟩:=id hB
 have hz:=hM.nil_iff
 rw[hy] at hz
 have l1:ds.length≤1000000:=hN.small (by rw[hx];exact sa)
 have l2:es.length≤1000000:=hM.small (by rw[hy];exact sb)
 by_cases hm:m=0
 ·have hes:es = []:=hz.1 hm
  have len0:lenB prog h1 29 yv=some (.int .i64 ((0:Nat):Int)):=by have:=hE.1.len (P:=prog) sl29 h1;rw[hes] at this;exact this
  have hg:h1.ext.get (h.n+1+1)=some (.cells [.bool false,.slice none 0 0] 0 none):=by rw[hE1.get _ (by simp)];exact get_new_same _ _ rfl
  simp -dsimp (maxSteps:=1000000) (disch:=try exact dx) only[wpS,wpT,reduceEqDiff,reduceLeDiff,reduceAdd,bv133,pl133_1,st133,ld133,f4,f5,f6,len0,hD.1.cells,hD.1.cok,hg]
  refine⟨((kk _ _ _).trans hE1).put (by omega) _,xv,?_,?_⟩
  ·simp
  ·subst hm
   rw[Nat.gcd_zero_right] at hgcd
   rw[Int.natAbs_natCast,←hgcd]
   exact hA.keep ((Keep.refl _).put hg _)
 ·have hl:0<es.length:=by
   apply Nat.pos_of_ne_zero;intro h0
   exact hm (hz.2 (List.length_eq_zero_iff.1 h0))
  simp -dsimp (maxSteps:=1000000) (disch:=try exact dx) only[wpS,wpT,reduceEqDiff,f5,f6,hE.1.len sl29]
  refine call (parts_ok hD hE hN hM (by rw[hy];exact hm) l1 l2) ?_
  rintro _ h2 ⟨hE2,q,r,rfl,hq,hr⟩
  rw[hx,hy] at hr
  have hlt:=Nat.mod_lt a (Nat.pos_of_ne_zero hm)
  simp -dsimp (maxSteps:=1000000) (disch:=try exact dx) only[wpS,reduceEqDiff,f6]
  refine⟨a % m,hlt,yv,r,m,hE1.trans hE2,hB.keep hE2.keep,hr,sb,sb.le (Nat.le_of_lt hlt),?_,by simp[f4],by simp,by simp⟩
  rw[←hgcd,Nat.gcd_comm a m,Nat.gcd_rec m a,Nat.gcd_comm]
theorem sgn_abs (b:Bool) (n:Nat):(if b=true then -(n:Int) else (n:Int)).natAbs=n:=by cases b<;>simp
theorem lparts_ok {h:IH} {v w:Value} {x y:Int} (hv:LongIs h v x) (hw:LongIs h w y) (sx:SmallI x) (sy:SmallI y) (y0:y≠0) :
  WV prog (.func (.func 155) #[] #[]) [v,w] h fun r h'=>Ext h h' ∧ ∃q t,r=.tuple #[q,t]∧LongIs h' q (x / y)∧LongIs h' t (x % y):=by
 obtain⟨s,rfl,hS⟩:=hv
 obtain⟨t,rfl,hT⟩:=hw
 obtain⟨ds,hD,hN,hx⟩:=id hS
 obtain⟨es,hE,hM,hy⟩:=id hT
 have l1:ds.length≤1000000:=hN.small (by rw[hx];exact sx)
 have l2:es.length≤1000000:=hM.small (by rw[hy];exact sy)
 refine enter (nt:=46) (rs:=[.cell 4 133,.cell 5 133]) Proofs.Tryz.func155 rfl rfl rfl (by simp) ?_
 simp -dsimp (maxSteps:=1000000) (disch:=try exact dx) only[wpS,reduceEqDiff,reduceAdd,zc133,fa133_1,ld29]
 have kk : ∀o1 o2 o3 o4,Ext h ((((h.new o1).new o2).new o3).new o4):=fun o1 o2 o3 o4=>((((Ext.refl h).new _).new _).new _).new _
 refine call (parts_ok (hD.keep (kk _ _ _ _).keep) (hE.keep (kk _ _ _ _).keep) hN hM (by rw[hy];omega) l1 l2) ?_
 rintro _ h1 ⟨hE1,q,r,rfl,⟨qs,hq,hqn,hqv⟩,⟨rs,hr,hrn,hrv⟩⟩
 rw[hx,hy] at hqv hrv
 have n1:h.n+4≤h1.n:=hE1.n
 have g0:h1.ext.get h.n=some (.cells [.bool (decide (x<0)),s] 0 none):=by rw[hE1.get _ (by simp<;>omega)];simp (disch:=try exact dx) only[get_new_same,get_new_old]
 have g1:h1.ext.get (h.n+1)=some (.cells [.bool (decide (y<0)),t] 0 none):=by rw[hE1.get _ (by simp<;>omega)];simp (disch:=try exact dx) only[get_new_same,get_new_old]
 have g2:h1.ext.get (h.n+1+1)=some (.cells [.bool false,.slice none 0 0] 0 none):=by rw[hE1.get _ (by simp<;>omega)];simp (disch:=try exact dx) only[get_new_same,get_new_old]
 have g3:h1.ext.get (h.n+1+1+1)=some (.cells [.bool false,.slice none 0 0] 0 none):=by rw[hE1.get _ (by simp<;>omega)];simp (disch:=try exact dx) only[get_new_same]
 have x1:Ext h h1:=(kk _ _ _ _).trans hE1
 have eT1:=hE.keep x1.keep
 clear hE1 kk
 have r0:=row_kn g0
 have r1:=row_kn g1
 simp -dsimp (maxSteps:=1000000) (disch:=try exact dx) only[wpS,reduceEqDiff]
 refine drawn [(8,[6])] (by kernel_rfl) (by kernel_rfl) rfl ?_
 simp -dsimp (maxSteps:=1000000) (disch:=try exact dx) only[wpS,reduceEqDiff,fa133_0,ld4,bn4,r0,r1,bne_bool]
 refine call (made_ok hq _) ?_
 rintro q2 h2 ⟨hE2,hq2⟩
 have r02:h2.row (2*h.n)=some [.bool (decide (x<0)),s]:=by rw[hE2.row (.inr (by omega))];exact r0
 simp -dsimp (maxSteps:=1000000) (disch:=try exact dx) only[wpS,reduceEqDiff,fa133_0,ld4,r02]
 refine call (made_ok (hr.keep hE2.keep) _) ?_
 rintro t2 h3 ⟨hE3,ht2⟩
 rw[hqv] at hq2
 rw[hrv] at ht2
 have pa:=parts_a (x:=x) y0
 have pb:=parts_b (x:=x) y0
 have aQ:=sgn_abs (decide (x<0) != decide (y<0)) (x.natAbs / y.natAbs)
 have aR:=sgn_abs (decide (x<0)) (x.natAbs % y.natAbs)
 generalize (if (decide (x<0) != decide (y<0))=true then -((x.natAbs / y.natAbs:Nat):Int) else ((x.natAbs / y.natAbs:Nat):Int))=Q at *
 generalize (if decide (x<0)=true then -((x.natAbs % y.natAbs:Nat):Int) else ((x.natAbs % y.natAbs:Nat):Int))=R at *
 have sQ:SmallI Q:=Small.le sx (by rw[aQ];exact Nat.div_le_self _ _)
 have sR:SmallI R:=Small.le sy (by rw[aR];exact Nat.le_of_lt (Nat.mod_lt _ (by omega)))
 obtain⟨sq,n3,rfl,c3,o3,_,_⟩:=hq2.form
 obtain⟨st,n4,rfl,c4,o4,_,_⟩:=ht2.form
 have x3:Ext h h3:=(x1.trans hE2).trans hE3
 have n2:=hE2.n
 have n3':=hE3.n
 simp -dsimp (maxSteps:=1000000) (disch:=try exact dx) only[wpS,wpT,reduceEqDiff,reduceLeDiff,reduceAdd,zc133,st133,o3,o4]
 refine⟨wpSteady_one rfl rfl rfl rfl (steady_load (av:=ptr (2*h.n) 0) (v:=.bool (decide (x<0))) rfl ?_ ?_),?_⟩
 ·simp -dsimp (maxSteps:=1000000) (disch:=try exact dx) only[wpS,ld4,r02]
 ·simp -dsimp (maxSteps:=1000000) (disch:=try exact dx) only[wpS,ld4,r0]
 simp -dsimp (maxSteps:=1000000) (disch:=try exact dx) only[wpS,wpT,reduceEqDiff,reduceAdd,fa133_0,ld4]
 have e4:Ext h3 ((((h3.new (.cells [.bool false,.slice none 0 0] 0 none)).new (.cells [.bool false,.slice none 0 0] 0 none)).put h3.n (.cells [.bool (decide (Q<0)),sq] 0 none)).put (h3.n+1) (.cells [.bool (decide (R<0)),st] 0 none)):=((((Ext.refl h3).new _).new _).put (Nat.le_refl _) _).put (by omega) _
 have g8:((((h3.new (.cells [.bool false,.slice none 0 0] 0 none)).new (.cells [.bool false,.slice none 0 0] 0 none)).put h3.n (.cells [.bool (decide (Q<0)),sq] 0 none)).put (h3.n+1) (.cells [.bool (decide (R<0)),st] 0 none)).ext.get h3.n=some (.cells [.bool (decide (Q<0)),sq] 0 none):=by simp (disch:=try exact dx) only[get_put_same,get_put_old]
 have g9:((((h3.new (.cells [.bool false,.slice none 0 0] 0 none)).new (.cells [.bool false,.slice none 0 0] 0 none)).put h3.n (.cells [.bool (decide (Q<0)),sq] 0 none)).put (h3.n+1) (.cells [.bool (decide (R<0)),st] 0 none)).ext.get (h3.n+1)=some (.cells [.bool (decide (R<0)),st] 0 none):=by simp (disch:=try exact dx) only[get_put_same]
 have n5:((((h3.new (.cells [.bool false,.slice none 0 0] 0 none)).new (.cells [.bool false,.slice none 0 0] 0 none)).put h3.n (.cells [.bool (decide (Q<0)),sq] 0 none)).put (h3.n+1) (.cells [.bool (decide (R<0)),st] 0 none)).n=h3.n+2:=rfl
 have hQ0:=hq2.keep (hE3.trans e4).keep
 have hR0:=ht2.keep e4.keep
 have x4:=x3.trans e4
 have x14:Ext h1 _:=(hE2.trans hE3).trans e4
 generalize ((((h3.new (.cells [.bool false,.slice none 0 0] 0 none)).new (.cells [.bool false,.slice none 0 0] 0 none)).put h3.n (.cells [.bool (decide (Q<0)),sq] 0 none)).put (h3.n+1) (.cells [.bool (decide (R<0)),st] 0 none))=h4 at *
 have r9:=row_kn g9
 refine bq_cut (fun fr2 h5 => ∃sq st,Ext h1 h5∧h3.n+2≤h5.n∧h5.ext.get h3.n=some (.cells [.bool (decide (x / y<0)),sq] 0 none)∧h5.ext.get (h3.n+1)=some (.cells [.bool (decide (x % y<0)),st] 0 none)∧LongIs h5 (.agg #[.bool (decide (x / y<0)),sq]) (x / y)∧LongIs h5 (.agg #[.bool (decide (x % y<0)),st]) (x % y) ∧
  fget fr2 4=some (ptr (2*(h.n+1+1)) 0)∧fget fr2 5=some (ptr (2*(h.n+1+1+1)) 0)∧fget fr2 8=some (ptr (2*h3.n) 0)∧fget fr2 9=some (ptr (2*(h3.n+1)) 0)) (fun hb=>?_) (fun hb=>?_) ?_
 ·have hb':R<0:=by simpa using hb
  obtain⟨b1,b2⟩:=pb hb'
  have g1':=(x14.get _ (by omega)).trans g1
  have r1':=row_kn g1'
  rw[decide_eq_true hb'] at hR0
  simp -dsimp (maxSteps:=1000000) (disch:=try exact dx) only[wpS,wpT,reduceEqDiff,reduceLeDiff,reduceAdd,fa133_1,ld29,ld133,bv133,pl133_1,r9,r1',List.drop_zero,tk_two,hE.1.cells]
  have hY:LongIs h4 (.agg #[.bool false,t]) (y.natAbs:Int):=⟨t,by simp,by rw[Int.natAbs_natCast];exact⟨es,eT1.keep x14.keep,hM,hy⟩⟩
  refine call (plus_ok hR0 hY sR (small_nat sy)) ?_
  rintro t5 h5 ⟨hE5,ht5⟩
  rw[b2] at ht5
  obtain⟨s5,_,rfl,c5,o5,_,_⟩:=ht5.form
  have g9':=(hE5.get _ (by omega)).trans g9
  have g8':=(hE5.get _ (by omega)).trans g8
  have g1'':=(hE5.get _ (by omega)).trans g1'
  have r1'':=row_kn g1''
  have r8':=row_kn g8'
  have n6:=hE5.n
  simp -dsimp (maxSteps:=1000000) (disch:=try exact dx) only[wpS,wpT,reduceEqDiff,reduceLeDiff,reduceAdd,fa133_0,ld4,st133,g9',o5,r1'']
  have kp5:=(Keep.refl h5).put g9' (.cells [.bool (decide (x % y<0)),s5] 0 none)
  refine bq_intro (fun hby=>?_) (fun hby=>?_)
  ·simp only[decide_eq_true_eq] at hby
   refine drawn [(0,[2])] (by kernel_rfl) (by kernel_rfl) rfl ?_
   simp -dsimp (maxSteps:=1000000) (disch:=try exact dx) only[wpS,wpT,reduceEqDiff,reduceLeDiff,reduceAdd,ld133,r8',List.drop_zero,tk_two]
   refine call (long1_ok 1 ⟨by omega,by omega⟩) ?_
   rintro o1 h6 ⟨hE6,ho1⟩
   simp -dsimp (maxSteps:=1000000) (disch:=try exact dx) only[wpS,reduceEqDiff]
   refine call (plus_ok (hQ0.keep ((hE5.keep.trans kp5).trans hE6.keep)) ho1 sQ (small_nat (small1))) ?_
   rintro q6 h7 ⟨hE7,hq6⟩
   rw[show Q+1=x / y by rw[←b1];simp only[hby,if_true]<;>omega] at hq6
   obtain⟨s6,_,rfl,c6,o6,_,_⟩:=hq6.form
   have g8a:=(hE6.get _ (by simp only[put_n];omega)).trans ((get_put_old h5 (.cells [.bool (decide (x % y<0)),s5] 0 none) (show h3.n≠h3.n+1 by omega)).trans g8')
   have g8b:=(hE7.get _ (by have:=hE6.n;simp only[put_n] at this;omega)).trans g8a
   have g9b:=(hE7.get (h3.n+1) (by have:=hE6.n;simp only[put_n] at this;omega)).trans ((hE6.get _ (by simp only[put_n];omega)).trans (get_put_same h5 (.cells [.bool (decide (x % y<0)),s5] 0 none) rfl))
   have r8a:=row_kn g8a
   simp -dsimp (maxSteps:=1000000) (disch:=try exact dx) only[wpS,wpT,reduceEqDiff,reduceLeDiff,reduceAdd,st133,g8b,o6]
   refine⟨wpSteady_one rfl rfl rfl rfl (steady_load (av:=ptr (2*h3.n) 0) (v:=.agg #[.bool (decide (Q<0)),sq]) rfl ?_ ?_),?_⟩
   ·simp -dsimp (maxSteps:=1000000) (disch:=try exact dx) only[wpS,wpT,reduceLeDiff,reduceAdd,ld133,r8',List.drop_zero,tk_two]
   ·simp -dsimp (maxSteps:=1000000) (disch:=try exact dx) only[wpS,wpT,reduceLeDiff,reduceAdd,ld133,r8a,List.drop_zero,tk_two]
   simp -dsimp (maxSteps:=1000000) (disch:=try exact dx) only[wpS,wpT,reduceAdd]
   have k7:=(Keep.refl h7).put g8b (.cells [.bool (decide (x / y<0)),s6] 0 none)
   have x7:Ext h1 (h5.put (h3.n+1) (.cells [.bool (decide (x % y<0)),s5] 0 none)):=(x14.trans hE5).put (by omega) _
   have n7:=hE6.n
   have n8:=hE7.n
   simp only[put_n] at n7
   refine⟨s6,s5,((x7.trans hE6).trans hE7).put (by omega) _,by simp only[put_n];omega,get_put_same _ _ rfl,by rw[get_put_old _ _ (by omega)];exact g9b,hq6.keep k7,ht5.keep ((kp5.trans (hE6.trans hE7).keep).trans k7),?_,?_,?_,?_⟩<;>simp
  ·simp only[decide_eq_false_iff_not] at hby
   refine drawn [(0,[2])] (by kernel_rfl) (by kernel_rfl) rfl ?_
   simp -dsimp (maxSteps:=1000000) (disch:=try exact dx) only[wpS,wpT,reduceEqDiff,reduceLeDiff,reduceAdd,ld133,r8',List.drop_zero,tk_two]
   refine call (long1_ok 1 ⟨by omega,by omega⟩) ?_
   rintro o1 h6 ⟨hE6,ho1⟩
   simp -dsimp (maxSteps:=1000000) (disch:=try exact dx) only[wpS,reduceEqDiff]
   refine call (minus_ok (hQ0.keep ((hE5.keep.trans kp5).trans hE6.keep)) ho1 sQ (small_nat (small1))) ?_
   rintro q6 h7 ⟨hE7,hq6⟩
   rw[show Q - 1=x / y by rw[←b1];simp only[hby,if_false]<;>omega] at hq6
   obtain⟨s6,_,rfl,c6,o6,_,_⟩:=hq6.form
   have g8a:=(hE6.get _ (by simp only[put_n];omega)).trans ((get_put_old h5 (.cells [.bool (decide (x % y<0)),s5] 0 none) (show h3.n≠h3.n+1 by omega)).trans g8')
   have g8b:=(hE7.get _ (by have:=hE6.n;simp only[put_n] at this;omega)).trans g8a
   have g9b:=(hE7.get (h3.n+1) (by have:=hE6.n;simp only[put_n] at this;omega)).trans ((hE6.get _ (by simp only[put_n];omega)).trans (get_put_same h5 (.cells [.bool (decide (x % y<0)),s5] 0 none) rfl))
   have r8a:=row_kn g8a
   simp -dsimp (maxSteps:=1000000) (disch:=try exact dx) only[wpS,wpT,reduceEqDiff,reduceLeDiff,reduceAdd,st133,g8b,o6]
   refine⟨wpSteady_one rfl rfl rfl rfl (steady_load (av:=ptr (2*h3.n) 0) (v:=.agg #[.bool (decide (Q<0)),sq]) rfl ?_ ?_),?_⟩
   ·simp -dsimp (maxSteps:=1000000) (disch:=try exact dx) only[wpS,wpT,reduceLeDiff,reduceAdd,ld133,r8',List.drop_zero,tk_two]
   ·simp -dsimp (maxSteps:=1000000) (disch:=try exact dx) only[wpS,wpT,reduceLeDiff,reduceAdd,ld133,r8a,List.drop_zero,tk_two]
   simp -dsimp (maxSteps:=1000000) (disch:=try exact dx) only[wpS,wpT,reduceAdd]
   have k7:=(Keep.refl h7).put g8b (.cells [.bool (decide (x / y<0)),s6] 0 none)
   have x7:Ext h1 (h5.put (h3.n+1) (.cells [.bool (decide (x % y<0)),s5] 0 none)):=(x14.trans hE5).put (by omega) _
   have n7:=hE6.n
   have n8:=hE7.n
   simp only[put_n] at n7
   refine⟨s6,s5,((x7.trans hE6).trans hE7).put (by omega) _,by simp only[put_n];omega,get_put_same _ _ rfl,by rw[get_put_old _ _ (by omega)];exact g9b,hq6.keep k7,ht5.keep ((kp5.trans (hE6.trans hE7).keep).trans k7),?_,?_,?_,?_⟩<;>simp
 ·have hb' : ¬R<0:=by simpa using hb
  obtain⟨b1,b2⟩:=pa hb'
  simp -dsimp (maxSteps:=1000000) (disch:=try exact dx) only[wpS,wpT]
  subst b1;subst b2
  exact⟨sq,st,x14,by omega,g8,g9,hQ0,hR0,by simp,by simp,by simp,by simp⟩
 rintro fr2 h5 ⟨sq,st,x5,n6,k8,k9,hQ,hR,f4,f5,f8,f9⟩
 have k2:=(x5.get _ (by omega)).trans g2
 have k3:=(x5.get _ (by omega)).trans g3
 have q8:=row_kn k8
 have q9:=row_kn k9
 obtain⟨s8,n8,e8,c8,o8,_,_⟩:=hQ.form
 obtain⟨s9,n9,e9,c9,o9,_,_⟩:=hR.form
 cases e8
 cases e9
 rw[d_seq]
 refine drawn [(1,[3])] (by kernel_rfl) (by kernel_rfl) rfl ?_
 simp -dsimp (maxSteps:=1000000) (disch:=try exact dx) only[wpS,wpT,reduceEqDiff,reduceLeDiff,reduceAdd,st133,ld133,f4,f5,f8,f9,q8,q9,k2,k3,o8,o9,List.drop_zero,tk_two]
 have k5:=(Keep.refl h5).put k2 (.cells [.bool (decide (x / y<0)),sq] 0 none)
 have k3':(h5.put (h.n+1+1) (.cells [.bool (decide (x / y<0)),sq] 0 none)).ext.get (h.n+1+1+1)=some (.cells [.bool false,.slice none 0 0] 0 none):=by rw[get_put_old _ _ (by omega)];exact k3
 have k6:=k5.put k3' (.cells [.bool (decide (x % y<0)),st] 0 none)
 refine⟨wpSteady_one rfl rfl rfl rfl (steady_load (av:=ptr (2*(h3.n+1)) 0) (v:=.agg #[.bool (decide (x % y<0)),st]) ?_ ?_ ?_),?_⟩
 ·simp -dsimp (maxSteps:=1000000) (disch:=try exact dx) only[wpS,reduceEqDiff,f9]
 ·simp -dsimp (maxSteps:=1000000) (disch:=try exact dx) only[wpS,wpT,reduceLeDiff,reduceAdd,ld133,q9,List.drop_zero,tk_two]
 ·simp -dsimp (maxSteps:=1000000) (disch:=try exact dx) only[wpS,wpT,reduceLeDiff,reduceAdd,ld133,q9,List.drop_zero,tk_two]
 simp -dsimp (maxSteps:=1000000) (disch:=try exact dx) only[wpS,wpT,reduceEqDiff,reduceLeDiff,reduceAdd,ld133,f4,f5,List.drop_zero,tk_two]
 exact⟨((x1.trans x5).put (by omega) _).put (by omega) _,_,_,rfl,hQ.keep k6,hR.keep k6⟩
end Go.Id

namespace Go.Id
open Go
open Go.Proofs.Tryz (prog)
open Nat (reduceAdd reduceEqDiff reduceLeDiff)
set_option maxHeartbeats 16000000
theorem small64' {ds:List Nat} (n:B.Norm ds) (h:Small (B.valD ds)):ds.length≤1000000:=by
 refine n.lenlt (Nat.lt_of_lt_of_le h.lt ?_)
 exact pow_base 4294967296 18446744073709551616 1000000 (by decide)
theorem half64' {ds:List Nat} (n:B.Norm ds) (h:Half (B.valD ds)):ds.length≤500000:=by
 refine n.lenlt (Nat.lt_of_lt_of_le h.lt ?_)
 exact pow_base 4294967296 18446744073709551616 500000 (by decide)
abbrev ZL:List Value:=[.bool false,.slice none 0 0]
theorem pturned_ok {h:IH} {v:Value} {z:Int} (hv:PLong h v z):WV prog (.func (.func 141) #[] #[]) [v] h fun r h'=>Ext h h'∧PLong h' r (-z):=by
 obtain⟨s,rfl,ds,hD,hN,hx⟩:=hv
 refine enter (nt:=9) (rs:=[.cell 2 94]) Proofs.Tryz.func141 rfl rfl rfl (by simp) ?_
 simp -dsimp (maxSteps:=1000000) (disch:=try exact dx) only[wpS,reduceEqDiff,zc94,fa94_0,ld4,fa94_1,ld92]
 refine call (trimmed_ok (hD.keep (((Keep.refl h).new _).new _)) _) ?_
 rintro r h1 ⟨hE,h2⟩
 have hz:(if (!decide (z<0))=true then -(B.valD ds:Int) else B.valD ds) = -z:=by
  by_cases h0:z<0<;>simp[h0]<;>omega
 rw[hz] at h2
 obtain⟨s1,n1,rfl,c1,o1,_,_⟩:=h2.form
 have n1:=(hE).n;try simp only[new_n] at n1
 have hg:h1.ext.get (h.n+1)=some (.cells ZL 0 none):=by rw[hE.get _ (by simp)];simp (disch:=try exact dx) only[get_new_same]
 simp -dsimp (maxSteps:=1000000) (disch:=try exact dx) only[wpS,wpT,reduceEqDiff,reduceLeDiff,reduceAdd,st94,ld94,hg,o1]
 exact⟨((((Ext.refl h).new _).new _).trans hE).put (by omega) _,h2.keep ((Keep.refl _).put hg _)⟩
theorem pplus_ok {h:IH} {v w:Value} {x y:Int} (hv:PLong h v x) (hw:PLong h w y) (sx:SmallI x) (sy:SmallI y) :
  WV prog (.func (.func 108) #[] #[]) [v,w] h fun r h'=>Ext h h'∧PLong h' r (x+y):=by
 obtain⟨s,rfl,a,ha,na,hx⟩:=hv
 obtain⟨t,rfl,b,hb,nb,hy⟩:=hw
 have la:a.length≤1000000:=small64' na (by rw[hx];exact sx)
 have lb:b.length≤1000000:=small64' nb (by rw[hy];exact sy)
 refine enter (nt:=34) (rs:=[.cell 4 94]) Proofs.Tryz.func108 rfl rfl rfl (by simp) ?_
 simp -dsimp (maxSteps:=1000000) (disch:=try exact dx) only[wpS,reduceEqDiff,reduceAdd,zc94,fa94_0,ld4,be4]
 have ee : ∀o1 o2 o3,Ext h (((h.new o1).new o2).new o3):=fun o1 o2 o3=>(((Ext.refl h).new _).new _).new _
 refine bq_intro (fun hc=>?_) (fun hc=>?_)
 ·have hc:(x<0↔y<0):=by simpa using hc
  simp -dsimp (maxSteps:=1000000) (disch:=try exact dx) only[wpS]
  refine drawn [(1,[7])] (by kernel_rfl) (by kernel_rfl) rfl ?_
  simp -dsimp (maxSteps:=1000000) (disch:=try exact dx) only[wpS,reduceEqDiff,fa94_0,ld4,fa94_1,ld92]
  refine call (added_ok (ha.keep (ee _ _ _).keep) (hb.keep (ee _ _ _).keep) (by omega) (by omega)) ?_
  rintro r h1 ⟨hE,os,hD,hval⟩
  simp -dsimp (maxSteps:=1000000) (disch:=try exact dx) only[wpS,reduceEqDiff]
  refine call (trimmed_ok hD _) ?_
  rintro r2 h2 ⟨hE2,hr⟩
  have hz:(if decide (x<0)=true then -(B.valD os:Int) else B.valD os)=x+y:=by
   by_cases h0:x<0<;>simp[h0]<;>omega
  rw[hz] at hr
  obtain⟨s1,n1,rfl,c1,o1,_,_⟩:=hr.form
  have m1:=(hE).n;try simp only[new_n] at m1
  have m2:=(hE2).n;try simp only[new_n,put_n] at m2
  have hg:h2.ext.get (h.n+1+1)=some (.cells ZL 0 none):=by rw[hE2.get _ (by omega),hE.get _ (by simp)];simp (disch:=try exact dx) only[get_new_same]
  have hr0:h1.row (2*h.n)=some [.bool (decide (x<0)),s]:=by
   rw[hE.row (by simp<;>omega)];simp -dsimp (maxSteps:=1000000) (disch:=try exact dx) only[wpS]
  simp -dsimp (maxSteps:=1000000) (disch:=try exact dx) only[wpS,wpT,reduceEqDiff,reduceLeDiff,reduceAdd,st94,hg,o1]
  refine⟨wpSteady_one rfl rfl rfl rfl (steady_load (av:=ptr (2*h.n) 0) (v:=.bool (decide (x<0))) rfl ?_ ?_),?_⟩
  ·simp -dsimp (maxSteps:=1000000) (disch:=try exact dx) only[wpS,ld4]
  ·simp -dsimp (maxSteps:=1000000) (disch:=try exact dx) only[wpS,ld4,hr0]
  ·simp -dsimp (maxSteps:=1000000) (disch:=try exact dx) only[wpS,wpT,reduceEqDiff,reduceLeDiff,reduceAdd,ld94]
   exact⟨(((ee _ _ _).trans hE).trans hE2).put (by omega) _,hr.keep ((Keep.refl _).put hg _)⟩
 ·have hc : ¬(x<0↔y<0):=by simpa using hc
  simp -dsimp (maxSteps:=1000000) (disch:=try exact dx) only[wpS,reduceEqDiff,fa94_1,ld92]
  refine call (compared_ok (ha.keep (ee _ _ _).keep) (hb.keep (ee _ _ _).keep) na nb) ?_
  rintro r h1 ⟨rfl,c,rfl,hc1,hc2,hc3,hc4⟩
  simp -dsimp (maxSteps:=1000000) (disch:=try exact dx) only[wpS,reduceEqDiff]
  refine bq_cut (fun fr2 h4 => ∃(p q:Int) (sp sq:Value) (ps qs:List Nat),Ext h h4∧h.n+3≤h4.n∧h4.ext.get h.n=some (.cells [.bool (decide (p<0)),sp] 0 none)∧h4.ext.get (h.n+1)=some (.cells [.bool (decide (q<0)),sq] 0 none)∧h4.ext.get (h.n+1+1)=some (.cells ZL 0 none) ∧
   WrdU h4 sp ps∧WrdU h4 sq qs∧B.Norm ps∧B.Norm qs∧B.valD ps=p.natAbs∧B.valD qs=q.natAbs∧q.natAbs≤p.natAbs∧p+q=x+y ∧ ¬(p<0↔q<0)∧fget fr2 2=some (ptr (2*h.n) 0)∧fget fr2 3=some (ptr (2*(h.n+1)) 0)∧fget fr2 4=some (ptr (2*(h.n+1+1)) 0)) (fun hc5=>?_) (fun hc5=>?_) ?_
  ·simp only[decide_eq_true_eq] at hc5
   simp -dsimp (maxSteps:=1000000) (disch:=try exact dx) only[wpS,wpT,reduceEqDiff,reduceLeDiff,reduceAdd,st94,ld94,List.drop_zero,tk_two,ha.1.cok,hb.1.cok]
   have g0:(((h.new (.cells [.bool (decide (x<0)),s] 0 none)).new (.cells [.bool (decide (y<0)),t] 0 none)).new (.cells [.bool false,.slice none 0 0] 0 none)).ext.get h.n=some (.cells [.bool (decide (x<0)),s] 0 none):=by simp (disch:=try exact dx) only[get_new_same,get_new_old]
   have g1:((((h.new (.cells [.bool (decide (x<0)),s] 0 none)).new (.cells [.bool (decide (y<0)),t] 0 none)).new (.cells [.bool false,.slice none 0 0] 0 none)).put h.n (.cells [.bool (decide (y<0)),t] 0 none)).ext.get (h.n+1)=some (.cells [.bool (decide (y<0)),t] 0 none):=by simp (disch:=try exact dx) only[get_new_same,get_new_old,get_put_old]
   have kp:=((ee _ _ _).keep.put g0 (.cells [.bool (decide (y<0)),t] 0 none)).put g1 (.cells [.bool (decide (x<0)),s] 0 none)
   refine⟨y,x,t,s,b,a,((ee _ _ _).put (Nat.le_refl _) _).put (by omega) _,by simp<;>omega,by simp (disch:=try exact dx) only[get_put_same,get_put_old],by simp (disch:=try exact dx) only[get_put_same],by simp (disch:=try exact dx) only[get_new_same,get_put_old],hb.keep kp,ha.keep kp,nb,na,hy,hx,by omega,by omega,by omega,by simp,by simp,by simp⟩
  ·simp only[decide_eq_false_iff_not] at hc5
   simp -dsimp (maxSteps:=1000000) (disch:=try exact dx) only[wpS,wpT]
   exact⟨x,y,s,t,a,b,ee _ _ _,by simp<;>omega,by simp (disch:=try exact dx) only[get_new_same,get_new_old],by simp (disch:=try exact dx) only[get_new_same,get_new_old],by simp (disch:=try exact dx) only[get_new_same],ha.keep (ee _ _ _).keep,hb.keep (ee _ _ _).keep,na,nb,hx,hy,by omega,rfl,hc,by simp,by simp,by simp⟩
  rintro fr h4 ⟨p,q,sp,sq,ps,qs,hE4,hn4,g0,g1,g2,hp,hq,np,nq,vp,vq,hle,hsum,hsg,f2,f3,f4⟩
  have r0:=row_kn g0
  have r1:=row_kn g1
  rw[d_seq]
  refine drawn [(1,[7])] (by kernel_rfl) (by kernel_rfl) rfl ?_
  simp -dsimp (maxSteps:=1000000) (disch:=try exact dx) only[wpS,reduceEqDiff,fa94_0,ld4,fa94_1,ld92,f2,f3,r0,r1]
  refine call (taken_ok hp hq nq (by omega)) ?_
  rintro r h5 ⟨hE5,os,rfl,hD,hval⟩
  simp -dsimp (maxSteps:=1000000) (disch:=try exact dx) only[wpS,reduceEqDiff]
  refine call (trimmed_ok hD _) ?_
  rintro r2 h6 ⟨hE6,hr⟩
  have hz:(if decide (p<0)=true then -(B.valD os:Int) else B.valD os)=x+y:=by
   by_cases h0:p<0<;>simp[h0]<;>omega
  rw[hz] at hr
  obtain⟨s1,n1,rfl,c1,o1,_,_⟩:=hr.form
  have m1:=(hE5).n;try simp only[new_n,put_n] at m1
  have m2:=(hE6).n;try simp only[new_n,put_n] at m2
  have hg:h6.ext.get (h.n+1+1)=some (.cells ZL 0 none):=by rw[hE6.get _ (by omega),hE5.get _ (by omega)];exact g2
  have hr0:h5.row (2*h.n)=some [.bool (decide (p<0)),sp]:=row_kn ((hE5.get _ (by omega)).trans g0)
  simp -dsimp (maxSteps:=1000000) (disch:=try exact dx) only[wpS,wpT,reduceEqDiff,reduceLeDiff,reduceAdd,st94,f4,hg,o1]
  refine⟨wpSteady_one rfl rfl rfl rfl (steady_load (av:=ptr (2*h.n) 0) (v:=.bool (decide (p<0))) ?_ ?_ ?_),?_⟩
  ·simp -dsimp (maxSteps:=1000000) (disch:=try exact dx) only[wpS]
  ·simp -dsimp (maxSteps:=1000000) (disch:=try exact dx) only[wpS,ld4,r0]
  ·simp -dsimp (maxSteps:=1000000) (disch:=try exact dx) only[wpS,ld4,hr0]
  ·simp -dsimp (maxSteps:=1000000) (disch:=try exact dx) only[wpS,wpT,reduceEqDiff,reduceLeDiff,reduceAdd,ld94,f4]
   exact⟨((hE4.trans hE5).trans hE6).put (by omega) _,hr.keep ((Keep.refl _).put hg _)⟩
theorem pminus_ok {h:IH} {v w:Value} {x y:Int} (hv:PLong h v x) (hw:PLong h w y) (sx:SmallI x) (sy:SmallI y) :
  WV prog (.func (.func 129) #[] #[]) [v,w] h fun r h'=>Ext h h'∧PLong h' r (x - y):=by
 obtain⟨s,n1,rfl,c1,o1,l1,z1⟩:=hv.form
 obtain⟨t,n2,rfl,c2,o2,l2,z2⟩:=hw.form
 refine enter (nt:=9) (rs:=[.cell 4 94]) Proofs.Tryz.func129 rfl rfl rfl (by simp) ?_
 simp -dsimp (maxSteps:=1000000) (disch:=try exact dx) only[wpS,reduceEqDiff,reduceAdd,zc94]
 have ee : ∀o1 o2 o3,Ext h (((h.new o1).new o2).new o3):=fun o1 o2 o3=>(((Ext.refl h).new _).new _).new _
 refine drawn [(0,[3])] (by kernel_rfl) (by kernel_rfl) rfl ?_
 simp -dsimp (maxSteps:=1000000) (disch:=try exact dx) only[wpS,wpT,reduceEqDiff,reduceLeDiff,reduceAdd,ld94]
 refine call (pturned_ok (hw.keep (ee _ _ _).keep)) ?_
 rintro r h1 ⟨hE,hT⟩
 simp -dsimp (maxSteps:=1000000) (disch:=try exact dx) only[wpS,reduceEqDiff]
 refine call (pplus_ok (hv.keep ((ee _ _ _).trans hE).keep) hT sx (by rw[SmallI,Int.natAbs_neg];exact sy)) ?_
 rintro r2 h2 ⟨hE2,hr⟩
 obtain⟨s1,n3,rfl,c3,o3,l3,z3⟩:=hr.form
 have m1:=(hE).n;try simp only[new_n] at m1
 have m2:=(hE2).n;try simp only[new_n,put_n] at m2
 have hg:h2.ext.get (h.n+1+1)=some (.cells ZL 0 none):=by rw[hE2.get _ (by omega),hE.get _ (by simp)];simp (disch:=try exact dx) only[get_new_same]
 have hr0:h1.row (2*h.n)=some [.bool (decide (x<0)),s]:=by
  rw[hE.row (by simp<;>omega)];simp -dsimp (maxSteps:=1000000) (disch:=try exact dx) only[wpS]
 simp -dsimp (maxSteps:=1000000) (disch:=try exact dx) only[wpS,wpT,reduceEqDiff,reduceLeDiff,reduceAdd,st94,hg,o3]
 refine⟨wpSteady_one rfl rfl rfl rfl (steady_load (av:=ptr (2*h.n) 0) (v:=.agg #[.bool (decide (x<0)),s]) rfl ?_ ?_),?_⟩
 ·simp -dsimp (maxSteps:=1000000) (disch:=try exact dx) only[wpS,wpT,reduceLeDiff,reduceAdd,ld94]
  rfl
 ·simp -dsimp (maxSteps:=1000000) (disch:=try exact dx) only[wpS,wpT,reduceLeDiff,reduceAdd,ld94,hr0]
  rfl
 ·simp -dsimp (maxSteps:=1000000) (disch:=try exact dx) only[wpS,wpT,reduceEqDiff,reduceLeDiff,reduceAdd,ld94]
  refine⟨(((ee _ _ _).trans hE).trans hE2).put (by omega) _,?_⟩
  have:x + -y=x - y:=by omega
  rw[this] at hr ⊢
  exact hr.keep ((Keep.refl _).put hg _)
theorem ptimes_ok {h:IH} {v w:Value} {x y:Int} (hv:PLong h v x) (hw:PLong h w y) (sx:HalfI x) (sy:HalfI y) :
  WV prog (.func (.func 94) #[] #[]) [v,w] h fun r h'=>Ext h h'∧PLong h' r (x*y):=by
 obtain⟨s,rfl,ds,hD,hN,hx⟩:=hv
 obtain⟨t,rfl,es,hE,hM,hy⟩:=hw
 have l1:ds.length≤500000:=half64' hN (by rw[hx];exact sx)
 have l2:es.length≤500000:=half64' hM (by rw[hy];exact sy)
 refine enter (nt:=16) (rs:=[.cell 4 94]) Proofs.Tryz.func94 rfl rfl rfl (by simp) ?_
 simp -dsimp (maxSteps:=1000000) (disch:=try exact dx) only[wpS,reduceEqDiff,reduceAdd,zc94]
 have kk : ∀o1 o2 o3,Ext h (((h.new o1).new o2).new o3):=fun o1 o2 o3=>(((Ext.refl h).new _).new _).new _
 refine drawn [(1,[10]),(3,[10])] (by kernel_rfl) (by kernel_rfl) rfl ?_
 simp -dsimp (maxSteps:=1000000) (disch:=try exact dx) only[wpS,reduceEqDiff,fa94_0,ld4,bn4,fa94_1,ld92,bne_bool]
 refine call (multiplied_ok (hD.keep (kk _ _ _).keep) (hE.keep (kk _ _ _).keep) (by omega)) ?_
 rintro r h1 ⟨hE1,os,hO,hOv⟩
 simp -dsimp (maxSteps:=1000000) (disch:=try exact dx) only[wpS,reduceEqDiff]
 refine call (trimmed_ok hO _) ?_
 rintro r2 h2 ⟨hE2,hr⟩
 rw[hOv,hx,hy,sign_mul] at hr
 obtain⟨s3,n3,rfl,c3,o3,_,_⟩:=hr.form
 have m1:=(hE1).n;try simp only[new_n] at m1
 have m2:=(hE2).n;try simp only[new_n,put_n] at m2
 have hg:h2.ext.get (h.n+1+1)=some (.cells ZL 0 none):=by
  rw[hE2.get _ (by omega),hE1.get _ (by simp)];exact get_new_same _ _ rfl
 have r0:h1.row (2*h.n)=some [.bool (decide (x<0)),s]:=by rw[hE1.row (by simp<;>omega)];simp -dsimp (maxSteps:=1000000) (disch:=try exact dx) only[wpS]
 have r1:h1.row (2*(h.n+1))=some [.bool (decide (y<0)),t]:=by rw[hE1.row (by simp<;>omega)];simp -dsimp (maxSteps:=1000000) (disch:=try exact dx) only[wpS]
 simp -dsimp (maxSteps:=1000000) (disch:=try exact dx) only[wpS,wpT,reduceEqDiff,reduceLeDiff,reduceAdd,st94,hg,o3]
 refine⟨wpSteady_cons (wpSteady_one rfl rfl rfl rfl (steady_load (av:=ptr (2*h.n) 0) (v:=.bool (decide (x<0))) rfl ?_ ?_)) (wpSteady_one rfl rfl rfl rfl (steady_load (av:=ptr (2*(h.n+1)) 0) (v:=.bool (decide (y<0))) rfl ?_ ?_)),?_⟩
 ·simp -dsimp (maxSteps:=1000000) (disch:=try exact dx) only[wpS,ld4]
 ·simp -dsimp (maxSteps:=1000000) (disch:=try exact dx) only[wpS,ld4,r0]
 ·simp -dsimp (maxSteps:=1000000) (disch:=try exact dx) only[wpS,ld4]
 ·simp -dsimp (maxSteps:=1000000) (disch:=try exact dx) only[wpS,ld4,r1]
 simp -dsimp (maxSteps:=1000000) (disch:=try exact dx) only[wpS,wpT,reduceEqDiff,reduceLeDiff,reduceAdd,ld94]
 exact⟨(((kk _ _ _).trans hE1).trans hE2).put (by omega) _,hr.keep ((Keep.refl _).put hg _)⟩
theorem pside_ok {h:IH} {v:Value} {z:Int} (hv:PLong h v z):WV prog (.func (.func 65) #[] #[]) [v] h fun r h'=>Ext h h'∧r=KI (if z<0 then -1 else if z=0 then 0 else 1):=by
 obtain⟨s,n1,rfl,c1,o1,l1,z1⟩:=hv.form
 refine enter (nt:=11) (rs:=[.tmp 2]) Proofs.Tryz.func65 rfl rfl rfl (by simp) ?_
 simp -dsimp (maxSteps:=1000000) (disch:=try exact dx) only[wpS,reduceEqDiff,fa94_0,ld4]
 refine bq_intro ?_ ?_<;>intro hc<;>simp only[decide_eq_true_eq,decide_eq_false_iff_not] at hc
 ·simp -dsimp (maxSteps:=1000000) (disch:=try exact dx) only[wpS,wpT,reduceEqDiff]
  refine⟨(Ext.refl h).new _,?_⟩
  rw[if_pos hc]
 ·simp -dsimp (maxSteps:=1000000) (disch:=try exact dx) only[wpS,wpT,reduceEqDiff,fa94_1,ld92,l1 sl92]
  refine bq_intro ?_ ?_<;>intro hc2<;>simp only[beq_iff_eq,beq_eq_false_iff_ne,ne_eq] at hc2
  ·simp -dsimp (maxSteps:=1000000) (disch:=try exact dx) only[wpS,wpT,reduceEqDiff]
   refine⟨(Ext.refl h).new _,?_⟩
   rw[if_neg (by omega),if_pos (by omega)]
  ·simp -dsimp (maxSteps:=1000000) (disch:=try exact dx) only[wpS,wpT]
   refine⟨(Ext.refl h).new _,?_⟩
   rw[if_neg (by omega),if_neg (by omega)]
theorem pcmp_ok {h:IH} {v w:Value} {x y:Int} (hv:PLong h v x) (hw:PLong h w y) (sx:SmallI x) (sy:SmallI y) :
  WV prog (.func (.func 95) #[] #[]) [v,w] h fun r h'=>Ext h h'∧r=KI (if x<y then -1 else if x=y then 0 else 1):=by
 obtain⟨s,n1,rfl,c1,o1,l1,z1⟩:=hv.form
 obtain⟨t,n2,rfl,c2,o2,l2,z2⟩:=hw.form
 refine enter (nt:=9) (rs:=[.tmp 4]) Proofs.Tryz.func95 rfl rfl rfl (by simp) ?_
 simp -dsimp (maxSteps:=1000000) (disch:=try exact dx) only[wpS,wpT,reduceEqDiff,reduceLeDiff,reduceAdd,ld94]
 have e2 : ∀o1 o2,Ext h ((h.new o1).new o2):=fun o1 o2=>((Ext.refl h).new _).new _
 refine call (pminus_ok (hv.keep (e2 _ _).keep) (hw.keep (e2 _ _).keep) sx sy) ?_
 rintro r h1 ⟨hE,hr⟩
 simp -dsimp (maxSteps:=1000000) (disch:=try exact dx) only[wpS,reduceEqDiff]
 refine call (pside_ok hr) ?_
 rintro _ h2 ⟨hE2,rfl⟩
 simp -dsimp (maxSteps:=1000000) (disch:=try exact dx) only[wpS,reduceEqDiff]
 refine⟨((e2 _ _).trans hE).trans hE2,?_⟩
 congr 1
 split<;>split<;>(try split)<;>(try split)<;>omega
end Go.Id

namespace Go.Id
open Go
end Go.Id

namespace Go.Id
open Go
open Nat (reduceAdd reduceEqDiff reduceLeDiff)
theorem wdC_map (n:Nat):wdC n=((List.range 8).map fun i=>(wrd n i:Int)).map (Value.int .u64):=by simp[wdC]
theorem wrd_inj {n m:Nat} (hn:n<W8) (hm:m<W8) (h : ∀i,i<8→wrd n i=wrd m i):n=m:=by
 have key : ∀i,i≤8→n % 18446744073709551616 ^ i=m % 18446744073709551616 ^ i:=by
  intro i
  induction i with
  | zero=>intro _;rw[Nat.pow_zero,Nat.mod_one,Nat.mod_one]
  | succ i ih=>intro hi;rw[mod_wrd,mod_wrd,ih (by omega),h i (by omega)]
 have:=key 8 (Nat.le_refl _)
 rw[←W8_eq] at this
 rwa [Nat.mod_eq_of_lt hn,Nat.mod_eq_of_lt hm] at this
theorem wd_dec {n m:Nat} (hn:n<W8) (hm:m<W8):decide (((List.range 8).map fun i=>(wrd n i:Int))=((List.range 8).map fun i=>(wrd m i:Int)))=decide (n=m):=by
 rw[Bool.eq_iff_iff];simp only[decide_eq_true_eq]
 constructor
 ·intro h
  refine wrd_inj hn hm fun i hi=>?_
  have:=congrArg (fun l=>l[i]?) h
  simp[hi] at this
  omega
 ·rintro rfl;rfl
theorem wd_eql {n m:Nat} (hn:n<W8) (hm:m<W8) (ox oy:Operand):binop Proofs.Tryz.prog .eql 45 ox oy (.agg (wdC n).toArray) (.agg (wdC m).toArray)=some (.bool (decide (n=m))):=by
 rw[wdC_map,wdC_map,binop_eql_arr u45 u43 sz43 eg45 _ _ _ _ (by simp) (by simp),wd_dec hn hm]
theorem wrd_int {n:Int} (hn:In64 n) (i:Nat) (hi:i<8):(wrd (wideN n) i:Int)=if i=0 then n % 18446744073709551616 else if n<0 then 18446744073709551615 else 0:=by
 by_cases h0:0≤n
 ·rw[wideN,if_pos h0]
  by_cases hz:i=0
  ·subst hz
   rw[if_pos rfl,wrd,Nat.pow_zero,Nat.div_one];omega
  ·rw[if_neg hz,if_neg (by omega),wrd_high (i:=1) (by omega) (by omega)];rfl
 ·rw[wideN,if_neg h0]
  obtain⟨u,hu⟩ : ∃u:Nat,u=n.natAbs:=⟨_,rfl⟩
  rw[←hu]
  have e:W8 - u=(18446744073709551616 - u)+18446744073709551616*(18446744073709551616 ^ 7 - 1):=by
   rw[W8_eq];omega
  by_cases hz:i=0
  ·subst hz
   rw[if_pos rfl,wrd,Nat.pow_zero,Nat.div_one,e,Nat.add_mul_mod_self_left];omega
  ·rw[if_neg hz,if_pos (by omega)]
   obtain⟨k,rfl⟩ : ∃k,i=k+1:=⟨i - 1,by omega⟩
   have e3:((18446744073709551616 - u)+18446744073709551616*(18446744073709551616 ^ 7 - 1)) / 18446744073709551616=18446744073709551616 ^ 7 - 1:=by
    rw[Nat.add_mul_div_left _ _ (by omega),Nat.div_eq_of_lt (by omega),Nat.zero_add]
   rw[wrd,Nat.pow_succ',←Nat.div_div_eq_div_mul,e,e3]
   have hk:k<7:=by omega
   have hk2:k=0∨k=1∨k=2∨k=3∨k=4∨k=5∨k=6:=by omega
   rcases hk2 with rfl|rfl|rfl|rfl|rfl|rfl|rfl<;>rfl
def wfill (w0:Int) (i:Nat):List Value:=(List.range 8).map fun j=>.int .u64 (if j=0 then w0 else if j<i then 18446744073709551615 else 0)
theorem wfill_len (w0:Int) (i:Nat):(wfill w0 i).length=8:=by simp[wfill]
theorem wfill_one (w0:Int):wfill w0 1 = [.int .u64 w0,.int .u64 0,.int .u64 0,.int .u64 0,.int .u64 0,.int .u64 0,.int .u64 0,.int .u64 0]:=by
 simp[wfill,List.range_succ]
theorem wfill_set (w0:Int) {i:Nat} (h0:0<i) (hi:i<8):(wfill w0 i).set i (.int .u64 18446744073709551615)=wfill w0 (i+1):=by
 apply List.ext_getElem?
 intro j
 rw[List.getElem?_set,wfill_len]
 by_cases hij:i=j
 ·subst hij
  rw[if_pos rfl,if_pos hi]
  simp[wfill,hi,show ¬i=0 by omega]
 ·rw[if_neg hij]
  by_cases hj:j<8
  ·simp only[wfill,List.getElem?_map,List.getElem?_range hj,Option.map_some]
   by_cases hz:j=0
   ·simp[hz]
   ·by_cases hlt:j<i
    ·simp[hz,hlt,show j<i+1 by omega]
    ·simp[hz,hlt,show ¬j<i+1 by omega]
  ·rw[List.getElem?_eq_none (by rw[wfill_len];omega),List.getElem?_eq_none (by rw[wfill_len];omega)]
theorem wfill_neg {n:Int} (hn:In64 n) (h0:n<0):wfill (n % 18446744073709551616) 8=wdC (wideN n):=by
 apply List.ext_getElem?
 intro j
 by_cases hj:j<8
 ·rw[wdC_get _ _ hj]
  simp only[wfill,List.getElem?_map,List.getElem?_range hj,Option.map_some,K64,wrd_int hn j hj]
  simp[h0,hj]
 ·rw[List.getElem?_eq_none (by rw[wfill_len];omega),List.getElem?_eq_none (by rw[wdC_len];omega)]
theorem wfill_pos {n:Int} (hn:In64 n) (h0 : ¬n<0):wfill (n % 18446744073709551616) 1=wdC (wideN n):=by
 apply List.ext_getElem?
 intro j
 by_cases hj:j<8
 ·rw[wdC_get _ _ hj]
  simp only[wfill,List.getElem?_map,List.getElem?_range hj,Option.map_some,K64,wrd_int hn j hj]
  by_cases hz:j=0
  ·simp[hz]
  ·simp[h0,hz]
 ·rw[List.getElem?_eq_none (by rw[wfill_len];omega),List.getElem?_eq_none (by rw[wdC_len];omega)]
set_option maxRecDepth 100000 in
theorem wideOf_ok {h:IH} (n:Int) (hn:In64 n):WV Proofs.Tryz.prog (.func (.func 102) #[] #[]) [KI n] h fun r h'=>Ext h h'∧r=wideV n:=by
 have hw:IntKind.u64.wrap n=n % 18446744073709551616:=wrapU n
 have hE : ∀a b c,Ext h (((h.new a).new b).put (h.n+1) c):=fun a b c=>(((Ext.refl h).new _).new _).put (by omega) _
 have fin : ∀h1:IH,Ext h h1→h.n+1<h1.n→h1.ext.get (h.n+1)=some (.cells (wdC (wideN n)) 0 none)→h1.ext.get h.n=some (.cells [ZW,ZW,ZW,ZW,ZW,ZW,ZW,ZW] 0 none)→True:=fun _ _ _ _ _=>trivial
 refine enter (nt:=17) (rs:=[.cell 2 45]) Proofs.Tryz.func102 rfl rfl rfl (by simp) ?_
 simp -dsimp (maxSteps:=1000000) (disch:=try exact dx) only[wpR]
 rw[d_seq]
 simp -dsimp (maxSteps:=1000000) (disch:=try exact dx) only[wpR,zc45]
 rw[d_seq]
 simp -dsimp (maxSteps:=1000000) (disch:=try exact dx) only[wpR,wpT,reduceEqDiff,reduceLeDiff,reduceAdd,zc45,cv3_43,bv45,pl45_0,st45,hw]
 rw[d_seq]
 refine cut (fun fr2 h2=>Ext h h2∧fget fr2 2=some (ptr (2*h.n) 0)∧fget fr2 3=some (ptr (2*(h.n+1)) 0)∧h.n+1<h2.n∧h2.ext.get (h.n+1)=some (.cells (wdC (wideN n)) 0 none)∧h2.ext.get h.n=some (.cells [ZW,ZW,ZW,ZW,ZW,ZW,ZW,ZW] 0 none)) ?_ ?_
 ·by_cases h0:n<0
  ·simp -dsimp (maxSteps:=1000000) (disch:=try exact dx) only[wpS,reduceEqDiff,dec_lt_t h0]
   refine loop (fun m fr h2 => ∃i:Nat,i+m=8∧0<i∧fget fr 2=some (ptr (2*h.n) 0)∧fget fr 3=some (ptr (2*(h.n+1)) 0)∧fget fr 4=some (KN i)∧Ext h h2∧h.n+1<h2.n∧h2.ext.get (h.n+1)=some (.cells (wfill (n % 18446744073709551616) i) 0 none)∧h2.ext.get h.n=some (.cells [ZW,ZW,ZW,ZW,ZW,ZW,ZW,ZW] 0 none)) 7 ⟨1,by simp,by simp,by simp,by simp,by simp,hE _ _ _,by simp,?_,?_⟩ ?_
   ·rw[wfill_one];exact get_put_same _ _ rfl
   ·simp -dsimp (maxSteps:=1000000) (disch:=try exact dx) only[wpS]
   ·rintro m fr h2 ⟨i,him,hi0,f2,f3,f4,hE2,hlt,hg1,hg0⟩
    simp -dsimp (maxSteps:=1000000) (disch:=try exact dx) only[wpS,reduceEqDiff,f4]
    refine bq_intro ?_ ?_<;>intro hc<;>simp only[decide_eq_true_eq,decide_eq_false_iff_not] at hc
    ·have hi:i<8:=by omega
     have hsp:IH.splice (wfill (n % 18446744073709551616) i) i [.int .u64 18446744073709551615]=wfill (n % 18446744073709551616) (i+1):=by
      rw[splice_set (by rw[wfill_len];exact hi),wfill_set _ hi0 hi]
     simp -dsimp (maxSteps:=1000000) (disch:=try exact dx) only[wpS,wpT,reduceEqDiff,reduceLeDiff,ar45,st43,f3,f4,ar45,hg1,wfill_len,hsp]
     refine⟨m - 1,by omega,i+1,by omega,by omega,by simp[f2],by simp[f3],by simp,hE2.put (by omega) _,by simpa using hlt,get_put_same _ _ rfl,?_⟩
     rw[get_put_old _ _ (by omega)];exact hg0
    ·obtain rfl:i=8:=by omega
     simp -dsimp (maxSteps:=1000000) (disch:=try exact dx) only[wpS,wpT]
     exact⟨hE2,by simp[f2],by simp[f3],hlt,by rw[hg1,wfill_neg hn h0],hg0⟩
  ·simp -dsimp (maxSteps:=1000000) (disch:=try exact dx) only[wpS,reduceEqDiff,dec_lt_f h0]
   refine⟨hE _ _ _,by simp,by simp,by simp,?_,?_⟩
   ·rw[←wfill_pos hn h0,wfill_one];exact get_put_same _ _ rfl
   ·simp -dsimp (maxSteps:=1000000) (disch:=try exact dx) only[wpS]
 ·rintro fr2 h2 ⟨hE2,f2,f3,hlt,hg1,hg0⟩
  have hrow:h2.row (2*(h.n+1))=some (wdC (wideN n)):=by rw[row_even];exact cells_of hg1
  have hspl:IH.splice [ZW,ZW,ZW,ZW,ZW,ZW,ZW,ZW] 0 (wdC (wideN n))=wdC (wideN n):=splice_all (by rw[wdC_len];rfl)
  simp -dsimp (maxSteps:=1000000) (disch:=try exact dx) only[wpS,wpT,reduceEqDiff,reduceLeDiff,reduceAdd,st45,ld45,f2,f3,hrow,hg0,wdC_len,wd_take,wdC_all,hspl]
  exact⟨hE2.put (by omega) _,rfl⟩
end Go.Id

namespace Go.Id
open Go
def wds (n:Nat):List Nat:=(List.range 8).map (wrd n)
theorem wds_len (n:Nat):(wds n).length=8:=by simp[wds]
theorem wds_dig (n:Nat):B.Digs (wds n):=fun d hd=>by
 simp only[wds,List.mem_map] at hd
 obtain⟨i,_,rfl⟩:=hd
 exact wrd_lt _ _
theorem wdC_wds (n:Nat):wdC n=(wds n).map K64:=by simp[wdC,wds]
theorem wds_get (n:Nat) {i:Nat} (hi:i<8):(wds n).getD i 0=wrd n i:=by
 rw[List.getD_eq_getElem?_getD];simp[wds,hi]
theorem wds_valT (n:Nat) : ∀i,i≤8→B.valT (wds n) i=n % 18446744073709551616 ^ i
 | 0,_=>by simp[B.valT,Nat.mod_one]
 | i+1,h=>by
  rw[B.valT,wds_valT n i (by omega),wds_get n (by omega),wrd,Nat.pow_succ,Nat.mod_mul,Nat.mul_comm]
theorem W8_pw:W8=18446744073709551616 ^ 8:=by unfold W8;rfl
theorem H8_two:H8+H8=W8:=by unfold W8 H8;rfl
theorem H8_pos:0<H8:=by unfold H8;decide
theorem wds_val {n:Nat} (h:n<W8):B.valD (wds n)=n:=by
 rw[B.valD,wds_len,wds_valT n 8 (Nat.le_refl _),←W8_pw,Nat.mod_eq_of_lt h]
theorem wds_of {ds:List Nat} (hl:ds.length=8) (hd:B.Digs ds):wds (B.valD ds)=ds:=by
 apply List.ext_getElem (by rw[wds_len,hl])
 intro i h1 h2
 rw[wds_len] at h1
 have e1:=wds_get (B.valD ds) h1
 have e2:=B.digit_eq hd i
 rw[wrd,←e2] at e1
 rw[List.getD_eq_getElem?_getD,List.getD_eq_getElem?_getD,List.getElem?_eq_getElem (by rw[wds_len];exact h1),List.getElem?_eq_getElem h2] at e1
 simpa using e1
theorem val_lt8 {ds:List Nat} (hl:ds.length=8) (hd:B.Digs ds):B.valD ds<W8:=by
 have:=B.valD_lt hd
 rwa [hl,←W8_pw] at this
theorem cells8 (n:Nat):(wdV n).cells.toList=wdC n:=rfl
set_option maxHeartbeats 2000000 in
theorem sizeMinus_ok {h:IH} (a b:Nat) (ha:a<W8) (hb:b<W8):WV Proofs.Tryz.prog (.func (.func 171) #[] #[]) [wdV a,wdV b] h fun r h'=>Ext h h' ∧ ∃m bor,r=.tuple #[wdV m,K64 bor]∧m<W8∧bor≤1∧a+bor*W8=b+m:=by
 refine enter (nt:=27) (rs:=[.cell 4 206,.tmp 5]) Proofs.Tryz.func171 rfl rfl rfl (by simp) ?_
 simp -dsimp (maxSteps:=1000000) (disch:=first|omega|(simp only[new_n,put_n];omega)|decide +kernel|(repeat first|rw[new_n]|rw[put_n])) only[wpS,Nat.reduceEqDiff,Nat.reduceAdd,zc206,cells8]
 rw[wdC_wds a,wdC_wds b]
 have lA:=wds_len a
 have lB:=wds_len b
 refine loop (fun m fr h1 => ∃(i bor:Nat) (os:List Nat),i+m=8∧Ext h h1∧h.n+3≤h1.n∧h1.ext.get h.n=some (.cells (os.map K64) 0 none)∧h1.ext.get (h.n+1)=some (.cells ((wds b).map K64) 0 none)∧(∃c,h1.ext.get (h.n+1+1)=some (.cells c 0 none)∧c.length=8)∧bor≤1∧os.length=8∧B.Digs os∧(∀j,i≤j→os.getD j 0=(wds a).getD j 0) ∧
   B.valT (wds a) i+bor*18446744073709551616 ^ i=B.valT (wds b) i+B.valT os i∧fget fr 2=some (ptr (2*h.n) 0)∧fget fr 3=some (ptr (2*(h.n+1)) 0)∧fget fr 4=some (ptr (2*(h.n+1+1)) 0)∧fget fr 6=some (K64 bor)∧fget fr 8=some (KN i)) 8
  ⟨0,0,wds a,rfl,(((Ext.refl h).new _).new _).new _,by simp<;>omega,by simp (disch:=first|omega|(simp only[new_n,put_n];omega)|(repeat first|rw[new_n]|rw[put_n])) only[get_new_same,get_new_old],by simp (disch:=first|omega|(simp only[new_n,put_n];omega)|(repeat first|rw[new_n]|rw[put_n])) only[get_new_same,get_new_old],⟨[ZW,ZW,ZW,ZW,ZW,ZW,ZW,ZW],by simp (disch:=first|omega|(simp only[new_n,put_n];omega)|(repeat first|rw[new_n]|rw[put_n])) only[get_new_same],rfl⟩,by omega,lA,wds_dig a,fun _ _=>rfl,by simp[B.valT],by simp,by simp,by simp,by simp,by simp⟩ ?_
 rintro m fr h1 ⟨i,bor,os,him,hE,hn,hg,hg1,hg2,hbor,hol,hod,hoa,hv,f2,f3,f4,f6,f8⟩
 simp -dsimp (maxSteps:=1000000) (disch:=first|omega|(simp only[new_n,put_n];omega)|decide +kernel|(repeat first|rw[new_n]|rw[put_n])) only[wpS,f8]
 refine bq_intro ?_ ?_<;>intro hc<;>simp only[decide_eq_true_eq,decide_eq_false_iff_not] at hc
 ·have hi:i<8:=by omega
  have r0:=row_kn hg
  have r1:=row_kn hg1
  have go:=get_some (show i<os.length by omega)
  have gb:=get_some (show i<(wds b).length by omega)
  have hx:=hoa i (Nat.le_refl _)
  have dx:=B.getD_lt hod i
  have dy:=B.getD_lt (wds_dig b) i
  obtain⟨x,hx1⟩ : ∃x,x=os.getD i 0:=⟨_,rfl⟩
  obtain⟨y,hy1⟩ : ∃x,x=(wds b).getD i 0:=⟨_,rfl⟩
  rw[←hx1] at go dx hx
  rw[←hy1] at gb dy
  simp -dsimp (maxSteps:=1000000) (disch:=first|omega|(simp only[new_n,put_n];omega)|decide +kernel|(repeat first|rw[new_n]|rw[put_n])) only[wpS,wpT,Nat.reduceEqDiff,ar206,ld43,f2,f3,f6,f8,r0,r1,map_get,go,gb]
  refine call (sub64_ok x y bor hbor) ?_
  rintro _ _ ⟨rfl,rfl⟩
  generalize hdd:(x+18446744073709551616 - y - bor) % 18446744073709551616=d
  obtain⟨b2,hb2,hb1,hrel⟩ : ∃b2:Nat,(bif Nat.blt x (y+bor) then 1 else 0)=b2∧b2≤1∧x+b2*18446744073709551616=y+bor+d:=by
   by_cases hlt:x<y+bor
   ·have e:Nat.blt x (y+bor)=true:=by simp only[Nat.blt,Nat.ble_eq];exact hlt
    refine⟨1,by rw[e];rfl,by omega,by omega⟩
   ·have e:Nat.blt x (y+bor)=false:=by rw[Bool.eq_false_iff];intro h;simp[Nat.blt] at h;omega
    refine⟨0,by rw[e];rfl,by omega,by omega⟩
  rw[hb2]
  have hd2:d<18446744073709551616:=by omega
  have spl:=spl_k64 d (show i<os.length by omega)
  rename_i h3
  simp -dsimp (maxSteps:=1000000) (disch:=first|omega|(simp only[new_n,put_n];omega)|decide +kernel|(repeat first|rw[new_n]|rw[put_n])) only[wpS,wpT,Nat.reduceEqDiff,Nat.reduceLeDiff,ar206,st43,f2,f8,hg,spl,List.length_map,hol]
  obtain⟨c,hgc,hcl⟩:=hg2
  refine⟨m - 1,by omega,i+1,b2,os.set i d,by omega,hE.put (Nat.le_refl _) _,hn,get_put_same _ _ rfl,by simp (disch:=first|omega|(simp only[new_n,put_n];omega)|(repeat first|rw[new_n]|rw[put_n])) only[get_put_old];exact hg1,⟨c,by simp (disch:=first|omega|(simp only[new_n,put_n];omega)|(repeat first|rw[new_n]|rw[put_n])) only[get_put_old];exact hgc,hcl⟩,hb1,by rw[List.length_set,hol],hod.set _ hd2,?_,?_,by simp[f2],by simp[f3],by simp[f4],by simp,by simp⟩
  ·intro j hj
   rw[B.getD_set (by omega),if_neg (by omega)]
   exact hoa j (by omega)
  ·rw[valT_set_next (by omega),B.valT,B.valT,←hx,←hy1,Nat.pow_succ]
   have e3:x*18446744073709551616 ^ i+b2*(18446744073709551616 ^ i*18446744073709551616)=(y+bor+d)*18446744073709551616 ^ i:=by rw[←hrel];grind
   have e4:(y+bor+d)*18446744073709551616 ^ i=y*18446744073709551616 ^ i+bor*18446744073709551616 ^ i+d*18446744073709551616 ^ i:=by grind
   omega
 ·obtain rfl:i=8:=by omega
  have r0:=row_kn hg
  have lm:(os.map K64).length=8:=by rw[List.length_map,hol]
  have all:=k64_all os
  have tk8:List.take 8 (List.drop 0 (os.map K64))=os.map K64:=by rw[List.drop_zero,List.take_of_length_le (by omega)]
  obtain⟨c,hgc,hcl⟩:=hg2
  have hsp:IH.splice c 0 (os.map K64)=os.map K64:=splice_all (by rw[hcl,lm])
  simp -dsimp (maxSteps:=1000000) (disch:=first|omega|(simp only[new_n,put_n];omega)|decide +kernel|(repeat first|rw[new_n]|rw[put_n])) only[wpS,wpT,Nat.reduceEqDiff,Nat.reduceLeDiff,ld206,st206,f2,f4,f6,r0,lm,all,tk8,hgc,hcl,hsp]
  rw[←wds_of hol hod,←wdC_wds] 
  have e8 : ∀n,n<W8→B.valT (wds n) 8=n:=fun n hn=>by rw[wds_valT n 8 (Nat.le_refl _),←W8_pw,Nat.mod_eq_of_lt hn]
  rw[e8 a ha,e8 b hb,←W8_pw] at hv
  have hvo:B.valT os 8=B.valD os:=by rw[B.valD,hol]
  rw[hvo] at hv
  exact⟨hE.put (by omega) _,B.valD os,bor,rfl,val_lt8 hol hod,hbor,hv⟩
end Go.Id

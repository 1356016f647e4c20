/-
  Contracts: the program's long integers: numbers of bits, products by powers of 2, quotients.
-/
import Derived.Test.YtnanhedgenokpaaGreatTemperDetailedAt
import Derived.Test.YtnanhedgenokpaaGreatTemperDetailedAy
set_option linter.unusedVariables false
set_option linter.unusedSimpArgs false
set_option linter.defProp false
set_option linter.deprecated false
namespace Go.Id
open Go
open Go.Proofs.Tryz (prog)
open Nat renaming reduceAdd→zA,reduceEqDiff→zE,reduceLeDiff→zL
set_option maxHeartbeats 16000000
theorem bq_cutE {P:Program} {fn:FuncId} {nt:Nat} {rd:Option Nat} {a c:Code} {fr:Fr} {h:IH} {Q:IExit→Fr→IH→Prop} {b:Bool} (R:Fr→IH→Prop)
  (h1:b=true→Do (wpC P fn nt rd a fr h) (seqK (fun fr h=>Pst (R fr h) nx) Q) nx) (h2:b=false→Do (wpC P fn nt rd c fr h) (seqK (fun fr h=>Pst (R fr h) nx) Q) nx) (k : ∀fr h,R fr h→Q .normal fr h) :
  Bq b (Do (wpC P fn nt rd a fr h) Q nx,Do (wpC P fn nt rd c fr h) Q nx) nx:=by
 have e:Q=seqK (Q .normal) Q:=by funext e fr h;cases e<;>rfl
 refine bq_intro (fun hb=>?_) fun hb=>?_
 ·rw[e];exact cut R (h1 hb) k
 ·rw[e];exact cut R (h2 hb) k
def BitsOf (x k:Nat):Prop:=(x=0→k=0)∧(x≠0→0<k∧2 ^ (k - 1)≤x∧x<2 ^ k)
theorem length_ok {h:IH} {v:Value} {ds:List Nat} (hd:WrdU h v ds) (n:B.Norm ds):WV prog (.func (.func 274) #[] #[]) [v] h fun r h'=>h'=h ∧ ∃k:Nat,r=KN k∧k≤64*ds.length∧BitsOf (B.valD ds) k:=by
 have hb:=hd.2.2
 have hz:=n.nil_iff
 refine enter (nt:=17) (rs:=[.tmp 2]) Proofs.Tryz.func274 rfl rfl rfl (by simp) ?_
 simp -dsimp (disch:=try exact dx) only[wpS,zE,hd.1.len sl135]
 refine bq_intro ?_ ?_<;>intro hc<;>simp only[beq_iff_eq,beq_eq_false_iff_ne,ne_eq] at hc
 ·have h0:ds = []:=List.length_eq_zero_iff.1 (by omega)
  simp -dsimp (disch:=try exact dx) only[wpS,wpT,zE]
  exact⟨0,rfl,by omega,fun _=>rfl,fun hne=>absurd (hz.2 h0) hne⟩
 ·obtain⟨m,hm⟩ : ∃m,ds.length=m+1:=⟨ds.length - 1,by omega⟩
  have hne:ds.getD m 0≠0:=by
   rcases n with rfl|hn
   ·simp at hm
   ·rwa [hm,Nat.add_sub_cancel] at hn
  have dl:=B.getD_lt hd.2.1 m
  have gm:=get_some (show m<ds.length by omega)
  have e1:(ds.length:Int) - 1=(m:Int):=by omega
  simp -dsimp (disch:=try exact dx) only[wpS,wpT,zE,hd.1.len sl135,e1,hd.1.idx es135 (show m<ds.length by omega),hd.1.ld (Keep.refl _) (P:=prog) (t:=28) (c:=m) (by simp<;>omega) ag28,map_get,gm]
  refine call (lz_ok (ds.getD m 0) (by omega) dl) ?_
  rintro _ _ ⟨rfl,s,rfl,hs,_,_,h1,h2⟩
  have e2:(64:Int)*(ds.length:Int) - (s:Int)=((64*m+(63 - s)+1:Nat):Int):=by omega
  have hbits:=B.bits_of (k:=63 - s) hd.2.1 hm h1 (by rw[show 63 - s+1=64 - s by omega];exact h2)
  simp -dsimp (disch:=try exact dx) only[wpS,wpT,zE,e2]
  refine⟨64*m+(63 - s)+1,rfl,by omega,fun h0=>?_,fun _=>⟨by omega,?_,hbits.2⟩⟩
  ·have:=hz.1 h0
   rw[this] at hm;simp at hm
  ·rw[Nat.add_sub_cancel];exact hbits.1
theorem moved_ok {h:IH} {v:Value} {ds:List Nat} (hd:WrdU h v ds) (k:Nat) (hk:ds.length+k / 64+1≤1100000):WV prog (.func (.func 275) #[] #[]) [v,KN k] h fun r h'=>Ext h h'∧Wrd h' r (B.valD ds*2 ^ k):=by
 obtain⟨m,hm⟩ : ∃m,m=k / 64:=⟨_,rfl⟩
 obtain⟨s,hs⟩ : ∃s,s=k % 64:=⟨_,rfl⟩
 have eM:(k:Int) / 64=(m:Int):=by omega
 have eS:(k:Int) % 64=(s:Int):=by omega
 have s64:s<64:=by omega
 have hk2:k=64*m+s:=by omega
 rw[←hm] at hk
 have eL:(ds.length:Int)+(m:Int)+1=((ds.length+m+1:Nat):Int):=by omega
 refine enter (nt:=54) (rs:=[.tmp 4]) Proofs.Tryz.func275 rfl rfl rfl (by simp) ?_
 simp -dsimp (disch:=try exact dx) only[wpS,wpT,zE,zA,ms135,hd.1.len sl135,eM,eL]
 refine loop (fun j fr h1 => ∃(i:Nat) (os:List Nat),i+j=ds.length∧Ext h h1∧h.n<h1.n∧h1.ext.get h.n=some (.cells (os.map K64) 1 none)∧os.length=ds.length+m+1∧B.Digs os∧B.valD os=B.valT ds i*2 ^ k∧os.getD (i+m) 0<2 ^ s∧(∀j,i+m<j→os.getD j 0=0) ∧
   fget fr 1=some (KN k)∧fget fr 5=some (.slice (some ⟨2*h.n,0,none⟩) (ds.length+m+1) (2*(ds.length+m+1)+1))∧fget fr 15=some v∧fget fr 16=some (KN ds.length)∧fget fr 17=some (KN i)) ds.length
  ⟨0,List.replicate (ds.length+m+1) 0,by omega,(Ext.refl h).new _,by simp,by rw[get_new_same _ _ rfl,repl_k64];rfl,by simp,B.Digs.repl _,by rw[B.valD_repl];simp[B.valT],by rw[B.getD_repl];exact Nat.pow_pos (by omega),fun k _=>B.getD_repl _ _,by simp,by simp,by simp,by simp,by simp⟩ ?_
 rintro j fr h1 ⟨i,os,him,hE,hn,hg,hol,hod,hov,hot,hoz,f1,f5,f15,f16,f17⟩
 simp -dsimp (disch:=try exact dx) only[wpS,f16,f17]
 refine bq_intro ?_ ?_<;>intro hc<;>simp only[decide_eq_true_eq,decide_eq_false_iff_not] at hc
 ·have hi:i<ds.length:=by omega
  have dx:=B.getD_lt hd.2.1 i
  have gx:=get_some hi
  have hr:h1.row (2*h.n)=some (os.map K64):=row_kn hg
  have go:=get_some (show i+m<os.length by omega)
  obtain⟨x,hx⟩ : ∃x,x=ds.getD i 0:=⟨_,rfl⟩
  obtain⟨o,ho⟩ : ∃o,o=os.getD (i+m) 0:=⟨_,rfl⟩
  rw[←hx] at gx dx
  rw[←ho] at go hot
  have gor:(os.map K64)[i+m]?=some (K64 o):=by rw[List.getElem?_map,go];rfl
  have eI:(i:Int)+(m:Int)=((i+m:Nat):Int):=by omega
  obtain⟨y,hy⟩ : ∃y,y=x*2 ^ s % 18446744073709551616:=⟨_,rfl⟩
  have hyl:y<18446744073709551616:=by omega
  have hor:o ||| y=o+y:=B.or_add' hot (by rw[hy];exact B.shl_dvd x s64)
  have hsum:o+y<18446744073709551616:=by
   rw[←hor]
   exact Nat.or_lt_two_pow (n:=64) (Nat.lt_of_lt_of_le hot (Nat.pow_le_pow_right (by omega) (by omega))) hyl
  have eY:x*2 ^ s % 18446744073709551616=y:=hy.symm
  obtain⟨z,hz⟩ : ∃z,z=x / 2 ^ (64 - s):=⟨_,rfl⟩
  have hzl:z<2 ^ s:=by rw[hz];exact B.shr_small dx (by omega)
  have hparts:y+z*18446744073709551616=x*2 ^ s:=by rw[hy,hz];exact B.shl_parts dx s64
  have spl:=spl_k64 (o+y) (show i+m<os.length by omega)
  have hval:B.valD (os.set (i+m) (o+y))=B.valD os+y*18446744073709551616 ^ (i+m):=by
   have:=B.valD_set (o+y) (show i+m<os.length by omega)
   rw[←ho,Nat.add_mul] at this;omega
  have hkey:B.valT ds (i+1)*2 ^ k=B.valT ds i*2 ^ k+(y*18446744073709551616 ^ (i+m)+z*18446744073709551616 ^ (i+1+m)):=by
   have e1:18446744073709551616 ^ (i+1+m)=18446744073709551616*18446744073709551616 ^ (i+m):=by rw[show i+1+m=(i+m)+1 by omega,Nat.pow_succ,Nat.mul_comm]
   have e2:2 ^ k=18446744073709551616 ^ m*2 ^ s:=by rw[B.pow64,←Nat.pow_add,hk2]
   have e3:y*(18446744073709551616 ^ i*18446744073709551616 ^ m)+z*(18446744073709551616*(18446744073709551616 ^ i*18446744073709551616 ^ m))=(y+z*18446744073709551616)*(18446744073709551616 ^ i*18446744073709551616 ^ m):=by rw[Nat.add_mul,Nat.mul_assoc]
   rw[B.valT,←hx,e1,e2,Nat.pow_add,e3,hparts,Nat.add_mul]
   congr 1
   ac_rfl
  have gx':=gx
  simp -dsimp (maxSteps:=1000000) (disch:=first|omega|(simp only[new_n,put_n];omega)|decide +kernel|(repeat first|rw[new_n]|rw[put_n])) only[wpS,wpT,zE,zL,es135,ld28,st28,f1,f5,f15,f17,hd.1.idx es135 hi,hd.1.ld hE.keep (P:=prog) (t:=28) (c:=i) (by simpa using hi) ag28,map_get,gx,hr,gor,eM,eS,eI,shl_n,eY,hor,hg,spl,List.length_map,hol]
  refine bq_cutE (fun fr2 h2 => ∃os2:List Nat,Ext h h2∧h.n<h2.n∧h2.ext.get h.n=some (.cells (os2.map K64) 1 none)∧os2.length=ds.length+m+1∧B.Digs os2∧B.valD os2=B.valT ds (i+1)*2 ^ k∧os2.getD (i+1+m) 0<2 ^ s∧(∀j,i+1+m<j→os2.getD j 0=0) ∧
   fget fr2 1=some (KN k)∧fget fr2 5=some (.slice (some ⟨2*h.n,0,none⟩) (ds.length+m+1) (2*(ds.length+m+1)+1))∧fget fr2 15=some v∧fget fr2 16=some (KN ds.length)∧fget fr2 17=some (KN i)) (fun hc=>?_) (fun hc=>?_) ?_
  ·simp only[decide_eq_true_eq] at hc
   have eJ:((i+m:Nat):Int)+1=((i+1+m:Nat):Int):=by omega
   have e64:(64:Int) - (s:Int)=((64 - s:Nat):Int):=by omega
   have eZ:nshr x (64 - s)=z:=by rw[hz];exact Nat.shiftRight_eq_div_pow _ _
   have hj2:i+1+m<(os.set (i+m) (o+y)).length:=by rw[List.length_set];omega
   have hz0:(os.set (i+m) (o+y)).getD (i+1+m) 0=0:=by rw[B.getD_set (by omega),if_neg (by omega)];exact hoz _ (by omega)
   have spl2:=spl_k64 z hj2
   have hg2:(h1.put h.n (.cells ((os.set (i+m) (o+y)).map K64) 1 none)).ext.get h.n=some (.cells ((os.set (i+m) (o+y)).map K64) 1 none):=get_put_same _ _ rfl
   simp -dsimp (maxSteps:=1000000) (disch:=first|omega|(simp only[new_n,put_n];omega)|decide +kernel|(repeat first|rw[new_n]|rw[put_n])) only[wpS,wpT,zE,zL,es135,st28,f1,f5,eM,eS,eI,eJ,e64,eZ,hg2,spl2,List.length_map,List.length_set,hol]
   refine⟨(os.set (i+m) (o+y)).set (i+1+m) z,(hE.put (Nat.le_refl _) _).put (Nat.le_refl _) _,hn,get_put_same _ _ rfl,by rw[List.length_set,List.length_set,hol],(hod.set _ hsum).set _ (Nat.lt_trans hzl (by exact Nat.lt_of_lt_of_le (Nat.pow_lt_pow_right (by omega) s64) (by omega))),?_,?_,?_,by simp[f1],by simp[f5],by simp[f15],by simp[f16],by simp[f17]⟩
   ·have:=B.valD_set z hj2
    rw[hz0,Nat.zero_mul,Nat.add_zero] at this
    rw[this,hval,hov,hkey,Nat.add_assoc]
   ·rw[B.getD_set hj2,if_pos rfl];exact hzl
   ·intro j hj
    rw[B.getD_set hj2,if_neg (by omega),B.getD_set (by omega),if_neg (by omega)]
    exact hoz _ (by omega)
  ·simp only[decide_eq_false_iff_not] at hc
   have hs0:s=0:=by omega
   have hz0:z=0:=by rw[hs0] at hzl;omega
   simp -dsimp (disch:=try exact dx) only[wpS,wpT]
   refine⟨os.set (i+m) (o+y),hE.put (Nat.le_refl _) _,hn,get_put_same _ _ rfl,by rw[List.length_set,hol],hod.set _ hsum,?_,?_,?_,by simp[f1],by simp[f5],by simp[f15],by simp[f16],by simp[f17]⟩
   ·rw[hval,hov,hkey,hz0,Nat.zero_mul,Nat.add_zero]
   ·rw[B.getD_set (by omega),if_neg (by omega),hoz _ (by omega)];exact Nat.pow_pos (by omega)
   ·intro j hj
    rw[B.getD_set (by omega),if_neg (by omega)]
    exact hoz _ (by omega)
  ·clear hE hn hg hol hod hov hot hoz hr go gor ho hor hsum spl hval hkey f1 f5 f15 f16 f17 gx gx'
   rintro fr2 h2 ⟨os2,hE,hn,hg,hol,hod,hov,hot,hoz,f1,f5,f15,f16,f17⟩
   simp -dsimp (maxSteps:=1000000) (disch:=first|omega|(simp only[new_n,put_n];omega)|decide +kernel|(repeat first|rw[new_n]|rw[put_n])) only[wpS,f17]
   exact⟨j - 1,by omega,i+1,os2,by omega,hE,hn,hg,hol,hod,hov,hot,hoz,by simp[f1],by simp[f5],by simp[f15],by simp[f16],by simp⟩
 ·obtain rfl:i=ds.length:=by omega
  have hW:WrdU h1 (.slice (some ⟨2*h.n,0,none⟩) (ds.length+m+1) (2*(ds.length+m+1)+1)) os:=by
   refine⟨?_,hod,by omega⟩
   rw[hol]
   exact sl_block hg hn (by decide) (by rw[List.length_map,hol];omega) (by omega) (by omega)
  simp -dsimp (disch:=try exact dx) only[wpS,wpT,zE,f5]
  refine call (trimmed_ok hW false) ?_
  rintro _ h2 ⟨hE2,sv,rfl,hw⟩
  simp -dsimp (disch:=try exact dx) only[wpS,wpT,zE,zA,fp137_1,Bool.false_eq_true]
  refine⟨hE.trans hE2,?_⟩
  simp only[Bool.false_eq_true,if_false,Int.natAbs_natCast] at hw
  rw[hov,show B.valT ds ds.length=B.valD ds from rfl] at hw
  exact hw
theorem lin_step {r x d q0 r0 P B:Nat} (dm:d*q0+r0=r*B+x):r*(P*B)+x*P=d*(q0*P)+r0*P:=by
 have e:(d*q0+r0)*P=(r*B+x)*P:=by rw[dm]
 grind
theorem divided_ok {h:IH} {v w:Value} {a b:List Nat} (ha:WrdU h v a) (hb:WrdU h w b) (na:B.Norm a) (nb:B.Norm b) (hb0:B.valD b≠0) (la:a.length≤1000000) (lb:b.length≤1000000) :
  WV prog (.func (.func 248) #[] #[]) [v,w] h fun r h'=>Ext h h' ∧ ∃q t,r=.tuple #[q,t]∧(∃qs,WrdU h' q qs∧B.valD qs=B.valD a / B.valD b)∧Wrd h' t (B.valD a % B.valD b):=by
 have hbz:=nb.nil_iff
 have hbl:0<b.length:=by
  apply Nat.pos_of_ne_zero;intro h0
  exact hb0 (hbz.2 (List.length_eq_zero_iff.1 h0))
 refine enter (nt:=77) (rs:=[.tmp 4,.tmp 5]) Proofs.Tryz.func248 rfl rfl rfl (by simp) ?_
 simp -dsimp (disch:=try exact dx) only[wpS,zE,zA,ms135,ha.1.len sl135,hb.1.len sl135]
 refine bq_intro ?_ ?_<;>intro hc<;>simp only[beq_iff_eq,beq_eq_false_iff_ne,ne_eq] at hc
 ·have hb1:b.length=1:=by omega
  obtain⟨d,rfl⟩:=List.length_eq_one_iff.1 hb1
  have hv:B.valD [d]=d:=by simp[B.valD,B.valT]
  rw[hv] at hb0 ⊢
  have dd:d<18446744073709551616:=hb.2.1 d (by simp)
  simp -dsimp (disch:=try exact dx) only[wpS,wpT,zE,ha.1.len sl135]
  refine loop (fun m fr h1 => ∃(r:Nat) (os:List Nat),m≤a.length∧Ext h h1∧h.n<h1.n∧h1.ext.get h.n=some (.cells (os.map K64) 1 none)∧os.length=a.length∧B.Digs os∧r<d∧B.valD a=d*B.valD os+r*18446744073709551616 ^ m+B.valT a m∧(∀j,j<m→os.getD j 0=0) ∧
    fget fr 0=some v∧fget fr 1=some w∧fget fr 4=some (.slice (some ⟨2*h.n,0,none⟩) a.length (2*a.length+1))∧fget fr 6=some (K64 r)∧fget fr 7=some (KI ((m:Int) - 1))) a.length
   ⟨0,List.replicate a.length 0,Nat.le_refl _,(Ext.refl h).new _,by simp,by rw[get_new_same _ _ rfl,repl_k64],by simp,B.Digs.repl _,by omega,by rw[B.valD_repl];simp[B.valD],fun k _=>B.getD_repl _ _,by simp,by simp,by simp,by simp,by simp⟩ ?_
  rintro m fr h1 ⟨r,os,hm,hE,hn,hg,hol,hod,hr,hva,hoz,f0,f1,f4,f6,f7⟩
  rcases Nat.eq_zero_or_pos m with rfl|hp
  ·simp -dsimp (disch:=try exact dx) only[wpS,wpT,zE,zL,zA,bs135,f4,f6,f7]
   have hbs:WrdU (h1.new (.cells [K64 r] 1 none)) (.slice (some ⟨2*h1.n,0,none⟩) 1 (2*1+1)) [r]:=⟨by simpa using built_sl (h:=h1) (sz:=1) (m:=1) (cs:=[K64 r]) (by omega) rfl (by omega),fun x hx=>by simp at hx;omega,by simp⟩
   refine call (trimmed_ok hbs false) ?_
   rintro _ h2 ⟨hE2,sv,rfl,hw⟩
   simp -dsimp (disch:=try exact dx) only[wpS,wpT,zE,zA,fp137_1,Bool.false_eq_true]
   have e3:=((Ext.refl h1).new (.cells [K64 r] 1 none)).trans hE2
   simp only[Bool.false_eq_true,if_false,Int.natAbs_natCast] at hw
   have hv1:B.valD [r]=r:=by simp[B.valD,B.valT]
   rw[hv1] at hw
   simp only[B.valT,Nat.pow_zero,Nat.mul_one,Nat.add_zero] at hva
   obtain⟨d1,d2⟩:B.valD os=B.valD a / d∧r=B.valD a % d:=by
    rw[hva,Nat.mul_add_mod,Nat.mul_add_div (by omega),Nat.div_eq_of_lt hr,Nat.mod_eq_of_lt hr];exact⟨rfl,rfl⟩
   refine⟨hE.trans e3,_,_,rfl,⟨os,?_,d1⟩,by rw[←d2];exact hw⟩
   refine WrdU.keep (h:=h1) ⟨?_,hod,by omega⟩ e3.keep
   rw[hol]
   exact sl_block hg hn (by decide) (by rw[List.length_map,hol];omega) (by omega) (by omega)
  ·obtain⟨k,rfl⟩ : ∃k,m=k+1:=⟨m - 1,by omega⟩
   have e1:(((k+1:Nat):Int) - 1)=(k:Int):=by omega
   rw[e1] at f7
   have dx:=B.getD_lt ha.2.1 k
   have gx:=get_some (show k<a.length by omega)
   have hr2:h1.row (2*h.n)=some (os.map K64):=row_kn hg
   rw[B.valT] at hva
   obtain⟨x,hx⟩ : ∃x,x=a.getD k 0:=⟨_,rfl⟩
   rw[←hx] at gx dx hva
   have ib:indexAddr prog 135 w (.int .i64 0)=some (elemAddr w 0):=by
    simpa using hb.1.idxI (P:=prog) (t:=135) es135 (k:=.i64) (i:=0) (by omega) (by simp)
   have lb0:load prog h1 28 (elemAddr w 0)=some (K64 d):=hb.1.ld hE.keep (P:=prog) (t:=28) (c:=0) (by simp) ag28
   simp -dsimp (maxSteps:=1000000) (disch:=first|omega|(simp only[new_n,put_n];omega)|decide +kernel|(repeat first|rw[new_n]|rw[put_n])) only[wpS,wpT,zE,f0,f1,f4,f6,f7,ha.1.idx es135 (show k<a.length by omega),ha.1.ld hE.keep (P:=prog) (t:=28) (c:=k) (by simp<;>omega) ag28,map_get,gx,ib,lb0]
   refine call (div64_ok r x d hr dx dd) ?_
   rintro _ h2 ⟨rfl,rfl⟩
   have dm:=Nat.div_add_mod (r*18446744073709551616+x) d
   have dl:=Nat.mod_lt (r*18446744073709551616+x) (show 0<d by omega)
   have dq:(r*18446744073709551616+x) / d<18446744073709551616:=by
    rw[Nat.div_lt_iff_lt_mul (by omega)]
    have:(r+1)*18446744073709551616≤d*18446744073709551616:=Nat.mul_le_mul_right _ hr
    omega
   obtain⟨q0,hq0⟩ : ∃q,q=(r*18446744073709551616+x) / d:=⟨_,rfl⟩
   obtain⟨r0,hr0⟩ : ∃q,q=(r*18446744073709551616+x) % d:=⟨_,rfl⟩
   rw[←hq0] at dm dq ⊢
   rw[←hr0] at dm dl ⊢
   have spl:=spl_k64 q0 (show k<os.length by omega)
   simp -dsimp (maxSteps:=1000000) (disch:=first|omega|(simp only[new_n,put_n];omega)|decide +kernel|(repeat first|rw[new_n]|rw[put_n])) only[wpS,wpT,zE,es135,st28,f7,hg,spl,List.length_map,hol]
   refine⟨k,by omega,r0,os.set k q0,by omega,hE.put (Nat.le_refl _) _,hn,get_put_same _ _ rfl,by rw[List.length_set,hol],hod.set _ dq,dl,?_,?_,by simp[f0],by simp[f1],by simp[f4],by simp,by simp⟩
   ·have:=B.valD_set q0 (show k<os.length by omega)
    rw[hoz k (by omega),Nat.zero_mul,Nat.add_zero] at this
    rw[hva,this,Nat.pow_succ]
    have e5:=lin_step (P:=18446744073709551616 ^ k) dm
    rw[Nat.mul_add]
    omega
   ·intro j hj
    rw[B.getD_set (by omega),if_neg (by omega)]
    exact hoz j (by omega)
 ·simp -dsimp (disch:=try exact dx) only[wpS,wpT,zE]
  have e0:Ext h (h.new (.cells (repl a.length [K64 0]) 1 none)):=(Ext.refl h).new _
  refine call (length_ok (ha.keep e0.keep) na) ?_
  rintro _ h2 ⟨rfl,L,rfl,hL,hBL⟩
  simp -dsimp (disch:=try exact dx) only[wpS,zE]
  refine call (length_ok (hb.keep e0.keep) nb) ?_
  rintro _ h3 ⟨rfl,M,rfl,hM,hBM⟩
  obtain⟨M0,M1,M2⟩:=hBM.2 hb0
  have bG:=nb.ge (fun h0=>hb0 (hbz.2 h0))
  rw[B.pow64] at bG
  have bM:64*(b.length - 1)<M:=by
   have h1:2 ^ (64*(b.length - 1))<2 ^ M:=Nat.lt_of_le_of_lt bG M2
   exact(Nat.pow_lt_pow_iff_right (by omega)).1 h1
  have aL:B.valD a<2 ^ L:=by
   rcases Nat.eq_zero_or_pos (B.valD a) with h0|h0
   ·rw[h0];exact Nat.pow_pos (by omega)
   ·exact(hBL.2 (by omega)).2.2
  simp -dsimp (disch:=try exact dx) only[wpS,zE]
  refine loop (fun m fr h1 => ∃(kk:Int) (V r:Nat) (os:List Nat) (rv:Value),(kk+1=m∨(kk<0∧m=0))∧m≤L+1 - M ∧ -100000000<kk∧Ext h h1∧h.n<h1.n∧h1.ext.get h.n=some (.cells (os.map K64) 1 none)∧os.length=a.length∧B.Digs os∧B.valD os=V∧B.DivB (B.valD a) (B.valD b) m V r∧Wrd h1 rv r ∧
    fget fr 1=some w∧fget fr 4=some (.slice (some ⟨2*h.n,0,none⟩) a.length (2*a.length+1))∧fget fr 5=some rv∧fget fr 8=some (KI kk)) (L+1 - M)
   ⟨(L:Int) - (M:Int),0,B.valD a,List.replicate a.length 0,v,by omega,Nat.le_refl _,by omega,e0,by simp,by rw[get_new_same _ _ rfl,repl_k64],by simp,B.Digs.repl _,B.valD_repl _,?_,⟨a,ha.keep e0.keep,na,rfl⟩,by simp,by simp,by simp,by simp⟩ ?_
  ·by_cases hlm:M≤L+1
   ·have:=B.divB_start (lb:=M - 1) (la:=L) aL M1 (by omega)
    rwa [show L - (M - 1)=L+1 - M by omega] at this
   ·rw[show L+1 - M=0 by omega]
    refine⟨by simp,by simp,?_⟩
    rw[Nat.pow_zero,Nat.mul_one]
    exact Nat.lt_of_lt_of_le aL (Nat.le_trans (Nat.pow_le_pow_right (by omega) (by omega)) M1)
  rintro m fr h1 ⟨kk,V,r,os,rv,hkm,hmL,hkb,hE,hn,hg,hol,hod,hov,hD,hr,f1,f4,f5,f8⟩
  rcases Nat.eq_zero_or_pos m with rfl|hp
  ·have k0:kk<0:=by omega
   simp -dsimp (disch:=try exact dx) only[wpS,wpT,zE,f4,f5,f8]
   obtain⟨d1,d2⟩:=B.divB_end hD
   refine⟨hE,_,_,rfl,⟨os,⟨?_,hod,by omega⟩,by rw[hov,d1]⟩,by rw[←d2];exact hr⟩
   rw[hol]
   exact sl_block hg hn (by decide) (by rw[List.length_map,hol];omega) (by omega) (by omega)
  ·obtain⟨k,rfl⟩ : ∃k,m=k+1:=⟨m - 1,by omega⟩
   obtain rfl:kk=(k:Int):=by omega
   have hk0:(0:Int)≤(k:Int):=by omega
   simp -dsimp (disch:=try exact dx) only[wpS,wpT,zE,f1,f8]
   refine call (moved_ok (hb.keep hE.keep) k (by omega)) ?_
   rintro t h2 ⟨hE2,ht⟩
   simp -dsimp (disch:=try exact dx) only[wpS,zE,f5]
   obtain⟨rs,hrs,nr,vr⟩:=id hr
   obtain⟨ts,hts,nt,vt⟩:=id ht
   refine call (compared_ok (hrs.keep hE2.keep) hts nr nt) ?_
   rintro _ h3 ⟨rfl,c,rfl,c1,c2,c3,c4⟩
   rw[vr,vt] at c1
   simp -dsimp (disch:=try exact dx) only[wpS,zE]
   have hg3:=(hE2.get _ hn).trans hg
   have hn3:h.n<h3.n:=Nat.lt_of_lt_of_le hn hE2.n
   refine bq_cutE (fun fr2 h4 => ∃(V2 r2:Nat) (os2:List Nat) (rv2:Value),Ext h h4∧h.n<h4.n∧h4.ext.get h.n=some (.cells (os2.map K64) 1 none)∧os2.length=a.length∧B.Digs os2∧B.valD os2=V2∧B.DivB (B.valD a) (B.valD b) k V2 r2∧Wrd h4 rv2 r2 ∧
    fget fr2 1=some w∧fget fr2 4=some (.slice (some ⟨2*h.n,0,none⟩) a.length (2*a.length+1))∧fget fr2 5=some rv2∧fget fr2 8=some (KN k)) (fun hc=>?_) (fun hc=>?_) ?_
   ·simp only[decide_eq_true_eq] at hc
    have hge:B.valD b*2 ^ k≤r:=by omega
    simp -dsimp (disch:=try exact dx) only[wpS,wpT,zE,f5]
    refine call (taken_ok (hrs.keep hE2.keep) hts nt (by rw[vr,vt];exact hge)) ?_
    rintro _ h4 ⟨hE4,xs,rfl,hxs,hxv⟩
    simp -dsimp (disch:=try exact dx) only[wpS,zE]
    refine call (trimmed_at hxs false) ?_
    rintro _ h5 ⟨⟨hE5,sv,rfl,hw0⟩,hput⟩
    have hw:=hput h.n (.cells ((os.set (k / 64) (os.getD (k / 64) 0+2 ^ (k % 64))).map K64) 1 none) (by simp only[blockOf,ne_eq,Option.some.injEq];omega)
    obtain⟨_,hsv,hw⟩:=hw
    cases hsv
    simp only[Bool.false_eq_true,if_false,Int.natAbs_natCast] at hw
    rw[hxv,vr,vt] at hw
    have x35:=hE4.trans hE5
    have hg5:=(x35.get _ hn3).trans hg3
    have hn5:h.n<h5.n:=Nat.lt_of_lt_of_le hn3 x35.n
    have hki:k / 64<os.length:=by omega
    have hr5:h5.row (2*h.n)=some (os.map K64):=row_kn hg5
    have go:=get_some hki
    obtain⟨bs1,bs2⟩:=B.bit_set (k:=k) hod (by rw[hov];exact hD.2.1)
    have hvs:=B.valD_set (os.getD (k / 64) 0+2 ^ (k % 64)) hki
    obtain⟨o,ho⟩ : ∃o,o=os.getD (k / 64) 0:=⟨_,rfl⟩
    rw[←ho] at go bs1 bs2 hvs hw
    have gor:(os.map K64)[k / 64]?=some (K64 o):=by rw[List.getElem?_map,go];rfl
    have eM:(k:Int) / 64=((k / 64:Nat):Int):=by omega
    have eS:(k:Int) % 64=((k % 64:Nat):Int):=by omega
    have hS:k % 64<64:=Nat.mod_lt _ (by omega)
    have hMM:k / 64≤1000000:=by omega
    have hpl:2 ^ (k % 64)<18446744073709551616:=Nat.pow_lt_pow_right (n:=64) (by omega) hS
    have spl:=spl_k64 (o+2 ^ (k % 64)) hki
    have hDn:=B.divB_one hD hge
    have hpk:2 ^ (k % 64)*18446744073709551616 ^ (k / 64)=2 ^ k:=by rw[B.pow64,←Nat.pow_add];congr 1;omega
    obtain⟨km,hkm⟩ : ∃km,km=k / 64:=⟨_,rfl⟩
    obtain⟨ks,hks⟩ : ∃ks,ks=k % 64:=⟨_,rfl⟩
    rw[←hkm] at eM hki go gor spl hMM hvs hpk hw
    rw[←hks] at eS hS bs1 bs2 spl hvs hpk hw hpl
    have hbo:=fun t ox oy=>binop_or_u64 prog t ox oy o (2 ^ ks) (Nat.lt_of_le_of_lt (Nat.le_add_right _ _) bs2) hpl
    simp -dsimp (disch:=try exact dx) only[wpS,wpT,zE,zA,es135,ld28,st28,fp137_1,f4,f8,eM,eS,hr5,gor,hbo,bs1,hg5,spl,List.length_map,hol,Bool.false_eq_true]
    refine⟨V+2 ^ k,r - B.valD b*2 ^ k,os.set km (o+2 ^ ks),sv,(hE.trans (hE2.trans x35)).put (Nat.le_refl _) _,hn5,get_put_same _ _ rfl,by rw[List.length_set,hol],hod.set _ bs2,?_,hDn,?_,by simp[f1],by simp[f4],by simp,by simp[f8]⟩
    ·rw[Nat.add_mul,hpk] at hvs
     omega
    ·exact hw
   ·simp only[decide_eq_false_iff_not] at hc
    have hlt:r<B.valD b*2 ^ k:=by omega
    simp -dsimp (disch:=try exact dx) only[wpS,wpT]
    exact⟨V,r,os,rv,hE.trans hE2,hn3,hg3,hol,hod,hov,B.divB_zero hD hlt,hr.keep hE2.keep,by simp[f1],by simp[f4],by simp[f5],by simp[f8]⟩
   ·clear hr hg hn hol hod hov hD f1 f4 f5 f8 hE
    rintro fr2 h4 ⟨V2,r2,os2,rv2,hE,hn,hg,hol,hod,hov,hD,hr,f1,f4,f5,f8⟩
    simp -dsimp (disch:=try exact dx) only[wpS,zE,f8]
    exact⟨k,by omega,(k:Int) - 1,V2,r2,os2,rv2,by omega,by omega,by omega,hE,hn,hg,hol,hod,hov,hD,hr,by simp[f1],by simp[f4],by simp[f5],by simp⟩
end Go.Id

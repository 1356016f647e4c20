/-
  Contracts: the program's long integers: numbers of bits, products by powers of 2, quotient
-/
import Derived.Test.YtnnmjocmapilaaaGreatOutlierRisesAm
set_option linter.unusedVariables false
set_option linter.unusedSimpArgs false
set_option linter.defProp false
set_option linter.deprecated false
namespace Go.Id
open Go
open Go.Proofs.Tryz (prog)
open Nat renaming reduceAdd→zA,reduceEqDiff→zE,reduceLeDiff→zL
set_option maxHeartbeats 16000000
variable {h:IH}
def Nu {P:Program} {fn:FuncId} {nt:Nat} {rd:Option Nat} {a c:Code} {fr:Fr} {Q:bN→Fr→IH→Prop} {b:Bool} (R:Fr→IH→Prop)
  (h1:b=true→Do (wpC P fn nt rd a fr h) (qS (fun fr h=>Pst (R fr h) nx) Q) nx) (h2:b=false→Do (wpC P fn nt rd c fr h) (qS (fun fr h=>Pst (R fr h) nx) Q) nx) (k : ∀fr h,R fr h→Q .normal fr h) :
  Bq b (Do (wpC P fn nt rd a fr h) Q nx,Do (wpC P fn nt rd c fr h) Q nx) nx:=by
 have e:Q=qS (Q .normal) Q:=by funext e fr h;cases e<;>rfl
 refine au (fun hb=>?_) fun hb=>?_
 ·rw[e];exact cut R (h1 hb) k
 ·rw[e];exact cut R (h2 hb) k
def ZT (x k:Nat):Prop:=(x=0→k=0)∧(x≠0→0<k∧2 ^ (k - 1)≤x∧x<2 ^ k)
variable {ds:List Nat}{v:Value}
def C5 (hd:il h v ds) (n:B.Norm ds):WV prog (.func (.func 259) #[] #[]) [v] h fun r h'=>h'=h ∧ ∃k:Nat,r=KN k∧k≤64*ds.length∧ZT (B.ao ds) k:=by
 have hb:=hd.2.2
 have hz:=n.kI
 refine enter (nt:=17) (rs:=[.tmp 2]) Proofs.Tryz.func259 rfl rfl rfl (by simp) ?_
 simp -dsimp (disch:=omega) only[wpS,zE,hd.1.len fE]
 refine au ?_ ?_<;>intro hc<;>simp only[beq_iff_eq,beq_eq_false_iff_ne,ne_eq] at hc
 ·have h0:ds = []:=List.length_eq_zero_iff.1 (by omega)
  simp -dsimp (disch:=omega) only[wpS,wpT,zE]
  exact⟨0,rfl,by omega,fun _=>rfl,fun hne=>absurd (hz.2 h0) hne⟩
 ·obtain⟨m,hm⟩ : ∃m,ds.length=m+1:=⟨ds.length - 1,by omega⟩
  have hne:ds.getD m 0≠0:=by
   rcases n with rfl|hn
   ·simp at hm
   ·rwa [hm,Nat.add_sub_cancel] at hn
  have dl:=B.bS hd.2.1 m
  have gm:=get_some (show m<ds.length by omega)
  have e1:(ds.length:Int) - 1=(m:Int):=by omega
  simp -dsimp (disch:=omega) only[wpS,wpT,zE,hd.1.len fE,e1,hd.1.idx gv (show m<ds.length by omega),hd.1.ld (aK.refl _) (P:=prog) (t:=28) (c:=m) (by simp<;>omega) tu,cp,gm]
  refine call (WI (ds.getD m 0) (by omega) dl) ?_
  rintro _ _ ⟨rfl,s,rfl,hs,_,_,h1,h2⟩
  have e2:(64:Int)*(ds.length:Int) - (s:Int)=((64*m+(63 - s)+1:Nat):Int):=by omega
  have WZ:=B.VO (k:=63 - s) hd.2.1 hm h1 (by rw[show 63 - s+1=64 - s by omega];exact h2)
  simp -dsimp (disch:=omega) only[wpS,wpT,zE,e2]
  refine⟨64*m+(63 - s)+1,rfl,by omega,fun h0=>?_,fun _=>⟨by omega,?_,WZ.2⟩⟩
  ·have:=hz.1 h0
   rw[this] at hm;simp at hm
  ·rw[Nat.add_sub_cancel];exact WZ.1
def RI (hd:il h v ds) (k:Nat) (hk:ds.length+k / 64+1≤1100000):WV prog (.func (.func 260) #[] #[]) [v,KN k] h fun r h'=>Ext h h'∧Wrd h' r (B.ao ds*2 ^ k):=by
 obtain⟨m,hm⟩:=aT (k / 64)
 obtain⟨s,hs⟩:=aT (k % 64)
 have eM:(k:Int) / 64=(m:Int):=by omega
 have eS:(k:Int) % 64=(s:Int):=by omega
 have s64:s<64:=by omega
 have hk2:k=64*m+s:=by omega
 rw[←hm] at hk
 have eL:(ds.length:Int)+(m:Int)+1=((ds.length+m+1:Nat):Int):=by omega
 refine enter (nt:=54) (rs:=[.tmp 4]) Proofs.Tryz.func260 rfl rfl rfl (by simp) ?_
 simp -dsimp (disch:=omega) only[wpS,wpT,zE,zA,HJ,hd.1.len fE,eM,eL]
 refine loop (fun j fr h1 => ∃(i:Nat) (os:List Nat),i+j=ds.length∧Ext h h1∧h.n<h1.n∧h1.ext.get h.n=some (.cells (os.map K64) 1 none)∧os.length=ds.length+m+1∧B.bJ os∧B.ao os=B.aI ds i*2 ^ k∧os.getD (i+m) 0<2 ^ s∧(∀j,i+m<j→os.getD j 0=0) ∧
   ab fr 1=some (KN k)∧ab fr 5=some (.slice (some ⟨2*h.n,0,none⟩) (ds.length+m+1) (2*(ds.length+m+1)+1))∧ab fr 15=some v∧ab fr 16=some (KN ds.length)∧ab fr 17=some (KN i)) ds.length
  ⟨0,List.replicate (ds.length+m+1) 0,by omega,(Ext.refl h).new _,by simp,by rw[ah _ _ rfl,oI];rfl,by simp,B.bJ.bB _,by rw[B.jR];simp[B.aI],by rw[B.jZ];exact Nat.pow_pos (by omega),fun k _=>B.jZ _ _,by simp⟩ ?_
 rintro j fr h1 ⟨i,os,him,hE,hn,hg,hol,hod,hov,hot,hoz,f1,f5,f15,f16,f17⟩
 simp -dsimp (disch:=omega) only[wpS,f16,f17]
 refine au ?_ ?_<;>intro hc<;>simp only[decide_eq_true_eq,decide_eq_false_iff_not] at hc
 ·have hi:i<ds.length:=by omega
  have dx:=B.bS hd.2.1 i
  have gx:=get_some hi
  have hr:h1.row (2*h.n)=some (os.map K64):=bT hg
  have go:=get_some (show i+m<os.length by omega)
  obtain⟨x,hx⟩:=aT (ds.getD i 0)
  obtain⟨o,ho⟩:=aT (os.getD (i+m) 0)
  rw[←hx] at gx dx
  rw[←ho] at go hot
  have gor:(os.map K64)[i+m]?=some (K64 o):=by rw[List.getElem?_map,go];rfl
  have eI:(i:Int)+(m:Int)=((i+m:Nat):Int):=by omega
  obtain⟨y,hy⟩:=aT (x*2 ^ s % 18446744073709551616)
  have hyl:y<18446744073709551616:=by omega
  have hor:o ||| y=o+y:=B.UQ hot (by rw[hy];exact B.Ut x s64)
  have Ig:o+y<18446744073709551616:=by
   rw[←hor]
   exact Nat.or_lt_two_pow (n:=64) (Nat.lt_of_lt_of_le hot (Nat.pow_le_pow_right (by omega) (by omega))) hyl
  have eY:x*2 ^ s % 18446744073709551616=y:=hy.symm
  obtain⟨z,hz⟩:=aT (x / 2 ^ (64 - s))
  have hzl:z<2 ^ s:=by rw[hz];exact B.Cy dx (by omega)
  have YI:y+z*18446744073709551616=x*2 ^ s:=by rw[hy,hz];exact B.CA dx s64
  have spl:=kE (o+y) (show i+m<os.length by omega)
  have ng:B.ao (os.set (i+m) (o+y))=B.ao os+y*18446744073709551616 ^ (i+m):=by
   have:=B.iK (o+y) (show i+m<os.length by omega)
   rw[←ho,Nat.add_mul] at this;omega
  have YP:B.aI ds (i+1)*2 ^ k=B.aI ds i*2 ^ k+(y*18446744073709551616 ^ (i+m)+z*18446744073709551616 ^ (i+1+m)):=by
   have e1:18446744073709551616 ^ (i+1+m)=18446744073709551616*18446744073709551616 ^ (i+m):=by rw[show i+1+m=(i+m)+1 by omega,Nat.pow_succ,Nat.mul_comm]
   have e2:2 ^ k=18446744073709551616 ^ m*2 ^ s:=by rw[B.CI,←Nat.pow_add,hk2]
   have e3:y*(18446744073709551616 ^ i*18446744073709551616 ^ m)+z*(18446744073709551616*(18446744073709551616 ^ i*18446744073709551616 ^ m))=(y+z*18446744073709551616)*(18446744073709551616 ^ i*18446744073709551616 ^ m):=by rw[Nat.add_mul,Nat.mul_assoc]
   rw[B.aI,←hx,e1,e2,Nat.pow_add,e3,YI,Nat.add_mul]
   congr 1
   ac_rfl
  have gx':=gx
  simp -dsimp (maxSteps:=1000000) (disch:=first|omega|(simp only[aH,aM];omega)|decide +kernel|(repeat first|rw[aH]|rw[aM])) only[wpS,wpT,zE,zL,gv,tj,wP,f1,f5,f15,f17,hd.1.idx gv hi,hd.1.ld hE.aa (P:=prog) (t:=28) (c:=i) (by simpa using hi) tu,cp,gx,hr,gor,eM,eS,eI,Wo,eY,hor,hg,spl,List.length_map,hol]
  refine Nu (fun fr2 h2 => ∃os2:List Nat,Ext h h2∧h.n<h2.n∧h2.ext.get h.n=some (.cells (os2.map K64) 1 none)∧os2.length=ds.length+m+1∧B.bJ os2∧B.ao os2=B.aI ds (i+1)*2 ^ k∧os2.getD (i+1+m) 0<2 ^ s∧(∀j,i+1+m<j→os2.getD j 0=0) ∧
   ab fr2 1=some (KN k)∧ab fr2 5=some (.slice (some ⟨2*h.n,0,none⟩) (ds.length+m+1) (2*(ds.length+m+1)+1))∧ab fr2 15=some v∧ab fr2 16=some (KN ds.length)∧ab fr2 17=some (KN i)) (fun hc=>?_) (fun hc=>?_) ?_
  ·simp only[decide_eq_true_eq] at hc
   have eJ:((i+m:Nat):Int)+1=((i+1+m:Nat):Int):=by omega
   have e64:(64:Int) - (s:Int)=((64 - s:Nat):Int):=by omega
   have eZ:m8 x (64 - s)=z:=by rw[hz];exact Nat.shiftRight_eq_div_pow _ _
   have hj2:i+1+m<(os.set (i+m) (o+y)).length:=by rw[List.length_set];omega
   have hz0:(os.set (i+m) (o+y)).getD (i+1+m) 0=0:=by rw[B.dD (by omega),if_neg (by omega)];exact hoz _ (by omega)
   have spl2:=kE z hj2
   have hg2:(h1.put h.n (.cells ((os.set (i+m) (o+y)).map K64) 1 none)).ext.get h.n=some (.cells ((os.set (i+m) (o+y)).map K64) 1 none):=ae _ _ rfl
   simp -dsimp (maxSteps:=1000000) (disch:=first|omega|(simp only[aH,aM];omega)|decide +kernel|(repeat first|rw[aH]|rw[aM])) only[wpS,wpT,zE,zL,gv,wP,f1,f5,eM,eS,eI,eJ,e64,eZ,hg2,spl2,List.length_map,List.length_set,hol]
   refine⟨(os.set (i+m) (o+y)).set (i+1+m) z,(hE.put (Nat.le_refl _) _).put (Nat.le_refl _) _,hn,ae _ _ rfl,by rw[List.length_set,List.length_set,hol],(hod.set _ Ig).set _ (Nat.lt_trans hzl (by exact Nat.lt_of_lt_of_le (Nat.pow_lt_pow_right (by omega) s64) (by omega))),?_,?_,?_,by simp[f1,f5,f15,f16,f17]⟩
   ·have:=B.iK z hj2
    rw[hz0,Nat.zero_mul,Nat.add_zero] at this
    rw[this,ng,hov,YP,Nat.add_assoc]
   ·rw[B.dD hj2,if_pos rfl];exact hzl
   ·intro j hj
    rw[B.dD hj2,if_neg (by omega),B.dD (by omega),if_neg (by omega)]
    exact hoz _ (by omega)
  ·simp only[decide_eq_false_iff_not] at hc
   have hs0:s=0:=by omega
   have hz0:z=0:=by rw[hs0] at hzl;omega
   simp -dsimp (disch:=omega) only[wpS,wpT]
   refine⟨os.set (i+m) (o+y),hE.put (Nat.le_refl _) _,hn,ae _ _ rfl,by rw[List.length_set,hol],hod.set _ Ig,?_,?_,?_,by simp[f1,f5,f15,f16,f17]⟩
   ·rw[ng,hov,YP,hz0,Nat.zero_mul,Nat.add_zero]
   ·rw[B.dD (by omega),if_neg (by omega),hoz _ (by omega)];exact Nat.pow_pos (by omega)
   ·intro j hj
    rw[B.dD (by omega),if_neg (by omega)]
    exact hoz _ (by omega)
  ·clear hE hn hg hol hod hov hot hoz hr go gor ho hor Ig spl ng YP f1 f5 f15 f16 f17 gx gx'
   rintro fr2 h2 ⟨os2,hE,hn,hg,hol,hod,hov,hot,hoz,f1,f5,f15,f16,f17⟩
   simp -dsimp (maxSteps:=1000000) (disch:=first|omega|(simp only[aH,aM];omega)|decide +kernel|(repeat first|rw[aH]|rw[aM])) only[wpS,f17]
   exact⟨j - 1,by omega,i+1,os2,by omega,hE,hn,hg,hol,hod,hov,hot,hoz,by simp[f1,f5,f15,f16]⟩
 ·obtain rfl:i=ds.length:=by omega
  have hW:il h1 (.slice (some ⟨2*h.n,0,none⟩) (ds.length+m+1) (2*(ds.length+m+1)+1)) os:=by
   refine⟨?_,hod,by omega⟩
   rw[hol]
   exact cI hg hn (by decide) (by rw[List.length_map,hol];omega) (by omega) (by omega)
  simp -dsimp (disch:=omega) only[wpS,wpT,zE,f5]
  refine call (fT hW false) ?_
  rintro _ h2 ⟨hE2,sv,rfl,hw⟩
  simp -dsimp (disch:=omega) only[wpS,wpT,zE,zA,Fq,Bool.false_eq_true]
  refine⟨hE.trans hE2,?_⟩
  simp only[Bool.false_eq_true,if_false,Int.natAbs_natCast] at hw
  rw[hov,show B.aI ds ds.length=B.ao ds from rfl] at hw
  exact hw
def RU {r x d q0 r0 P B:Nat} (dm:d*q0+r0=r*B+x):r*(P*B)+x*P=d*(q0*P)+r0*P:=by
 have e:(d*q0+r0)*P=(r*B+x)*P:=by rw[dm]
 grind
def Bl {w:Value} {a b:List Nat} (ha:il h v a) (hb:il h w b) (na:B.Norm a) (nb:B.Norm b) (hb0:B.ao b≠0) (la:a.length≤1000000) (lb:b.length≤1000000) :
  WV prog (.func (.func 248) #[] #[]) [v,w] h fun r h'=>Ext h h' ∧ ∃q t,r=.tuple #[q,t]∧(∃qs,il h' q qs∧B.ao qs=B.ao a / B.ao b)∧Wrd h' t (B.ao a % B.ao b):=by
 have hbz:=nb.kI
 have hbl:0<b.length:=by
  apply Nat.pos_of_ne_zero;intro h0
  exact hb0 (hbz.2 (List.length_eq_zero_iff.1 h0))
 refine enter (nt:=77) (rs:=[.tmp 4,.tmp 5]) Proofs.Tryz.func248 rfl rfl rfl (by simp) ?_
 simp -dsimp (disch:=omega) only[wpS,zE,zA,HJ,ha.1.len fE,hb.1.len fE]
 refine au ?_ ?_<;>intro hc<;>simp only[beq_iff_eq,beq_eq_false_iff_ne,ne_eq] at hc
 ·have hb1:b.length=1:=by omega
  obtain⟨d,rfl⟩:=List.length_eq_one_iff.1 hb1
  have hv:B.ao [d]=d:=by simp[B.ao,B.aI]
  rw[hv] at hb0 ⊢
  have dd:d<18446744073709551616:=hb.2.1 d (by simp)
  simp -dsimp (disch:=omega) only[wpS,wpT,zE,ha.1.len fE]
  refine loop (fun m fr h1 => ∃(r:Nat) (os:List Nat),m≤a.length∧Ext h h1∧h.n<h1.n∧h1.ext.get h.n=some (.cells (os.map K64) 1 none)∧os.length=a.length∧B.bJ os∧r<d∧B.ao a=d*B.ao os+r*18446744073709551616 ^ m+B.aI a m∧(∀j,j<m→os.getD j 0=0) ∧
    ab fr 0=some v∧ab fr 1=some w∧ab fr 4=some (.slice (some ⟨2*h.n,0,none⟩) a.length (2*a.length+1))∧ab fr 6=some (K64 r)∧ab fr 7=some (KI ((m:Int) - 1))) a.length
   ⟨0,List.replicate a.length 0,Nat.le_refl _,(Ext.refl h).new _,by simp,by rw[ah _ _ rfl,oI],by simp,B.bJ.bB _,by omega,by rw[B.jR];simp[B.ao],fun k _=>B.jZ _ _,by simp⟩ ?_
  rintro m fr h1 ⟨r,os,hm,hE,hn,hg,hol,hod,hr,hva,hoz,f0,f1,f4,f6,f7⟩
  rcases Nat.eq_zero_or_pos m with rfl|hp
  ·simp -dsimp (disch:=omega) only[wpS,wpT,zE,zL,zA,Tu,f4,f6,f7]
   have hbs:il (h1.new (.cells [K64 r] 1 none)) (.slice (some ⟨2*h1.n,0,none⟩) 1 (2*1+1)) [r]:=⟨by simpa using wy (h:=h1) (sz:=1) (m:=1) (cs:=[K64 r]) (by omega) rfl (by omega),fun x hx=>by simp at hx;omega,by simp⟩
   refine call (fT hbs false) ?_
   rintro _ h2 ⟨hE2,sv,rfl,hw⟩
   simp -dsimp (disch:=omega) only[wpS,wpT,zE,zA,Fq,Bool.false_eq_true]
   have e3:=((Ext.refl h1).new (.cells [K64 r] 1 none)).trans hE2
   simp only[Bool.false_eq_true,if_false,Int.natAbs_natCast] at hw
   have hv1:B.ao [r]=r:=by simp[B.ao,B.aI]
   rw[hv1] at hw
   simp only[B.aI,Nat.pow_zero,Nat.mul_one,Nat.add_zero] at hva
   obtain⟨d1,d2⟩:B.ao os=B.ao a / d∧r=B.ao a % d:=by
    rw[hva,Nat.mul_add_mod,Nat.mul_add_div (by omega),Nat.div_eq_of_lt hr,Nat.mod_eq_of_lt hr];exact⟨rfl,rfl⟩
   refine⟨hE.trans e3,_,_,rfl,⟨os,?_,d1⟩,by rw[←d2];exact hw⟩
   refine il.aa (h:=h1) ⟨?_,hod,by omega⟩ e3.aa
   rw[hol]
   exact cI hg hn (by decide) (by rw[List.length_map,hol];omega) (by omega) (by omega)
  ·obtain⟨k,rfl⟩ : ∃k,m=k+1:=⟨m - 1,by omega⟩
   have e1:(((k+1:Nat):Int) - 1)=(k:Int):=by omega
   rw[e1] at f7
   have dx:=B.bS ha.2.1 k
   have gx:=get_some (show k<a.length by omega)
   have hr2:h1.row (2*h.n)=some (os.map K64):=bT hg
   rw[B.aI] at hva
   obtain⟨x,hx⟩:=aT (a.getD k 0)
   rw[←hx] at gx dx hva
   have ib:indexAddr prog 133 w (.int .i64 0)=some (aP w 0):=by
    simpa using hb.1.idxI (P:=prog) (t:=133) gv (k:=.i64) (i:=0) (by omega) (by simp)
   have lb0:load prog h1 28 (aP w 0)=some (K64 d):=hb.1.ld hE.aa (P:=prog) (t:=28) (c:=0) (by simp) tu
   simp -dsimp (maxSteps:=1000000) (disch:=first|omega|(simp only[aH,aM];omega)|decide +kernel|(repeat first|rw[aH]|rw[aM])) only[wpS,wpT,zE,f0,f1,f4,f6,f7,ha.1.idx gv (show k<a.length by omega),ha.1.ld hE.aa (P:=prog) (t:=28) (c:=k) (by simp<;>omega) tu,cp,gx,ib,lb0]
   refine call (SM r x d hr dx dd) ?_
   rintro _ h2 ⟨rfl,rfl⟩
   have dm:=Nat.div_add_mod (r*18446744073709551616+x) d
   have dl:=Nat.mod_lt (r*18446744073709551616+x) (show 0<d by omega)
   have dq:(r*18446744073709551616+x) / d<18446744073709551616:=by
    rw[Nat.div_lt_iff_lt_mul (by omega)]
    have:(r+1)*18446744073709551616≤d*18446744073709551616:=Nat.mul_le_mul_right _ hr
    omega
   obtain⟨q0,hq0⟩:=aT ((r*18446744073709551616+x) / d)
   obtain⟨r0,hr0⟩:=aT ((r*18446744073709551616+x) % d)
   rw[←hq0] at dm dq ⊢
   rw[←hr0] at dm dl ⊢
   have spl:=kE q0 (show k<os.length by omega)
   simp -dsimp (maxSteps:=1000000) (disch:=first|omega|(simp only[aH,aM];omega)|decide +kernel|(repeat first|rw[aH]|rw[aM])) only[wpS,wpT,zE,gv,wP,f7,hg,spl,List.length_map,hol]
   refine⟨k,by omega,r0,os.set k q0,by omega,hE.put (Nat.le_refl _) _,hn,ae _ _ rfl,by rw[List.length_set,hol],hod.set _ dq,dl,?_,?_,by simp[f0,f1,f4]⟩
   ·have:=B.iK q0 (show k<os.length by omega)
    rw[hoz k (by omega),Nat.zero_mul,Nat.add_zero] at this
    rw[hva,this,Nat.pow_succ]
    have e5:=RU (P:=18446744073709551616 ^ k) dm
    rw[Nat.mul_add]
    omega
   ·intro j hj
    rw[B.dD (by omega),if_neg (by omega)]
    exact hoz j (by omega)
 ·simp -dsimp (disch:=omega) only[wpS,wpT,zE]
  have e0:Ext h (h.new (.cells (bB a.length [K64 0]) 1 none)):=(Ext.refl h).new _
  refine call (C5 (ha.aa e0.aa) na) ?_
  rintro _ h2 ⟨rfl,L,rfl,hL,hBL⟩
  simp -dsimp (disch:=omega) only[wpS,zE]
  refine call (C5 (hb.aa e0.aa) nb) ?_
  rintro _ h3 ⟨rfl,M,rfl,hM,hBM⟩
  obtain⟨M0,M1,M2⟩:=hBM.2 hb0
  have bG:=nb.ge (fun h0=>hb0 (hbz.2 h0))
  rw[B.CI] at bG
  have bM:64*(b.length - 1)<M:=by
   have h1:2 ^ (64*(b.length - 1))<2 ^ M:=Nat.lt_of_le_of_lt bG M2
   exact(Nat.pow_lt_pow_iff_right (by omega)).1 h1
  have aL:B.ao a<2 ^ L:=by
   rcases Nat.eq_zero_or_pos (B.ao a) with h0|h0
   ·rw[h0];exact Nat.pow_pos (by omega)
   ·exact(hBL.2 (by omega)).2.2
  simp -dsimp (disch:=omega) only[wpS,zE]
  refine loop (fun m fr h1 => ∃(kk:Int) (V r:Nat) (os:List Nat) (rv:Value),(kk+1=m∨(kk<0∧m=0))∧m≤L+1 - M ∧ -100000000<kk∧Ext h h1∧h.n<h1.n∧h1.ext.get h.n=some (.cells (os.map K64) 1 none)∧os.length=a.length∧B.bJ os∧B.ao os=V∧B.IX (B.ao a) (B.ao b) m V r∧Wrd h1 rv r ∧
    ab fr 1=some w∧ab fr 4=some (.slice (some ⟨2*h.n,0,none⟩) a.length (2*a.length+1))∧ab fr 5=some rv∧ab fr 8=some (KI kk)) (L+1 - M)
   ⟨(L:Int) - (M:Int),0,B.ao a,List.replicate a.length 0,v,by omega,Nat.le_refl _,by omega,e0,by simp,by rw[ah _ _ rfl,oI],by simp,B.bJ.bB _,B.jR _,?_,⟨a,ha.aa e0.aa,na,rfl⟩,by simp⟩ ?_
  ·by_cases hlm:M≤L+1
   ·have:=B.KG (lb:=M - 1) (la:=L) aL M1 (by omega)
    rwa [show L - (M - 1)=L+1 - M by omega] at this
   ·rw[show L+1 - M=0 by omega]
    refine⟨by simp,by simp,?_⟩
    rw[Nat.pow_zero,Nat.mul_one]
    exact Nat.lt_of_lt_of_le aL (Nat.le_trans (Nat.pow_le_pow_right (by omega) (by omega)) M1)
  rintro m fr h1 ⟨kk,V,r,os,rv,hkm,hmL,hkb,hE,hn,hg,hol,hod,hov,hD,hr,f1,f4,f5,f8⟩
  rcases Nat.eq_zero_or_pos m with rfl|hp
  ·have k0:kk<0:=by omega
   simp -dsimp (disch:=omega) only[wpS,wpT,zE,f4,f5,f8]
   obtain⟨d1,d2⟩:=B.SL hD
   refine⟨hE,_,_,rfl,⟨os,⟨?_,hod,by omega⟩,by rw[hov,d1]⟩,by rw[←d2];exact hr⟩
   rw[hol]
   exact cI hg hn (by decide) (by rw[List.length_map,hol];omega) (by omega) (by omega)
  ·obtain⟨k,rfl⟩ : ∃k,m=k+1:=⟨m - 1,by omega⟩
   obtain rfl:kk=(k:Int):=by omega
   have hk0:(0:Int)≤(k:Int):=by omega
   simp -dsimp (disch:=omega) only[wpS,wpT,zE,f1,f8]
   refine call (RI (hb.aa hE.aa) k (by omega)) ?_
   rintro t h2 ⟨hE2,ht⟩
   simp -dsimp (disch:=omega) only[wpS,zE,f5]
   obtain⟨rs,hrs,nr,vr⟩:=id hr
   obtain⟨ts,hts,nt,vt⟩:=id ht
   refine call (yu (hrs.aa hE2.aa) hts nr nt) ?_
   rintro _ h3 ⟨rfl,c,rfl,c1,c2,c3,c4⟩
   rw[vr,vt] at c1
   simp -dsimp (disch:=omega) only[wpS,zE]
   have hg3:=(hE2.get _ hn).trans hg
   have hn3:h.n<h3.n:=Nat.lt_of_lt_of_le hn hE2.n
   refine Nu (fun fr2 h4 => ∃(V2 r2:Nat) (os2:List Nat) (rv2:Value),Ext h h4∧h.n<h4.n∧h4.ext.get h.n=some (.cells (os2.map K64) 1 none)∧os2.length=a.length∧B.bJ os2∧B.ao os2=V2∧B.IX (B.ao a) (B.ao b) k V2 r2∧Wrd h4 rv2 r2 ∧
    ab fr2 1=some w∧ab fr2 4=some (.slice (some ⟨2*h.n,0,none⟩) a.length (2*a.length+1))∧ab fr2 5=some rv2∧ab fr2 8=some (KN k)) (fun hc=>?_) (fun hc=>?_) ?_
   ·simp only[decide_eq_true_eq] at hc
    have hge:B.ao b*2 ^ k≤r:=by omega
    simp -dsimp (disch:=omega) only[wpS,wpT,zE,f5]
    refine call (GF (hrs.aa hE2.aa) hts nt (by rw[vr,vt];exact hge)) ?_
    rintro _ h4 ⟨hE4,xs,rfl,hxs,hxv⟩
    simp -dsimp (disch:=omega) only[wpS,zE]
    refine call (zK hxs false) ?_
    rintro _ h5 ⟨⟨hE5,sv,rfl,hw0⟩,jE⟩
    have hw:=jE h.n (.cells ((os.set (k / 64) (os.getD (k / 64) 0+2 ^ (k % 64))).map K64) 1 none) (by simp only[dN,ne_eq,Option.some.injEq];omega)
    obtain⟨_,hsv,hw⟩:=hw
    cases hsv
    simp only[Bool.false_eq_true,if_false,Int.natAbs_natCast] at hw
    rw[hxv,vr,vt] at hw
    have x35:=hE4.trans hE5
    have hg5:=(x35.get _ hn3).trans hg3
    have hn5:h.n<h5.n:=Nat.lt_of_lt_of_le hn3 x35.n
    have hki:k / 64<os.length:=by omega
    have hr5:h5.row (2*h.n)=some (os.map K64):=bT hg5
    have go:=get_some hki
    obtain⟨bs1,bs2⟩:=B.VP (k:=k) hod (by rw[hov];exact hD.2.1)
    have hvs:=B.iK (os.getD (k / 64) 0+2 ^ (k % 64)) hki
    obtain⟨o,ho⟩:=aT (os.getD (k / 64) 0)
    rw[←ho] at go bs1 bs2 hvs hw
    have gor:(os.map K64)[k / 64]?=some (K64 o):=by rw[List.getElem?_map,go];rfl
    have eM:(k:Int) / 64=((k / 64:Nat):Int):=by omega
    have eS:(k:Int) % 64=((k % 64:Nat):Int):=by omega
    have hS:k % 64<64:=Nat.mod_lt _ (by omega)
    have hMM:k / 64≤1000000:=by omega
    have hpl:2 ^ (k % 64)<18446744073709551616:=Nat.pow_lt_pow_right (n:=64) (by omega) hS
    have spl:=kE (o+2 ^ (k % 64)) hki
    have hDn:=B.SK hD hge
    have hpk:2 ^ (k % 64)*18446744073709551616 ^ (k / 64)=2 ^ k:=by rw[B.CI,←Nat.pow_add];congr 1;omega
    obtain⟨km,hkm⟩:=aT (k / 64)
    obtain⟨ks,hks⟩ : ∃ks,ks=k % 64:=⟨_,rfl⟩
    rw[←hkm] at eM hki go gor spl hMM hvs hpk hw
    rw[←hks] at eS hS bs1 bs2 spl hvs hpk hw hpl
    have hbo:=fun t ox oy=>wE prog t ox oy o (2 ^ ks) (Nat.lt_of_le_of_lt (Nat.le_add_right _ _) bs2) hpl
    simp -dsimp (disch:=try exact dx) only[wpS,wpT,zE,zA,gv,tj,wP,Fq,f4,f8,eM,eS,hr5,gor,hbo,bs1,hg5,spl,List.length_map,hol,Bool.false_eq_true]
    refine⟨V+2 ^ k,r - B.ao b*2 ^ k,os.set km (o+2 ^ ks),sv,(hE.trans (hE2.trans x35)).put (Nat.le_refl _) _,hn5,ae _ _ rfl,by rw[List.length_set,hol],hod.set _ bs2,?_,hDn,?_,by simp[f1],by simp[f4],by simp,by simp[f8]⟩
    ·rw[Nat.add_mul,hpk] at hvs
     omega
    ·exact hw
   ·simp only[decide_eq_false_iff_not] at hc
    have hlt:r<B.ao b*2 ^ k:=by omega
    simp -dsimp (disch:=omega) only[wpS,wpT]
    exact⟨V,r,os,rv,hE.trans hE2,hn3,hg3,hol,hod,hov,B.Pw hD hlt,hr.aa hE2.aa,by simp[f1,f4,f5,f8]⟩
   ·clear hr hg hn hol hod hov hD f1 f4 f5 f8 hE
    rintro fr2 h4 ⟨V2,r2,os2,rv2,hE,hn,hg,hol,hod,hov,hD,hr,f1,f4,f5,f8⟩
    simp -dsimp (disch:=omega) only[wpS,zE,f8]
    exact⟨k,by omega,(k:Int) - 1,V2,r2,os2,rv2,by omega,by omega,by omega,hE,hn,hg,hol,hod,hov,hD,hr,by simp[f1,f4,f5]⟩
def JG (b k:Nat) (hb:1<b) (hk:k≠0):1<b ^ k:=Nat.one_lt_pow hk hb
def Hj (a b k:Nat) (h:a≤b):a ^ k≤b ^ k:=Nat.pow_le_pow_left h k
theorem Rj (b c k m n:Nat) (h:b=c ^ m) (h2:n=m*k):b ^ k=c ^ n:=by rw[h,h2,Nat.pow_mul]
def UH (b k n:Nat) (hb:1<b) (h:k<n):b ^ k<b ^ n:=Nat.pow_lt_pow_right hb h
def El:Small 1:=.mk (JG 4294967296 1000000 (by decide) (by decide))
def jm {n:Nat} (h:Small n):aX (n:Int):=(Int.natAbs_natCast n).symm▸h
@[irreducible] def uI (x:Nat):Prop:=x<4294967296 ^ 500000
abbrev DP (z:Int):Prop:=uI z.natAbs
theorem uI.lt {x:Nat} (h:uI x):x<4294967296 ^ 500000:=by unfold uI at h;exact h
def uI.mk {x:Nat} (h:x<4294967296 ^ 500000):uI x:=by unfold uI;exact h
def uI.small {x:Nat} (h:uI x):Small x:=by
 have:=h.lt
 refine .mk ?_
 exact Nat.lt_of_lt_of_le this (JF 4294967296 (by decide) 500000 1000000 (by decide))
theorem uI.len {ds:List Nat} (h:uI (ao ds)) (n:Norm ds):ds.length≤500000:=n.MG h.lt
theorem sign_mul (x y:Int):(if (decide (x<0) != decide (y<0))=true then -((x.natAbs*y.natAbs:Nat):Int) else ((x.natAbs*y.natAbs:Nat):Int))=x*y:=by
 have e1:((x.natAbs*y.natAbs:Nat):Int)=(x.natAbs:Int)*(y.natAbs:Int):=by simp
 rw[e1]
 rcases Int.lt_or_le x 0 with hx|hx<;>rcases Int.lt_or_le y 0 with hy|hy
 ·have a:(x.natAbs:Int) = -x:=by omega
  have b:(y.natAbs:Int) = -y:=by omega
  simp[hx,hy,a,b,Int.neg_mul_neg]
 ·have a:(x.natAbs:Int) = -x:=by omega
  have b:(y.natAbs:Int)=y:=by omega
  have c : ¬y<0:=by omega
  simp[hx,c,a,b,Int.neg_mul]
 ·have a:(x.natAbs:Int)=x:=by omega
  have b:(y.natAbs:Int) = -y:=by omega
  have c : ¬x<0:=by omega
  simp[hy,c,a,b,Int.mul_neg]
 ·have a:(x.natAbs:Int)=x:=by omega
  have b:(y.natAbs:Int)=y:=by omega
  have c : ¬x<0:=by omega
  have d : ¬y<0:=by omega
  simp[c,d,a,b]
def ed (a b:Value):List.take 2 [a,b] = [a,b]:=rfl
def wC (a b:Bool):(!(a == b))=(a != b):=rfl
variable {v:Value}{h:IH}{y x:Int}{w:Value}
def jA (hv:bd h v x) (hw:bd h w y) (sx:DP x) (sy:DP y) :
  WV prog (.func (.func 139) #[] #[]) [v,w] h fun r h'=>Ext h h'∧bd h' r (x*y):=by
 obtain⟨s,rfl,ds,hD,hN,hx⟩:=hv
 obtain⟨t,rfl,es,hE,hM,hy⟩:=hw
 have l1:ds.length≤500000:=uI.len (by rw[hx];exact sx) hN
 have l2:es.length≤500000:=uI.len (by rw[hy];exact sy) hM
 refine enter (nt:=16) (rs:=[.cell 4 175]) Proofs.Tryz.func139 rfl rfl rfl (by simp) ?_
 simp -dsimp (disch:=try exact dx) only[wpS,zE,zA,lD]
 have kk : ∀o1 o2 o3,Ext h (((h.new o1).new o2).new o3):=fun o1 o2 o3=>(((Ext.refl h).new _).new _).new _
 refine drawn [(1,[10]),(3,[10])] (by kernel_rfl) (by kernel_rfl) rfl ?_
 simp -dsimp (disch:=try exact dx) only[wpS,zE,dT,ld4,bn4,fk,rC,wC]
 refine call (JD (hD.aa (kk _ _ _).aa) (hE.aa (kk _ _ _).aa) (by omega)) ?_
 rintro r h1 ⟨hE1,os,hO,hON,hOv⟩
 simp -dsimp (disch:=try exact dx) only[wpS,zE]
 refine call (kJ hO _) ?_
 rintro r2 h2 ⟨hE2,hr⟩
 rw[hOv,hx,hy,sign_mul] at hr
 obtain⟨s3,n3,rfl,c3,o3,_,_⟩:=hr.form
 have hg:h2.ext.get (h.n+1+1)=some (.cells [.bool false,.slice none 0 0] 0 none):=by
  have n1:h.n+3≤h1.n:=hE1.n
  rw[hE2.get _ (by omega),hE1.get _ (by simp)];exact ah _ _ rfl
 have r0:h1.row (2*h.n)=some [.bool (decide (x<0)),s]:=by rw[hE1.row (by simp<;>omega)];simp -dsimp (disch:=try exact dx) only[wpS]
 have r1:h1.row (2*(h.n+1))=some [.bool (decide (y<0)),t]:=by rw[hE1.row (by simp<;>omega)];simp -dsimp (disch:=try exact dx) only[wpS]
 simp -dsimp (disch:=try exact dx) only[wpS,wpT,zE,zL,zA,gR,hg,o3]
 refine⟨kA (ad rfl rfl rfl rfl (ai (av:=ptr (2*h.n) 0) (v:=.bool (decide (x<0))) rfl ?_ ?_)) (ad rfl rfl rfl rfl (ai (av:=ptr (2*(h.n+1)) 0) (v:=.bool (decide (y<0))) rfl ?_ ?_)),?_⟩
 ·simp -dsimp (disch:=try exact dx) only[wpS,ld4]
 ·simp -dsimp (disch:=try exact dx) only[wpS,ld4,r0]
 ·simp -dsimp (disch:=try exact dx) only[wpS,ld4]
 ·simp -dsimp (disch:=omega) only[wpS,ld4,r1]
 simp -dsimp (disch:=omega) only[wpS,wpT,zE,zL,zA,cg]
 exact⟨(((kk _ _ _).trans hE1).trans hE2).put (by omega) _,hr.aa ((aK.refl _).put hg _)⟩
def Ml (hy:y≠0) (h : ¬(if decide (x<0)=true then -((x.natAbs % y.natAbs:Nat):Int) else ((x.natAbs % y.natAbs:Nat):Int))<0) :
  (if (decide (x<0) != decide (y<0))=true then -((x.natAbs / y.natAbs:Nat):Int) else ((x.natAbs / y.natAbs:Nat):Int))=x / y∧(if decide (x<0)=true then -((x.natAbs % y.natAbs:Nat):Int) else ((x.natAbs % y.natAbs:Nat):Int))=x % y:=by
 have hb:0<y.natAbs:=by omega
 have h1:=Nat.div_add_mod x.natAbs y.natAbs
 have h2:=Nat.mod_lt x.natAbs hb
 generalize x.natAbs / y.natAbs=q at *
 generalize x.natAbs % y.natAbs=r at *
 have h1':(y.natAbs:Int)*(q:Int)+(r:Int)=(x.natAbs:Int):=by rw[←h1];simp
 have key : ∀y':Int,0<y' → ∀q' r':Int,r'+y'*q'=x→0≤r'→r'<y'→x / y'=q'∧x % y'=r':=fun y' hy' q' r' a b c=>(Int.ediv_emod_unique hy').2 ⟨a,b,c⟩
 rcases Int.lt_or_le x 0 with hx|hx
 ·simp only[hx,decide_true,if_true] at h ⊢
  obtain rfl:r=0:=by omega
  rcases Int.lt_or_le y 0 with hy0|hy0
  ·have a:(x.natAbs:Int) = -x:=by omega
   have b:(y.natAbs:Int) = -y:=by omega
   rw[a,b] at h1'
   obtain⟨k1,k2⟩:=key (-y) (by omega) (-q) 0 (by rw[Int.mul_neg];omega) (by omega) (by omega)
   rw[Int.ediv_neg] at k1
   rw[Int.emod_neg] at k2
   simp only[hy0,decide_true,bne_self_eq_false,Bool.false_eq_true,if_false]
   exact⟨by omega,by omega⟩
  ·have a:(x.natAbs:Int) = -x:=by omega
   have b:(y.natAbs:Int)=y:=by omega
   rw[a,b] at h1'
   obtain⟨k1,k2⟩:=key y (by omega) (-q) 0 (by rw[Int.mul_neg];omega) (by omega) (by omega)
   have : ¬y<0:=by omega
   simp only[this,decide_false,bne_iff_ne,ne_eq,reduceCtorEq,not_false_eq_true,if_true]
   exact⟨by omega,by omega⟩
 ·have hx' : ¬x<0:=by omega
  simp only[hx',decide_false,Bool.false_eq_true,if_false] at h ⊢
  rcases Int.lt_or_le y 0 with hy0|hy0
  ·have a:(x.natAbs:Int)=x:=by omega
   have b:(y.natAbs:Int) = -y:=by omega
   rw[a,b] at h1'
   obtain⟨k1,k2⟩:=key (-y) (by omega) q r (by omega) (by omega) (by omega)
   rw[Int.ediv_neg] at k1
   rw[Int.emod_neg] at k2
   simp only[hy0,decide_true,bne_iff_ne,ne_eq,reduceCtorEq,not_false_eq_true,if_true]
   exact⟨by omega,by omega⟩
  ·have a:(x.natAbs:Int)=x:=by omega
   have b:(y.natAbs:Int)=y:=by omega
   rw[a,b] at h1'
   obtain⟨k1,k2⟩:=key y (by omega) q r (by omega) (by omega) (by omega)
   have : ¬y<0:=by omega
   simp only[this,decide_false,bne_self_eq_false,Bool.false_eq_true,if_false]
   exact⟨by omega,by omega⟩
def Mk (hy:y≠0) (h:(if decide (x<0)=true then -((x.natAbs % y.natAbs:Nat):Int) else ((x.natAbs % y.natAbs:Nat):Int))<0) :
  (if (decide (x<0) != decide (y<0))=true then -((x.natAbs / y.natAbs:Nat):Int) else ((x.natAbs / y.natAbs:Nat):Int))+(if y<0 then 1 else -1)=x / y∧(if decide (x<0)=true then -((x.natAbs % y.natAbs:Nat):Int) else ((x.natAbs % y.natAbs:Nat):Int))+(y.natAbs:Int)=x % y:=by
 have hb:0<y.natAbs:=by omega
 have h1:=Nat.div_add_mod x.natAbs y.natAbs
 have h2:=Nat.mod_lt x.natAbs hb
 generalize x.natAbs / y.natAbs=q at *
 generalize x.natAbs % y.natAbs=r at *
 have h1':(y.natAbs:Int)*(q:Int)+(r:Int)=(x.natAbs:Int):=by rw[←h1];simp
 have key : ∀y':Int,0<y' → ∀q' r':Int,r'+y'*q'=x→0≤r'→r'<y'→x / y'=q'∧x % y'=r':=fun y' hy' q' r' a b c=>(Int.ediv_emod_unique hy').2 ⟨a,b,c⟩
 have hx:x<0:=by
  apply Classical.byContradiction;intro hn
  simp only[hn,decide_false,Bool.false_eq_true,if_false] at h
  omega
 simp only[hx,decide_true,if_true] at h ⊢
 have a:(x.natAbs:Int) = -x:=by omega
 rcases Int.lt_or_le y 0 with hy0|hy0
 ·have b:(y.natAbs:Int) = -y:=by omega
  rw[a,b] at h1'
  obtain⟨k1,k2⟩:=key (-y) (by omega) (-(q+1)) (-y - r) (by rw[Int.mul_neg,Int.mul_add];omega) (by omega) (by omega)
  rw[Int.ediv_neg] at k1
  rw[Int.emod_neg] at k2
  simp only[hy0,decide_true,bne_self_eq_false,Bool.false_eq_true,if_false,if_true]
  exact⟨by omega,by omega⟩
 ·have b:(y.natAbs:Int)=y:=by omega
  rw[a,b] at h1'
  obtain⟨k1,k2⟩:=key y (by omega) (-(q+1)) (y - r) (by rw[Int.mul_neg,Int.mul_add];omega) (by omega) (by omega)
  have : ¬y<0:=by omega
  simp only[this,decide_false,bne_iff_ne,ne_eq,reduceCtorEq,not_false_eq_true,if_true,if_false]
  exact⟨by omega,by omega⟩
def Bk (hv:bd h v x) (hw:bd h w y) (sx:aX x) (sy:aX y) :
  WV prog (.func (.func 138) #[] #[]) [v,w] h fun r h'=>Ext h h'∧bd h' r (Int.gcd x y):=by
 obtain⟨s,rfl,hS⟩:=hv
 obtain⟨t,rfl,hT⟩:=hw
 obtain⟨ds,hD,hN,hx⟩:=id hS
 obtain⟨es,hE,hM,hy⟩:=id hT
 refine enter (nt:=26) (rs:=[.cell 4 175]) Proofs.Tryz.func138 rfl rfl rfl (by simp) ?_
 simp -dsimp (disch:=try exact dx) only[wpS,zE,zA,lD,fk,rC]
 have kk : ∀o1 o2 o3,Ext h (((h.new o1).new o2).new o3):=fun o1 o2 o3=>(((Ext.refl h).new _).new _).new _
 refine loop (fun m fr h1 => ∃(xv yv:Value) (a:Nat),Ext (((h.new (.cells [.bool (decide (x<0)),s] 0 none)).new (.cells [.bool (decide (y<0)),t] 0 none)).new (.cells [.bool false,.slice none 0 0] 0 none)) h1∧Dig h1 xv a∧Dig h1 yv m∧Small a∧Small m∧Nat.gcd a m=Int.gcd x y∧ab fr 4=some (ptr (2*(h.n+1+1)) 0)∧ab fr 5=some xv∧ab fr 6=some yv) y.natAbs
  ⟨s,t,x.natAbs,Ext.refl _,hS.aa (kk _ _ _).aa,hT.aa (kk _ _ _).aa,sx,sy,rfl,by simp,by simp,by simp⟩ ?_
 clear hS hT hD hN hx hE hM hy ds es
 rintro m fr h1 ⟨xv,yv,a,hE1,hA,hB,sa,sb,Ki,f4,f5,f6⟩
 obtain⟨ds,hD,hN,hx⟩:=id hA
 obtain⟨es,hE,hM,hy⟩:=id hB
 have hz:=hM.kI
 rw[hy] at hz
 have l1:ds.length≤1000000:=hN.small (by rw[hx];exact sa)
 have l2:es.length≤1000000:=hM.small (by rw[hy];exact sb)
 by_cases hm:m=0
 ·have hes:es = []:=hz.1 hm
  have Yr:ot prog h1 25 yv=some (.int .i64 ((0:Nat):Int)):=by have:=hE.1.len (P:=prog) gh h1;rw[hes] at this;exact this
  have hg:h1.ext.get (h.n+1+1)=some (.cells [.bool false,.slice none 0 0] 0 none):=by rw[hE1.get _ (by simp)];exact ah _ _ rfl
  simp -dsimp (disch:=omega) only[wpS,wpT,zE,zL,zA,Ns,y5,gR,cg,f4,f5,f6,Yr,hD.1.cells,hD.1.cok,hg]
  refine⟨((kk _ _ _).trans hE1).put (by omega) _,xv,?_,?_⟩
  ·simp
  ·subst hm
   rw[Nat.gcd_zero_right] at Ki
   rw[Int.natAbs_natCast,←Ki]
   exact hA.aa ((aK.refl _).put hg _)
 ·have hl:0<es.length:=by
   apply Nat.pos_of_ne_zero;intro h0
   exact hm (hz.2 (List.length_eq_zero_iff.1 h0))
  simp -dsimp (disch:=omega) only[wpS,wpT,zE,f5,f6,hE.1.len gh]
  refine call (Hk hD hE hN hM (by rw[hy];exact hm) l1 l2) ?_
  rintro _ h2 ⟨hE2,q,r,rfl,hq,hr⟩
  rw[hx,hy] at hr
  have hlt:=Nat.mod_lt a (Nat.pos_of_ne_zero hm)
  simp -dsimp (disch:=try exact dx) only[wpS,zE,f6]
  refine⟨a % m,hlt,yv,r,m,hE1.trans hE2,hB.aa hE2.aa,hr,sb,sb.le (Nat.le_of_lt hlt),?_,by simp[f4],by simp,by simp⟩
  rw[←Ki,Nat.gcd_comm a m,Nat.gcd_rec m a,Nat.gcd_comm]
def yT (b:Bool) (n:Nat):(if b=true then -(n:Int) else (n:Int)).natAbs=n:=by cases b<;>simp
def CZ (hv:bd h v x) (hw:bd h w y) (sx:aX x) (sy:aX y) (y0:y≠0) :
  WV prog (.func (.func 137) #[] #[]) [v,w] h fun r h'=>Ext h h' ∧ ∃q t,r=.tuple #[q,t]∧bd h' q (x / y)∧bd h' t (x % y):=by
 obtain⟨s,rfl,hS⟩:=hv
 obtain⟨t,rfl,hT⟩:=hw
 obtain⟨ds,hD,hN,hx⟩:=id hS
 obtain⟨es,hE,hM,hy⟩:=id hT
 have l1:ds.length≤1000000:=hN.small (by rw[hx];exact sx)
 have l2:es.length≤1000000:=hM.small (by rw[hy];exact sy)
 refine enter (nt:=46) (rs:=[.cell 4 175,.cell 5 175]) Proofs.Tryz.func137 rfl rfl rfl (by simp) ?_
 simp -dsimp (disch:=try exact dx) only[wpS,zE,zA,lD,fk,rC]
 have kk : ∀o1 o2 o3 o4,Ext h ((((h.new o1).new o2).new o3).new o4):=fun o1 o2 o3 o4=>((((Ext.refl h).new _).new _).new _).new _
 refine call (Hk (hD.aa (kk _ _ _ _).aa) (hE.aa (kk _ _ _ _).aa) hN hM (by rw[hy];omega) l1 l2) ?_
 rintro _ h1 ⟨hE1,q,r,rfl,⟨qs,hq,hqn,hqv⟩,⟨rs,hr,hrn,hrv⟩⟩
 rw[hx,hy] at hqv hrv
 have n1:h.n+4≤h1.n:=hE1.n
 have g0:h1.ext.get h.n=some (.cells [.bool (decide (x<0)),s] 0 none):=by rw[hE1.get _ (by simp<;>omega)];simp (disch:=try exact dx) only[ah,aq]
 have g1:h1.ext.get (h.n+1)=some (.cells [.bool (decide (y<0)),t] 0 none):=by rw[hE1.get _ (by simp<;>omega)];simp (disch:=try exact dx) only[ah,aq]
 have g2:h1.ext.get (h.n+1+1)=some (.cells [.bool false,.slice none 0 0] 0 none):=by rw[hE1.get _ (by simp<;>omega)];simp (disch:=try exact dx) only[ah,aq]
 have g3:h1.ext.get (h.n+1+1+1)=some (.cells [.bool false,.slice none 0 0] 0 none):=by rw[hE1.get _ (by simp<;>omega)];simp (disch:=try exact dx) only[ah]
 have x1:Ext h h1:=(kk _ _ _ _).trans hE1
 have eT1:=hE.aa x1.aa
 clear hE1 kk
 have r0:=bT g0
 have r1:=bT g1
 simp -dsimp (disch:=omega) only[wpS,zE]
 refine drawn [(8,[6])] (by kernel_rfl) (by kernel_rfl) rfl ?_
 simp -dsimp (disch:=omega) only[wpS,zE,dT,ld4,bn4,r0,r1,wC]
 refine call (kJ hq _) ?_
 rintro q2 h2 ⟨hE2,hq2⟩
 have r02:h2.row (2*h.n)=some [.bool (decide (x<0)),s]:=by rw[hE2.row (.inr (by omega))];exact r0
 simp -dsimp (disch:=try exact dx) only[wpS,zE,dT,ld4,r02]
 refine call (kJ (hr.aa hE2.aa) _) ?_
 rintro t2 h3 ⟨hE3,ht2⟩
 rw[hqv] at hq2
 rw[hrv] at ht2
 have pa:=Ml (x:=x) y0
 have pb:=Mk (x:=x) y0
 have aQ:=yT (decide (x<0) != decide (y<0)) (x.natAbs / y.natAbs)
 have aR:=yT (decide (x<0)) (x.natAbs % y.natAbs)
 generalize (if (decide (x<0) != decide (y<0))=true then -((x.natAbs / y.natAbs:Nat):Int) else ((x.natAbs / y.natAbs:Nat):Int))=Q at *
 generalize (if decide (x<0)=true then -((x.natAbs % y.natAbs:Nat):Int) else ((x.natAbs % y.natAbs:Nat):Int))=R at *
 have sQ:aX Q:=Small.le sx (by rw[aQ];exact Nat.div_le_self _ _)
 have sR:aX R:=Small.le sy (by rw[aR];exact Nat.le_of_lt (Nat.mod_lt _ (by omega)))
 obtain⟨sq,n3,rfl,c3,o3,_,_⟩:=hq2.form
 obtain⟨st,n4,rfl,c4,o4,_,_⟩:=ht2.form
 have x3:Ext h h3:=(x1.trans hE2).trans hE3
 have n2:=hE2.n
 have n3':=hE3.n
 simp -dsimp (disch:=try exact dx) only[wpS,wpT,zE,zL,zA,lD,gR,o3,o4]
 refine⟨ad rfl rfl rfl rfl (ai (av:=ptr (2*h.n) 0) (v:=.bool (decide (x<0))) rfl ?_ ?_),?_⟩
 ·simp -dsimp (disch:=omega) only[wpS,ld4,r02]
 ·simp -dsimp (disch:=omega) only[wpS,ld4,r0]
 simp -dsimp (disch:=omega) only[wpS,wpT,zE,zA,dT,ld4]
 have e4:Ext h3 ((((h3.new (.cells [.bool false,.slice none 0 0] 0 none)).new (.cells [.bool false,.slice none 0 0] 0 none)).put h3.n (.cells [.bool (decide (Q<0)),sq] 0 none)).put (h3.n+1) (.cells [.bool (decide (R<0)),st] 0 none)):=((((Ext.refl h3).new _).new _).put (Nat.le_refl _) _).put (by omega) _
 have g8:((((h3.new (.cells [.bool false,.slice none 0 0] 0 none)).new (.cells [.bool false,.slice none 0 0] 0 none)).put h3.n (.cells [.bool (decide (Q<0)),sq] 0 none)).put (h3.n+1) (.cells [.bool (decide (R<0)),st] 0 none)).ext.get h3.n=some (.cells [.bool (decide (Q<0)),sq] 0 none):=by simp (disch:=omega) only[ae,ak]
 have g9:((((h3.new (.cells [.bool false,.slice none 0 0] 0 none)).new (.cells [.bool false,.slice none 0 0] 0 none)).put h3.n (.cells [.bool (decide (Q<0)),sq] 0 none)).put (h3.n+1) (.cells [.bool (decide (R<0)),st] 0 none)).ext.get (h3.n+1)=some (.cells [.bool (decide (R<0)),st] 0 none):=by simp (disch:=omega) only[ae]
 have n5:((((h3.new (.cells [.bool false,.slice none 0 0] 0 none)).new (.cells [.bool false,.slice none 0 0] 0 none)).put h3.n (.cells [.bool (decide (Q<0)),sq] 0 none)).put (h3.n+1) (.cells [.bool (decide (R<0)),st] 0 none)).n=h3.n+2:=rfl
 have hQ0:=hq2.aa (hE3.trans e4).aa
 have hR0:=ht2.aa e4.aa
 have x4:=x3.trans e4
 have x14:Ext h1 _:=(hE2.trans hE3).trans e4
 generalize ((((h3.new (.cells [.bool false,.slice none 0 0] 0 none)).new (.cells [.bool false,.slice none 0 0] 0 none)).put h3.n (.cells [.bool (decide (Q<0)),sq] 0 none)).put (h3.n+1) (.cells [.bool (decide (R<0)),st] 0 none))=h4 at *
 have r9:=bT g9
 refine fB (fun fr2 h5 => ∃sq st,Ext h1 h5∧h3.n+2≤h5.n∧h5.ext.get h3.n=some (.cells [.bool (decide (x / y<0)),sq] 0 none)∧h5.ext.get (h3.n+1)=some (.cells [.bool (decide (x % y<0)),st] 0 none)∧bd h5 (.agg #[.bool (decide (x / y<0)),sq]) (x / y)∧bd h5 (.agg #[.bool (decide (x % y<0)),st]) (x % y) ∧
  ab fr2 4=some (ptr (2*(h.n+1+1)) 0)∧ab fr2 5=some (ptr (2*(h.n+1+1+1)) 0)∧ab fr2 8=some (ptr (2*h3.n) 0)∧ab fr2 9=some (ptr (2*(h3.n+1)) 0)) (fun hb=>?_) (fun hb=>?_) ?_
 ·have hb':R<0:=by simpa using hb
  obtain⟨b1,b2⟩:=pb hb'
  have g1':=(x14.get _ (by omega)).trans g1
  have r1':=bT g1'
  rw[decide_eq_true hb'] at hR0
  simp -dsimp (disch:=omega) only[wpS,wpT,zE,zL,zA,fk,rC,cg,Ns,y5,r9,r1',List.drop_zero,ed,hE.1.cells]
  have hY:bd h4 (.agg #[.bool false,t]) (y.natAbs:Int):=⟨t,by simp,by rw[Int.natAbs_natCast];exact⟨es,eT1.aa x14.aa,hM,hy⟩⟩
  refine call (yX hR0 hY sR (jm sy)) ?_
  rintro t5 h5 ⟨hE5,ht5⟩
  rw[b2] at ht5
  obtain⟨s5,_,rfl,c5,o5,_,_⟩:=ht5.form
  have g9':=(hE5.get _ (by omega)).trans g9
  have g8':=(hE5.get _ (by omega)).trans g8
  have g1'':=(hE5.get _ (by omega)).trans g1'
  have r1'':=bT g1''
  have r8':=bT g8'
  have n6:=hE5.n
  simp -dsimp (disch:=omega) only[wpS,wpT,zE,zL,zA,dT,ld4,gR,g9',o5,r1'']
  have kp5:=(aK.refl h5).put g9' (.cells [.bool (decide (x % y<0)),s5] 0 none)
  refine au (fun hby=>?_) (fun hby=>?_)
  ·simp only[decide_eq_true_eq] at hby
   refine drawn [(0,[2])] (by kernel_rfl) (by kernel_rfl) rfl ?_
   simp -dsimp (disch:=omega) only[wpS,wpT,zE,zL,zA,cg,r8',List.drop_zero,ed]
   refine call (oO 1 ⟨by omega,by omega⟩) ?_
   rintro o1 h6 ⟨hE6,ho1⟩
   simp -dsimp (disch:=omega) only[wpS,zE]
   refine call (yX (hQ0.aa ((hE5.aa.trans kp5).trans hE6.aa)) ho1 sQ (jm (El))) ?_
   rintro q6 h7 ⟨hE7,hq6⟩
   rw[show Q+1=x / y by rw[←b1];simp only[hby,if_true]<;>omega] at hq6
   obtain⟨s6,_,rfl,c6,o6,_,_⟩:=hq6.form
   have g8a:=(hE6.get _ (by simp only[aM];omega)).trans ((ak h5 (.cells [.bool (decide (x % y<0)),s5] 0 none) (show h3.n≠h3.n+1 by omega)).trans g8')
   have g8b:=(hE7.get _ (by have:=hE6.n;simp only[aM] at this;omega)).trans g8a
   have g9b:=(hE7.get (h3.n+1) (by have:=hE6.n;simp only[aM] at this;omega)).trans ((hE6.get _ (by simp only[aM];omega)).trans (ae h5 (.cells [.bool (decide (x % y<0)),s5] 0 none) rfl))
   have r8a:=bT g8a
   simp -dsimp (disch:=omega) only[wpS,wpT,zE,zL,zA,gR,g8b,o6]
   refine⟨ad rfl rfl rfl rfl (ai (av:=ptr (2*h3.n) 0) (v:=.agg #[.bool (decide (Q<0)),sq]) rfl ?_ ?_),?_⟩
   ·simp -dsimp (disch:=omega) only[wpS,wpT,zL,zA,cg,r8',List.drop_zero,ed]
   ·simp -dsimp (disch:=omega) only[wpS,wpT,zL,zA,cg,r8a,List.drop_zero,ed]
   simp -dsimp (disch:=omega) only[wpS,wpT,zA]
   have k7:=(aK.refl h7).put g8b (.cells [.bool (decide (x / y<0)),s6] 0 none)
   have x7:Ext h1 (h5.put (h3.n+1) (.cells [.bool (decide (x % y<0)),s5] 0 none)):=(x14.trans hE5).put (by omega) _
   have n7:=hE6.n
   have n8:=hE7.n
   simp only[aM] at n7
   refine⟨s6,s5,((x7.trans hE6).trans hE7).put (by omega) _,by simp only[aM];omega,ae _ _ rfl,by rw[ak _ _ (by omega)];exact g9b,hq6.aa k7,ht5.aa ((kp5.trans (hE6.trans hE7).aa).trans k7),?_,?_,?_,?_⟩<;>simp
  ·simp only[decide_eq_false_iff_not] at hby
   refine drawn [(0,[2])] (by kernel_rfl) (by kernel_rfl) rfl ?_
   simp -dsimp (disch:=omega) only[wpS,wpT,zE,zL,zA,cg,r8',List.drop_zero,ed]
   refine call (oO 1 ⟨by omega,by omega⟩) ?_
   rintro o1 h6 ⟨hE6,ho1⟩
   simp -dsimp (disch:=omega) only[wpS,zE]
   refine call (HN (hQ0.aa ((hE5.aa.trans kp5).trans hE6.aa)) ho1 sQ (jm (El))) ?_
   rintro q6 h7 ⟨hE7,hq6⟩
   rw[show Q - 1=x / y by rw[←b1];simp only[hby,if_false]<;>omega] at hq6
   obtain⟨s6,_,rfl,c6,o6,_,_⟩:=hq6.form
   have g8a:=(hE6.get _ (by simp only[aM];omega)).trans ((ak h5 (.cells [.bool (decide (x % y<0)),s5] 0 none) (show h3.n≠h3.n+1 by omega)).trans g8')
   have g8b:=(hE7.get _ (by have:=hE6.n;simp only[aM] at this;omega)).trans g8a
   have g9b:=(hE7.get (h3.n+1) (by have:=hE6.n;simp only[aM] at this;omega)).trans ((hE6.get _ (by simp only[aM];omega)).trans (ae h5 (.cells [.bool (decide (x % y<0)),s5] 0 none) rfl))
   have r8a:=bT g8a
   simp -dsimp (disch:=omega) only[wpS,wpT,zE,zL,zA,gR,g8b,o6]
   refine⟨ad rfl rfl rfl rfl (ai (av:=ptr (2*h3.n) 0) (v:=.agg #[.bool (decide (Q<0)),sq]) rfl ?_ ?_),?_⟩
   ·simp -dsimp (disch:=omega) only[wpS,wpT,zL,zA,cg,r8',List.drop_zero,ed]
   ·simp -dsimp (disch:=omega) only[wpS,wpT,zL,zA,cg,r8a,List.drop_zero,ed]
   simp -dsimp (disch:=omega) only[wpS,wpT,zA]
   have k7:=(aK.refl h7).put g8b (.cells [.bool (decide (x / y<0)),s6] 0 none)
   have x7:Ext h1 (h5.put (h3.n+1) (.cells [.bool (decide (x % y<0)),s5] 0 none)):=(x14.trans hE5).put (by omega) _
   have n7:=hE6.n
   have n8:=hE7.n
   simp only[aM] at n7
   refine⟨s6,s5,((x7.trans hE6).trans hE7).put (by omega) _,by simp only[aM];omega,ae _ _ rfl,by rw[ak _ _ (by omega)];exact g9b,hq6.aa k7,ht5.aa ((kp5.trans (hE6.trans hE7).aa).trans k7),?_,?_,?_,?_⟩<;>simp
 ·have hb' : ¬R<0:=by simpa using hb
  obtain⟨b1,b2⟩:=pa hb'
  simp -dsimp (disch:=omega) only[wpS,wpT]
  subst b1;subst b2
  exact⟨sq,st,x14,by omega,g8,g9,hQ0,hR0,by simp⟩
 rintro fr2 h5 ⟨sq,st,x5,n6,k8,k9,hQ,hR,f4,f5,f8,f9⟩
 have k2:=(x5.get _ (by omega)).trans g2
 have k3:=(x5.get _ (by omega)).trans g3
 have q8:=bT k8
 have q9:=bT k9
 obtain⟨s8,n8,e8,c8,o8,_,_⟩:=hQ.form
 obtain⟨s9,n9,e9,c9,o9,_,_⟩:=hR.form
 cases e8
 cases e9
 rw[kX]
 refine drawn [(1,[3])] (by kernel_rfl) (by kernel_rfl) rfl ?_
 simp -dsimp (disch:=omega) only[wpS,wpT,zE,zL,zA,gR,cg,f4,f5,f8,f9,q8,q9,k2,k3,o8,o9,List.drop_zero,ed]
 have k5:=(aK.refl h5).put k2 (.cells [.bool (decide (x / y<0)),sq] 0 none)
 have k3':(h5.put (h.n+1+1) (.cells [.bool (decide (x / y<0)),sq] 0 none)).ext.get (h.n+1+1+1)=some (.cells [.bool false,.slice none 0 0] 0 none):=by rw[ak _ _ (by omega)];exact k3
 have k6:=k5.put k3' (.cells [.bool (decide (x % y<0)),st] 0 none)
 refine⟨ad rfl rfl rfl rfl (ai (av:=ptr (2*(h3.n+1)) 0) (v:=.agg #[.bool (decide (x % y<0)),st]) ?_ ?_ ?_),?_⟩
 ·simp -dsimp (disch:=omega) only[wpS,zE,f9]
 ·simp -dsimp (disch:=omega) only[wpS,wpT,zL,zA,cg,q9,List.drop_zero,ed]
 ·simp -dsimp (disch:=omega) only[wpS,wpT,zL,zA,cg,q9,List.drop_zero,ed]
 simp -dsimp (disch:=omega) only[wpS,wpT,zE,zL,zA,cg,f4,f5,List.drop_zero,ed]
 exact⟨((x1.trans x5).put (by omega) _).put (by omega) _,_,_,rfl,hQ.aa k6,hR.aa k6⟩
variable {ds:List Nat}
def oF (n:B.Norm ds) (h:Small (B.ao ds)):ds.length≤1000000:=by
 refine n.MG (Nat.lt_of_lt_of_le h.lt ?_)
 exact Hj 4294967296 18446744073709551616 1000000 (by decide)
def M4 (n:B.Norm ds) (h:uI (B.ao ds)):ds.length≤500000:=by
 refine n.MG (Nat.lt_of_lt_of_le h.lt ?_)
 exact Hj 4294967296 18446744073709551616 500000 (by decide)
abbrev ZL:List Value:=[.bool false,.slice none 0 0]
variable {v:Value}{h:IH}{z:Int}
def mD (hv:a9 h v z):WV prog (.func (.func 236) #[] #[]) [v] h fun r h'=>Ext h h'∧a9 h' r (-z):=by
 obtain⟨s,rfl,ds,hD,hN,hx⟩:=hv
 refine enter (nt:=9) (rs:=[.cell 2 135]) Proofs.Tryz.func236 rfl rfl rfl (by simp) ?_
 simp -dsimp (disch:=try exact dx) only[wpS,zE,jI,iU,ld4,jH,rD]
 refine call (fT (hD.aa (((aK.refl h).new _).new _)) _) ?_
 rintro r h1 ⟨hE,h2⟩
 have hz:(if (!decide (z<0))=true then -(B.ao ds:Int) else B.ao ds) = -z:=by
  by_cases h0:z<0<;>simp[h0]<;>omega
 rw[hz] at h2
 obtain⟨s1,n1,rfl,c1,o1,_,_⟩:=h2.form
 have n1:=(hE).n;try simp only[aH] at n1
 have hg:h1.ext.get (h.n+1)=some (.cells ZL 0 none):=by rw[hE.get _ (by simp)];simp (disch:=try exact dx) only[ah]
 simp -dsimp (disch:=try exact dx) only[wpS,wpT,zE,zL,zA,gH,bR,hg,o1]
 exact⟨((((Ext.refl h).new _).new _).trans hE).put (by omega) _,h2.aa ((aK.refl _).put hg _)⟩
variable {y x:Int}{w:Value}
def qY (hv:a9 h v x) (hw:a9 h w y) (sx:aX x) (sy:aX y) :
  WV prog (.func (.func 187) #[] #[]) [v,w] h fun r h'=>Ext h h'∧a9 h' r (x+y):=by
 obtain⟨s,rfl,a,ha,na,hx⟩:=hv
 obtain⟨t,rfl,b,hb,nb,hy⟩:=hw
 have la:a.length≤1000000:=oF na (by rw[hx];exact sx)
 have lb:b.length≤1000000:=oF nb (by rw[hy];exact sy)
 refine enter (nt:=34) (rs:=[.cell 4 135]) Proofs.Tryz.func187 rfl rfl rfl (by simp) ?_
 simp -dsimp (disch:=try exact dx) only[wpS,zE,zA,jI,iU,ld4,be4]
 have ee : ∀o1 o2 o3,Ext h (((h.new o1).new o2).new o3):=fun o1 o2 o3=>(((Ext.refl h).new _).new _).new _
 refine au (fun hc=>?_) (fun hc=>?_)
 ·have hc:(x<0↔y<0):=by simpa using hc
  simp -dsimp (disch:=try exact dx) only[wpS]
  refine drawn [(1,[7])] (by kernel_rfl) (by kernel_rfl) rfl ?_
  simp -dsimp (disch:=try exact dx) only[wpS,zE,iU,ld4,jH,rD]
  refine call (TJ (ha.aa (ee _ _ _).aa) (hb.aa (ee _ _ _).aa) (by omega) (by omega)) ?_
  rintro r h1 ⟨hE,os,hD,ng⟩
  simp -dsimp (disch:=try exact dx) only[wpS,zE]
  refine call (fT hD _) ?_
  rintro r2 h2 ⟨hE2,hr⟩
  have hz:(if decide (x<0)=true then -(B.ao os:Int) else B.ao os)=x+y:=by
   by_cases h0:x<0<;>simp[h0]<;>omega
  rw[hz] at hr
  obtain⟨s1,n1,rfl,c1,o1,_,_⟩:=hr.form
  have m1:=(hE).n;try simp only[aH] at m1
  have m2:=(hE2).n;try simp only[aH,aM] at m2
  have hg:h2.ext.get (h.n+1+1)=some (.cells ZL 0 none):=by rw[hE2.get _ (by omega),hE.get _ (by simp)];simp (disch:=try exact dx) only[ah]
  have hr0:h1.row (2*h.n)=some [.bool (decide (x<0)),s]:=by
   rw[hE.row (by simp<;>omega)];simp -dsimp (disch:=try exact dx) only[wpS]
  simp -dsimp (disch:=try exact dx) only[wpS,wpT,zE,zL,zA,gH,hg,o1]
  refine⟨ad rfl rfl rfl rfl (ai (av:=ptr (2*h.n) 0) (v:=.bool (decide (x<0))) rfl ?_ ?_),?_⟩
  ·simp -dsimp (disch:=try exact dx) only[wpS,ld4]
  ·simp -dsimp (disch:=try exact dx) only[wpS,ld4,hr0]
  ·simp -dsimp (disch:=try exact dx) only[wpS,wpT,zE,zL,zA,bR]
   exact⟨(((ee _ _ _).trans hE).trans hE2).put (by omega) _,hr.aa ((aK.refl _).put hg _)⟩
 ·have hc : ¬(x<0↔y<0):=by simpa using hc
  simp -dsimp (disch:=try exact dx) only[wpS,zE,jH,rD]
  refine call (yu (ha.aa (ee _ _ _).aa) (hb.aa (ee _ _ _).aa) na nb) ?_
  rintro r h1 ⟨rfl,c,rfl,hc1,hc2,hc3,hc4⟩
  simp -dsimp (disch:=try exact dx) only[wpS,zE]
  refine fB (fun fr2 h4 => ∃(p q:Int) (sp sq:Value) (ps qs:List Nat),Ext h h4∧h.n+3≤h4.n∧h4.ext.get h.n=some (.cells [.bool (decide (p<0)),sp] 0 none)∧h4.ext.get (h.n+1)=some (.cells [.bool (decide (q<0)),sq] 0 none)∧h4.ext.get (h.n+1+1)=some (.cells ZL 0 none) ∧
   il h4 sp ps∧il h4 sq qs∧B.Norm ps∧B.Norm qs∧B.ao ps=p.natAbs∧B.ao qs=q.natAbs∧q.natAbs≤p.natAbs∧p+q=x+y ∧ ¬(p<0↔q<0)∧ab fr2 2=some (ptr (2*h.n) 0)∧ab fr2 3=some (ptr (2*(h.n+1)) 0)∧ab fr2 4=some (ptr (2*(h.n+1+1)) 0)) (fun hc5=>?_) (fun hc5=>?_) ?_
  ·simp only[decide_eq_true_eq] at hc5
   simp -dsimp (disch:=try exact dx) only[wpS,wpT,zE,zL,zA,gH,bR,List.drop_zero,ed,ha.1.cok,hb.1.cok]
   have g0:(((h.new (.cells [.bool (decide (x<0)),s] 0 none)).new (.cells [.bool (decide (y<0)),t] 0 none)).new (.cells [.bool false,.slice none 0 0] 0 none)).ext.get h.n=some (.cells [.bool (decide (x<0)),s] 0 none):=by simp (disch:=try exact dx) only[ah,aq]
   have g1:((((h.new (.cells [.bool (decide (x<0)),s] 0 none)).new (.cells [.bool (decide (y<0)),t] 0 none)).new (.cells [.bool false,.slice none 0 0] 0 none)).put h.n (.cells [.bool (decide (y<0)),t] 0 none)).ext.get (h.n+1)=some (.cells [.bool (decide (y<0)),t] 0 none):=by simp (disch:=try exact dx) only[ah,aq,ak]
   have kp:=((ee _ _ _).aa.put g0 (.cells [.bool (decide (y<0)),t] 0 none)).put g1 (.cells [.bool (decide (x<0)),s] 0 none)
   refine⟨y,x,t,s,b,a,((ee _ _ _).put (Nat.le_refl _) _).put (by omega) _,by simp<;>omega,by simp (disch:=try exact dx) only[ae,ak],by simp (disch:=try exact dx) only[ae],by simp (disch:=try exact dx) only[ah,ak],hb.aa kp,ha.aa kp,nb,na,hy,hx,by omega,by omega,by omega,by simp,by simp,by simp⟩
  ·simp only[decide_eq_false_iff_not] at hc5
   simp -dsimp (disch:=try exact dx) only[wpS,wpT]
   exact⟨x,y,s,t,a,b,ee _ _ _,by simp<;>omega,by simp (disch:=try exact dx) only[ah,aq],by simp (disch:=try exact dx) only[ah,aq],by simp (disch:=try exact dx) only[ah],ha.aa (ee _ _ _).aa,hb.aa (ee _ _ _).aa,na,nb,hx,hy,by omega,rfl,hc,by simp,by simp,by simp⟩
  rintro fr h4 ⟨p,q,sp,sq,ps,qs,hE4,hn4,g0,g1,g2,hp,hq,np,nq,vp,vq,hle,Ig,hsg,f2,f3,f4⟩
  have r0:=bT g0
  have r1:=bT g1
  rw[kX]
  refine drawn [(1,[7])] (by kernel_rfl) (by kernel_rfl) rfl ?_
  simp -dsimp (disch:=omega) only[wpS,zE,iU,ld4,jH,rD,f2,f3,r0,r1]
  refine call (GF hp hq nq (by omega)) ?_
  rintro r h5 ⟨hE5,os,rfl,hD,ng⟩
  simp -dsimp (disch:=omega) only[wpS,zE]
  refine call (fT hD _) ?_
  rintro r2 h6 ⟨hE6,hr⟩
  have hz:(if decide (p<0)=true then -(B.ao os:Int) else B.ao os)=x+y:=by
   by_cases h0:p<0<;>simp[h0]<;>omega
  rw[hz] at hr
  obtain⟨s1,n1,rfl,c1,o1,_,_⟩:=hr.form
  have m1:=(hE5).n;try simp only[aH,aM] at m1
  have m2:=(hE6).n;try simp only[aH,aM] at m2
  have hg:h6.ext.get (h.n+1+1)=some (.cells ZL 0 none):=by rw[hE6.get _ (by omega),hE5.get _ (by omega)];exact g2
  have hr0:h5.row (2*h.n)=some [.bool (decide (p<0)),sp]:=bT ((hE5.get _ (by omega)).trans g0)
  simp -dsimp (disch:=omega) only[wpS,wpT,zE,zL,zA,gH,f4,hg,o1]
  refine⟨ad rfl rfl rfl rfl (ai (av:=ptr (2*h.n) 0) (v:=.bool (decide (p<0))) ?_ ?_ ?_),?_⟩
  ·simp -dsimp (disch:=omega) only[wpS]
  ·simp -dsimp (disch:=omega) only[wpS,ld4,r0]
  ·simp -dsimp (disch:=omega) only[wpS,ld4,hr0]
  ·simp -dsimp (disch:=omega) only[wpS,wpT,zE,zL,zA,bR,f4]
   exact⟨((hE4.trans hE5).trans hE6).put (by omega) _,hr.aa ((aK.refl _).put hg _)⟩
def CJ (hv:a9 h v x) (hw:a9 h w y) (sx:aX x) (sy:aX y) :
  WV prog (.func (.func 242) #[] #[]) [v,w] h fun r h'=>Ext h h'∧a9 h' r (x - y):=by
 obtain⟨s,n1,rfl,c1,o1,l1,z1⟩:=hv.form
 obtain⟨t,n2,rfl,c2,o2,l2,z2⟩:=hw.form
 refine enter (nt:=9) (rs:=[.cell 4 135]) Proofs.Tryz.func242 rfl rfl rfl (by simp) ?_
 simp -dsimp (disch:=try exact dx) only[wpS,zE,zA,jI]
 have ee : ∀o1 o2 o3,Ext h (((h.new o1).new o2).new o3):=fun o1 o2 o3=>(((Ext.refl h).new _).new _).new _
 refine drawn [(0,[3])] (by kernel_rfl) (by kernel_rfl) rfl ?_
 simp -dsimp (disch:=try exact dx) only[wpS,wpT,zE,zL,zA,bR]
 refine call (mD (hw.aa (ee _ _ _).aa)) ?_
 rintro r h1 ⟨hE,hT⟩
 simp -dsimp (disch:=try exact dx) only[wpS,zE]
 refine call (qY (hv.aa ((ee _ _ _).trans hE).aa) hT sx (by rw[aX,Int.natAbs_neg];exact sy)) ?_
 rintro r2 h2 ⟨hE2,hr⟩
 obtain⟨s1,n3,rfl,c3,o3,l3,z3⟩:=hr.form
 have m1:=(hE).n;try simp only[aH] at m1
 have m2:=(hE2).n;try simp only[aH,aM] at m2
 have hg:h2.ext.get (h.n+1+1)=some (.cells ZL 0 none):=by rw[hE2.get _ (by omega),hE.get _ (by simp)];simp (disch:=try exact dx) only[ah]
 have hr0:h1.row (2*h.n)=some [.bool (decide (x<0)),s]:=by
  rw[hE.row (by simp<;>omega)];simp -dsimp (disch:=try exact dx) only[wpS]
 simp -dsimp (disch:=try exact dx) only[wpS,wpT,zE,zL,zA,gH,hg,o3]
 refine⟨ad rfl rfl rfl rfl (ai (av:=ptr (2*h.n) 0) (v:=.agg #[.bool (decide (x<0)),s]) rfl ?_ ?_),?_⟩
 ·simp -dsimp (disch:=try exact dx) only[wpS,wpT,zL,zA,bR]
  rfl
 ·simp -dsimp (disch:=omega) only[wpS,wpT,zL,zA,bR,hr0]
  rfl
 ·simp -dsimp (disch:=omega) only[wpS,wpT,zE,zL,zA,bR]
  refine⟨(((ee _ _ _).trans hE).trans hE2).put (by omega) _,?_⟩
  have:x + -y=x - y:=by omega
  rw[this] at hr ⊢
  exact hr.aa ((aK.refl _).put hg _)
def gD (hv:a9 h v x) (hw:a9 h w y) (sx:DP x) (sy:DP y) :
  WV prog (.func (.func 104) #[] #[]) [v,w] h fun r h'=>Ext h h'∧a9 h' r (x*y):=by
 obtain⟨s,rfl,ds,hD,hN,hx⟩:=hv
 obtain⟨t,rfl,es,hE,hM,hy⟩:=hw
 have l1:ds.length≤500000:=M4 hN (by rw[hx];exact sx)
 have l2:es.length≤500000:=M4 hM (by rw[hy];exact sy)
 refine enter (nt:=16) (rs:=[.cell 4 135]) Proofs.Tryz.func104 rfl rfl rfl (by simp) ?_
 simp -dsimp (disch:=try exact dx) only[wpS,zE,zA,jI]
 have kk : ∀o1 o2 o3,Ext h (((h.new o1).new o2).new o3):=fun o1 o2 o3=>(((Ext.refl h).new _).new _).new _
 refine drawn [(1,[10]),(3,[10])] (by kernel_rfl) (by kernel_rfl) rfl ?_
 simp -dsimp (disch:=try exact dx) only[wpS,zE,iU,ld4,bn4,jH,rD,wC]
 refine call (BY (hD.aa (kk _ _ _).aa) (hE.aa (kk _ _ _).aa) (by omega)) ?_
 rintro r h1 ⟨hE1,os,hO,hOv⟩
 simp -dsimp (disch:=try exact dx) only[wpS,zE]
 refine call (fT hO _) ?_
 rintro r2 h2 ⟨hE2,hr⟩
 rw[hOv,hx,hy,sign_mul] at hr
 obtain⟨s3,n3,rfl,c3,o3,_,_⟩:=hr.form
 have m1:=(hE1).n;try simp only[aH] at m1
 have m2:=(hE2).n;try simp only[aH,aM] at m2
 have hg:h2.ext.get (h.n+1+1)=some (.cells ZL 0 none):=by
  rw[hE2.get _ (by omega),hE1.get _ (by simp)];exact ah _ _ rfl
 have r0:h1.row (2*h.n)=some [.bool (decide (x<0)),s]:=by rw[hE1.row (by simp<;>omega)];simp -dsimp (disch:=try exact dx) only[wpS]
 have r1:h1.row (2*(h.n+1))=some [.bool (decide (y<0)),t]:=by rw[hE1.row (by simp<;>omega)];simp -dsimp (disch:=try exact dx) only[wpS]
 simp -dsimp (disch:=try exact dx) only[wpS,wpT,zE,zL,zA,gH,hg,o3]
 refine⟨kA (ad rfl rfl rfl rfl (ai (av:=ptr (2*h.n) 0) (v:=.bool (decide (x<0))) rfl ?_ ?_)) (ad rfl rfl rfl rfl (ai (av:=ptr (2*(h.n+1)) 0) (v:=.bool (decide (y<0))) rfl ?_ ?_)),?_⟩
 ·simp -dsimp (disch:=try exact dx) only[wpS,ld4]
 ·simp -dsimp (disch:=try exact dx) only[wpS,ld4,r0]
 ·simp -dsimp (disch:=try exact dx) only[wpS,ld4]
 ·simp -dsimp (disch:=omega) only[wpS,ld4,r1]
 simp -dsimp (disch:=omega) only[wpS,wpT,zE,zL,zA,bR]
 exact⟨(((kk _ _ _).trans hE1).trans hE2).put (by omega) _,hr.aa ((aK.refl _).put hg _)⟩
def mE (hv:a9 h v z):WV prog (.func (.func 92) #[] #[]) [v] h fun r h'=>Ext h h'∧r=KI (if z<0 then -1 else if z=0 then 0 else 1):=by
 obtain⟨s,n1,rfl,c1,o1,l1,z1⟩:=hv.form
 refine enter (nt:=11) (rs:=[.tmp 2]) Proofs.Tryz.func92 rfl rfl rfl (by simp) ?_
 simp -dsimp (disch:=omega) only[wpS,zE,iU,ld4]
 refine au ?_ ?_<;>intro hc<;>simp only[decide_eq_true_eq,decide_eq_false_iff_not] at hc
 ·simp -dsimp (disch:=omega) only[wpS,wpT,zE]
  refine⟨(Ext.refl h).new _,?_⟩
  rw[if_pos hc]
 ·simp -dsimp (disch:=omega) only[wpS,wpT,zE,jH,rD,l1 fE]
  refine au ?_ ?_<;>intro hc2<;>simp only[beq_iff_eq,beq_eq_false_iff_ne,ne_eq] at hc2
  ·simp -dsimp (disch:=omega) only[wpS,wpT,zE]
   refine⟨(Ext.refl h).new _,?_⟩
   rw[if_neg (by omega),if_pos (by omega)]
  ·simp -dsimp (disch:=omega) only[wpS,wpT]
   refine⟨(Ext.refl h).new _,?_⟩
   rw[if_neg (by omega),if_neg (by omega)]
def EG (hv:a9 h v x) (hw:a9 h w y) (sx:aX x) (sy:aX y) :
  WV prog (.func (.func 190) #[] #[]) [v,w] h fun r h'=>Ext h h'∧r=KI (if x<y then -1 else if x=y then 0 else 1):=by
 obtain⟨s,n1,rfl,c1,o1,l1,z1⟩:=hv.form
 obtain⟨t,n2,rfl,c2,o2,l2,z2⟩:=hw.form
 refine enter (nt:=9) (rs:=[.tmp 4]) Proofs.Tryz.func190 rfl rfl rfl (by simp) ?_
 simp -dsimp (disch:=try exact dx) only[wpS,wpT,zE,zL,zA,bR]
 have e2 : ∀o1 o2,Ext h ((h.new o1).new o2):=fun o1 o2=>((Ext.refl h).new _).new _
 refine call (CJ (hv.aa (e2 _ _).aa) (hw.aa (e2 _ _).aa) sx sy) ?_
 rintro r h1 ⟨hE,hr⟩
 simp -dsimp (disch:=omega) only[wpS,zE]
 refine call (mE hr) ?_
 rintro _ h2 ⟨hE2,rfl⟩
 simp -dsimp (disch:=omega) only[wpS,zE]
 refine⟨((e2 _ _).trans hE).trans hE2,?_⟩
 congr 1
 split<;>split<;>(try split)<;>(try split)<;>omega
end Go.Id
namespace Go.Id
open Go
theorem V4 (n:Int):IntKind.i64.wrap n=(n+9223372036854775808) % 18446744073709551616 - 9223372036854775808:=by
 have e:IntKind.i64.wrap n=if decide (n % 18446744073709551616 ≥ 9223372036854775808)=true then n % 18446744073709551616 - 18446744073709551616 else n % 18446744073709551616:=by
  simp[IntKind.wrap,IntKind.bits,IntKind.signed]
 rw[e]
 split<;>simp at * <;> omega
end Go.Id

/-
  Contracts: the program's long integers: numbers of bits, products by powers of 2, quotient
-/
import Derived.Test.YtnnmjocmapilaaaGreatTemperRoundsAl
set_option linter.unusedVariables false
set_option linter.unusedSimpArgs false
set_option linter.defProp false
set_option linter.deprecated false
namespace Go.Id
open Go
open Go renaming Operand→QY,Program→QX,TypeId→QZ,Value→QQ
open Nat renaming reduceAdd→zA,reduceEqDiff→zE,reduceLeDiff→zL
open Nat (reduceMul)
set_option maxHeartbeats 16000000
open Go.Proofs.Tryz (prog)
section
variable {h:IH}
def N2 {P:Program} {fn:FuncId} {nt:Nat} {rd:Option Nat} {a c:Code} {fr:Fr} {Q:dL→Fr→IH→Prop} {b:Bool} (R:Fr→IH→Prop)(h1:b=true→Do (wpC P fn nt rd a fr h) (rL (fun fr h=>Pst (R fr h) nx) Q) nx) (h2:b=false→Do (wpC P fn nt rd c fr h) (rL (fun fr h=>Pst (R fr h) nx) Q) nx) (k : ∀fr h,R fr h→Q .normal fr h) :
  Bq b (Do (wpC P fn nt rd a fr h) Q nx,Do (wpC P fn nt rd c fr h) Q nx) nx:=by
 have e:Q=rL (Q .normal) Q:=by funext e fr h;cases e<;>rfl
 refine aG (fun hb=>?_) fun hb=>?_;·rw[e];exact cut R (h1 hb) k
 ·rw[e];exact cut R (h2 hb) k
def Yg (x k:Nat):Prop:=(x=0→k=0)∧(x≠0→0<k∧2 ^ (k - 1)≤x∧x<2 ^ k)
variable {v:QQ}{ds:List Nat}
def Fu (hd:kT h v ds) (n:B.Norm ds):WV prog (.func (.func 259) #[] #[]) [v] h fun r h'=>h'=h ∧ ∃k:Nat,r=KN k∧k≤64*ds.length∧Yg (B.aM ds) k:=by
 have hb:=hd.2.2;have hz:=n.ow;refine enter (nt:=17) (rs:=[.tmp 2]) Proofs.Tryz.func259 rfl rfl rfl ab ?_;simp -dsimp (disch:=try exact dx) only[wpS,zE,hd.1.len jm];refine aG ?_ ?_<;>intro hc<;>simp only[bT,zu,ne_eq] at hc
 ·have h0:ds = []:=jK.1 aa;simp -dsimp (disch:=try exact dx) only[wpS,wpT,zE];exact⟨0,rfl,aa,fun _=>rfl,fun hne=>absurd (hz.2 h0) hne⟩
 ·obtain⟨m,hm⟩ : ∃m,ds.length=m+1:=⟨ds.length - 1,aa⟩
  have hne:ds.getD m 0≠0:=by
   rcases n with rfl|hn;·simp at hm
   ·rwa [hm,Cc] at hn
  have dl:=B.cK hd.2.1 m;have gm:=get_some (show m<ds.length by omega);have e1:(ds.length:Int) - 1=(m:Int):=aa;simp -dsimp (disch:=try exact dx) only[wpS,wpT,zE,hd.1.len jm,e1,hd.1.idx jY (show m<ds.length by omega),hd.1.ld (bj.refl _) (P:=prog) (t:=28) (c:=m) bd uf,dF,gm];refine call (VL (ds.getD m 0) aa dl) ?_;rintro _ _ ⟨rfl,s,rfl,hs,_,_,h1,h2⟩;have e2:(64:Int)*(ds.length:Int) - (s:Int)=((64*m+(63 - s)+1:Nat):Int):=aa;have VY:=B.U8 (k:=63 - s) hd.2.1 hm h1 (by rw[show 63 - s+1=64 - s by omega];exact h2);simp -dsimp (disch:=try exact dx) only[wpS,wpT,zE,e2];refine⟨64*m+(63 - s)+1,rfl,aa,fun h0=>?_,fun _=>⟨aa,?_,VY.2⟩⟩;·have:=hz.1 h0;rw[this] at hm;simp at hm
  ·rw[Cc];exact VY.1
def Rk (hd:kT h v ds) (k:Nat) (hk:ds.length+k / 64+1≤1100000):WV prog (.func (.func 260) #[] #[]) [v,KN k] h fun r h'=>Ext h h'∧Wrd h' r (B.aM ds*2 ^ k):=by
 obtain⟨m,hm⟩ : ∃m,m=k / 64:=⟨_,rfl⟩;obtain⟨s,hs⟩ : ∃s,s=k % 64:=⟨_,rfl⟩;have eM:(k:Int) / 64=(m:Int):=aa;have eS:(k:Int) % 64=(s:Int):=aa;have s64:s<64:=aa;have hk2:k=64*m+s:=aa;rw[←hm] at hk;have eL:(ds.length:Int)+(m:Int)+1=((ds.length+m+1:Nat):Int):=aa;refine enter (nt:=54) (rs:=[.tmp 4]) Proofs.Tryz.func260 rfl rfl rfl ab ?_;simp -dsimp (disch:=try exact dx) only[wpS,wpT,zE,zA,Ja,hd.1.len jm,eM,eL];refine loop (fun j fr h1 => ∃(i:Nat) (os:List Nat),i+j=ds.length∧Ext h h1∧h.n<h1.n∧h1.ext.get h.n=some (.cells (os.map K64) 1 none)∧os.length=ds.length+m+1∧B.dh os∧B.aM os=B.bm ds i*2 ^ k∧os.getD (i+m) 0<2 ^ s∧(∀j,i+m<j→os.getD j 0=0) ∧ax fr 1=some (KN k)∧ax fr 5=some (.slice (some ⟨2*h.n,0,none⟩) (ds.length+m+1) (2*(ds.length+m+1)+1))∧ax fr 15=some v∧ax fr 16=some (KN ds.length)∧ax fr 17=some (KN i)) ds.length ⟨0,List.replicate (ds.length+m+1) 0,aa,(Ext.refl h).new _,ab,by rw[ar _ _ rfl,rM];rfl,ab,B.dh.de _,by rw[B.nQ];simp[B.bm],by rw[B.oe];exact gM aa,fun k _=>B.oe _ _,ab,ab,ab,ab,ab⟩ ?_;rintro j fr h1 ⟨i,os,him,hE,hn,hg,hol,hod,hov,hot,hoz,f1,f5,f15,f16,f17⟩;simp -dsimp (disch:=try exact dx) only[wpS,f16,f17];refine aG ?_ ?_<;>intro hc<;>simp only[aS,aV] at hc
 ·have hi:i<ds.length:=aa;have dx:=B.cK hd.2.1 i;have gx:=get_some hi;have hr:h1.row (2*h.n)=some (os.map K64):=cJ hg;have go:=get_some (show i+m<os.length by omega);obtain⟨x,hx⟩ : ∃x,x=ds.getD i 0:=⟨_,rfl⟩;obtain⟨o,ho⟩ : ∃o,o=os.getD (i+m) 0:=⟨_,rfl⟩;rw[←hx] at gx dx;rw[←ho] at go hot;have gor:(os.map K64)[i+m]?=some (K64 o):=by rw[dM,go];rfl
  have eI:(i:Int)+(m:Int)=((i+m:Nat):Int):=aa;obtain⟨y,hy⟩ : ∃y,y=x*2 ^ s % 18446744073709551616:=⟨_,rfl⟩;have hyl:y<18446744073709551616:=aa;have hor:o ||| y=o+y:=B.Uh hot (by rw[hy];exact B.TU x s64);have Js:o+y<18446744073709551616:=by rw[←hor];exact Nat.or_lt_two_pow (n:=64) (cB hot (fA aa aa)) hyl
  have eY:x*2 ^ s % 18446744073709551616=y:=hy.symm;obtain⟨z,hz⟩ : ∃z,z=x / 2 ^ (64 - s):=⟨_,rfl⟩;have hzl:z<2 ^ s:=by rw[hz];exact B.EZ dx aa
  have Xc:y+z*18446744073709551616=x*2 ^ s:=by rw[hy,hz];exact B.Fa dx s64
  have spl:=mU (o+y) (show i+m<os.length by omega);have tF:B.aM (os.set (i+m) (o+y))=B.aM os+y*18446744073709551616 ^ (i+m):=by have:=B.lM (o+y) (show i+m<os.length by omega);rw[←ho,dA] at this;omega
  have Xj:B.bm ds (i+1)*2 ^ k=B.bm ds i*2 ^ k+(y*18446744073709551616 ^ (i+m)+z*18446744073709551616 ^ (i+1+m)):=by
   have e1:18446744073709551616 ^ (i+1+m)=18446744073709551616*18446744073709551616 ^ (i+m):=by rw[show i+1+m=(i+m)+1 by omega,eH,gE]
   have e2:2 ^ k=18446744073709551616 ^ m*2 ^ s:=by rw[B.uJ,←dT,hk2]
   have e3:y*(18446744073709551616 ^ i*18446744073709551616 ^ m)+z*(18446744073709551616*(18446744073709551616 ^ i*18446744073709551616 ^ m))=(y+z*18446744073709551616)*(18446744073709551616 ^ i*18446744073709551616 ^ m):=by rw[dA,w9]
   rw[B.bm,←hx,e1,e2,dT,e3,Xc,dA];congr 1;ac_rfl
  have gx':=gx;simp -dsimp (maxSteps:=1000000) (disch:=first|omega|(simp only[aH,aJ];omega)|decide +kernel|(repeat first|rw[aH]|rw[aJ])) only[wpS,wpT,zE,zL,jY,oa,rp,f1,f5,f15,f17,hd.1.idx jY hi,hd.1.ld hE.ai (P:=prog) (t:=28) (c:=i) (by simpa using hi) uf,dF,gx,hr,gor,eM,eS,eI,Vz,eY,hor,hg,spl,cz,hol];refine N2 (fun fr2 h2 => ∃os2:List Nat,Ext h h2∧h.n<h2.n∧h2.ext.get h.n=some (.cells (os2.map K64) 1 none)∧os2.length=ds.length+m+1∧B.dh os2∧B.aM os2=B.bm ds (i+1)*2 ^ k∧os2.getD (i+1+m) 0<2 ^ s∧(∀j,i+1+m<j→os2.getD j 0=0) ∧ax fr2 1=some (KN k)∧ax fr2 5=some (.slice (some ⟨2*h.n,0,none⟩) (ds.length+m+1) (2*(ds.length+m+1)+1))∧ax fr2 15=some v∧ax fr2 16=some (KN ds.length)∧ax fr2 17=some (KN i)) (fun hc=>?_) (fun hc=>?_) ?_
  ·simp only[aS] at hc
   have eJ:((i+m:Nat):Int)+1=((i+1+m:Nat):Int):=aa;have e64:(64:Int) - (s:Int)=((64 - s:Nat):Int):=aa;have eZ:qj x (64 - s)=z:=by rw[hz];exact kE _ _
   have hj2:i+1+m<(os.set (i+m) (o+y)).length:=by rw[dB];omega
   have hz0:(os.set (i+m) (o+y)).getD (i+1+m) 0=0:=by rw[B.fZ aa,ah aa];exact hoz _ aa
   have spl2:=mU z hj2;have hg2:(h1.put h.n (.cells ((os.set (i+m) (o+y)).map K64) 1 none)).ext.get h.n=some (.cells ((os.set (i+m) (o+y)).map K64) 1 none):=aj _ _ rfl;simp -dsimp (maxSteps:=1000000) (disch:=first|omega|(simp only[aH,aJ];omega)|decide +kernel|(repeat first|rw[aH]|rw[aJ])) only[wpS,wpT,zE,zL,jY,rp,f1,f5,eM,eS,eI,eJ,e64,eZ,hg2,spl2,cz,dB,hol];refine⟨(os.set (i+m) (o+y)).set (i+1+m) z,(hE.put (aA _) _).put (aA _) _,hn,aj _ _ rfl,by rw[dB,dB,hol],(hod.set _ Js).set _ (Nat.lt_trans hzl (by exact cB (sG aa s64) aa)),?_,?_,?_,by simp[f1],by simp[f5],by simp[f15],by simp[f16],by simp[f17]⟩;·have:=B.lM z hj2;rw[hz0,kf,gN] at this;rw[this,tF,hov,Xj,ma]
   ·rw[B.fZ hj2,aq rfl];exact hzl
   ·intro j hj;rw[B.fZ hj2,ah aa,B.fZ aa,ah aa];exact hoz _ aa
  ·simp only[aV] at hc
   have hs0:s=0:=aa;have hz0:z=0:=by rw[hs0] at hzl;omega
   simp -dsimp (disch:=try exact dx) only[wpS,wpT];refine⟨os.set (i+m) (o+y),hE.put (aA _) _,hn,aj _ _ rfl,by rw[dB,hol],hod.set _ Js,?_,?_,?_,by simp[f1],by simp[f5],by simp[f15],by simp[f16],by simp[f17]⟩;·rw[tF,hov,Xj,hz0,kf,gN]
   ·rw[B.fZ aa,ah aa,hoz _ aa];exact gM aa
   ·intro j hj;rw[B.fZ aa,ah aa];exact hoz _ aa
  ·clear hE hn hg hol hod hov hot hoz hr go gor ho hor Js spl tF Xj f1 f5 f15 f16 f17 gx gx';rintro fr2 h2 ⟨os2,hE,hn,hg,hol,hod,hov,hot,hoz,f1,f5,f15,f16,f17⟩;simp -dsimp (maxSteps:=1000000) (disch:=first|omega|(simp only[aH,aJ];omega)|decide +kernel|(repeat first|rw[aH]|rw[aJ])) only[wpS,f17];exact⟨j - 1,aa,i+1,os2,aa,hE,hn,hg,hol,hod,hov,hot,hoz,by simp[f1],by simp[f5],by simp[f15],by simp[f16],ab⟩
 ·obtain rfl:i=ds.length:=aa;have hW:kT h1 (.slice (some ⟨2*h.n,0,none⟩) (ds.length+m+1) (2*(ds.length+m+1)+1)) os:=by refine⟨?_,hod,aa⟩;rw[hol];exact fX hg hn aC (by rw[cz,hol];omega) aa aa
  simp -dsimp (disch:=try exact dx) only[wpS,wpT,zE,f5];refine call (jL hW false) ?_;rintro _ h2 ⟨hE2,sv,rfl,hw⟩;simp -dsimp (disch:=try exact dx) only[wpS,wpT,zE,zA,Hv,fJ];refine⟨hE.trans hE2,?_⟩;simp only[fJ,cE,jz] at hw;rw[hov,show B.bm ds ds.length=B.aM ds from rfl] at hw;exact hw
def Rr {r x d q0 r0 P B:Nat} (dm:d*q0+r0=r*B+x):r*(P*B)+x*P=d*(q0*P)+r0*P:=by
 have e:(d*q0+r0)*P=(r*B+x)*P:=by rw[dm]
 grind
def DH {w:QQ} {a b:List Nat} (ha:kT h v a) (hb:kT h w b) (na:B.Norm a) (nb:B.Norm b) (hb0:B.aM b≠0) (la:a.length≤1000000) (lb:b.length≤1000000) :WV prog (.func (.func 248) #[] #[]) [v,w] h fun r h'=>Ext h h' ∧ ∃q t,r=.tuple #[q,t]∧(∃qs,kT h' q qs∧B.aM qs=B.aM a / B.aM b)∧Wrd h' t (B.aM a % B.aM b):=by
 have hbz:=nb.ow;have hbl:0<b.length:=by apply pY;intro h0;exact hb0 (hbz.2 (jK.1 h0))
 refine enter (nt:=77) (rs:=[.tmp 4,.tmp 5]) Proofs.Tryz.func248 rfl rfl rfl ab ?_;simp -dsimp (disch:=try exact dx) only[wpS,zE,zA,Ja,ha.1.len jm,hb.1.len jm];refine aG ?_ ?_<;>intro hc<;>simp only[bT,zu,ne_eq] at hc
 ·have hb1:b.length=1:=aa;obtain⟨d,rfl⟩:=List.length_eq_one_iff.1 hb1;have hv:B.aM [d]=d:=by simp[B.aM,B.bm]
  rw[hv] at hb0 ⊢;have dd:d<18446744073709551616:=hb.2.1 d ab;simp -dsimp (disch:=try exact dx) only[wpS,wpT,zE,ha.1.len jm];refine loop (fun m fr h1 => ∃(r:Nat) (os:List Nat),m≤a.length∧Ext h h1∧h.n<h1.n∧h1.ext.get h.n=some (.cells (os.map K64) 1 none)∧os.length=a.length∧B.dh os∧r<d∧B.aM a=d*B.aM os+r*18446744073709551616 ^ m+B.bm a m∧(∀j,j<m→os.getD j 0=0) ∧ax fr 0=some v∧ax fr 1=some w∧ax fr 4=some (.slice (some ⟨2*h.n,0,none⟩) a.length (2*a.length+1))∧ax fr 6=some (K64 r)∧ax fr 7=some (KI ((m:Int) - 1))) a.length
   ⟨0,List.replicate a.length 0,aA _,(Ext.refl h).new _,ab,by rw[ar _ _ rfl,rM],ab,B.dh.de _,aa,by rw[B.nQ];simp[B.aM],fun k _=>B.oe _ _,ab,ab,ab,ab,ab⟩ ?_
  rintro m fr h1 ⟨r,os,hm,hE,hn,hg,hol,hod,hr,hva,hoz,f0,f1,f4,f6,f7⟩;rcases im m with rfl|hp
  ·simp -dsimp (disch:=try exact dx) only[wpS,wpT,zE,zL,zA,SZ,f4,f6,f7];have hbs:kT (h1.new (.cells [K64 r] 1 none)) (.slice (some ⟨2*h1.n,0,none⟩) 1 (2*1+1)) [r]:=⟨by simpa using oQ (h:=h1) (sz:=1) (m:=1) (cs:=[K64 r]) aa rfl aa,fun x hx=>by simp at hx;omega,ab⟩;refine call (jL hbs false) ?_;rintro _ h2 ⟨hE2,sv,rfl,hw⟩;simp -dsimp (disch:=try exact dx) only[wpS,wpT,zE,zA,Hv,fJ];have e3:=((Ext.refl h1).new (.cells [K64 r] 1 none)).trans hE2;simp only[fJ,cE,jz] at hw;have hv1:B.aM [r]=r:=by simp[B.aM,B.bm]
   rw[hv1] at hw;simp only[B.bm,sF,fI,gN] at hva;obtain⟨d1,d2⟩:B.aM os=B.aM a / d∧r=B.aM a % d:=by rw[hva,Nat.mul_add_mod,Nat.mul_add_div aa,mM hr,dR hr];exact⟨rfl,rfl⟩
   refine⟨hE.trans e3,_,_,rfl,⟨os,?_,d1⟩,by rw[←d2];exact hw⟩;refine kT.ai (h:=h1) ⟨?_,hod,aa⟩ e3.ai;rw[hol];exact fX hg hn aC (by rw[cz,hol];omega) aa aa
  ·obtain⟨k,rfl⟩ : ∃k,m=k+1:=⟨m - 1,aa⟩
   have e1:(((k+1:Nat):Int) - 1)=(k:Int):=aa;rw[e1] at f7;have dx:=B.cK ha.2.1 k;have gx:=get_some (show k<a.length by omega);have hr2:h1.row (2*h.n)=some (os.map K64):=cJ hg;rw[B.bm] at hva;obtain⟨x,hx⟩ : ∃x,x=a.getD k 0:=⟨_,rfl⟩;rw[←hx] at gx dx hva;have ib:indexAddr prog 133 w (.int .i64 0)=some (bq w 0):=by simpa using hb.1.Y6 (P:=prog) (t:=133) jY (k:=.i64) (i:=0) aa ab
   have lb0:load prog h1 28 (bq w 0)=some (K64 d):=hb.1.ld hE.ai (P:=prog) (t:=28) (c:=0) ab uf;simp -dsimp (maxSteps:=1000000) (disch:=first|omega|(simp only[aH,aJ];omega)|decide +kernel|(repeat first|rw[aH]|rw[aJ])) only[wpS,wpT,zE,f0,f1,f4,f6,f7,ha.1.idx jY (show k<a.length by omega),ha.1.ld hE.ai (P:=prog) (t:=28) (c:=k) bd uf,dF,gx,ib,lb0];refine call (Sv r x d hr dx dd) ?_;rintro _ h2 ⟨rfl,rfl⟩;have dm:=mN (r*18446744073709551616+x) d;have dl:=ec (r*18446744073709551616+x) (show 0<d by omega);have dq:(r*18446744073709551616+x) / d<18446744073709551616:=by rw[oT aa];have:(r+1)*18446744073709551616≤d*18446744073709551616:=dU _ hr;omega
   obtain⟨q0,hq0⟩ : ∃q,q=(r*18446744073709551616+x) / d:=⟨_,rfl⟩;obtain⟨r0,hr0⟩ : ∃q,q=(r*18446744073709551616+x) % d:=⟨_,rfl⟩;rw[←hq0] at dm dq ⊢;rw[←hr0] at dm dl ⊢;have spl:=mU q0 (show k<os.length by omega);simp -dsimp (maxSteps:=1000000) (disch:=first|omega|(simp only[aH,aJ];omega)|decide +kernel|(repeat first|rw[aH]|rw[aJ])) only[wpS,wpT,zE,jY,rp,f7,hg,spl,cz,hol];refine⟨k,aa,r0,os.set k q0,aa,hE.put (aA _) _,hn,aj _ _ rfl,by rw[dB,hol],hod.set _ dq,dl,?_,?_,by simp[f0],by simp[f1],by simp[f4],ab,ab⟩;·have:=B.lM q0 (show k<os.length by omega);rw[hoz k aa,kf,gN] at this;rw[hva,this,eH];have e5:=Rr (P:=18446744073709551616 ^ k) dm;rw[sH];omega
   ·intro j hj
    rw[B.fZ aa,ah aa];exact hoz j aa
 ·simp -dsimp (disch:=try exact dx) only[wpS,wpT,zE];have e0:Ext h (h.new (.cells (de a.length [K64 0]) 1 none)):=(Ext.refl h).new _;refine call (Fu (ha.ai e0.ai) na) ?_;rintro _ h2 ⟨rfl,L,rfl,hL,hBL⟩;simp -dsimp (disch:=try exact dx) only[wpS,zE];refine call (Fu (hb.ai e0.ai) nb) ?_;rintro _ h3 ⟨rfl,M,rfl,hM,hBM⟩;obtain⟨M0,M1,M2⟩:=hBM.2 hb0;have bG:=nb.ge (fun h0=>hb0 (hbz.2 h0));rw[B.uJ] at bG;have bM:64*(b.length - 1)<M:=by have h1:2 ^ (64*(b.length - 1))<2 ^ M:=il bG M2;exact(Gm aa).1 h1
  have aL:B.aM a<2 ^ L:=by
   rcases im (B.aM a) with h0|h0;·rw[h0];exact gM aa
   ·exact(hBL.2 aa).2.2
  simp -dsimp (disch:=try exact dx) only[wpS,zE];refine loop (fun m fr h1 => ∃(kk:Int) (V r:Nat) (os:List Nat) (rv:QQ),(kk+1=m∨(kk<0∧m=0))∧m≤L+1 - M ∧ -100000000<kk∧Ext h h1∧h.n<h1.n∧h1.ext.get h.n=some (.cells (os.map K64) 1 none)∧os.length=a.length∧B.dh os∧B.aM os=V∧B.Ka (B.aM a) (B.aM b) m V r∧Wrd h1 rv r ∧ax fr 1=some w∧ax fr 4=some (.slice (some ⟨2*h.n,0,none⟩) a.length (2*a.length+1))∧ax fr 5=some rv∧ax fr 8=some (KI kk)) (L+1 - M)
   ⟨(L:Int) - (M:Int),0,B.aM a,List.replicate a.length 0,v,aa,aA _,aa,e0,ab,by rw[ar _ _ rfl,rM],ab,B.dh.de _,B.nQ _,?_,⟨a,ha.ai e0.ai,na,rfl⟩,ab,ab,ab,ab⟩ ?_
  ·by_cases hlm:M≤L+1
   ·have:=B.Mf (lb:=M - 1) (la:=L) aL M1 aa;rwa [show L - (M - 1)=L+1 - M by omega] at this
   ·rw[show L+1 - M=0 by omega];refine⟨ab,ab,?_⟩;rw[sF,fI];exact cB aL (bV (fA aa aa) M1)
  rintro m fr h1 ⟨kk,V,r,os,rv,hkm,hmL,hkb,hE,hn,hg,hol,hod,hov,hD,hr,f1,f4,f5,f8⟩;rcases im m with rfl|hp
  ·have k0:kk<0:=aa;simp -dsimp (disch:=try exact dx) only[wpS,wpT,zE,f4,f5,f8];obtain⟨d1,d2⟩:=B.Su hD;refine⟨hE,_,_,rfl,⟨os,⟨?_,hod,aa⟩,by rw[hov,d1]⟩,by rw[←d2];exact hr⟩;rw[hol];exact fX hg hn aC (by rw[cz,hol];omega) aa aa
  ·obtain⟨k,rfl⟩ : ∃k,m=k+1:=⟨m - 1,aa⟩;obtain rfl:kk=(k:Int):=aa;have hk0:(0:Int)≤(k:Int):=aa;simp -dsimp (disch:=try exact dx) only[wpS,wpT,zE,f1,f8];refine call (Rk (hb.ai hE.ai) k aa) ?_;rintro t h2 ⟨hE2,ht⟩;simp -dsimp (disch:=try exact dx) only[wpS,zE,f5];obtain⟨rs,hrs,nr,vr⟩:=id hr;obtain⟨ts,hts,nt,vt⟩:=id ht;refine call (Bg (hrs.ai hE2.ai) hts nr nt) ?_;rintro _ h3 ⟨rfl,c,rfl,c1,c2,c3,c4⟩;rw[vr,vt] at c1;simp -dsimp (disch:=try exact dx) only[wpS,zE];have hg3:=(hE2.get _ hn).trans hg;have hn3:h.n<h3.n:=cB hn hE2.n;refine N2 (fun fr2 h4 => ∃(V2 r2:Nat) (os2:List Nat) (rv2:QQ),Ext h h4∧h.n<h4.n∧h4.ext.get h.n=some (.cells (os2.map K64) 1 none)∧os2.length=a.length∧B.dh os2∧B.aM os2=V2∧B.Ka (B.aM a) (B.aM b) k V2 r2∧Wrd h4 rv2 r2 ∧ax fr2 1=some w∧ax fr2 4=some (.slice (some ⟨2*h.n,0,none⟩) a.length (2*a.length+1))∧ax fr2 5=some rv2∧ax fr2 8=some (KN k)) (fun hc=>?_) (fun hc=>?_) ?_
   ·simp only[aS] at hc
    have hge:B.aM b*2 ^ k≤r:=aa;simp -dsimp (disch:=try exact dx) only[wpS,wpT,zE,f5];refine call (Io (hrs.ai hE2.ai) hts nt (by rw[vr,vt];exact hge)) ?_;rintro _ h4 ⟨hE4,xs,rfl,hxs,hxv⟩;simp -dsimp (disch:=try exact dx) only[wpS,zE];refine call (Cx hxs false) ?_;rintro _ h5 ⟨⟨hE5,sv,rfl,hw0⟩,mY⟩;have hw:=mY h.n (.cells ((os.set (k / 64) (os.getD (k / 64) 0+2 ^ (k % 64))).map K64) 1 none) (by simp only[gW,ne_eq,sE];omega);obtain⟨_,hsv,hw⟩:=hw;cases hsv;simp only[fJ,cE,jz] at hw;rw[hxv,vr,vt] at hw;have x35:=hE4.trans hE5;have hg5:=(x35.get _ hn3).trans hg3;have hn5:h.n<h5.n:=cB hn3 x35.n;have hki:k / 64<os.length:=aa;have hr5:h5.row (2*h.n)=some (os.map K64):=cJ hg5;have go:=get_some hki;obtain⟨bs1,bs2⟩:=B.U9 (k:=k) hod (by rw[hov];exact hD.2.1);have hvs:=B.lM (os.getD (k / 64) 0+2 ^ (k % 64)) hki;obtain⟨o,ho⟩ : ∃o,o=os.getD (k / 64) 0:=⟨_,rfl⟩;rw[←ho] at go bs1 bs2 hvs hw;have gor:(os.map K64)[k / 64]?=some (K64 o):=by rw[dM,go];rfl
    have eM:(k:Int) / 64=((k / 64:Nat):Int):=aa;have eS:(k:Int) % 64=((k % 64:Nat):Int):=aa;have hS:k % 64<64:=ec _ aa;have hMM:k / 64≤1000000:=aa;have hpl:2 ^ (k % 64)<18446744073709551616:=sG (n:=64) aa hS;have spl:=mU (o+2 ^ (k % 64)) hki;have hDn:=B.St hD hge;have hpk:2 ^ (k % 64)*18446744073709551616 ^ (k / 64)=2 ^ k:=by rw[B.uJ,←dT];congr 1;omega
    obtain⟨km,hkm⟩ : ∃km,km=k / 64:=⟨_,rfl⟩;obtain⟨ks,hks⟩ : ∃ks,ks=k % 64:=⟨_,rfl⟩;rw[←hkm] at eM hki go gor spl hMM hvs hpk hw;rw[←hks] at eS hS bs1 bs2 spl hvs hpk hw hpl;have hbo:=fun t ox oy=>HK prog t ox oy o (2 ^ ks) (il (Nat.le_add_right _ _) bs2) hpl;simp -dsimp (disch:=try exact dx) only[wpS,wpT,zE,zA,jY,oa,rp,Hv,f4,f8,eM,eS,hr5,gor,hbo,bs1,hg5,spl,cz,hol,fJ];refine⟨V+2 ^ k,r - B.aM b*2 ^ k,os.set km (o+2 ^ ks),sv,(hE.trans (hE2.trans x35)).put (aA _) _,hn5,aj _ _ rfl,by rw[dB,hol],hod.set _ bs2,?_,hDn,?_,by simp[f1],by simp[f4],ab,by simp[f8]⟩;·rw[dA,hpk] at hvs;omega
    ·exact hw
   ·simp only[aV] at hc;have hlt:r<B.aM b*2 ^ k:=aa;simp -dsimp (disch:=try exact dx) only[wpS,wpT];exact⟨V,r,os,rv,hE.trans hE2,hn3,hg3,hol,hod,hov,B.Pr hD hlt,hr.ai hE2.ai,by simp[f1],by simp[f4],by simp[f5],by simp[f8]⟩
   ·clear hr hg hn hol hod hov hD f1 f4 f5 f8 hE;rintro fr2 h4 ⟨V2,r2,os2,rv2,hE,hn,hg,hol,hod,hov,hD,hr,f1,f4,f5,f8⟩;simp -dsimp (disch:=try exact dx) only[wpS,zE,f8];exact⟨k,aa,(k:Int) - 1,V2,r2,os2,rv2,aa,aa,aa,hE,hn,hg,hol,hod,hov,hD,hr,by simp[f1],by simp[f4],by simp[f5],ab⟩
end
section
def Lj (b k:Nat) (hb:1<b) (hk:k≠0):1<b ^ k:=Nat.one_lt_pow hk hb
def IV (a b k:Nat) (h:a≤b):a ^ k≤b ^ k:=Nat.pow_le_pow_left h k
theorem QU (b c k m n:Nat) (h:b=c ^ m) (h2:n=m*k):b ^ k=c ^ n:=by rw[h,h2,wY]
def T8 (b k n:Nat) (hb:1<b) (h:k<n):b ^ k<b ^ n:=sG hb h
def GO:Small 1:=.mk (Lj 4294967296 1000000 aC aC)
def mu {n:Nat} (h:Small n):bQ (n:Int):=(jz n).symm▸h
@[irreducible] def wh (x:Nat):Prop:=x<4294967296 ^ 500000
abbrev jd (z:Int):Prop:=wh z.natAbs
theorem wh.lt {x:Nat} (h:wh x):x<4294967296 ^ 500000:=by unfold wh at h;exact h
def wh.mk {x:Nat} (h:x<4294967296 ^ 500000):wh x:=by unfold wh;exact h
def wh.small {x:Nat} (h:wh x):Small x:=by have:=h.lt;refine .mk ?_;exact cB this (Li 4294967296 aC 500000 1000000 aC)
theorem wh.len {ds:List Nat} (h:wh (aM ds)) (n:Norm ds):ds.length≤500000:=n.Nt h.lt
theorem sign_mul (x y:Int):(if (decide (x<0) != decide (y<0))=true then -((x.natAbs*y.natAbs:Nat):Int) else ((x.natAbs*y.natAbs:Nat):Int))=x*y:=by
 have e1:((x.natAbs*y.natAbs:Nat):Int)=(x.natAbs:Int)*(y.natAbs:Int):=ab;rw[e1];rcases zH x 0 with hx|hx<;>rcases zH y 0 with hy|hy;·have a:(x.natAbs:Int) = -x:=aa;have b:(y.natAbs:Int) = -y:=aa;simp[hx,hy,a,b,Int.neg_mul_neg]
 ·have a:(x.natAbs:Int) = -x:=aa
  have b:(y.natAbs:Int)=y:=aa;have c : ¬y<0:=aa;simp[hx,c,a,b,Int.neg_mul]
 ·have a:(x.natAbs:Int)=x:=aa;have b:(y.natAbs:Int) = -y:=aa;have c : ¬x<0:=aa;simp[hy,c,a,b,Cj]
 ·have a:(x.natAbs:Int)=x:=aa;have b:(y.natAbs:Int)=y:=aa;have c : ¬x<0:=aa;have d : ¬y<0:=aa;simp[c,d,a,b]
def iA (a b:Value):List.take 2 [a,b] = [a,b]:=rfl
def zj (a b:Bool):(!(a == b))=(a != b):=rfl
variable {h:IH}{x y:Int}{w v:Value}
def gP (hv:bP h v x) (hw:bP h w y) (sx:jd x) (sy:jd y) :WV prog (.func (.func 139) #[] #[]) [v,w] h fun r h'=>Ext h h'∧bP h' r (x*y):=by
 obtain⟨s,rfl,ds,hD,hN,hx⟩:=hv;obtain⟨t,rfl,es,hE,hM,hy⟩:=hw;have l1:ds.length≤500000:=wh.len (by rw[hx];exact sx) hN;have l2:es.length≤500000:=wh.len (by rw[hy];exact sy) hM;refine enter (nt:=16) (rs:=[.cell 4 175]) Proofs.Tryz.func139 rfl rfl rfl ab ?_;simp -dsimp (disch:=try exact dx) only[wpS,zE,zA,ff];have kk : ∀o1 o2 o3,Ext h (((h.new o1).new o2).new o3):=fun o1 o2 o3=>(((Ext.refl h).new _).new _).new _;refine drawn [(1,[10]),(3,[10])] ae ae rfl ?_;simp -dsimp (disch:=try exact dx) only[wpS,zE,gV,ld4,bn4,iZ,jF,zj];refine call (Lg (hD.ai (kk _ _ _).ai) (hE.ai (kk _ _ _).ai) aa) ?_;rintro r h1 ⟨hE1,os,hO,hON,hOv⟩;simp -dsimp (disch:=try exact dx) only[wpS,zE];refine call (oz hO _) ?_;rintro r2 h2 ⟨hE2,hr⟩;rw[hOv,hx,hy,sign_mul] at hr;obtain⟨s3,n3,rfl,c3,o3,_,_⟩:=hr.form;have hg:h2.ext.get (h.n+1+1)=some (.cells [.bool false,.slice none 0 0] 0 none):=by have n1:h.n+3≤h1.n:=hE1.n;rw[hE2.get _ aa,hE1.get _ ab];exact ar _ _ rfl
 have r0:h1.row (2*h.n)=some [.bool (decide (x<0)),s]:=by rw[hE1.row bd];simp -dsimp (disch:=try exact dx) only[wpS]
 have r1:h1.row (2*(h.n+1))=some [.bool (decide (y<0)),t]:=by rw[hE1.row bd];simp -dsimp (disch:=try exact dx) only[wpS]
 simp -dsimp (disch:=try exact dx) only[wpS,wpT,zE,zL,zA,cZ,hg,o3];refine⟨oj (az rfl rfl rfl rfl (aO (av:=ptr (2*h.n) 0) (v:=.bool (decide (x<0))) rfl ?_ ?_)) (az rfl rfl rfl rfl (aO (av:=ptr (2*(h.n+1)) 0) (v:=.bool (decide (y<0))) rfl ?_ ?_)),?_⟩
 ·simp -dsimp (disch:=try exact dx) only[wpS,ld4]
 ·simp -dsimp (disch:=try exact dx) only[wpS,ld4,r0]
 ·simp -dsimp (disch:=try exact dx) only[wpS,ld4]
 ·simp -dsimp (disch:=try exact dx) only[wpS,ld4,r1]
 simp -dsimp (disch:=try exact dx) only[wpS,wpT,zE,zL,zA,cj];exact⟨(((kk _ _ _).trans hE1).trans hE2).put aa _,hr.ai ((bj.refl _).put hg _)⟩
def Nf (hy:y≠0) (h : ¬(if decide (x<0)=true then -((x.natAbs % y.natAbs:Nat):Int) else ((x.natAbs % y.natAbs:Nat):Int))<0) :(if (decide (x<0) != decide (y<0))=true then -((x.natAbs / y.natAbs:Nat):Int) else ((x.natAbs / y.natAbs:Nat):Int))=x / y∧(if decide (x<0)=true then -((x.natAbs % y.natAbs:Nat):Int) else ((x.natAbs % y.natAbs:Nat):Int))=x % y:=by
 have hb:0<y.natAbs:=aa;have h1:=mN x.natAbs y.natAbs;have h2:=ec x.natAbs hb;generalize x.natAbs / y.natAbs=q at *;generalize x.natAbs % y.natAbs=r at *;have h1':(y.natAbs:Int)*(q:Int)+(r:Int)=(x.natAbs:Int):=by rw[←h1];simp
 have key : ∀y':Int,0<y' → ∀q' r':Int,r'+y'*q'=x→0≤r'→r'<y'→x / y'=q'∧x % y'=r':=fun y' hy' q' r' a b c=>(Int.ediv_emod_unique hy').2 ⟨a,b,c⟩;rcases zH x 0 with hx|hx
 ·simp only[hx,wV,cq] at h ⊢;obtain rfl:r=0:=aa;rcases zH y 0 with hy0|hy0
  ·have a:(x.natAbs:Int) = -x:=aa;have b:(y.natAbs:Int) = -y:=aa;rw[a,b] at h1';obtain⟨k1,k2⟩:=key (-y) aa (-q) 0 (by rw[Cj];omega) aa aa;rw[Cl] at k1;rw[Int.emod_neg] at k2;simp only[hy0,wV,Gi,fJ,cE];exact⟨aa,aa⟩
  ·have a:(x.natAbs:Int) = -x:=aa;have b:(y.natAbs:Int)=y:=aa;rw[a,b] at h1';obtain⟨k1,k2⟩:=key y aa (-q) 0 (by rw[Cj];omega) aa aa;have : ¬y<0:=aa;simp only[this,nC,mL,ne_eq,reduceCtorEq,BV,cq];exact⟨aa,aa⟩
 ·have hx' : ¬x<0:=aa;simp only[hx',nC,fJ,cE] at h ⊢;rcases zH y 0 with hy0|hy0
  ·have a:(x.natAbs:Int)=x:=aa;have b:(y.natAbs:Int) = -y:=aa;rw[a,b] at h1';obtain⟨k1,k2⟩:=key (-y) aa q r aa aa aa;rw[Cl] at k1;rw[Int.emod_neg] at k2;simp only[hy0,wV,mL,ne_eq,reduceCtorEq,BV,cq];exact⟨aa,aa⟩
  ·have a:(x.natAbs:Int)=x:=aa;have b:(y.natAbs:Int)=y:=aa;rw[a,b] at h1';obtain⟨k1,k2⟩:=key y aa q r aa aa aa;have : ¬y<0:=aa;simp only[this,nC,Gi,fJ,cE];exact⟨aa,aa⟩
def Nd (hy:y≠0) (h:(if decide (x<0)=true then -((x.natAbs % y.natAbs:Nat):Int) else ((x.natAbs % y.natAbs:Nat):Int))<0) :
  (if (decide (x<0) != decide (y<0))=true then -((x.natAbs / y.natAbs:Nat):Int) else ((x.natAbs / y.natAbs:Nat):Int))+(if y<0 then 1 else -1)=x / y∧(if decide (x<0)=true then -((x.natAbs % y.natAbs:Nat):Int) else ((x.natAbs % y.natAbs:Nat):Int))+(y.natAbs:Int)=x % y:=by
 have hb:0<y.natAbs:=aa;have h1:=mN x.natAbs y.natAbs;have h2:=ec x.natAbs hb;generalize x.natAbs / y.natAbs=q at *;generalize x.natAbs % y.natAbs=r at *;have h1':(y.natAbs:Int)*(q:Int)+(r:Int)=(x.natAbs:Int):=by rw[←h1];simp
 have key : ∀y':Int,0<y' → ∀q' r':Int,r'+y'*q'=x→0≤r'→r'<y'→x / y'=q'∧x % y'=r':=fun y' hy' q' r' a b c=>(Int.ediv_emod_unique hy').2 ⟨a,b,c⟩;have hx:x<0:=by apply di;intro hn;simp only[hn,nC,fJ,cE] at h;omega
 simp only[hx,wV,cq] at h ⊢;have a:(x.natAbs:Int) = -x:=aa;rcases zH y 0 with hy0|hy0;·have b:(y.natAbs:Int) = -y:=aa;rw[a,b] at h1';obtain⟨k1,k2⟩:=key (-y) aa (-(q+1)) (-y - r) (by rw[Cj,Int.mul_add];omega) aa aa;rw[Cl] at k1;rw[Int.emod_neg] at k2;simp only[hy0,wV,Gi,fJ,cE,cq];exact⟨aa,aa⟩
 ·have b:(y.natAbs:Int)=y:=aa
  rw[a,b] at h1';obtain⟨k1,k2⟩:=key y aa (-(q+1)) (y - r) (by rw[Cj,Int.mul_add];omega) aa aa;have : ¬y<0:=aa;simp only[this,nC,mL,ne_eq,reduceCtorEq,BV,cq,cE];exact⟨aa,aa⟩
def xU (hv:bP h v x) (hw:bP h w y) (sx:bQ x) (sy:bQ y) :WV prog (.func (.func 138) #[] #[]) [v,w] h fun r h'=>Ext h h'∧bP h' r (Int.gcd x y):=by
 obtain⟨s,rfl,hS⟩:=hv;obtain⟨t,rfl,hT⟩:=hw;obtain⟨ds,hD,hN,hx⟩:=id hS;obtain⟨es,hE,hM,hy⟩:=id hT;refine enter (nt:=26) (rs:=[.cell 4 175]) Proofs.Tryz.func138 rfl rfl rfl ab ?_;simp -dsimp (disch:=try exact dx) only[wpS,zE,zA,ff,iZ,jF];have kk : ∀o1 o2 o3,Ext h (((h.new o1).new o2).new o3):=fun o1 o2 o3=>(((Ext.refl h).new _).new _).new _;refine loop (fun m fr h1 => ∃(xv yv:Value) (a:Nat),Ext (((h.new (.cells [.bool (decide (x<0)),s] 0 none)).new (.cells [.bool (decide (y<0)),t] 0 none)).new (.cells [.bool false,.slice none 0 0] 0 none)) h1∧Dig h1 xv a∧Dig h1 yv m∧Small a∧Small m∧Nat.gcd a m=Int.gcd x y∧ax fr 4=some (ptr (2*(h.n+1+1)) 0)∧ax fr 5=some xv∧ax fr 6=some yv) y.natAbs ⟨s,t,x.natAbs,Ext.refl _,hS.ai (kk _ _ _).ai,hT.ai (kk _ _ _).ai,sx,sy,rfl,ab,ab,ab⟩ ?_;clear hS hT hD hN hx hE hM hy ds es;rintro m fr h1 ⟨xv,yv,a,hE1,hA,hB,sa,sb,LP,f4,f5,f6⟩;obtain⟨ds,hD,hN,hx⟩:=id hA;obtain⟨es,hE,hM,hy⟩:=id hB;have hz:=hM.ow;rw[hy] at hz;have l1:ds.length≤1000000:=hN.small (by rw[hx];exact sa);have l2:es.length≤1000000:=hM.small (by rw[hy];exact sb);by_cases hm:m=0
 ·have hes:es = []:=hz.1 hm
  have WZ:tE prog h1 25 yv=some (.int .i64 ((0:Nat):Int)):=by have:=hE.1.len (P:=prog) dY h1;rw[hes] at this;exact this
  have hg:h1.ext.get (h.n+1+1)=some (.cells [.bool false,.slice none 0 0] 0 none):=by rw[hE1.get _ ab];exact ar _ _ rfl
  simp -dsimp (disch:=try exact dx) only[wpS,wpT,zE,zL,zA,nA,BJ,cZ,cj,f4,f5,f6,WZ,hD.1.cells,hD.1.cok,hg];refine⟨((kk _ _ _).trans hE1).put aa _,xv,?_,?_⟩;·simp
  ·subst hm
   rw[Nat.gcd_zero_right] at LP;rw[jz,←LP];exact hA.ai ((bj.refl _).put hg _)
 ·have hl:0<es.length:=by apply pY;intro h0;exact hm (hz.2 (jK.1 h0))
  simp -dsimp (disch:=try exact dx) only[wpS,wpT,zE,f5,f6,hE.1.len dY];refine call (IW hD hE hN hM (by rw[hy];exact hm) l1 l2) ?_;rintro _ h2 ⟨hE2,q,r,rfl,hq,hr⟩;rw[hx,hy] at hr;have hlt:=ec a (pY hm);simp -dsimp (disch:=try exact dx) only[wpS,zE,f6];refine⟨a % m,hlt,yv,r,m,hE1.trans hE2,hB.ai hE2.ai,hr,sb,sb.le (kF hlt),?_,by simp[f4],ab,ab⟩;rw[←LP,Nat.gcd_comm a m,Nat.gcd_rec m a,Nat.gcd_comm]
def BE (b:Bool) (n:Nat):(if b=true then -(n:Int) else (n:Int)).natAbs=n:=by cases b<;>simp
def pT (hv:bP h v x) (hw:bP h w y) (sx:bQ x) (sy:bQ y) (y0:y≠0) :WV prog (.func (.func 137) #[] #[]) [v,w] h fun r h'=>Ext h h' ∧ ∃q t,r=.tuple #[q,t]∧bP h' q (x / y)∧bP h' t (x % y):=by
 obtain⟨s,rfl,hS⟩:=hv;obtain⟨t,rfl,hT⟩:=hw;obtain⟨ds,hD,hN,hx⟩:=id hS;obtain⟨es,hE,hM,hy⟩:=id hT;have l1:ds.length≤1000000:=hN.small (by rw[hx];exact sx);have l2:es.length≤1000000:=hM.small (by rw[hy];exact sy);refine enter (nt:=46) (rs:=[.cell 4 175,.cell 5 175]) Proofs.Tryz.func137 rfl rfl rfl ab ?_;simp -dsimp (disch:=try exact dx) only[wpS,zE,zA,ff,iZ,jF];have kk : ∀o1 o2 o3 o4,Ext h ((((h.new o1).new o2).new o3).new o4):=fun o1 o2 o3 o4=>((((Ext.refl h).new _).new _).new _).new _;refine call (IW (hD.ai (kk _ _ _ _).ai) (hE.ai (kk _ _ _ _).ai) hN hM (by rw[hy];omega) l1 l2) ?_;rintro _ h1 ⟨hE1,q,r,rfl,⟨qs,hq,hqn,hqv⟩,⟨rs,hr,hrn,hrv⟩⟩;rw[hx,hy] at hqv hrv;have n1:h.n+4≤h1.n:=hE1.n;have g0:h1.ext.get h.n=some (.cells [.bool (decide (x<0)),s] 0 none):=by rw[hE1.get _ bd];simp (disch:=try exact dx) only[ar,aE]
 have g1:h1.ext.get (h.n+1)=some (.cells [.bool (decide (y<0)),t] 0 none):=by rw[hE1.get _ bd];simp (disch:=try exact dx) only[ar,aE]
 have g2:h1.ext.get (h.n+1+1)=some (.cells [.bool false,.slice none 0 0] 0 none):=by rw[hE1.get _ bd];simp (disch:=try exact dx) only[ar,aE]
 have g3:h1.ext.get (h.n+1+1+1)=some (.cells [.bool false,.slice none 0 0] 0 none):=by rw[hE1.get _ bd];simp (disch:=try exact dx) only[ar]
 have x1:Ext h h1:=(kk _ _ _ _).trans hE1;have eT1:=hE.ai x1.ai;clear hE1 kk;have r0:=cJ g0;have r1:=cJ g1;simp -dsimp (disch:=try exact dx) only[wpS,zE];refine drawn [(8,[6])] ae ae rfl ?_;simp -dsimp (disch:=try exact dx) only[wpS,zE,gV,ld4,bn4,r0,r1,zj];refine call (oz hq _) ?_;rintro q2 h2 ⟨hE2,hq2⟩;have r02:h2.row (2*h.n)=some [.bool (decide (x<0)),s]:=by rw[hE2.row (.inr aa)];exact r0
 simp -dsimp (disch:=try exact dx) only[wpS,zE,gV,ld4,r02];refine call (oz (hr.ai hE2.ai) _) ?_;rintro t2 h3 ⟨hE3,ht2⟩;rw[hqv] at hq2;rw[hrv] at ht2;have pa:=Nf (x:=x) y0;have pb:=Nd (x:=x) y0;have aQ:=BE (decide (x<0) != decide (y<0)) (x.natAbs / y.natAbs);have aR:=BE (decide (x<0)) (x.natAbs % y.natAbs);generalize (if (decide (x<0) != decide (y<0))=true then -((x.natAbs / y.natAbs:Nat):Int) else ((x.natAbs / y.natAbs:Nat):Int))=Q at *;generalize (if decide (x<0)=true then -((x.natAbs % y.natAbs:Nat):Int) else ((x.natAbs % y.natAbs:Nat):Int))=R at *;have sQ:bQ Q:=Small.le sx (by rw[aQ];exact oU _ _);have sR:bQ R:=Small.le sy (by rw[aR];exact kF (ec _ aa));obtain⟨sq,n3,rfl,c3,o3,_,_⟩:=hq2.form;obtain⟨st,n4,rfl,c4,o4,_,_⟩:=ht2.form;have x3:Ext h h3:=(x1.trans hE2).trans hE3;have n2:=hE2.n;have n3':=hE3.n;simp -dsimp (disch:=try exact dx) only[wpS,wpT,zE,zL,zA,ff,cZ,o3,o4];refine⟨az rfl rfl rfl rfl (aO (av:=ptr (2*h.n) 0) (v:=.bool (decide (x<0))) rfl ?_ ?_),?_⟩
 ·simp -dsimp (disch:=try exact dx) only[wpS,ld4,r02]
 ·simp -dsimp (disch:=try exact dx) only[wpS,ld4,r0]
 simp -dsimp (disch:=try exact dx) only[wpS,wpT,zE,zA,gV,ld4];have e4:Ext h3 ((((h3.new (.cells [.bool false,.slice none 0 0] 0 none)).new (.cells [.bool false,.slice none 0 0] 0 none)).put h3.n (.cells [.bool (decide (Q<0)),sq] 0 none)).put (h3.n+1) (.cells [.bool (decide (R<0)),st] 0 none)):=((((Ext.refl h3).new _).new _).put (aA _) _).put aa _;have g8:((((h3.new (.cells [.bool false,.slice none 0 0] 0 none)).new (.cells [.bool false,.slice none 0 0] 0 none)).put h3.n (.cells [.bool (decide (Q<0)),sq] 0 none)).put (h3.n+1) (.cells [.bool (decide (R<0)),st] 0 none)).ext.get h3.n=some (.cells [.bool (decide (Q<0)),sq] 0 none):=by simp (disch:=try exact dx) only[aj,au]
 have g9:((((h3.new (.cells [.bool false,.slice none 0 0] 0 none)).new (.cells [.bool false,.slice none 0 0] 0 none)).put h3.n (.cells [.bool (decide (Q<0)),sq] 0 none)).put (h3.n+1) (.cells [.bool (decide (R<0)),st] 0 none)).ext.get (h3.n+1)=some (.cells [.bool (decide (R<0)),st] 0 none):=by simp (disch:=try exact dx) only[aj]
 have n5:((((h3.new (.cells [.bool false,.slice none 0 0] 0 none)).new (.cells [.bool false,.slice none 0 0] 0 none)).put h3.n (.cells [.bool (decide (Q<0)),sq] 0 none)).put (h3.n+1) (.cells [.bool (decide (R<0)),st] 0 none)).n=h3.n+2:=rfl;have hQ0:=hq2.ai (hE3.trans e4).ai;have hR0:=ht2.ai e4.ai;have x4:=x3.trans e4;have x14:Ext h1 _:=(hE2.trans hE3).trans e4;generalize ((((h3.new (.cells [.bool false,.slice none 0 0] 0 none)).new (.cells [.bool false,.slice none 0 0] 0 none)).put h3.n (.cells [.bool (decide (Q<0)),sq] 0 none)).put (h3.n+1) (.cells [.bool (decide (R<0)),st] 0 none))=h4 at *;have r9:=cJ g9;refine jQ (fun fr2 h5 => ∃sq st,Ext h1 h5∧h3.n+2≤h5.n∧h5.ext.get h3.n=some (.cells [.bool (decide (x / y<0)),sq] 0 none)∧h5.ext.get (h3.n+1)=some (.cells [.bool (decide (x % y<0)),st] 0 none)∧bP h5 (.agg #[.bool (decide (x / y<0)),sq]) (x / y)∧bP h5 (.agg #[.bool (decide (x % y<0)),st]) (x % y) ∧ax fr2 4=some (ptr (2*(h.n+1+1)) 0)∧ax fr2 5=some (ptr (2*(h.n+1+1+1)) 0)∧ax fr2 8=some (ptr (2*h3.n) 0)∧ax fr2 9=some (ptr (2*(h3.n+1)) 0)) (fun hb=>?_) (fun hb=>?_) ?_
 ·have hb':R<0:=by simpa using hb
  obtain⟨b1,b2⟩:=pb hb';have g1':=(x14.get _ aa).trans g1;have r1':=cJ g1';rw[ct hb'] at hR0;simp -dsimp (disch:=try exact dx) only[wpS,wpT,zE,zL,zA,iZ,jF,cj,nA,BJ,r9,r1',cC,iA,hE.1.cells];have hY:bP h4 (.agg #[.bool false,t]) (y.natAbs:Int):=⟨t,ab,by rw[jz];exact⟨es,eT1.ai x14.ai,hM,hy⟩⟩;refine call (qM hR0 hY sR (mu sy)) ?_;rintro t5 h5 ⟨hE5,ht5⟩;rw[b2] at ht5;obtain⟨s5,_,rfl,c5,o5,_,_⟩:=ht5.form;have g9':=(hE5.get _ aa).trans g9;have g8':=(hE5.get _ aa).trans g8;have g1'':=(hE5.get _ aa).trans g1';have r1'':=cJ g1'';have r8':=cJ g8';have n6:=hE5.n;simp -dsimp (disch:=try exact dx) only[wpS,wpT,zE,zL,zA,gV,ld4,cZ,g9',o5,r1''];have kp5:=(bj.refl h5).put g9' (.cells [.bool (decide (x % y<0)),s5] 0 none);refine aG (fun hby=>?_) (fun hby=>?_)
  ·simp only[aS] at hby;refine drawn [(0,[2])] ae ae rfl ?_;simp -dsimp (disch:=try exact dx) only[wpS,wpT,zE,zL,zA,cj,r8',cC,iA];refine call (fY 1 ⟨aa,aa⟩) ?_;rintro o1 h6 ⟨hE6,ho1⟩;simp -dsimp (disch:=try exact dx) only[wpS,zE];refine call (qM (hQ0.ai ((hE5.ai.trans kp5).trans hE6.ai)) ho1 sQ (mu (GO))) ?_;rintro q6 h7 ⟨hE7,hq6⟩;rw[show Q+1=x / y by rw[←b1];simp only[hby,cq]<;>omega] at hq6;obtain⟨s6,_,rfl,c6,o6,_,_⟩:=hq6.form;have g8a:=(hE6.get _ (by simp only[aJ];omega)).trans ((au h5 (.cells [.bool (decide (x % y<0)),s5] 0 none) (show h3.n≠h3.n+1 by omega)).trans g8');have g8b:=(hE7.get _ (by have:=hE6.n;simp only[aJ] at this;omega)).trans g8a;have g9b:=(hE7.get (h3.n+1) (by have:=hE6.n;simp only[aJ] at this;omega)).trans ((hE6.get _ (by simp only[aJ];omega)).trans (aj h5 (.cells [.bool (decide (x % y<0)),s5] 0 none) rfl));have r8a:=cJ g8a;simp -dsimp (disch:=try exact dx) only[wpS,wpT,zE,zL,zA,cZ,g8b,o6];refine⟨az rfl rfl rfl rfl (aO (av:=ptr (2*h3.n) 0) (v:=.agg #[.bool (decide (Q<0)),sq]) rfl ?_ ?_),?_⟩
   ·simp -dsimp (disch:=try exact dx) only[wpS,wpT,zL,zA,cj,r8',cC,iA]
   ·simp -dsimp (disch:=try exact dx) only[wpS,wpT,zL,zA,cj,r8a,cC,iA]
   simp -dsimp (disch:=try exact dx) only[wpS,wpT,zA];have k7:=(bj.refl h7).put g8b (.cells [.bool (decide (x / y<0)),s6] 0 none);have x7:Ext h1 (h5.put (h3.n+1) (.cells [.bool (decide (x % y<0)),s5] 0 none)):=(x14.trans hE5).put aa _;have n7:=hE6.n;have n8:=hE7.n;simp only[aJ] at n7;refine⟨s6,s5,((x7.trans hE6).trans hE7).put aa _,by simp only[aJ];omega,aj _ _ rfl,by rw[au _ _ aa];exact g9b,hq6.ai k7,ht5.ai ((kp5.trans (hE6.trans hE7).ai).trans k7),?_,?_,?_,?_⟩<;>simp
  ·simp only[aV] at hby;refine drawn [(0,[2])] ae ae rfl ?_;simp -dsimp (disch:=try exact dx) only[wpS,wpT,zE,zL,zA,cj,r8',cC,iA];refine call (fY 1 ⟨aa,aa⟩) ?_;rintro o1 h6 ⟨hE6,ho1⟩;simp -dsimp (disch:=try exact dx) only[wpS,zE];refine call (Dg (hQ0.ai ((hE5.ai.trans kp5).trans hE6.ai)) ho1 sQ (mu (GO))) ?_;rintro q6 h7 ⟨hE7,hq6⟩;rw[show Q - 1=x / y by rw[←b1];simp only[hby,cE]<;>omega] at hq6;obtain⟨s6,_,rfl,c6,o6,_,_⟩:=hq6.form;have g8a:=(hE6.get _ (by simp only[aJ];omega)).trans ((au h5 (.cells [.bool (decide (x % y<0)),s5] 0 none) (show h3.n≠h3.n+1 by omega)).trans g8');have g8b:=(hE7.get _ (by have:=hE6.n;simp only[aJ] at this;omega)).trans g8a;have g9b:=(hE7.get (h3.n+1) (by have:=hE6.n;simp only[aJ] at this;omega)).trans ((hE6.get _ (by simp only[aJ];omega)).trans (aj h5 (.cells [.bool (decide (x % y<0)),s5] 0 none) rfl));have r8a:=cJ g8a;simp -dsimp (disch:=try exact dx) only[wpS,wpT,zE,zL,zA,cZ,g8b,o6];refine⟨az rfl rfl rfl rfl (aO (av:=ptr (2*h3.n) 0) (v:=.agg #[.bool (decide (Q<0)),sq]) rfl ?_ ?_),?_⟩
   ·simp -dsimp (disch:=try exact dx) only[wpS,wpT,zL,zA,cj,r8',cC,iA]
   ·simp -dsimp (disch:=try exact dx) only[wpS,wpT,zL,zA,cj,r8a,cC,iA]
   simp -dsimp (disch:=try exact dx) only[wpS,wpT,zA];have k7:=(bj.refl h7).put g8b (.cells [.bool (decide (x / y<0)),s6] 0 none);have x7:Ext h1 (h5.put (h3.n+1) (.cells [.bool (decide (x % y<0)),s5] 0 none)):=(x14.trans hE5).put aa _;have n7:=hE6.n;have n8:=hE7.n;simp only[aJ] at n7;refine⟨s6,s5,((x7.trans hE6).trans hE7).put aa _,by simp only[aJ];omega,aj _ _ rfl,by rw[au _ _ aa];exact g9b,hq6.ai k7,ht5.ai ((kp5.trans (hE6.trans hE7).ai).trans k7),?_,?_,?_,?_⟩<;>simp
 ·have hb' : ¬R<0:=by simpa using hb
  obtain⟨b1,b2⟩:=pa hb';simp -dsimp (disch:=try exact dx) only[wpS,wpT];subst b1;subst b2;exact⟨sq,st,x14,aa,g8,g9,hQ0,hR0,ab,ab,ab,ab⟩
 rintro fr2 h5 ⟨sq,st,x5,n6,k8,k9,hQ,hR,f4,f5,f8,f9⟩;have k2:=(x5.get _ aa).trans g2;have k3:=(x5.get _ aa).trans g3;have q8:=cJ k8;have q9:=cJ k9;obtain⟨s8,n8,e8,c8,o8,_,_⟩:=hQ.form;obtain⟨s9,n9,e9,c9,o9,_,_⟩:=hR.form;cases e8;cases e9;rw[mE];refine drawn [(1,[3])] ae ae rfl ?_;simp -dsimp (disch:=try exact dx) only[wpS,wpT,zE,zL,zA,cZ,cj,f4,f5,f8,f9,q8,q9,k2,k3,o8,o9,cC,iA];have k5:=(bj.refl h5).put k2 (.cells [.bool (decide (x / y<0)),sq] 0 none);have k3':(h5.put (h.n+1+1) (.cells [.bool (decide (x / y<0)),sq] 0 none)).ext.get (h.n+1+1+1)=some (.cells [.bool false,.slice none 0 0] 0 none):=by rw[au _ _ aa];exact k3
 have k6:=k5.put k3' (.cells [.bool (decide (x % y<0)),st] 0 none);refine⟨az rfl rfl rfl rfl (aO (av:=ptr (2*(h3.n+1)) 0) (v:=.agg #[.bool (decide (x % y<0)),st]) ?_ ?_ ?_),?_⟩
 ·simp -dsimp (disch:=try exact dx) only[wpS,zE,f9]
 ·simp -dsimp (disch:=try exact dx) only[wpS,wpT,zL,zA,cj,q9,cC,iA]
 ·simp -dsimp (disch:=try exact dx) only[wpS,wpT,zL,zA,cj,q9,cC,iA]
 simp -dsimp (disch:=try exact dx) only[wpS,wpT,zE,zL,zA,cj,f4,f5,cC,iA];exact⟨((x1.trans x5).put aa _).put aa _,_,_,rfl,hQ.ai k6,hR.ai k6⟩
end
section
variable {ds:List Nat}
def rI (n:B.Norm ds) (h:Small (B.aM ds)):ds.length≤1000000:=by refine n.Nt (cB h.lt ?_);exact IV 4294967296 18446744073709551616 1000000 aC
def NC (n:B.Norm ds) (h:wh (B.aM ds)):ds.length≤500000:=by refine n.Nt (cB h.lt ?_);exact IV 4294967296 18446744073709551616 500000 aC
abbrev ZL:List QQ:=[.bool false,.slice none 0 0]
variable {h:IH}{v:QQ}{z:Int}
def tt (hv:cW h v z):WV prog (.func (.func 236) #[] #[]) [v] h fun r h'=>Ext h h'∧cW h' r (-z):=by
 obtain⟨s,rfl,ds,hD,hN,hx⟩:=hv;refine enter (nt:=9) (rs:=[.cell 2 135]) Proofs.Tryz.func236 rfl rfl rfl ab ?_;simp -dsimp (disch:=try exact dx) only[wpS,zE,kH,l6,ld4,ni,uQ];refine call (jL (hD.ai (((bj.refl h).new _).new _)) _) ?_;rintro r h1 ⟨hE,h2⟩;have hz:(if (!decide (z<0))=true then -(B.aM ds:Int) else B.aM ds) = -z:=by by_cases h0:z<0<;>simp[h0]<;>omega
 rw[hz] at h2;obtain⟨s1,n1,rfl,c1,o1,_,_⟩:=h2.form;have n1:=(hE).n;try simp only[aH] at n1
 have hg:h1.ext.get (h.n+1)=some (.cells ZL 0 none):=by rw[hE.get _ ab];simp (disch:=try exact dx) only[ar]
 simp -dsimp (disch:=try exact dx) only[wpS,wpT,zE,zL,zA,gY,cM,hg,o1];exact⟨((((Ext.refl h).new _).new _).trans hE).put aa _,h2.ai ((bj.refl _).put hg _)⟩
variable {x y:Int}{w:QQ}
def yG (hv:cW h v x) (hw:cW h w y) (sx:bQ x) (sy:bQ y) :WV prog (.func (.func 187) #[] #[]) [v,w] h fun r h'=>Ext h h'∧cW h' r (x+y):=by
 obtain⟨s,rfl,a,ha,na,hx⟩:=hv;obtain⟨t,rfl,b,hb,nb,hy⟩:=hw;have la:a.length≤1000000:=rI na (by rw[hx];exact sx);have lb:b.length≤1000000:=rI nb (by rw[hy];exact sy);refine enter (nt:=34) (rs:=[.cell 4 135]) Proofs.Tryz.func187 rfl rfl rfl ab ?_;simp -dsimp (disch:=try exact dx) only[wpS,zE,zA,kH,l6,ld4,be4];have ee : ∀o1 o2 o3,Ext h (((h.new o1).new o2).new o3):=fun o1 o2 o3=>(((Ext.refl h).new _).new _).new _;refine aG (fun hc=>?_) (fun hc=>?_)
 ·have hc:(x<0↔y<0):=by simpa using hc
  simp -dsimp (disch:=try exact dx) only[wpS];refine drawn [(1,[7])] ae ae rfl ?_;simp -dsimp (disch:=try exact dx) only[wpS,zE,l6,ld4,ni,uQ];refine call (Tn (ha.ai (ee _ _ _).ai) (hb.ai (ee _ _ _).ai) aa aa) ?_;rintro r h1 ⟨hE,os,hD,tF⟩;simp -dsimp (disch:=try exact dx) only[wpS,zE];refine call (jL hD _) ?_;rintro r2 h2 ⟨hE2,hr⟩;have hz:(if decide (x<0)=true then -(B.aM os:Int) else B.aM os)=x+y:=by by_cases h0:x<0<;>simp[h0]<;>omega
  rw[hz] at hr;obtain⟨s1,n1,rfl,c1,o1,_,_⟩:=hr.form;have m1:=(hE).n;try simp only[aH] at m1
  have m2:=(hE2).n;try simp only[aH,aJ] at m2
  have hg:h2.ext.get (h.n+1+1)=some (.cells ZL 0 none):=by rw[hE2.get _ aa,hE.get _ ab];simp (disch:=try exact dx) only[ar]
  have hr0:h1.row (2*h.n)=some [.bool (decide (x<0)),s]:=by rw[hE.row bd];simp -dsimp (disch:=try exact dx) only[wpS]
  simp -dsimp (disch:=try exact dx) only[wpS,wpT,zE,zL,zA,gY,hg,o1];refine⟨az rfl rfl rfl rfl (aO (av:=ptr (2*h.n) 0) (v:=.bool (decide (x<0))) rfl ?_ ?_),?_⟩
  ·simp -dsimp (disch:=try exact dx) only[wpS,ld4]
  ·simp -dsimp (disch:=try exact dx) only[wpS,ld4,hr0]
  ·simp -dsimp (disch:=try exact dx) only[wpS,wpT,zE,zL,zA,cM];exact⟨(((ee _ _ _).trans hE).trans hE2).put aa _,hr.ai ((bj.refl _).put hg _)⟩
 ·have hc : ¬(x<0↔y<0):=by simpa using hc
  simp -dsimp (disch:=try exact dx) only[wpS,zE,ni,uQ];refine call (Bg (ha.ai (ee _ _ _).ai) (hb.ai (ee _ _ _).ai) na nb) ?_;rintro r h1 ⟨rfl,c,rfl,hc1,hc2,hc3,hc4⟩;simp -dsimp (disch:=try exact dx) only[wpS,zE];refine jQ (fun fr2 h4 => ∃(p q:Int) (sp sq:QQ) (ps qs:List Nat),Ext h h4∧h.n+3≤h4.n∧h4.ext.get h.n=some (.cells [.bool (decide (p<0)),sp] 0 none)∧h4.ext.get (h.n+1)=some (.cells [.bool (decide (q<0)),sq] 0 none)∧h4.ext.get (h.n+1+1)=some (.cells ZL 0 none) ∧kT h4 sp ps∧kT h4 sq qs∧B.Norm ps∧B.Norm qs∧B.aM ps=p.natAbs∧B.aM qs=q.natAbs∧q.natAbs≤p.natAbs∧p+q=x+y ∧ ¬(p<0↔q<0)∧ax fr2 2=some (ptr (2*h.n) 0)∧ax fr2 3=some (ptr (2*(h.n+1)) 0)∧ax fr2 4=some (ptr (2*(h.n+1+1)) 0)) (fun hc5=>?_) (fun hc5=>?_) ?_
  ·simp only[aS] at hc5;simp -dsimp (disch:=try exact dx) only[wpS,wpT,zE,zL,zA,gY,cM,cC,iA,ha.1.cok,hb.1.cok];have g0:(((h.new (.cells [.bool (decide (x<0)),s] 0 none)).new (.cells [.bool (decide (y<0)),t] 0 none)).new (.cells [.bool false,.slice none 0 0] 0 none)).ext.get h.n=some (.cells [.bool (decide (x<0)),s] 0 none):=by simp (disch:=try exact dx) only[ar,aE]
   have g1:((((h.new (.cells [.bool (decide (x<0)),s] 0 none)).new (.cells [.bool (decide (y<0)),t] 0 none)).new (.cells [.bool false,.slice none 0 0] 0 none)).put h.n (.cells [.bool (decide (y<0)),t] 0 none)).ext.get (h.n+1)=some (.cells [.bool (decide (y<0)),t] 0 none):=by simp (disch:=try exact dx) only[ar,aE,au]
   have kp:=((ee _ _ _).ai.put g0 (.cells [.bool (decide (y<0)),t] 0 none)).put g1 (.cells [.bool (decide (x<0)),s] 0 none);refine⟨y,x,t,s,b,a,((ee _ _ _).put (aA _) _).put aa _,bd,by simp (disch:=try exact dx) only[aj,au],by simp (disch:=try exact dx) only[aj],by simp (disch:=try exact dx) only[ar,au],hb.ai kp,ha.ai kp,nb,na,hy,hx,aa,aa,aa,ab,ab,ab⟩
  ·simp only[aV] at hc5;simp -dsimp (disch:=try exact dx) only[wpS,wpT];exact⟨x,y,s,t,a,b,ee _ _ _,bd,by simp (disch:=try exact dx) only[ar,aE],by simp (disch:=try exact dx) only[ar,aE],by simp (disch:=try exact dx) only[ar],ha.ai (ee _ _ _).ai,hb.ai (ee _ _ _).ai,na,nb,hx,hy,aa,rfl,hc,ab,ab,ab⟩
  rintro fr h4 ⟨p,q,sp,sq,ps,qs,hE4,hn4,g0,g1,g2,hp,hq,np,nq,vp,vq,hle,Js,hsg,f2,f3,f4⟩;have r0:=cJ g0;have r1:=cJ g1;rw[mE];refine drawn [(1,[7])] ae ae rfl ?_;simp -dsimp (disch:=try exact dx) only[wpS,zE,l6,ld4,ni,uQ,f2,f3,r0,r1];refine call (Io hp hq nq aa) ?_;rintro r h5 ⟨hE5,os,rfl,hD,tF⟩;simp -dsimp (disch:=try exact dx) only[wpS,zE];refine call (jL hD _) ?_;rintro r2 h6 ⟨hE6,hr⟩;have hz:(if decide (p<0)=true then -(B.aM os:Int) else B.aM os)=x+y:=by by_cases h0:p<0<;>simp[h0]<;>omega
  rw[hz] at hr;obtain⟨s1,n1,rfl,c1,o1,_,_⟩:=hr.form;have m1:=(hE5).n;try simp only[aH,aJ] at m1
  have m2:=(hE6).n;try simp only[aH,aJ] at m2
  have hg:h6.ext.get (h.n+1+1)=some (.cells ZL 0 none):=by rw[hE6.get _ aa,hE5.get _ aa];exact g2
  have hr0:h5.row (2*h.n)=some [.bool (decide (p<0)),sp]:=cJ ((hE5.get _ aa).trans g0);simp -dsimp (disch:=try exact dx) only[wpS,wpT,zE,zL,zA,gY,f4,hg,o1];refine⟨az rfl rfl rfl rfl (aO (av:=ptr (2*h.n) 0) (v:=.bool (decide (p<0))) ?_ ?_ ?_),?_⟩
  ·simp -dsimp (disch:=try exact dx) only[wpS]
  ·simp -dsimp (disch:=try exact dx) only[wpS,ld4,r0]
  ·simp -dsimp (disch:=try exact dx) only[wpS,ld4,hr0]
  ·simp -dsimp (disch:=try exact dx) only[wpS,wpT,zE,zL,zA,cM,f4];exact⟨((hE4.trans hE5).trans hE6).put aa _,hr.ai ((bj.refl _).put hg _)⟩
def OS (hv:cW h v x) (hw:cW h w y) (sx:bQ x) (sy:bQ y) :WV prog (.func (.func 242) #[] #[]) [v,w] h fun r h'=>Ext h h'∧cW h' r (x - y):=by
 obtain⟨s,n1,rfl,c1,o1,l1,z1⟩:=hv.form;obtain⟨t,n2,rfl,c2,o2,l2,z2⟩:=hw.form;refine enter (nt:=9) (rs:=[.cell 4 135]) Proofs.Tryz.func242 rfl rfl rfl ab ?_;simp -dsimp (disch:=try exact dx) only[wpS,zE,zA,kH];have ee : ∀o1 o2 o3,Ext h (((h.new o1).new o2).new o3):=fun o1 o2 o3=>(((Ext.refl h).new _).new _).new _;refine drawn [(0,[3])] ae ae rfl ?_;simp -dsimp (disch:=try exact dx) only[wpS,wpT,zE,zL,zA,cM];refine call (tt (hw.ai (ee _ _ _).ai)) ?_;rintro r h1 ⟨hE,hT⟩;simp -dsimp (disch:=try exact dx) only[wpS,zE];refine call (yG (hv.ai ((ee _ _ _).trans hE).ai) hT sx (by rw[bQ,Int.natAbs_neg];exact sy)) ?_;rintro r2 h2 ⟨hE2,hr⟩;obtain⟨s1,n3,rfl,c3,o3,l3,z3⟩:=hr.form;have m1:=(hE).n;try simp only[aH] at m1
 have m2:=(hE2).n;try simp only[aH,aJ] at m2
 have hg:h2.ext.get (h.n+1+1)=some (.cells ZL 0 none):=by rw[hE2.get _ aa,hE.get _ ab];simp (disch:=try exact dx) only[ar]
 have hr0:h1.row (2*h.n)=some [.bool (decide (x<0)),s]:=by rw[hE.row bd];simp -dsimp (disch:=try exact dx) only[wpS]
 simp -dsimp (disch:=try exact dx) only[wpS,wpT,zE,zL,zA,gY,hg,o3];refine⟨az rfl rfl rfl rfl (aO (av:=ptr (2*h.n) 0) (v:=.agg #[.bool (decide (x<0)),s]) rfl ?_ ?_),?_⟩
 ·simp -dsimp (disch:=try exact dx) only[wpS,wpT,zL,zA,cM];rfl
 ·simp -dsimp (disch:=try exact dx) only[wpS,wpT,zL,zA,cM,hr0];rfl
 ·simp -dsimp (disch:=try exact dx) only[wpS,wpT,zE,zL,zA,cM];refine⟨(((ee _ _ _).trans hE).trans hE2).put aa _,?_⟩;have:x + -y=x - y:=aa;rw[this] at hr ⊢;exact hr.ai ((bj.refl _).put hg _)
def hZ (hv:cW h v x) (hw:cW h w y) (sx:jd x) (sy:jd y) :WV prog (.func (.func 104) #[] #[]) [v,w] h fun r h'=>Ext h h'∧cW h' r (x*y):=by
 obtain⟨s,rfl,ds,hD,hN,hx⟩:=hv;obtain⟨t,rfl,es,hE,hM,hy⟩:=hw;have l1:ds.length≤500000:=NC hN (by rw[hx];exact sx);have l2:es.length≤500000:=NC hM (by rw[hy];exact sy);refine enter (nt:=16) (rs:=[.cell 4 135]) Proofs.Tryz.func104 rfl rfl rfl ab ?_;simp -dsimp (disch:=try exact dx) only[wpS,zE,zA,kH];have kk : ∀o1 o2 o3,Ext h (((h.new o1).new o2).new o3):=fun o1 o2 o3=>(((Ext.refl h).new _).new _).new _;refine drawn [(1,[10]),(3,[10])] ae ae rfl ?_;simp -dsimp (disch:=try exact dx) only[wpS,zE,l6,ld4,bn4,ni,uQ,zj];refine call (Er (hD.ai (kk _ _ _).ai) (hE.ai (kk _ _ _).ai) aa) ?_;rintro r h1 ⟨hE1,os,hO,hOv⟩;simp -dsimp (disch:=try exact dx) only[wpS,zE];refine call (jL hO _) ?_;rintro r2 h2 ⟨hE2,hr⟩;rw[hOv,hx,hy,sign_mul] at hr;obtain⟨s3,n3,rfl,c3,o3,_,_⟩:=hr.form;have m1:=(hE1).n;try simp only[aH] at m1
 have m2:=(hE2).n;try simp only[aH,aJ] at m2
 have hg:h2.ext.get (h.n+1+1)=some (.cells ZL 0 none):=by rw[hE2.get _ aa,hE1.get _ ab];exact ar _ _ rfl
 have r0:h1.row (2*h.n)=some [.bool (decide (x<0)),s]:=by rw[hE1.row bd];simp -dsimp (disch:=try exact dx) only[wpS]
 have r1:h1.row (2*(h.n+1))=some [.bool (decide (y<0)),t]:=by rw[hE1.row bd];simp -dsimp (disch:=try exact dx) only[wpS]
 simp -dsimp (disch:=try exact dx) only[wpS,wpT,zE,zL,zA,gY,hg,o3];refine⟨oj (az rfl rfl rfl rfl (aO (av:=ptr (2*h.n) 0) (v:=.bool (decide (x<0))) rfl ?_ ?_)) (az rfl rfl rfl rfl (aO (av:=ptr (2*(h.n+1)) 0) (v:=.bool (decide (y<0))) rfl ?_ ?_)),?_⟩
 ·simp -dsimp (disch:=try exact dx) only[wpS,ld4]
 ·simp -dsimp (disch:=try exact dx) only[wpS,ld4,r0]
 ·simp -dsimp (disch:=try exact dx) only[wpS,ld4]
 ·simp -dsimp (disch:=try exact dx) only[wpS,ld4,r1]
 simp -dsimp (disch:=try exact dx) only[wpS,wpT,zE,zL,zA,cM];exact⟨(((kk _ _ _).trans hE1).trans hE2).put aa _,hr.ai ((bj.refl _).put hg _)⟩
def C4 (hv:cW h v z):WV prog (.func (.func 92) #[] #[]) [v] h fun r h'=>Ext h h'∧r=KI (if z<0 then -1 else if z=0 then 0 else 1):=by
 obtain⟨s,n1,rfl,c1,o1,l1,z1⟩:=hv.form;refine enter (nt:=11) (rs:=[.tmp 2]) Proofs.Tryz.func92 rfl rfl rfl ab ?_;simp -dsimp (disch:=try exact dx) only[wpS,zE,l6,ld4];refine aG ?_ ?_<;>intro hc<;>simp only[aS,aV] at hc
 ·simp -dsimp (disch:=try exact dx) only[wpS,wpT,zE];refine⟨(Ext.refl h).new _,?_⟩;rw[aq hc]
 ·simp -dsimp (disch:=try exact dx) only[wpS,wpT,zE,ni,uQ,l1 jm];refine aG ?_ ?_<;>intro hc2<;>simp only[bT,zu,ne_eq] at hc2
  ·simp -dsimp (disch:=try exact dx) only[wpS,wpT,zE];refine⟨(Ext.refl h).new _,?_⟩;rw[ah aa,aq aa]
  ·simp -dsimp (disch:=try exact dx) only[wpS,wpT];refine⟨(Ext.refl h).new _,?_⟩;rw[ah aa,ah aa]
def Nc (hv:cW h v x) (hw:cW h w y) (sx:bQ x) (sy:bQ y) :WV prog (.func (.func 190) #[] #[]) [v,w] h fun r h'=>Ext h h'∧r=KI (if x<y then -1 else if x=y then 0 else 1):=by obtain⟨s,n1,rfl,c1,o1,l1,z1⟩:=hv.form;obtain⟨t,n2,rfl,c2,o2,l2,z2⟩:=hw.form;refine enter (nt:=9) (rs:=[.tmp 4]) Proofs.Tryz.func190 rfl rfl rfl ab ?_;simp -dsimp (disch:=try exact dx) only[wpS,wpT,zE,zL,zA,cM];have e2 : ∀o1 o2,Ext h ((h.new o1).new o2):=fun o1 o2=>((Ext.refl h).new _).new _;refine call (OS (hv.ai (e2 _ _).ai) (hw.ai (e2 _ _).ai) sx sy) ?_;rintro r h1 ⟨hE,hr⟩;simp -dsimp (disch:=try exact dx) only[wpS,zE];refine call (C4 hr) ?_;rintro _ h2 ⟨hE2,rfl⟩;simp -dsimp (disch:=try exact dx) only[wpS,zE];refine⟨((e2 _ _).trans hE).trans hE2,?_⟩;congr 1;split<;>split<;>(try split)<;>(try split)<;>omega
end

section
theorem qH (n:Nat):wdC n=((List.range 8).map fun i=>(wrd n i:Int)).map (Value.int .u64):=by simp[wdC]
variable {m n:Nat}
def Ty (hn:n<W8) (hm:m<W8) (h : ∀i,i<8→wrd n i=wrd m i):n=m:=by
 have key : ∀i,i≤8→n % 18446744073709551616 ^ i=m % 18446744073709551616 ^ i:=by
  intro i
  induction i with
  | zero=>intro _;rw[sF,Nat.mod_one,Nat.mod_one]
  | succ i ih=>intro hi;rw[BN,BN,ih aa,h i aa]
 have:=key 8 (aA _);rw[←Gg] at this;rwa [dR hn,dR hm] at this
theorem GH (hn:n<W8) (hm:m<W8):decide (((List.range 8).map fun i=>(wrd n i:Int))=((List.range 8).map fun i=>(wrd m i:Int)))=decide (n=m):=by
 rw[Bool.eq_iff_iff];simp only[aS];constructor;·intro h;refine Ty hn hm fun i hi=>?_;have:=kC (fun l=>l[i]?) h;simp[hi] at this;omega
 ·rintro rfl;rfl
theorem GG (hn:n<W8) (hm:m<W8) (ox oy:Operand):binop Proofs.Tryz.prog .eql 30 ox oy (.agg (wdC n).toArray) (.agg (wdC m).toArray)=some (.bool (decide (n=m))):=by rw[qH,qH,wT u30 u28 Ee Z0 _ _ _ _ ab ab,GH hn hm]
def Wt (hn:n<W8) (hm:m<W8) (ox oy:Operand):binop Proofs.Tryz.prog .neq 30 ox oy (.agg (wdC n).toArray) (.agg (wdC m).toArray)=some (.bool (!decide (n=m))):=by rw[qH,qH,Ez u30 u28 Ee Z0 _ _ _ _ ab ab,GH hn hm]
theorem rD {n:Int} (h:0≤n):bN n=n.toNat:=by simp[bN,h]
def Mw {n:Int} (hn:fS n) (i:Nat) (hi:i<8):(wrd (bN n) i:Int)=if i=0 then n % 18446744073709551616 else if n<0 then 18446744073709551615 else 0:=by
 by_cases h0:0≤n
 ·rw[bN,aq h0];by_cases hz:i=0
  ·subst hz;rw[aq rfl,wrd,sF,Nat.div_one];omega
  ·rw[ah hz,ah aa,lI (i:=1) aa aa];rfl
 ·rw[bN,ah h0];obtain⟨u,hu⟩ : ∃u:Nat,u=n.natAbs:=⟨_,rfl⟩;rw[←hu];have e:W8 - u=(18446744073709551616 - u)+18446744073709551616*(18446744073709551616 ^ 7 - 1):=by rw[Gg];omega
  by_cases hz:i=0;·subst hz;rw[aq rfl,wrd,sF,Nat.div_one,e,Cd];omega
  ·rw[ah hz,aq aa];obtain⟨k,rfl⟩ : ∃k,i=k+1:=⟨i - 1,aa⟩;have e3:((18446744073709551616 - u)+18446744073709551616*(18446744073709551616 ^ 7 - 1)) / 18446744073709551616=18446744073709551616 ^ 7 - 1:=by rw[Nat.add_mul_div_left _ _ aa,mM aa,fy]
   rw[wrd,Nat.pow_succ',←Gq,e,e3];have hk:k<7:=aa;have hk2:k=0∨k=1∨k=2∨k=3∨k=4∨k=5∨k=6:=aa;rcases hk2 with rfl|rfl|rfl|rfl|rfl|rfl|rfl<;>rfl
def qb (w0:Int) (i:Nat):List Value:=(List.range 8).map fun j=>.int .u64 (if j=0 then w0 else if j<i then 18446744073709551615 else 0)
theorem nO (w0:Int) (i:Nat):(qb w0 i).length=8:=by simp[qb]
theorem EJ (w0:Int):qb w0 1 = [.int .u64 w0,.int .u64 0,.int .u64 0,.int .u64 0,.int .u64 0,.int .u64 0,.int .u64 0,.int .u64 0]:=by simp[qb,sM]
def On (w0:Int) {i:Nat} (h0:0<i) (hi:i<8):(qb w0 i).set i (.int .u64 18446744073709551615)=qb w0 (i+1):=by
 apply iO;intro j;rw[re,nO];by_cases hij:i=j;·subst hij;rw[aq rfl,aq hi];simp[qb,hi,show ¬i=0 by omega]
 ·rw[ah hij];by_cases hj:j<8
  ·simp only[qb,dM,ui hj,jx];by_cases hz:j=0
   ·simp[hz]
   ·by_cases hlt:j<i
    ·simp[hz,hlt,show j<i+1 by omega]
    ·simp[hz,hlt,show ¬j<i+1 by omega]
  ·rw[cy (by rw[nO];omega),cy (by rw[nO];omega)]
theorem Oq {n:Int} (hn:fS n) (h0:n<0):qb (n % 18446744073709551616) 8=wdC (bN n):=by
 apply iO;intro j;by_cases hj:j<8;·rw[dI _ _ hj];simp only[qb,dM,ui hj,jx,K64,Mw hn j hj];simp[h0,hj]
 ·rw[cy (by rw[nO];omega),cy (by rw[aD];omega)]
theorem Oo {n:Int} (hn:fS n) (h0 : ¬n<0):qb (n % 18446744073709551616) 1=wdC (bN n):=by
 apply iO;intro j;by_cases hj:j<8
 ·rw[dI _ _ hj];simp only[qb,dM,ui hj,jx,K64,Mw hn j hj];by_cases hz:j=0
  ·simp[hz]
  ·simp[h0,hz]
 ·rw[cy (by rw[nO];omega),cy (by rw[aD];omega)]
set_option maxRecDepth 100000 in
def pP {h:IH} (n:Int) (hn:fS n):WV Proofs.Tryz.prog (.func (.func 106) #[] #[]) [KI n] h fun r h'=>Ext h h'∧r=pf n:=by
 have hw:IntKind.u64.wrap n=n % 18446744073709551616:=wo n;have hE : ∀a b c,Ext h (((h.new a).new b).put (h.n+1) c):=fun a b c=>(((Ext.refl h).new _).new _).put aa _;have fin : ∀h1:IH,Ext h h1→h.n+1<h1.n→h1.ext.get (h.n+1)=some (.cells (wdC (bN n)) 0 none)→h1.ext.get h.n=some (.cells [ZW,ZW,ZW,ZW,ZW,ZW,ZW,ZW] 0 none)→True:=fun _ _ _ _ _=>trivial;refine enter (nt:=17) (rs:=[.cell 2 30]) Proofs.Tryz.func106 rfl rfl rfl ab ?_;simp -dsimp (disch:=try exact dx) only[wpR];rw[mE];simp -dsimp (disch:=try exact dx) only[wpR,fa];rw[mE];simp -dsimp (disch:=try exact dx) only[wpR,wpT,zE,zL,zA,fa,An,kQ,WO,dw,hw];rw[mE];refine cut (fun fr2 h2=>Ext h h2∧ax fr2 2=some (ptr (2*h.n) 0)∧ax fr2 3=some (ptr (2*(h.n+1)) 0)∧h.n+1<h2.n∧h2.ext.get (h.n+1)=some (.cells (wdC (bN n)) 0 none)∧h2.ext.get h.n=some (.cells [ZW,ZW,ZW,ZW,ZW,ZW,ZW,ZW] 0 none)) ?_ ?_
 ·by_cases h0:n<0
  ·simp -dsimp (disch:=try exact dx) only[wpS,zE,zb h0];refine loop (fun m fr h2 => ∃i:Nat,i+m=8∧0<i∧ax fr 2=some (ptr (2*h.n) 0)∧ax fr 3=some (ptr (2*(h.n+1)) 0)∧ax fr 4=some (KN i)∧Ext h h2∧h.n+1<h2.n∧h2.ext.get (h.n+1)=some (.cells (qb (n % 18446744073709551616) i) 0 none)∧h2.ext.get h.n=some (.cells [ZW,ZW,ZW,ZW,ZW,ZW,ZW,ZW] 0 none)) 7 ⟨1,ab,ab,ab,ab,ab,hE _ _ _,ab,?_,?_⟩ ?_
   ·rw[EJ];exact aj _ _ rfl
   ·simp -dsimp (disch:=try exact dx) only[wpS]
   ·rintro m fr h2 ⟨i,him,hi0,f2,f3,f4,hE2,hlt,hg1,hg0⟩;simp -dsimp (disch:=try exact dx) only[wpS,zE,f4];refine aG ?_ ?_<;>intro hc<;>simp only[aS,aV] at hc
    ·have hi:i<8:=aa;have hsp:IH.bf (qb (n % 18446744073709551616) i) i [.int .u64 18446744073709551615]=qb (n % 18446744073709551616) (i+1):=by rw[jM (by rw[nO];exact hi),On _ hi0 hi]
     simp -dsimp (disch:=try exact dx) only[wpS,wpT,zE,zL,pN,rp,f3,f4,pN,hg1,nO,hsp];refine⟨m - 1,aa,i+1,aa,aa,by simp[f2],by simp[f3],ab,hE2.put aa _,by simpa using hlt,aj _ _ rfl,?_⟩;rw[au _ _ aa];exact hg0
    ·obtain rfl:i=8:=aa;simp -dsimp (disch:=try exact dx) only[wpS,wpT];exact⟨hE2,by simp[f2],by simp[f3],hlt,by rw[hg1,Oq hn h0],hg0⟩
  ·simp -dsimp (disch:=try exact dx) only[wpS,zE,zd h0];refine⟨hE _ _ _,ab,ab,ab,?_,?_⟩
   ·rw[←Oo hn h0,EJ];exact aj _ _ rfl
   ·simp -dsimp (disch:=try exact dx) only[wpS]
 ·rintro fr2 h2 ⟨hE2,f2,f3,hlt,hg1,hg0⟩;have gO:h2.row (2*(h.n+1))=some (wdC (bN n)):=by rw[mW];exact DP hg1
  have LK:IH.bf [ZW,ZW,ZW,ZW,ZW,ZW,ZW,ZW] 0 (wdC (bN n))=wdC (bN n):=jN (by rw[aD];rfl);simp -dsimp (disch:=try exact dx) only[wpS,wpT,zE,zL,zA,dw,bY,f2,f3,gO,hg0,aD,fW,aW,LK];exact⟨hE2.put aa _,rfl⟩
end
end Go.Id

/-
  Contracts: the reference's long integers: products of digits.
-/
import Derived.Test.YtnnmjocmapilaaaGreatOutlierOddsAk
set_option linter.unusedVariables false
set_option linter.unusedSimpArgs false
set_option linter.defProp false
set_option linter.deprecated false
namespace Go.Id
open Go
open Go renaming Operand→QY,Program→QX,TypeId→QZ,Value→QQ
open Nat renaming reduceAdd→zA,reduceEqDiff→zE,reduceLeDiff→zL
open Nat (reduceMul)
set_option maxHeartbeats 16000000
open Go.Proofs.Tryz (prog)
variable {k:Nat}
def Oo {os:List Nat} (x:Nat) (hk:k<os.length):IH.aI (os.map KN) k [KN x]=(os.set k x).map KN:=by rw[jz (by simpa using hk),Dc]
def WS (l:List Nat):(l.map KN).all aM=true:=by simp[aM]
def QS (n:Nat):cj n [KI 0]=(List.replicate n 0).map KN:=by rw[DZ,List.map_replicate];rfl
variable {h:IH}
def cP {b:Nat} {cs:List QQ} {e:Nat} {f:Option Nat} (hg:h.ext.get b=some (.cells cs e f)):h.row (2*b)=some cs:=by rw[mJ];simp only[IH.cells,hg]
variable {w v:QQ}{a b:List Nat}
def OM (ha:kO h v a) (hb:kO h w b) (hab:a.length+b.length≤1100000) :WV prog (.func (.func 221) #[] #[]) [v,w] h fun r h'=>Ext h h'∧Dig h' r (ay a*ay b):=by
 have eL:(a.length:Int)+(b.length:Int)=((a.length+b.length:Nat):Int):=byOmega;refine enter (nt:=68) (rs:=[.tmp 4]) Proofs.Tryz.func221 rfl rfl rfl aa ?_;simp -dsimp (disch:=omega) only[wpS,zE,zA,Pe,ha.1.len jk,hb.1.len jk,eL,QS];refine loop (fun m fr h1 => ∃(i:Nat) (os:List Nat),i+m=a.length∧Ext h h1∧h.n<h1.n∧h1.ext.get h.n=some (.cells (os.map KN) 1 none)∧os.length=a.length+b.length∧cG os∧ay os=a8 a i*ay b∧(∀k,i+b.length≤k→os.getD k 0=0) ∧aj fr 0=some v∧aj fr 1=some w∧aj fr 5=some (.slice (some ⟨2*h.n,0,none⟩) (a.length+b.length) (2*(a.length+b.length)+1))∧aj fr 6=some (KN i)) a.length ⟨0,List.replicate (a.length+b.length) 0,byOmega,(Ext.refl h).new _,aa,aq _ _ rfl,aa,cG.cj _,by rw[nm];simp[a8],fun k _=>nG _ _,aa⟩ ?_;rintro m fr h1 ⟨i,os,him,hE,hn,hg,hol,hod,hov,hoz,f0,f1,f5,f6⟩;simp -dsimp (disch:=omega) only[wpS,zE,f0,f6,ha.1.len jk];refine az ?_ ?_<;>intro hc<;>simp only[aJ,aV] at hc
 ·have hi:i<a.length:=byOmega;have da:=cM ha.2.1 i;generalize hx:a.getD i 0=x at *;simp -dsimp (disch:=omega) only[wpS,wpT];refine loop (fun m2 fr h2 => ∃(j c:Nat) (os2:List Nat),j+m2=b.length∧Ext h h2∧h.n<h2.n∧h2.ext.get h.n=some (.cells (os2.map KN) 1 none)∧os2.length=a.length+b.length∧cG os2∧c<4294967296∧ay os2+c*4294967296 ^ (i+j)=a8 a i*ay b+x*a8 b j*4294967296 ^ i∧(∀k,i+b.length≤k→os2.getD k 0=0) ∧aj fr 0=some v∧aj fr 1=some w∧aj fr 5=some (.slice (some ⟨2*h.n,0,none⟩) (a.length+b.length) (2*(a.length+b.length)+1))∧aj fr 6=some (KN i)∧aj fr 7=some (K64 c)∧aj fr 8=some (KN j)) b.length ⟨0,0,os,byOmega,hE,hn,hg,hol,hod,byOmega,by rw[hov];simp[a8],hoz,by simp[f0,f1,f5,f6]⟩ ?_;clear hE hn hg hol hod hov hoz f0 f1 f5 f6;rintro m2 fr h2 ⟨j,c,os2,hjm,hE,hn,hg,hol,hod,hc4,hov,hoz,f0,f1,f5,f6,f7,f8⟩;simp -dsimp (disch:=omega) only[wpS,zE,f1,f8,hb.1.len jk];refine az ?_ ?_<;>intro hc2<;>simp only[aJ,aV] at hc2
  ·have hj:j<b.length:=byOmega;have db:=cM hb.2.1 j;have doo:=cM hod (i+j);have hr:h2.row (2*h.n)=some (os2.map KN):=cP hg;have gx:=get_some hi;rw[hx] at gx;have gy:=get_some hj;have go:=get_some (show i+j<os2.length by omega);generalize hy:b.getD j 0=y at *;generalize ho:os2.getD (i+j) 0=o at *;have hp:x*y≤4294967295*4294967295:=fB byOmega byOmega;obtain⟨p,hpp⟩:=bm (x*y);rw[←hpp] at hp;have eM:(x:Int)*(y:Int)=(p:Int):=by rw[hpp];simp
   have eI:(i:Int)+(j:Int)=((i+j:Nat):Int):=byOmega;obtain⟨s,hs⟩:=bm (c+o+p);have eS:(c:Int)+(o:Int)+(p:Int)=(s:Int):=byOmega;have eR:(s:Int) % 4294967296=((s % 4294967296:Nat):Int):=byOmega;have eQ:(s:Int) / 4294967296=((s / 4294967296:Nat):Int):=byOmega;have spl:=Oo (s % 4294967296) (show i+j<os2.length by omega);have gor:(os2.map KN)[i+j]?=some (KN o):=by rw[cm,go];rfl
   simp -dsimp (maxSteps:=1000000) (disch:=first|omega|(simp only[bj,bd];omega)|decide +kernel|(repeat first|rw[bj]|rw[bd])) only[wpS,wpT,zE,mP,ld3,Ks,Fl,st3,f0,f1,f5,f6,f7,f8,ha.1.idx mP hi,ha.1.ld hE.ae (P:=prog) (t:=3) (c:=i) (by simpa using hi) ag3,hb.1.idx mP hj,hb.1.ld hE.ae (P:=prog) (t:=3) (c:=j) (by simpa using hj) ag3,dI,gx,gy,hr,gor,eM,eI,eS,eR,eQ,hg,spl,cd,hol];refine⟨m2 - 1,byOmega,j+1,s / 4294967296,os2.set (i+j) (s % 4294967296),byOmega,hE.put (ar _) _,hn,ak _ _ rfl,by rw[dV,hol],hod.set _ byOmega,byOmega,?_,?_,by simp[f0,f1,f5,f6]⟩
   ·have hv:=lq (s % 4294967296) (show i+j<os2.length by omega);rw[ho] at hv;have hsd:s % 4294967296+s / 4294967296*4294967296=c+o+x*y:=byOmega;rw[a8,hy];have e1:4294967296 ^ (i+(j+1))=4294967296 ^ (i+j)*4294967296:=by rw[←jS,dU]
    have e2:4294967296 ^ (i+j)=4294967296 ^ i*4294967296 ^ j:=dC _ _ _;rw[e1];have e3:s % 4294967296*4294967296 ^ (i+j)+s / 4294967296*(4294967296 ^ (i+j)*4294967296)=(c+o+x*y)*4294967296 ^ (i+j):=by rw[←hsd];grind
    have e4:x*(a8 b j+y*4294967296 ^ j)*4294967296 ^ i=x*a8 b j*4294967296 ^ i+x*y*4294967296 ^ (i+j):=by rw[e2];grind
    have e5:(c+o+x*y)*4294967296 ^ (i+j)=c*4294967296 ^ (i+j)+o*4294967296 ^ (i+j)+x*y*4294967296 ^ (i+j):=fO;omega
   ·intro k hk;rw[fW byOmega,ad byOmega];exact hoz k hk
  ·obtain rfl:j=b.length:=byOmega;have hz:=hoz (i+b.length) (ar _);have eI:(i:Int)+(b.length:Int)=((i+b.length:Nat):Int):=byOmega;have spl:=Oo c (show i+b.length<os2.length by omega);simp -dsimp (disch:=omega) only[wpS,wpT,zE,mP,Fl,st3,f1,f5,f6,f7,hb.1.len jk,eI,hg,spl,cd,hol];refine⟨m - 1,byOmega,i+1,os2.set (i+b.length) c,byOmega,hE.put (ar _) _,hn,ak _ _ rfl,by rw[dV,hol],hod.set _ byOmega,?_,?_,by simp[f0,f1,f5]⟩
   ·have hv:=lq c (show i+b.length<os2.length by omega);rw[hz,iC,fR] at hv;rw[hv,hov,a8,hx,show a8 b b.length=ay b from rfl];grind
   ·intro k hk;rw[fW byOmega,ad byOmega];exact hoz k byOmega
 ·obtain rfl:i=a.length:=byOmega;have hD:kO h1 (.slice (some ⟨2*h.n,0,none⟩) (a.length+b.length) (2*(a.length+b.length)+1)) os:=by refine⟨?_,hod,byOmega⟩;rw[hol];exact eh hg hn aP (by rw[cd,hol];omega) byOmega byOmega
  simp -dsimp (disch:=omega) only[wpS,wpT,zE,f5];refine call (Bf hD) ?_;rintro r h2 ⟨rfl,hr⟩;simp -dsimp (disch:=omega) only[wpS,zE];rw[hov] at hr;exact⟨hE,hr⟩
def Vm {d:Nat} (ha:kO h v a) (la:a.length≤1000001) (hd:d≤1) :WV prog (.func (.func 255) #[] #[]) [v,KI d] h fun r h'=>Ext h h'∧Dig h' r (2*ay a+d):=by
 refine enter (nt:=33) (rs:=[.tmp 4]) Proofs.Tryz.func255 rfl rfl rfl aa ?_;simp -dsimp (disch:=omega) only[wpS,zA];refine loop (fun m fr h1 => ∃(i c:Nat) (os:List Nat) (out:QQ),i+m=a.length∧aj fr 0=some v∧aj fr 1=some (KN c)∧aj fr 5=some out∧aj fr 6=some (KN i)∧c≤1∧os.length=i∧cG os∧ay os+c*4294967296 ^ i=2*a8 a i+d∧Acc h1 h.n 1 out i (os.map KN)∧Ext h h1) a.length ⟨0,d,[],.slice none 0 0,aa,aa,aa,aa,aa,hd,rfl,fun d hd=>(by cases hd),by simp[a8,ay],Acc.nil _ _ byOmega,Ext.refl _⟩ ?_;rintro m fr h1 ⟨i,c,os,out,him,f0,f1,f5,f6,hcc,hos,hdd,hv,hA,hE⟩;simp -dsimp (disch:=omega) only[wpS,zE,f0,f6,ha.1.len jk];refine az ?_ ?_<;>intro hc<;>simp only[aJ,aV] at hc
 ·have hi:i<a.length:=byOmega;have da:=cM ha.2.1 i;have gx:=get_some hi;generalize hx:a.getD i 0=x at *;obtain⟨s,hs⟩:=bm (2*x+c);have eS:2*(x:Int)+(c:Int)=(s:Int):=byOmega;have eR:(s:Int) % 4294967296=((s % 4294967296:Nat):Int):=byOmega;have eQ:(s:Int) / 4294967296=((s / 4294967296:Nat):Int):=byOmega;obtain⟨fF,h',hap,hA',hG,hE'⟩:=hA.Gq (P:=prog) (t:=25) FH (x:=KN (s % 4294967296)) rfl byOmega hE.n hE (ar _);simp -dsimp (disch:=omega) only[wpS,wpT,zE,zL,zA,Ah,oj,f0,f1,f5,f6,ha.1.idx mP hi,ha.1.ld hE.ae (P:=prog) (t:=3) (c:=i) (by simpa using hi) ag3,dI,gx,eS,eR,eQ,hap];refine⟨m - 1,byOmega,i+1,s / 4294967296,os ++ [s % 4294967296],fF,byOmega,by simp[f0],aa,aa,aa,byOmega,by simp[hos],hdd.append byOmega,?_,by rw[←zO];exact hA',hE'⟩;rw[mh,a8,hx,hos,dU];have hsd:s % 4294967296+s / 4294967296*4294967296=2*x+c:=byOmega;have e3:s % 4294967296*4294967296 ^ i+s / 4294967296*(4294967296 ^ i*4294967296)=(2*x+c)*4294967296 ^ i:=by rw[←hsd];grind
  have e4:(2*x+c)*4294967296 ^ i=2*(x*4294967296 ^ i)+c*4294967296 ^ i:=fO;omega
 ·obtain rfl:i=a.length:=byOmega;obtain⟨fF,h',hap,hA',hG,hE'⟩:=hA.Gq (P:=prog) (t:=25) FH (x:=KN c) rfl byOmega hE.n hE (ar _);simp -dsimp (disch:=omega) only[wpS,wpT,zE,zL,zA,Ah,oj,f1,f5,hap];have hD:kO h' fF (os ++ [c]):=by refine⟨?_,hdd.append byOmega,bq⟩;have:=hA'.sl;rw[zO] at this;rw[show(os ++ [c]).length=a.length+1 by simp[hos]];exact this
  refine call (Bf hD) ?_;rintro r h2 ⟨rfl,hr⟩;simp -dsimp (disch:=omega) only[wpS,zE];refine⟨hE',?_⟩;rw[mh,hos,hv] at hr;exact hr
def XE :Dig h (.slice none 0 0) 0:=⟨[],⟨cA.nil _ aP,fun d hd=>(by cases hd),aa⟩,.inl rfl,rfl⟩
def kO.dig {ds:List Nat} (d:kO h v ds) (n:Norm ds):Dig h v (ay ds):=⟨ds,d,n,rfl⟩
def FG {P:Program} {t:TypeId} {sz bytes:Nat} (hT:mR P t=some (sz,bytes)) {x:QQ} {m:Nat} {new:List QQ} (sx:cA h sz x m new) (hc:new.all aM=true) (hsz:m*(bytes+1)≤1099511627776) (hk:h.ext.get k=some (.cells [] sz none)) (hkn:k<h.n) :∃v h',append P h t (.slice (some ⟨2*k,0,none⟩) 0 1) x=some (v,h')∧Ext h h'∧cA h' sz v m new:=by
 rcases gW m with rfl|hm
 ·have Cj:new = []:=fC.1 (by rw[sx.2.1,iC]);refine⟨.slice (some ⟨2*k,0,none⟩) 0 1,h,?_,Ext.refl _,sx.1,sx.2.1,.inr ⟨2*k,0,1,rfl,.inr ⟨byOmega,byOmega,[],.inr ⟨byOmega,byOmega,none,?_⟩,?_,?_,aa⟩⟩⟩
  case refine_2=>rw[show 2*k / 2=k by omega];exact hk
  case refine_3=>exact cP hk
  case refine_4=>rw[Cj];simp
  unfold mR at hT;split at hT
  case h_2=>cases hT
  rename_i e hu;split at hT
  case h_2=>cases hT
  rename_i zs h1 h2 h3;obtain⟨a,k,rfl⟩:=sx.form;simp only[Id.append,hu,h1,h2,h3,lenOf,tB,bP]
 ·exact⟨_,_,oF hT h sx.now hm hc hsz (2*k) 0,(Ext.refl h).new _,(Am sx.1 sx.2.1 hm).sl⟩
def Md (ha:kO h v a) (hb:kO h w b) (na:Norm a) (nb:Norm b) (hb0:ay b≠0) (la:a.length≤1000000) (lb:b.length≤1000000) :WV prog (.func (.func 219) #[] #[]) [v,w] h fun r h'=>Ext h h' ∧ ∃q t,r=.tuple #[q,t]∧Dig h' q (ay a / ay b)∧Dig h' t (ay a % ay b):=by
 have hbl:0<b.length:=by
  rcases gW b.length with h0|h0;·rw[fC] at h0;subst h0;exact absurd rfl hb0
  ·exact h0
 have e1:(b.length:Int) - 1=((b.length - 1:Nat):Int):=byOmega;refine enter (nt:=74) (rs:=[.tmp 4,.tmp 5]) Proofs.Tryz.func219 rfl rfl rfl aa ?_;simp -dsimp (disch:=omega) only[wpS,zE,zA,ha.1.len jk,hb.1.len jk,e1];refine az ?_ ?_<;>intro hc<;>simp only[aJ,aV] at hc;·have hlt:=nC ha.2.1 nb (show a.length<b.length by omega);have eN:Ext h (h.new (.cells [] 1 none)):=(Ext.refl h).new _;obtain⟨r,h2,hap,hE2,hs2⟩:=FG (P:=prog) (t:=25) FH (ha.1.ext eN) (WS _) byOmega (aq h _ rfl) aa;simp -dsimp (disch:=omega) only[wpS,wpT,zE,reduceMul,Ah,oj,hap];exact⟨eN.trans hE2,_,_,rfl,by rw[mw hlt];exact XE,by rw[eP hlt];exact(show kO h2 r a from⟨hs2,ha.2⟩).dig na⟩
 ·have e2:(a.length:Int) - ((b.length - 1:Nat):Int)=((a.length - (b.length - 1):Nat):Int):=byOmega;have hq0:0<a.length - (b.length - 1):=byOmega;generalize hql:a.length - (b.length - 1)=ql at *;have eN1:Ext h ((h.new (.cells (cj ql [KI 0]) 1 none)).new (.cells [] 1 none)):=((Ext.refl h).new _).new _;obtain⟨r1,hr1,hs1⟩:=ha.1.slice eN1.ae (P:=prog) (t:=25) u25 sz3 (l:=ql) (m:=a.length) byOmega (ar _) (lo:=some (KN ql)) (hi:=none) (kQ (k:=.i64) byOmega) (fun c hc=>rfl);have hsl:a.length - ql=b.length - 1:=byOmega;have hsc:((a.map KN).drop (ql*1)).take ((a.length - ql)*1)=(a.drop ql).map KN:=by rw[dG,dG,dr aa,List.map_drop]
  rw[hsc] at hs1;obtain⟨r2,h3,hap,hE3,hs3⟩:=FG (P:=prog) (t:=25) FH (hs1.ext eN1) (WS _) byOmega (k:=h.n+1) (aq _ _ aa) aa;have e3:(a.length:Int) - (ql:Int)=((b.length - 1:Nat):Int):=byOmega;have e4:(ql:Int) - 1=((ql - 1:Nat):Int):=byOmega;simp -dsimp (disch:=omega) only[wpS,wpT,zE,reduceMul,Ah,Pe,ln25,oj,ha.1.len jk,e2,e4,hr1,hap];have hbB:=lJ hb.2.1;have hE30:Ext h h3:=eN1.trans hE3;have n3:h.n+2≤h3.n:=hE3.n;have hg3:h3.ext.get h.n=some (.cells ((List.replicate ql 0).map KN) 1 none):=by rw[hE3.get _ (by simp only[bj];omega),aE _ _ aa,aq _ _ rfl,QS]
  have Zf1:a.length - ql=(a.drop ql).length:=aa;have hlen2:(a.drop ql).length=b.length - 1:=bq;have hD3:kO h3 r2 (a.drop ql):=⟨by rw[←Zf1];exact hs3,ha.2.1.drop ql,byOmega⟩;have hV3:ay (a.drop ql)=ay a / 2 ^ (32*ql):=by rw[SE ha.2.1,Q3]
  have Zdz:ay (a.drop ql)<ay b:=nC (ha.2.1.drop ql) nb byOmega;have st:KO (ay a) (ay b) (32*ql) (ay (List.replicate ql 0)) (ay (a.drop ql)):=by rw[nm,hV3];rw[hV3] at Zdz;exact PQ Zdz
  refine loop (fun m fr h1 => ∃(qs:List Nat) (rv:QQ) (r:Nat),m≤ql∧Ext h h1∧h.n<h1.n∧h1.ext.get h.n=some (.cells (qs.map KN) 1 none)∧qs.length=ql∧cG qs∧Dig h1 rv r∧KO (ay a) (ay b) (32*m) (ay qs) r ∧aj fr 0=some v∧aj fr 1=some w∧aj fr 7=some (.slice (some ⟨2*h.n,0,none⟩) ql (2*ql+1))∧aj fr 8=some rv∧aj fr 9=some (KI ((m:Int) - 1))) ql ⟨List.replicate ql 0,r2,ay (a.drop ql),ar _,hE30,byOmega,hg3,aa,cG.cj _,hD3.dig (na.drop ql),st,aa,aa,aa,aa,by rw[tp,ah rfl,e4]⟩ ?_;clear st hD3 hg3 hE30 hs3 hE3 hap hs1 hr1 eN1 hV3 Zdz n3;rintro m fr h1 ⟨qs,rv,r,hm,hE,hn,hg,JX,hqd,hR,hJ,f0,f1,f7,f8,f9⟩;simp -dsimp (disch:=omega) only[wpS,zE,f9];refine az ?_ ?_<;>intro hc2<;>simp only[aJ,aV] at hc2
  ·obtain⟨i,rfl⟩ : ∃i,m=i+1:=⟨m - 1,byOmega⟩;have e6:(((i+1:Nat):Int) - 1)=(i:Int):=byOmega;rw[e6] at f9;have hi:i<a.length:=byOmega;simp -dsimp (disch:=omega) only[wpS,wpT];refine loop (fun k fr h2 => ∃(qs:List Nat) (rv:QQ) (r:Nat),k≤32∧Ext h h2∧h.n<h2.n∧h2.ext.get h.n=some (.cells (qs.map KN) 1 none)∧qs.length=ql∧cG qs∧Dig h2 rv r∧KO (ay a) (ay b) (32*i+k) (ay qs) r ∧aj fr 0=some v∧aj fr 1=some w∧aj fr 7=some (.slice (some ⟨2*h.n,0,none⟩) ql (2*ql+1))∧aj fr 8=some rv∧aj fr 9=some (KN i)∧aj fr 10=some (KI ((k:Int) - 1))) 32 ⟨qs,rv,r,ar _,hE,hn,hg,JX,hqd,hR,hJ,by simp[f0,f1,f7,f8,f9]⟩ ?_;clear hE hn hg JX hqd hR hJ f0 f1 f7 f8 f9;rintro k fr h2 ⟨qs,rv,r,hk,hE,hn,hg,JX,hqd,hR,hJ,f0,f1,f7,f8,f9,f10⟩;simp -dsimp (disch:=omega) only[wpS,zE,f10];refine az ?_ ?_<;>intro hc3<;>simp only[aJ,aV] at hc3
   ·obtain⟨k,rfl⟩ : ∃j,k=j+1:=⟨k - 1,byOmega⟩;have e7:(((k+1:Nat):Int) - 1)=(k:Int):=byOmega;rw[e7] at f10;have da:=cM ha.2.1 i;have gx:=get_some hi;have ZdK:=Zef ha.2.1 (i:=i) (show k<32 by omega);have Zaq:=Yp hqd (i:=i) (show k<32 by omega) hJ.2.1;generalize hx:a.getD i 0=x at *;have eB:((qQ x k:Nat):Int) % 2=((x / 2 ^ k % 2:Nat):Int):=by rw[qQ,kV];omega
    have hd1:x / 2 ^ k % 2≤1:=byOmega;have hns:=ZY x k;generalize hdd:x / 2 ^ k % 2=d at *;simp -dsimp (disch:=omega) only[wpS,wpT,zE,f0,f8,f9,f10,ha.1.idx mP hi,ha.1.ld hE.ae (P:=prog) (t:=3) (c:=i) (by simpa using hi) ag3,dI,gx,eB];obtain⟨rs,hrD,hrN,hrv⟩:=hR;have hrl:rs.length≤b.length:=hrN.mc hb.2.1 (by rw[hrv];exact pO hJ.2.2);refine call (Vm hrD byOmega hd1) ?_;rintro r3 h3 ⟨hE3,rs2,Zds,hrN2,W0⟩;rw[hrv] at W0;simp -dsimp (disch:=omega) only[wpS,zE,f1,f8];refine call (D8 Zds (hb.ae (hE.trans hE3).ae) hrN2 nb) ?_;rintro _ h4 ⟨rfl,c,rfl,hc1,hc2,hc3,hc4⟩;rw[W0] at hc1 hc2;have hE4:=hE.trans hE3;have hg4:=(hE3.get _ hn).trans hg;have hn4:h.n<h4.n:=cV hn hE3.n;have e8:32*i+(k+1)=32*i+k+1:=rfl;rw[e8] at hJ;have ehc:ay a / 2 ^ (32*i+k) % 2=d:=ZdK.symm;simp -dsimp (disch:=omega) only[wpS,zE];refine az (fun hb5=>?_) (fun hb5=>?_)
    ·simp only[aJ] at hb5;have hge:ay b≤2*r+d:=byOmega;have hi2:i<qs.length:=byOmega;have gq:=get_some hi2;generalize hqx:qs.getD i 0=y at *;have gqr:(qs.map KN)[i]?=some (KN y):=by rw[cm,gq];rfl
     simp -dsimp (disch:=try exact dx) only[wpS,wpT,zE,f1,f8];refine call (Rs Zds (hb.ae hE4.ae) nb (by rw[W0];exact hge)) ?_;rintro r5 h5 ⟨⟨hE5,hr5⟩,hbk⟩;rw[W0] at hr5;have hg5:=(hE5.get _ hn4).trans hg4;have hr:=cP hg5;have hn5:h.n<h5.n:=cV hn4 hE5.n;have q0:0≤((2 ^ k:Nat):Int):=AE _;have eA:(y:Int)+((2 ^ k:Nat):Int)=((y+2 ^ k:Nat):Int):=byOmega;have spl:=Oo (y+2 ^ k) hi2;simp -dsimp (disch:=try exact dx) only[wpS,wpT,zE,mP,ld3,st3,f7,f9,f10,hr,gqr,eA,hg5,spl,cd,JX];have hJ2:=Xz hJ (by rw[ehc];exact hge);rw[ehc] at hJ2;have hv:=lq (y+2 ^ k) hi2;rw[hqx] at hv;have e9:ay (qs.set i (y+2 ^ k))=ay qs+2 ^ (32*i+k):=by
      have:(y+2 ^ k)*4294967296 ^ i=y*4294967296 ^ i+2 ^ (32*i+k):=by rw[cW,Q3,←dC,xW k]
      omega
     obtain⟨ds5,hd5,hn5',hv5⟩:=hr5;have hR5:Dig (h5.put h.n (.cells ((qs.set i (y+2 ^ k)).map KN) 1 none)) r5 (2*r+d - ay b):=⟨ds5,⟨hd5.1.putAt (hbk _ hn4) _,hd5.2⟩,hn5',hv5⟩;exact⟨k,byOmega,qs.set i (y+2 ^ k),r5,2*r+d - ay b,byOmega,(hE4.trans hE5).put (ar _) _,hn5,ak _ _ rfl,by rw[dV,JX],hqd.set _ Zaq,hR5,by rw[e9];exact hJ2,by simp[f0],by simp[f1],by simp[f7],aa,by simp[f9],aa⟩
    ·simp only[aV] at hb5;have hlt:2*r+d<ay b:=byOmega;have hJ2:=Ul hJ (by rw[ehc];exact hlt);rw[ehc] at hJ2;simp -dsimp (disch:=omega) only[wpS,wpT,zE,f10];exact⟨k,byOmega,qs,r3,2*r+d,byOmega,hE4,hn4,hg4,JX,hqd,⟨rs2,Zds,hrN2,W0⟩,hJ2,by simp[f0,f1,f7,f9]⟩
   ·obtain rfl:k=0:=byOmega;simp -dsimp (disch:=omega) only[wpS,wpT,zE,f9];exact⟨i,byOmega,qs,rv,r,byOmega,hE,hn,hg,JX,hqd,hR,hJ,by simp[f0,f1,f7,f8]⟩
  ·obtain rfl:m=0:=byOmega;obtain⟨e10,e11⟩:=XA hJ;have hD:kO h1 (.slice (some ⟨2*h.n,0,none⟩) ql (2*ql+1)) qs:=by refine⟨?_,hqd,byOmega⟩;rw[JX];exact eh hg hn aP (by rw[cd,JX];omega) byOmega byOmega
   simp -dsimp (disch:=omega) only[wpS,wpT,zE,f7];refine call (Bf hD) ?_;rintro r4 h2 ⟨rfl,hr4⟩;simp -dsimp (disch:=omega) only[wpS,zE,f8];exact⟨hE,_,_,rfl,by rw[←e10];exact hr4,by rw[←e11];exact hR⟩
def kL (h:IH) (v:QQ) (ds:List Nat):Prop:=cA h 1 v ds.length (ds.map K64)∧B.cG ds∧ds.length≤1100000
def Wrd (h:IH) (v:QQ) (x:Nat):Prop:=∃ds,kL h v ds∧B.Norm ds∧B.ay ds=x
variable {h':IH}{ds:List Nat}{h:IH}{v:QQ}
def kL.ae (d:kL h v ds) (e:aX h h'):kL h' v ds:=⟨d.1.ae e,d.2⟩
def Wrd.ae {x:Nat} (d:Wrd h v x) (e:aX h h'):Wrd h' v x:=let ⟨ds,a,b⟩:=d;⟨ds,a.ae e,b⟩
variable {k:Nat}
def kL.putAt (d:kL h v ds) (hk:gj v≠some (2*k)) (o:cB):kL (h.put k o) v ds:=⟨d.1.putAt hk o,d.2⟩
def bW (h:IH) (v:QQ) (z:Int):Prop:=∃s,v=.agg #[.bool (decide (z<0)),s]∧Wrd h s z.natAbs
variable {z:Int}
def bW.ae (d:bW h v z) (e:aX h h'):bW h' v z:=let ⟨s,a,b⟩:=d;⟨s,a,b.ae e⟩
def bW.form (d:bW h v z) : ∃s n,v=.agg #[.bool (decide (z<0)),s]∧s.cells = #[s]∧aM s=true∧(∀{P:Program} {t:TypeId} (_:dE P (some t)=true) (h':IH),qB P h' t s=some (.int .i64 ((n:Nat):Int)))∧(n=0↔z=0):=by obtain⟨s,rfl,ds,hD,hN,hx⟩:=d;refine⟨s,ds.length,rfl,hD.1.cells,hD.1.cok,fun hT h'=>hD.1.len hT h',?_⟩;have:=hN.nW;rw[hx] at this;rw[fC,←this];omega
def RC (l:List Nat):(l.map K64).all aM=true:=by simp[aM]
theorem sJ (n:Nat):cj n [.int .u64 0]=(List.replicate n 0).map K64:=by rw[DZ,List.map_replicate];rfl
def nR {os:List Nat} (x:Nat) (hk:k<os.length):IH.aI (os.map K64) k [K64 x]=(os.set k x).map K64:=by rw[jz (by simpa using hk),Dc]
def DA (hd:kL h v ds) (b:Bool):WV prog (.func (.func 193) #[] #[]) [.bool b,v] h fun r h'=>(Ext h h'∧bW h' r (if b then -(B.ay ds:Int) else B.ay ds)) ∧ ∀k o,gj v≠some (2*k)→bW (h'.put k o) r (if b then -(B.ay ds:Int) else B.ay ds):=by
 have hb:=hd.2.2;refine enter (nt:=29) (rs:=[.cell 4 135]) Proofs.Tryz.func193 rfl rfl rfl aa ?_;simp -dsimp (disch:=omega) only[wpS,zE,zA,mT,hd.1.len jd];refine loop (fun m fr h1=>h1=h.new (.cells [.bool false,.slice none 0 0] 0 none)∧m≤ds.length∧aj fr 5=some (KN m)∧aj fr 0=some (.bool b)∧aj fr 1=some v∧aj fr 4=some (ptr (2*h.n) 0) ∧ ∀j,m≤j→ds.getD j 0=0) ds.length ⟨rfl,ar _,aa,aa,aa,aa,fun j hj=>B.ff hj⟩ ?_;rintro m fr h1 ⟨rfl,hm,f5,f0,f1,f4,hz⟩;have e1:Ext h (h.new (.cells [.bool false,.slice none 0 0] 0 none)):=(Ext.refl h).new _;have fin : ∀n:Nat,n≤ds.length→(∀j,n≤j→ds.getD j 0=0)→(n=0∨ds.getD (n - 1) 0≠0) → ∃r,dY prog (h.new (.cells [.bool false,.slice none 0 0] 0 none)) 133 v none (some (KN n)) none=some r∧gj r=gj v∧kL (h.new (.cells [.bool false,.slice none 0 0] 0 none)) r (ds.take n)∧B.Norm (ds.take n)∧B.ay (ds.take n)=B.ay ds∧(0<n↔0<B.ay ds):=by
  intro n hn hz hne;obtain⟨r,hr,hs⟩:=hd.1.slice e1.ae (P:=prog) (t:=133) Zb I9 (l:=0) (m:=n) (dT _) hn (lo:=none) (hi:=some (KN n)) rfl (fun c hc=>kQ (k:=.i64) byOmega);have hl:(ds.take n).length=n:=by simp[hn]
  have hN:B.Norm (ds.take n):=by
   rcases hne with rfl|hne;·left;simp
   ·by_cases h0:n=0
    ·subst h0;left;simp
    ·right;rw[hl,B.tg,ah byOmega];exact hne
  have hv:=B.AH hn hz;refine⟨r,hr,BC Zb hr,⟨?_,hd.2.1.take n,by rw[hl];omega⟩,hN,hv,?_⟩
  ·rw[hl];have hs':cA h 1 r n ((ds.take n).map K64):=by simpa [tJ] using hs
   exact hs'.ext e1
  ·have hz:=hN.nW;rw[hv] at hz;constructor
   ·intro h0;apply lT;intro h1;have:=hz.1 h1;rw[this] at hl;simp at hl;omega
   ·intro h0;apply lT;intro h1;rw[h1] at hz;have:=hz.2 aa;omega
 have out : ∀(n:Nat) (r:QQ),gj r=gj v→kL (h.new (.cells [.bool false,.slice none 0 0] 0 none)) r (ds.take n)→B.Norm (ds.take n)→B.ay (ds.take n)=B.ay ds→(0<n↔0<B.ay ds) → ∀c:Bool,c=(b && decide (0<n)) → (Ext h ((h.new (.cells [.bool false,.slice none 0 0] 0 none)).put h.n (.cells [.bool c,r] 0 none))∧bW ((h.new (.cells [.bool false,.slice none 0 0] 0 none)).put h.n (.cells [.bool c,r] 0 none)) (.agg #[.bool c,r]) (if b then -(B.ay ds:Int) else B.ay ds)) ∧ ∀k o,gj v≠some (2*k)→bW (((h.new (.cells [.bool false,.slice none 0 0] 0 none)).put h.n (.cells [.bool c,r] 0 none)).put k o) (.agg #[.bool c,r]) (if b then -(B.ay ds:Int) else B.ay ds):=by
  rintro n r hbk hW hN hv hp c rfl;have hk:=hW.ae ((aX.refl _).put (aq h _ rfl) (.cells [.bool (b && decide (0<n)),r] 0 none));have hc:(b && decide (0<n))=decide ((if b then -(B.ay ds:Int) else B.ay ds)<0):=by rw[show decide (0<n)=decide (0<B.ay ds) from xN.2 hp];cases b<;>simp<;>omega
  have ha:(if b then -(B.ay ds:Int) else (B.ay ds:Int)).natAbs=B.ay ds:=by cases b<;>simp
  refine⟨⟨e1.put (ar _) _,r,by rw[hc],ds.take n,hk,hN,by rw[ha,hv]⟩,fun k o hbv=>⟨r,by rw[hc],ds.take n,hk.putAt (by rw[hbk];exact hbv) o,hN,by rw[ha,hv]⟩⟩
 rcases gW m with rfl|hp
 ·obtain⟨r,hr,hbk,hW,hN,hv,hpp⟩:=fin 0 hm hz (.inl rfl);have:=out 0 r hbk hW hN hv hpp false aa;cases b
  ·simp -dsimp (disch:=omega) only[wpS,wpT,zE,zL,zA,Fw,zF,uk,jX,cK,f5,f0,f1,f4,hr,hW.1.cells,hW.1.cok];exact this
  ·simp -dsimp (disch:=omega) only[wpS,wpT,zE,zL,zA,Fw,zF,uk,jX,cK,f5,f0,f1,f4,hr,hW.1.cells,hW.1.cok];exact this
 ·obtain⟨k,rfl⟩ : ∃k,m=k+1:=⟨m - 1,byOmega⟩;have h2:IntKind.i64.wrap (((k+1:Nat):Int) - 1)=(k:Int):=by rw[wrap_i64 byOmega];omega
  simp -dsimp (disch:=omega) only[wpS,wpT,zE,f5,f1,h2,hd.1.idx jM (show k<ds.length by omega),hd.1.ld e1.ae (P:=prog) (t:=28) (c:=k) bz xj,dI,get_some (show k<ds.length by omega)];refine az (fun hc=>?_) (fun hc=>?_)
  ·simp -dsimp (disch:=omega) only[wpS,zE,f5,h2];refine⟨k,byOmega,rfl,byOmega,aa,by simp[f0],by simp[f1],by simp[f4],fun j hj=>?_⟩;by_cases hjk:j=k
   ·subst hjk;simpa using hc
   ·exact hz j byOmega
  ·obtain⟨r,hr,hbk,hW,hN,hv,hpp⟩:=fin (k+1) hm hz (.inr (by simpa using hc));cases b
   ·have:=out (k+1) r hbk hW hN hv hpp false aa;simp -dsimp (disch:=omega) only[wpS,wpT,zE,zL,zA,Fw,zF,uk,jX,cK,f5,f0,f1,f4,hr,hW.1.cells,hW.1.cok];exact this
   ·have:=out (k+1) r hbk hW hN hv hpp true aa;simp -dsimp (disch:=omega) only[wpS,wpT,zE,zL,zA,Fw,zF,uk,jX,cK,f5,f0,f1,f4,hr,hW.1.cells,hW.1.cok];exact this
def jy (hd:kL h v ds) (b:Bool):WV prog (.func (.func 193) #[] #[]) [.bool b,v] h fun r h'=>Ext h h'∧bW h' r (if b then -(B.ay ds:Int) else B.ay ds):=(DA hd b).mono fun _ _ k=>k.1
def B5 {w:QQ} {a b:List Nat} (ha:kL h v a) (hb:kL h w b) (na:B.Norm a) (nb:B.Norm b) :WV prog (.func (.func 238) #[] #[]) [v,w] h fun r h'=>h'=h ∧ ∃c:Int,r=KI c∧(c<0↔B.ay a<B.ay b)∧(c=0↔B.ay a=B.ay b) ∧ -9223372036854775808≤c∧c≤9223372036854775807:=by
 have la:=ha.2.2;have lb:=hb.2.2;refine enter (nt:=43) (rs:=[.tmp 4]) Proofs.Tryz.func238 rfl rfl rfl aa ?_;simp -dsimp (disch:=omega) only[wpS,zE,zA,ha.1.len jd,hb.1.len jd];refine az ?_ ?_<;>intro hc<;>simp only[pM,Iq,ne_eq] at hc
 ·simp -dsimp (disch:=omega) only[wpS,wpT,zE,ha.1.len jd,hb.1.len jd];refine⟨_,rfl,?_,?_,byOmega,byOmega⟩
  ·constructor
   ·intro h1;exact B.nC ha.2.1 nb byOmega
   ·intro h1;have:=na.mc hb.2.1 (pO h1);omega
  ·constructor
   ·intro h1;omega
   ·intro h1;have h2:=na.mc hb.2.1 (tG h1);have h3:=nb.mc ha.2.1 (tG h1.symm);omega
 ·have hl:a.length=b.length:=byOmega;simp -dsimp (disch:=omega) only[wpS,wpT,zE,ha.1.len jd];refine loop (fun m fr h1=>h1=h∧m≤a.length∧aj fr 5=some (KI ((m:Int) - 1))∧aj fr 0=some v∧aj fr 1=some w ∧ ∀j,m≤j→j<a.length→a.getD j 0=b.getD j 0) a.length ⟨rfl,ar _,aa,aa,aa,fun j hj hj2=>byOmega⟩ ?_;rintro m fr h1 ⟨rfl,hm,f5,f0,f1,hz⟩;rcases gW m with rfl|hp
  ·simp -dsimp (disch:=omega) only[wpS,wpT,zE,f5];refine⟨_,rfl,?_,?_,byOmega,byOmega⟩
   ·have:=B.pK hl (fun j hj=>hz j (dT _) hj);omega
   ·have:=B.pK hl (fun j hj=>hz j (dT _) hj);omega
  ·obtain⟨k,rfl⟩ : ∃k,m=k+1:=⟨m - 1,byOmega⟩;have h2:(((k+1:Nat):Int) - 1)=(k:Int):=byOmega;rw[h2] at f5;have da:=B.cM ha.2.1 k;have db:=B.cM hb.2.1 k;have key:(a.getD k 0<b.getD k 0→B.ay a<B.ay b)∧(b.getD k 0<a.getD k 0→B.ay b<B.ay a) :=
    ⟨fun h=>B.nB ha.2.1 hl byOmega h (fun j x y=>hz j byOmega y),fun h=>B.nB hb.2.1 hl.symm byOmega h (fun j x y=>(hz j byOmega byOmega).symm)⟩
   simp -dsimp (disch:=try exact dx) only[wpS,wpT,zE,f5,f0,f1,ha.1.idx jM (show k<a.length by omega),ha.1.ld (aX.refl _) (P:=prog) (t:=28) (c:=k) bz xj,hb.1.idx jM (show k<b.length by omega),hb.1.ld (aX.refl _) (P:=prog) (t:=28) (c:=k) bz xj,dI,get_some (show k<a.length by omega),get_some (show k<b.length by omega)];refine az ?_ ?_<;>intro hc<;>simp only[aJ,aV] at hc
   ·simp -dsimp (disch:=try exact dx) only[wpS,wpT,zE];have:=key.1 byOmega;exact⟨_,rfl,byOmega,byOmega,byOmega,byOmega⟩
   ·simp -dsimp (disch:=try exact dx) only[wpS,wpT,zE,f5,f0,f1,ha.1.idx jM (show k<a.length by omega),ha.1.ld (aX.refl _) (P:=prog) (t:=28) (c:=k) bz xj,hb.1.idx jM (show k<b.length by omega),hb.1.ld (aX.refl _) (P:=prog) (t:=28) (c:=k) bz xj,dI,get_some (show k<a.length by omega),get_some (show k<b.length by omega)];refine az ?_ ?_<;>intro hc4<;>simp only[aJ,aV] at hc4
    ·simp -dsimp (disch:=omega) only[wpS,wpT,zE];have:=key.2 byOmega;exact⟨_,rfl,byOmega,byOmega,byOmega,byOmega⟩
    ·simp -dsimp (disch:=omega) only[wpS,wpT,zE,f5];refine⟨k,byOmega,rfl,byOmega,aa,by simp[f0],by simp[f1],fun j h3 h4=>?_⟩;by_cases hjk:j=k
     ·subst hjk;omega
     ·exact hz j byOmega h4
def Nz (x y c:Nat) (hc:c≤1):WV prog (.func (.func 245) #[] #[]) [K64 x,K64 y,K64 c] h fun r h'=>h'=h∧r=.tuple #[K64 ((x+y+c) % 18446744073709551616),K64 ((x+y+c) / 18446744073709551616)] :=
 KR Proofs.Tryz.func245 rfl (Ut rfl x y hc) ⟨rfl,rfl⟩
def Lv (x y c:Nat) (hc:c≤1):WV prog (.func (.func 257) #[] #[]) [K64 x,K64 y,K64 c] h fun r h'=>h'=h∧r=.tuple #[K64 ((x+18446744073709551616 - y - c) % 18446744073709551616),K64 (bif Nat.blt x (y+c) then 1 else 0)] :=
 KR Proofs.Tryz.func257 rfl (Ur rfl x y hc) ⟨rfl,rfl⟩
variable {os:List Nat}{k x:Nat}
theorem IX {i:Nat} (h:i≤k) (hk:k<os.length):B.a8 (os.set k x) i=B.a8 os i :=
 B.iV fun j hj=>by rw[B.fW hk,ad byOmega]
theorem nQ (hk:k<os.length):B.a8 (os.set k x) (k+1)=B.a8 os k+x*18446744073709551616 ^ k:=by rw[B.a8,IX (ar _) hk,B.fW hk,ah rfl]
variable {h:IH}{w v:Value}{a b:List Nat}
def Lo (ha:kL h v a) (hb:kL h w b) (nb:B.Norm b) (hle:B.ay b≤B.ay a) :WV prog (.func (.func 239) #[] #[]) [v,w] h fun r h'=>Ext h h' ∧ ∃os,r=.slice (some ⟨2*h.n,0,none⟩) a.length (2*a.length+1)∧kL h' r os∧B.ay os=B.ay a - B.ay b:=by
 have la:=ha.2.2;have lb:=hb.2.2;refine enter (nt:=40) (rs:=[.tmp 4]) Proofs.Tryz.func239 rfl rfl rfl aa ?_;simp -dsimp (disch:=omega) only[wpS,zE,zA,MB,ha.1.len jd];refine loop (fun m fr h1 => ∃(i bor:Nat) (os:List Nat),i+m=a.length∧aj fr 1=some w∧aj fr 5=some (.slice (some ⟨2*h.n,0,none⟩) a.length (2*a.length+1))∧aj fr 6=some (K64 bor)∧aj fr 13=some v∧aj fr 14=some (KN a.length)∧aj fr 15=some (KN i)∧bor≤1∧os.length=a.length∧B.cG os ∧B.a8 a i+bor*18446744073709551616 ^ i=B.a8 b i+B.a8 os i∧h.n<h1.n∧h1.ext.get h.n=some (.cells (os.map K64) 1 none)∧Ext h h1) a.length ⟨0,0,List.replicate a.length 0,aa,aa,aa,aa,aa,aa,aa,byOmega,aa,B.cG.cj _,by simp[B.a8],aa,by rw[aq _ _ rfl,sJ],(Ext.refl h).new _⟩ ?_;rintro m fr h1 ⟨i,bor,os,him,f1,f5,f6,f13,f14,f15,Xa,hos,hd,hv,hn,hg,hE⟩;simp -dsimp (disch:=omega) only[wpS,f14,f15];refine az ?_ ?_<;>intro hc<;>simp only[aJ,aV] at hc
 ·have hi:i<a.length:=byOmega;have da:=B.cM ha.2.1 i;have db:=B.cM hb.2.1 i;have gx:=get_some hi;generalize hx:a.getD i 0=x at *;generalize hy:b.getD i 0=y at *;simp -dsimp (disch:=omega) only[wpS,wpT,zE,f1,f13,f15,ha.1.idx jM hi,ha.1.ld hE.ae (P:=prog) (t:=28) (c:=i) (by simpa using hi) xj,dI,gx,hb.1.len jd];refine jm (fun fr2 h2=>h2=h1∧aj fr2 1=some w∧aj fr2 5=some (.slice (some ⟨2*h.n,0,none⟩) a.length (2*a.length+1))∧aj fr2 6=some (K64 bor)∧aj fr2 7=some (KN i)∧aj fr2 8=some (K64 x)∧aj fr2 9=some (K64 y)∧aj fr2 13=some v∧aj fr2 14=some (KN a.length)∧aj fr2 15=some (KN i)) (fun hc=>?_) (fun hc=>?_) ?_
  ·simp only[aJ] at hc;have hi2:i<b.length:=byOmega;have gy:=get_some hi2;rw[hy] at gy;simp -dsimp (disch:=omega) only[wpS,wpT,zE,f1,hb.1.idx jM hi2,hb.1.ld hE.ae (P:=prog) (t:=28) (c:=i) (by simpa using hi2) xj,dI,gy];exact⟨rfl,by simp[f1,f5,f6,f13,f14,f15]⟩
  ·simp only[aV] at hc;have hy0:y=0:=by rw[←hy];exact B.ff byOmega
   subst hy0;simp -dsimp (disch:=omega) only[wpS,wpT];exact⟨rfl,by simp[f1,f5,f6,f13,f14,f15]⟩
  ·rintro fr2 h2 ⟨rfl,f1,f5,f6,f7,f8,f9,f13,f14,f15⟩;simp -dsimp (disch:=omega) only[wpS,zE,f5,f6,f7,f8,f9];refine call (Lv x y bor Xa) ?_;rintro _ _ ⟨rfl,rfl⟩;have hi3:i<os.length:=byOmega;generalize hdd:(x+18446744073709551616 - y - bor) % 18446744073709551616=d;obtain⟨b2,hb2,hb1,nD⟩ : ∃b2:Nat,(bif Nat.blt x (y+bor) then 1 else 0)=b2∧b2≤1∧x+b2*18446744073709551616=y+bor+d:=by
    by_cases hlt:x<y+bor
    ·have e:Nat.blt x (y+bor)=true:=by simp only[Nat.blt,bI];exact hlt
     refine⟨1,by rw[e];rfl,byOmega,byOmega⟩
    ·have e:Nat.blt x (y+bor)=false:=by rw[oR];intro h;simp[Nat.blt] at h;omega
     refine⟨0,by rw[e];rfl,byOmega,byOmega⟩
   rw[hb2];have hd2:d<18446744073709551616:=byOmega;have spl:=nR d hi3;rename_i h3;simp -dsimp (disch:=omega) only[wpS,wpT,zE,jM,AL,f15,hg,spl,cd,hos];refine⟨m - 1,byOmega,i+1,b2,os.set i d,byOmega,by simp[f1],by simp[f5],aa,by simp[f13],by simp[f14],aa,hb1,by rw[dV,hos],hd.set _ hd2,?_,hn,ak _ _ rfl,hE.put (ar _) _⟩;rw[nQ hi3,B.a8,B.a8,hx,hy,dU];have e3:x*18446744073709551616 ^ i+b2*(18446744073709551616 ^ i*18446744073709551616)=(y+bor+d)*18446744073709551616 ^ i:=by rw[←nD];grind
   have e4:(y+bor+d)*18446744073709551616 ^ i=y*18446744073709551616 ^ i+bor*18446744073709551616 ^ i+d*18446744073709551616 ^ i:=fO;omega
 ·obtain rfl:i=a.length:=byOmega;have hbl:=nb.mc ha.2.1 hle;rw[B.lI hbl,B.lI (ar _),B.lI (show os.length≤a.length by omega)] at hv;have hlt:=B.lJ hd;rw[hos] at hlt;have hb0:bor=0:=by apply dW;intro hne;have:bor=1:=byOmega;subst this;omega
  subst hb0;simp -dsimp (disch:=omega) only[wpS,wpT,zE,f5];exact⟨hE,os,⟨by rw[hos];exact eh hg hn aP (by simp[hos]) byOmega byOmega,hd,byOmega⟩,byOmega⟩
def YD (ha:kL h v a) (hb:kL h w b) (la:a.length≤1000001) (lb:b.length≤1000001) :WV prog (.func (.func 237) #[] #[]) [v,w] h fun r h'=>Ext h h' ∧ ∃os,kL h' r os∧B.ay os=B.ay a+B.ay b:=by
 refine enter (nt:=53) (rs:=[.tmp 4]) Proofs.Tryz.func237 rfl rfl rfl aa ?_;simp -dsimp (disch:=omega) only[wpS,zE,zA,ha.1.len jd,hb.1.len jd];refine jm (fun fr2 h2=>h2=h ∧ ∃(v' w':Value) (a' b':List Nat),kL h v' a'∧kL h w' b'∧a'.length≤1000001∧b'.length≤a'.length∧B.ay a'+B.ay b'=B.ay a+B.ay b∧aj fr2 0=some v'∧aj fr2 1=some w') (fun hc=>?_) (fun hc=>?_) ?_;·simp only[aJ] at hc;simp -dsimp (disch:=omega) only[wpS,wpT,zE];exact⟨rfl,w,v,b,a,hb,ha,lb,byOmega,byOmega,aa⟩
 ·simp only[aV] at hc
  simp -dsimp (disch:=omega) only[wpS,wpT];exact⟨rfl,v,w,a,b,ha,hb,la,byOmega,rfl,aa⟩
 clear ha hb la lb;rintro fr h1 ⟨rfl,v,w,a',b',ha,hb,la,hle,MZ,f0,f1⟩;rw[←MZ];clear MZ;have eL:(a'.length:Int)+1=((a'.length+1:Nat):Int):=byOmega;simp -dsimp (disch:=omega) only[wpS,wpT,zE,MB,f0,ha.1.len jd,eL];refine loop (fun m fr h2 => ∃(i c:Nat) (os:List Nat),i+m=a'.length∧aj fr 0=some v∧aj fr 1=some w∧aj fr 5=some (.slice (some ⟨2*h1.n,0,none⟩) (a'.length+1) (2*(a'.length+1)+1))∧aj fr 6=some (K64 c)∧aj fr 21=some v∧aj fr 22=some (KN a'.length)∧aj fr 23=some (KN i)∧c≤1∧os.length=a'.length+1∧B.cG os ∧B.a8 os i+c*18446744073709551616 ^ i=B.a8 a' i+B.a8 b' i∧h1.n<h2.n∧h2.ext.get h1.n=some (.cells (os.map K64) 1 none)∧Ext h1 h2) a'.length
  ⟨0,0,List.replicate (a'.length+1) 0,aa,by simp[f0],by simp[f1],aa,aa,aa,aa,aa,byOmega,aa,B.cG.cj _,by simp[B.a8],aa,by rw[aq _ _ rfl,sJ];rfl,(Ext.refl h1).new _⟩ ?_
 clear f0 f1;rintro m fr h2 ⟨i,c,os,him,f0,f1,f5,f6,f21,f22,f23,hcc,hos,hd,hv,hn,hg,hE⟩;simp -dsimp (disch:=omega) only[wpS,f22,f23];refine az ?_ ?_<;>intro hc<;>simp only[aJ,aV] at hc
 ·have hi:i<a'.length:=byOmega
  have da:=B.cM ha.2.1 i
  have db:=B.cM hb.2.1 i
  have gx:=get_some hi;generalize hx:a'.getD i 0=x at *;generalize hy:b'.getD i 0=y at *;simp -dsimp (disch:=omega) only[wpS,wpT,zE,f1,f21,f23,ha.1.idx jM hi,ha.1.ld hE.ae (P:=prog) (t:=28) (c:=i) (by simpa using hi) xj,dI,gx,hb.1.len jd];refine jm (fun fr2 h3=>h3=h2∧aj fr2 0=some v∧aj fr2 1=some w∧aj fr2 5=some (.slice (some ⟨2*h1.n,0,none⟩) (a'.length+1) (2*(a'.length+1)+1))∧aj fr2 6=some (K64 c)∧aj fr2 7=some (KN i)∧aj fr2 8=some (K64 x)∧aj fr2 9=some (K64 y)∧aj fr2 21=some v∧aj fr2 22=some (KN a'.length)∧aj fr2 23=some (KN i)) (fun hc=>?_) (fun hc=>?_) ?_;·simp only[aJ] at hc;have hi2:i<b'.length:=byOmega;have gy:=get_some hi2;rw[hy] at gy;simp -dsimp (disch:=omega) only[wpS,wpT,zE,f1,hb.1.idx jM hi2,hb.1.ld hE.ae (P:=prog) (t:=28) (c:=i) (by simpa using hi2) xj,dI,gy];exact⟨rfl,by simp[f0,f1,f5,f6,f21,f22,f23]⟩
  ·simp only[aV] at hc;have hy0:y=0:=by rw[←hy];exact B.ff byOmega
   subst hy0;simp -dsimp (disch:=omega) only[wpS,wpT];exact⟨rfl,by simp[f0,f1,f5,f6,f21,f22,f23]⟩
  ·rintro fr2 h3 ⟨rfl,f0,f1,f5,f6,f7,f8,f9,f21,f22,f23⟩;simp -dsimp (disch:=omega) only[wpS,zE,f5,f6,f7,f8,f9];refine call (Nz x y c hcc) ?_;rintro _ _ ⟨rfl,rfl⟩;have hi3:i<os.length:=byOmega;generalize hs:x+y+c=s;have spl:=nR (s % 18446744073709551616) hi3;simp -dsimp (disch:=omega) only[wpS,wpT,zE,zL,jM,AL,f23,hg,spl,cd,hos];refine⟨m - 1,byOmega,i+1,s / 18446744073709551616,os.set i (s % 18446744073709551616),byOmega,by simp[f0],by simp[f1],by simp[f5],aa,by simp[f21],by simp[f22],aa,byOmega,by rw[dV,hos],hd.set _ byOmega,?_,hn,ak _ _ rfl,hE.put (ar _) _⟩;rw[nQ hi3,B.a8,B.a8,hx,hy,dU];have nD:s % 18446744073709551616+s / 18446744073709551616*18446744073709551616=x+y+c:=byOmega
   have e3:s % 18446744073709551616*18446744073709551616 ^ i+s / 18446744073709551616*(18446744073709551616 ^ i*18446744073709551616)=(x+y+c)*18446744073709551616 ^ i:=by rw[←nD];grind
   have e4:(x+y+c)*18446744073709551616 ^ i=x*18446744073709551616 ^ i+y*18446744073709551616 ^ i+c*18446744073709551616 ^ i:=fO
   omega
 ·obtain rfl:i=a'.length:=byOmega
  have hi3:a'.length<os.length:=byOmega;have spl:=nR c hi3;simp -dsimp (disch:=omega) only[wpS,wpT,zE,zL,jM,AL,f0,f5,f6,ha.1.len jd,hg,spl,cd,hos];refine⟨hE.put (ar _) _,os.set a'.length c,⟨?_,hd.set _ byOmega,by rw[dV];omega⟩,?_⟩
  ·rw[dV,hos]
   exact eh (ak _ _ rfl) hn aP (by simp[hos]) byOmega byOmega
  ·have:=nQ (x:=c) hi3
   rw[B.lI hle,B.lI (ar _)] at hv;rw[B.ay,dV,hos,this,hv]
def Z1 (x y:Nat) (hx:x<18446744073709551616) (hy:y<18446744073709551616):WV prog (.func (.func 244) #[] #[]) [K64 x,K64 y] h fun r h'=>h'=h∧r=.tuple #[K64 (x*y / 18446744073709551616),K64 (x*y % 18446744073709551616)]:=by
 obtain⟨x0,hx0⟩:=bm (x % 4294967296);obtain⟨x1,hx1⟩:=bm (x / 4294967296);obtain⟨y0,hy0⟩:=bm (y % 4294967296);obtain⟨y1,hy1⟩:=bm (y / 4294967296);have ex:x=x1*4294967296+x0:=byOmega;have ey:y=y1*4294967296+y0:=byOmega;obtain⟨m1,m2,m3⟩:=Wu (x1:=x1) (x0:=x0) (y1:=y1) (y0:=y0) byOmega byOmega byOmega byOmega;rw[←ex,←ey] at m3;have a1:x &&& 4294967295=x0:=by rw[hx0];exact C5 x 32
 have a2:y &&& 4294967295=y0:=by rw[hy0];exact C5 y 32
 have a3:qQ x 32=x1:=by rw[hx1];exact kV x 32
 have a4:qQ y 32=y1:=by rw[hy1];exact kV y 32
 have b00:x0*y0≤4294967295*4294967295:=fB byOmega byOmega;have b01:x0*y1≤4294967295*4294967295:=fB byOmega byOmega;have b10:x1*y0≤4294967295*4294967295:=fB byOmega byOmega;have b11:x1*y1≤4294967295*4294967295:=fB byOmega byOmega;have c00:(x0:Int)*(y0:Int)=((x0*y0:Nat):Int):=aa;have c01:(x0:Int)*(y1:Int)=((x0*y1:Nat):Int):=aa;have c10:(x1:Int)*(y0:Int)=((x1*y0:Nat):Int):=aa;have c11:(x1:Int)*(y1:Int)=((x1*y1:Nat):Int):=aa;have cxy:(x:Int)*(y:Int)=((x*y:Nat):Int):=aa;generalize x0*y0=p00 at *;generalize x0*y1=p01 at *;generalize x1*y0=p10 at *;generalize x1*y1=p11 at *;generalize x*y=pp at *;obtain⟨t,ht⟩:=bm (p10+p00 / 4294967296);rw[←ht] at m1 m2 m3;obtain⟨w,hw⟩:=bm (t % 4294967296+p01);rw[←hw] at m2 m3;have s1:qQ p00 32=p00 / 4294967296:=kV p00 32;have s2:qQ t 32=t / 4294967296:=kV t 32;have s3:qQ w 32=w / 4294967296:=kV w 32;have a5:t &&& 4294967295=t % 4294967296:=C5 t 32;have eT:(p10:Int)+((p00 / 4294967296:Nat):Int)=(t:Int):=byOmega;have eW:((t % 4294967296:Nat):Int)+(p01:Int)=(w:Int):=byOmega;have wr:IntKind.u64.wrap (pp:Int)=((pp % 18446744073709551616:Nat):Int):=by rw[xl];omega
 refine enter (nt:=51) (rs:=[.tmp 4,.tmp 5]) Proofs.Tryz.func244 rfl rfl rfl aa ?_;simp -dsimp (maxSteps:=1000000) (disch:=first|omega|(simp only[bj,bd];omega)|decide +kernel|(repeat first|rw[bj]|rw[bd])) only[wpS,wpT,zE,zA,Int.reduceToNat,a1,a2,a3,a4,c00,c01,c10,c11,s1,eT,a5,s2,eW,s3];rw[cxy,wr,←m3];simp
def Sr (x y:Nat):WV prog (.func (.func 245) #[] #[]) [K64 x,K64 y,.int .u64 0] h fun r h'=>h'=h∧r=.tuple #[K64 ((x+y) % 18446744073709551616),K64 ((x+y) / 18446744073709551616)]:=Nz x y 0 byOmega
def Ga (ha:kL h v a) (hb:kL h w b) (hab:a.length+b.length≤1100000) :WV prog (.func (.func 194) #[] #[]) [v,w] h fun r h'=>Ext h h' ∧ ∃os,kL h' r os∧B.ay os=B.ay a*B.ay b:=by
 have eL:(a.length:Int)+(b.length:Int)=((a.length+b.length:Nat):Int):=byOmega;refine enter (nt:=80) (rs:=[.tmp 4]) Proofs.Tryz.func194 rfl rfl rfl aa ?_;simp -dsimp (disch:=omega) only[wpS,zE,zA,MB,ha.1.len jd,hb.1.len jd,eL];refine loop (fun m fr h1 => ∃(i:Nat) (os:List Nat),i+m=a.length∧Ext h h1∧h.n<h1.n∧h1.ext.get h.n=some (.cells (os.map K64) 1 none)∧os.length=a.length+b.length∧B.cG os∧B.ay os=B.a8 a i*B.ay b∧(∀k,i+b.length≤k→os.getD k 0=0) ∧aj fr 1=some w∧aj fr 5=some (.slice (some ⟨2*h.n,0,none⟩) (a.length+b.length) (2*(a.length+b.length)+1))∧aj fr 22=some v∧aj fr 23=some (KN a.length)∧aj fr 24=some (KN i)) a.length ⟨0,List.replicate (a.length+b.length) 0,byOmega,(Ext.refl h).new _,aa,by rw[aq _ _ rfl,sJ],aa,B.cG.cj _,by rw[B.nm];simp[B.a8],fun k _=>B.nG _ _,aa⟩ ?_;rintro m fr h1 ⟨i,os,him,hE,hn,hg,hol,hod,hov,hoz,f1,f5,f22,f23,f24⟩;simp -dsimp (disch:=omega) only[wpS,f23,f24];refine az ?_ ?_<;>intro hc<;>simp only[aJ,aV] at hc
 ·have hi:i<a.length:=byOmega;have da:=B.cM ha.2.1 i;have gx:=get_some hi;generalize hx:a.getD i 0=x at *;simp -dsimp (disch:=omega) only[wpS,wpT,zE,f1,f22,f24,ha.1.idx jM hi,ha.1.ld hE.ae (P:=prog) (t:=28) (c:=i) (by simpa using hi) xj,dI,gx,hb.1.len jd];refine loop (fun m2 fr h2 => ∃(j c:Nat) (os2:List Nat),j+m2=b.length∧Ext h h2∧h.n<h2.n∧h2.ext.get h.n=some (.cells (os2.map K64) 1 none)∧os2.length=a.length+b.length∧B.cG os2∧c<18446744073709551616∧B.ay os2+c*18446744073709551616 ^ (i+j)=B.a8 a i*B.ay b+x*B.a8 b j*18446744073709551616 ^ i∧(∀k,i+b.length≤k→os2.getD k 0=0) ∧aj fr 1=some w∧aj fr 5=some (.slice (some ⟨2*h.n,0,none⟩) (a.length+b.length) (2*(a.length+b.length)+1))∧aj fr 22=some v∧aj fr 23=some (KN a.length)∧aj fr 24=some (KN i)∧aj fr 6=some (KN i)∧aj fr 7=some (K64 x)∧aj fr 8=some (K64 c)∧aj fr 29=some w∧aj fr 30=some (KN b.length)∧aj fr 31=some (KN j)) b.length ⟨0,0,os,byOmega,hE,hn,hg,hol,hod,byOmega,by rw[hov];simp[B.a8],hoz,by simp[f1,f5,f22,f23,f24]⟩ ?_;clear hE hn hg hol hod hov hoz f1 f5 f22 f23 f24;rintro m2 fr h2 ⟨j,c,os2,hjm,hE,hn,hg,hol,hod,hc4,hov,hoz,f1,f5,f22,f23,f24,f6,f7,f8,f29,f30,f31⟩;simp -dsimp (disch:=omega) only[wpS,f30,f31];refine az ?_ ?_<;>intro hc2<;>simp only[aJ,aV] at hc2
  ·have hj:j<b.length:=byOmega;have db:=B.cM hb.2.1 j;have doo:=B.cM hod (i+j);have hr:h2.row (2*h.n)=some (os2.map K64):=cP hg;have gy:=get_some hj;have go:=get_some (show i+j<os2.length by omega);generalize hy:b.getD j 0=y at *;generalize ho:os2.getD (i+j) 0=o at *;have gor:(os2.map K64)[i+j]?=some (K64 o):=by rw[cm,go];rfl
   have eI:(i:Int)+(j:Int)=((i+j:Nat):Int):=byOmega;have hp:x*y≤18446744073709551615*18446744073709551615:=fB byOmega byOmega;simp -dsimp (disch:=omega) only[wpS,wpT,zE,f7,f29,f31,hb.1.idx jM hj,hb.1.ld hE.ae (P:=prog) (t:=28) (c:=j) (by simpa using hj) xj,dI,gy];refine call (Z1 x y da db) ?_;rintro _ _ ⟨rfl,rfl⟩;obtain⟨p,hpp⟩:=bm (x*y);rw[←hpp] at hp ⊢;rename_i h3;simp -dsimp (disch:=omega) only[wpS,zE,jM,xg,f5,f6,hr,gor,eI];refine call (Sr o (p % 18446744073709551616)) ?_;rintro _ _ ⟨rfl,rfl⟩;rename_i h4;simp -dsimp (disch:=omega) only[wpS,zE,f8];refine call (Sr ((o+p % 18446744073709551616) % 18446744073709551616) c) ?_;rintro _ _ ⟨rfl,rfl⟩;rename_i h5;obtain⟨s,hs⟩:=bm (c+o+p);have eR:((o+p % 18446744073709551616) % 18446744073709551616+c) % 18446744073709551616=s % 18446744073709551616:=byOmega;have eQ:((p / 18446744073709551616:Nat):Int)+(((o+p % 18446744073709551616) / 18446744073709551616:Nat):Int)+((((o+p % 18446744073709551616) % 18446744073709551616+c) / 18446744073709551616:Nat):Int)=((s / 18446744073709551616:Nat):Int):=byOmega;have spl:=nR (s % 18446744073709551616) (show i+j<os2.length by omega);rw[eR];simp -dsimp (maxSteps:=1000000) (disch:=first|omega|(simp only[bj,bd];omega)|decide +kernel|(repeat first|rw[bj]|rw[bd])) only[wpS,wpT,zE,jM,AL,f5,f6,f31,eI,eQ,hg,spl,cd,hol];refine⟨m2 - 1,byOmega,j+1,s / 18446744073709551616,os2.set (i+j) (s % 18446744073709551616),byOmega,hE.put (ar _) _,hn,ak _ _ rfl,by rw[dV,hol],hod.set _ byOmega,byOmega,?_,?_,by simp[f1,f5,f22,f23,f24,f6,f7,f29,f30]⟩
   ·have hv:=B.lq (s % 18446744073709551616) (show i+j<os2.length by omega);rw[ho] at hv;have hsd:s % 18446744073709551616+s / 18446744073709551616*18446744073709551616=c+o+x*y:=byOmega;rw[B.a8,hy];have e1:18446744073709551616 ^ (i+(j+1))=18446744073709551616 ^ (i+j)*18446744073709551616:=by rw[←jS,dU]
    have e2:18446744073709551616 ^ (i+j)=18446744073709551616 ^ i*18446744073709551616 ^ j:=dC _ _ _;rw[e1];have e3:s % 18446744073709551616*18446744073709551616 ^ (i+j)+s / 18446744073709551616*(18446744073709551616 ^ (i+j)*18446744073709551616)=(c+o+x*y)*18446744073709551616 ^ (i+j):=by rw[←hsd];grind
    have e4:x*(B.a8 b j+y*18446744073709551616 ^ j)*18446744073709551616 ^ i=x*B.a8 b j*18446744073709551616 ^ i+x*y*18446744073709551616 ^ (i+j):=by rw[e2];grind
    have e5:(c+o+x*y)*18446744073709551616 ^ (i+j)=c*18446744073709551616 ^ (i+j)+o*18446744073709551616 ^ (i+j)+x*y*18446744073709551616 ^ (i+j):=fO;omega
   ·intro k hk;rw[B.fW byOmega,ad byOmega];exact hoz k hk
  ·obtain rfl:j=b.length:=byOmega;have hz:=hoz (i+b.length) (ar _);have eI:(i:Int)+(b.length:Int)=((i+b.length:Nat):Int):=byOmega;have spl:=nR c (show i+b.length<os2.length by omega);simp -dsimp (disch:=omega) only[wpS,wpT,zE,jM,AL,f1,f5,f6,f8,f24,hb.1.len jd,eI,hg,spl,cd,hol];refine⟨m - 1,byOmega,i+1,os2.set (i+b.length) c,byOmega,hE.put (ar _) _,hn,ak _ _ rfl,by rw[dV,hol],hod.set _ byOmega,?_,?_,by simp[f1,f5,f22,f23]⟩
   ·have hv:=B.lq c (show i+b.length<os2.length by omega);rw[hz,iC,fR] at hv;rw[hv,hov,B.a8,hx,show B.a8 b b.length=B.ay b from rfl];grind
   ·intro k hk;rw[B.fW byOmega,ad byOmega];exact hoz k byOmega
 ·obtain rfl:i=a.length:=byOmega;simp -dsimp (disch:=omega) only[wpS,wpT,zE,f5];refine⟨hE,os,⟨?_,hod,byOmega⟩,hov⟩;rw[hol];exact eh hg hn aP (by rw[cd,hol];omega) byOmega byOmega
def Aj:Nat→Nat
 | 0=>0
 | n+1=>Nat.log2 (n+1)+1
theorem CL : ∀x,x<256 → ∀N,N<9→(N<Aj x↔2 ^ N≤x):=mQ
def TY {P:Program} {t:TypeId} (ht:P.underlying t=some .string) (s:ByteArray) (hs:(List.range 256).all (fun j=>decide (s[j]?=some (UInt8.ofNat (Aj j))))=true) {j:Nat} (hj:j<256):vW P t (.string s) (.int .u8 j)=some (.int .u8 (Aj j)):=by
 rw[gG] at hs;have h1:=hs j (xX.2 hj);simp only[aJ] at h1
 have hb:Aj j<256:=by
  have:=(CL j hj 8 byOmega).1;rcases cU 8 (Aj j) with h|h;·have:=this h;omega
  ·omega
 have h2:aD P (Instr.index t (.string s) (.int .u8 j))=some (.int .u8 (Aj j)):=by unfold Instr.index;rw[eo (show aD P (asIntOf (.int .u8 j))=some (IntKind.u8,(j:Int)) from rfl)];simp only;rw[eo (iZ ht)];simp only[oO,show(0:Int)≤(j:Int) by omega,bS,h1];rw[zy];have:(UInt8.ofNat (Aj j)).toNat=Aj j:=bq;rw[this]
 have hp:plain (.int .u8 j)=true:=rfl;simp only[vW,hp,bP,dO,h2];rfl
def Xq {α:Type} {o:Option α} {K:α→Prop} {v:α} (h:o=some v) (k:K v):Do (Ex o) K nx:=⟨v,h,k⟩
def NF (u x k:Nat):Prop:=x=u / 2 ^ k∧(0<k→0<x)
variable {k u x:Nat}
theorem NF.ok (h:NF u x k) (hx:x<256) (N:Nat):N<k+Aj x↔2 ^ N≤u:=by
 obtain⟨rfl,h2⟩:=h;rcases cU N k with h|h
 ·have hx0:=h2 byOmega;have h3:2 ^ k≤u:=by apply dW;intro hh;rw[mw byOmega] at hx0;omega
  have h4:2 ^ N≤2 ^ k:=fQ byOmega byOmega;exact⟨fun _=>bA h4 h3,fun _=>byOmega⟩
 ·obtain⟨d,rfl⟩ : ∃d,N=k+d:=⟨N - k,byOmega⟩;have e:2 ^ (k+d)≤u↔2 ^ d≤u / 2 ^ k:=by rw[Nat.le_div_iff_mul_le (gD byOmega),dC,gu]
  rw[e];rcases cU d 9 with hd|hd;·rw[←CL _ hx d hd];omega
  ·have h9:2 ^ 9≤2 ^ d:=fQ byOmega hd
   have hb : ¬9≤Aj (u / 2 ^ k):=by intro hh;have:=(CL _ hx 8 byOmega).1 byOmega;omega
   constructor;·intro;omega
   ·intro;omega
def NF.more {d:Nat} (h:NF u x k) (hx:2 ^ d≤x):NF u (x / 2 ^ d) (k+d):=by obtain⟨rfl,h2⟩:=h;refine⟨by rw[xV,dC],fun _=>?_⟩;exact Nat.div_pos hx (gD byOmega)
def WK {h:IH} (u:Nat) (hu:u<18446744073709551616):WV Proofs.Tryz.prog (.func (.func 262) #[] #[]) [K64 u] h fun r h'=>h'=h ∧ ∃k:Nat,r=KN k∧k<1000 ∧ ∀N,N<k↔2 ^ N≤u:=by
 refine enter (nt:=25) (rs:=[.tmp 2]) Proofs.Tryz.func262 rfl rfl rfl aa ?_;simp -dsimp (disch:=omega) only[wpS,Nat.reduceEqDiff];refine jm (fun fr2 h2=>h2=h ∧ ∃x k:Nat,aj fr2 0=some (K64 x)∧aj fr2 2=some (KN k)∧k≤32∧x<4294967296∧NF u x k) (fun hc=>?_) (fun hc=>?_) ?_
 ·simp only[aJ] at hc;have e1:qQ u 32=u / 4294967296:=by rw[qQ,kV]
  simp -dsimp (disch:=omega) only[wpS,wpT,Nat.reduceEqDiff,Int.reduceToNat,e1];refine⟨rfl,u / 4294967296,32,aa,aa,byOmega,byOmega,aa,fun _=>byOmega⟩
 ·simp only[aV] at hc;simp -dsimp (disch:=omega) only[wpS,wpT];refine⟨rfl,u,0,aa,aa,byOmega,byOmega,aa,byOmega⟩
 rintro fr h1 ⟨rfl,x,k,f0,f2,hk,hx,hL⟩;simp -dsimp (disch:=omega) only[wpS,Nat.reduceEqDiff,f0];refine jm (fun fr2 h2=>h2=h1 ∧ ∃x k:Nat,aj fr2 0=some (K64 x)∧aj fr2 2=some (KN k)∧k≤48∧x<65536∧NF u x k) (fun hc=>?_) (fun hc=>?_) ?_
 ·simp only[aJ] at hc;have e1:qQ x 16=x / 65536:=by rw[qQ,kV]
  simp -dsimp (disch:=omega) only[wpS,wpT,Nat.reduceEqDiff,Int.reduceToNat,f0,f2,e1];exact⟨rfl,x / 65536,k+16,aa,aa,byOmega,byOmega,hL.more (d:=16) byOmega⟩
 ·simp only[aV] at hc;simp -dsimp (disch:=omega) only[wpS,wpT];refine⟨rfl,x,k,by simp[f0],by simp[f2],byOmega,byOmega,hL⟩
 rintro fr h2 ⟨rfl,x,k,f0,f2,hk,hx,hL⟩;simp -dsimp (disch:=omega) only[wpS,Nat.reduceEqDiff,f0];refine jm (fun fr2 h3=>h3=h2 ∧ ∃x k:Nat,aj fr2 0=some (K64 x)∧aj fr2 2=some (KN k)∧k≤56∧x<256∧NF u x k) (fun hc=>?_) (fun hc=>?_) ?_
 ·simp only[aJ] at hc;have e1:qQ x 8=x / 256:=by rw[qQ,kV]
  simp -dsimp (disch:=omega) only[wpS,wpT,Nat.reduceEqDiff,Int.reduceToNat,f0,f2,e1];exact⟨rfl,x / 256,k+8,aa,aa,byOmega,byOmega,hL.more (d:=8) byOmega⟩
 ·simp only[aV] at hc;simp -dsimp (disch:=omega) only[wpS,wpT];refine⟨rfl,x,k,by simp[f0],by simp[f2],byOmega,byOmega,hL⟩
 rintro fr h3 ⟨rfl,x,k,f0,f2,hk,hx,hL⟩;simp -dsimp (disch:=omega) only[wpS,Nat.reduceEqDiff,Zd1,f0,f2];refine Xq (TY u9 _ mQ hx) ?_;simp -dsimp (disch:=omega) only[wpS,wpT,Nat.reduceEqDiff,HV]
 have hb:Aj x<256:=by
  have:=(CL x hx 8 byOmega).1;rcases cU 8 (Aj x) with h|h;·have:=this h;omega
  ·omega
 refine⟨k+Aj x,?_,byOmega,fun N=>hL.ok hx N⟩;rw[wrap_i64 (x:=(Aj x:Int)) byOmega,wrap_i64 byOmega];exact gC (Value.int .i64) byOmega
end Go.Id

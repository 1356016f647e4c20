/-
  Contracts: the program's long integers: sums, differences, products, quotients, divisors.
-/
import Derived.Test.YtnnmjocmapilaaaGreatOutlierOddsAm
set_option linter.unusedVariables false
set_option linter.unusedSimpArgs false
set_option linter.defProp false
set_option linter.deprecated false
namespace Go.Id
open Go
open Go renaming Operand→QY,Program→QX,TypeId→QZ,Value→QQ
open Nat renaming reduceAdd→zA,reduceEqDiff→zE,reduceLeDiff→zL
open Nat (reduceMul)
set_option maxHeartbeats 16000000
open Go.Proofs.Tryz (prog)
variable {ds:List Nat}
def sG (n:B.Norm ds) (h:Small (B.ay ds)):ds.length≤1000000:=by refine n.Rt (cV h.lt ?_);exact Mc 4294967296 18446744073709551616 1000000 aP
def RN (n:B.Norm ds) (h:yL (B.ay ds)):ds.length≤500000:=by refine n.Rt (cV h.lt ?_);exact Mc 4294967296 18446744073709551616 500000 aP
abbrev ZL:List QQ:=[.bool false,.slice none 0 0]
variable {h:IH}{z:Int}{v:QQ}
def qh (hv:bW h v z):WV prog (.func (.func 236) #[] #[]) [v] h fun r h'=>Ext h h'∧bW h' r (-z):=by
 obtain⟨s,rfl,ds,hD,hN,hx⟩:=hv;refine enter (nt:=9) (rs:=[.cell 2 135]) Proofs.Tryz.func236 rfl rfl rfl aa ?_;simp -dsimp (disch:=try exact dx) only[wpS,zE,mT,lM,ld4,mN,vV];refine call (jy (hD.ae (((aX.refl h).new _).new _)) _) ?_;rintro r h1 ⟨hE,h2⟩;have hz:(if (!decide (z<0))=true then -(B.ay ds:Int) else B.ay ds) = -z:=by by_cases h0:z<0<;>simp[h0]<;>omega
 rw[hz] at h2;obtain⟨s1,n1,rfl,c1,o1,_,_⟩:=h2.form;have n1:=(hE).n;try simp only[bj] at n1
 have hg:h1.ext.get (h.n+1)=some (.cells ZL 0 none):=by rw[hE.get _ aa];simp (disch:=try exact dx) only[aq]
 simp -dsimp (disch:=try exact dx) only[wpS,wpT,zE,zL,zA,jX,cK,hg,o1];exact⟨((((Ext.refl h).new _).new _).trans hE).put byOmega _,h2.ae ((aX.refl _).put hg _)⟩
variable {w:QQ}{y x:Int}
def vG (hv:bW h v x) (hw:bW h w y) (sx:bE x) (sy:bE y) :WV prog (.func (.func 187) #[] #[]) [v,w] h fun r h'=>Ext h h'∧bW h' r (x+y):=by
 obtain⟨s,rfl,a,ha,na,hx⟩:=hv;obtain⟨t,rfl,b,hb,nb,hy⟩:=hw;have la:a.length≤1000000:=sG na (by rw[hx];exact sx);have lb:b.length≤1000000:=sG nb (by rw[hy];exact sy);refine enter (nt:=34) (rs:=[.cell 4 135]) Proofs.Tryz.func187 rfl rfl rfl aa ?_;simp -dsimp (disch:=try exact dx) only[wpS,zE,zA,mT,lM,ld4,be4];have ee : ∀o1 o2 o3,Ext h (((h.new o1).new o2).new o3):=fun o1 o2 o3=>(((Ext.refl h).new _).new _).new _;refine az (fun hc=>?_) (fun hc=>?_)
 ·have hc:(x<0↔y<0):=by simpa using hc
  simp -dsimp (disch:=try exact dx) only[wpS];refine drawn [(1,[7])] ab ab rfl ?_;simp -dsimp (disch:=try exact dx) only[wpS,zE,lM,ld4,mN,vV];refine call (YD (ha.ae (ee _ _ _).ae) (hb.ae (ee _ _ _).ae) byOmega byOmega) ?_;rintro r h1 ⟨hE,os,hD,qD⟩;simp -dsimp (disch:=try exact dx) only[wpS,zE];refine call (jy hD _) ?_;rintro r2 h2 ⟨hE2,hr⟩;have hz:(if decide (x<0)=true then -(B.ay os:Int) else B.ay os)=x+y:=by by_cases h0:x<0<;>simp[h0]<;>omega
  rw[hz] at hr;obtain⟨s1,n1,rfl,c1,o1,_,_⟩:=hr.form;have m1:=(hE).n;try simp only[bj] at m1
  have m2:=(hE2).n;try simp only[bj,bd] at m2
  have hg:h2.ext.get (h.n+1+1)=some (.cells ZL 0 none):=by rw[hE2.get _ byOmega,hE.get _ aa];simp (disch:=try exact dx) only[aq]
  have hr0:h1.row (2*h.n)=some [.bool (decide (x<0)),s]:=by rw[hE.row bz];simp -dsimp (disch:=try exact dx) only[wpS]
  simp -dsimp (disch:=try exact dx) only[wpS,wpT,zE,zL,zA,jX,hg,o1]
  refine⟨ai rfl rfl rfl rfl (au (av:=ptr (2*h.n) 0) (v:=.bool (decide (x<0))) rfl ?_ ?_),?_⟩
  ·simp -dsimp (disch:=try exact dx) only[wpS,ld4]
  ·simp -dsimp (disch:=try exact dx) only[wpS,ld4,hr0]
  ·simp -dsimp (disch:=try exact dx) only[wpS,wpT,zE,zL,zA,cK]
   exact⟨(((ee _ _ _).trans hE).trans hE2).put byOmega _,hr.ae ((aX.refl _).put hg _)⟩
 ·have hc : ¬(x<0↔y<0):=by simpa using hc
  simp -dsimp (disch:=try exact dx) only[wpS,zE,mN,vV];refine call (B5 (ha.ae (ee _ _ _).ae) (hb.ae (ee _ _ _).ae) na nb) ?_;rintro r h1 ⟨rfl,c,rfl,hc1,hc2,hc3,hc4⟩;simp -dsimp (disch:=try exact dx) only[wpS,zE];refine jm (fun fr2 h4 => ∃(p q:Int) (sp sq:QQ) (ps qs:List Nat),Ext h h4∧h.n+3≤h4.n∧h4.ext.get h.n=some (.cells [.bool (decide (p<0)),sp] 0 none)∧h4.ext.get (h.n+1)=some (.cells [.bool (decide (q<0)),sq] 0 none)∧h4.ext.get (h.n+1+1)=some (.cells ZL 0 none) ∧kL h4 sp ps∧kL h4 sq qs∧B.Norm ps∧B.Norm qs∧B.ay ps=p.natAbs∧B.ay qs=q.natAbs∧q.natAbs≤p.natAbs∧p+q=x+y ∧ ¬(p<0↔q<0)∧aj fr2 2=some (ptr (2*h.n) 0)∧aj fr2 3=some (ptr (2*(h.n+1)) 0)∧aj fr2 4=some (ptr (2*(h.n+1+1)) 0)) (fun hc5=>?_) (fun hc5=>?_) ?_
  ·simp only[aJ] at hc5;simp -dsimp (disch:=try exact dx) only[wpS,wpT,zE,zL,zA,jX,cK,cp,hI,ha.1.cok,hb.1.cok];have g0:(((h.new (.cells [.bool (decide (x<0)),s] 0 none)).new (.cells [.bool (decide (y<0)),t] 0 none)).new (.cells [.bool false,.slice none 0 0] 0 none)).ext.get h.n=some (.cells [.bool (decide (x<0)),s] 0 none):=by simp (disch:=try exact dx) only[aq,aE]
   have g1:((((h.new (.cells [.bool (decide (x<0)),s] 0 none)).new (.cells [.bool (decide (y<0)),t] 0 none)).new (.cells [.bool false,.slice none 0 0] 0 none)).put h.n (.cells [.bool (decide (y<0)),t] 0 none)).ext.get (h.n+1)=some (.cells [.bool (decide (y<0)),t] 0 none):=by simp (disch:=try exact dx) only[aq,aE,ax]
   have kp:=((ee _ _ _).ae.put g0 (.cells [.bool (decide (y<0)),t] 0 none)).put g1 (.cells [.bool (decide (x<0)),s] 0 none);refine⟨y,x,t,s,b,a,((ee _ _ _).put (ar _) _).put byOmega _,bz,by simp (disch:=try exact dx) only[ak,ax],by simp (disch:=try exact dx) only[ak],by simp (disch:=try exact dx) only[aq,ax],hb.ae kp,ha.ae kp,nb,na,hy,hx,byOmega,byOmega,byOmega,aa,aa,aa⟩
  ·simp only[aV] at hc5;simp -dsimp (disch:=try exact dx) only[wpS,wpT];exact⟨x,y,s,t,a,b,ee _ _ _,bz,by simp (disch:=try exact dx) only[aq,aE],by simp (disch:=try exact dx) only[aq,aE],by simp (disch:=try exact dx) only[aq],ha.ae (ee _ _ _).ae,hb.ae (ee _ _ _).ae,na,nb,hx,hy,byOmega,rfl,hc,aa,aa,aa⟩
  rintro fr h4 ⟨p,q,sp,sq,ps,qs,hE4,hn4,g0,g1,g2,hp,hq,np,nq,vp,vq,hle,MZ,hsg,f2,f3,f4⟩;have r0:=cP g0;have r1:=cP g1;rw[mY];refine drawn [(1,[7])] ab ab rfl ?_;simp -dsimp (disch:=omega) only[wpS,zE,lM,ld4,mN,vV,f2,f3,r0,r1];refine call (Lo hp hq nq byOmega) ?_;rintro r h5 ⟨hE5,os,rfl,hD,qD⟩;simp -dsimp (disch:=omega) only[wpS,zE];refine call (jy hD _) ?_;rintro r2 h6 ⟨hE6,hr⟩;have hz:(if decide (p<0)=true then -(B.ay os:Int) else B.ay os)=x+y:=by by_cases h0:p<0<;>simp[h0]<;>omega
  rw[hz] at hr;obtain⟨s1,n1,rfl,c1,o1,_,_⟩:=hr.form;have m1:=(hE5).n;try simp only[bj,bd] at m1
  have m2:=(hE6).n;try simp only[bj,bd] at m2
  have hg:h6.ext.get (h.n+1+1)=some (.cells ZL 0 none):=by rw[hE6.get _ byOmega,hE5.get _ byOmega];exact g2
  have hr0:h5.row (2*h.n)=some [.bool (decide (p<0)),sp]:=cP ((hE5.get _ byOmega).trans g0);simp -dsimp (disch:=omega) only[wpS,wpT,zE,zL,zA,jX,f4,hg,o1];refine⟨ai rfl rfl rfl rfl (au (av:=ptr (2*h.n) 0) (v:=.bool (decide (p<0))) ?_ ?_ ?_),?_⟩;·simp -dsimp (disch:=omega) only[wpS]
  ·simp -dsimp (disch:=omega) only[wpS,ld4,r0]
  ·simp -dsimp (disch:=omega) only[wpS,ld4,hr0]
  ·simp -dsimp (disch:=omega) only[wpS,wpT,zE,zL,zA,cK,f4];exact⟨((hE4.trans hE5).trans hE6).put byOmega _,hr.ae ((aX.refl _).put hg _)⟩
def GW (hv:bW h v x) (hw:bW h w y) (sx:bE x) (sy:bE y) :WV prog (.func (.func 242) #[] #[]) [v,w] h fun r h'=>Ext h h'∧bW h' r (x - y):=by
 obtain⟨s,n1,rfl,c1,o1,l1,z1⟩:=hv.form;obtain⟨t,n2,rfl,c2,o2,l2,z2⟩:=hw.form;refine enter (nt:=9) (rs:=[.cell 4 135]) Proofs.Tryz.func242 rfl rfl rfl aa ?_;simp -dsimp (disch:=try exact dx) only[wpS,zE,zA,mT];have ee : ∀o1 o2 o3,Ext h (((h.new o1).new o2).new o3):=fun o1 o2 o3=>(((Ext.refl h).new _).new _).new _;refine drawn [(0,[3])] ab ab rfl ?_;simp -dsimp (disch:=try exact dx) only[wpS,wpT,zE,zL,zA,cK];refine call (qh (hw.ae (ee _ _ _).ae)) ?_;rintro r h1 ⟨hE,hT⟩;simp -dsimp (disch:=try exact dx) only[wpS,zE];refine call (vG (hv.ae ((ee _ _ _).trans hE).ae) hT sx (by rw[bE,Int.natAbs_neg];exact sy)) ?_;rintro r2 h2 ⟨hE2,hr⟩;obtain⟨s1,n3,rfl,c3,o3,l3,z3⟩:=hr.form;have m1:=(hE).n;try simp only[bj] at m1
 have m2:=(hE2).n;try simp only[bj,bd] at m2
 have hg:h2.ext.get (h.n+1+1)=some (.cells ZL 0 none):=by rw[hE2.get _ byOmega,hE.get _ aa];simp (disch:=try exact dx) only[aq]
 have hr0:h1.row (2*h.n)=some [.bool (decide (x<0)),s]:=by rw[hE.row bz];simp -dsimp (disch:=try exact dx) only[wpS]
 simp -dsimp (disch:=try exact dx) only[wpS,wpT,zE,zL,zA,jX,hg,o3];refine⟨ai rfl rfl rfl rfl (au (av:=ptr (2*h.n) 0) (v:=.agg #[.bool (decide (x<0)),s]) rfl ?_ ?_),?_⟩
 ·simp -dsimp (disch:=try exact dx) only[wpS,wpT,zL,zA,cK];rfl
 ·simp -dsimp (disch:=omega) only[wpS,wpT,zL,zA,cK,hr0];rfl
 ·simp -dsimp (disch:=omega) only[wpS,wpT,zE,zL,zA,cK];refine⟨(((ee _ _ _).trans hE).trans hE2).put byOmega _,?_⟩;have:x + -y=x - y:=byOmega;rw[this] at hr ⊢;exact hr.ae ((aX.refl _).put hg _)
def jP (hv:bW h v x) (hw:bW h w y) (sx:Im x) (sy:Im y) :WV prog (.func (.func 104) #[] #[]) [v,w] h fun r h'=>Ext h h'∧bW h' r (x*y):=by
 obtain⟨s,rfl,ds,hD,hN,hx⟩:=hv;obtain⟨t,rfl,es,hE,hM,hy⟩:=hw;have l1:ds.length≤500000:=RN hN (by rw[hx];exact sx);have l2:es.length≤500000:=RN hM (by rw[hy];exact sy);refine enter (nt:=16) (rs:=[.cell 4 135]) Proofs.Tryz.func104 rfl rfl rfl aa ?_;simp -dsimp (disch:=try exact dx) only[wpS,zE,zA,mT];have kk : ∀o1 o2 o3,Ext h (((h.new o1).new o2).new o3):=fun o1 o2 o3=>(((Ext.refl h).new _).new _).new _;refine drawn [(1,[10]),(3,[10])] ab ab rfl ?_;simp -dsimp (disch:=try exact dx) only[wpS,zE,lM,ld4,bn4,mN,vV,Ai];refine call (Ga (hD.ae (kk _ _ _).ae) (hE.ae (kk _ _ _).ae) byOmega) ?_;rintro r h1 ⟨hE1,os,hO,hOv⟩;simp -dsimp (disch:=try exact dx) only[wpS,zE];refine call (jy hO _) ?_;rintro r2 h2 ⟨hE2,hr⟩;rw[hOv,hx,hy,sign_mul] at hr;obtain⟨s3,n3,rfl,c3,o3,_,_⟩:=hr.form;have m1:=(hE1).n;try simp only[bj] at m1
 have m2:=(hE2).n;try simp only[bj,bd] at m2
 have hg:h2.ext.get (h.n+1+1)=some (.cells ZL 0 none):=by rw[hE2.get _ byOmega,hE1.get _ aa];exact aq _ _ rfl
 have r0:h1.row (2*h.n)=some [.bool (decide (x<0)),s]:=by rw[hE1.row bz];simp -dsimp (disch:=try exact dx) only[wpS]
 have r1:h1.row (2*(h.n+1))=some [.bool (decide (y<0)),t]:=by rw[hE1.row bz];simp -dsimp (disch:=try exact dx) only[wpS]
 simp -dsimp (disch:=try exact dx) only[wpS,wpT,zE,zL,zA,jX,hg,o3];refine⟨nO (ai rfl rfl rfl rfl (au (av:=ptr (2*h.n) 0) (v:=.bool (decide (x<0))) rfl ?_ ?_)) (ai rfl rfl rfl rfl (au (av:=ptr (2*(h.n+1)) 0) (v:=.bool (decide (y<0))) rfl ?_ ?_)),?_⟩
 ·simp -dsimp (disch:=try exact dx) only[wpS,ld4]
 ·simp -dsimp (disch:=try exact dx) only[wpS,ld4,r0]
 ·simp -dsimp (disch:=try exact dx) only[wpS,ld4]
 ·simp -dsimp (disch:=omega) only[wpS,ld4,r1]
 simp -dsimp (disch:=omega) only[wpS,wpT,zE,zL,zA,cK];exact⟨(((kk _ _ _).trans hE1).trans hE2).put byOmega _,hr.ae ((aX.refl _).put hg _)⟩
def qi (hv:bW h v z):WV prog (.func (.func 92) #[] #[]) [v] h fun r h'=>Ext h h'∧r=KI (if z<0 then -1 else if z=0 then 0 else 1):=by
 obtain⟨s,n1,rfl,c1,o1,l1,z1⟩:=hv.form;refine enter (nt:=11) (rs:=[.tmp 2]) Proofs.Tryz.func92 rfl rfl rfl aa ?_;simp -dsimp (disch:=omega) only[wpS,zE,lM,ld4];refine az ?_ ?_<;>intro hc<;>simp only[aJ,aV] at hc;·simp -dsimp (disch:=omega) only[wpS,wpT,zE];refine⟨(Ext.refl h).new _,?_⟩;rw[ah hc]
 ·simp -dsimp (disch:=omega) only[wpS,wpT,zE,mN,vV,l1 jd];refine az ?_ ?_<;>intro hc2<;>simp only[bD,Av,ne_eq] at hc2
  ·simp -dsimp (disch:=omega) only[wpS,wpT,zE];refine⟨(Ext.refl h).new _,?_⟩;rw[ad byOmega,ah byOmega]
  ·simp -dsimp (disch:=omega) only[wpS,wpT];refine⟨(Ext.refl h).new _,?_⟩;rw[ad byOmega,ad byOmega]
def Jz (hv:bW h v x) (hw:bW h w y) (sx:bE x) (sy:bE y) :WV prog (.func (.func 190) #[] #[]) [v,w] h fun r h'=>Ext h h'∧r=KI (if x<y then -1 else if x=y then 0 else 1):=by obtain⟨s,n1,rfl,c1,o1,l1,z1⟩:=hv.form;obtain⟨t,n2,rfl,c2,o2,l2,z2⟩:=hw.form;refine enter (nt:=9) (rs:=[.tmp 4]) Proofs.Tryz.func190 rfl rfl rfl aa ?_;simp -dsimp (disch:=try exact dx) only[wpS,wpT,zE,zL,zA,cK];have e2 : ∀o1 o2,Ext h ((h.new o1).new o2):=fun o1 o2=>((Ext.refl h).new _).new _;refine call (GW (hv.ae (e2 _ _).ae) (hw.ae (e2 _ _).ae) sx sy) ?_;rintro r h1 ⟨hE,hr⟩;simp -dsimp (disch:=omega) only[wpS,zE];refine call (qi hr) ?_;rintro _ h2 ⟨hE2,rfl⟩;simp -dsimp (disch:=omega) only[wpS,zE];refine⟨((e2 _ _).trans hE).trans hE2,?_⟩;congr 1;split<;>split<;>(try split)<;>(try split)<;>omega
theorem Za9 (n:Int):IntKind.i64.wrap n=(n+9223372036854775808) % 18446744073709551616 - 9223372036854775808:=by
 have e:IntKind.i64.wrap n=if decide (n % 18446744073709551616 ≥ 9223372036854775808)=true then n % 18446744073709551616 - 18446744073709551616 else n % 18446744073709551616:=by simp[IntKind.wrap,IntKind.bits,IntKind.signed]
 rw[e];split<;>simp at * <;> omega
theorem wJ (n:Nat):wdC n=((List.range 8).map fun i=>(wrd n i:Int)).map (Value.int .u64):=by simp[wdC]
variable {m n:Nat}
def YQ (hn:n<W8) (hm:m<W8) (h : ∀i,i<8→wrd n i=wrd m i):n=m:=by
 have key : ∀i,i≤8→n % 18446744073709551616 ^ i=m % 18446744073709551616 ^ i:=by
  intro i
  induction i with
  | zero=>intro _;rw[pN,Nat.mod_one,Nat.mod_one]
  | succ i ih=>intro hi;rw[JM,JM,ih byOmega,h i byOmega]
 have:=key 8 (ar _);rw[←An] at this;rwa [eP hn,eP hm] at this
theorem Oa (hn:n<W8) (hm:m<W8):decide (((List.range 8).map fun i=>(wrd n i:Int))=((List.range 8).map fun i=>(wrd m i:Int)))=decide (n=m):=by
 rw[oQ];simp only[aJ];constructor;·intro h;refine YQ hn hm fun i hi=>?_;have:=gC (fun l=>l[i]?) h;simp[hi] at this;omega
 ·rintro rfl;rfl
theorem Va (hn:n<W8) (hm:m<W8) (ox oy:Operand):binop prog .eql 30 ox oy (.agg (wdC n).toArray) (.agg (wdC m).toArray)=some (.bool (decide (n=m))):=by rw[wJ,wJ,Gm u30 u28 I9 eg30 _ _ _ _ aa aa,Oa hn hm]
def N9 (hn:n<W8) (hm:m<W8) (ox oy:Operand):binop prog .neq 30 ox oy (.agg (wdC n).toArray) (.agg (wdC m).toArray)=some (.bool (!decide (n=m))):=by rw[wJ,wJ,Gl u30 u28 I9 eg30 _ _ _ _ aa aa,Oa hn hm]
theorem KY {n:Int} (h:0≤n):bJ n=n.toNat:=by simp[bJ,h]
def IL {n:Int} (hn:gV n) (i:Nat) (hi:i<8):(wrd (bJ n) i:Int)=if i=0 then n % 18446744073709551616 else if n<0 then 18446744073709551615 else 0:=by
 by_cases h0:0≤n
 ·rw[bJ,ah h0];by_cases hz:i=0
  ·subst hz;rw[ah rfl,wrd,pN,C0];omega
  ·rw[ad hz,ad byOmega,yN (i:=1) byOmega byOmega];rfl
 ·rw[bJ,ad h0];obtain⟨u,hu⟩:=bm (n.natAbs:Nat);rw[←hu];have e:W8 - u=(18446744073709551616 - u)+18446744073709551616*(18446744073709551616 ^ 7 - 1):=by rw[An];omega
  by_cases hz:i=0;·subst hz;rw[ah rfl,wrd,pN,C0,e,C7];omega
  ·rw[ad hz,ah byOmega];obtain⟨k,rfl⟩ : ∃k,i=k+1:=⟨i - 1,byOmega⟩;have e3:((18446744073709551616 - u)+18446744073709551616*(18446744073709551616 ^ 7 - 1)) / 18446744073709551616=18446744073709551616 ^ 7 - 1:=by rw[Nat.add_mul_div_left _ _ byOmega,mw byOmega,eu]
   rw[wrd,Nat.pow_succ',←xV,e,e3];have hk:k<7:=byOmega;have hk2:k=0∨k=1∨k=2∨k=3∨k=4∨k=5∨k=6:=byOmega;rcases hk2 with rfl|rfl|rfl|rfl|rfl|rfl|rfl<;>rfl
def pU (w0:Int) (i:Nat):List Value:=(List.range 8).map fun j=>.int .u64 (if j=0 then w0 else if j<i then 18446744073709551615 else 0)
theorem nj (w0:Int) (i:Nat):(pU w0 i).length=8:=by simp[pU]
theorem Gt (w0:Int):pU w0 1 = [.int .u64 w0,.int .u64 0,.int .u64 0,.int .u64 0,.int .u64 0,.int .u64 0,.int .u64 0,.int .u64 0]:=by simp[pU,Da]
def SA (w0:Int) {i:Nat} (h0:0<i) (hi:i<8):(pU w0 i).set i (.int .u64 18446744073709551615)=pU w0 (i+1):=by
 apply jT;intro j;rw[uW,nj];by_cases hij:i=j;·subst hij;rw[ah rfl,ah hi];simp[pU,hi,show ¬i=0 by omega]
 ·rw[ad hij];by_cases hj:j<8
  ·simp only[pU,cm,kY hj,jt];by_cases hz:j=0
   ·simp[hz]
   ·by_cases hlt:j<i
    ·simp[hz,hlt,show j<i+1 by omega]
    ·simp[hz,hlt,show ¬j<i+1 by omega]
  ·rw[cI (by rw[nj];omega),cI (by rw[nj];omega)]
theorem SC {n:Int} (hn:gV n) (h0:n<0):pU (n % 18446744073709551616) 8=wdC (bJ n):=by
 apply jT;intro j;by_cases hj:j<8;·rw[fZ _ _ hj];simp only[pU,cm,kY hj,jt,K64,IL hn j hj];simp[h0,hj]
 ·rw[cI (by rw[nj];omega),cI (by rw[aH];omega)]
theorem SB {n:Int} (hn:gV n) (h0 : ¬n<0):pU (n % 18446744073709551616) 1=wdC (bJ n):=by
 apply jT;intro j;by_cases hj:j<8
 ·rw[fZ _ _ hj];simp only[pU,cm,kY hj,jt,K64,IL hn j hj];by_cases hz:j=0
  ·simp[hz]
  ·simp[h0,hz]
 ·rw[cI (by rw[nj];omega),cI (by rw[aH];omega)]
variable {h:IH}
set_option maxRecDepth 100000 in
def sB (n:Int) (hn:gV n):WV prog (.func (.func 106) #[] #[]) [KI n] h fun r h'=>Ext h h'∧r=uF n:=by
 have hw:IntKind.u64.wrap n=n % 18446744073709551616:=xl n;have hE : ∀a b c,Ext h (((h.new a).new b).put (h.n+1) c):=fun a b c=>(((Ext.refl h).new _).new _).put byOmega _;have fin : ∀h1:IH,Ext h h1→h.n+1<h1.n→h1.ext.get (h.n+1)=some (.cells (wdC (bJ n)) 0 none)→h1.ext.get h.n=some (.cells [ZW,ZW,ZW,ZW,ZW,ZW,ZW,ZW] 0 none)→True:=fun _ _ _ _ _=>trivial;refine enter (nt:=17) (rs:=[.cell 2 30]) Proofs.Tryz.func106 rfl rfl rfl aa ?_;simp -dsimp (disch:=omega) only[wpR];rw[mY];simp -dsimp (disch:=try exact dx) only[wpR,rR];rw[mY];simp -dsimp (disch:=try exact dx) only[wpR,wpT,zE,zL,zA,rR,Ks,Gj,Zc5,oV,hw];rw[mY];refine cut (fun fr2 h2=>Ext h h2∧aj fr2 2=some (ptr (2*h.n) 0)∧aj fr2 3=some (ptr (2*(h.n+1)) 0)∧h.n+1<h2.n∧h2.ext.get (h.n+1)=some (.cells (wdC (bJ n)) 0 none)∧h2.ext.get h.n=some (.cells [ZW,ZW,ZW,ZW,ZW,ZW,ZW,ZW] 0 none)) ?_ ?_
 ·by_cases h0:n<0
  ·simp -dsimp (disch:=try exact dx) only[wpS,zE,Ac h0];refine loop (fun m fr h2 => ∃i:Nat,i+m=8∧0<i∧aj fr 2=some (ptr (2*h.n) 0)∧aj fr 3=some (ptr (2*(h.n+1)) 0)∧aj fr 4=some (KN i)∧Ext h h2∧h.n+1<h2.n∧h2.ext.get (h.n+1)=some (.cells (pU (n % 18446744073709551616) i) 0 none)∧h2.ext.get h.n=some (.cells [ZW,ZW,ZW,ZW,ZW,ZW,ZW,ZW] 0 none)) 7 ⟨1,aa,aa,aa,aa,aa,hE _ _ _,aa,?_,?_⟩ ?_
   ·rw[Gt];exact ak _ _ rfl
   ·simp -dsimp (disch:=try exact dx) only[wpS]
   ·rintro m fr h2 ⟨i,him,hi0,f2,f3,f4,hE2,hlt,hg1,hg0⟩;simp -dsimp (disch:=omega) only[wpS,zE,f4];refine az ?_ ?_<;>intro hc<;>simp only[aJ,aV] at hc
    ·have hi:i<8:=byOmega;have hsp:IH.aI (pU (n % 18446744073709551616) i) i [.int .u64 18446744073709551615]=pU (n % 18446744073709551616) (i+1):=by rw[jz (by rw[nj];exact hi),SA _ hi0 hi]
     simp -dsimp (disch:=omega) only[wpS,wpT,zE,zL,yJ,AL,f3,f4,yJ,hg1,nj,hsp];refine⟨m - 1,byOmega,i+1,byOmega,byOmega,by simp[f2],by simp[f3],aa,hE2.put byOmega _,by simpa using hlt,ak _ _ rfl,?_⟩;rw[ax _ _ byOmega];exact hg0
    ·obtain rfl:i=8:=byOmega;simp -dsimp (disch:=try exact dx) only[wpS,wpT];exact⟨hE2,by simp[f2],by simp[f3],hlt,by rw[hg1,SC hn h0],hg0⟩
  ·simp -dsimp (disch:=try exact dx) only[wpS,zE,Ad h0];refine⟨hE _ _ _,aa,aa,aa,?_,?_⟩
   ·rw[←SB hn h0,Gt];exact ak _ _ rfl
   ·simp -dsimp (disch:=try exact dx) only[wpS]
 ·rintro fr2 h2 ⟨hE2,f2,f3,hlt,hg1,hg0⟩;have jc:h2.row (2*(h.n+1))=some (wdC (bJ n)):=by rw[mJ];exact Fs hg1
  have Po:IH.aI [ZW,ZW,ZW,ZW,ZW,ZW,ZW,ZW] 0 (wdC (bJ n))=wdC (bJ n):=jA (by rw[aH];rfl);simp -dsimp (disch:=omega) only[wpS,wpT,zE,zL,zA,oV,iO,f2,f3,jc,hg0,aH,di,dH,Po];exact⟨hE2.put byOmega _,rfl⟩
set_option maxRecDepth 100000 in
def N7 (a:Nat) (ha:a<W8):WV prog (.func (.func 182) #[] #[]) [wdV a] h fun r h'=>Ext h h'∧r=if gV (wdI a) then .tuple #[KI (wdI a),KI 0] else .tuple #[KI 0,KI 6]:=by
 have h0:=AG a 0
 obtain⟨n,hn⟩:=bm (IntKind.i64.wrap (wrd a 0:Int));have hn64:gV n:=by rw[hn,Za9];omega
 have inw:InW (wdI a):=by have:=uC;unfold InW wdI;split<;>omega
 have hiff:bJ n=a↔gV (wdI a)∧wdI a=n:=by
  constructor
  ·intro h1;have h2:wdI a=n:=by rw[←h1];exact dQ (by have:=yM;unfold InW;omega)
   exact⟨by rw[h2];exact hn64,h2⟩
  ·rintro⟨h1,h2⟩;rw[←h2];have:=uC;unfold bJ wdI;split<;>split<;>omega
 have hn2:gV (wdI a)→wdI a=n:=by
  intro h1;have h2:bJ (wdI a)=a:=by have:=uC;unfold bJ wdI;split<;>split<;>omega
  have h3:=IL h1 0 byOmega;rw[h2,ah rfl] at h3;rw[hn,h3,Za9];omega
 refine enter (nt:=13) (rs:=[.tmp 2,.tmp 3]) Proofs.Tryz.func182 rfl rfl rfl aa ?_;simp -dsimp (disch:=omega) only[wpS,zE,yJ,xg,Fl,K8,yJ,fZ a 0 byOmega,show uK 0 8=some 0 from rfl,←hn];refine drawn [(2,[1])] ab ab rfl ?_;simp -dsimp (disch:=omega) only[wpS,zE];refine call (sB n hn64) ?_;rintro r h1 ⟨hE,rfl⟩;have hr:h1.row (2*h.n)=some (wdC a):=by rw[hE.row aa];exact mI _ _ _ _ rfl
 have hEE:=((Ext.refl h).new _).trans hE;simp -dsimp (disch:=omega) only[wpS,zE,zL,iO,hr,aH,di,wdV,N9 (gZ (show InW n by have:=yM;unfold InW;omega)) ha];refine⟨ai rfl rfl rfl rfl (au (av:=ptr (2*h.n) 0) (v:=wdV a) rfl ?_ ?_),?_⟩;·simp -dsimp (disch:=omega) only[wpS,zL,iO,hr,aH,di];rfl
 ·simp -dsimp (disch:=omega) only[wpS,zL,iO,aH,di]
  rfl
 ·by_cases he:bJ n=a
  ·have h2:=hiff.1 he
   simp -dsimp (disch:=omega) only[wpS,wpT,zE,zA,show decide (bJ n=a)=true by simpa using he]
   refine⟨hEE,?_⟩;rw[ah h2.1,h2.2]
  ·simp -dsimp (disch:=omega) only[wpS,wpT,zE,zA,show decide (bJ n=a)=false by simpa using he]
   refine⟨hEE,?_⟩;rw[ad];intro h2;exact he (hiff.2 ⟨h2,hn2 h2⟩)
def wds (n:Nat):List Nat:=(List.range 8).map (wrd n)
theorem nP (n:Nat):(wds n).length=8:=by simp[wds]
def tN (n:Nat):B.cG (wds n):=fun d hd=>by simp only[wds,ju] at hd;obtain⟨i,_,rfl⟩:=hd;exact AG _ _
theorem qX (n:Nat):wdC n=(wds n).map K64:=by simp[wdC,wds]
theorem Ql (n:Nat) {i:Nat} (hi:i<8):(wds n).getD i 0=wrd n i:=by rw[bC];simp[wds,hi]
theorem Du (n:Nat) : ∀i,i≤8→B.a8 (wds n) i=n % 18446744073709551616 ^ i
 | 0,_=>by simp[B.a8,Nat.mod_one]
 | i+1,h=>by rw[B.a8,Du n i byOmega,Ql n byOmega,wrd,dU,Nat.mod_mul,gu]
theorem FM:W8=18446744073709551616 ^ 8:=by unfold W8;rfl
theorem jE:H8+H8=W8:=by unfold W8 H8;rfl
theorem nM:0<H8:=by unfold H8;decide
theorem IU {n:Nat} (h:n<W8):B.ay (wds n)=n:=by rw[B.ay,nP,Du n 8 (ar _),←FM,eP h]
variable {ds:List Nat}
theorem N8 (hl:ds.length=8) (hd:B.cG ds):wds (B.ay ds)=ds:=by apply List.ext_getElem (by rw[nP,hl]);intro i h1 h2;rw[nP] at h1;have e1:=Ql (B.ay ds) h1;have e2:=B.wy hd i;rw[wrd,←e2] at e1;rw[bC,bC,bK (by rw[nP];exact h1),bK h2] at e1;simpa using e1
def YX (hl:ds.length=8) (hd:B.cG ds):B.ay ds<W8:=by have:=B.lJ hd;rwa [hl,←FM] at this
def eG (n:Nat):(wdV n).cells.toList=wdC n:=rfl
set_option maxHeartbeats 2000000 in
def tY {h:IH} (a b:Nat) (ha:a<W8) (hb:b<W8):WV Proofs.Tryz.prog (.func (.func 243) #[] #[]) [wdV a,wdV b] h fun r h'=>Ext h h' ∧ ∃m bor,r=.tuple #[wdV m,K64 bor]∧m<W8∧bor≤1∧a+bor*W8=b+m:=by
 refine enter (nt:=27) (rs:=[.cell 4 244,.tmp 5]) Proofs.Tryz.func243 rfl rfl rfl aa ?_;simp -dsimp (maxSteps:=1000000) (disch:=first|omega|(simp only[bj,bd];omega)|decide +kernel|(repeat first|rw[bj]|rw[bd])) only[wpS,Nat.reduceEqDiff,Nat.reduceAdd,UU,eG];rw[qX a,qX b];have lA:=nP a;have lB:=nP b;refine loop (fun m fr h1 => ∃(i bor:Nat) (os:List Nat),i+m=8∧Ext h h1∧h.n+3≤h1.n∧h1.ext.get h.n=some (.cells (os.map K64) 0 none)∧h1.ext.get (h.n+1)=some (.cells ((wds b).map K64) 0 none)∧(∃c,h1.ext.get (h.n+1+1)=some (.cells c 0 none)∧c.length=8)∧bor≤1∧os.length=8∧B.cG os∧(∀j,i≤j→os.getD j 0=(wds a).getD j 0) ∧B.a8 (wds a) i+bor*18446744073709551616 ^ i=B.a8 (wds b) i+B.a8 os i∧aj fr 2=some (ptr (2*h.n) 0)∧aj fr 3=some (ptr (2*(h.n+1)) 0)∧aj fr 4=some (ptr (2*(h.n+1+1)) 0)∧aj fr 6=some (K64 bor)∧aj fr 8=some (KN i)) 8 ⟨0,0,wds a,rfl,(((Ext.refl h).new _).new _).new _,bz,by simp (disch:=first|omega|(simp only[bj,bd];omega)|(repeat first|rw[bj]|rw[bd])) only[aq,aE],by simp (disch:=first|omega|(simp only[bj,bd];omega)|(repeat first|rw[bj]|rw[bd])) only[aq,aE],⟨[ZW,ZW,ZW,ZW,ZW,ZW,ZW,ZW],by simp (disch:=first|omega|(simp only[bj,bd];omega)|(repeat first|rw[bj]|rw[bd])) only[aq],rfl⟩,byOmega,lA,tN a,fun _ _=>rfl,by simp[B.a8]⟩ ?_;rintro m fr h1 ⟨i,bor,os,him,hE,hn,hg,hg1,hg2,Xa,hol,hod,hoa,hv,f2,f3,f4,f6,f8⟩;simp -dsimp (maxSteps:=1000000) (disch:=first|omega|(simp only[bj,bd];omega)|decide +kernel|(repeat first|rw[bj]|rw[bd])) only[wpS,f8];refine az ?_ ?_<;>intro hc<;>simp only[aJ,aV] at hc
 ·have hi:i<8:=byOmega;have r0:=cP hg;have r1:=cP hg1;have go:=get_some (show i<os.length by omega);have gb:=get_some (show i<(wds b).length by omega);have hx:=hoa i (ar _);have dx:=B.cM hod i;have dy:=B.cM (tN b) i;obtain⟨x,hx1⟩:=bm (os.getD i 0);obtain⟨y,hy1⟩:=bm ((wds b).getD i 0);rw[←hx1] at go dx hx;rw[←hy1] at gb dy;simp -dsimp (maxSteps:=1000000) (disch:=first|omega|(simp only[bj,bd];omega)|decide +kernel|(repeat first|rw[bj]|rw[bd])) only[wpS,wpT,Nat.reduceEqDiff,So,xg,f2,f3,f6,f8,r0,r1,dI,go,gb];refine call (Lv x y bor Xa) ?_;rintro _ _ ⟨rfl,rfl⟩;generalize hdd:(x+18446744073709551616 - y - bor) % 18446744073709551616=d;obtain⟨b2,hb2,hb1,nD⟩ : ∃b2:Nat,(bif Nat.blt x (y+bor) then 1 else 0)=b2∧b2≤1∧x+b2*18446744073709551616=y+bor+d:=by
   by_cases hlt:x<y+bor
   ·have e:Nat.blt x (y+bor)=true:=by simp only[Nat.blt,bI];exact hlt
    refine⟨1,by rw[e];rfl,byOmega,byOmega⟩
   ·have e:Nat.blt x (y+bor)=false:=by rw[oR];intro h;simp[Nat.blt] at h;omega
    refine⟨0,by rw[e];rfl,byOmega,byOmega⟩
  rw[hb2];have hd2:d<18446744073709551616:=byOmega;have spl:=nR d (show i<os.length by omega);rename_i h3;simp -dsimp (maxSteps:=1000000) (disch:=first|omega|(simp only[bj,bd];omega)|decide +kernel|(repeat first|rw[bj]|rw[bd])) only[wpS,wpT,Nat.reduceEqDiff,Nat.reduceLeDiff,So,AL,f2,f8,hg,spl,cd,hol];obtain⟨c,hgc,hcl⟩:=hg2;refine⟨m - 1,byOmega,i+1,b2,os.set i d,byOmega,hE.put (ar _) _,hn,ak _ _ rfl,by simp (disch:=first|omega|(simp only[bj,bd];omega)|(repeat first|rw[bj]|rw[bd])) only[ax];exact hg1,⟨c,by simp (disch:=first|omega|(simp only[bj,bd];omega)|(repeat first|rw[bj]|rw[bd])) only[ax];exact hgc,hcl⟩,hb1,by rw[dV,hol],hod.set _ hd2,?_,?_,by simp[f2,f3,f4]⟩;·intro j hj;rw[B.fW byOmega,ad byOmega];exact hoa j byOmega
  ·rw[nQ byOmega,B.a8,B.a8,←hx,←hy1,dU];have e3:x*18446744073709551616 ^ i+b2*(18446744073709551616 ^ i*18446744073709551616)=(y+bor+d)*18446744073709551616 ^ i:=by rw[←nD];grind
   have e4:(y+bor+d)*18446744073709551616 ^ i=y*18446744073709551616 ^ i+bor*18446744073709551616 ^ i+d*18446744073709551616 ^ i:=fO;omega
 ·obtain rfl:i=8:=byOmega;have r0:=cP hg;have lm:(os.map K64).length=8:=by rw[cd,hol]
  have all:=RC os;have tk8:List.take 8 (List.drop 0 (os.map K64))=os.map K64:=by rw[cp,dr byOmega]
  obtain⟨c,hgc,hcl⟩:=hg2;have hsp:IH.aI c 0 (os.map K64)=os.map K64:=jA (by rw[hcl,lm]);simp -dsimp (maxSteps:=1000000) (disch:=first|omega|(simp only[bj,bd];omega)|decide +kernel|(repeat first|rw[bj]|rw[bd])) only[wpS,wpT,Nat.reduceEqDiff,Nat.reduceLeDiff,BR,LD,f2,f4,f6,r0,lm,all,tk8,hgc,hcl,hsp];rw[←N8 hol hod,←qX] ;have e8 : ∀n,n<W8→B.a8 (wds n) 8=n:=fun n hn=>by rw[Du n 8 (ar _),←FM,eP hn]
  rw[e8 a ha,e8 b hb,←FM] at hv;have hvo:B.a8 os 8=B.ay os:=by rw[B.ay,hol]
  rw[hvo] at hv;exact⟨hE.put byOmega _,B.ay os,bor,rfl,YX hol hod,Xa,hv⟩
variable {h:IH}
def zf (a b:Nat) (ha:a<W8) (hb:b<W8):WV prog (.func (.func 215) #[] #[]) [wdV a,wdV b] h fun r h'=>Ext h h'∧r=KI (if a<b then -1 else if a=b then 0 else 1):=by
 refine enter (nt:=24) (rs:=[.tmp 4]) Proofs.Tryz.func215 rfl rfl rfl aa ?_;simp -dsimp (disch:=omega) only[wpS,zE,zA,eG];rw[qX a,qX b];have lA:=nP a;have lB:=nP b;have e2 : ∀o1 o2,Ext h ((h.new o1).new o2):=fun o1 o2=>((Ext.refl h).new _).new _;have hA:B.ay (wds a)=a:=IU ha;have hB:B.ay (wds b)=b:=IU hb;refine loop (fun m fr h1=>h1=((h.new (.cells ((wds a).map K64) 0 none)).new (.cells ((wds b).map K64) 0 none))∧m≤8∧(∀j,m≤j→j<8→(wds a).getD j 0=(wds b).getD j 0) ∧aj fr 2=some (ptr (2*h.n) 0)∧aj fr 3=some (ptr (2*(h.n+1)) 0)∧aj fr 5=some (KI ((m:Int) - 1))) 8 ⟨rfl,ar _,fun j h1 h2=>byOmega,aa⟩ ?_;rintro m fr h1 ⟨rfl,hm,hz,f2,f3,f5⟩;rcases gW m with rfl|hp;·simp -dsimp (disch:=omega) only[wpS,wpT,zE,f5];refine⟨e2 _ _,?_⟩;have:=B.pK (lA.trans lB.symm) (fun j hj=>hz j (dT _) byOmega);rw[hA,hB] at this;rw[ad byOmega,ah this]
 ·obtain⟨k,rfl⟩ : ∃k,m=k+1:=⟨m - 1,byOmega⟩;have h2:(((k+1:Nat):Int) - 1)=(k:Int):=byOmega;rw[h2] at f5;have ga:=get_some (show k<(wds a).length by omega);have gb:=get_some (show k<(wds b).length by omega);have da:=B.cM (tN a) k;have db:=B.cM (tN b) k;have key:((wds a).getD k 0<(wds b).getD k 0→a<b)∧((wds b).getD k 0<(wds a).getD k 0→b<a):=by have k1:=fun h=>B.nB (tN a) (lA.trans lB.symm) (show k<(wds a).length by omega) h (fun j x y=>hz j byOmega byOmega);have k2:=fun h=>B.nB (tN b) (lB.trans lA.symm) (show k<(wds b).length by omega) h (fun j x y=>(hz j byOmega byOmega).symm);rw[hA,hB] at k1 k2;exact⟨k1,k2⟩
  obtain⟨x,hx⟩:=bm ((wds a).getD k 0);obtain⟨y,hy⟩ : ∃x,x=(wds b).getD k 0:=⟨_,rfl⟩;rw[←hx] at ga da key;rw[←hy] at gb db key;simp -dsimp (disch:=try exact dx) only[wpS,wpT,zE,So,xg,f2,f3,f5,dI,ga,gb];refine az ?_ ?_<;>intro hc<;>simp only[pM,Iq,ne_eq] at hc
  ·simp -dsimp (disch:=try exact dx) only[wpS,wpT,zE,So,xg,f2,f3,f5,dI,ga,gb];refine az ?_ ?_<;>intro hc2<;>simp only[aJ,aV] at hc2
   ·simp -dsimp (disch:=omega) only[wpS,wpT,zE];have:=key.1 byOmega;exact⟨e2 _ _,by rw[ah this]⟩
   ·simp -dsimp (disch:=omega) only[wpS,wpT];have:=key.2 byOmega;exact⟨e2 _ _,by rw[ad byOmega,ad byOmega]⟩
  ·simp -dsimp (disch:=try exact dx) only[wpS,wpT,zE,f5];refine⟨k,byOmega,rfl,byOmega,fun j h1 h2=>?_,by simp[f2],by simp[f3],aa⟩;by_cases hj:j=k
   ·subst hj;omega
   ·exact hz j byOmega h2
def Wn (b:Bool) (n:Nat):QQ:=.agg (QQ.bool b :: wdC n).toArray
def G3 (b:Bool) (n:Nat):(Wn b n).cells.toList=.bool b :: wdC n:=rfl
def iF (n:Nat):IH.aI [ZW,ZW,ZW,ZW,ZW,ZW,ZW,ZW] 0 (wdC n)=wdC n:=jA (by rw[aH];rfl)
def IV (m n:Nat):IH.aI (wdC m) 0 (wdC n)=wdC n:=jA (by rw[aH,aH])
def oD (b:QQ) (n:Nat):List.take 8 (List.drop 1 (b :: wdC n))=wdC n:=by rw[List.drop_succ_cons,cp,dr (by rw[aH];omega)]
def AX (b:QQ) (n:Nat):List.take 9 (List.drop 0 (b :: wdC n))=b :: wdC n:=by rw[cp,dr (by simp[aH])]
def U9:List.take 8 (List.drop 0 [ZW,ZW,ZW,ZW,ZW,ZW,ZW,ZW]) = [ZW,ZW,ZW,ZW,ZW,ZW,ZW,ZW]:=rfl
theorem qW:QQ.agg #[ZW,ZW,ZW,ZW,ZW,ZW,ZW,ZW]=wdV 0:=by rw[wdV,pV]
def ZA (n:Nat) (hn:n<W8):WV prog (.func (.func 192) #[] #[]) [wdV n] h fun r h'=>Ext h h'∧r=Wn (decide (wdI n<0)) (wdI n).natAbs:=by
 have h7:=Zck hn;have l7:=AG n 7;have hs:qQ (wrd n 7) 63=wrd n 7 / 9223372036854775808:=kV _ _;have ZdK:((((wrd n 7 / 9223372036854775808:Nat):Int)) == 1)=decide (wdI n<0):=by
  have h2:=jE;by_cases hlt:n<H8
  ·have e1:wrd n 7 / 9223372036854775808=0:=by have:=h7.2 hlt;omega
   rw[e1,wdI,ah hlt];simp
  ·have e1:wrd n 7 / 9223372036854775808=1:=by have : ¬wrd n 7<9223372036854775808:=fun h=>hlt (h7.1 h);omega
   rw[e1,wdI,ad hlt];simp;omega
 refine enter (nt:=21) (rs:=[.cell 2 246]) Proofs.Tryz.func192 rfl rfl rfl aa ?_;simp -dsimp (disch:=try exact dx) only[wpS,wpT,zE,zL,zA,Int.reduceToNat,Qe,yJ,xg,iO,Zb4,Q6,ZG,LC,w5,ld4,eG,aH,dH,di,yJ,fZ n 7 byOmega,show uK 7 8=some 7 from rfl,hs,ZdK,iF];refine az ?_ ?_<;>intro hc<;>simp only[aJ,aV] at hc
 ·have h2:=jE;have hge:H8≤n:=by unfold wdI at hc;split at hc<;>omega
  have hw:wdI n = -((W8 - n:Nat):Int):=by unfold wdI;rw[ad byOmega];omega
  simp -dsimp (disch:=try exact dx) only[wpS,wpT,zE,zL,zA,Sa,oe,BR,oD,aH];rw[qW];refine call (tY 0 n byOmega hn) ?_;rintro _ h1 ⟨hE,m,bor,rfl,hm,hb,nD⟩;have hp:=nM
  have hb1:bor=1:=by
   rcases gW bor with h0|h0;·subst h0;omega
   ·omega
  subst hb1;have hmm:(wdI n).natAbs=m:=byOmega;rw[hmm];have n1:=(hE).n;try simp only[bj,bd] at n1
  have g2:h1.ext.get (h.n+1+1)=some (.cells (.bool true :: wdC n) 0 none):=by rw[hE.get _ aa];simp (disch:=try exact dx) only[ak]
  have g1:h1.ext.get (h.n+1)=some (.cells [.bool false,ZW,ZW,ZW,ZW,ZW,ZW,ZW,ZW] 0 none):=by rw[hE.get _ aa];simp (disch:=try exact dx) only[aq,aE,ax]
  simp -dsimp (disch:=try exact dx) only[wpS,wpT,zE,zL,zA,LC,oe,LD,WN,g2,eG,aH,dH,IV,AX,g1,iF];refine⟨?_,by simp[Wn]⟩;exact(((((Ext.refl h).new _).new _).new _).put byOmega _).trans hE |>.put byOmega _ |>.put byOmega _
 ·have hlt:n<H8:=by apply dW;intro hne;apply hc;unfold wdI;rw[ad hne];omega
  have hw:(wdI n).natAbs=n:=by unfold wdI;rw[ah hlt];omega
  simp -dsimp (disch:=try exact dx) only[wpS,wpT,zE,zL,zA,LC,WN,aH,dH,AX,iF];rw[hw];exact⟨((((Ext.refl h).new _).new _).new _).put byOmega _ |>.put byOmega _,by simp[Wn]⟩
def mn (n:Nat) (hn:n<W8):WV prog (.func (.func 103) #[] #[]) [wdV n] h fun r h'=>Ext h h'∧bW h' r (wdI n):=by
 have h2:=jE;have hab:(wdI n).natAbs<W8:=by unfold wdI;split<;>omega
 refine enter (nt:=13) (rs:=[.cell 2 135]) Proofs.Tryz.func103 rfl rfl rfl aa ?_;simp -dsimp (disch:=try exact dx) only[wpS,zE,zL,mT,iO,eG,aH,di];refine call (ZA n hn) ?_;rintro _ h1 ⟨hE,rfl⟩;have n1:=(hE).n;try simp only[bj] at n1
 simp -dsimp (disch:=try exact dx) only[wpS,wpT,zE,zL,zA,Qe,LC,G3,aH,dH,iF];obtain⟨H2,hH2⟩ : ∃H2,H2=(h1.new (.cells [.bool false,ZW,ZW,ZW,ZW,ZW,ZW,ZW,ZW] 0 none)).put h1.n (.cells (.bool (decide (wdI n<0)) :: wdC (wdI n).natAbs) 0 none):=⟨_,rfl⟩;have n2:H2.n=h1.n+1:=by rw[hH2];rfl
 have g3:H2.ext.get h1.n=some (.cells (.bool (decide (wdI n<0)) :: wdC (wdI n).natAbs) 0 none):=by rw[hH2];simp (disch:=try exact dx) only[ak]
 have g1:H2.ext.get (h.n+1)=some (.cells ZL 0 none):=by rw[hH2];simp (disch:=try exact dx) only[aE,ax];rw[hE.get _ aa];simp (disch:=try exact dx) only[aq]
 have E2:Ext h H2:=by rw[hH2];exact(((((Ext.refl h).new _).new _).trans hE).new _).put byOmega _
 rw[←hH2];have r3:=cP g3;have r4:(H2.new (.cells [] 1 none)).row (2*h1.n)=some (.bool (decide (wdI n<0)) :: wdC (wdI n).natAbs):=cP (by simp (disch:=try exact dx) only[aE];exact g3);have hnow:rJ (H2.new (.cells [] 1 none)) 1 (.slice (some ⟨2*h1.n,1,none⟩) 8 (2*8+1)) 8 (wdC (wdI n).natAbs):=ZaU r4 byOmega (by rw[aH]) (oD _ _) (by simp[aH]);have hap:=oF ZgO (H2.new (.cells [] 1 none)) hnow byOmega (dH _) byOmega (2*H2.n) 0;refine drawn [(1,[5,6])] ab ab rfl ?_;simp -dsimp (disch:=try exact dx) only[wpS,wpT,zE,zA,reduceMul,w5,ld4,Yl,oe,UI,r3,GF (P:=prog) u244 I9 byOmega,hap];have hW:kL ((H2.new (.cells [] 1 none)).new (.cells (wdC (wdI n).natAbs) 1 none)) (.slice (some ⟨2*(H2.n+1),0,none⟩) 8 16) (wds (wdI n).natAbs):=by refine⟨?_,tN _,by rw[nP];omega⟩;rw[←qX,nP];exact(Am (h:=H2.new (.cells [] 1 none)) (sz:=1) (m:=8) byOmega (by rw[aH]) byOmega).sl
 refine call (jy hW _) ?_;rintro _ h3 ⟨hE3,hr⟩;rw[IU hab] at hr;have hz:(if decide (wdI n<0)=true then -((wdI n).natAbs:Int) else (wdI n).natAbs)=wdI n:=by by_cases h0:wdI n<0<;>simp[h0]<;>omega
 rw[hz] at hr;obtain⟨s1,n3,rfl,c3,o3,l3,z3⟩:=hr.form;have m3:=(hE3).n;try simp only[bj] at m3
 have hg:h3.ext.get (h.n+1)=some (.cells ZL 0 none):=by rw[hE3.get _ (by simp only[bj];omega)];simp (disch:=try exact dx) only[aE];exact g1
 have r5:((H2.new (.cells [] 1 none)).new (.cells (wdC (wdI n).natAbs) 1 none)).row (2*h1.n)=some (.bool (decide (wdI n<0)) :: wdC (wdI n).natAbs):=cP (by simp (disch:=try exact dx) only[aE];exact g3);have r6:h3.row (2*h1.n)=some (.bool (decide (wdI n<0)) :: wdC (wdI n).natAbs):=cP (by rw[hE3.get _ (by simp only[bj];omega)];simp (disch:=try exact dx) only[aE];exact g3);simp -dsimp (disch:=omega) only[wpS,wpT,zE,zL,zA,jX,hg,o3];refine⟨yP (ai rfl rfl rfl rfl (au (av:=ptr (2*h1.n) 0) (v:=.bool (decide (wdI n<0))) rfl ?_ ?_)) (ai rfl rfl rfl rfl (au (av:=ptr (2*h1.n) 0) (v:=.bool (decide (wdI n<0))) rfl ?_ ?_)),?_⟩;·simp -dsimp (disch:=omega) only[wpS,ld4,r3]
 ·simp -dsimp (disch:=try exact dx) only[wpS,ld4,r4]
 ·simp -dsimp (disch:=try exact dx) only[wpS,ld4,r3]
 ·simp -dsimp (disch:=try exact dx) only[wpS,ld4,r5]
 simp -dsimp (disch:=try exact dx) only[wpS,wpT,zE,zL,zA,cK];exact⟨(((E2.new _).new _).trans hE3).put byOmega _,hr.ae ((aX.refl _).put hg _)⟩
theorem Xe : [ZW,ZW,ZW,ZW,ZW,ZW,ZW,.int .u64 9223372036854775808]=wdC H8:=by
 have h2:B.ay [0,0,0,0,0,0,0,9223372036854775808]=H8:=by unfold H8;simp[B.ay,B.a8]
 have h3:=N8 (ds:=[0,0,0,0,0,0,0,9223372036854775808]) rfl (by intro d hd;simp at hd;omega);rw[h2] at h3;rw[qX,h3];rfl
def Pa (b:Bool) (n:Nat) (hn:n<W8):WV prog (.func (.func 195) #[] #[]) [Wn b n] h fun r h'=>Ext h h'∧r=if H8<n∨(n=H8∧b=false) then .tuple #[wdV 0,KI 6] else .tuple #[wdV (if b=true then (W8 - n) % W8 else n),KI 0]:=by
 have h2:=jE;have hp:=nM;refine enter (nt:=35) (rs:=[.cell 2 30,.tmp 3]) Proofs.Tryz.func195 rfl rfl rfl aa ?_;simp -dsimp (disch:=try exact dx) only[wpS,wpT,zE,zL,zA,rR,Sa,ZH,UU,LD,oe,BR,G3,aH,oD];rw[Xe];simp -dsimp (disch:=try exact dx) only[di];refine call (zf n H8 hn byOmega) ?_;rintro _ h1 ⟨hE,rfl⟩;have n1:=(hE).n;try simp only[bj,bd] at n1
 have g0:h1.ext.get h.n=some (.cells (.bool b :: wdC n) 0 none):=by rw[hE.get _ bz];simp (disch:=try exact dx) only[aq,aE,ax]
 have g1:h1.ext.get (h.n+1)=some (.cells [ZW,ZW,ZW,ZW,ZW,ZW,ZW,ZW] 0 none):=by rw[hE.get _ aa];simp (disch:=try exact dx) only[aq,aE,ax]
 have hE1:=((((Ext.refl h).new _).new _).new _).put byOmega _ |>.trans hE;have r0:=cP g0;have r1:=cP g1;rcases Nat.lt_trichotomy n H8 with hlt|heq|hgt
 ·rw[ah hlt,ad byOmega];cases b
  ·simp -dsimp (disch:=omega) only[wpS,wpT,zE,zL,zA,oe,BR,w5,ld4,oV,iO,r0,g1,aH,dH,oD,iF,di];exact⟨hE1.put byOmega _,by simp;rfl⟩
  ·simp -dsimp (disch:=omega) only[wpS,wpT,zE,zL,zA,Sa,oe,BR,w5,ld4,r0,aH,oD];rw[qW];refine call (tY 0 n byOmega hn) ?_;rintro _ h3 ⟨hE3,m,bor,rfl,hm,hb,nD⟩;have hmm:(W8 - n) % W8=m:=by
    rcases gW bor with h0|h0;·subst h0;have h5:n=0:=byOmega;rw[h5,Ay,Nat.mod_self];omega
    ·have h5:bor=1:=byOmega;subst h5;by_cases h6:n=0
     ·exfalso;omega
     ·rw[eP byOmega];omega
   have n3:=(hE3).n;try simp only[bj,bd] at n3
   have k0:=(hE3.get _ byOmega).trans g0;have k1:=(hE3.get _ byOmega).trans g1;simp -dsimp (disch:=omega) only[wpS,wpT,zE,zL,zA,LD,oe,BR,oV,iO,k0,k1,eG,aH,dH,oD,IV,iF,di];refine⟨((hE1.trans hE3).put byOmega _).put byOmega _,?_⟩;rw[hmm];simp;try rfl
 ·subst heq;rw[ad byOmega,ah rfl];cases b
  ·simp -dsimp (disch:=omega) only[wpS,wpT,zE,zL,zA,w5,ld4,Gj,oV,iO,r0,g1,U9];refine⟨hE1.put byOmega _,?_⟩;simp[qW]
  ·simp -dsimp (disch:=omega) only[wpS,wpT,zE,zL,zA,Sa,oe,BR,w5,ld4,r0,aH,oD];rw[qW];refine call (tY 0 H8 byOmega hn) ?_;rintro _ h3 ⟨hE3,m,bor,rfl,hm,hb,nD⟩;have hmm:(W8 - H8) % W8=m:=by
    rcases gW bor with h0|h0;·subst h0;have h5:H8=0:=byOmega;rw[h5,Ay,Nat.mod_self];omega
    ·have h5:bor=1:=byOmega;subst h5;by_cases h6:H8=0
     ·exfalso;omega
     ·rw[eP byOmega];omega
   have n3:=(hE3).n;try simp only[bj,bd] at n3
   have k0:=(hE3.get _ byOmega).trans g0;have k1:=(hE3.get _ byOmega).trans g1;simp -dsimp (disch:=omega) only[wpS,wpT,zE,zL,zA,LD,oe,BR,oV,iO,k0,k1,eG,aH,dH,oD,IV,iF,di];refine⟨((hE1.trans hE3).put byOmega _).put byOmega _,?_⟩;rw[hmm];simp;try rfl
 ·rw[ad byOmega,ad byOmega];simp -dsimp (disch:=omega) only[wpS,wpT,zE,zL,zA,Gj,oV,iO,g1,U9];refine⟨hE1.put byOmega _,?_⟩;rw[qW,ah (.inl hgt)]
def Uo {P:Program} {t e:TypeId} {sz:Nat} (hu:P.underlying t=some (.slice e)) (hS:ba P e=some sz) (h:IH) (b o n c:Nat) {s:Value} {ss:List Value} (hs:rJ h sz s 0 ss) (ts:Array TypeId) (ht:ts[0]?=some t) :builtin P h .copy ts [.slice (some ⟨b,o,none⟩) n c,s]=some (.int .i64 0,h):=by
 have hf:cN h sz 0 s=some []:=by
  obtain⟨hz,hl,⟨rfl,_⟩|⟨b,o,k,rfl,s⟩⟩:=hs;·rfl
  ·simp[cN];rfl
 obtain⟨a',k,rfl⟩:=hs.form;simp only[builtin,ht,yG,hu,lenOf,hS,show Nat.min 0 n=0 from Nat.zero_min _,hf];rfl
variable {ds:List Nat}
theorem Wf (hl:ds.length≤8) (hd:B.cG ds):IH.aI [ZW,ZW,ZW,ZW,ZW,ZW,ZW,ZW] 0 (ds.map K64)=wdC (B.ay ds):=by
 have hv : ∀k,B.ay (ds ++ List.replicate k 0)=B.ay ds:=by
  intro k;rw[show B.ay ds=B.a8 (ds ++ List.replicate k 0) ds.length from B.iV fun j hj=>by
   rw[bC,bC,gF hj]]
  rw[B.ay];have:(ds ++ List.replicate k 0).length=ds.length+k:=aa;rw[this];apply B.nk;intro j h1 h2;rw[bC,jv h1];rw[←bC];exact B.nG _ _
 have hD:B.cG (ds ++ List.replicate (8 - ds.length) 0):=fun d h=>by
  rcases eE.1 h with h|h;·exact hd d h
  ·simp at h;omega
 have h8:(ds ++ List.replicate (8 - ds.length) 0).length=8:=bq;have:=N8 h8 hD;rw[hv] at this;rw[qX,this,kX,List.map_replicate];have hz : [ZW,ZW,ZW,ZW,ZW,ZW,ZW,ZW]=List.replicate 8 ZW:=rfl;rw[hz,IH.aI,C8,mz,cd,List.drop_replicate,eu];rfl
def Z8 (n:B.Norm ds) (h:8<ds.length):W8≤B.ay ds:=by have h1:=n.ge (by intro h0;rw[h0] at h;simp at h);rw[FM];exact bA (fQ byOmega byOmega) h1
variable {h:IH}
def vE {v:Value} {z:Int} (hv:bW h v z):WV prog (.func (.func 105) #[] #[]) [v] h fun r h'=>Ext h h'∧r=if InW z then .tuple #[uF z,KI 0] else .tuple #[wdV 0,KI 6]:=by
 obtain⟨s,rfl,ds,hD,hN,hx⟩:=hv;have hb:=hD.2.2;have h2:=jE;have hp:=nM;refine enter (nt:=22) (rs:=[.cell 2 30,.tmp 3]) Proofs.Tryz.func105 rfl rfl rfl aa ?_;simp -dsimp (disch:=try exact dx) only[wpS,zE,rR,mN,vV,hD.1.len jd];refine az ?_ ?_<;>intro hc<;>simp only[aJ,aV] at hc
 ·have hgt:=Z8 hN byOmega;have hin : ¬InW z:=by rintro⟨h3,h4⟩;omega
  rw[ad hin];simp -dsimp (disch:=try exact dx) only[wpS,wpT,zE,zL,zA,Gj,oV,iO,U9];exact⟨(((Ext.refl h).new _).new _).put byOmega _,by rw[qW]⟩
 ·have hl:ds.length≤8:=byOmega;have hlt:B.ay ds<W8:=by have:=B.lJ hD.2.1;rw[FM];exact cV this (fQ byOmega hl)
  simp -dsimp (disch:=try exact dx) only[wpS,wpT,zE,zL,zA,lM,ld4,Zb4,Q6,Qe,LC,oe];obtain⟨H2,hH2⟩ : ∃H2,H2=((((h.new (.cells [.bool (decide (z<0)),s] 0 none)).new (.cells [ZW,ZW,ZW,ZW,ZW,ZW,ZW,ZW] 0 none)).new (.cells [.bool false,ZW,ZW,ZW,ZW,ZW,ZW,ZW,ZW] 0 none)).put (h.n+1+1) (.cells [.bool (decide (z<0)),ZW,ZW,ZW,ZW,ZW,ZW,ZW,ZW] 0 none)):=⟨_,rfl⟩;have n2:H2.n=h.n+3:=by rw[hH2];rfl
  have g0:H2.ext.get h.n=some (.cells [.bool (decide (z<0)),s] 0 none):=by rw[hH2];simp (disch:=try exact dx) only[aq,aE,ax]
  have g1:H2.ext.get (h.n+1)=some (.cells [ZW,ZW,ZW,ZW,ZW,ZW,ZW,ZW] 0 none):=by rw[hH2];simp (disch:=try exact dx) only[aq,aE,ax]
  have g2:H2.ext.get (h.n+1+1)=some (.cells [.bool (decide (z<0)),ZW,ZW,ZW,ZW,ZW,ZW,ZW,ZW] 0 none):=by rw[hH2];simp (disch:=try exact dx) only[ak]
  have E2:Ext h H2:=by rw[hH2];exact((((Ext.refl h).new _).new _).new _).put byOmega _
  rw[←hH2];have r0:=cP g0;have sa:=GF (P:=prog) u244 I9 byOmega;have hs2:=(hD.ae E2.ae).1.now;have hcp : ∃H3,builtin prog H2 .copy #[133,133] [.slice (some ⟨2*(h.n+1+1),1,none⟩) 8 17,s]=some (.int .i64 (ds.length:Int),H3)∧Ext h H3∧H3.n=h.n+3∧H3.ext.get (h.n+1)=some (.cells [ZW,ZW,ZW,ZW,ZW,ZW,ZW,ZW] 0 none)∧H3.ext.get (h.n+1+1)=some (.cells (.bool (decide (z<0)) :: wdC z.natAbs) 0 none):=by
   rcases gW ds.length with h0|h0
   ·have hd0:ds = []:=fC.1 h0;subst hd0;have hz0:z.natAbs=0:=by rw[←hx];rfl
    refine⟨H2,Uo Zb I9 H2 _ _ _ _ hs2 _ rfl,E2,n2,g1,?_⟩;rw[hz0,pV];exact g2
   ·have hm:min ds.length 8=ds.length:=byOmega;have:=copy_eq (P:=prog) Zb I9 g2 (o:=1) (dn:=8) (c:=17) hs2 (RC _) byOmega bq #[133,133] rfl;rw[hm,dG,dr aa,BB,Wf hl hD.2.1,hx] at this;exact⟨_,this,E2.put byOmega _,n2,by simp (disch:=omega) only[ax];exact g1,ak _ _ rfl⟩
  obtain⟨H3,hcp,E3,n3,g3,g4⟩:=hcp;have r4:=cP g4;simp -dsimp (disch:=omega) only[wpS,wpT,zE,zL,zA,reduceMul,mN,vV,WN,r0,sa,hcp,r4,AX,aH];refine call (Pa (decide (z<0)) z.natAbs byOmega) ?_;rintro _ h4 ⟨hE4,rfl⟩;have g5:=(hE4.get _ byOmega).trans g3;by_cases hin:InW z
  ·have e1 : ¬(H8<z.natAbs∨z.natAbs=H8∧decide (z<0)=false):=by
    obtain⟨i1,i2⟩:=hin;rintro(h5|⟨h5,h6⟩);·omega
    ·have : ¬z<0:=by simpa using h6
     omega
   have e2:(if decide (z<0)=true then (W8 - z.natAbs) % W8 else z.natAbs)=bJ z:=by
    obtain⟨i1,i2⟩:=hin;unfold bJ;by_cases h6:z<0;·rw[ah (by simpa using h6),ad byOmega,eP byOmega]
    ·rw[ad (by simpa using h6),ah byOmega];omega
   rw[ad e1,ah hin,e2];simp -dsimp (disch:=omega) only[wpS,wpT,zE,zL,zA,oV,iO,g5,eG,aH,dH,iF,di];exact⟨(E3.trans hE4).put byOmega _,rfl⟩
  ·have e1:H8<z.natAbs∨z.natAbs=H8∧decide (z<0)=false:=by
    unfold InW at hin;by_cases h6:z<0;·left;omega
    ·by_cases h7:z.natAbs=H8
     ·right;exact⟨h7,by simpa using h6⟩
     ·left;omega
   rw[ah e1,ad hin];simp -dsimp (disch:=omega) only[wpS,wpT,zE,zL,zA,oV,iO,g5,eG,aH,dH,iF,di];exact⟨(E3.trans hE4).put byOmega _,rfl⟩
def zG (n:Int) (hn:gV n):WV prog (.func (.func 101) #[] #[]) [KI n] h fun r h'=>Ext h h'∧bW h' r n:=by
 have hw:InW n:=by
  have:=yM;constructor;·have:=hn.1;omega
  ·have:=hn.2;omega
 refine enter (nt:=6) (rs:=[.cell 2 135]) Proofs.Tryz.func101 rfl rfl rfl aa ?_;simp -dsimp (disch:=omega) only[wpS,zE,mT];refine call (sB n hn) ?_;rintro _ h1 ⟨hE,rfl⟩;simp -dsimp (disch:=omega) only[wpS,zE];refine call (mn _ (gZ hw)) ?_;rintro _ h2 ⟨hE2,hr⟩;rw[dQ hw] at hr;obtain⟨s1,n3,rfl,c3,o3,l3,z3⟩:=hr.form;have m1:=(hE).n;try simp only[bj] at m1
 have m2:=(hE2).n;try simp only[bj,bd] at m2
 have hg:h2.ext.get h.n=some (.cells ZL 0 none):=by rw[hE2.get _ byOmega,hE.get _ aa];simp (disch:=omega) only[aq]
 simp -dsimp (disch:=omega) only[wpS,wpT,zE,zL,zA,jX,cK,hg,o3];exact⟨((((Ext.refl h).new _).trans hE).trans hE2).put byOmega _,hr.ae ((aX.refl _).put hg _)⟩
variable {h:IH}{w:Value}{y x:Int}{v:Value}
def yl (hv:bW h v x) (hw:bW h w y) (sx:bE x) (sy:bE y) :WV prog (.func (.func 207) #[] #[]) [v,w] h fun r h'=>Ext h h'∧bW h' r (Int.gcd x y):=by
 obtain⟨s,rfl,hS⟩:=hv;obtain⟨t,rfl,hT⟩:=hw;obtain⟨ds,hD,hN,hx⟩:=id hS;obtain⟨es,hE,hM,hy⟩:=id hT;refine enter (nt:=26) (rs:=[.cell 4 135]) Proofs.Tryz.func207 rfl rfl rfl aa ?_;simp -dsimp (disch:=try exact dx) only[wpS,zE,zA,mT,mN,vV];have kk : ∀o1 o2 o3,Ext h (((h.new o1).new o2).new o3):=fun o1 o2 o3=>(((Ext.refl h).new _).new _).new _;refine loop (fun m fr h1 => ∃(xv yv:Value) (a:Nat),Ext (((h.new (.cells [.bool (decide (x<0)),s] 0 none)).new (.cells [.bool (decide (y<0)),t] 0 none)).new (.cells ZL 0 none)) h1∧Wrd h1 xv a∧Wrd h1 yv m∧Small a∧Small m∧Nat.gcd a m=Int.gcd x y∧aj fr 4=some (ptr (2*(h.n+1+1)) 0)∧aj fr 5=some xv∧aj fr 6=some yv) y.natAbs ⟨s,t,x.natAbs,Ext.refl _,hS.ae (kk _ _ _).ae,hT.ae (kk _ _ _).ae,sx,sy,rfl,aa,aa,aa⟩ ?_;clear hS hT hD hN hx hE hM hy ds es;rintro m fr h1 ⟨xv,yv,a,hE1,hA,hB,sa,sb,Pt,f4,f5,f6⟩;obtain⟨ds,hD,hN,hx⟩:=id hA;obtain⟨es,hE,hM,hy⟩:=id hB;have hz:=hM.nW;rw[hy] at hz;have l1:ds.length≤1000000:=sG hN (by rw[hx];exact sa);have l2:es.length≤1000000:=sG hM (by rw[hy];exact sb);by_cases hm:m=0
 ·have hes:es = []:=hz.1 hm
  have Zdf:qB prog h1 133 yv=some (.int .i64 ((0:Nat):Int)):=by have:=hE.1.len (P:=prog) jd h1;rw[hes] at this;exact this
  have hg:h1.ext.get (h.n+1+1)=some (.cells ZL 0 none):=by rw[hE1.get _ aa];exact aq _ _ rfl
  simp -dsimp (disch:=omega) only[wpS,wpT,zE,zL,zA,Fw,uk,jX,cK,f4,f5,f6,Zdf,hD.1.cells,hD.1.cok,hg];refine⟨((kk _ _ _).trans hE1).put byOmega _,xv,?_,?_⟩;·simp
  ·subst hm
   rw[Nat.gcd_zero_right] at Pt;rw[jU,←Pt];exact hA.ae ((aX.refl _).put hg _)
 ·have hl:0<es.length:=by apply lT;intro h0;exact hm (hz.2 (fC.1 h0))
  simp -dsimp (disch:=omega) only[wpS,wpT,zE,f5,f6,hE.1.len jd];refine call (Fe hD hE hN hM (by rw[hy];exact hm) l1 l2) ?_;rintro _ h2 ⟨hE2,q,r,rfl,hq,hr⟩;rw[hx,hy] at hr;have hlt:=gE a (lT hm);simp -dsimp (disch:=try exact dx) only[wpS,zE,f6];refine⟨a % m,hlt,yv,r,m,hE1.trans hE2,hB.ae hE2.ae,hr,sb,sb.le (pO hlt),?_,by simp[f4],aa,aa⟩;rw[←Pt,Nat.gcd_comm a m,Nat.gcd_rec m a,Nat.gcd_comm]
def YP :Wrd (h.new (.cells [.int .u64 1] 1 none)) (.slice (some ⟨2*h.n,0,none⟩) 1 3) 1 :=
 ⟨[1],⟨qM (h:=h) (sz:=1) (m:=1) (cs:=[K64 1]) byOmega rfl byOmega,fun x hx=>by simp at hx;omega,aa⟩,.inr aa,by simp[B.ay,B.a8]⟩
def wS (hv:bW h v x) (hw:bW h w y) (sx:bE x) (sy:bE y) (y0:y≠0) :
  WV prog (.func (.func 206) #[] #[]) [v,w] h fun r h'=>Ext h h' ∧ ∃q t,r=.tuple #[q,t]∧bW h' q (x / y)∧bW h' t (x % y):=by
 obtain⟨s,rfl,hS⟩:=hv
 obtain⟨t,rfl,hT⟩:=hw;obtain⟨ds,hD,hN,hx⟩:=id hS;obtain⟨es,hE,hM,hy⟩:=id hT;have l1:ds.length≤1000000:=sG hN (by rw[hx];exact sx);have l2:es.length≤1000000:=sG hM (by rw[hy];exact sy);refine enter (nt:=47) (rs:=[.cell 4 135,.cell 5 135]) Proofs.Tryz.func206 rfl rfl rfl aa ?_;simp -dsimp (disch:=try exact dx) only[wpS,zE,zA,mT,mN,vV];have kk : ∀o1 o2 o3 o4,Ext h ((((h.new o1).new o2).new o3).new o4):=fun o1 o2 o3 o4=>((((Ext.refl h).new _).new _).new _).new _;refine call (Fe (hD.ae (kk _ _ _ _).ae) (hE.ae (kk _ _ _ _).ae) hN hM (by rw[hy];omega) l1 l2) ?_;rintro _ h1 ⟨hE1,q,r,rfl,⟨qs,hq,hqv⟩,⟨rs,hr,hrn,hrv⟩⟩;rw[hx,hy] at hqv hrv;have n1:h.n+4≤h1.n:=hE1.n;have g0:h1.ext.get h.n=some (.cells [.bool (decide (x<0)),s] 0 none):=by rw[hE1.get _ bz];simp (disch:=try exact dx) only[aq,aE]
 have g1:h1.ext.get (h.n+1)=some (.cells [.bool (decide (y<0)),t] 0 none):=by rw[hE1.get _ bz];simp (disch:=try exact dx) only[aq,aE]
 have g2:h1.ext.get (h.n+1+1)=some (.cells ZL 0 none):=by rw[hE1.get _ bz];simp (disch:=try exact dx) only[aq,aE]
 have g3:h1.ext.get (h.n+1+1+1)=some (.cells ZL 0 none):=by rw[hE1.get _ bz];simp (disch:=try exact dx) only[aq]
 have x1:Ext h h1:=(kk _ _ _ _).trans hE1;have eT1:=hE.ae x1.ae;clear hE1 kk;have r0:=cP g0;have r1:=cP g1;simp -dsimp (disch:=omega) only[wpS,zE];refine drawn [(8,[6])] ab ab rfl ?_;simp -dsimp (disch:=omega) only[wpS,zE,lM,ld4,bn4,r0,r1,Ai];refine call (jy hq _) ?_;rintro q2 h2 ⟨hE2,hq2⟩;have r02:h2.row (2*h.n)=some [.bool (decide (x<0)),s]:=by rw[hE2.row (.inr byOmega)];exact r0
 simp -dsimp (disch:=omega) only[wpS,zE,lM,ld4,r02];refine call (jy (hr.ae hE2.ae) _) ?_;rintro t2 h3 ⟨hE3,ht2⟩;rw[hqv] at hq2;rw[hrv] at ht2;have pa:=Q9 (x:=x) y0;have pb:=Q8 (x:=x) y0;have aQ:=Cr (decide (x<0) != decide (y<0)) (x.natAbs / y.natAbs);have aR:=Cr (decide (x<0)) (x.natAbs % y.natAbs);generalize (if (decide (x<0) != decide (y<0))=true then -((x.natAbs / y.natAbs:Nat):Int) else ((x.natAbs / y.natAbs:Nat):Int))=Q at *;generalize (if decide (x<0)=true then -((x.natAbs % y.natAbs:Nat):Int) else ((x.natAbs % y.natAbs:Nat):Int))=R at *;have sQ:bE Q:=Small.le sx (by rw[aQ];exact C4 _ _);have sR:bE R:=Small.le sy (by rw[aR];exact pO (gE _ byOmega));obtain⟨sq,n3,rfl,c3,o3,_,_⟩:=hq2.form;obtain⟨st,n4,rfl,c4,o4,_,_⟩:=ht2.form;have x3:Ext h h3:=(x1.trans hE2).trans hE3;have n2:=hE2.n;have n3':=hE3.n;have g2':=(hE3.get _ byOmega).trans ((hE2.get _ byOmega).trans g2);have g3':=(hE3.get _ byOmega).trans ((hE2.get _ byOmega).trans g3);have g1':=(hE3.get _ byOmega).trans ((hE2.get _ byOmega).trans g1);simp -dsimp (disch:=omega) only[wpS,wpT,zE,zL,zA,jX,o3,o4,g2',g3'];refine⟨ai rfl rfl rfl rfl (au (av:=ptr (2*h.n) 0) (v:=.bool (decide (x<0))) rfl ?_ ?_),?_⟩;·simp -dsimp (disch:=omega) only[wpS,ld4,r02]
 ·simp -dsimp (disch:=omega) only[wpS,ld4,r0]
 simp -dsimp (disch:=omega) only[wpS,wpT,zE,zA,lM,ld4]
 obtain⟨h4,hh4⟩:=bm ((h3.put (h.n+1+1) (.cells [.bool (decide (Q<0)),sq] 0 none)).put (h.n+1+1+1) (.cells [.bool (decide (R<0)),st] 0 none))
 have g8:h4.ext.get (h.n+1+1)=some (.cells [.bool (decide (Q<0)),sq] 0 none):=by rw[hh4];simp (disch:=omega) only[ak,ax]
 have g9:h4.ext.get (h.n+1+1+1)=some (.cells [.bool (decide (R<0)),st] 0 none):=by rw[hh4];simp (disch:=omega) only[ak]
 have g7:h4.ext.get (h.n+1)=some (.cells [.bool (decide (y<0)),t] 0 none):=by rw[hh4];simp (disch:=omega) only[ax];exact g1'
 have n5:h4.n=h3.n:=by rw[hh4];rfl
 have k4:aX h3 h4:=by rw[hh4];exact((aX.refl h3).put g2' _).put (by rw[ax _ _ byOmega];exact g3') _
 have x4:Ext h h4:=by rw[hh4];exact(x3.put byOmega _).put byOmega _
 have hQ0:=hq2.ae (hE3.ae.trans k4);have hR0:=ht2.ae k4;have eT4:=eT1.ae ((hE2.trans hE3).ae.trans k4);rw[←hh4];clear hh4 g2' g3' g1' r0 r1 g0 g1 g2 g3;have r9:=cP g9;have r8:=cP g8;have r7:=cP g7;refine jm (fun fr2 h5 => ∃sq st,Ext h h5∧h5.ext.get (h.n+1+1)=some (.cells [.bool (decide (x / y<0)),sq] 0 none)∧h5.ext.get (h.n+1+1+1)=some (.cells [.bool (decide (x % y<0)),st] 0 none)∧bW h5 (.agg #[.bool (decide (x / y<0)),sq]) (x / y)∧bW h5 (.agg #[.bool (decide (x % y<0)),st]) (x % y) ∧aj fr2 4=some (ptr (2*(h.n+1+1)) 0)∧aj fr2 5=some (ptr (2*(h.n+1+1+1)) 0)) (fun hb=>?_) (fun hb=>?_) ?_
 ·have hb':R<0:=by simpa using hb
  obtain⟨b1,b2⟩:=pb hb';rw[bf hb'] at hR0 r9 g9;simp -dsimp (disch:=omega) only[wpS,wpT,zE,zL,zA,mT,mN,vV,jX,Fw,uk,cK,r7,r9,cp,hI,hE.1.cells,hE.1.cok];have xA:Ext h ((h4.new (.cells ZL 0 none)).put h4.n (.cells [.bool false,t] 0 none)):=(x4.new _).put byOmega _;have xB:Ext h4 ((h4.new (.cells ZL 0 none)).put h4.n (.cells [.bool false,t] 0 none)):=((Ext.refl h4).new _).put byOmega _;have hY:bW ((h4.new (.cells ZL 0 none)).put h4.n (.cells [.bool false,t] 0 none)) (.agg #[.bool false,t]) (y.natAbs:Int):=⟨t,aa,by rw[jU];exact⟨es,eT4.ae xB.ae,hM,hy⟩⟩;refine call (vG (hR0.ae xB.ae) hY sR (mi sy)) ?_;rintro t5 h5 ⟨hE5,ht5⟩;rw[b2] at ht5;obtain⟨s5,_,rfl,c5,o5,_,_⟩:=ht5.form;have n6:=(hE5).n;try simp only[bj,bd] at n6
  have x5:=xB.trans hE5;have k9:=(x5.get _ byOmega).trans g9;have k8:=(x5.get _ byOmega).trans g8;have k7:=(x5.get _ byOmega).trans g7;have rr7:=cP k7;have rr8:=cP k8;simp -dsimp (disch:=try exact dx) only[wpS,wpT,zE,zL,zA,mT,lM,ld4,jX,Fw,uk,cK,Yl,zF,k9,o5,rr7,rr8,cp,hI];obtain⟨h6,hh6⟩ : ∃h6,h6=((((h5.put (h.n+1+1+1) (.cells [.bool (decide (x % y<0)),s5] 0 none)).new (.cells [.int .u64 1] 1 none)).new (.cells ZL 0 none)).put (h5.n+1) (.cells [.bool (!decide (y<0)),.slice (some ⟨2*h5.n,0,none⟩) 1 3] 0 none)):=⟨_,rfl⟩;have k5:aX h5 h6:=by rw[hh6];exact((((aX.refl h5).put k9 _).new _).new _).put (cs:=ZL) (f:=none) (by simp (disch:=try exact dx) only[aq]) _
  have y6:Ext h h6:=by rw[hh6];exact(((((xA.trans hE5).put byOmega _).new _).new _).put (by first|omega|(simp only[bj,bd];omega)) _)
  have j9:h6.ext.get (h.n+1+1+1)=some (.cells [.bool (decide (x % y<0)),s5] 0 none):=by rw[hh6];simp (disch:=try exact dx) only[aE,ak,ax]
  have j8:h6.ext.get (h.n+1+1)=some (.cells [.bool (decide (Q<0)),sq] 0 none):=by rw[hh6];simp (disch:=try exact dx) only[aE,ax];exact k8
  have n7:h6.n=h5.n+2:=by rw[hh6];rfl
  have hOne:bW h6 (.agg #[.bool (!decide (y<0)),.slice (some ⟨2*h5.n,0,none⟩) 1 3]) (if y<0 then 1 else -1):=by
   refine⟨.slice (some ⟨2*h5.n,0,none⟩) 1 3,?_,?_⟩;·by_cases hy0:y<0<;>simp[hy0]<;>rfl
   ·rw[show(if y<0 then (1:Int) else -1).natAbs=1 by split<;>rfl,hh6];have w1:=YP (h:=h5.put (h.n+1+1+1) (.cells [.bool (decide (x % y<0)),s5] 0 none));exact w1.ae (((aX.refl _).new _).put (cs:=ZL) (f:=none) (by simp (disch:=try exact dx) only[aq]) _)
  have jr8:=cP j8;rw[←hh6];have sOne:bE (if y<0 then (1:Int) else -1):=by split<;>exact Jd
  refine call (vG (hQ0.ae (x5.ae.trans k5)) hOne sQ sOne) ?_;rintro t7 h7 ⟨hE7,ht7⟩;have hqq:Q+(if y<0 then (1:Int) else -1)=x / y:=by rw[←b1]
  rw[hqq] at ht7;obtain⟨s7,_,rfl,c7,o7,_,_⟩:=ht7.form;have n8:=(hE7).n;try simp only[bj,bd] at n8
  have i8:=(hE7.get _ byOmega).trans j8;have i9:=(hE7.get _ byOmega).trans j9;simp -dsimp (disch:=omega) only[wpS,wpT,zE,zL,zA,jX,i8,o7];have k7':=(aX.refl h7).put i8 (.cells [.bool (decide (x / y<0)),s7] 0 none);refine⟨s7,s5,(y6.trans hE7).put byOmega _,ak _ _ rfl,by simp (disch:=omega) only[ax];exact i9,ht7.ae k7',ht5.ae ((k5.trans hE7.ae).trans k7'),aa⟩
 ·have hb' : ¬R<0:=by simpa using hb
  obtain⟨b1,b2⟩:=pa hb';simp -dsimp (disch:=omega) only[wpS,wpT];subst b1;subst b2;exact⟨sq,st,x4,g8,g9,hQ0,hR0,aa⟩
 rintro fr2 h5 ⟨sq,st,x5,k8,k9,hQ,hR,f4,f5⟩;have q8:=cP k8;have q9:=cP k9;obtain⟨s8,n8,e8,c8,o8,_,_⟩:=hQ.form;obtain⟨s9,n9,e9,c9,o9,_,_⟩:=hR.form;cases e8;cases e9;rw[mY];refine drawn [(1,[3])] ab ab rfl ?_;simp -dsimp (disch:=omega) only[wpS,wpT,zE,zL,zA,jX,cK,f4,f5,q8,q9,k8,k9,o8,o9,cp,hI];have k5:=(aX.refl h5).put k8 (.cells [.bool (decide (x / y<0)),sq] 0 none);have k3':(h5.put (h.n+1+1) (.cells [.bool (decide (x / y<0)),sq] 0 none)).ext.get (h.n+1+1+1)=some (.cells [.bool (decide (x % y<0)),st] 0 none):=by rw[ax _ _ byOmega];exact k9
 have k6:=k5.put k3' (.cells [.bool (decide (x % y<0)),st] 0 none);refine⟨ai rfl rfl rfl rfl (au (av:=ptr (2*(h.n+1+1+1)) 0) (v:=.agg #[.bool (decide (x % y<0)),st]) ?_ ?_ ?_),?_⟩
 ·simp -dsimp (disch:=omega) only[wpS,zE,f5]
 ·simp -dsimp (disch:=omega) only[wpS,wpT,zL,zA,cK,q9,cp,hI]
 ·simp -dsimp (disch:=omega) only[wpS,wpT,zL,zA,cK,q9,cp,hI]
 simp -dsimp (disch:=omega) only[wpS,wpT,zE,zL,zA,cK,f4,f5,cp,hI];exact⟨(x5.put byOmega _).put byOmega _,_,_,rfl,hQ.ae k6,hR.ae k6⟩
end Go.Id

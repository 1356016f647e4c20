/-
  Contracts: reference 33: drafted kernels.
-/
import Derived.Test.YtnnmjocmapilaaaGreatOutlierOddsAs
set_option linter.unusedVariables false
set_option linter.unusedSimpArgs false
set_option linter.defProp false
set_option linter.deprecated false
namespace Go.Id
open Go
open Go renaming Operand→QY,Program→QX,TypeId→QZ,Value→QQ
open Nat renaming reduceAdd→zA,reduceEqDiff→zE,reduceLeDiff→zL
open Nat (reduceMul)
set_option maxHeartbeats 16000000
open Go.Proofs.Tryz (prog)
theorem Hq (l:List (Nat×Nat)) (p:Nat×Nat):shL (l ++ [p])=shL l ++ shC p.1 p.2:=by simp[shL]
theorem Fg (s:Nat) : ∀(l:List Nat) (a:Rat),(l.map fun y=>Rat.divInt (y:Nat) (s:Nat)).foldl (· + ·) a=a+Rat.divInt (l.sum:Nat) (s:Nat)
 | [],a=>by rw[tK,List.foldl_nil,List.sum_nil,show(((0:Nat):Int))=0 from rfl,Rat.zero_divInt,lP]
 | x :: l,a=>by
  rw[kW,List.foldl_cons,Fg s l,AA,oK,oK,oK];have e:(((x+l.sum:Nat):Int):Rat)=((x:Int):Rat)+((l.sum:Int):Rat):=by rw[←Rat.intCast_add];rfl
  rw[e];grind
variable {ys:List Nat}
def Zac (h0:0<ys.sum) (hb:ys.sum≤1000) (hy : ∀y∈ys,y≤1000):qf (ys.map fun y=>shq (Rat.divInt (y:Nat) (ys.sum:Nat))):=by
 have hq : ∀y∈ys,QW (Rat.divInt (y:Nat) (ys.sum:Nat)):=fun y h=>by have:=hy y h;exact uh ⟨byOmega,byOmega⟩ ⟨byOmega,byOmega⟩ byOmega
 refine⟨fun p hp=>?_,?_⟩
 ·obtain⟨y,hm,rfl⟩:=ju.1 hp;obtain⟨e1,e2⟩:=zj (hq y hm);rintro(hb|hb)
  ·exact hb e2
  ·have e3:wdI (shq (Rat.divInt (y:Nat) (ys.sum:Nat))).1=(Rat.divInt (y:Nat) (ys.sum:Nat)).num:=dQ (hq y hm).1;rw[e3] at hb;have:0≤Rat.divInt (y:Nat) (ys.sum:Nat):=Rat.divInt_nonneg byOmega byOmega;have:=tC.2 this;omega
 ·have e:(ys.map fun y=>shq (Rat.divInt (y:Nat) (ys.sum:Nat))).map rOf=ys.map fun y=>Rat.divInt (y:Nat) (ys.sum:Nat):=by rw[rQ];exact xZ fun y hm=>(zj (hq y hm)).1
  rw[e];unfold jJ;rw[Fg,oK,Aw];have hne:(((ys.sum:Nat):Int):Rat)≠0:=fun h=>by have:((ys.sum:Nat):Int)=0:=Rat.intCast_inj.1 h;omega
  grind
def smR (S:Nat) (l:List (Nat×Nat)):Prop:=0<S∧S≤1000 ∧ ∀p∈l,p.1≤1000∧0<p.2∧p.2∣S
def OB (l:List (Nat×Nat)):Prop:=qf l∧(∃S,smR S l) ∧ ∃q∈l,0<q.1
def z9 {y S:Nat} (hS:0<S) : ∃m:Nat,0<m∧(y:Int)=(Rat.divInt (y:Nat) (S:Nat)).num*m∧S=(Rat.divInt (y:Nat) (S:Nat)).den*m:=by
 obtain⟨q,hq⟩:=bm (Rat.divInt (y:Nat) (S:Nat));obtain⟨m,_,e1,e2⟩:=Rat.divInt_num_den (n:=(y:Int)) (d:=(S:Int)) (n':=q.num) (d':=q.den) (z':=q.den_nz) (c:=q.reduced) byOmega (by rw[←hq]);rw[←hq];have dp:0<q.den:=q.den_pos;have m0:0<m:=by apply dW;intro hn;have:(q.den:Int)*m≤0:=Int.mul_nonpos_of_nonneg_of_nonpos byOmega byOmega;omega
 obtain⟨k,rfl⟩:=fD (Int.le_of_lt m0);exact⟨k,byOmega,e1,by exact_mod_cast e2⟩
def TT (h : ∀y∈ys,y=0):ys.sum=0:=by
 induction ys with
 | nil=>rfl
 | cons a l ih=>rw[AA,h a aa,ih fun y hy=>h y (by simp[hy])]
def MQ (h0:0<ys.sum) (hb:ys.sum≤1000) (hy : ∀y∈ys,y≤1000):OB (ys.map fun y=>shq (Rat.divInt (y:Nat) (ys.sum:Nat))):=by
 have key : ∀y,y≤1000 → ∃m:Nat,0<m∧y=(shq (Rat.divInt (y:Nat) (ys.sum:Nat))).1*m∧ys.sum=(shq (Rat.divInt (y:Nat) (ys.sum:Nat))).2*m:=fun y hy1=>by
  obtain⟨m,m0,e1,e2⟩:=z9 (y:=y) h0;have n0:0≤(Rat.divInt (y:Nat) (ys.sum:Nat)).num:=tC.2 (Rat.divInt_nonneg byOmega byOmega);obtain⟨k,hk⟩:=fD n0;refine⟨m,m0,?_,?_⟩
  ·show y=bJ _*m;rw[KY n0,hk,oO];rw[hk] at e1
   exact_mod_cast e1
  ·show ys.sum=bJ ((Rat.divInt (y:Nat) (ys.sum:Nat)).den:Int)*m;rw[KY byOmega,oO];exact e2
 refine⟨Zac h0 hb hy,⟨ys.sum,h0,hb,fun p hp=>?_⟩,?_⟩
 ·obtain⟨y,hm,rfl⟩:=ju.1 hp;have y1:=hy y hm;obtain⟨m,m0,e1,e2⟩:=key y y1;refine⟨?_,?_,⟨m,e2⟩⟩
  ·have:=CX (shq (Rat.divInt (y:Nat) (ys.sum:Nat))).1 m0;omega
  ·apply lT;intro hz;rw[hz,iC] at e2;omega
 ·have : ∃y∈ys,0<y:=by apply dW;intro hn;have hz : ∀y∈ys,y=0:=fun y hy=>Nat.eq_zero_of_not_pos fun h=>hn ⟨y,hy,h⟩;have:ys.sum=0:=TT hz;omega
  obtain⟨y,hm,y0⟩:=this;refine⟨_,ju.2 ⟨y,hm,rfl⟩,?_⟩;obtain⟨m,m0,e1,e2⟩:=key y (hy y hm);apply lT;intro hz;rw[hz,iC] at e1;omega
theorem QA (ys:List Nat) (i:Nat) (hi:i<ys.length) (h0:ys.sum=0):(ys.set i 1).sum=1:=by
 induction ys generalizing i with
 | nil=>simp at hi
 | cons a l ih =>
  rw[AA] at h0;cases i with
  | zero=>rw[List.set_cons_zero,AA];omega
  | succ i =>
   rw[List.set_cons_succ,AA,ih i (by simpa using hi) byOmega];omega
def MT (l:List Int) (i:Nat) (x:Int) (hi:i<l.length):IH.aI (l.map KI) (i*1) [KI x]=(l.set i x).map KI:=by rw[dG];simp only[IH.aI,Dc,tL];rw[List.set_eq_take_append_cons_drop,ah (by simpa using hi)];rfl
def Fb {h:IH} {sz:Nat} {v:QQ} {lN:List Nat} (hv:wG h v lN) (hsz:sz<256) :WV prog (.func (.func 8) #[] #[]) [.agg #[B8 sz,v]] h fun r h'=>Ext h h' ∧ ∃ll,je h' r ll∧ll.length=1+sz % 4 ∧ ∀x∈ll,x.length=1+sz % 4∧OB x:=by
 have cv:=hv.1.cells;have co:=hv.1.cok;have lv:=hv.2.1;obtain⟨n,hn⟩:=bm (1+sz % 4);have nb4:1≤n∧n≤4:=byOmega;rw[←hn];have g0:(h.new (.cells [B8 sz,v] 0 none)).ext.get h.n=some (.cells [B8 sz,v] 0 none):=by simp (disch:=omega) only[aq]
 have E0:Ext h (h.new (.cells [B8 sz,v] 0 none)):=(Ext.refl h).new _;obtain⟨Hb,hHb⟩:=bm (h.new (.cells [B8 sz,v] 0 none));have nb:Hb.n=h.n+1:=by rw[hHb];rfl
 have hr : ∀ox oy,binop prog .rem 5 ox oy (B8 sz) (.int .u8 4)=some (.int .u8 ((sz % 4:Nat):Int)):=fun ox oy=>oB _ _ .u8 ox oy sz 4 byOmega;have en:(1:Int)+((sz % 4:Nat):Int)=(n:Int):=byOmega;refine enter (nt:=84) (rs:=[.tmp 2]) Proofs.Tryz.func8 rfl rfl rfl aa ?_;rw[←hHb] at g0 E0;simp -dsimp (disch:=omega) only[wpS,zE,ZdS,ld5,HV,hr,en];rw[←hHb];clear hHb;refine loop (fun m fr hh => ∃(i:Nat) (out:QQ) (vs:List QQ) (ll:List (List (Nat×Nat))),i+m=n∧ll.length=i∧vs.length=i∧Ext Hb hh∧Acc hh Hb.n 1 out i vs∧(∀(k:Nat) x,ll[k]?=some x → ∃w,vs[k]?=some w∧iS hh w x)∧(∀x∈ll,x.length=n∧OB x)∧aj fr 1=some (ptr (2*h.n) 0)∧aj fr 3=some (KN n)∧aj fr 4=some out∧aj fr 5=some (KN i)) n ⟨0,.slice none 0 0,[],[],byOmega,rfl,rfl,Ext.refl _,Acc.nil _ _ byOmega,fun k x hx=>by simp at hx,fun x hx=>by simp at hx,aa⟩ ?_;rintro m fr hh ⟨i,out,vs,ll,him,hil,hvl,hE,hA,hll,hro,f1,f3,f4,f5⟩;have hg:=hE.kept byOmega g0;have hnn:=hE.n;have hEh:=E0.trans hE;simp -dsimp (disch:=omega) only[wpS,zE,f3,f5];refine az ?_ ?_<;>intro hc<;>simp only[aJ,aV] at hc
 ·have hin:i<n:=byOmega;simp -dsimp (disch:=omega) only[wpS,wpT];refine loop (fun m2 fr h2 => ∃(j:Nat) (o2:QQ) (xs:List Nat),j+m2=n∧xs.length=j∧(∀x∈xs,x<6)∧Ext hh h2∧Acc h2 hh.n 1 o2 xs.length (xs.map KN)∧aj fr 1=some (ptr (2*h.n) 0)∧aj fr 3=some (KN n)∧aj fr 4=some out∧aj fr 5=some (KN i)∧aj fr 6=some o2∧aj fr 7=some (KN xs.sum)∧aj fr 8=some (KN j)) n ⟨0,.slice none 0 0,[],byOmega,rfl,(fun x hx=>by cases hx),Ext.refl _,Acc.nil _ _ byOmega,by simp[f1,f3,f4,f5]⟩ ?_;clear f1 f3 f4 f5;rintro m2 fr h2 ⟨j,o2,xs,hjm,hjl,hx6,hE2,hA2,f1,f3,f4,f5,f6,f7,f8⟩;have hg2:=hE2.kept byOmega hg;have hn2:=hE2.n;have hEh2:=hEh.trans hE2;have MZ:xs.sum≤6*xs.length:=by
   clear hA2 f7 hjl hjm
   induction xs with
   | nil=>simp
   | cons a l ih =>
    rw[AA,gX];have:=hx6 a aa;have:=ih fun x hx=>hx6 x (by simp[hx]);omega
  simp -dsimp (disch:=omega) only[wpS,zE,f3,f8];refine az ?_ ?_<;>intro hc2<;>simp only[aJ,aV] at hc2
  ·have hjn:j<n:=byOmega;have enm:(n:Int)*(i:Int)=((n*i:Nat):Int):=(oP _ _).symm;have hni:n*i≤4*4:=fB nb4.2 byOmega;obtain⟨t,ht⟩:=bm (n*i+j);have et:((n*i:Nat):Int)+(j:Int)=(t:Int):=byOmega;have fin : ∀y:Nat,y<6 → ∀fr':Fr,aj fr' 1=some (ptr (2*h.n) 0)→True:=fun _ _ _ _=>trivial;by_cases c:t<lN.length
   ·obtain⟨x,hx⟩:=fJ (l:=lN) (i:=t) c;have xb:=hv.2.2 x (bN hx);have hr6 : ∀ox oy,binop prog .rem 5 ox oy (B8 x) (.int .u8 6)=some (.int .u8 ((x % 6:Nat):Int)):=fun ox oy=>oB _ _ .u8 ox oy x 6 byOmega;obtain⟨y,hy⟩:=bm (x % 6);have yb:y<6:=byOmega;rw[←hy] at hr6;obtain⟨fF,h8,hap,hA8,hG8,hE8⟩:=hA2.Gq (P:=prog) (t:=25) FH (x:=KN y) rfl byOmega byOmega hE2 byOmega;simp -dsimp (disch:=omega) only[wpS,wpT,zE,zL,zA,HV,Kg,Zab,Ah,oj,f1,f3,f5,f6,f7,f8,enm,et,aw hg2,hv.1.len Zo,hv.1.idx es22 c,hv.ld hEh2.ae hx,hr6,hap];refine⟨m2 - 1,byOmega,j+1,fF,xs ++ [y],byOmega,by simp[hjl],?_,hE8,?_,by simp[f1],by simp[f3],by simp[f4],by simp[f5],aa,?_,aa⟩
    ·intro q hq;rcases eE.1 hq with hq|hq
     ·exact hx6 q hq
     ·rw[iD.1 hq];exact yb
    ·rw[kX,du];exact hA8
    ·simp[List.sum_append]
   ·obtain⟨fF,h8,hap,hA8,hG8,hE8⟩:=hA2.Gq (P:=prog) (t:=25) FH (x:=KI 0) rfl byOmega byOmega hE2 byOmega;simp -dsimp (disch:=omega) only[wpS,wpT,zE,zL,zA,Kg,Zab,Ah,oj,f1,f3,f5,f6,f7,f8,enm,et,aw hg2,hv.1.len Zo,hap];refine⟨m2 - 1,byOmega,j+1,fF,xs ++ [0],byOmega,by simp[hjl],?_,hE8,?_,by simp[f1],by simp[f3],by simp[f4],by simp[f5],aa,?_,aa⟩
    ·intro q hq;rcases eE.1 hq with hq|hq
     ·exact hx6 q hq
     ·rw[iD.1 hq];decide
    ·rw[kX,du];exact hA8
    ·simp[List.sum_append]
  ·have hxn:xs.length=n:=byOmega;clear hc2;by_cases c0:xs.sum=0
   ·have dz:(((xs.sum:Nat):Int) == 0)=true:=by simp[c0]
    have hix:i<xs.length:=byOmega;obtain⟨h3,st0,A3,e3,n3⟩:=hA2.Zw (P:=prog) (t:=3) sz3 hix (x:=KI 1) (xs:=[KI 1]) rfl rfl rfl hE2 (ar _);have st:store prog h2 3 (a9 o2 i) (.int .i64 1)=some h3:=by rw[dG] at st0;exact st0
    have ix:=hA2.sl.idx (P:=prog) (k:=.i64) mP hix;have A3':Acc h3 hh.n 1 o2 n ((xs.set i 1).map KN):=by
     have e:IH.aI (xs.map KN) (i*1) [KI 1]=(xs.set i 1).map KN:=by have:=MT (xs.map fun y:Nat=>(y:Int)) i 1 (by simpa using hix);rw[rQ] at this;rw[show(xs.map KN)=xs.map (KI ∘ fun y:Nat=>(y:Int)) from rfl,this,Dc,rQ,Dc];rfl
     rw[←e,←hxn];exact A3
    have hsv:(xs.set i 1).sum=1:=QA xs i hix c0;have hy6 : ∀y∈xs.set i 1,y≤1000:=fun y hy=>(xY hy).elim (fun h=>by have:=hx6 y h;omega) (fun h=>byOmega);have hyl:(xs.set i 1).length=n:=by rw[dV];exact hxn
    obtain⟨s,hs⟩:=bm ((xs.set i 1).sum);have hs1:(s:Int)=1:=by rw[hs,hsv];rfl
    have hsb:0<s∧s≤100:=by rw[hs,QA xs i byOmega c0];exact⟨byOmega,byOmega⟩
    have A3:Acc h3 hh.n 1 o2 n ((xs.set i 1).map KN):=A3';have E3:Ext hh h3:=e3;have hn3:=E3.n;have sO:KK h3 o2 ((xs.set i 1).map fun y:Nat=>(y:Int)):=⟨by rw[cd,hyl,rQ];exact A3.sl,by rw[cd];omega,fun x hx=>by
     obtain⟨y,hy,rfl⟩:=ju.1 hx;have:=hy6 y hy;constructor<;>omega⟩
    obtain⟨ys,hys⟩:=bm (xs.set i 1);rw[←hys] at hy6 hyl hs sO;simp -dsimp (disch:=omega) only[wpS,wpT,zE,f5,f6,f7,ix,st,dz];refine loop (fun m4 fr h4 => ∃(j:Nat) (o3:QQ),j+m4=n∧Ext h3 h4∧Acc h4 h3.n 16 o3 j (shL ((ys.take j).map fun y=>shq (Rat.divInt (y:Nat) (s:Nat))))∧aj fr 1=some (ptr (2*h.n) 0)∧aj fr 3=some (KN n)∧aj fr 4=some out∧aj fr 5=some (KN i)∧aj fr 6=some o2∧aj fr 7=some (KN s)∧aj fr 10=some o3∧aj fr 11=some (KN j)) n ⟨0,.slice none 0 0,byOmega,Ext.refl _,Acc.nil _ _ byOmega,by simp[f1,f3,f4,f5,f6,hs1]⟩ ?_;clear f1 f3 f4 f5 f6 f7 f8;rintro m4 fr h4 ⟨j,o3,hjm4,hE4,hA4,f1,f3,f4,f5,f6,f7,f10,f11⟩;have hn4:=hE4.n;have qwy : ∀y∈ys,QW (Rat.divInt (y:Nat) (s:Nat)):=fun y hy=>by have:=hy6 y hy;exact uh ⟨byOmega,byOmega⟩ ⟨byOmega,byOmega⟩ byOmega
    simp -dsimp (disch:=omega) only[wpS,zE,f3,f11];refine az ?_ ?_<;>intro hc4<;>simp only[aJ,aV] at hc4
    ·have hj:j<ys.length:=byOmega;obtain⟨y,hy⟩:=fJ (l:=ys) (i:=j) hj;have hym:=bN hy;have yb:=hy6 y hym;have hyi:(ys.map fun y:Nat=>(y:Int))[j]?=some (y:Int):=by rw[cm,hy];rfl
     have ixo:=sO.1.idx (P:=prog) (k:=.i64) mP (j:=j) (by rw[cd];exact hj);simp -dsimp (disch:=omega) only[wpS,wpT,zE,f6,f7,f11,ixo,CE sO hE4.ae hyi];refine call (ue (y:Int) (s:Int) ⟨byOmega,byOmega⟩ ⟨byOmega,byOmega⟩ byOmega) ?_;rintro _ h5 ⟨X5,rfl⟩;rw[iW];have pw:=rT (qwy y hym);obtain⟨p,hp⟩:=bm (shq (Rat.divInt (y:Nat) (s:Nat)));have etk:shL ((ys.take (j+1)).map fun y=>shq (Rat.divInt (y:Nat) (s:Nat)))=shL ((ys.take j).map fun y=>shq (Rat.divInt (y:Nat) (s:Nat))) ++ shC p.1 p.2:=by rw[fE hy,kX,kW,tK,Hq,hp]
     rw[←hp] at pw ⊢;obtain⟨H6,hH6⟩:=bm ((h5.new (.cells Z16 0 none)).put h5.n (.cells (shC p.1 p.2) 0 none));have E6:Ext h5 H6:=by rw[hH6];exact((Ext.refl h5).new _).put (ar _) _
     have n6:H6.n=h5.n+1:=by rw[hH6];rfl
     have k6:H6.ext.get h5.n=some (.cells (shC p.1 p.2) 0 none):=by rw[hH6];simp (disch:=omega) only[ak]
     have m5:=X5.n;simp -dsimp (disch:=omega) only[wpS,wpT,zE,zL,zA,lX,iJ,aU,aC,bH,cD];rw[←hH6];clear hH6;have E56:=X5.trans E6;obtain⟨fF,h8,hap,hA8,hG8,hE8⟩:=(hA4.ext E56).uR (P:=prog) (t:=61) Gr (m:=1) (new:=shC p.1 p.2) byOmega (by rw[aC]) (bH _ _) byOmega byOmega (hE4.trans E56) (ar _);have yC:append prog (H6.new (.cells (shC p.1 p.2) 16 none)) 61 o3 (.slice (some ⟨2*H6.n,0,none⟩) 1 3)=some (fF,h8):=hap;simp -dsimp (disch:=omega) only[wpS,wpT,zE,zL,zA,dX,Cl,oi,f10,f11,aw k6,aC,bF,aU,cD,show(.agg (shC p.1 p.2).toArray:QQ)=shV p.1 p.2 from rfl,yC];exact⟨m4 - 1,byOmega,j+1,fF,byOmega,hE8,by rw[etk];exact hA8,by simp[f1,f3,f4,f5,f6,f7]⟩
    ·have hjn:j=n:=byOmega;subst hjn;rw[dr byOmega] at hA4;obtain⟨l,hl⟩:=bm (ys.map fun y=>shq (Rat.divInt (y:Nat) (s:Nat)));have W3:l.length=j:=by rw[hl,cd,hyl]
     rw[←hl] at hA4;have rok:OB l:=by rw[hl,hs];exact MQ byOmega byOmega hy6
     have S4:iS h4 o3 l:=⟨by rw[W3];exact hA4.sl,byOmega,fun p hp=>by
      rw[hl] at hp;obtain⟨y,hy,rfl⟩:=ju.1 hp;exact rT (qwy y hy)⟩
     have E34:=E3.trans hE4;obtain⟨fF,h8,hap,hA8,hG8,hE8⟩:=(hA.ext E34).Gq (P:=prog) (t:=38) Yy (x:=o3) S4.1.cok byOmega byOmega (hE.trans E34) (ar _);have yC:append prog (h4.new (.cells [o3] 1 none)) 38 out (.slice (some ⟨2*h4.n,0,none⟩) 1 3)=some (fF,h8):=hap;simp -dsimp (disch:=omega) only[wpS,wpT,zE,zL,zA,Yj,Al,f4,f5,f10,S4.1.cells,yC];refine⟨m - 1,byOmega,i+1,fF,vs ++ [o3],ll ++ [l],byOmega,by simp[hil],by simp[hvl],hE8,hA8,?_,?_,by simp[f1,f3]⟩
     ·intro k x hx;by_cases hk:k<i
      ·rw[gF byOmega] at hx;obtain⟨w,c3,c4⟩:=hll k x hx;exact⟨w,by rw[gF byOmega];exact c3,c4.ae (E34.ae.trans hG8.ae)⟩
      ·have hki:k=i:=by have:=(bZ.1 hx).1;simp at this;omega
       subst hki;rw[jv byOmega,hil,xQ] at hx;simp at hx;subst hx;exact⟨o3,by rw[jv byOmega,hvl,xQ];rfl,S4.ae hG8.ae⟩
     ·intro x hx;rcases eE.1 hx with hx|hx
      ·exact hro x hx
      ·rw[iD.1 hx];exact⟨W3,rok⟩
   ·have dz:(((xs.sum:Nat):Int) == 0)=false:=bq;have hy6 : ∀y∈xs,y≤1000:=fun y hy=>by have:=hx6 y hy;omega
    have hyl:(xs).length=n:=hxn;obtain⟨s,hs⟩:=bm ((xs).sum);have hsb:0<s∧s≤100:=⟨byOmega,byOmega⟩;have A3:Acc h2 hh.n 1 o2 n ((xs).map KN):=by rw[←hxn];exact hA2
    have E3:Ext hh h2:=hE2;have hn3:=E3.n;have sO:KK h2 o2 ((xs).map fun y:Nat=>(y:Int)):=⟨by rw[cd,hyl,rQ];exact A3.sl,by rw[cd];omega,fun x hx=>by
     obtain⟨y,hy,rfl⟩:=ju.1 hx;have:=hy6 y hy;constructor<;>omega⟩
    obtain⟨ys,hys⟩:=bm (xs);rw[←hys] at hy6 hyl hs sO;simp -dsimp (disch:=omega) only[wpS,wpT,zE,f7,dz];refine loop (fun m4 fr h4 => ∃(j:Nat) (o3:QQ),j+m4=n∧Ext h2 h4∧Acc h4 h2.n 16 o3 j (shL ((ys.take j).map fun y=>shq (Rat.divInt (y:Nat) (s:Nat))))∧aj fr 1=some (ptr (2*h.n) 0)∧aj fr 3=some (KN n)∧aj fr 4=some out∧aj fr 5=some (KN i)∧aj fr 6=some o2∧aj fr 7=some (KN s)∧aj fr 10=some o3∧aj fr 11=some (KN j)) n ⟨0,.slice none 0 0,byOmega,Ext.refl _,Acc.nil _ _ byOmega,by simp[f1,f3,f4,f5,f6,f7,hs,hys]⟩ ?_;clear f1 f3 f4 f5 f6 f7 f8;rintro m4 fr h4 ⟨j,o3,hjm4,hE4,hA4,f1,f3,f4,f5,f6,f7,f10,f11⟩;have hn4:=hE4.n;have qwy : ∀y∈ys,QW (Rat.divInt (y:Nat) (s:Nat)):=fun y hy=>by have:=hy6 y hy;exact uh ⟨byOmega,byOmega⟩ ⟨byOmega,byOmega⟩ byOmega
    simp -dsimp (disch:=omega) only[wpS,zE,f3,f11];refine az ?_ ?_<;>intro hc4<;>simp only[aJ,aV] at hc4
    ·have hj:j<ys.length:=byOmega;obtain⟨y,hy⟩:=fJ (l:=ys) (i:=j) hj;have hym:=bN hy;have yb:=hy6 y hym;have hyi:(ys.map fun y:Nat=>(y:Int))[j]?=some (y:Int):=by rw[cm,hy];rfl
     have ixo:=sO.1.idx (P:=prog) (k:=.i64) mP (j:=j) (by rw[cd];exact hj);simp -dsimp (disch:=omega) only[wpS,wpT,zE,f6,f7,f11,ixo,CE sO hE4.ae hyi];refine call (ue (y:Int) (s:Int) ⟨byOmega,byOmega⟩ ⟨byOmega,byOmega⟩ byOmega) ?_;rintro _ h5 ⟨X5,rfl⟩;rw[iW];have pw:=rT (qwy y hym);obtain⟨p,hp⟩:=bm (shq (Rat.divInt (y:Nat) (s:Nat)));have etk:shL ((ys.take (j+1)).map fun y=>shq (Rat.divInt (y:Nat) (s:Nat)))=shL ((ys.take j).map fun y=>shq (Rat.divInt (y:Nat) (s:Nat))) ++ shC p.1 p.2:=by rw[fE hy,kX,kW,tK,Hq,hp]
     rw[←hp] at pw ⊢;obtain⟨H6,hH6⟩:=bm ((h5.new (.cells Z16 0 none)).put h5.n (.cells (shC p.1 p.2) 0 none));have E6:Ext h5 H6:=by rw[hH6];exact((Ext.refl h5).new _).put (ar _) _
     have n6:H6.n=h5.n+1:=by rw[hH6];rfl
     have k6:H6.ext.get h5.n=some (.cells (shC p.1 p.2) 0 none):=by rw[hH6];simp (disch:=omega) only[ak]
     have m5:=X5.n;simp -dsimp (disch:=omega) only[wpS,wpT,zE,zL,zA,lX,iJ,aU,aC,bH,cD];rw[←hH6];clear hH6;have E56:=X5.trans E6;obtain⟨fF,h8,hap,hA8,hG8,hE8⟩:=(hA4.ext E56).uR (P:=prog) (t:=61) Gr (m:=1) (new:=shC p.1 p.2) byOmega (by rw[aC]) (bH _ _) byOmega byOmega (hE4.trans E56) (ar _);have yC:append prog (H6.new (.cells (shC p.1 p.2) 16 none)) 61 o3 (.slice (some ⟨2*H6.n,0,none⟩) 1 3)=some (fF,h8):=hap;simp -dsimp (disch:=omega) only[wpS,wpT,zE,zL,zA,dX,Cl,oi,f10,f11,aw k6,aC,bF,aU,cD,show(.agg (shC p.1 p.2).toArray:QQ)=shV p.1 p.2 from rfl,yC];exact⟨m4 - 1,byOmega,j+1,fF,byOmega,hE8,by rw[etk];exact hA8,by simp[f1,f3,f4,f5,f6,f7]⟩
    ·have hjn:j=n:=byOmega;subst hjn;rw[dr byOmega] at hA4;obtain⟨l,hl⟩:=bm (ys.map fun y=>shq (Rat.divInt (y:Nat) (s:Nat)));have W3:l.length=j:=by rw[hl,cd,hyl]
     rw[←hl] at hA4;have rok:OB l:=by rw[hl,hs];exact MQ byOmega byOmega hy6
     have S4:iS h4 o3 l:=⟨by rw[W3];exact hA4.sl,byOmega,fun p hp=>by
      rw[hl] at hp;obtain⟨y,hy,rfl⟩:=ju.1 hp;exact rT (qwy y hy)⟩
     have E34:=E3.trans hE4;obtain⟨fF,h8,hap,hA8,hG8,hE8⟩:=(hA.ext E34).Gq (P:=prog) (t:=38) Yy (x:=o3) S4.1.cok byOmega byOmega (hE.trans E34) (ar _);have yC:append prog (h4.new (.cells [o3] 1 none)) 38 out (.slice (some ⟨2*h4.n,0,none⟩) 1 3)=some (fF,h8):=hap;simp -dsimp (disch:=omega) only[wpS,wpT,zE,zL,zA,Yj,Al,f4,f5,f10,S4.1.cells,yC];refine⟨m - 1,byOmega,i+1,fF,vs ++ [o3],ll ++ [l],byOmega,by simp[hil],by simp[hvl],hE8,hA8,?_,?_,by simp[f1,f3]⟩
     ·intro k x hx;by_cases hk:k<i
      ·rw[gF byOmega] at hx;obtain⟨w,c3,c4⟩:=hll k x hx;exact⟨w,by rw[gF byOmega];exact c3,c4.ae (E34.ae.trans hG8.ae)⟩
      ·have hki:k=i:=by have:=(bZ.1 hx).1;simp at this;omega
       subst hki;rw[jv byOmega,hil,xQ] at hx;simp at hx;subst hx;exact⟨o3,by rw[jv byOmega,hvl,xQ];rfl,S4.ae hG8.ae⟩
     ·intro x hx;rcases eE.1 hx with hx|hx
      ·exact hro x hx
      ·rw[iD.1 hx];exact⟨W3,rok⟩
 ·have hin:i=n:=byOmega;subst hin;simp -dsimp (disch:=omega) only[wpS,wpT,zE,f4];exact⟨hEh,ll,⟨vs,by rw[hil];exact hA.sl,byOmega,hll⟩,hil,hro⟩
def Za3:1000000000000<H8:=by unfold H8;decide +kernel
theorem Zcp {n:Nat} (hn:n≤1000000000000):wdI n=(n:Int):=YV (kh hn Za3)
def Gro (h:IH) (n0 sz:Nat) (v:QQ) (n:Nat) (cs:List QQ):Prop:=Acc h n0 sz v n cs∨(0<sz∧cs.length=n*sz ∧ ∃k,v=.slice (some ⟨2*k,0,none⟩) n (2*n+1)∧0<n∧n0≤k∧k<h.n∧h.ext.get k=some (.cells cs sz none))
variable {h:IH}{n:Nat}{v:QQ}{n0 sz:Nat}{cs:List QQ}
def Gro.sl (g:Gro h n0 sz v n cs):cA h sz v n cs:=by
 rcases g with a|⟨hz,hl,k,rfl,hn,h1,h2,h3⟩;·exact a.sl
 ·exact eh h3 h2 hz hl byOmega byOmega
def Gro.ext {h':IH} (g:Gro h n0 sz v n cs) (e:Ext h h'):Gro h' n0 sz v n cs:=by
 rcases g with a|⟨hz,hl,k,rfl,hn,h1,h2,h3⟩;·exact .inl (a.ext e)
 ·exact .inr ⟨hz,hl,k,rfl,hn,h1,by have:=e.n;omega,e.kept h2 h3⟩
variable {m:Nat}
def Gro.uR (g:Gro h n0 sz v n cs) {P:Program} {t:TypeId} {bytes:Nat} (hT:mR P t=some (sz,bytes)) {new:List QQ} (hm:0<m) (hl:new.length=m*sz)(hc:new.all aM=true) (hsz:(n+m)*(bytes+1)≤1099511627776) (h0:n0≤h.n) {h0':IH} (e0:Ext h0' h) (hn0:h0'.n≤n0) :
  ∃v' h',append P (h.new (.cells new sz none)) t v (.slice (some ⟨2*h.n,0,none⟩) m (2*m+1))=some (v',h')∧Acc h' n0 sz v' (n+m) (cs ++ new)∧Grow h h'∧Ext h0' h':=by
 rcases g with a|⟨hz,hcl,k,rfl,hn,h1,h2,h3⟩;·exact a.uR hT hm hl hc hsz h0 e0 hn0
 ·have e1:Ext h (h.new (.cells new sz none)):=(Ext.refl h).new _
  have sv:cA h sz (.slice (some ⟨2*k,0,none⟩) n (2*n+1)) n cs:=eh h3 h2 hz hcl byOmega byOmega;have sx:cA (h.new (.cells new sz none)) sz (.slice (some ⟨2*h.n,0,none⟩) m (2*m+1)) m new:=eh (k:=h.n) (f:=none) (aq _ _ rfl) aa hz hl byOmega byOmega;refine⟨_,_,Nw hT (sv.ext e1).now sx.now hm hn hc hsz,?_,(e1.new _).grow,(e0.trans e1).new _⟩;exact(Am hz (by rw[du,hcl,hl,cW]) byOmega).from (by simp only[bj];omega)
def Gro.put (g:Gro h n0 sz v n cs) {k:Nat} {c:List QQ} {f:Option Nat} (hk:h.ext.get k=some (.cells c 0 f)) (o:cB):Gro (h.put k o) n0 sz v n cs:=by
 rcases g with a|⟨hz,hl,j,rfl,hn,h1,h2,h3⟩;·exact .inl (a.put hk o)
 ·refine .inr ⟨hz,hl,j,rfl,hn,h1,h2,?_⟩;rw[lK,ad]
  ·exact h3
  ·rintro rfl;rw[hk] at h3;cases h3;omega
def Zay (hz:0<sz) (hl:cs.length=m*sz) (hm:0<m):Gro (h.new (.cells cs sz none)) h.n sz (.slice (some ⟨2*h.n,0,none⟩) m (2*m+1)) m cs :=
 .inr ⟨hz,hl,h.n,rfl,hm,ar _,aa,aq _ _ rfl⟩
theorem Gro.from {n1:Nat} (g:Gro h n1 sz v n cs) (hn:n0≤n1):Gro h n0 sz v n cs:=by
 rcases g with a|⟨hz,hl,k,rfl,hp,h1,h2,h3⟩;·exact .inl (a.from hn)
 ·exact .inr ⟨hz,hl,k,rfl,hp,byOmega,h2,h3⟩
def kerS (ll:List (List (Nat×Nat))):Prop:=1≤ll.length∧ll.length≤60 ∧ ∀x∈ll,x.length=ll.length∧(∃S,smR S x) ∧ ∃q∈x,0<q.1
abbrev pI (p:List Nat):List Int:=p.map fun n:Nat=>((n:Nat):Int)
def Zaf {ll:List (List (Nat×Nat))} (h1:1≤ll.length) (h2:ll.length≤60) (h : ∀x∈ll,x.length=ll.length∧OB x):kerS ll∧fy ll :=
 ⟨⟨h1,h2,fun x hx=>⟨(h x hx).1,(h x hx).2.2⟩⟩,h1,h2,fun x hx=>⟨(h x hx).1,(h x hx).2.1⟩⟩
end Go.Id
namespace Go.Id
open Go
open Go renaming Operand→QY,Program→QX,TypeId→QZ,Value→QQ
open Nat renaming reduceAdd→zA,reduceEqDiff→zE,reduceLeDiff→zL
open Nat (reduceMul)
set_option maxHeartbeats 16000000

open Go.Proofs.Tryz (prog)


end Go.Id
namespace Go.Id
open Go
open Go renaming Operand→QY,Program→QX,TypeId→QZ,Value→QQ
open Nat renaming reduceAdd→zA,reduceEqDiff→zE,reduceLeDiff→zL
open Nat (reduceMul)
set_option maxHeartbeats 16000000


open Go.Proofs.Tryz (prog)



end Go.Id
namespace Go.Id
open Go
open Go renaming Operand→QY,Program→QX,TypeId→QZ,Value→QQ
open Nat renaming reduceAdd→zA,reduceEqDiff→zE,reduceLeDiff→zL
open Nat (reduceMul)
set_option maxHeartbeats 16000000
noncomputable section
def I7 (l:List (FuncId×(List QQ→Option QQ))) (f:FuncId):Option (List QQ→Option QQ):=List.rec (motive:=fun _=>Option (List QQ→Option QQ)) none (fun p _ ih=>iB (Nat.beq f p.1) (some p.2) ih) l
def Ar (P:Program) (f:FuncId) (g:List QQ→Option QQ):Prop :=
 (∃fn,P.funcs[f]?=some fn∧fn.body.isSome=true) ∧ ∀args v,args.all plain=true→g args=some v→qj v=true∧Su P f args v
def DE : ∀{l:List (FuncId×(List QQ→Option QQ))} {f:FuncId} {g:List QQ→Option QQ},I7 l f=some g→(f,g)∈l
 | [],_,_,h=>by cases h
 | p :: l,f,g,h=>by
  change iB (Nat.beq f p.1) (some p.2) (I7 l f)=some g at h;rw[iz] at h;cases hb:Nat.beq f p.1 with
  | true =>
   rw[hb] at h;cases h;have:=my.mp hb;subst this;exact oM
  | false =>
   rw[hb] at h;exact pR _ (DE h)
variable {P:Program}
def LG (S:Sound (E0 P)) {l:List (FuncId×(List QQ→Option QQ))} (h : ∀p∈l,Ar P p.1 p.2):Sound (E1 P (I7 l)) :=
 ZcN S (fun f g hg=>(h _ (DE hg)).1) (fun f g hg=>(h _ (DE hg)).2)
variable {fn:Func}{f:FuncId}
def wk (S:Sound (E0 P)) (hf:P.funcs[f]?=some fn) (hb:fn.body.isSome=true) {g:List QQ→Option QQ}(h : ∀args v,args.all plain=true→g args=some v→qj v=true∧WV P (.func (.func f) #[] #[]) args (IH.start fun _=>none) fun r _=>r=v):Ar P f g :=
 ⟨⟨fn,hf,hb⟩,fun args v hp e=>⟨(h args v hp e).1,Xg S ⟨fn,hf,hb⟩ hp (h args v hp e).2⟩⟩
def okT (args:List QQ):Option QQ:=match args with
 | []=>some (.bool true)
 | _=>none
def PM {E:Env} (S:Sound E) {n:Nat} (hf:E.P.funcs[f]?=some fn) (hb:fn.body.isSome=true) (h:Sg E (n+1) f (fun _=>none)=true):Ar E.P f okT:=by
 refine⟨⟨fn,hf,hb⟩,fun args v hp e=>?_⟩;unfold okT at e;split at e;·cases e;obtain⟨h',hr⟩:=P0 h;exact⟨rfl,Hu S hr ⟨fn,hf,hb⟩ hp⟩
 ·cases e
end
def Aq (P:Program) (f:FuncId) (nt:Nat) (run:Fr→IH→Out) (c:Code):Prop :=
 (∀fr h e fr' h',run fr h=some (e,fr',h')→h.n≤h'.n) ∧ ∀(b:Frame) (z B:Nat) (w0:World) (cs:List Frame),b.fn=f→xd (E0 P) run b none B w0 z nt cs c
def uq {E:Env} (S:Sound E) (n:Nat) (f:FuncId) (nt:Nat) (c:Code):Aq E.P f nt (evC E (dj E n) f nt none n c) c:=by refine⟨fun fr h e fr' h' hr=>xE (kH S n) _ _ _ _ _ _ hr,fun b z B w0 cs hb=>?_⟩;subst hb;exact zi (E:=E) (tv S n) (kH S n) S.mixed n c
def SX (ra rb:Fr→IH→Out):Fr→IH→Out:=fun fr h=>match ra fr h with
 | some (.normal,fr,h)=>rb fr h
 | o=>o
variable {P:Program}{f:FuncId}
def BV {nt:Nat} {ra rb:Fr→IH→Out} {x y:Code} (hx:Aq P f nt ra x) (hy:Aq P f nt rb y):Aq P f nt (SX ra rb) (.seq x y):=by
 refine⟨fun fr h e fr' h' hr=>?_,fun b z B w0 cs hb=>?_⟩
 ·unfold SX at hr;split at hr
  ·rename_i hx1;exact bA (hx.1 _ _ _ _ _ hx1) (hy.1 _ _ _ _ _ hr)
  ·exact hx.1 _ _ _ _ _ hr
 ·intro fr h e fr' h' hr m w tmps k ds R hf ht hfr hfo hd hz;unfold SX at hr;split at hr
  ·rename_i fr1 h1 hx1;have n1:=hx.1 _ _ _ _ _ hx1;have n2:=hy.1 _ _ _ _ _ hr;obtain⟨m1,w1,eH,ds1,k1,a1,a2,a3,a4,a5,a6,a7⟩:=hx.2 b z B w0 cs hb fr h .normal fr1 h1 hx1 m w tmps (.code y :: k) ds R hf ht (hfr.sub (ar _) n2) hfo hd hz;obtain rfl:k1=_:=a2;refine .first (.head vu a1) (.step a6 ?_);exact hy.2 b z B w0 cs hb fr1 h1 e fr' h' hr m1 w1 eH k ds1 a5 a3 a4 (a6.fresh hfr) (hfo.mono a6.le) a7 (bA hz a6.size)
  ·rename_i hne;cases e with
   | normal=>exact absurd hr (hne _ _)
   | exit i=>exact .first (.one vu) ((hx.2 b z B w0 cs hb fr h _ _ _ hr m w tmps (.code y :: k) ds R hf ht hfr hfo hd hz).out aa (fun i _=>rfl))
   | ret=>exact .first (.one vu) ((hx.2 b z B w0 cs hb fr h _ _ _ hr m w tmps (.code y :: k) ds R hf ht hfr hfo hd hz).out aa (fun i hi=>by cases hi))
def Gg {fn:Func} {c:Code} {run:Fr→IH→Out} (hfn:P.funcs[f]?=some fn) (hc:fn.body=some c) (F:Aq P f fn.ntmps run c) {args:List QQ} {h h1:IH} {e:cL} {fr1:Fr} {vs:List QQ}(RI:args.length≤fn.ntmps) (hx:run (gh 0 args) h=some (e,fr1,h1)) (hne : ∀i,e≠.exit i) (hvs:bY P fr1 h1 fn.results.toList=some vs)
  {B:Nat} {w0:World} {m:Mp} {w:World} {args':Array QQ} (R:Rel B w0 m h w) (jK:cg m args args'.toList) (hfr:iA m h.n h1.n):oq P f args' B w0 m h w (single vs) h1:=by
 have hsz:args'.size=args.length:=by rw[jK.1];simp
 intro cs;let b:Frame:={ fn:=f,tmps:=#[],todo:=[],defers:=[],mode:=.run,kind:=.normal,roundOf:=none };let tmps:Array QQ:=args' ++ Array.replicate (fn.ntmps - args'.size) undef;have hen:Frame.enter P f args' .normal=on b tmps [.code c] []:=by simp[Frame.enter,hfn,hc,on,b,tmps]
 have WW:gA m (gh 0 args) tmps:=by
  intro t u hu;rw[uu] at hu;simp only[dT,bS,Ay] at hu;obtain⟨u',h2,h3⟩:=jK.get hu;have h4:args'[t]?=some u':=by simpa using h2
  refine⟨u',?_,h3⟩;have:=(kZ.1 h4).1;rw[Array.getElem?_append_left this,h4]
 have Zdo:fn.ntmps≤tmps.size:=by simp[tmps];omega
 obtain⟨m1,w1,eH,ds1,k1,a1,a2,a3,a4,a5,a6,a7⟩:=F.2 b w.heap.size B w0 cs rfl _ _ _ _ _ hx m w tmps [] [] R WW Zdo hfr (.inl ⟨rfl,rfl⟩) (oI.nil _ _ _ _) (ar _);obtain⟨rs,d1,d2,d3⟩:=a7;have yz : ∃todo,step P (lone (on b eH k1 ds1) cs w1)=.next (lone { on b eH todo ds1 with mode:=.returning } cs w1):=by
  cases e with
  | normal=>obtain rfl:k1=_:=a2;exact⟨_,stepR_end (b:=b) (a:=⟨eH,ds1⟩) rfl⟩
  | exit i=>exact absurd rfl (hne i)
  | ret=>obtain⟨k2,rfl⟩:=a2;exact⟨_,stepR_ret (b:=b) (a:=⟨eH,ds1⟩) rfl⟩
 obtain⟨todo,yz⟩:=yz;obtain⟨w2,b1,b2,b3,b4⟩:=tP (P:=P) R.size rs { on b eH todo ds1 with mode:=.returning } cs w1 rfl d1 d2 d3 a5;obtain⟨v',r1,r2⟩:=BG b2 a3 hvs;refine⟨.returned v',w2,{ on b eH todo ds1 with mode:=.returning,defers:=[] },⟨v',m1,rfl,r2,b2,?_⟩,?_,?_,?_⟩;·refine⟨a6.le,a6.new,a6.n,a6.base,fun r hr hk=>?_,a6.idle,by rw[b3];exact a6.size,a6.img,a6.rB⟩;rw[b4 r (fun hm=>by have:=(d3 r hm).1;omega)];exact a6.frame r hr hk
 ·exact(by rw[hen];exact a1.trans (.head yz b1):Steps P (lone (Frame.enter P f args' .normal) cs w) _)
 ·rfl
 ·exact⟨rfl,rfl,rfl,fn,hfn,r1⟩
end Go.Id
namespace Go.Id
open Go Go.RowKit
def partAt:Code→Nat→Code
 | .seq a _,0=>a
 | .seq _ b,n+1=>partAt b n
 | c,_=>c
def OF:Code→Nat→Code
 | c,0=>c
 | .seq _ b,n+1=>OF b n
 | c,_=>c
def OR {P:Program} {tb:FuncId→Option (List Value→Option Value)} (S0:Sound (E0 P)) (S1:Sound (E1 P tb)) {f:FuncId} {fn:Func} {a b rest:Code} {rs:List ResultVar} {nt:Nat} (hfn:P.funcs[f]?=some fn) (hc:fn.body=some (.seq a (.seq b rest))) (hrs:fn.results.toList=rs) (hnt:fn.ntmps=nt){args:List Value} {base:Nat→Option (List Value)} {A:Nat→Nat×Nat} (hlen:args.length≤nt) {fra fr1:Fr} {ha h1:IH} {n:Nat}(ea:evC (E1 P tb) (dj (E1 P tb) n) f nt none n a (gh 0 args) (IH.start base)=some (.normal,fra,ha))(eb:evC (E1 P tb) (dj (E1 P tb) n) f nt none n b fra ha=some (.normal,fr1,h1))(w:Do (wpC P f nt none rest fr1 h1) (Tc P rs fun r _=>r=.bool true) nx){W:World} {args':Array Value} (hb:Qc A base W) (jK:cg (Mp.pn A) args args'.toList):Calls P f args' W fun e W'=>e=.returned (.bool true)∧Below W.heap.size W W':=by
 subst hrs hnt;obtain⟨⟨e,fr2,h2⟩,⟨N,hN⟩,hq⟩:=jh w;have hn:=hN N (ar _);have key : ∀(K:Prop),Tc P fn.results.toList (fun r _=>r=.bool true) e fr2 h2→(∀vs,(∀i,e≠.exit i)→bY P fr2 h2 fn.results.toList=some vs→single vs=.bool true→K)→K:=by
  intro K hr k;cases e with
  | exit i=>exact hr.elim
  | normal=>obtain⟨l,h3,h4⟩:=(hr:Ex _ _);exact k l (fun i h=>by cases h) h3 h4
  | ret=>obtain⟨l,h3,h4⟩:=(hr:Ex _ _);exact k l (fun i h=>by cases h) h3 h4
 refine key _ hq fun vs hne hvs hs=>?_;have F:=BV (uq S1 n f fn.ntmps a) (BV (uq S1 n f fn.ntmps b) (uq S0 N f fn.ntmps rest));have hx:SX (evC (E1 P tb) (dj (E1 P tb) n) f fn.ntmps none n a) (SX (evC (E1 P tb) (dj (E1 P tb) n) f fn.ntmps none n b) (evC (E0 P) (dj (E0 P) N) f fn.ntmps none N rest)) (gh 0 args) (IH.start base)=some (e,fr2,h2):=by unfold SX;rw[ea];show(match evC (E1 P tb) (dj (E1 P tb) n) f fn.ntmps none n b fra ha with|some (.normal,fr,h)=>_|o=>o)=_;rw[eb];exact hn
 refine(Gg hfn hc F hlen hx hne hvs (Rel.start hb) jK (fun k _ _=>Mp.y8 A k)).mono fun e w' ⟨v',m',he,hv,R,_⟩=>?_;rw[hs] at hv;rw[he,hv.dN rfl];exact⟨rfl,R.below⟩
end Go.Id
namespace Go.Id
open Go
open Go renaming Operand→QY,Program→QX,TypeId→QZ,Value→QQ
open Nat renaming reduceAdd→zA,reduceEqDiff→zE,reduceLeDiff→zL
open Nat (reduceMul)
set_option maxHeartbeats 16000000
open Go.Proofs.Tryz (prog)
section
variable {h:IH} {fr:Fr} {vN:Value} {lN:List Nat} {sz bx cx s:Nat} {from_ steps:Nat}
end

section
variable {h:IH} {fr:Fr} {m k e3 v18:Value} {X N:Nat}
structure WX (hh:IH) (fr:Fr) (m v12 v18:Value) (ll:List (List (Nat×Nat))) (N kn:Nat) (p t:List Nat):Prop where
 f9:aj fr 9=some m
 f11:aj fr 11=some (KN N)
 f12:aj fr 12=some v12
 f18:aj fr 18=some v18
 f19:aj fr 19=some (KN kn)
 hm:je hh m ll
 sp:cA hh 1 v12 (N+1) ((pI p).map KI)
 st:cA hh 1 v18 (N+1) ((pI t).map KI)
end

def je.lG {h:IH} {v:Value} {ll:List (List (Nat×Nat))} (s:je h v ll) {i:Nat} {x:List (Nat×Nat)} (hx:ll[i]?=some x) :∃w,(∀h',aX h h'→load Proofs.Tryz.prog h' 61 (a9 v i)=some w)∧iS h w x ∧ ∀k:IntKind,indexAddr Proofs.Tryz.prog 38 v (.int k (i:Int))=some (a9 v i):=by obtain⟨vs,a,b,c⟩:=s;obtain⟨w,h1,h2⟩:=c i x hx;have hi:=(bZ.1 hx).1;refine⟨w,fun h' e=>?_,h2,fun k=>by rw[a.idx ZaE hi,dG]⟩;rw[a.ld e (by rw[a.2.1];omega) UN];exact h1
section
variable {h:IH} {fr:Fr} {m v12 v18:Value} {X N kn:Nat} {ll:List (List (Nat×Nat))} {p t:List Nat}
end
structure FJ (hh H:IH) (fr:Fr) (v v7 out v10:Value) (n i d e b11:Nat) (g:Nat→Rat) (cs:List Value):Prop where
 E:Ext hh H
 rb:wB H 4 hh.n v10 n cs
 done : ∀k,k<e→pe ch H cs k (g k)
 b1:hh.n<b11
 b2:b11<H.n
 box : ∃a s b u,H.ext.get b11=some (.cells [a,s,b,u] 0 none)∧ch H (.agg #[a,s,b,u]) (rY g i d)
 f0:aj fr 0=some v
 f7:aj fr 7=some v7
 f8:aj fr 8=some out
 f9:aj fr 9=some (KN i)
 f10:aj fr 10=some v10
 f11:aj fr 11=some (ptr (2*b11) 0)
 f35:aj fr 35=some (KN n)
 f36:aj fr 36=some (KN i)
 f44:aj fr 44=some (KN n)
def Yc (x y:Rat):(if x<y then (-1:Int) else if x=y then 0 else 1)<0↔x<y:=by
 by_cases h:x<y;·rw[ah h];exact⟨fun _=>h,fun _=>byOmega⟩
 ·rw[ad h]
  refine⟨fun k=>?_,fun k=>absurd k h⟩;split at k<;>omega
def FamZ (h:IH) (sz:Nat) (v:QQ):Prop:=∀k n c,v=.slice (some ⟨2*k,0,none⟩) n c → ∀cs f rest,h.ext.get k=some (.cells cs sz (some f))→h.cZ.get f=some (k :: rest) → ∀j∈rest,∃c' f',h.ext.get j=some (.cells c' sz f')
def lk (h:IH) (n0 sz:Nat) (v:QQ) (n:Nat) (cs:List QQ):Prop:=Acc h n0 sz v n cs∧FamZ h sz v
variable {sz:Nat}
def lk.nil (h:IH) (n0:Nat) (hz:0<sz):lk h n0 sz (.slice none 0 0) 0 []:=⟨Acc.nil h n0 hz,fun k n c hv=>by cases hv⟩
variable {m:Nat}{h:IH}{n:Nat}{v:QQ}{n0:Nat}{cs:List QQ}
def NA (a:Acc h n0 sz v n cs) {k c:Nat} (hv:v=.slice (some ⟨2*k,0,none⟩) m c):0<sz∧k<h.n ∧ ∃fam,h.ext.get k=some (.cells cs sz fam)∧YG h n0 k fam:=by
 obtain⟨hz,hl,⟨rfl,rfl⟩|⟨k',fam,rfl,hn,h1,h2,h3,h4⟩⟩:=a;·cases hv
 ·have hkk:k=k':=by injection hv with hv _ _;injection hv with hv;injection hv with hv _ _;omega
  subst hkk;exact⟨hz,h2,fam,h3,h4⟩
def lk.ext {h':IH} (a:lk h n0 sz v n cs) (e:Ext h h'):lk h' n0 sz v n cs:=by refine⟨a.1.ext e,fun k m c hv cs2 f rest hg hf j hj=>?_⟩;obtain⟨hz,hk,fam,g1,g2⟩:=NA a.1 hv;rw[e.get k hk,g1] at hg;cases hg;obtain⟨f1,f2,r,f3,f4⟩:=g2;rw[e.cZ f f2,f3] at hf;cases hf;obtain⟨c',f',h5⟩:=a.2 k m c hv cs f rest g1 f3 j hj;exact⟨c',f',(e.get j (f4 j hj).2).trans h5⟩
variable {i:Nat}
def lk.put (a:lk h n0 sz v n cs) {c:List QQ} {f:Option Nat} (hi:h.ext.get i=some (.cells c 0 f)) (o:cB):lk (h.put i o) n0 sz v n cs:=by
 refine⟨a.1.put hi o,fun k m c2 hv cs2 f2 rest hg hf j hj=>?_⟩;obtain⟨hz,hk,fam,g1,g2⟩:=NA a.1 hv;have hki:k≠i:=by rintro rfl;rw[hi] at g1;cases g1;omega
 rw[ax _ _ hki,g1] at hg;cases hg;obtain⟨c',f',h5⟩:=a.2 k m c2 hv cs f2 rest g1 hf j hj;have hji:j≠i:=by rintro rfl;rw[hi] at h5;cases h5;omega
 exact⟨c',f',by rw[ax _ _ hji];exact h5⟩
variable {h0':IH}{new:List QQ}{t:TypeId}{P:Program}{x:QQ}{bytes:Nat}
def lk.appE (aF:lk h n0 sz v n cs) (hT:mR P t=some (sz,bytes)) (sx:cA h sz x m new) (hm:0<m)(hc:new.all aM=true) (hsz:(n+m)*(bytes+1)≤bh) (h0:n0≤h.n) (e0:Ext h0' h) (hn0:h0'.n≤n0) :∃v' h',append P h t v x=some (v',h')∧lk h' n0 sz v' (n+m) (cs ++ new)∧Grow h h'∧h'.n=h.n+1∧Ext h0' h' ∧ ∀j c e f,j<h.n→e≠sz→h.ext.get j=some (.cells c e f)→h'.ext.get j=some (.cells c e f):=by
 obtain⟨a,aZ⟩:=aF;unfold mR at hT;split at hT
 case h_2=>cases hT
 rename_i e hu;split at hT
 case h_2=>cases hT
 rename_i zs h1 h2 h3;simp only[aK] at hT;split at hT
 case isTrue=>cases hT
 rename_i J3;cases hT;have qE:(sz == 0 || (!(Nat.ble bytes 65536) || !(zs.length == sz)))=false:=by simpa using J3
 have WY:0<sz:=by simp at qE;omega
 obtain⟨_,hln,hx⟩:=sx;have Bb:(m == 0)=false:=bq
 have hx' : ∃b o k row,x=.slice (some ⟨b,o,none⟩) m k∧h.row b=some row∧(row.drop o).take (m*sz)=new∧o+m*sz≤row.length:=by
  rcases hx with⟨rfl,rfl⟩|⟨b,o,k,rfl,⟨rfl,_⟩|⟨_,_,row,_,a1,a2,a3⟩⟩;·omega
  ·omega
  ·exact⟨b,o,k,row,rfl,a1,a2,a3⟩
 obtain⟨b,o,k,row,rfl,a1,a2,a3⟩:=hx';have hms : ¬m*sz=0:=by have:0<m*sz:=kf hm WY;omega
 have nF:cN h sz m (.slice (some ⟨b,o,none⟩) m k)=some new:=by simp only[cN,aK,bI,ar,bS,bD,ad hms];rw[zq a1,ah a3,a2]
 have yB:Nat.ble ((n+m)*(bytes+1)) bh=true:=by rw[bI];exact hsz
 obtain⟨hz,hl,⟨rfl,rfl⟩|⟨kk,fam,rfl,hn,g1,g2,g3,g4⟩⟩:=a
 ·-- from nothing
  have hcs:cs = []:=fC.1 byOmega;subst hcs;refine⟨.slice (some ⟨2*h.n,0,none⟩) m (2*m),h.new (.cells new sz none),?_,⟨⟨hz,by simp;exact hln,.inr ⟨h.n,none,aa,byOmega,h0,aa,by simp[pE],trivial⟩⟩,fun k2 n2 c2 hv2 cs2 f2 Zbs hg2=>by
   have hkk:k2=h.n:=by injection hv2 with hv2 _ _;injection hv2 with hv2;injection hv2 with hv2 _ _;omega
   subst hkk;rw[pE,ah rfl] at hg2;cases hg2⟩,(Grow.refl h).new _,rfl,e0.new _,fun j c e f hj _ hg=>(aE _ _ byOmega).trans hg⟩
  have Xb:Nat.ble (m*(bytes+1)) bh=true:=by simpa using yB
  simp only[Id.append,hu,h1,h2,h3,lenOf,Bb,qE,nF,hc,Xb,bP,dL,lW,BEq.rfl,uY]
 ·have qS:Nat.ble (n+m) (2*n / 2)=false:=by rw[oR];intro hh;rw[bI] at hh;omega
  have qR:(2*n % 2 == 1)=false:=aa;have hlen:(n == 2*n / 2 && Nat.blt 0 n && (2*kk) % 2 == 0)=true:=by have:2*n / 2=n:=byOmega;simp[this,Nat.blt,bI];omega
  have xi:(0+n*sz == cs.length && sz == sz)=true:=by simp[hl]
  have hk2:2*kk / 2=kk:=byOmega;have body : ∀f below,(∀j∈below,n0≤j∧j<h.n)→(∀j∈below,∃c f',h.ext.get j=some (.cells c sz f'))→(n0≤f)→f<h.n+1 →
    lk (grown h kk f cs sz [] below (cs.drop 0 ++ new) sz) n0 sz (.slice (some ⟨2*h.n,0,none⟩) (n+m) (2*(n+m))) (n+m) (cs ++ new) ∧
    Grow h (grown h kk f cs sz [] below (cs.drop 0 ++ new) sz)∧Ext h0' (grown h kk f cs sz [] below (cs.drop 0 ++ new) sz)∧(∀j c e f',j<h.n→e≠sz→h.ext.get j=some (.cells c e f')→(grown h kk f cs sz [] below (cs.drop 0 ++ new) sz).ext.get j=some (.cells c e f')):=by
   intro f below hbl hbz hf1 hf2;have dM : ∀j,(grown h kk f cs sz [] below (cs.drop 0 ++ new) sz).ext.get j=if j=h.n then some (.cells (cs ++ new) sz (some f)) else if j=kk then some (.cells cs sz (some f)) else h.ext.get j:=by intro j;simp[grown,IH.fL,Tr.cE]
   refine⟨⟨⟨hz,by simp[hl,hln,cW],.inr ⟨h.n,some f,rfl,byOmega,h0,by simp[grown],by rw[dM,ah rfl],hf1,by simp[grown];omega,kk :: below,?_,fun j hj=>by rcases dD.1 hj with rfl|hj;exact⟨g1,by simp[grown];omega⟩;exact⟨(hbl j hj).1,by have:=(hbl j hj).2;simp[grown];omega⟩⟩⟩,?_⟩,⟨by simp[grown],rfl,fun j hj=>?_⟩,?_,fun j c e f' hj he hg=>by
    rw[dM,ad byOmega,ad (by rintro rfl;rw[g3] at hg;cases hg;exact he rfl)];exact hg⟩
   ·simp[grown,Tr.cE]
   ·intro k2 n2 c2 hv2 cs2 f2 Zbs hg2 hf2' j hj;have hkk:k2=h.n:=by injection hv2 with hv2 _ _;injection hv2 with hv2;injection hv2 with hv2 _ _;omega
    subst hkk;rw[dM,ah rfl] at hg2;cases hg2;have hfm:(grown h kk f cs sz [] below (cs.drop 0 ++ new) sz).cZ.get f=some (h.n :: kk :: below):=by simp[grown,Tr.cE]
    rw[hfm] at hf2';cases hf2';rw[dM];rcases dD.1 hj with rfl|hj
    ·rw[ad byOmega,ah rfl];exact⟨_,_,rfl⟩
    ·obtain⟨c',f',hc'⟩:=hbz j hj;have:=(hbl j hj).2;rw[ad byOmega];by_cases hjk:j=kk
     ·rw[ah hjk];exact⟨_,_,rfl⟩
     ·rw[ad hjk];exact⟨c',f',hc'⟩
   ·rw[dM,ad byOmega];by_cases hjk:j=kk
    ·subst hjk;exact .inr ⟨cs,sz,fam,some f,byOmega,g3,by rw[ah rfl]⟩
    ·rw[ad hjk];exact .inl rfl
   ·refine⟨by have:=e0.n;simp[grown];omega,e0.base,fun j hj=>?_,fun g hg=>?_⟩
    ·rw[dM,ad byOmega,ad byOmega];exact e0.get j hj
    ·simp only[grown,Tr.cE];rw[ad byOmega];exact e0.cZ g hg
  cases fam with
  | none =>
   obtain⟨b1,b2,b3,b4⟩:=body h.n [] (fun _ h=>by cases h) (fun _ h=>by cases h) h0 byOmega;refine⟨_,_,?_,b1,b2,rfl,b3,b4⟩;simp only[Id.append,hu,h1,h2,h3,lenOf,Bb,qE,nF,hc,yB,qS,qR,hlen,hk2,g3,xi,bP,dL,lW]
  | some f =>
   obtain⟨f1,f2,rest,f3,f4⟩:=g4;obtain⟨b1,b2,b3,b4⟩:=body f rest f4 (aZ kk n _ rfl cs f rest g3 f3) f1 byOmega;refine⟨_,_,?_,b1,b2,rfl,b3,b4⟩;have t1:(kk :: rest).takeWhile (· != kk) = []:=aa;have t2:((kk :: rest).dropWhile (· != kk)).drop 1=rest:=aa;simp only[Id.append,hu,h1,h2,h3,lenOf,Bb,qE,nF,hc,yB,qS,qR,hlen,hk2,g3,xi,f3,t1,t2,bP,dL,lW]
def lk.app (a:lk h n0 sz v n cs) (hT:mR P t=some (sz,bytes)) (sx:cA h sz x m new) (hm:0<m)(hc:new.all aM=true) (hsz:(n+m)*(bytes+1)≤bh) (h0:n0≤h.n) (e0:Ext h0' h) (hn0:h0'.n≤n0) :∃v' h',append P h t v x=some (v',h')∧lk h' n0 sz v' (n+m) (cs ++ new)∧Grow h h'∧h'.n=h.n+1∧Ext h0' h':=by obtain⟨v',h',a1,a2,a3,a4,a5,_⟩:=a.appE hT sx hm hc hsz h0 e0 hn0;exact⟨v',h',a1,a2,a3,a4,a5⟩
def lk.Zcc (a:lk h n0 sz v n cs) (hT:mR P t=some (sz,bytes)) (hm:0<m) (hl:new.length=m*sz)(hc:new.all aM=true) (hsz:(n+m)*(bytes+1)≤1099511627776) (h0:n0≤h.n) (e0:Ext h0' h) (hn0:h0'.n≤n0) :∃v' h',append P (h.new (.cells new sz none)) t v (.slice (some ⟨2*h.n,0,none⟩) m (2*m+1))=some (v',h')∧lk h' n0 sz v' (n+m) (cs ++ new)∧Grow h h'∧Ext h0' h' ∧ ∀j c e f,j<h.n→e≠sz→h.ext.get j=some (.cells c e f)→h'.ext.get j=some (.cells c e f):=by have e1:Ext h (h.new (.cells new sz none)):=(Ext.refl h).new _;obtain⟨v',h',b1,b2,b3,b4,b5,b6⟩:=(a.ext e1).appE hT (qM h a.1.1 hl hm) hm hc hsz bq (e0.trans e1) hn0;exact⟨v',h',b1,b2,e1.grow.trans b3,b5,fun j c e f hj he hg=>b6 j c e f bq he ((aE _ _ byOmega).trans hg)⟩
def lk.uR (a:lk h n0 sz v n cs) (hT:mR P t=some (sz,bytes)) (hm:0<m) (hl:new.length=m*sz)(hc:new.all aM=true) (hsz:(n+m)*(bytes+1)≤1099511627776) (h0:n0≤h.n) (e0:Ext h0' h) (hn0:h0'.n≤n0) :∃v' h',append P (h.new (.cells new sz none)) t v (.slice (some ⟨2*h.n,0,none⟩) m (2*m+1))=some (v',h')∧lk h' n0 sz v' (n+m) (cs ++ new)∧Grow h h'∧Ext h0' h':=by have e1:Ext h (h.new (.cells new sz none)):=(Ext.refl h).new _;obtain⟨v',h',b1,b2,b3,b4,b5⟩:=(a.ext e1).app hT (qM h a.1.1 hl hm) hm hc hsz bq (e0.trans e1) hn0;exact⟨v',h',b1,b2,e1.grow.trans b3,b5⟩
def lk.Zw (a:lk h n0 sz v n cs) (hT:ba P t=some sz) (hi:i<n) {xs:List QQ} (hx:x.cells.toList=xs) (hxl:xs.length=sz) (hc:xs.all aM=true) (e0:Ext h0' h) (hn0:h0'.n≤n0) :∃h',store P h t (a9 v (i*sz)) x=some h'∧lk h' n0 sz v n (IH.aI cs (i*sz) xs)∧Ext h0' h'∧h'.n=h.n∧h'.base=h.base ∧ ∀j c e f,e≠sz→h.ext.get j=some (.cells c e f)→h'.ext.get j=some (.cells c e f):=by
 obtain⟨⟨hz,hl,⟨rfl,rfl⟩|⟨k,fam,rfl,hn,h1,h2,h3,h4⟩⟩,aZ⟩:=a;·omega
 ·have hle:i*sz+sz≤cs.length:=by rw[hl,←uU];exact cT _ hi
  have hsl:(IH.aI cs (i*sz) xs).length=n*sz:=by simp only[IH.aI,du,iT,oN];omega
  have k2:2*k / 2=k:=byOmega;have k1:(2*k % 2 == 1)=false:=aa;have hsx:x.cells.size=sz:=by rw[←ku,hx,hxl]
  have hst:store P h t (a9 (.slice (some ⟨2*k,0,none⟩) n (2*n)) (i*sz)) x=h.wr (2*k) (i*sz) xs:=by simp only[a9,eu,store,asAddr,ptr,hT,hx,hsx,hc,tB,uY,bP]
  have hle:Nat.ble (i*sz+xs.length) cs.length=true:=by rw[bI,hxl];exact hle
  have ZbC : ∀H:IH,H.ext.get k=some (.cells (IH.aI cs (i*sz) xs) sz none)→FamZ H sz (.slice (some ⟨2*k,0,none⟩) n (2*n)):=fun H hH k' n' c' hv cs2 f rest hg=>by
   have hkk:k'=k:=by injection hv with hv _ _;injection hv with hv;injection hv with hv _ _;omega
   subst hkk;rw[hH] at hg;cases hg
  rw[hst];cases fam with
  | none =>
   refine⟨h.put k (.cells (IH.aI cs (i*sz) xs) sz none),?_,⟨⟨hz,hsl,.inr ⟨k,none,rfl,hn,h1,h2,ak _ _ rfl,trivial⟩⟩,ZbC _ (ak _ _ rfl)⟩,e0.put byOmega _,rfl,rfl,fun j c e f he hg=>?_⟩;·simp only[IH.wr,k1,k2,h3,hle,bP,dL];rfl
   ·rw[ax]
    ·exact hg
    ·rintro rfl;rw[h3] at hg;cases hg;exact he rfl
  | some f =>
   obtain⟨a1,a2,rest,a3,a4⟩:=h4;have hgk:((IH.fL h.ext (((k :: rest).filter (· != k)))).set k (.cells (IH.aI cs (i*sz) xs) sz none)).get k=some (.cells (IH.aI cs (i*sz) xs) sz none):=by simp[Tr.cE]
   refine⟨{ h with ext:=(IH.fL h.ext (((k :: rest).filter (· != k)))).set k (.cells (IH.aI cs (i*sz) xs) sz none) },?_,⟨⟨hz,hsl,.inr ⟨k,none,rfl,hn,h1,h2,hgk,trivial⟩⟩,ZbC _ hgk⟩,⟨e0.n,e0.base,fun j hj=>?_,e0.cZ⟩,rfl,rfl,fun j c e f2 he hg=>?_⟩;·simp only[IH.wr,k1,k2,h3,hle,bP,dL,a3]
   ·have hjk:j≠k:=byOmega;rw[Tr.cE,ad hjk,mo,ad]
    ·exact e0.get j hj
    ·intro hm;simp only[tI,dD,pM,ne_eq] at hm;rcases hm with⟨rfl|hm,hne⟩
     ·exact hne rfl
     ·have:=a4 j hm;omega
   ·have hjk:j≠k:=by rintro rfl;rw[h3] at hg;cases hg;exact he rfl
    rw[Tr.cE,ad hjk,mo,ad];·exact hg
    ·intro hm;simp only[tI,dD,pM,ne_eq] at hm;rcases hm with⟨rfl|hm,hne⟩
     ·exact hne rfl
     ·obtain⟨c',f',h5⟩:=aZ k n _ rfl cs f rest h3 a3 j hm;rw[h5] at hg;cases hg;exact he rfl
def oW:Kept fX:=fun _ _ _ _ r e=>r.ae e
def VW {h:IH} (a b:Nat) (ha:a<W8) (hb:b<W8):WV prog (.func (.func 149) #[] #[]) [wdV a,wdV b] h fun r h'=>Ext h h'∧r=KI (if wdI a<wdI b then -1 else if wdI b<wdI a then 1 else 0):=by obtain⟨H0,hH0,n0,E0,k0,k1⟩:=gN h (wdC a) (wdC b);refine enter (nt:=10) (rs:=[.tmp 4]) Proofs.Tryz.func149 rfl rfl rfl aa ?_;simp -dsimp (disch:=omega) only[wpS,zE,zA,eG];rw[←hH0];clear hH0;have X0:=Ext.refl H0;have L1:=Ru k0;have L2:=Ru k1;refine drawn [(2,[1])] ab ab rfl ?_;simp -dsimp (disch:=omega) only[wpS,zE,L1];refine call (vX a ha) ?_;rintro r1 h1 ⟨X1,p1⟩;have L2':=JR L2 byOmega X1;simp -dsimp (disch:=omega) only[wpS,zE,L2'];refine call (vX b hb) ?_;rintro r2 h2 ⟨X2,p2⟩;simp -dsimp (disch:=omega) only[wpS,zE];refine call (Hi (p1.ae X2.ae) p2 (La ha).small (La hb).small) ?_;rintro _ h3 ⟨X3,rfl⟩;simp -dsimp (disch:=omega) only[wpS,zE];refine⟨ai rfl rfl rfl rfl (au rfl L2' L2),?_⟩;simp -dsimp (disch:=omega) only[wpS,wpT,zE,zA];exact((E0.trans X1).trans X2).trans X3
open Classical in
def Hn {h:IH} {v:QQ} {l:List Nat} {least:Int} (hv:mS h v l) (hl:gV least) :WV prog (.func (.func 161) #[] #[]) [v,KI least] h fun r h'=>Ext h h'∧r=.bool (decide (∃p∈l,wdI p<least)):=by
 have hlb:=hv.2.1;have len:=hv.1.len (P:=prog) AM;refine enter (nt:=20) (rs:=[.tmp 4]) Proofs.Tryz.func161 rfl rfl rfl aa ?_;simp -dsimp (disch:=omega) only[wpS,zA];refine loop (fun m fr h1 => ∃i:Nat,i+m=l.length∧Ext h h1∧(∀(j:Nat) p,j<i→l[j]?=some p → ¬wdI p<least)∧aj fr 0=some v∧aj fr 1=some (KI least)∧aj fr 5=some (KN i)) l.length ⟨0,byOmega,Ext.refl _,fun j p hj=>byOmega,aa⟩ ?_;rintro m fr h1 ⟨i,him,hE,hno,f0,f1,f5⟩;simp -dsimp (disch:=omega) only[wpS,zE,f0,f5,len];refine az ?_ ?_<;>intro hc<;>simp only[aJ,aV] at hc
 ·have hi:i<l.length:=byOmega;obtain⟨p,hp⟩:=fJ (l:=l) (i:=i) hi;have hpm:=bN hp;have wp:=hv.2.2 p hpm;have ld:=fun h' (K:aX h h')=>hv.ld K hp;simp -dsimp (disch:=omega) only[wpS,wpT];refine drawn [(3,[6])] ab ab rfl ?_;simp -dsimp (disch:=omega) only[wpS,zE,f0,f1,f5,hv.1.idx Kk hi,ld h1 hE.ae];refine call (hP least hl) ?_;rintro _ h2 ⟨X2,rfl⟩;simp -dsimp (disch:=omega) only[wpS,zE];refine call (VW p (bJ least) wp (gZ (mW hl))) ?_;rintro _ h3 ⟨X3,rfl⟩;rw[dQ (mW hl)];have E3:=hE.trans (X2.trans X3);by_cases c:wdI p<least
  ·rw[ah c,bf (⟨p,hpm,c⟩ : ∃p∈l,wdI p<least)];simp -dsimp (disch:=omega) only[wpS,wpT,zE];refine⟨ai rfl rfl rfl rfl (au rfl (ld h1 hE.ae) (ld _ (hE.trans X2).ae)),?_⟩;simp -dsimp (disch:=omega) only[wpS,wpT,zE,zA];exact E3
  ·obtain⟨z,hz,hz0⟩ : ∃z:Int,(if wdI p<least then (-1:Int) else if least<wdI p then 1 else 0)=z∧0≤z:=⟨_,rfl,by rw[ad c];split<;>omega⟩;rw[hz];simp -dsimp (disch:=omega) only[wpS,wpT,zE];refine⟨ai rfl rfl rfl rfl (au rfl (ld h1 hE.ae) (ld _ (hE.trans X2).ae)),?_⟩;simp -dsimp (disch:=omega) only[wpS,wpT,zE,zA,f5];refine⟨m - 1,byOmega,i+1,byOmega,E3,?_,by simp[f0,f1]⟩;intro j q hj hq;by_cases hji:j=i
   ·subst hji;rw[hp] at hq;cases hq;exact c
   ·exact hno j q byOmega hq
 ·have sY : ¬∃p∈l,wdI p<least:=fun⟨p,hp,hb⟩=>by obtain⟨j,hj⟩:=lV hp;have:=(bZ.1 hj).1;exact hno j p byOmega hj hb
  rw[aY sY];simp -dsimp (disch:=omega) only[wpS,wpT];exact hE
def Ey {h:IH} {v:QQ} {l:List Nat} (hv:mS h v l) (hl:l.length≤1000):WV prog (.func (.func 162) #[] #[]) [v] h fun r h'=>Ext h h'∧sm fX h' r (l.map dh):=by
 have len:=hv.1.len (P:=prog) AM;refine enter (nt:=22) (rs:=[.tmp 2]) Proofs.Tryz.func162 rfl rfl rfl aa ?_;simp -dsimp (disch:=omega) only[wpS];refine loop (fun m fr h1 => ∃(i:Nat) (out:QQ) (cs:List QQ),i+m=l.length∧Ext h h1∧Acc h1 h.n 4 out ((l.take i).map dh).length cs∧nN fX h1 ((l.take i).map dh) cs∧aj fr 0=some v∧aj fr 3=some out∧aj fr 4=some (KN i)) l.length ⟨0,.slice none 0 0,[],byOmega,Ext.refl _,Acc.nil h _ byOmega,by simp[nN]⟩ ?_;rintro m fr h1 ⟨i,out,cs,him,hE,hA,hC,f0,f3,f4⟩;simp -dsimp (disch:=omega) only[wpS,zE,f0,f4,len];refine az ?_ ?_<;>intro hc<;>simp only[aJ,aV] at hc
 ·have hi:i<l.length:=byOmega;obtain⟨p,hp⟩:=fJ (l:=l) (i:=i) hi;have wp:=hv.2.2 p (bN hp);simp -dsimp (disch:=omega) only[wpS,wpT,zE,f0,f3,f4,hv.1.idx Kk hi,hv.ld hE.ae hp];refine call (vX p wp) ?_;rintro r1 h2 ⟨X2,p2⟩;simp -dsimp (disch:=omega) only[wpS];refine call (qA 1 ⟨byOmega,byOmega⟩) ?_;rintro r3 h3 ⟨X3,p3⟩;have p2:=p2.ae X3.ae;obtain⟨s1,rfl,c1,o1⟩:=p2.dJ;obtain⟨s3,rfl,c3,o3⟩:=p3.dJ;have pr:fX h3 (.agg #[.bool (decide (wdI p<0)),s1,.bool false,s3]) (dh p):=⟨_,_,_,_,rfl,p2,p3⟩;have X13:=X2.trans X3;have n1:=hE.n;have n2:=X13.n;obtain⟨fF,h5,hap,hA5,hC5,hG5,hE5⟩:=VT Zcd byOmega oW (hA.ext X13) (hC.ae oW X13.ae) pr (by simp[o1,o3,Nm]) bq byOmega (hE.trans X13) (ar _);have eT:(l.take i).map dh ++ [dh p]=(l.take (i+1)).map dh:=by rw[fE hp,kX];rfl
  rw[eT] at hA5 hC5;simp -dsimp (disch:=omega) only[wpS,wpT,zE,zL,zA,Sc,Cv,Cu,Zb5,Ii,f4,hap];exact⟨m - 1,byOmega,i+1,fF,_,byOmega,hE5,hA5,hC5,by simp[f0]⟩
 ·obtain rfl:i=l.length:=byOmega;rw[tH] at hA hC;simp -dsimp (disch:=omega) only[wpS,wpT,zE,f3];exact⟨hE,cs,hA.sl,hC,bq⟩
open Classical in
def Ta {h:IH} {v:QQ} {l:List Rat} (hv:sm fX h v l) (hl:l.length≤1000) :WV prog (.func (.func 170) #[] #[]) [v] h fun r h'=>Ext h h'∧((∀q∈l,QW q) → ∃w,r=.tuple #[w,KI 0]∧iS h' w (l.map shq))∧(¬(∀q∈l,QW q)→r=.tuple #[.slice none 0 0,KI 6]):=by
 obtain⟨cs0,hs0,_,_⟩:=id hv;have len:=hs0.len (P:=prog) Zbn;refine enter (nt:=30) (rs:=[.tmp 2,.tmp 3]) Proofs.Tryz.func170 rfl rfl rfl aa ?_;simp -dsimp (disch:=omega) only[wpS];refine loop (fun m fr h1 => ∃(i:Nat) (out:QQ),i+m=l.length∧Ext h h1∧Acc h1 h.n 16 out i (shL ((l.take i).map shq))∧(∀(j:Nat) q,j<i→l[j]?=some q→QW q)∧aj fr 0=some v∧aj fr 4=some out∧aj fr 5=some (KN i)) l.length ⟨0,.slice none 0 0,byOmega,Ext.refl _,Acc.nil h _ byOmega,fun j q hj=>byOmega,aa⟩ ?_;rintro m fr h1 ⟨i,out,him,hE,hA,hW,f0,f4,f5⟩;simp -dsimp (disch:=omega) only[wpS,zE,f0,f5,len];refine az ?_ ?_<;>intro hc<;>simp only[aJ,aV] at hc
 ·have hi:i<l.length:=byOmega;obtain⟨q,hq⟩:=fJ (l:=l) (i:=i) hi;obtain⟨a,s,b,u,ld,pq⟩:=hv.ld oW hE.ae hq FI yZ;simp -dsimp (disch:=omega) only[wpS,wpT,zE,f0,f5,hs0.idx HF hi,ld];refine call (wP pq) ?_;rintro _ h2 ⟨X2,rfl⟩;have n1:=hE.n;have n2:=X2.n;by_cases c:QW q
  ·rw[ah c,iW]
   simp -dsimp (disch:=omega) only[wpS,wpT,zE,zL,zA,lX,iJ,aU,aC,bH,cD];obtain⟨H3,hH3⟩:=bm ((h2.new (.cells Z16 0 none)).put h2.n (.cells (shC (shq q).1 (shq q).2) 0 none));have E3:Ext h2 H3:=by rw[hH3];exact((Ext.refl h2).new _).put (ar _) _
   have n3:=E3.n;have g3:H3.ext.get h2.n=some (.cells (shC (shq q).1 (shq q).2) 0 none):=by rw[hH3];simp (disch:=omega) only[ak]
   rw[←hH3];clear hH3;have E23:=X2.trans E3;obtain⟨fF,h5,hap,hA5,hG5,hE5⟩:=(hA.ext E23).uR (P:=prog) (t:=61) Gr (m:=1) (new:=shC (shq q).1 (shq q).2) byOmega (by rw[aC]) (bH _ _) byOmega byOmega (hE.trans E23) (ar _);have eT:shL ((l.take i).map shq) ++ shC (shq q).1 (shq q).2=shL ((l.take (i+1)).map shq):=by rw[fE hq,kX,kW,tK,shL,shL,List.flatMap_append];simp
   rw[eT] at hA5;simp -dsimp (disch:=omega) only[wpS,wpT,zE,zL,zA,dX,Cl,oi,f4,f5,aw g3,aC,cD,bF,hap];refine⟨m - 1,byOmega,i+1,fF,byOmega,hE5,hA5,fun j p hj hp=>?_,by simp[f0]⟩;by_cases hji:j=i;·subst hji;rw[hq] at hp;cases hp;exact c
   ·exact hW j p byOmega hp
  ·rw[ad c];simp -dsimp (disch:=omega) only[wpS,wpT,zE,zL,zA,lX,iJ,aU,aC,bH,cD];exact⟨(hE.trans X2).trans (((Ext.refl h2).new _).put (ar _) _),fun iv=>absurd (iv q (bN hq)) c,fun _=>trivial⟩
 ·obtain rfl:i=l.length:=byOmega;rw[tH] at hA;have iv : ∀q∈l,QW q:=fun q hq=>by obtain⟨j,hj⟩:=lV hq;exact hW j q (bZ.1 hj).1 hj
  simp -dsimp (disch:=omega) only[wpS,wpT,zE,f4];refine⟨hE,fun _=>⟨out,rfl,?_⟩,fun hn=>absurd iv hn⟩;refine⟨by rw[cd];exact hA.sl,by rw[cd];omega,fun p hp=>?_⟩;obtain⟨q,hq,rfl⟩:=ju.1 hp;exact rT (iv q hq)
end Go.Id

/-
  The statement OutlierWays, on the ideal machine: all states, the last loop, the law.
-/
import Derived.Test.YtnnmjocmapilaaaGreatTemperRoundsAt
set_option linter.unusedVariables false
set_option linter.unusedSimpArgs false
set_option linter.defProp false
set_option linter.deprecated false
namespace Go.Id
open Go
open Go renaming Operand→QY,Program→QX,TypeId→QZ,Value→QQ
open Nat renaming reduceAdd→zA,reduceEqDiff→zE,reduceLeDiff→zL
open Nat (reduceMul)
set_option maxHeartbeats 16000000
open Go.Proofs.Tryz (prog)
section
def iN.mG {h:IH} {v:Value} {ll:List (List (Nat×Nat))} (s:iN h v ll) {i:Nat} {x:List (Nat×Nat)} (hx:ll[i]?=some x) :∃w,(∀h',bj h h'→load Proofs.Tryz.prog h' 61 (bq v i)=some w)∧kU h w x ∧ ∀k:IntKind,indexAddr Proofs.Tryz.prog 38 v (.int k (i:Int))=some (bq v i):=by obtain⟨vs,a,b,c⟩:=s;obtain⟨w,h1,h2⟩:=c i x hx;have hi:=(bU.1 hx).1;refine⟨w,fun h' e=>?_,h2,fun k=>by rw[a.idx UX hi,fI]⟩;rw[a.ld e (by rw[a.2.1];omega) Tk];exact h1
section
variable {h:IH} {fr:Fr} {m v12 v18:Value} {X N kn:Nat} {ll:List (List (Nat×Nat))} {p t:List Nat}
end
end
section
structure FJ (hh H:IH) (fr:Fr) (v v7 out v10:QQ) (n i d e b11:Nat) (g:Nat→Rat) (cs:List QQ):Prop where
 E:Ext hh H
 rb:xZ H 4 hh.n v10 n cs
 done : ∀k,k<e→nB jr H cs k (g k)
 b1:hh.n<b11
 b2:b11<H.n
 box : ∃a s b u,H.ext.get b11=some (.cells [a,s,b,u] 0 none)∧jr H (.agg #[a,s,b,u]) (kZ g i d)
 f0:ax fr 0=some v
 f7:ax fr 7=some v7
 f8:ax fr 8=some out
 f9:ax fr 9=some (KN i)
 f10:ax fr 10=some v10
 f11:ax fr 11=some (ptr (2*b11) 0)
 f35:ax fr 35=some (KN n)
 f36:ax fr 36=some (KN i)
 f44:ax fr 44=some (KN n)
def FJ.fr {hh H:IH} {fr gr:Fr} {v v7 out v10:QQ} {n i d e b11:Nat} {g:Nat→Rat} {cs:List QQ} (s:FJ hh H fr v v7 out v10 n i d e b11 g cs) (f0:ax gr 0=some v) (f7:ax gr 7=some v7) (f8:ax gr 8=some out) (f9:ax gr 9=some (KN i)) (f10:ax gr 10=some v10) (f11:ax gr 11=some (ptr (2*b11) 0)) (f35:ax gr 35=some (KN n)) (f36:ax gr 36=some (KN i)) (f44:ax gr 44=some (KN n)):FJ hh H gr v v7 out v10 n i d e b11 g cs :=
 ⟨s.E,s.rb,s.done,s.b1,s.b2,s.box,f0,f7,f8,f9,f10,f11,f35,f36,f44⟩
variable {d n:Nat}{hh H:IH}{b11:Nat}{cs:List QQ}{v7:QQ}{e:Nat}{g:Nat→Rat}{v:QQ}{i:Nat}{fr:Fr}{v10 out:QQ}
def FJ.ext {H':IH} (s:FJ hh H fr v v7 out v10 n i d e b11 g cs) (X:Ext H H'):FJ hh H' fr v v7 out v10 n i d e b11 g cs:=by obtain⟨a,s',b,u,h1,h2⟩:=s.box;exact⟨s.E.trans X,s.rb.ext X,fun k hk=>(s.done k hk).mono fun v p=>p.ai X.ai,s.b1,cB s.b2 X.n,⟨a,s',b,u,X.kept s.b2 h1,h2.ai X.ai⟩,s.f0,s.f7,s.f8,s.f9,s.f10,s.f11,s.f35,s.f36,s.f44⟩
def FJ.set (s:FJ hh H fr v v7 out v10 n i d e b11 g cs) {j:Nat} (hj:j<n) (hje:e≤j) {x1 x2 x3 x4:QQ} (hc:([x1,x2,x3,x4]:List QQ).all bB=true) :∃H',store prog H 137 (bq v10 (j*4)) (.agg #[x1,x2,x3,x4])=some H'∧FJ hh H' fr v v7 out v10 n i d e b11 g (IH.bf cs (j*4) [x1,x2,x3,x4])∧pg 1 H H'∧H'.n=H.n∧(∀k,k≠hh.n→H'.ext.get k=H.ext.get k):=by obtain⟨h1,h2⟩:=s.rb.set (P:=prog) (t:=137) AF hj (x:=.agg #[x1,x2,x3,x4]) (xs:=[x1,x2,x3,x4]) rfl rfl hc;have kz:pg 1 H (H.put hh.n (.cells (IH.bf cs (j*4) [x1,x2,x3,x4]) 4 none)):=(pg.refl 1 H).put s.rb.got aC _;have hl:=s.rb.len;obtain⟨a,s',b,u,g1,g2⟩:=s.box;have hb:=s.b1;refine⟨_,h1,⟨s.E.put (aA _) _,h2,fun k hk=>((s.done k hk).mono fun v p=>p.mC kz).other aa aa,s.b1,s.b2,⟨a,s',b,u,by rw[au _ _ aa];exact g1,g2.mC kz⟩,s.f0,s.f7,s.f8,s.f9,s.f10,s.f11,s.f35,s.f36,s.f44⟩,kz,rfl,fun k hk=>au _ _ hk⟩
variable {d':Nat}
theorem FJ.off (s:FJ hh H fr v v7 out v10 n i d e b11 g cs) {z1 z2 z3 z4:QQ} (p:jr H (.agg #[z1,z2,z3,z4]) (kZ g i d')):FJ hh (H.put b11 (.cells [z1,z2,z3,z4] 0 none)) fr v v7 out v10 n i d' e b11 g cs:=by obtain⟨a,s',b,u,h1,h2⟩:=s.box;have K:=(bj.refl H).put h1 (.cells [z1,z2,z3,z4] 0 none);have hb:=s.b1;exact⟨s.E.put aa _,s.rb.put h1 _,fun k hk=>(s.done k hk).mono fun v p=>p.ai K,s.b1,s.b2,⟨_,_,_,_,aj _ _ rfl,p.ai K⟩,s.f0,s.f7,s.f8,s.f9,s.f10,s.f11,s.f35,s.f36,s.f44⟩
def FJ.same (s:FJ hh H fr v v7 out v10 n i d e b11 g cs) (h:kZ g i d'=kZ g i d):FJ hh H fr v v7 out v10 n i d' e b11 g cs:=by obtain⟨a,s',b,u,h1,h2⟩:=s.box;exact⟨s.E,s.rb,s.done,s.b1,s.b2,⟨a,s',b,u,h1,by rw[h];exact h2⟩,s.f0,s.f7,s.f8,s.f9,s.f10,s.f11,s.f35,s.f36,s.f44⟩
def FJ.more {e':Nat} (s:FJ hh H fr v v7 out v10 n i d e b11 g cs) (h : ∀k,k<e'→nB jr H cs k (g k)):FJ hh H fr v v7 out v10 n i d e' b11 g cs :=
 ⟨s.E,s.rb,h,s.b1,s.b2,s.box,s.f0,s.f7,s.f8,s.f9,s.f10,s.f11,s.f35,s.f36,s.f44⟩
def JQ (x y:Rat):(if x<y then (-1:Int) else if x=y then 0 else 1)<0↔x<y:=by
 by_cases h:x<y;·rw[aq h];exact⟨fun _=>h,fun _=>aa⟩
 ·rw[ah h]
  refine⟨fun k=>?_,fun k=>absurd k h⟩;split at k<;>omega
def LG {h:IH} {v w:QQ} {ll:List (List (Nat×Nat))} {t:List Nat} (hv:iN h v ll) (hw:iQ h w t) :WV prog (.func (.func 109) #[] #[]) [v,w] h fun r h'=>Ext h h' ∧ ∃out,r=.tuple #[out,KI (jo ll t)]∧(jo ll t=0→iN h' out (oY ll t))∧(jo ll t≠0→out=.slice none 0 0):=by
 obtain⟨_,_,hlen⟩:=hv.co;have hlw:=hw.1.len (P:=prog) rJ;have htb:=hw.2.1;refine enter (nt:=115) (rs:=[.tmp 4,.tmp 5]) Proofs.Tryz.func109 rfl rfl rfl ab ?_;simp -dsimp (disch:=try exact dx) only[wpS,zE,zA];refine call (Ad hv) ?_;rintro _ h1 ⟨X1,rfl⟩;by_cases hk:jH ll
 case neg =>
  have e:jo ll t=330:=by rw[jo,aq hk]
  rw[e,LH,ah hk];simp -dsimp (disch:=try exact dx) only[wpS,wpT,zE];exact⟨X1,_,rfl,fun h=>absurd h aC,fun _=>rfl⟩
 rw[LH,aq hk];have hk1:=hk.1;have hk2:=hk.2.1;obtain⟨n,hn⟩ : ∃n,n=ll.length:=⟨_,rfl⟩;rw[←hn] at hk1 hk2 hlen;by_cases ht:t.length=n
 case neg =>
  have e:jo ll t=2:=by rw[jo,ah (fun h=>h hk),aq (.inl aa)]
  have d:(((t.length:Nat):Int) != ((n:Nat):Int))=true:=by simpa using fun h=>ht aa
  rw[e];simp -dsimp (disch:=try exact dx) only[wpS,wpT,zE,hlen,hlw,d];exact⟨X1,_,rfl,fun h=>absurd h aC,fun _=>rfl⟩
 have d:(((t.length:Nat):Int) != ((n:Nat):Int))=false:=by simp[ht]
 simp -dsimp (disch:=try exact dx) only[wpS,wpT,zE,hlen,hlw,d];refine call (Hh (least:=1) (hw.ai X1.ai) ⟨aa,aa⟩) ?_;rintro _ h2 ⟨X2,rfl⟩;by_cases wc : ∃p∈t,wdI p<1
 case pos =>
  have e:jo ll t=2:=by rw[jo,ah (fun h=>h hk),aq (.inr wc)]
  rw[ct wc,e];simp -dsimp (disch:=try exact dx) only[wpS,zE];exact⟨X1.trans X2,_,rfl,fun h=>absurd h aC,fun _=>rfl⟩
 rw[bF wc];have e:jo ll t=(open Classical in if xS ll t then 0 else 6):=by rw[jo,ah (fun h=>h hk),ah (fun h=>h.elim (fun h=>h aa) wc)]
 simp -dsimp (disch:=try exact dx) only[wpS,zE];refine call (RA (hw.ai (X1.trans X2).ai) aa) ?_;rintro v7 h3 ⟨X3,sv7⟩;have X03:=(X1.trans X2).trans X3;have pt : ∀j,j<n→t.getD j 0<W8∧1≤wdI (t.getD j 0)∧(t.map kI)[j]?=some (kI (t.getD j 0)):=fun j hj=>by
  have hjt:j<t.length:=aa;have hm:t.getD j 0∈t:=by rw[bH,aK hjt];exact mO hjt
  refine⟨hw.2.2 _ hm,di fun hc=>wc ⟨_,hm,aa⟩,?_⟩;rw[dM,bH,aK hjt];rfl
 have hv3:=hv.ai X03.ai;simp -dsimp (disch:=try exact dx) only[wpS,zE,hlen];refine loop (fun m fr hh => ∃(i:Nat) (out:QQ) (vs:List QQ),i+m=n∧vs.length=i∧Ext h3 hh∧Acc hh h3.n 1 out i vs∧(∀k,k<i → ∃w,vs[k]?=some w∧kU hh w ((fx ll t k).map shq))∧(∀k,k<i → ∀q∈fx ll t k,QW q)∧ax fr 0=some v∧ax fr 7=some v7∧ax fr 8=some out∧ax fr 35=some (KN n)∧ax fr 36=some (KN i)) n ⟨0,.slice none 0 0,[],aa,rfl,Ext.refl _,Acc.nil _ _ aa,fun k hk=>aa,fun k hk=>aa,ab,ab,ab,ab,ab⟩ ?_;rintro m fr hh ⟨i,out,vs,him,hvl,hE,hA,hR,hQ,f0,f7,f8,f35,f36⟩;have nE:=hE.n;simp -dsimp (disch:=try exact dx) only[wpS,f35,f36];refine aG ?_ ?_<;>intro hc<;>simp only[aS,aV] at hc
 ·have hi:i<n:=aa;simp -dsimp (disch:=try exact dx) only[wpS,wpT,zE,YH,f0,f36,hlen];obtain⟨v10,W5⟩ : ∃x,x=QQ.slice (some ⟨2*hh.n,0,none⟩) n (2*n+1):=⟨_,rfl⟩;obtain⟨H1,hH1⟩ : ∃H,H=hh.new (.cells (de n ZR) 4 none):=⟨_,rfl⟩;have E1:Ext hh H1:=by rw[hH1];exact(Ext.refl hh).new _
  have n1:H1.n=hh.n+1:=by rw[hH1];rfl
  have r1:xZ H1 4 hh.n v10 n (de n ZR):=⟨W5,by rw[IT];rfl,aa,aa,aa,by rw[hH1];simp (disch:=try exact dx) only[ar]⟩;rw[←W5,←hH1];clear hH1 W5;refine call (uG 1 ⟨aa,aa⟩) ?_;rintro r4 h4 ⟨X4,p4⟩;have m4:=X4.n;obtain⟨a3,s3,b3,t3,rfl,_,_,d1,o1,d2,o2,o3,o4⟩:=p4.parts;simp -dsimp (disch:=try exact dx) only[wpS,wpT,zE,zL,zA,oF,nv,f0,hlen,o1,o2,o3,o4];have E5:Ext h4 ((h4.new (.cells ZR 0 none)).put h4.n (.cells [a3,s3,b3,t3] 0 none)):=((Ext.refl h4).new _).put (aA _) _;refine loop (fun m2 fr H => ∃(j:Nat) (cs:List QQ),j+m2=n∧FJ hh H fr v v7 out v10 n i j j h4.n (goQ ll t i) cs∧ax fr 45=some (KN j)) n ⟨0,_,aa,⟨(E1.trans X4).trans E5,r1.ext (X4.trans E5),fun k hk=>aa,aa,ab,⟨a3,s3,b3,t3,by simp (disch:=try exact dx) only[aj],p4.ai E5.ai⟩,by simp[f0],by simp[f7],by simp[f8],ab,ab,ab,by simp[f35],by simp[f36],ab⟩,ab⟩ ?_;clear f0 f7 f8 f35 f36 r1 E1 X4 p4 E5;rintro m2 fr H ⟨j,cs,hjm,s,f45⟩;simp -dsimp (disch:=try exact dx) only[wpS,s.f44,f45];refine aG ?_ ?_<;>intro hc2<;>simp only[aS,aV] at hc2
  ·have hj:j<n:=aa;obtain⟨ri,p,e1,l1,e2,ok1,nn1,k1⟩:=jX hk (i:=i) (j:=j) aa aa;obtain⟨rj,q,e3,l3,e4,ok2,nn2,k2⟩:=jX hk (i:=j) (j:=i) aa aa;have hvh:=hv3.ai hE.ai;obtain⟨wi,A1,A2,A3⟩:=hvh.mG e1;obtain⟨wj,B1,B2,B3⟩:=hvh.mG e3;have Lp:=fun h' (K:bj hh h')=>A2.ld K e2;have Lq:=fun h' (K:bj hh h')=>B2.ld K e4;have ip:=A2.1.idx tH (P:=prog) (k:=.i64) (j:=j) aa;have iq:=B2.1.idx tH (P:=prog) (k:=.i64) (j:=i) aa;have wp:=A2.2.2 p (bh e2);have wq:=B2.2.2 q (bh e4);have K0:=s.E.ai;simp -dsimp (disch:=try exact dx) only[wpS,wpT,zE,f45];refine drawn [(11,[7]),(14,[7])] ae ae rfl ?_;simp -dsimp (disch:=try exact dx) only[wpS,zE,s.f0,s.f9,A3,A1 H K0,ip,Lp H K0];refine call (rK p.1 p.2 wp.1 wp.2) ?_;rintro r5 h5 ⟨X5,p5⟩;have p5:=p5.rat ok1;rw[←k1] at p5;have K5:=(s.E.trans X5).ai;simp -dsimp (disch:=try exact dx) only[wpS,zE,s.f0,s.f9,B3,B1 h5 K5,iq,Lq h5 K5];refine call (rK q.1 q.2 wq.1 wq.2) ?_;rintro r6 h6 ⟨X6,p6⟩;have p6:=p6.rat ok2;rw[←k2] at p6;have X56:=X5.trans X6;have p5:=p5.ai X6.ai;obtain⟨x1,x2,x3,x4,rfl,_,_,d1,o1,d2,o2,o3,o4⟩:=p5.parts;obtain⟨y1,y2,y3,y4,rfl,_,_,d5,o5,d6,o6,o7,o8⟩:=p6.parts;simp -dsimp (disch:=try exact dx) only[wpS,wpT,zE,zL,zA,oF,nv,o1,o2,o3,o4,o5,o6,o7,o8];refine⟨by repeat' first|refine aU ?_ ?_|refine bg ?_ ?_|exact az rfl rfl rfl rfl (aO rfl (B1 _ K5) (B1 _ K0))|exact az rfl rfl rfl rfl (aO rfl (Lq _ K5) (Lq _ K0)),?_⟩;obtain⟨H7,hH7⟩ : ∃X,X=(((h6.new (.cells ZR 0 none)).new (.cells ZR 0 none)).put h6.n (.cells [x1,x2,x3,x4] 0 none)).put (h6.n+1) (.cells [y1,y2,y3,y4] 0 none):=⟨_,rfl⟩;have E7:Ext h6 H7:=by rw[hH7];exact((((Ext.refl h6).new _).new _).put (aA _) _).put (jh _) _
   have n7:H7.n=h6.n+2:=by rw[hH7];rfl
   have gx:H7.ext.get h6.n=some (.cells [x1,x2,x3,x4] 0 none):=by rw[hH7];simp (disch:=try exact dx) only[aj,au]
   have gy:H7.ext.get (h6.n+1)=some (.cells [y1,y2,y3,y4] 0 none):=by rw[hH7];simp (disch:=try exact dx) only[aj]
   rw[←hH7];clear hH7;have s7:=s.ext (X56.trans E7);have p5:=p5.ai E7.ai;have p6:=p6.ai E7.ai;have hb6:=s7.E.n;have hb66:hh.n<h6.n:=by have:=(s.E.trans X56).n;have:=s.b1;have:=(s.ext X56).b2;omega
   obtain⟨H8,st8,s8,kz8,n8,gk8⟩:=s7.set hj (aA j) (x1:=x1) (x2:=x2) (x3:=x3) (x4:=x4) (by simp[o1,o2,o3,o4]);have ix : ∀k,k<n→indexAddr prog 139 v10 (KN k)=some (bq v10 (k*4)):=fun k hk=>s7.rb.sl.idx JA (k:=.i64) hk;simp -dsimp (disch:=try exact dx) only[wpS,wpT,zE,zL,zA,mB,s.f10,ay gx,kA,ix j hj,st8];have hcl:=s7.rb.len;have q5:=p5.mC kz8;have q6:=p6.mC kz8;have at8:nB jr H8 (IH.bf cs (j*4) [x1,x2,x3,x4]) j (kAt ll i j):=nB.set aa q5;have gx8:H8.ext.get h6.n=some (.cells [x1,x2,x3,x4] 0 none):=(gk8 _ aa).trans gx;have gy8:H8.ext.get (h6.n+1)=some (.cells [y1,y2,y3,y4] 0 none):=(gk8 _ aa).trans gy;clear p5 p6 s7 gx gy st8 kz8 gk8;have sv:=sv7.ai Ab hE.ai;have sv0 : ∃cs,df hh 4 v7 (t.map kI).length cs:=⟨_,sv.choose_spec.1⟩;obtain⟨cst,svt⟩:=sv0;rw[cz] at svt;obtain⟨u1,u2,u3,u4,Lu,pu⟩:=sv.mG Ab (pt j hj).2.2 J4 AF (P:=prog);obtain⟨w1,w2,w3,w4,Lw,pw⟩:=sv.mG Ab (pt i hi).2.2 J4 AF (P:=prog);have iu:=svt.idx JA (P:=prog) (k:=.i64) (j:=j) aa;have iw:=svt.idx JA (P:=prog) (k:=.i64) (j:=i) aa;have K8:=s8.E.ai;refine drawn [(9,[5])] ae ae rfl ?_;simp -dsimp (disch:=try exact dx) only[wpS,wpT,zE,zL,zA,mB,s.f7,ay gy8,kA,iu,Lu H8 K8];have qb1:QB 512 (kAt ll i j):=by rw[k1];exact tV wp.1 wp.2 ok1
   have qb2:QB 512 (kAt ll j i):=by rw[k2];exact tV wq.1 wq.2 ok2
   have qb3:=vu (pt j hj).1;have qb4:=vu (pt i hi).1;refine call (OG q6 (pu.ai K8) qb2 qb3 aa) ?_;rintro r9 h9 ⟨X9,p9⟩;have K9:=(s8.E.trans X9).ai;simp -dsimp (disch:=try exact dx) only[wpS,zE,s.f7,s.f9,iw,Lw h9 K9];refine call (CU p9 (pw.ai K9) (qb2.mul qb3) qb4 aa (yc (pt i hi).2.1)) ?_;rintro r10 h10 ⟨X10,p10⟩;have X90:=X9.trans X10;have QO:=(qb2.mul qb3).div qb4 (yc (pt i hi).2.1);obtain⟨bk,hbk⟩ : ∃x,x=kAt ll j i*kI (t.getD j 0) / kI (t.getD i 0):=⟨_,rfl⟩;have hgo:goQ ll t i j=if bk<kAt ll i j then bk else kAt ll i j:=by rw[hbk];rfl
   rw[←hbk] at p10 QO;clear hbk p9 qb2 qb3 qb4;obtain⟨z1,z2,z3,z4,rfl,_,_,d9,o9,d10,o10,o11,o12⟩:=p10.parts;simp -dsimp (disch:=try exact dx) only[wpS,wpT,zE,zL,zA,oF,nv,o9,o10,o11,o12];refine⟨by repeat' first|refine aU ?_ ?_|refine bg ?_ ?_|exact az rfl rfl rfl rfl (aO rfl (Lw _ K9) (Lw _ K8)),?_⟩;obtain⟨H11,xR⟩ : ∃X,X=(h10.new (.cells ZR 0 none)).put h10.n (.cells [z1,z2,z3,z4] 0 none):=⟨_,rfl⟩;have E11:Ext h10 H11:=by rw[xR];exact((Ext.refl h10).new _).put (aA _) _
   have n11:H11.n=h10.n+1:=by rw[xR];rfl
   have gz:H11.ext.get h10.n=some (.cells [z1,z2,z3,z4] 0 none):=by rw[xR];simp (disch:=try exact dx) only[aj]
   rw[←xR];clear xR;have Ya:=X90.trans E11;have UP:=Ya.kept aa gx8;simp -dsimp (disch:=try exact dx) only[wpS,wpT,zE,zL,zA,mB,ay gz,ay UP,kA];refine call (MS (p10.ai E11.ai) (q5.ai Ya.ai) QO qb1 aa) ?_;rintro _ h12 ⟨X12,rfl⟩;obtain⟨zz,hz,hzc⟩ : ∃z:Int,(if bk<kAt ll i j then (-1:Int) else if bk=kAt ll i j then 0 else 1)=z∧(z<0↔bk<kAt ll i j):=⟨_,rfl,JQ _ _⟩;rw[hz];have X812:=Ya.trans X12;have s12:=s8.ext X812;have UO:=X12.kept aa gz;have at12:=at8.mono fun v p=>p.ai X812.ai;have pz12:=p10.ai (E11.trans X12).ai;simp -dsimp (disch:=try exact dx) only[wpS,zE];refine jQ (fun fr' h' => ∃cs',FJ hh h' fr' v v7 out v10 n i j (j+1) h4.n (goQ ll t i) cs'∧ax fr' 12=some (KN j)∧ax fr' 45=some (KN j)) (fun hb=>?_) (fun hb=>?_) ?_
   ·simp only[aS] at hb;rw[aq (hzc.1 hb)] at hgo;obtain⟨H13,st13,s13,kz13,n13,gk13⟩:=s12.set hj (aA j) (x1:=z1) (x2:=z2) (x3:=z3) (x4:=z4) (by simp[o9,o10,o11,o12]);simp -dsimp (disch:=try exact dx) only[wpS,wpT,zE,zL,zA,mB,s.f10,ay UO,kA,ix j hj,st13];refine⟨_,(s13.more fun k hk=>?_).fr (by simp[s.f0]) (by simp[s.f7]) (by simp[s.f8]) (by simp[s.f9]) (by simp[s.f10]) (by simp[s.f11]) (by simp[s.f35]) (by simp[s.f36]) (by simp[s.f44]),ab,by simp[f45]⟩;by_cases hkj:k=j
    ·subst hkj;rw[hgo];exact nB.set (by rw[s12.rb.len];omega) (pz12.mC kz13)
    ·exact s13.done k aa
   ·simp only[aV] at hb;rw[ah (fun h=>hb (hzc.2 h))] at hgo;simp -dsimp (disch:=try exact dx) only[wpS,wpT];refine⟨_,(s12.more fun k hk=>?_).fr (by simp[s.f0]) (by simp[s.f7]) (by simp[s.f8]) (by simp[s.f9]) (by simp[s.f10]) (by simp[s.f11]) (by simp[s.f35]) (by simp[s.f36]) (by simp[s.f44]),ab,by simp[f45]⟩;by_cases hkj:k=j
    ·subst hkj;rw[hgo];exact at12
    ·exact s12.done k aa
   ·rintro fr' h' ⟨cs',s',g12,g45⟩;have gq : ∀k,k<n→QB 1536 (goQ ll t i k):=fun k hk'=>by obtain⟨_,a,b1,_,b2,b3,_,b4⟩:=jX hk (i:=i) (j:=k) aa aa;obtain⟨_,c,b5,_,b6,b7,_,b8⟩:=jX hk (i:=k) (j:=i) aa aa;have w1:=(hvh.mG b1).choose_spec.2.1.2.2 a (bh b2);have w2:=(hvh.mG b5).choose_spec.2.1.2.2 c (bh b6);exact RZ (by rw[b4];exact tV w1.1 w1.2 b3) (by rw[b8];exact tV w2.1 w2.2 b7) (pt k hk').1 (pt i hi).1 (pt i hi).2.1
    by_cases hij:i=j
    ·have d:(((i:Nat):Int) != ((j:Nat):Int))=false:=by simp[hij]
     simp -dsimp (disch:=try exact dx) only[wpS,zE,s'.f9,g12,g45,d];have eo:kZ (goQ ll t i) i (j+1)=kZ (goQ ll t i) i j:=by rw[kZ,aq hij.symm]
     refine⟨m2 - 1,aa,j+1,cs',aa,(s'.same eo).fr (by simp[s'.f0]) (by simp[s'.f7]) (by simp[s'.f8]) (by simp[s'.f9]) (by simp[s'.f10]) (by simp[s'.f11]) (by simp[s'.f35]) (by simp[s'.f36]) (by simp[s'.f44]),ab⟩
    ·have d:(((i:Nat):Int) != ((j:Nat):Int))=true:=by simpa using fun h=>hij aa
     obtain⟨a,sa,b,u,UH,Uf⟩:=s'.box;obtain⟨c1,c2,c3,c4,lrow,prow⟩:=s'.rb.ld (s'.done j aa) hj J4 AF (P:=prog);simp -dsimp (disch:=try exact dx) only[wpS,wpT,zE,zL,zA,mB,s'.f9,s'.f10,s'.f11,g12,d,ay UH,kA,ix j hj,lrow];refine call (OI Uf prow (Nk fun k hk'=>gq k aa) (gq j hj) aa) ?_;rintro r15 h15 ⟨X15,p15⟩;have eo:kZ (goQ ll t i) i (j+1)=kZ (goQ ll t i) i j - goQ ll t i j:=by rw[kZ,ah fun h=>hij h.symm]
     rw[←eo] at p15;obtain⟨z5,z6,z7,z8,rfl,_,_,d13,o13,d14,o14,o15,o16⟩:=p15.parts;have ZJ:=X15.kept s'.b2 UH;simp -dsimp (disch:=try exact dx) only[wpS,wpT,zE,zL,zA,nv,s'.f11,g45,ZJ,o13,o14,o15,o16];refine⟨m2 - 1,aa,j+1,cs',aa,((s'.ext X15).off p15).fr (by simp[s'.f0]) (by simp[s'.f7]) (by simp[s'.f8]) (by simp[s'.f9]) (by simp[s'.f10]) (by simp[s'.f11]) (by simp[s'.f35]) (by simp[s'.f36]) (by simp[s'.f44]),ab⟩
  ·obtain rfl:j=n:=aa;obtain⟨a,sa,b,u,UH,Uf⟩:=s.box;obtain⟨_,_,_,_,he,_,_,_,o1,_,o2,o3,o4⟩:=Uf.parts;cases he;obtain⟨st,rb'⟩:=s.rb.set (P:=prog) (t:=137) AF hi (x:=.agg #[a,sa,b,u]) (xs:=[a,sa,b,u]) rfl rfl (by simp[o1,o2,o3,o4]);have kz:pg 1 H (H.put hh.n (.cells (IH.bf cs (i*4) [a,sa,b,u]) 4 none)):=(pg.refl 1 H).put s.rb.got aC _;have E16:Ext hh (H.put hh.n (.cells (IH.bf cs (i*4) [a,sa,b,u]) 4 none)):=s.E.put (aA _) _;have hcl:=s.rb.len
   have gO:AD jr (H.put hh.n (.cells (IH.bf cs (i*4) [a,sa,b,u]) 4 none)) v10 (fx ll t i):=by
    refine⟨_,by rw[eu,←hn];exact rb'.sl,HO (by rw[eu,←hn];exact rb'.len) fun k q hq=>?_,by rw[eu];omega⟩;have hkn:k<ll.length:=by have:=(bU.1 hq).1;rwa [eu] at this
    rw[qt hkn] at hq;cases hq;by_cases hki:k=i;·subst hki;rw[qS,aq rfl,←hn];exact nB.set aa (Uf.mC kz)
    ·rw[qS,ah hki]
     exact((s.done k aa).mono fun v p=>p.mC kz).other aa hki
   obtain⟨H16,uW⟩ : ∃X,X=H.put hh.n (.cells (IH.bf cs (i*4) [a,sa,b,u]) 4 none):=⟨_,rfl⟩;rw[←uW] at st E16 gO;clear uW rb' kz;have ix:indexAddr prog 139 v10 (KN i)=some (bq v10 (i*4)):=s.rb.sl.idx JA (k:=.i64) hi;simp -dsimp (disch:=try exact dx) only[wpS,wpT,zE,zL,zA,mB,s.f9,s.f10,s.f11,ay UH,kA,ix,st];refine call (Rz gO (by rw[eu];omega)) ?_;rintro r17 h17 ⟨X17,q1,q2⟩;have E17:=E16.trans X17;by_cases ft : ∀q∈fx ll t i,QW q
   ·obtain⟨w,rfl,sw⟩:=q1 ft;have n17:=E17.n;obtain⟨cV,h18,hap,hA8,hG8,hE8⟩:=(hA.ext E17).xY (P:=prog) (t:=38) PV (x:=w) sw.co.2 aa aa (hE.trans E17) (aA _);simp -dsimp (disch:=try exact dx) only[wpS,wpT,zE,zL,zA,JY,vW,s.f8,s.f36,sw.co,hap];refine⟨m - 1,aa,i+1,cV,vs ++ [w],aa,by simp[hvl],hE8,hA8,fun k hk'=>?_,fun k hk'=>?_,by simp[s.f0],by simp[s.f7],ab,by simp[s.f35],ab⟩
    ·by_cases hki:k=i
     ·subst hki;exact⟨w,by rw[←hvl];simp,sw.ai hG8.ai⟩
     ·obtain⟨w',h1,h2⟩:=hR k aa;exact⟨w',by rw[ef aa];exact h1,(h2.ai E17.ai).ai hG8.ai⟩
    ·by_cases hki:k=i
     ·subst hki;exact ft
     ·exact hQ k aa
   ·obtain rfl:=q2 ft;rw[e,ah fun h=>ft (h i aa)];simp -dsimp (disch:=try exact dx) only[wpS,wpT,zE];exact⟨(X03.trans hE).trans E17,_,rfl,fun h=>absurd h aC,fun _=>rfl⟩
 ·obtain rfl:i=n:=aa;simp -dsimp (disch:=try exact dx) only[wpS,wpT,zE,f8];have hfo:xS ll t:=fun k hk=>hQ k aa;rw[e,aq hfo];refine⟨X03.trans hE,out,rfl,fun _=>⟨vs,by rw[iI,←hn];exact hA.sl,by rw[iI];omega,fun k x hx=>?_⟩,fun h=>absurd rfl h⟩;have hkl:k<ll.length:=by have:=(bU.1 hx).1;rwa [iI] at this
  rw[Aj hkl] at hx;cases hx;exact hR k aa
end
section
def FamZ (h:IH) (sz:Nat) (v:QQ):Prop:=∀k n c,v=.slice (some ⟨2*k,0,none⟩) n c → ∀cs f rest,h.ext.get k=some (.cells cs sz (some f))→h.eP.get f=some (k :: rest) → ∀j∈rest,∃c' f',h.ext.get j=some (.cells c' sz f')
def lG (h:IH) (n0 sz:Nat) (v:QQ) (n:Nat) (cs:List QQ):Prop:=Acc h n0 sz v n cs∧FamZ h sz v
variable {sz:Nat}
def lG.nil (h:IH) (n0:Nat) (hz:0<sz):lG h n0 sz (.slice none 0 0) 0 []:=⟨Acc.nil h n0 hz,fun k n c hv=>by cases hv⟩
variable {h:IH}{n:Nat}{cs:List QQ}{m n0:Nat}{v:QQ}
def J5 (a:Acc h n0 sz v n cs) {k c:Nat} (hv:v=.slice (some ⟨2*k,0,none⟩) m c):0<sz∧k<h.n ∧ ∃fam,h.ext.get k=some (.cells cs sz fam)∧Tq h n0 k fam:=by
 obtain⟨hz,hl,⟨rfl,rfl⟩|⟨k',fam,rfl,hn,h1,h2,h3,h4⟩⟩:=a;·cases hv
 ·have hkk:k=k':=by injection hv with hv _ _;injection hv with hv;injection hv with hv _ _;omega
  subst hkk;exact⟨hz,h2,fam,h3,h4⟩
def lG.ext {h':IH} (a:lG h n0 sz v n cs) (e:Ext h h'):lG h' n0 sz v n cs:=by refine⟨a.1.ext e,fun k m c hv cs2 f rest hg hf j hj=>?_⟩;obtain⟨hz,hk,fam,g1,g2⟩:=J5 a.1 hv;rw[e.get k hk,g1] at hg;cases hg;obtain⟨f1,f2,r,f3,f4⟩:=g2;rw[e.eP f f2,f3] at hf;cases hf;obtain⟨c',f',h5⟩:=a.2 k m c hv cs f rest g1 f3 j hj;exact⟨c',f',(e.get j (f4 j hj).2).trans h5⟩
variable {i:Nat}
def lG.put (a:lG h n0 sz v n cs) {c:List QQ} {f:Option Nat} (hi:h.ext.get i=some (.cells c 0 f)) (o:cX):lG (h.put i o) n0 sz v n cs:=by
 refine⟨a.1.put hi o,fun k m c2 hv cs2 f2 rest hg hf j hj=>?_⟩;obtain⟨hz,hk,fam,g1,g2⟩:=J5 a.1 hv;have hki:k≠i:=by rintro rfl;rw[hi] at g1;cases g1;omega
 rw[au _ _ hki,g1] at hg;cases hg;obtain⟨c',f',h5⟩:=a.2 k m c2 hv cs f2 rest g1 hf j hj;have hji:j≠i:=by rintro rfl;rw[hi] at h5;cases h5;omega
 exact⟨c',f',by rw[au _ _ hji];exact h5⟩
variable {P:Program}{bytes:Nat}{h0':IH}{x:QQ}{new:List QQ}{t:TypeId}
def lG.appE (aF:lG h n0 sz v n cs) (hT:oR P t=some (sz,bytes)) (sx:df h sz x m new) (hm:0<m)(hc:new.all bB=true) (hsz:(n+m)*(bytes+1)≤bZ) (h0:n0≤h.n) (e0:Ext h0' h) (hn0:h0'.n≤n0) :∃v' h',append P h t v x=some (v',h')∧lG h' n0 sz v' (n+m) (cs ++ new)∧Grow h h'∧h'.n=h.n+1∧Ext h0' h' ∧ ∀j c e f,j<h.n→e≠sz→h.ext.get j=some (.cells c e f)→h'.ext.get j=some (.cells c e f):=by
 obtain⟨a,aZ⟩:=aF;unfold oR at hT;split at hT
 case h_2=>cases hT
 rename_i e hu;split at hT
 case h_2=>cases hT
 rename_i zs h1 h2 h3;simp only[aX] at hT;split at hT
 case isTrue=>cases hT
 rename_i LU;cases hT;have rW:(sz == 0 || (!(Nat.ble bytes 65536) || !(zs.length == sz)))=false:=by simpa using LU
 have RF:0<sz:=by simp at rW;omega
 obtain⟨_,hln,hx⟩:=sx;have Dv:(m == 0)=false:=aT
 have hx' : ∃b o k row,x=.slice (some ⟨b,o,none⟩) m k∧h.row b=some row∧(row.drop o).take (m*sz)=new∧o+m*sz≤row.length:=by
  rcases hx with⟨rfl,rfl⟩|⟨b,o,k,rfl,⟨rfl,_⟩|⟨_,_,row,_,a1,a2,a3⟩⟩;·omega
  ·omega
  ·exact⟨b,o,k,row,rfl,a1,a2,a3⟩
 obtain⟨b,o,k,row,rfl,a1,a2,a3⟩:=hx';have hms : ¬m*sz=0:=by have:0<m*sz:=nF hm RF;omega
 have oc:fe h sz m (.slice (some ⟨b,o,none⟩) m k)=some new:=by simp only[fe,aX,ch,aA,cq,bT,ah hms];rw[AP a1,aq a3,a2]
 have Ag:Nat.ble ((n+m)*(bytes+1)) bZ=true:=by rw[ch];exact hsz
 obtain⟨hz,hl,⟨rfl,rfl⟩|⟨kk,fam,rfl,hn,g1,g2,g3,g4⟩⟩:=a
 ·-- from nothing
  have hcs:cs = []:=jK.1 aa;subst hcs;refine⟨.slice (some ⟨2*h.n,0,none⟩) m (2*m),h.new (.cells new sz none),?_,⟨⟨hz,by simp;exact hln,.inr ⟨h.n,none,ab,aa,h0,ab,by simp[pJ],trivial⟩⟩,fun k2 n2 c2 hv2 cs2 f2 VB hg2=>by
   have hkk:k2=h.n:=by injection hv2 with hv2 _ _;injection hv2 with hv2;injection hv2 with hv2 _ _;omega
   subst hkk;rw[pJ,aq rfl] at hg2;cases hg2⟩,(Grow.refl h).new _,rfl,e0.new _,fun j c e f hj _ hg=>(aE _ _ aa).trans hg⟩
  have RP:Nat.ble (m*(bytes+1)) bZ=true:=by simpa using Ag
  simp only[Id.append,hu,h1,h2,h3,lenOf,Dv,rW,oc,hc,RP,cg,fU,oW,BEq.rfl,sV]
 ·have tG:Nat.ble (n+m) (2*n / 2)=false:=by rw[sU];intro hh;rw[ch] at hh;omega
  have uc:(2*n % 2 == 1)=false:=ab;have hlen:(n == 2*n / 2 && Nat.blt 0 n && (2*kk) % 2 == 0)=true:=by have:2*n / 2=n:=aa;simp[this,Nat.blt,ch];omega
  have ud:(0+n*sz == cs.length && sz == sz)=true:=by simp[hl]
  have hk2:2*kk / 2=kk:=aa;have body : ∀f below,(∀j∈below,n0≤j∧j<h.n)→(∀j∈below,∃c f',h.ext.get j=some (.cells c sz f'))→(n0≤f)→f<h.n+1 →
    lG (grown h kk f cs sz [] below (cs.drop 0 ++ new) sz) n0 sz (.slice (some ⟨2*h.n,0,none⟩) (n+m) (2*(n+m))) (n+m) (cs ++ new) ∧
    Grow h (grown h kk f cs sz [] below (cs.drop 0 ++ new) sz)∧Ext h0' (grown h kk f cs sz [] below (cs.drop 0 ++ new) sz)∧(∀j c e f',j<h.n→e≠sz→h.ext.get j=some (.cells c e f')→(grown h kk f cs sz [] below (cs.drop 0 ++ new) sz).ext.get j=some (.cells c e f')):=by
   intro f below hbl hbz hf1 hf2;have eg : ∀j,(grown h kk f cs sz [] below (cs.drop 0 ++ new) sz).ext.get j=if j=h.n then some (.cells (cs ++ new) sz (some f)) else if j=kk then some (.cells cs sz (some f)) else h.ext.get j:=by intro j;simp[grown,IH.gC,Tr.cD]
   refine⟨⟨⟨hz,by simp[hl,hln,dA],.inr ⟨h.n,some f,rfl,aa,h0,by simp[grown],by rw[eg,aq rfl],hf1,by simp[grown];omega,kk :: below,?_,fun j hj=>by rcases dV.1 hj with rfl|hj;exact⟨g1,by simp[grown];omega⟩;exact⟨(hbl j hj).1,by have:=(hbl j hj).2;simp[grown];omega⟩⟩⟩,?_⟩,⟨by simp[grown],rfl,fun j hj=>?_⟩,?_,fun j c e f' hj he hg=>by
    rw[eg,ah aa,ah (by rintro rfl;rw[g3] at hg;cases hg;exact he rfl)];exact hg⟩
   ·simp[grown,Tr.cD]
   ·intro k2 n2 c2 hv2 cs2 f2 VB hg2 ZC j hj;have hkk:k2=h.n:=by injection hv2 with hv2 _ _;injection hv2 with hv2;injection hv2 with hv2 _ _;omega
    subst hkk;rw[eg,aq rfl] at hg2;cases hg2;have hfm:(grown h kk f cs sz [] below (cs.drop 0 ++ new) sz).eP.get f=some (h.n :: kk :: below):=by simp[grown,Tr.cD]
    rw[hfm] at ZC;cases ZC;rw[eg];rcases dV.1 hj with rfl|hj
    ·rw[ah aa,aq rfl];exact⟨_,_,rfl⟩
    ·obtain⟨c',f',hc'⟩:=hbz j hj;have:=(hbl j hj).2;rw[ah aa];by_cases hjk:j=kk
     ·rw[aq hjk];exact⟨_,_,rfl⟩
     ·rw[ah hjk];exact⟨c',f',hc'⟩
   ·rw[eg,ah aa];by_cases hjk:j=kk
    ·subst hjk;exact .inr ⟨cs,sz,fam,some f,aa,g3,by rw[aq rfl]⟩
    ·rw[ah hjk];exact .inl rfl
   ·refine⟨by have:=e0.n;simp[grown];omega,e0.base,fun j hj=>?_,fun g hg=>?_⟩
    ·rw[eg,ah aa,ah aa];exact e0.get j hj
    ·simp only[grown,Tr.cD];rw[ah aa];exact e0.eP g hg
  cases fam with
  | none =>
   obtain⟨b1,b2,b3,b4⟩:=body h.n [] (fun _ h=>by cases h) (fun _ h=>by cases h) h0 aa;refine⟨_,_,?_,b1,b2,rfl,b3,b4⟩;simp only[Id.append,hu,h1,h2,h3,lenOf,Dv,rW,oc,hc,Ag,tG,uc,hlen,hk2,g3,ud,cg,fU,oW]
  | some f =>
   obtain⟨f1,f2,rest,f3,f4⟩:=g4;obtain⟨b1,b2,b3,b4⟩:=body f rest f4 (aZ kk n _ rfl cs f rest g3 f3) f1 aa;refine⟨_,_,?_,b1,b2,rfl,b3,b4⟩;have t1:(kk :: rest).takeWhile (· != kk) = []:=ab;have t2:((kk :: rest).dropWhile (· != kk)).drop 1=rest:=ab;simp only[Id.append,hu,h1,h2,h3,lenOf,Dv,rW,oc,hc,Ag,tG,uc,hlen,hk2,g3,ud,f3,t1,t2,cg,fU,oW]
def lG.app (a:lG h n0 sz v n cs) (hT:oR P t=some (sz,bytes)) (sx:df h sz x m new) (hm:0<m)(hc:new.all bB=true) (hsz:(n+m)*(bytes+1)≤bZ) (h0:n0≤h.n) (e0:Ext h0' h) (hn0:h0'.n≤n0) :∃v' h',append P h t v x=some (v',h')∧lG h' n0 sz v' (n+m) (cs ++ new)∧Grow h h'∧h'.n=h.n+1∧Ext h0' h':=by obtain⟨v',h',a1,a2,a3,a4,a5,_⟩:=a.appE hT sx hm hc hsz h0 e0 hn0;exact⟨v',h',a1,a2,a3,a4,a5⟩
def lG.Wh (a:lG h n0 sz v n cs) (hT:oR P t=some (sz,bytes)) (hm:0<m) (hl:new.length=m*sz)(hc:new.all bB=true) (hsz:(n+m)*(bytes+1)≤1099511627776) (h0:n0≤h.n) (e0:Ext h0' h) (hn0:h0'.n≤n0) :∃v' h',append P (h.new (.cells new sz none)) t v (.slice (some ⟨2*h.n,0,none⟩) m (2*m+1))=some (v',h')∧lG h' n0 sz v' (n+m) (cs ++ new)∧Grow h h'∧Ext h0' h' ∧ ∀j c e f,j<h.n→e≠sz→h.ext.get j=some (.cells c e f)→h'.ext.get j=some (.cells c e f):=by have e1:Ext h (h.new (.cells new sz none)):=(Ext.refl h).new _;obtain⟨v',h',b1,b2,b3,b4,b5,b6⟩:=(a.ext e1).appE hT (oQ h a.1.1 hl hm) hm hc hsz aT (e0.trans e1) hn0;exact⟨v',h',b1,b2,e1.grow.trans b3,b5,fun j c e f hj he hg=>b6 j c e f aT he ((aE _ _ aa).trans hg)⟩
def lG.qC (a:lG h n0 sz v n cs) (hT:oR P t=some (sz,bytes)) (hm:0<m) (hl:new.length=m*sz)(hc:new.all bB=true) (hsz:(n+m)*(bytes+1)≤1099511627776) (h0:n0≤h.n) (e0:Ext h0' h) (hn0:h0'.n≤n0) :∃v' h',append P (h.new (.cells new sz none)) t v (.slice (some ⟨2*h.n,0,none⟩) m (2*m+1))=some (v',h')∧lG h' n0 sz v' (n+m) (cs ++ new)∧Grow h h'∧Ext h0' h':=by have e1:Ext h (h.new (.cells new sz none)):=(Ext.refl h).new _;obtain⟨v',h',b1,b2,b3,b4,b5⟩:=(a.ext e1).app hT (oQ h a.1.1 hl hm) hm hc hsz aT (e0.trans e1) hn0;exact⟨v',h',b1,b2,e1.grow.trans b3,b5⟩
def lG.TZ (a:lG h n0 sz v n cs) (hT:bK P t=some sz) (hi:i<n) {xs:List QQ} (hx:x.cells.toList=xs) (hxl:xs.length=sz) (hc:xs.all bB=true) (e0:Ext h0' h) (hn0:h0'.n≤n0) :∃h',store P h t (bq v (i*sz)) x=some h'∧lG h' n0 sz v n (IH.bf cs (i*sz) xs)∧Ext h0' h'∧h'.n=h.n∧h'.base=h.base ∧ ∀j c e f,e≠sz→h.ext.get j=some (.cells c e f)→h'.ext.get j=some (.cells c e f):=by
 obtain⟨⟨hz,hl,⟨rfl,rfl⟩|⟨k,fam,rfl,hn,h1,h2,h3,h4⟩⟩,aZ⟩:=a;·omega
 ·have hle:i*sz+sz≤cs.length:=by rw[hl,←wX];exact dU _ hi
  have hsl:(IH.bf cs (i*sz) xs).length=n*sz:=by simp only[IH.bf,dG,gG,ra];omega
  have k2:2*k / 2=k:=aa;have k1:(2*k % 2 == 1)=false:=ab;have hsx:x.cells.size=sz:=by rw[←mc,hx,hxl]
  have hst:store P h t (bq (.slice (some ⟨2*k,0,none⟩) n (2*n)) (i*sz)) x=h.wr (2*k) (i*sz) xs:=by simp only[bq,fy,store,asAddr,ptr,hT,hx,hsx,hc,pW,sV,cg]
  have hle:Nat.ble (i*sz+xs.length) cs.length=true:=by rw[ch,hxl];exact hle
  have VI : ∀H:IH,H.ext.get k=some (.cells (IH.bf cs (i*sz) xs) sz none)→FamZ H sz (.slice (some ⟨2*k,0,none⟩) n (2*n)):=fun H hH k' n' c' hv cs2 f rest hg=>by
   have hkk:k'=k:=by injection hv with hv _ _;injection hv with hv;injection hv with hv _ _;omega
   subst hkk;rw[hH] at hg;cases hg
  rw[hst];cases fam with
  | none =>
   refine⟨h.put k (.cells (IH.bf cs (i*sz) xs) sz none),?_,⟨⟨hz,hsl,.inr ⟨k,none,rfl,hn,h1,h2,aj _ _ rfl,trivial⟩⟩,VI _ (aj _ _ rfl)⟩,e0.put aa _,rfl,rfl,fun j c e f he hg=>?_⟩;·simp only[IH.wr,k1,k2,h3,hle,cg,fU];rfl
   ·rw[au]
    ·exact hg
    ·rintro rfl;rw[h3] at hg;cases hg;exact he rfl
  | some f =>
   obtain⟨a1,a2,rest,a3,a4⟩:=h4;have hgk:((IH.gC h.ext (((k :: rest).filter (· != k)))).set k (.cells (IH.bf cs (i*sz) xs) sz none)).get k=some (.cells (IH.bf cs (i*sz) xs) sz none):=by simp[Tr.cD]
   refine⟨{ h with ext:=(IH.gC h.ext (((k :: rest).filter (· != k)))).set k (.cells (IH.bf cs (i*sz) xs) sz none) },?_,⟨⟨hz,hsl,.inr ⟨k,none,rfl,hn,h1,h2,hgk,trivial⟩⟩,VI _ hgk⟩,⟨e0.n,e0.base,fun j hj=>?_,e0.eP⟩,rfl,rfl,fun j c e f2 he hg=>?_⟩;·simp only[IH.wr,k1,k2,h3,hle,cg,fU,a3]
   ·have hjk:j≠k:=aa;rw[Tr.cD,ah hjk,kP,ah]
    ·exact e0.get j hj
    ·intro hm;simp only[qY,dV,mL,ne_eq] at hm;rcases hm with⟨rfl|hm,hne⟩
     ·exact hne rfl
     ·have:=a4 j hm;omega
   ·have hjk:j≠k:=by rintro rfl;rw[h3] at hg;cases hg;exact he rfl
    rw[Tr.cD,ah hjk,kP,ah];·exact hg
    ·intro hm;simp only[qY,dV,mL,ne_eq] at hm;rcases hm with⟨rfl|hm,hne⟩
     ·exact hne rfl
     ·obtain⟨c',f',h5⟩:=aZ k n _ rfl cs f rest h3 a3 j hm;rw[h5] at hg;cases hg;exact he rfl
end
def rC:Kept jl:=fun _ _ _ _ r e=>r.ai e
def CY {h:IH} (a b:Nat) (ha:a<W8) (hb:b<W8):WV prog (.func (.func 149) #[] #[]) [wdV a,wdV b] h fun r h'=>Ext h h'∧r=KI (if wdI a<wdI b then -1 else if wdI b<wdI a then 1 else 0):=by obtain⟨H0,hH0,n0,E0,k0,k1⟩:=ko h (wdC a) (wdC b);refine enter (nt:=10) (rs:=[.tmp 4]) Proofs.Tryz.func149 rfl rfl rfl ab ?_;simp -dsimp (disch:=try exact dx) only[wpS,zE,zA,bA];rw[←hH0];clear hH0;have X0:=Ext.refl H0;have L1:=Ru k0;have L2:=Ru k1;refine drawn [(2,[1])] ae ae rfl ?_;simp -dsimp (disch:=try exact dx) only[wpS,zE,L1];refine call (lT a ha) ?_;rintro r1 h1 ⟨X1,p1⟩;have L2':=He L2 aa X1;simp -dsimp (disch:=try exact dx) only[wpS,zE,L2'];refine call (lT b hb) ?_;rintro r2 h2 ⟨X2,p2⟩;simp -dsimp (disch:=try exact dx) only[wpS,zE];refine call (nZ (p1.ai X2.ai) p2 (uu ha).small (uu hb).small) ?_;rintro _ h3 ⟨X3,rfl⟩;simp -dsimp (disch:=try exact dx) only[wpS,zE];refine⟨az rfl rfl rfl rfl (aO rfl L2' L2),?_⟩;simp -dsimp (disch:=try exact dx) only[wpS,wpT,zE,zA];exact((E0.trans X1).trans X2).trans X3
open Classical in
def O9 {h:IH} {v:QQ} {l:List Nat} {least:Int} (hv:iQ h v l) (hl:fS least) :WV prog (.func (.func 161) #[] #[]) [v,KI least] h fun r h'=>Ext h h'∧r=.bool (decide (∃p∈l,wdI p<least)):=by
 have hlb:=hv.2.1;have len:=hv.1.len (P:=prog) rJ;refine enter (nt:=20) (rs:=[.tmp 4]) Proofs.Tryz.func161 rfl rfl rfl ab ?_;simp -dsimp (disch:=try exact dx) only[wpS,zA];refine loop (fun m fr h1 => ∃i:Nat,i+m=l.length∧Ext h h1∧(∀(j:Nat) p,j<i→l[j]?=some p → ¬wdI p<least)∧ax fr 0=some v∧ax fr 1=some (KI least)∧ax fr 5=some (KN i)) l.length ⟨0,aa,Ext.refl _,fun j p hj=>aa,ab,ab,ab⟩ ?_;rintro m fr h1 ⟨i,him,hE,hno,f0,f1,f5⟩;simp -dsimp (disch:=try exact dx) only[wpS,zE,f0,f5,len];refine aG ?_ ?_<;>intro hc<;>simp only[aS,aV] at hc
 ·have hi:i<l.length:=aa;obtain⟨p,hp⟩ : ∃p,l[i]?=some p:=⟨_,aK hi⟩;have hpm:=bh hp;have wp:=hv.2.2 p hpm;have ld:=fun h' (K:bj h h')=>hv.ld K hp;simp -dsimp (disch:=try exact dx) only[wpS,wpT];refine drawn [(3,[6])] ae ae rfl ?_;simp -dsimp (disch:=try exact dx) only[wpS,zE,f0,f1,f5,hv.1.idx qE hi,ld h1 hE.ai];refine call (yB least hl) ?_;rintro _ h2 ⟨X2,rfl⟩;simp -dsimp (disch:=try exact dx) only[wpS,zE];refine call (CY p (bN least) wp (gJ (rR hl))) ?_;rintro _ h3 ⟨X3,rfl⟩;rw[eE (rR hl)];have E3:=hE.trans (X2.trans X3);by_cases c:wdI p<least
  ·rw[aq c,ct (⟨p,hpm,c⟩ : ∃p∈l,wdI p<least)];simp -dsimp (disch:=try exact dx) only[wpS,wpT,zE];refine⟨az rfl rfl rfl rfl (aO rfl (ld h1 hE.ai) (ld _ (hE.trans X2).ai)),?_⟩;simp -dsimp (disch:=try exact dx) only[wpS,wpT,zE,zA];exact E3
  ·obtain⟨z,hz,hz0⟩ : ∃z:Int,(if wdI p<least then (-1:Int) else if least<wdI p then 1 else 0)=z∧0≤z:=⟨_,rfl,by rw[ah c];split<;>omega⟩;rw[hz];simp -dsimp (disch:=try exact dx) only[wpS,wpT,zE];refine⟨az rfl rfl rfl rfl (aO rfl (ld h1 hE.ai) (ld _ (hE.trans X2).ai)),?_⟩;simp -dsimp (disch:=try exact dx) only[wpS,wpT,zE,zA,f5];refine⟨m - 1,aa,i+1,aa,E3,?_,by simp[f0],by simp[f1],ab⟩;intro j q hj hq;by_cases hji:j=i
   ·subst hji;rw[hp] at hq;cases hq;exact c
   ·exact hno j q aa hq
 ·have wc : ¬∃p∈l,wdI p<least:=fun⟨p,hp,hb⟩=>by obtain⟨j,hj⟩:=gH hp;have:=(bU.1 hj).1;exact hno j p aa hj hb
  rw[bF wc];simp -dsimp (disch:=try exact dx) only[wpS,wpT];exact hE
def LF {h:IH} {v:QQ} {l:List Nat} (hv:iQ h v l) (hl:l.length≤1000):WV prog (.func (.func 162) #[] #[]) [v] h fun r h'=>Ext h h'∧AD jl h' r (l.map kI):=by
 have len:=hv.1.len (P:=prog) rJ;refine enter (nt:=22) (rs:=[.tmp 2]) Proofs.Tryz.func162 rfl rfl rfl ab ?_;simp -dsimp (disch:=try exact dx) only[wpS];refine loop (fun m fr h1 => ∃(i:Nat) (out:QQ) (cs:List QQ),i+m=l.length∧Ext h h1∧Acc h1 h.n 4 out ((l.take i).map kI).length cs∧pd jl h1 ((l.take i).map kI) cs∧ax fr 0=some v∧ax fr 3=some out∧ax fr 4=some (KN i)) l.length ⟨0,.slice none 0 0,[],aa,Ext.refl _,Acc.nil h _ aa,by simp[pd],ab,ab,ab⟩ ?_;rintro m fr h1 ⟨i,out,cs,him,hE,hA,hC,f0,f3,f4⟩;simp -dsimp (disch:=try exact dx) only[wpS,zE,f0,f4,len];refine aG ?_ ?_<;>intro hc<;>simp only[aS,aV] at hc
 ·have hi:i<l.length:=aa;obtain⟨p,hp⟩ : ∃p,l[i]?=some p:=⟨_,aK hi⟩;have wp:=hv.2.2 p (bh hp);simp -dsimp (disch:=try exact dx) only[wpS,wpT,zE,f0,f3,f4,hv.1.idx qE hi,hv.ld hE.ai hp];refine call (lT p wp) ?_;rintro r1 h2 ⟨X2,p2⟩;simp -dsimp (disch:=try exact dx) only[wpS];refine call (fY 1 ⟨aa,aa⟩) ?_;rintro r3 h3 ⟨X3,p3⟩;have p2:=p2.ai X3.ai;obtain⟨s1,rfl,c1,o1⟩:=p2.eV;obtain⟨s3,rfl,c3,o3⟩:=p3.eV;have pr:jl h3 (.agg #[.bool (decide (wdI p<0)),s1,.bool false,s3]) (kI p):=⟨_,_,_,_,rfl,p2,p3⟩;have X13:=X2.trans X3;have n1:=hE.n;have n2:=X13.n;obtain⟨cV,h5,hap,hA5,hC5,hG5,hE5⟩:=VC Wi aa rC (hA.ext X13) (hC.ai rC X13.ai) pr (by simp[o1,o3,JP]) aT aa (hE.trans X13) (aA _);have eT:(l.take i).map kI ++ [kI p]=(l.take (i+1)).map kI:=by rw[jA hp,gF];rfl
  rw[eT] at hA5 hC5;simp -dsimp (disch:=try exact dx) only[wpS,wpT,zE,zL,zA,NZ,BI,BH,Wc,Gc,f4,hap];exact⟨m - 1,aa,i+1,cV,_,aa,hE5,hA5,hC5,by simp[f0],ab,ab⟩
 ·obtain rfl:i=l.length:=aa;rw[sK] at hA hC;simp -dsimp (disch:=try exact dx) only[wpS,wpT,zE,f3];exact⟨hE,cs,hA.sl,hC,aT⟩
open Classical in
def OJ {h:IH} {v:QQ} {l:List Rat} (hv:AD jl h v l) (hl:l.length≤1000) :WV prog (.func (.func 170) #[] #[]) [v] h fun r h'=>Ext h h'∧((∀q∈l,QW q) → ∃w,r=.tuple #[w,KI 0]∧kU h' w (l.map shq))∧(¬(∀q∈l,QW q)→r=.tuple #[.slice none 0 0,KI 6]):=by
 obtain⟨cs0,hs0,_,_⟩:=id hv;have len:=hs0.len (P:=prog) Vw;refine enter (nt:=30) (rs:=[.tmp 2,.tmp 3]) Proofs.Tryz.func170 rfl rfl rfl ab ?_;simp -dsimp (disch:=try exact dx) only[wpS];refine loop (fun m fr h1 => ∃(i:Nat) (out:QQ),i+m=l.length∧Ext h h1∧Acc h1 h.n 16 out i (shL ((l.take i).map shq))∧(∀(j:Nat) q,j<i→l[j]?=some q→QW q)∧ax fr 0=some v∧ax fr 4=some out∧ax fr 5=some (KN i)) l.length ⟨0,.slice none 0 0,aa,Ext.refl _,Acc.nil h _ aa,fun j q hj=>aa,ab,ab,ab⟩ ?_;rintro m fr h1 ⟨i,out,him,hE,hA,hW,f0,f4,f5⟩;simp -dsimp (disch:=try exact dx) only[wpS,zE,f0,f5,len];refine aG ?_ ?_<;>intro hc<;>simp only[aS,aV] at hc
 ·have hi:i<l.length:=aa;obtain⟨q,hq⟩ : ∃q,l[i]?=some q:=⟨_,aK hi⟩;obtain⟨a,s,b,u,ld,pq⟩:=hv.ld rC hE.ai hq J3 CB;simp -dsimp (disch:=try exact dx) only[wpS,wpT,zE,f0,f5,hs0.idx NH hi,ld];refine call (zS pq) ?_;rintro _ h2 ⟨X2,rfl⟩;have n1:=hE.n;have n2:=X2.n;by_cases c:QW q
  ·rw[aq c,iD]
   simp -dsimp (disch:=try exact dx) only[wpS,wpT,zE,zL,zA,pj,jT,bR,ba,cT,fD];obtain⟨H3,hH3⟩ : ∃H,H=(h2.new (.cells Z16 0 none)).put h2.n (.cells (shC (shq q).1 (shq q).2) 0 none):=⟨_,rfl⟩;have E3:Ext h2 H3:=by rw[hH3];exact((Ext.refl h2).new _).put (aA _) _
   have n3:=E3.n;have g3:H3.ext.get h2.n=some (.cells (shC (shq q).1 (shq q).2) 0 none):=by rw[hH3];simp (disch:=try exact dx) only[aj]
   rw[←hH3];clear hH3;have E23:=X2.trans E3;obtain⟨cV,h5,hap,hA5,hG5,hE5⟩:=(hA.ext E23).qC (P:=prog) (t:=61) Ms (m:=1) (new:=shC (shq q).1 (shq q).2) aa (by rw[ba]) (cT _ _) aa aa (hE.trans E23) (aA _);have eT:shL ((l.take i).map shq) ++ shC (shq q).1 (shq q).2=shL ((l.take (i+1)).map shq):=by rw[jA hq,gF,jJ,nJ,shL,shL,List.flatMap_append];simp
   rw[eT] at hA5;simp -dsimp (disch:=try exact dx) only[wpS,wpT,zE,zL,zA,iY,Mm,tN,f4,f5,ay g3,ba,fD,dJ,hap];refine⟨m - 1,aa,i+1,cV,aa,hE5,hA5,fun j p hj hp=>?_,by simp[f0],ab,ab⟩;by_cases hji:j=i;·subst hji;rw[hq] at hp;cases hp;exact c
   ·exact hW j p aa hp
  ·rw[ah c];simp -dsimp (disch:=try exact dx) only[wpS,wpT,zE,zL,zA,pj,jT,bR,ba,cT,fD];exact⟨(hE.trans X2).trans (((Ext.refl h2).new _).put (aA _) _),fun ft=>absurd (ft q (bh hq)) c,fun _=>trivial⟩
 ·obtain rfl:i=l.length:=aa;rw[sK] at hA;have ft : ∀q∈l,QW q:=fun q hq=>by obtain⟨j,hj⟩:=gH hq;exact hW j q (bU.1 hj).1 hj
  simp -dsimp (disch:=try exact dx) only[wpS,wpT,zE,f4];refine⟨hE,fun _=>⟨out,rfl,?_⟩,fun hn=>absurd ft hn⟩;refine⟨by rw[cz];exact hA.sl,by rw[cz];omega,fun p hp=>?_⟩;obtain⟨q,hq,rfl⟩:=ir.1 hp;exact rq (ft q hq)
section
variable {h:IH}{v:QQ}{h':IH}
def bP.mC {z:Int} (p:bP h v z) (e:pg 1 h h'):bP h' v z:=by obtain⟨s,h1,ds,d1,d2⟩:=p;exact⟨s,h1,ds,⟨d1.1.mC e,d1.2⟩,d2⟩
def jl.mC {q:Rat} (p:jl h v q) (e:pg 1 h h'):jl h' v q:=by obtain⟨a,s,b,t,h1,h2,h3⟩:=p;exact⟨a,s,b,t,h1,h2.mC e,h3.mC e⟩
def pQ (g:Nat→Rat) (i j:Nat):Rat:=if i=j then 0 else g j
def Ef (g:Nat→Rat) (i:Nat):Nat→Rat
 | 0=>0
 | j+1=>Ef g i j+pQ g i j
theorem Nj (g:Nat→Rat) (i:Nat) : ∀n,1 - Ef g i n=kZ g i n
 | 0=>by rw[Ef,kZ];grind
 | n+1=>by
  have ih:=Nj g i n;rw[Ef,kZ,pQ];by_cases h:i=n;·rw[aq h,aq h.symm,←ih];grind
  ·rw[ah h,ah (fun e=>h e.symm),←ih];grind
def GN {g:Nat→Rat} {i:Nat} {k:Nat} : ∀{n:Nat},(∀j,j<n→QB k (g j))→QB (n*(k+1)) (Ef g i n)
 | 0,_=>⟨by rw[Ef];exact dQ _,by rw[Ef];exact Nat.one_le_two_pow⟩
 | n+1,h=>by
  have ih:=GN (i:=i) (n:=n) fun j hj=>h j aa;have e:(n+1)*(k+1)=n*(k+1)+k+1:=by rw[dA];omega
  rw[Ef,e]
  have hp:QB k (pQ g i n):=by
   unfold pQ;split;·exact QB.zero.mono aa
   ·exact h n aa
  exact ih.add hp
structure FR (hh H:IH) (fr:Fr) (v v6 out rw:QQ) (i d e b10:Nat) (g:Nat→Rat) (cs:List QQ):Prop where
 E:Ext hh H
 acc:lG H hh.n 4 rw e cs
 els:pd jl H ((List.range e).map (pQ g i)) cs
 b1:hh.n≤b10
 b2:b10<H.n
 box : ∃a s b u,H.ext.get b10=some (.cells [a,s,b,u] 0 none)∧jl H (.agg #[a,s,b,u]) (Ef g i d)
 f0:ax fr 0=some v
 f6:ax fr 6=some v6
 f7:ax fr 7=some out
 f8:ax fr 8=some (KN i)
 f9:ax fr 9=some rw
 f10:ax fr 10=some (ptr (2*b10) 0)
section
variable {hh H H':IH} {fr gr:Fr} {v v6 out rw:QQ} {i d e b10:Nat} {g:Nat→Rat} {cs:List QQ}
def FR.frm (s:FR hh H fr v v6 out rw i d e b10 g cs) (f0:ax gr 0=some v) (f6:ax gr 6=some v6) (f7:ax gr 7=some out) (f8:ax gr 8=some (KN i)) (f9:ax gr 9=some rw) (f10:ax gr 10=some (ptr (2*b10) 0)):FR hh H gr v v6 out rw i d e b10 g cs :=
 ⟨s.E,s.acc,s.els,s.b1,s.b2,s.box,f0,f6,f7,f8,f9,f10⟩
def FR.ext (s:FR hh H fr v v6 out rw i d e b10 g cs) (X:Ext H H'):FR hh H' fr v v6 out rw i d e b10 g cs:=by obtain⟨a,s',b,u,h1,h2⟩:=s.box;exact⟨s.E.trans X,s.acc.ext X,s.els.ai rC X.ai,s.b1,cB s.b2 X.n,⟨a,s',b,u,X.kept s.b2 h1,h2.ai X.ai⟩,s.f0,s.f6,s.f7,s.f8,s.f9,s.f10⟩
def FR.YB (s:FR hh H fr v v6 out rw i d e b10 g cs) {b:Nat} {c:List QQ} {f:Option Nat} (hb:H.ext.get b=some (.cells c 0 f)) (h1:hh.n≤b) (h2:b≠b10) (o:cX):FR hh (H.put b o) fr v v6 out rw i d e b10 g cs:=by obtain⟨a,s',b',u,h3,h4⟩:=s.box;have K:=(bj.refl H).put hb o;exact⟨s.E.put h1 _,s.acc.put hb o,s.els.ai rC K,s.b1,s.b2,⟨a,s',b',u,by rw[au _ _ (fun h=>h2 h.symm)];exact h3,h4.ai K⟩,s.f0,s.f6,s.f7,s.f8,s.f9,s.f10⟩
def FR.sum (s:FR hh H fr v v6 out rw i d e b10 g cs) {z1 z2 z3 z4:QQ} (p:jl H (.agg #[z1,z2,z3,z4]) (Ef g i (d+1))):FR hh (H.put b10 (.cells [z1,z2,z3,z4] 0 none)) fr v v6 out rw i (d+1) e b10 g cs:=by obtain⟨a,s',b',u,h3,h4⟩:=s.box;have K:=(bj.refl H).put h3 (.cells [z1,z2,z3,z4] 0 none);exact⟨s.E.put s.b1 _,s.acc.put h3 _,s.els.ai rC K,s.b1,s.b2,⟨_,_,_,_,aj _ _ rfl,p.ai K⟩,s.f0,s.f6,s.f7,s.f8,s.f9,s.f10⟩
end
open Classical in
def IL {h:IH} {v w:QQ} {ll:List (List (Nat×Nat))} {t:List Nat} (hv:iN h v ll) (hw:iQ h w t) :WV prog (.func (.func 71) #[] #[]) [v,w] h fun r h'=>Ext h h' ∧ ∃out,r=.tuple #[out,KI (jo ll t)]∧(jo ll t=0→iN h' out (oY ll t))∧(jo ll t≠0→out=.slice none 0 0):=by
 obtain⟨_,_,hlen⟩:=hv.co;have hlw:=hw.1.len (P:=prog) rJ;have htb:=hw.2.1;refine enter (nt:=108) (rs:=[.tmp 4,.tmp 5]) Proofs.Tryz.func71 rfl rfl rfl ab ?_;simp -dsimp (disch:=try exact dx) only[wpS,zE,zA];refine call (Aa hv) ?_;rintro _ h1 ⟨X1,rfl⟩;by_cases hk:jH ll
 case neg =>
  have e:jo ll t=330:=by rw[jo,aq hk]
  rw[e,bF hk];simp -dsimp (disch:=try exact dx) only[wpS,wpT,zE];exact⟨X1,_,rfl,fun h=>absurd h aC,fun _=>rfl⟩
 rw[ct hk];have hk1:=hk.1;have hk2:=hk.2.1;obtain⟨n,hn⟩ : ∃n,n=ll.length:=⟨_,rfl⟩;rw[←hn] at hk1 hk2 hlen;by_cases ht:t.length=n
 case neg =>
  have e:jo ll t=2:=by rw[jo,ah (fun h=>h hk),aq (.inl aa)]
  have d:(((t.length:Nat):Int) != ((n:Nat):Int))=true:=by simpa using fun h=>ht aa
  rw[e];simp -dsimp (disch:=try exact dx) only[wpS,wpT,zE,hlen,hlw,d];exact⟨X1,_,rfl,fun h=>absurd h aC,fun _=>rfl⟩
 have d:(((t.length:Nat):Int) != ((n:Nat):Int))=false:=by simp[ht]
 simp -dsimp (disch:=try exact dx) only[wpS,wpT,zE,hlen,hlw,d];refine call (O9 (least:=1) (hw.ai X1.ai) ⟨aa,aa⟩) ?_;rintro _ h2 ⟨X2,rfl⟩;by_cases wc : ∃p∈t,wdI p<1
 case pos =>
  have e:jo ll t=2:=by rw[jo,ah (fun h=>h hk),aq (.inr wc)]
  rw[ct wc,e];simp -dsimp (disch:=try exact dx) only[wpS,zE];exact⟨X1.trans X2,_,rfl,fun h=>absurd h aC,fun _=>rfl⟩
 rw[bF wc];have e:jo ll t=(open Classical in if xS ll t then 0 else 6):=by rw[jo,ah (fun h=>h hk),ah (fun h=>h.elim (fun h=>h aa) wc)]
 simp -dsimp (disch:=try exact dx) only[wpS,zE];refine call (LF (hw.ai (X1.trans X2).ai) aa) ?_;rintro v6 h3 ⟨X3,sv7⟩;have X03:=(X1.trans X2).trans X3;have pt : ∀j,j<n→t.getD j 0<W8∧1≤wdI (t.getD j 0)∧(t.map kI)[j]?=some (kI (t.getD j 0)):=fun j hj=>by
  have hjt:j<t.length:=aa;have hm:t.getD j 0∈t:=by rw[bH,aK hjt];exact mO hjt
  refine⟨hw.2.2 _ hm,di fun hc=>wc ⟨_,hm,aa⟩,?_⟩;rw[dM,bH,aK hjt];rfl
 have hv3:=hv.ai X03.ai;simp -dsimp (disch:=try exact dx) only[wpS,zE];refine loop (fun m fr hh => ∃(i:Nat) (out:QQ) (vs:List QQ),i+m=n∧vs.length=i∧Ext h3 hh∧Acc hh h3.n 1 out i vs∧(∀k,k<i → ∃w,vs[k]?=some w∧kU hh w ((fx ll t k).map shq))∧(∀k,k<i → ∀q∈fx ll t k,QW q)∧ax fr 0=some v∧ax fr 6=some v6∧ax fr 7=some out∧ax fr 8=some (KN i)) n ⟨0,.slice none 0 0,[],aa,rfl,Ext.refl _,Acc.nil _ _ aa,fun k hk=>aa,fun k hk=>aa,ab,ab,ab,ab⟩ ?_;rintro m fr hh ⟨i,out,vs,him,hvl,hE,hA,hR,hQ,f0,f6,f7,f8⟩;have nE:=hE.n;simp -dsimp (disch:=try exact dx) only[wpS,zE,f0,f8,hlen];refine aG ?_ ?_<;>intro hc<;>simp only[aS,aV] at hc
 ·have hi:i<n:=aa;have gq : ∀k,k<n→QB 1536 (goQ ll t i k):=fun k hk'=>by obtain⟨_,a,b1,_,b2,b3,_,b4⟩:=jX hk (i:=i) (j:=k) aa aa;obtain⟨_,c,b5,_,b6,b7,_,b8⟩:=jX hk (i:=k) (j:=i) aa aa;have w1:=(hv.mG b1).choose_spec.2.1.2.2 a (bh b2);have w2:=(hv.mG b5).choose_spec.2.1.2.2 c (bh b6);exact RZ (by rw[b4];exact tV w1.1 w1.2 b3) (by rw[b8];exact tV w2.1 w2.2 b7) (pt k hk').1 (pt i hi).1 (pt i hi).2.1
  simp -dsimp (disch:=try exact dx) only[wpS,wpT];refine call Dp ?_;rintro r4 h4 ⟨X4,p4⟩;have m4:=X4.n;obtain⟨a3,s3,b3,t3,rfl,_,_,d1,o1,d2,o2,o3,o4⟩:=p4.parts;simp -dsimp (disch:=try exact dx) only[wpS,wpT,zE,zL,zA,oE,mr,o1,o2,o3,o4];have E5:Ext h4 ((h4.new (.cells ZR 0 none)).put h4.n (.cells [a3,s3,b3,t3] 0 none)):=((Ext.refl h4).new _).put (aA _) _;refine loop (fun m2 fr H => ∃(j:Nat) (rw:QQ) (cs:List QQ),j+m2=n∧FR hh H fr v v6 out rw i j j h4.n (goQ ll t i) cs∧ax fr 11=some (KN j)) n
   ⟨0,.slice none 0 0,[],aa,⟨X4.trans E5,lG.nil _ _ aa,rfl,aa,ab,⟨a3,s3,b3,t3,by simp (disch:=try exact dx) only[aj],p4.ai E5.ai⟩,by simp[f0],by simp[f6],by simp[f7],by simp[f8],ab,ab⟩,ab⟩ ?_
  clear f0 f6 f7 f8 X4 p4 E5;rintro m2 fr H ⟨j,rw,cs,hjm,s,f11⟩;simp -dsimp (disch:=try exact dx) only[wpS,zE,s.f0,f11,hlen];refine aG ?_ ?_<;>intro hc2<;>simp only[aS,aV] at hc2
  ·have hj:j<n:=aa;obtain⟨ri,p,e1,l1,e2,ok1,nn1,k1⟩:=jX hk (i:=i) (j:=j) aa aa;obtain⟨rj,q,e3,l3,e4,ok2,nn2,k2⟩:=jX hk (i:=j) (j:=i) aa aa;have hvh:=hv3.ai hE.ai;obtain⟨wi,A1,A2,A3⟩:=hvh.mG e1;obtain⟨wj,B1,B2,B3⟩:=hvh.mG e3;have Lp:=fun h' (K:bj hh h')=>A2.ld K e2;have Lq:=fun h' (K:bj hh h')=>B2.ld K e4;have ip:=A2.1.idx tH (P:=prog) (k:=.i64) (j:=j) aa;have iq:=B2.1.idx tH (P:=prog) (k:=.i64) (j:=i) aa;have wp:=A2.2.2 p (bh e2);have wq:=B2.2.2 q (bh e4);have K0:=s.E.ai;simp -dsimp (disch:=try exact dx) only[wpS,wpT];refine drawn [(11,[7]),(14,[7])] ae ae rfl ?_;simp -dsimp (disch:=try exact dx) only[wpS,zE,s.f0,s.f8,f11,A3,A1 H K0,ip,Lp H K0];refine call (CX p.1 p.2 wp.1 wp.2) ?_;rintro r5 h5 ⟨X5,p5⟩;have p5:=p5.rat ok1;rw[←k1] at p5;have K5:=(s.E.trans X5).ai;simp -dsimp (disch:=try exact dx) only[wpS,zE,s.f0,s.f8,f11,B3,B1 h5 K5,iq,Lq h5 K5];refine call (CX q.1 q.2 wq.1 wq.2) ?_;rintro r6 h6 ⟨X6,p6⟩;have p6:=p6.rat ok2;rw[←k2] at p6;have X56:=X5.trans X6;have p5:=p5.ai X6.ai;obtain⟨x1,x2,x3,x4,rfl,_,_,d1,o1,d2,o2,o3,o4⟩:=p5.parts;obtain⟨y1,y2,y3,y4,rfl,_,_,d5,o5,d6,o6,o7,o8⟩:=p6.parts;simp -dsimp (disch:=try exact dx) only[wpS,wpT,zE,zL,zA,oE,mr,o1,o2,o3,o4,o5,o6,o7,o8];refine⟨by repeat' first|refine aU ?_ ?_|refine bg ?_ ?_|exact az rfl rfl rfl rfl (aO rfl (B1 _ K5) (B1 _ K0))|exact az rfl rfl rfl rfl (aO rfl (Lq _ K5) (Lq _ K0)),?_⟩;obtain⟨H7,hH7⟩ : ∃X,X=(((h6.new (.cells ZR 0 none)).new (.cells ZR 0 none)).put h6.n (.cells [x1,x2,x3,x4] 0 none)).put (h6.n+1) (.cells [y1,y2,y3,y4] 0 none):=⟨_,rfl⟩;have E7:Ext h6 H7:=by rw[hH7];exact((((Ext.refl h6).new _).new _).put (aA _) _).put (jh _) _
   have n7:H7.n=h6.n+2:=by rw[hH7];rfl
   have gx:H7.ext.get h6.n=some (.cells [x1,x2,x3,x4] 0 none):=by rw[hH7];simp (disch:=try exact dx) only[aj,au]
   have gy:H7.ext.get (h6.n+1)=some (.cells [y1,y2,y3,y4] 0 none):=by rw[hH7];simp (disch:=try exact dx) only[aj]
   rw[←hH7];clear hH7;have s7:=s.ext (X56.trans E7);have p5:=p5.ai E7.ai;have p6:=p6.ai E7.ai;have sv:=sv7.ai rC hE.ai;have sv0 : ∃cs,df hh 4 v6 (t.map kI).length cs:=⟨_,sv.choose_spec.1⟩;obtain⟨cst,svt⟩:=sv0;rw[cz] at svt;obtain⟨u1,u2,u3,u4,Lu,pu⟩:=sv.mG rC (pt j hj).2.2 J3 CB (P:=prog);obtain⟨w1,w2,w3,w4,Lw,pw⟩:=sv.mG rC (pt i hi).2.2 J3 CB (P:=prog);have iu:=svt.idx NH (P:=prog) (k:=.i64) (j:=j) aa;have iw:=svt.idx NH (P:=prog) (k:=.i64) (j:=i) aa;have K7:=s7.E.ai;simp -dsimp (disch:=try exact dx) only[wpS,wpT,zA];refine drawn [(9,[5])] ae ae rfl ?_;simp -dsimp (disch:=try exact dx) only[wpS,wpT,zE,zL,zA,ny,s.f6,f11,ay gy,kA,iu,Lu H7 K7];have qb1:QB 512 (kAt ll i j):=by rw[k1];exact tV wp.1 wp.2 ok1
   have qb2:QB 512 (kAt ll j i):=by rw[k2];exact tV wq.1 wq.2 ok2
   have qb3:=vu (pt j hj).1;have qb4:=vu (pt i hi).1;refine call (OO p6 (pu.ai K7) qb2 qb3 aa) ?_;rintro r9 h9 ⟨X9,p9⟩;have K9:=(s7.E.trans X9).ai;simp -dsimp (disch:=try exact dx) only[wpS,zE,s.f6,s.f8,iw,Lw h9 K9];refine call (QN p9 (pw.ai K9) (qb2.mul qb3) qb4 aa (yc (pt i hi).2.1)) ?_;rintro r10 h10 ⟨X10,p10⟩;have X90:=X9.trans X10;have m9:=X90.n;have QO:=(qb2.mul qb3).div qb4 (yc (pt i hi).2.1);obtain⟨bk,hbk⟩ : ∃x,x=kAt ll j i*kI (t.getD j 0) / kI (t.getD i 0):=⟨_,rfl⟩;have hgo:goQ ll t i j=if bk<kAt ll i j then bk else kAt ll i j:=by rw[hbk];rfl
   rw[←hbk] at p10 QO;clear hbk p9 qb2 qb3 qb4;obtain⟨z1,z2,z3,z4,rfl,_,_,d9,o9,d10,o10,o11,o12⟩:=p10.parts;simp -dsimp (disch:=try exact dx) only[wpS,wpT,zE,zL,zA,oE,mr,o9,o10,o11,o12];refine⟨by repeat' first|refine aU ?_ ?_|refine bg ?_ ?_|exact az rfl rfl rfl rfl (aO rfl (Lw _ K9) (Lw _ K7)),?_⟩;obtain⟨H11,xR⟩ : ∃X,X=(h10.new (.cells ZR 0 none)).put h10.n (.cells [z1,z2,z3,z4] 0 none):=⟨_,rfl⟩;have E11:Ext h10 H11:=by rw[xR];exact((Ext.refl h10).new _).put (aA _) _
   have n11:H11.n=h10.n+1:=by rw[xR];rfl
   have gz:H11.ext.get h10.n=some (.cells [z1,z2,z3,z4] 0 none):=by rw[xR];simp (disch:=try exact dx) only[aj]
   rw[←xR];clear xR;have X711:=X90.trans E11;have UP:=X711.kept aa gx;simp -dsimp (disch:=try exact dx) only[wpS,wpT,zE,zL,zA,oE,mr,ny,ay UP,ay gz,o1,o2,o3,o4,kA];obtain⟨H12,we⟩ : ∃X,X=(H11.new (.cells ZR 0 none)).put H11.n (.cells [x1,x2,x3,x4] 0 none):=⟨_,rfl⟩;have E12:Ext H11 H12:=by rw[we];exact((Ext.refl H11).new _).put (aA _) _
   have n12:H12.n=H11.n+1:=by rw[we];rfl
   have g15:H12.ext.get H11.n=some (.cells [x1,x2,x3,x4] 0 none):=by rw[we];simp (disch:=try exact dx) only[aj]
   have UO:=E12.kept aa gz;rw[←we];clear we;have X712:=X711.trans E12;refine call (Fg (p10.ai (E11.trans E12).ai) (p5.ai X712.ai) QO qb1 aa) ?_;rintro _ h13 ⟨X13,rfl⟩;obtain⟨zz,hz,hzc⟩ : ∃z:Int,(if bk<kAt ll i j then (-1:Int) else if bk=kAt ll i j then 0 else 1)=z∧(z<0↔bk<kAt ll i j):=⟨_,rfl,JQ _ _⟩;rw[hz];have X713:=X712.trans X13;have n13:=X13.n;have s13:=s7.ext X713;have hb10:=s13.b2;have hbb:=(s.ext (X56.trans E7)).b2;have hb4:h4.n<h6.n:=(s.ext X56).b2;have hh6:hh.n≤h6.n:=(s.ext X56).E.n;have g13:=X13.kept aa g15;have ZO:=X13.kept aa UO;have Yz:=p5.ai X713.ai;have Yy:=p10.ai ((E11.trans E12).trans X13).ai;simp -dsimp (disch:=try exact dx) only[wpS,zE];refine jQ (fun fr' h'=>(∃a b c d,h'.ext.get H11.n=some (.cells [a,b,c,d] 0 none)∧jl h' (.agg #[a,b,c,d]) (goQ ll t i j))∧H11.n<h'.n∧FR hh h' fr' v v6 out rw i j j h4.n (goQ ll t i) cs∧ax fr' 15=some (ptr (2*H11.n) 0)∧ax fr' 11=some (KN j)) (fun hb=>?_) (fun hb=>?_) ?_
   ·simp only[aS] at hb;rw[aq (hzc.1 hb)] at hgo;simp -dsimp (disch:=try exact dx) only[wpS,wpT,zE,zL,zA,mr,ny,ay ZO,g13,o9,o10,o11,o12,kA];have s14:=s13.YB g13 aa aa (.cells [z1,z2,z3,z4] 0 none);exact⟨⟨z1,z2,z3,z4,aj _ _ rfl,by rw[hgo];exact Yy.ai ((bj.refl _).put g13 _)⟩,by simp only[aJ];omega,s14.frm (by simp[s.f0]) (by simp[s.f6]) (by simp[s.f7]) (by simp[s.f8]) (by simp[s.f9]) (by simp[s.f10]),ab,by simp[f11]⟩
   ·simp only[aV] at hb;rw[ah (fun h=>hb (hzc.2 h))] at hgo;simp -dsimp (disch:=try exact dx) only[wpS,wpT];exact⟨⟨x1,x2,x3,x4,g13,by rw[hgo];exact Yz⟩,aa,s13.frm (by simp[s.f0]) (by simp[s.f6]) (by simp[s.f7]) (by simp[s.f8]) (by simp[s.f9]) (by simp[s.f10]),ab,by simp[f11]⟩
   clear s13 g13 ZO Yz Yy s7 gx gy p5 p6 UP gz UO g15 p10;rintro fr1 h1' ⟨⟨a1,a2,a3',a4,ga,pa⟩,lb,s1,f15,Pn⟩;obtain⟨_,_,_,_,he1,_,_,_,b1,_,b2,b3',b4⟩:=pa.parts;cases he1;simp -dsimp (disch:=try exact dx) only[wpS,zE,s1.f8,Pn];refine jQ (fun fr' h'=>(∃a b c d,h'.ext.get H11.n=some (.cells [a,b,c,d] 0 none)∧jl h' (.agg #[a,b,c,d]) (pQ (goQ ll t i) i j))∧H11.n<h'.n∧FR hh h' fr' v v6 out rw i j j h4.n (goQ ll t i) cs∧ax fr' 15=some (ptr (2*H11.n) 0)∧ax fr' 11=some (KN j)) (fun hb=>?_) (fun hb=>?_) ?_
   ·have hij:i=j:=by simp at hb;omega
    have ep:pQ (goQ ll t i) i j=0:=aq hij;simp -dsimp (disch:=try exact dx) only[wpS,wpT];refine call Dp ?_;rintro r2 h2' ⟨Y2,p2⟩;have l2:=Y2.n;obtain⟨c1,c2,c3,c4,rfl,_,_,_,q1,_,q2,q3,q4⟩:=p2.parts;have ga2:=Y2.kept lb ga;simp -dsimp (disch:=try exact dx) only[wpS,wpT,zE,zL,zA,mr,f15,ga2,q1,q2,q3,q4];have s2:=(s1.ext Y2).YB ga2 aa aa (.cells [c1,c2,c3,c4] 0 none);exact⟨⟨c1,c2,c3,c4,aj _ _ rfl,by rw[ep];exact p2.ai ((bj.refl _).put ga2 _)⟩,by simp only[aJ];omega,s2.frm (by simp[s1.f0]) (by simp[s1.f6]) (by simp[s1.f7]) (by simp[s1.f8]) (by simp[s1.f9]) (by simp[s1.f10]),by simp[f15],by simp[Pn]⟩
   ·have hij : ¬i=j:=by simp at hb;omega
    have ep:pQ (goQ ll t i) i j=goQ ll t i j:=ah hij;simp -dsimp (disch:=try exact dx) only[wpS,wpT];exact⟨⟨a1,a2,a3',a4,ga,by rw[ep];exact pa⟩,lb,s1.frm (by simp[s1.f0]) (by simp[s1.f6]) (by simp[s1.f7]) (by simp[s1.f8]) (by simp[s1.f9]) (by simp[s1.f10]),by simp[f15],by simp[Pn]⟩
   clear s1 ga pa f15 Pn b1 b2 b3' b4;rintro fr2 h2' ⟨⟨a1,a2,a3',a4,ga,pa⟩,lb,s2,f15,Pn⟩;obtain⟨_,_,_,_,he1,_,_,_,b1,_,b2,b3',b4⟩:=pa.parts;cases he1;obtain⟨c1,c2,c3,c4,gb,pb⟩:=s2.box;simp -dsimp (disch:=try exact dx) only[wpS,wpT,zE,zL,zA,ny,s2.f10,f15,ay ga,ay gb,kA]
   have qp:QB 1536 (pQ (goQ ll t i) i j):=by
    unfold pQ;split;·exact QB.zero.mono aa
    ·exact gq j hj
   refine call (C0 pb pa (GN fun k hk'=>gq k aa) qp aa) ?_;rintro r3 h3' ⟨Y3,p3⟩;have l3:=Y3.n;obtain⟨d1,d2,d3,d4,rfl,_,_,_,q1,_,q2,q3,q4⟩:=p3.parts;have gb3:=Y3.kept s2.b2 gb;have ga3:=Y3.kept lb ga;have s3:=(s2.ext Y3).sum p3;have hne:H11.n≠h4.n:=aa;obtain⟨H14,Ai⟩ : ∃X,X=h3'.put h4.n (.cells [d1,d2,d3,d4] 0 none):=⟨_,rfl⟩;have n14:H14.n=h3'.n:=by rw[Ai];rfl
   have ga4:H14.ext.get H11.n=some (.cells [a1,a2,a3',a4] 0 none):=by rw[Ai,au _ _ hne];exact ga3
   have pa4:jl H14 (.agg #[a1,a2,a3',a4]) (pQ (goQ ll t i) i j):=by rw[Ai];exact(pa.ai Y3.ai).ai ((bj.refl _).put gb3 _)
   rw[←Ai] at s3;have hle:=s3.E.n;obtain⟨rw',h15,hap,hA15,UM,hE15⟩:=s3.acc.qC (P:=prog) (t:=220) Wi (m:=1) (new:=[a1,a2,a3',a4]) aa rfl (by simp[b1,b2,b3',b4]) aa aa s3.E (aA _);have lD:append prog ((h3'.put h4.n (.cells [d1,d2,d3,d4] 0 none)).new (.cells [a1,a2,a3',a4] 4 none)) 220 rw (.slice (some ⟨2*h3'.n,0,none⟩) 1 3)=some (rw',h15):=by rw[←n14,←Ai];exact hap
   have ga4':(h3'.put h4.n (.cells [d1,d2,d3,d4] 0 none)).row (2*H11.n)=some [a1,a2,a3',a4]:=by rw[←Ai];exact ay ga4
   simp -dsimp (disch:=try exact dx) only[wpS,wpT,zE,zL,zA,mr,ny,Wc,Gc,s2.f9,s2.f10,f15,Pn,gb3,q1,q2,q3,q4,kA,ga4',lD];obtain⟨e1',e2',e3',e4',gb4,pb4⟩:=s3.box;have l15:=UM.n;refine⟨m2 - 1,aa,j+1,rw',_,aa,⟨hE15,hA15,?_,s3.b1,cB s3.b2 l15,⟨_,_,_,_,UM.var s3.b2 gb4,pb4.ai UM.ai⟩,by simp[s2.f0],by simp[s2.f6],by simp[s2.f7],by simp[s2.f8],ab,by simp[s2.f10]⟩,ab⟩;have er:(List.range (j+1)).map (pQ (goQ ll t i) i)=(List.range j).map (pQ (goQ ll t i) i) ++ [pQ (goQ ll t i) i j]:=by rw[sM,gF];rfl
   rw[er];exact(s3.els.snoc pa4).ai rC UM.ai
  ·obtain rfl:j=n:=aa;obtain⟨c1,c2,c3,c4,gb,pb⟩:=s.box;have L1:=(ql4 gb).2.2;have X0:=Ext.refl H;simp -dsimp (disch:=try exact dx) only[wpS,wpT];refine drawn [(3,[2])] ae ae rfl ?_;simp -dsimp (disch:=try exact dx) only[wpS,zE,s.f8,s.f9];refine call (yC 1 1 ⟨aa,aa⟩ ⟨aa,aa⟩ aa) ?_;rintro r5 h5 ⟨X5,p5⟩;rw[show Rat.divInt 1 1=(1:Rat) from rfl] at p5;have gb5:=X5.kept s.b2 gb;simp -dsimp (disch:=try exact dx) only[wpS,wpT,zE,zL,zA,ny,s.f10,ay gb5,kA];refine call (OQ p5 (pb.ai X5.ai) (QB.int (k:=1) (n:=1) aC) (GN fun k hk'=>gq k aa) aa) ?_;rintro r6 h6 ⟨X6,p6⟩;rw[Nj] at p6;have X56:=X5.trans X6;have s6:=s.ext X56;obtain⟨d1,d2,d3,d4,rfl,_,_,_,q1,_,q2,q3,q4⟩:=p6.parts;obtain⟨H7,st,acc7,E7,n7,b7,oth⟩:=s6.acc.TZ (P:=prog) (t:=177) CB hi (x:=.agg #[d1,d2,d3,d4]) (xs:=[d1,d2,d3,d4]) rfl rfl (by simp[q1,q2,q3,q4]) s6.E (aA _);have kz:pg 1 h6 H7:=⟨aa,b7,fun k c f hk hg=>⟨f,oth k c 1 f aC hg⟩⟩;have ix:=s6.acc.1.sl.idx NH (P:=prog) (k:=.i64) hi;simp -dsimp (disch:=try exact dx) only[wpS,zE,ix,st];refine⟨az rfl rfl rfl rfl (aO s.f10 (He L1 s.b2 X5) L1),?_⟩;have hl7:=s6.acc.1.sl.2.1;have gO:AD jl H7 rw (fx ll t i):=by
    refine⟨_,by rw[eu,←hn];exact acc7.1.sl,HO (by rw[eu,←hn];exact acc7.1.sl.2.1) fun k q hq=>?_,by rw[eu];omega⟩;have hkn:k<ll.length:=by have:=(bU.1 hq).1;rwa [eu] at this
    rw[qt hkn] at hq;cases hq;by_cases hki:k=i;·subst hki;rw[qS,aq rfl,←hn];exact nB.set aa (p6.mC kz)
    ·have hg:((List.range j).map (pQ (goQ ll t i) i))[k]?=some (qS ll t i k):=by rw[dM,ui aa,qS,ah hki];exact kC some (ah fun h=>hki h.symm)
     exact((Vj s6.els hg).mono fun v p=>p.mC kz).other aa hki
   simp -dsimp (disch:=try exact dx) only[wpS,wpT,zE,zA,s.f9];refine call (OJ gO (by rw[eu];omega)) ?_;rintro r17 h17 ⟨X17,q1',q2'⟩;have E17:=E7.trans X17;by_cases ft : ∀q∈fx ll t i,QW q
   ·obtain⟨w,rfl,sw⟩:=q1' ft;have n17:=E17.n;obtain⟨cV,h18,hap,hA8,hG8,hE8⟩:=(hA.ext E17).xY (P:=prog) (t:=38) PV (x:=w) sw.co.2 aa aa (hE.trans E17) (aA _);simp -dsimp (disch:=try exact dx) only[wpS,wpT,zE,zL,zA,JY,vW,s.f7,s.f8,sw.co,hap];refine⟨m - 1,aa,i+1,cV,vs ++ [w],aa,by simp[hvl],hE8,hA8,fun k hk'=>?_,fun k hk'=>?_,by simp[s.f0],by simp[s.f6],ab,ab⟩
    ·by_cases hki:k=i
     ·subst hki;exact⟨w,by rw[←hvl];simp,sw.ai hG8.ai⟩
     ·obtain⟨w',h1,h2⟩:=hR k aa;exact⟨w',by rw[ef aa];exact h1,(h2.ai E17.ai).ai hG8.ai⟩
    ·by_cases hki:k=i
     ·subst hki;exact ft
     ·exact hQ k aa
   ·obtain rfl:=q2' ft;rw[e,ah fun h=>ft (h i aa)];simp -dsimp (disch:=try exact dx) only[wpS,wpT,zE];exact⟨(X03.trans hE).trans E17,_,rfl,fun h=>absurd h aC,fun _=>rfl⟩
 ·obtain rfl:i=n:=aa;simp -dsimp (disch:=try exact dx) only[wpS,wpT,zE,f7];have hfo:xS ll t:=fun k hk=>hQ k aa;rw[e,aq hfo];refine⟨X03.trans hE,out,rfl,fun _=>⟨vs,by rw[iI,←hn];exact hA.sl,by rw[iI];omega,fun k x hx=>?_⟩,fun h=>absurd rfl h⟩;have hkl:k<ll.length:=by have:=(bU.1 hx).1;rwa [iI] at this
  rw[Aj hkl] at hx;cases hx;exact hR k aa
end
end Go.Id

/-
  Contracts: reference 33: Filter.
-/
import Derived.Test.YtnnmjocmapilaaaGreatOutlierOddsAt
set_option linter.unusedVariables false
set_option linter.unusedSimpArgs false
set_option linter.defProp false
set_option linter.deprecated false
namespace Go.Id
open Go
open Go renaming Operand→QY,Program→QX,TypeId→QZ,Value→QQ
open Nat renaming reduceAdd→zA,reduceEqDiff→zE,reduceLeDiff→zL
open Nat (reduceMul)
set_option maxHeartbeats 16000000
open Go.Proofs.Tryz (prog)
variable {h' h:IH}{v:QQ}
def bU.rA {z:Int} (p:bU h v z) (e:uM 1 h h'):bU h' v z:=by obtain⟨s,h1,ds,d1,d2⟩:=p;exact⟨s,h1,ds,⟨d1.1.rA e,d1.2⟩,d2⟩
def fX.rA {q:Rat} (p:fX h v q) (e:uM 1 h h'):fX h' v q:=by obtain⟨a,s,b,t,h1,h2,h3⟩:=p;exact⟨a,s,b,t,h1,h2.rA e,h3.rA e⟩
def pQ (g:Nat→Rat) (i j:Nat):Rat:=if i=j then 0 else g j
def FV (g:Nat→Rat) (i:Nat):Nat→Rat
 | 0=>0
 | j+1=>FV g i j+pQ g i j
theorem Rg (g:Nat→Rat) (i:Nat) : ∀n,1 - FV g i n=rY g i n
 | 0=>by rw[FV,rY];grind
 | n+1=>by
  have ih:=Rg g i n;rw[FV,rY,pQ];by_cases h:i=n;·rw[ah h,ah h.symm,←ih];grind
  ·rw[ad h,ad (fun e=>h e.symm),←ih];grind
def Ja {g:Nat→Rat} {i:Nat} {k:Nat} : ∀{n:Nat},(∀j,j<n→QB k (g j))→QB (n*(k+1)) (FV g i n)
 | 0,_=>⟨by rw[FV];exact dT _,by rw[FV];exact Iv⟩
 | n+1,h=>by
  have ih:=Ja (i:=i) (n:=n) fun j hj=>h j byOmega;have e:(n+1)*(k+1)=n*(k+1)+k+1:=by rw[cW];omega
  rw[FV,e]
  have hp:QB k (pQ g i n):=by
   unfold pQ;split;·exact QB.zero.mono byOmega
   ·exact h n byOmega
  exact ih.add hp
structure FR (hh H:IH) (fr:Fr) (v v6 out rw:QQ) (i d e b10:Nat) (g:Nat→Rat) (cs:List QQ):Prop where
 E:Ext hh H
 acc:lk H hh.n 4 rw e cs
 els:nN fX H ((List.range e).map (pQ g i)) cs
 b1:hh.n≤b10
 b2:b10<H.n
 box : ∃a s b u,H.ext.get b10=some (.cells [a,s,b,u] 0 none)∧fX H (.agg #[a,s,b,u]) (FV g i d)
 f0:aj fr 0=some v
 f6:aj fr 6=some v6
 f7:aj fr 7=some out
 f8:aj fr 8=some (KN i)
 f9:aj fr 9=some rw
 f10:aj fr 10=some (ptr (2*b10) 0)
section
variable {hh H H':IH} {fr gr:Fr} {v v6 out rw:QQ} {i d e b10:Nat} {g:Nat→Rat} {cs:List QQ}
def FR.frm (s:FR hh H fr v v6 out rw i d e b10 g cs) (f0:aj gr 0=some v) (f6:aj gr 6=some v6) (f7:aj gr 7=some out) (f8:aj gr 8=some (KN i)) (f9:aj gr 9=some rw) (f10:aj gr 10=some (ptr (2*b10) 0)):FR hh H gr v v6 out rw i d e b10 g cs :=
 ⟨s.E,s.acc,s.els,s.b1,s.b2,s.box,f0,f6,f7,f8,f9,f10⟩
def FR.ext (s:FR hh H fr v v6 out rw i d e b10 g cs) (X:Ext H H'):FR hh H' fr v v6 out rw i d e b10 g cs:=by obtain⟨a,s',b,u,h1,h2⟩:=s.box;exact⟨s.E.trans X,s.acc.ext X,s.els.ae oW X.ae,s.b1,cV s.b2 X.n,⟨a,s',b,u,X.kept s.b2 h1,h2.ae X.ae⟩,s.f0,s.f6,s.f7,s.f8,s.f9,s.f10⟩
def FR.putV (s:FR hh H fr v v6 out rw i d e b10 g cs) {b:Nat} {c:List QQ} {f:Option Nat} (hb:H.ext.get b=some (.cells c 0 f)) (h1:hh.n≤b) (h2:b≠b10) (o:cB):FR hh (H.put b o) fr v v6 out rw i d e b10 g cs:=by obtain⟨a,s',b',u,h3,h4⟩:=s.box;have K:=(aX.refl H).put hb o;exact⟨s.E.put h1 _,s.acc.put hb o,s.els.ae oW K,s.b1,s.b2,⟨a,s',b',u,by rw[ax _ _ (fun h=>h2 h.symm)];exact h3,h4.ae K⟩,s.f0,s.f6,s.f7,s.f8,s.f9,s.f10⟩
def FR.sum (s:FR hh H fr v v6 out rw i d e b10 g cs) {z1 z2 z3 z4:QQ} (p:fX H (.agg #[z1,z2,z3,z4]) (FV g i (d+1))):FR hh (H.put b10 (.cells [z1,z2,z3,z4] 0 none)) fr v v6 out rw i (d+1) e b10 g cs:=by obtain⟨a,s',b',u,h3,h4⟩:=s.box;have K:=(aX.refl H).put h3 (.cells [z1,z2,z3,z4] 0 none);exact⟨s.E.put s.b1 _,s.acc.put h3 _,s.els.ae oW K,s.b1,s.b2,⟨_,_,_,_,ak _ _ rfl,p.ae K⟩,s.f0,s.f6,s.f7,s.f8,s.f9,s.f10⟩
end
open Classical in
def LV {h:IH} {v w:QQ} {ll:List (List (Nat×Nat))} {t:List Nat} (hv:je h v ll) (hw:mS h w t) :WV prog (.func (.func 71) #[] #[]) [v,w] h fun r h'=>Ext h h' ∧ ∃out,r=.tuple #[out,KI (rF ll t)]∧(rF ll t=0→je h' out (lh ll t))∧(rF ll t≠0→out=.slice none 0 0):=by
 obtain⟨_,_,hlen⟩:=hv.co;have hlw:=hw.1.len (P:=prog) AM;have htb:=hw.2.1;refine enter (nt:=108) (rs:=[.tmp 4,.tmp 5]) Proofs.Tryz.func71 rfl rfl rfl aa ?_;simp -dsimp (disch:=omega) only[wpS,zE,zA];refine call (Ho hv) ?_;rintro _ h1 ⟨X1,rfl⟩;by_cases hk:fy ll
 case neg =>
  have e:rF ll t=330:=by rw[rF,ah hk]
  rw[e,aY hk];simp -dsimp (disch:=omega) only[wpS,wpT,zE];exact⟨X1,_,rfl,fun h=>absurd h aP,fun _=>rfl⟩
 rw[bf hk];have hk1:=hk.1;have hk2:=hk.2.1;obtain⟨n,hn⟩:=bm (ll.length);rw[←hn] at hk1 hk2 hlen;by_cases ht:t.length=n
 case neg =>
  have e:rF ll t=2:=by rw[rF,ad (fun h=>h hk),ah (.inl byOmega)]
  have d:(((t.length:Nat):Int) != ((n:Nat):Int))=true:=by simpa using fun h=>ht byOmega
  rw[e];simp -dsimp (disch:=omega) only[wpS,wpT,zE,hlen,hlw,d];exact⟨X1,_,rfl,fun h=>absurd h aP,fun _=>rfl⟩
 have d:(((t.length:Nat):Int) != ((n:Nat):Int))=false:=by simp[ht]
 simp -dsimp (disch:=omega) only[wpS,wpT,zE,hlen,hlw,d];refine call (Hn (least:=1) (hw.ae X1.ae) ⟨byOmega,byOmega⟩) ?_;rintro _ h2 ⟨X2,rfl⟩;by_cases sY : ∃p∈t,wdI p<1
 case pos =>
  have e:rF ll t=2:=by rw[rF,ad (fun h=>h hk),ah (.inr sY)]
  rw[bf sY,e];simp -dsimp (disch:=omega) only[wpS,zE];exact⟨X1.trans X2,_,rfl,fun h=>absurd h aP,fun _=>rfl⟩
 rw[aY sY];have e:rF ll t=(open Classical in if yD ll t then 0 else 6):=by rw[rF,ad (fun h=>h hk),ad (fun h=>h.elim (fun h=>h byOmega) sY)]
 simp -dsimp (disch:=omega) only[wpS,zE];refine call (Ey (hw.ae (X1.trans X2).ae) byOmega) ?_;rintro v6 h3 ⟨X3,sv7⟩;have X03:=(X1.trans X2).trans X3;have pt : ∀j,j<n→t.getD j 0<W8∧1≤wdI (t.getD j 0)∧(t.map dh)[j]?=some (dh (t.getD j 0)):=fun j hj=>by
  have hjt:j<t.length:=byOmega;have hm:t.getD j 0∈t:=by rw[bC,bK hjt];exact iE hjt
  refine⟨hw.2.2 _ hm,dW fun hc=>sY ⟨_,hm,byOmega⟩,?_⟩;rw[cm,bC,bK hjt];rfl
 have hv3:=hv.ae X03.ae;simp -dsimp (disch:=omega) only[wpS,zE];refine loop (fun m fr hh => ∃(i:Nat) (out:QQ) (vs:List QQ),i+m=n∧vs.length=i∧Ext h3 hh∧Acc hh h3.n 1 out i vs∧(∀k,k<i → ∃w,vs[k]?=some w∧iS hh w ((gL ll t k).map shq))∧(∀k,k<i → ∀q∈gL ll t k,QW q)∧aj fr 0=some v∧aj fr 6=some v6∧aj fr 7=some out∧aj fr 8=some (KN i)) n ⟨0,.slice none 0 0,[],byOmega,rfl,Ext.refl _,Acc.nil _ _ byOmega,fun k hk=>byOmega,fun k hk=>byOmega,aa⟩ ?_;rintro m fr hh ⟨i,out,vs,him,hvl,hE,hA,hR,hQ,f0,f6,f7,f8⟩;have nE:=hE.n;simp -dsimp (disch:=omega) only[wpS,zE,f0,f8,hlen];refine az ?_ ?_<;>intro hc<;>simp only[aJ,aV] at hc
 ·have hi:i<n:=byOmega;have gq : ∀k,k<n→QB 1536 (goQ ll t i k):=fun k hk'=>by obtain⟨_,a,b1,_,b2,b3,_,b4⟩:=fV hk (i:=i) (j:=k) byOmega byOmega;obtain⟨_,c,b5,_,b6,b7,_,b8⟩:=fV hk (i:=k) (j:=i) byOmega byOmega;have w1:=(hv.lG b1).choose_spec.2.1.2.2 a (bN b2);have w2:=(hv.lG b5).choose_spec.2.1.2.2 c (bN b6);exact ZdL (by rw[b4];exact jY w1.1 w1.2 b3) (by rw[b8];exact jY w2.1 w2.2 b7) (pt k hk').1 (pt i hi).1 (pt i hi).2.1
  simp -dsimp (disch:=omega) only[wpS,wpT];refine call Ew ?_;rintro r4 h4 ⟨X4,p4⟩;have m4:=X4.n;obtain⟨a3,s3,b3,t3,rfl,_,_,d1,o1,d2,o2,o3,o4⟩:=p4.parts;simp -dsimp (disch:=omega) only[wpS,wpT,zE,zL,zA,jF,fS,o1,o2,o3,o4];have E5:Ext h4 ((h4.new (.cells ZR 0 none)).put h4.n (.cells [a3,s3,b3,t3] 0 none)):=((Ext.refl h4).new _).put (ar _) _;refine loop (fun m2 fr H => ∃(j:Nat) (rw:QQ) (cs:List QQ),j+m2=n∧FR hh H fr v v6 out rw i j j h4.n (goQ ll t i) cs∧aj fr 11=some (KN j)) n
   ⟨0,.slice none 0 0,[],byOmega,⟨X4.trans E5,lk.nil _ _ byOmega,rfl,byOmega,aa,⟨a3,s3,b3,t3,by simp (disch:=try exact dx) only[ak],p4.ae E5.ae⟩,by simp[f0],by simp[f6],by simp[f7],by simp[f8],aa,aa⟩,aa⟩ ?_
  clear f0 f6 f7 f8 X4 p4 E5;rintro m2 fr H ⟨j,rw,cs,hjm,s,f11⟩;simp -dsimp (disch:=omega) only[wpS,zE,s.f0,f11,hlen];refine az ?_ ?_<;>intro hc2<;>simp only[aJ,aV] at hc2
  ·have hj:j<n:=byOmega;obtain⟨ri,p,e1,l1,e2,ok1,nn1,k1⟩:=fV hk (i:=i) (j:=j) byOmega byOmega;obtain⟨rj,q,e3,l3,e4,ok2,nn2,k2⟩:=fV hk (i:=j) (j:=i) byOmega byOmega;have hvh:=hv3.ae hE.ae;obtain⟨wi,A1,A2,A3⟩:=hvh.lG e1;obtain⟨wj,B1,B2,B3⟩:=hvh.lG e3;have Lp:=fun h' (K:aX hh h')=>A2.ld K e2;have Lq:=fun h' (K:aX hh h')=>B2.ld K e4;have ip:=A2.1.idx qU (P:=prog) (k:=.i64) (j:=j) byOmega;have iq:=B2.1.idx qU (P:=prog) (k:=.i64) (j:=i) byOmega;have wp:=A2.2.2 p (bN e2);have wq:=B2.2.2 q (bN e4);have K0:=s.E.ae;simp -dsimp (disch:=omega) only[wpS,wpT];refine drawn [(11,[7]),(14,[7])] ab ab rfl ?_;simp -dsimp (disch:=omega) only[wpS,zE,s.f0,s.f8,f11,A3,A1 H K0,ip,Lp H K0];refine call (lz p.1 p.2 wp.1 wp.2) ?_;rintro r5 h5 ⟨X5,p5⟩;have p5:=p5.rat ok1;rw[←k1] at p5;have K5:=(s.E.trans X5).ae;simp -dsimp (disch:=omega) only[wpS,zE,s.f0,s.f8,f11,B3,B1 h5 K5,iq,Lq h5 K5];refine call (lz q.1 q.2 wq.1 wq.2) ?_;rintro r6 h6 ⟨X6,p6⟩;have p6:=p6.rat ok2;rw[←k2] at p6;have X56:=X5.trans X6;have p5:=p5.ae X6.ae;obtain⟨x1,x2,x3,x4,rfl,_,_,d1,o1,d2,o2,o3,o4⟩:=p5.parts;obtain⟨y1,y2,y3,y4,rfl,_,_,d5,o5,d6,o6,o7,o8⟩:=p6.parts;simp -dsimp (disch:=try exact dx) only[wpS,wpT,zE,zL,zA,jF,fS,o1,o2,o3,o4,o5,o6,o7,o8];refine⟨by repeat' first|refine aB ?_ ?_|refine aA ?_ ?_|exact ai rfl rfl rfl rfl (au rfl (B1 _ K5) (B1 _ K0))|exact ai rfl rfl rfl rfl (au rfl (Lq _ K5) (Lq _ K0)),?_⟩;obtain⟨H7,hH7⟩:=bm ((((h6.new (.cells ZR 0 none)).new (.cells ZR 0 none)).put h6.n (.cells [x1,x2,x3,x4] 0 none)).put (h6.n+1) (.cells [y1,y2,y3,y4] 0 none));have E7:Ext h6 H7:=by rw[hH7];exact((((Ext.refl h6).new _).new _).put (ar _) _).put (nc _) _
   have n7:H7.n=h6.n+2:=by rw[hH7];rfl
   have gx:H7.ext.get h6.n=some (.cells [x1,x2,x3,x4] 0 none):=by rw[hH7];simp (disch:=omega) only[ak,ax]
   have gy:H7.ext.get (h6.n+1)=some (.cells [y1,y2,y3,y4] 0 none):=by rw[hH7];simp (disch:=omega) only[ak]
   rw[←hH7];clear hH7;have s7:=s.ext (X56.trans E7);have p5:=p5.ae E7.ae;have p6:=p6.ae E7.ae;have sv:=sv7.ae oW hE.ae;have sv0 : ∃cs,cA hh 4 v6 (t.map dh).length cs:=⟨_,sv.choose_spec.1⟩;obtain⟨cst,svt⟩:=sv0;rw[cd] at svt;obtain⟨u1,u2,u3,u4,Lu,pu⟩:=sv.lG oW (pt j hj).2.2 FI yZ (P:=prog);obtain⟨w1,w2,w3,w4,Lw,pw⟩:=sv.lG oW (pt i hi).2.2 FI yZ (P:=prog);have iu:=svt.idx HF (P:=prog) (k:=.i64) (j:=j) byOmega;have iw:=svt.idx HF (P:=prog) (k:=.i64) (j:=i) byOmega;have K7:=s7.E.ae;simp -dsimp (disch:=omega) only[wpS,wpT,zA];refine drawn [(9,[5])] ab ab rfl ?_;simp -dsimp (disch:=omega) only[wpS,wpT,zE,zL,zA,fU,s.f6,f11,aw gy,fm,iu,Lu H7 K7];have qb1:QB 512 (kAt ll i j):=by rw[k1];exact jY wp.1 wp.2 ok1
   have qb2:QB 512 (kAt ll j i):=by rw[k2];exact jY wq.1 wq.2 ok2
   have qb3:=mA (pt j hj).1;have qb4:=mA (pt i hi).1;refine call (sK p6 (pu.ae K7) qb2 qb3 byOmega) ?_;rintro r9 h9 ⟨X9,p9⟩;have K9:=(s7.E.trans X9).ae;simp -dsimp (disch:=omega) only[wpS,zE,s.f6,s.f8,iw,Lw h9 K9];refine call (V0 p9 (pw.ae K9) (qb2.mul qb3) qb4 byOmega (IM (pt i hi).2.1)) ?_;rintro r10 h10 ⟨X10,p10⟩;have X90:=X9.trans X10;have m9:=X90.n;have qb10:=(qb2.mul qb3).div qb4 (IM (pt i hi).2.1);obtain⟨bk,hbk⟩:=bm (kAt ll j i*dh (t.getD j 0) / dh (t.getD i 0));have hgo:goQ ll t i j=if bk<kAt ll i j then bk else kAt ll i j:=by rw[hbk];rfl
   rw[←hbk] at p10 qb10;clear hbk p9 qb2 qb3 qb4;obtain⟨z1,z2,z3,z4,rfl,_,_,d9,o9,d10,o10,o11,o12⟩:=p10.parts;simp -dsimp (disch:=omega) only[wpS,wpT,zE,zL,zA,jF,fS,o9,o10,o11,o12];refine⟨by repeat' first|refine aB ?_ ?_|refine aA ?_ ?_|exact ai rfl rfl rfl rfl (au rfl (Lw _ K9) (Lw _ K7)),?_⟩;obtain⟨H11,EJ⟩:=bm ((h10.new (.cells ZR 0 none)).put h10.n (.cells [z1,z2,z3,z4] 0 none));have E11:Ext h10 H11:=by rw[EJ];exact((Ext.refl h10).new _).put (ar _) _
   have n11:H11.n=h10.n+1:=by rw[EJ];rfl
   have gz:H11.ext.get h10.n=some (.cells [z1,z2,z3,z4] 0 none):=by rw[EJ];simp (disch:=omega) only[ak]
   rw[←EJ];clear EJ;have X711:=X90.trans E11;have gx11:=X711.kept byOmega gx;simp -dsimp (disch:=omega) only[wpS,wpT,zE,zL,zA,jF,fS,fU,aw gx11,aw gz,o1,o2,o3,o4,fm];obtain⟨H12,Xd⟩:=bm ((H11.new (.cells ZR 0 none)).put H11.n (.cells [x1,x2,x3,x4] 0 none));have E12:Ext H11 H12:=by rw[Xd];exact((Ext.refl H11).new _).put (ar _) _
   have n12:H12.n=H11.n+1:=by rw[Xd];rfl
   have g15:H12.ext.get H11.n=some (.cells [x1,x2,x3,x4] 0 none):=by rw[Xd];simp (disch:=omega) only[ak]
   have gz12:=E12.kept byOmega gz;rw[←Xd];clear Xd;have X712:=X711.trans E12;refine call (nz (p10.ae (E11.trans E12).ae) (p5.ae X712.ae) qb10 qb1 byOmega) ?_;rintro _ h13 ⟨X13,rfl⟩;obtain⟨zz,hz,hzc⟩ : ∃z:Int,(if bk<kAt ll i j then (-1:Int) else if bk=kAt ll i j then 0 else 1)=z∧(z<0↔bk<kAt ll i j):=⟨_,rfl,Yc _ _⟩;rw[hz];have X713:=X712.trans X13;have n13:=X13.n;have s13:=s7.ext X713;have hb10:=s13.b2;have hbb:=(s.ext (X56.trans E7)).b2;have hb4:h4.n<h6.n:=(s.ext X56).b2;have hh6:hh.n≤h6.n:=(s.ext X56).E.n;have g13:=X13.kept byOmega g15;have gz13:=X13.kept byOmega gz12;have px13:=p5.ae X713.ae;have pz13:=p10.ae ((E11.trans E12).trans X13).ae;simp -dsimp (disch:=omega) only[wpS,zE];refine jm (fun fr' h'=>(∃a b c d,h'.ext.get H11.n=some (.cells [a,b,c,d] 0 none)∧fX h' (.agg #[a,b,c,d]) (goQ ll t i j))∧H11.n<h'.n∧FR hh h' fr' v v6 out rw i j j h4.n (goQ ll t i) cs∧aj fr' 15=some (ptr (2*H11.n) 0)∧aj fr' 11=some (KN j)) (fun hb=>?_) (fun hb=>?_) ?_;·simp only[aJ] at hb;rw[ah (hzc.1 hb)] at hgo;simp -dsimp (disch:=omega) only[wpS,wpT,zE,zL,zA,fS,fU,aw gz13,g13,o9,o10,o11,o12,fm];have s14:=s13.putV g13 byOmega byOmega (.cells [z1,z2,z3,z4] 0 none);exact⟨⟨z1,z2,z3,z4,ak _ _ rfl,by rw[hgo];exact pz13.ae ((aX.refl _).put g13 _)⟩,by simp only[bd];omega,s14.frm (by simp[s.f0]) (by simp[s.f6]) (by simp[s.f7]) (by simp[s.f8]) (by simp[s.f9]) (by simp[s.f10]),by simp[f11]⟩
   ·simp only[aV] at hb
    rw[ad (fun h=>hb (hzc.2 h))] at hgo;simp -dsimp (disch:=omega) only[wpS,wpT];exact⟨⟨x1,x2,x3,x4,g13,by rw[hgo];exact px13⟩,byOmega,s13.frm (by simp[s.f0]) (by simp[s.f6]) (by simp[s.f7]) (by simp[s.f8]) (by simp[s.f9]) (by simp[s.f10]),by simp[f11]⟩
   clear s13 g13 gz13 px13 pz13 s7 gx gy p5 p6 gx11 gz gz12 g15 p10;rintro fr1 h1' ⟨⟨a1,a2,a3',a4,ga,pa⟩,lb,s1,f15,Ui⟩;obtain⟨_,_,_,_,he1,_,_,_,b1,_,b2,b3',b4⟩:=pa.parts;cases he1
   simp -dsimp (disch:=omega) only[wpS,zE,s1.f8,Ui]
   refine jm (fun fr' h'=>(∃a b c d,h'.ext.get H11.n=some (.cells [a,b,c,d] 0 none)∧fX h' (.agg #[a,b,c,d]) (pQ (goQ ll t i) i j))∧H11.n<h'.n∧FR hh h' fr' v v6 out rw i j j h4.n (goQ ll t i) cs∧aj fr' 15=some (ptr (2*H11.n) 0)∧aj fr' 11=some (KN j)) (fun hb=>?_) (fun hb=>?_) ?_
   ·have hij:i=j:=by simp at hb;omega
    have ep:pQ (goQ ll t i) i j=0:=ah hij;simp -dsimp (disch:=omega) only[wpS,wpT]
    refine call Ew ?_
    rintro r2 h2' ⟨Y2,p2⟩;have l2:=Y2.n;obtain⟨c1,c2,c3,c4,rfl,_,_,_,q1,_,q2,q3,q4⟩:=p2.parts;have ga2:=Y2.kept lb ga;simp -dsimp (disch:=omega) only[wpS,wpT,zE,zL,zA,fS,f15,ga2,q1,q2,q3,q4]
    have s2:=(s1.ext Y2).putV ga2 byOmega byOmega (.cells [c1,c2,c3,c4] 0 none)
    exact⟨⟨c1,c2,c3,c4,ak _ _ rfl,by rw[ep];exact p2.ae ((aX.refl _).put ga2 _)⟩,by simp only[bd];omega,s2.frm (by simp[s1.f0]) (by simp[s1.f6]) (by simp[s1.f7]) (by simp[s1.f8]) (by simp[s1.f9]) (by simp[s1.f10]),by simp[f15,Ui]⟩
   ·have hij : ¬i=j:=by simp at hb;omega
    have ep:pQ (goQ ll t i) i j=goQ ll t i j:=ad hij;simp -dsimp (disch:=omega) only[wpS,wpT]
    exact⟨⟨a1,a2,a3',a4,ga,by rw[ep];exact pa⟩,lb,s1.frm (by simp[s1.f0]) (by simp[s1.f6]) (by simp[s1.f7]) (by simp[s1.f8]) (by simp[s1.f9]) (by simp[s1.f10]),by simp[f15,Ui]⟩
   clear s1 ga pa f15 Ui b1 b2 b3' b4
   rintro fr2 h2' ⟨⟨a1,a2,a3',a4,ga,pa⟩,lb,s2,f15,Ui⟩;obtain⟨_,_,_,_,he1,_,_,_,b1,_,b2,b3',b4⟩:=pa.parts;cases he1;obtain⟨c1,c2,c3,c4,gb,pb⟩:=s2.box
   simp -dsimp (disch:=omega) only[wpS,wpT,zE,zL,zA,fU,s2.f10,f15,aw ga,aw gb,fm]
   have qp:QB 1536 (pQ (goQ ll t i) i j):=by
    unfold pQ;split
    ·exact QB.zero.mono byOmega
    ·exact gq j hj
   refine call (sL pb pa (Ja fun k hk'=>gq k byOmega) qp byOmega) ?_;rintro r3 h3' ⟨Y3,p3⟩;have l3:=Y3.n;obtain⟨d1,d2,d3,d4,rfl,_,_,_,q1,_,q2,q3,q4⟩:=p3.parts;have gb3:=Y3.kept s2.b2 gb;have ga3:=Y3.kept lb ga;have s3:=(s2.ext Y3).sum p3;have hne:H11.n≠h4.n:=byOmega;obtain⟨H14,T1⟩ : ∃X,X=h3'.put h4.n (.cells [d1,d2,d3,d4] 0 none):=⟨_,rfl⟩;have n14:H14.n=h3'.n:=by rw[T1];rfl
   have ga4:H14.ext.get H11.n=some (.cells [a1,a2,a3',a4] 0 none):=by rw[T1,ax _ _ hne];exact ga3
   have pa4:fX H14 (.agg #[a1,a2,a3',a4]) (pQ (goQ ll t i) i j):=by rw[T1];exact(pa.ae Y3.ae).ae ((aX.refl _).put gb3 _)
   rw[←T1] at s3;have hle:=s3.E.n;obtain⟨rw',h15,hap,hA15,Zax,hE15⟩:=s3.acc.uR (P:=prog) (t:=220) Zcd (m:=1) (new:=[a1,a2,a3',a4]) byOmega rfl (by simp[b1,b2,b3',b4]) byOmega byOmega s3.E (ar _);have yC:append prog ((h3'.put h4.n (.cells [d1,d2,d3,d4] 0 none)).new (.cells [a1,a2,a3',a4] 4 none)) 220 rw (.slice (some ⟨2*h3'.n,0,none⟩) 1 3)=some (rw',h15):=by rw[←n14,←T1];exact hap
   have ga4':(h3'.put h4.n (.cells [d1,d2,d3,d4] 0 none)).row (2*H11.n)=some [a1,a2,a3',a4]:=by rw[←T1];exact aw ga4
   simp -dsimp (disch:=try exact dx) only[wpS,wpT,zE,zL,zA,fS,fU,Zb5,Ii,s2.f9,s2.f10,f15,Ui,gb3,q1,q2,q3,q4,fm,ga4',yC];obtain⟨e1',e2',e3',e4',gb4,pb4⟩:=s3.box;have l15:=Zax.n;refine⟨m2 - 1,byOmega,j+1,rw',_,byOmega,⟨hE15,hA15,?_,s3.b1,cV s3.b2 l15,⟨_,_,_,_,Zax.var s3.b2 gb4,pb4.ae Zax.ae⟩,by simp[s2.f0],by simp[s2.f6],by simp[s2.f7],by simp[s2.f8],aa,by simp[s2.f10]⟩,aa⟩;have er:(List.range (j+1)).map (pQ (goQ ll t i) i)=(List.range j).map (pQ (goQ ll t i) i) ++ [pQ (goQ ll t i) i j]:=by rw[Da,kX];rfl
   rw[er];exact(s3.els.snoc pa4).ae oW Zax.ae
  ·obtain rfl:j=n:=byOmega;obtain⟨c1,c2,c3,c4,gb,pb⟩:=s.box;have L1:=(ql4 gb).2.2;have X0:=Ext.refl H;simp -dsimp (disch:=omega) only[wpS,wpT];refine drawn [(3,[2])] ab ab rfl ?_;simp -dsimp (disch:=omega) only[wpS,zE,s.f8,s.f9];refine call (lC 1 1 ⟨byOmega,byOmega⟩ ⟨byOmega,byOmega⟩ byOmega) ?_;rintro r5 h5 ⟨X5,p5⟩;rw[show Rat.divInt 1 1=(1:Rat) from rfl] at p5;have gb5:=X5.kept s.b2 gb;simp -dsimp (disch:=omega) only[wpS,wpT,zE,zL,zA,fU,s.f10,aw gb5,fm];refine call (Ti p5 (pb.ae X5.ae) (QB.int (k:=1) (n:=1) aP) (Ja fun k hk'=>gq k byOmega) byOmega) ?_;rintro r6 h6 ⟨X6,p6⟩;rw[Rg] at p6;have X56:=X5.trans X6;have s6:=s.ext X56;obtain⟨d1,d2,d3,d4,rfl,_,_,_,q1,_,q2,q3,q4⟩:=p6.parts;obtain⟨H7,st,acc7,E7,n7,b7,oth⟩:=s6.acc.Zw (P:=prog) (t:=177) yZ hi (x:=.agg #[d1,d2,d3,d4]) (xs:=[d1,d2,d3,d4]) rfl rfl (by simp[q1,q2,q3,q4]) s6.E (ar _);have kz:uM 1 h6 H7:=⟨byOmega,b7,fun k c f hk hg=>⟨f,oth k c 1 f aP hg⟩⟩;have ix:=s6.acc.1.sl.idx HF (P:=prog) (k:=.i64) hi;simp -dsimp (disch:=omega) only[wpS,zE,ix,st];refine⟨ai rfl rfl rfl rfl (au s.f10 (JR L1 s.b2 X5) L1),?_⟩;have hl7:=s6.acc.1.sl.2.1;have jc:sm fX H7 rw (gL ll t i):=by
    refine⟨_,by rw[iQ,←hn];exact acc7.1.sl,KM (by rw[iQ,←hn];exact acc7.1.sl.2.1) fun k q hq=>?_,by rw[iQ];omega⟩;have hkn:k<ll.length:=by have:=(bZ.1 hq).1;rwa [iQ] at this
    rw[nI hkn] at hq;cases hq;by_cases hki:k=i;·subst hki;rw[rE,ah rfl,←hn];exact pe.set byOmega (p6.rA kz)
    ·have hg:((List.range j).map (pQ (goQ ll t i) i))[k]?=some (rE ll t i k):=by rw[cm,kY byOmega,rE,ad hki];exact gC some (ad fun h=>hki h.symm)
     exact((Za5 s6.els hg).mono fun v p=>p.rA kz).other byOmega hki
   simp -dsimp (disch:=omega) only[wpS,wpT,zE,zA,s.f9];refine call (Ta jc (by rw[iQ];omega)) ?_;rintro r17 h17 ⟨X17,q1',q2'⟩;have E17:=E7.trans X17;by_cases iv : ∀q∈gL ll t i,QW q
   ·obtain⟨w,rfl,sw⟩:=q1' iv;have n17:=E17.n;obtain⟨fF,h18,hap,hA8,hG8,hE8⟩:=(hA.ext E17).Gq (P:=prog) (t:=38) Yy (x:=w) sw.co.2 byOmega byOmega (hE.trans E17) (ar _);simp -dsimp (disch:=omega) only[wpS,wpT,zE,zL,zA,Yj,Al,s.f7,s.f8,sw.co,hap];refine⟨m - 1,byOmega,i+1,fF,vs ++ [w],byOmega,by simp[hvl],hE8,hA8,fun k hk'=>?_,fun k hk'=>?_,by simp[s.f0,s.f6]⟩
    ·by_cases hki:k=i
     ·subst hki;exact⟨w,by rw[←hvl];simp,sw.ae hG8.ae⟩
     ·obtain⟨w',h1,h2⟩:=hR k byOmega;exact⟨w',by rw[gF byOmega];exact h1,(h2.ae E17.ae).ae hG8.ae⟩
    ·by_cases hki:k=i
     ·subst hki;exact iv
     ·exact hQ k byOmega
   ·obtain rfl:=q2' iv;rw[e,ad fun h=>iv (h i byOmega)];simp -dsimp (disch:=omega) only[wpS,wpT,zE];exact⟨(X03.trans hE).trans E17,_,rfl,fun h=>absurd h aP,fun _=>rfl⟩
 ·obtain rfl:i=n:=byOmega;simp -dsimp (disch:=omega) only[wpS,wpT,zE,f7];have hfo:yD ll t:=fun k hk=>hQ k byOmega;rw[e,ah hfo];refine⟨X03.trans hE,out,rfl,fun _=>⟨vs,by rw[me,←hn];exact hA.sl,by rw[me];omega,fun k x hx=>?_⟩,fun h=>absurd rfl h⟩;have hkl:k<ll.length:=by have:=(bZ.1 hx).1;rwa [me] at this
  rw[HD hkl] at hx;cases hx;exact hR k byOmega
end Go.Id
namespace Go.Id
open Go
open Classical in
noncomputable def levE (ll:List (List (Nat×Nat))) (ws:List Nat) (s:List Int) (level:Int):Int:=if ¬fy ll then 330 else if Zbd ws s level≠0 then Zbd ws s level else if s.length≠ll.length then 2 else rF ll (mapZ (ZcA s level) ws ws.length)
end Go.Id
namespace Go.Id
open Go
open Go renaming Operand→QY,Program→QX,TypeId→QZ,Value→QQ
open Nat renaming reduceAdd→zA,reduceEqDiff→zE,reduceLeDiff→zL
open Nat (reduceMul)
set_option maxHeartbeats 16000000
open Go.Proofs.Tryz (prog)
variable {k i:Nat}{t:TypeId}{h:IH}{n:Nat}{x:QQ}{P:Program}{sz:Nat}{cs:List QQ}
def KD {c:Nat} (hg:h.ext.get k=some (.cells cs sz none)) (hT:ba P t=some sz) (hle:i*sz+sz≤cs.length) {xs:List QQ} (hx:x.cells.toList=xs) (hxl:xs.length=sz) (hc:xs.all aM=true) :store P h t (a9 (.slice (some ⟨2*k,0,none⟩) n c) (i*sz)) x=some (h.put k (.cells (IH.aI cs (i*sz) xs) sz none)):=by
 have k2:2*k / 2=k:=byOmega;have k1:(2*k % 2 == 1)=false:=aa;have hsx:x.cells.size=sz:=by rw[←ku,hx,hxl]
 have hst:store P h t (a9 (.slice (some ⟨2*k,0,none⟩) n c) (i*sz)) x=h.wr (2*k) (i*sz) xs:=by simp only[a9,eu,store,asAddr,ptr,hT,hx,hsx,hc,tB,uY,bP]
 have ZdB:Nat.ble (i*sz+xs.length) cs.length=true:=by rw[bI,hxl];exact hle
 rw[hst];simp only[IH.wr,k1,k2,hg,ZdB,bP,dL];rfl
def P6 {bytes:Nat} (hT:mR P t=some (sz,bytes)) (hg:h.ext.get k=some (.cells cs sz none)) (hl:cs.length=n*sz) (hn:0<n) {m:Nat} {new:List QQ} (sx:rJ h sz x m new) (hm:0<m) (hc:new.all aM=true) (hsz:(n+m)*(bytes+1)≤1099511627776) :append P h t (.slice (some ⟨2*k,0,none⟩) n (2*n)) x=some (.slice (some ⟨2*h.n,0,none⟩) (n+m) (2*(n+m)),grown h k h.n cs sz [] [] (cs ++ new) sz):=by
 unfold mR at hT;split at hT
 case h_2=>cases hT
 rename_i e hu;split at hT
 case h_2=>cases hT
 rename_i zs h1 h2 h3;simp only[aK] at hT;split at hT
 case isTrue=>cases hT
 rename_i J3;cases hT;have qE:(sz == 0 || (!(Nat.ble bytes 65536) || !(zs.length == sz)))=false:=by simpa using J3
 obtain⟨WY,hln,hx⟩:=sx;have Bb:(m == 0)=false:=bq;have hms : ¬m*sz=0:=by have:0<m*sz:=kf hm WY;omega
 have hx' : ∃b o kk row,x=.slice (some ⟨b,o,none⟩) m kk∧h.row b=some row∧(row.drop o).take (m*sz)=new∧o+m*sz≤row.length:=by
  rcases hx with⟨rfl,rfl⟩|⟨b,o,kk,rfl,hx⟩;·omega
  ·rcases hx with⟨rfl,_⟩|⟨row,a1,a2,a3⟩
   ·omega
   ·exact⟨b,o,kk,row,rfl,a1,a2,a3⟩
 obtain⟨b,o,kk,row,rfl,a1,a2,a3⟩:=hx';have nF:cN h sz m (.slice (some ⟨b,o,none⟩) m kk)=some new:=by simp only[cN,aK,bI,ar,bS,bD,ad hms];rw[zq a1,ah a3,a2]
 have yB:Nat.ble ((n+m)*(bytes+1)) bh=true:=by rw[bI];exact hsz
 have qS:Nat.ble (n+m) (2*n / 2)=false:=by rw[oR];intro hh;rw[bI] at hh;omega
 have qR:(2*n % 2 == 1)=false:=aa;have hlen:(n == 2*n / 2 && Nat.blt 0 n && (2*k) % 2 == 0)=true:=by have:2*n / 2=n:=byOmega;simp[this,Nat.blt,bI];omega
 have xi:(0+n*sz == cs.length && sz == sz)=true:=by simp[hl]
 have hk2:2*k / 2=k:=byOmega;simp only[Id.append,hu,h1,h2,h3,lenOf,Bb,qE,nF,hc,yB,qS,qR,hlen,hk2,hg,xi,bP,dL,lW,cp]
abbrev oA (n b:Nat):QQ:=.slice (some ⟨2*b,0,none⟩) n (2*n)
variable {l:List (Nat×Nat)}
def LN {v:QQ} (hs:iS h v l) (hp:0<l.length) (hn:l.length≤1000000) :
  WV prog (.func (.func 118) #[] #[]) [v] h fun r h'=>Ext h h' ∧ ∃b,r=oA l.length b∧h.n≤b∧b<h'.n∧h'.ext.get b=some (.cells (shL l) 16 none):=by
 have hc:=QJ l;obtain⟨⟨hz,hl,⟨rfl,hl0⟩|⟨b,o,k,rfl,hh⟩⟩,_⟩:=hs;·omega
 ·have hk:Ext h (h.new (.cells [] 16 none)):=(Ext.refl h).new _
  have W1:rJ (h.new (.cells [] 16 none)) 16 (.slice (some ⟨b,o,none⟩) l.length k) l.length (shL l):=(cA.ae ⟨hz,hl,.inr ⟨b,o,k,rfl,hh⟩⟩ hk.ae).now;refine enter (nt:=8) (rs:=[.tmp 2]) Proofs.Tryz.func118 rfl rfl rfl aa ?_;simp -dsimp (disch:=omega) only[wpS,wpT,Nat.reduceEqDiff,Nat.reduceMul,Cl,oi,BQ u61,oF Gr _ W1 hp hc byOmega];exact⟨hk.new _,h.n+1,rfl,byOmega,aa,aq _ _ rfl⟩
def uD (h:IH) (n0 n:Nat) (bs:List Nat) (ll:List (List (Nat×Nat))):Prop:=bs.length=ll.length∧bs.Nodup ∧ ∀(k:Nat) b x,bs[k]?=some b→ll[k]?=some x→n0≤b∧b<h.n∧h.ext.get b=some (.cells (shL x) 16 none)∧x.length=n
variable {b:Nat}
def yi {x:List (Nat×Nat)} (hg:h.ext.get b=some (.cells (shL x) 16 none)) (hb:b<h.n) (hn:0<n) (hx:x.length=n) (hm:n≤1000000) (hw : ∀p∈x,p.1<W8∧p.2<W8):iS h (oA n b) x:=by subst hx;exact⟨eh hg hb byOmega (ua x) byOmega byOmega,byOmega,hw⟩
def YB (ll:List (List (Nat×Nat))):Prop:=∀x∈ll,∀p∈x,p.1<W8∧p.2<W8
variable {ll:List (List (Nat×Nat))}{n0:Nat}{bs:List Nat}
def GN {out:QQ} (so:cA h 1 out ll.length (bs.map (oA n))) (R:uD h n0 n bs ll) (hn:0<n) (hm:n≤1000000) (hl:ll.length≤1000000) (hw:YB ll):je h out ll:=by refine⟨_,so,byOmega,fun i x hx=>?_⟩;have hi:=(bZ.1 hx).1;obtain⟨b,hb⟩ : ∃b,bs[i]?=some b:=⟨bs[i]'(by rw[R.1];exact hi),bK (by rw[R.1];exact hi)⟩;obtain⟨r1,r2,r3,r4⟩:=R.2.2 i b x hb hx;exact⟨oA n b,by rw[cm,hb];rfl,yi r3 r2 hn r4 hm (hw x (bN hx))⟩
variable {h':IH}
def uD.mono (R:uD h n0 n bs ll) (hn:h.n≤h'.n) (ho : ∀j c,j<h.n→h.ext.get j=some (.cells c 16 none)→h'.ext.get j=some (.cells c 16 none)):uD h' n0 n bs ll:=by refine⟨R.1,R.2.1,fun k b x hb hx=>?_⟩;obtain⟨r1,r2,r3,r4⟩:=R.2.2 k b x hb hx;exact⟨r1,byOmega,ho b _ r2 r3,r4⟩
def uD.turn (R:uD h n0 n bs ll) {y:List (Nat×Nat)} (hi:bs[i]?=some b) (hn:h'.n=h.n) (ho : ∀j,j≠b→h'.ext.get j=h.ext.get j) (hb:h'.ext.get b=some (.cells (shL y) 16 none)) (hy:y.length=n):uD h' n0 n bs (ll.set i y):=by
 have hil:=(bZ.1 hi).1;refine⟨by rw[dV];exact R.1,R.2.1,fun k c x hk hx=>?_⟩;have hkl:=(bZ.1 hk).1;rw[uW] at hx;by_cases hki:i=k
 ·subst hki;rw[ah rfl] at hx;rw[hi] at hk;cases hk;split at hx
  ·cases hx;obtain⟨z,hz⟩ : ∃z,ll[i]?=some z:=⟨ll[i]'(by have:=R.1;omega),bK (by have:=R.1;omega)⟩;obtain⟨r1,r2,r3,r4⟩:=R.2.2 i b z hi hz;exact⟨r1,byOmega,hb,hy⟩
  ·cases hx
 ·rw[ad hki] at hx;obtain⟨r1,r2,r3,r4⟩:=R.2.2 k c x hk hx;have hcb:c≠b:=by rintro rfl;have e1:=(bZ.1 hi).2;have e2:=(bZ.1 hk).2;exact hki ((List.getElem_inj R.2.1).1 (e1.trans e2.symm))
  exact⟨r1,byOmega,(ho c hcb).trans r3,r4⟩
def NC {α:Type} (l m:List α) (i:Nat):Prop:=m.length=l.length ∧ ∀k,k<l.length→m[k]?=if k<i∨l.length≤k+i then l[l.length - 1 - k]? else l[k]?
variable {α:Type}
theorem NC.start (l:List α):NC l l 0:=⟨rfl,fun k hk=>by rw[ad byOmega]⟩
variable {m:List α}
def NC.done {l:List α} (r:NC l m i) (hi:l.length≤i+i+1):m=l.reverse:=by
 apply jT;intro k;by_cases hk:k<l.length
 ·rw[List.getElem?_reverse hk,r.2 k hk];by_cases c:k<i∨l.length≤k+i
  ·rw[ah c]
  ·rw[ad c,show l.length - 1 - k=k by omega]
 ·rw[cI (by rw[r.1];omega),cI (by rw[List.length_reverse];omega)]
def NC.step {l:List α} (r:NC l m i) (hi:i+i+1<l.length) {x y:α} (hx:m[i]?=some x) (hy:m[l.length - 1 - i]?=some y):NC l ((m.set i y).set (l.length - 1 - i) x) (i+1):=by
 have ex:=r.2 i byOmega
 have ey:=r.2 (l.length - 1 - i) byOmega
 rw[ad byOmega,hx] at ex
 rw[ad byOmega,hy] at ey
 refine⟨by simp[r.1],fun k hk=>?_⟩
 rw[uW,uW,dV,r.1]
 by_cases c1:l.length - 1 - i=k
 ·subst c1
  rw[ah rfl,ah hk,ah byOmega,show l.length - 1 - (l.length - 1 - i)=i by omega,←ex]
 rw[ad c1]
 by_cases c2:i=k
 ·subst c2
  rw[ah rfl,ah hk,ah byOmega,←ey]
 rw[ad c2,r.2 k hk]
 by_cases c:k<i∨l.length≤k+i
 ·rw[ah c,ah byOmega]
 ·rw[ad c,ad byOmega]
def Ao (b:Nat) (h h':IH):Prop:=h'.n=h.n∧h'.base=h.base∧(∀j,j≠b→h'.ext.get j=h.ext.get j)∧h'.cZ=h.cZ
def Ao.refl (b:Nat) (h:IH):Ao b h h:=⟨rfl,rfl,fun _ _=>rfl,rfl⟩
def Ao.put (s:Ao b h h') (o:cB):Ao b h (h'.put b o):=⟨s.1,s.2.1,fun j hj=>(ax _ _ hj).trans (s.2.2.1 j hj),s.2.2.2⟩
def Ao.ext {g:IH} (s:Ao b h h') (e:Ext g h) (hg:g.n≤b):Ext g h' :=
 ⟨by rw[s.1];exact e.n,by rw[s.2.1];exact e.base,fun j hj=>(s.2.2.1 j byOmega).trans (e.get j hj),fun f hf=>by rw[s.2.2.2];exact e.cZ f hf⟩
def Ao.rA {z:Nat} (s:Ao b h h') {c:List QQ} {e:Nat} {f:Option Nat} (hb:h.ext.get b=some (.cells c e f)) (he:e≠z):uM z h h' :=
 ⟨by rw[s.1];exact ar _,s.2.1,fun k c' f' hk hg=>⟨f',by rw[s.2.2.1 k (by rintro rfl;rw[hb] at hg;cases hg;exact he rfl)];exact hg⟩⟩
def LW (hg:h.ext.get b=some (.cells (shL l) 16 none)) (hb:b<h.n) (hl:l.length=n) (h0:0<n) (hm:n≤1000000) (hw : ∀p∈l,p.1<W8∧p.2<W8) :WV prog (.func (.func 119) #[] #[]) [oA n b] h fun r h'=>Ao b h h'∧h'.ext.get b=some (.cells (shL l.reverse) 16 none):=by
 obtain⟨w,hwv⟩:=bm (oA n b);have len:=(yi hg hb h0 hl hm hw).1.len (P:=prog) tX;rw[←hwv] at len ⊢;refine enter (nt:=28) (rs:=[]) Proofs.Tryz.func119 rfl rfl rfl aa ?_;simp -dsimp (disch:=omega) only[wpS,Nat.reduceEqDiff,len];refine loop (fun m fr hh => ∃(i:Nat) (a:List (Nat×Nat)),i+m=n∧NC l a i∧Ao b h hh∧hh.ext.get b=some (.cells (shL a) 16 none)∧(∀p∈a,p.1<W8∧p.2<W8)∧aj fr 0=some w∧aj fr 2=some (KN i)∧aj fr 3=some (KI ((n:Int) - 1 - (i:Int)))) n ⟨0,l,byOmega,.start l,Ao.refl _ _,hg,hw,by simp[hl]⟩ ?_;rintro m fr hh ⟨i,a,him,hr,hE,hA,hwa,f0,f2,f3⟩;simp -dsimp (disch:=omega) only[wpS,Nat.reduceEqDiff,f2,f3];refine az ?_ ?_<;>intro hc<;>simp only[aJ,aV] at hc
 ·have al:=hr.1;obtain⟨j,hj⟩:=bm (n - 1 - i);have ej:(n:Int) - 1 - (i:Int)=(j:Int):=byOmega;obtain⟨x,hx⟩:=fJ (l:=a) (i:=i) byOmega;obtain⟨y,hy⟩:=fJ (l:=a) (i:=j) byOmega;have sl:=yi hA (by rw[hE.1];exact hb) h0 byOmega hm hwa;have sl':=sl;rw[←hwv] at sl;have ix1:=sl.1.idx qU (P:=prog) (k:=.i64) (j:=i) byOmega;have ix2:=sl.1.idx qU (P:=prog) (k:=.i64) (j:=j) byOmega;have ld1:=sl.ld (aX.refl hh) hx;have ld2:=sl.ld (aX.refl hh) hy;have cl:=ua a;have s1:=KD (n:=n) (c:=2*n) hA (P:=prog) (t:=32) SL (i:=i) byOmega (x:=shV y.1 y.2) (xs:=shC y.1 y.2) rfl (aC _ _) (bH _ _);rw[Cq _ _ _ byOmega,show(QQ.slice (some ⟨2*b,0,none⟩) n (2*n))=w from hwv.symm] at s1;obtain⟨h1,hh1⟩:=bm (hh.put b (.cells (shL (a.set i y)) 16 none));rw[←hh1] at s1;have g1:h1.ext.get b=some (.cells (shL (a.set i y)) 16 none):=by rw[hh1];exact ak _ _ rfl
  have cl2:=ua (a.set i y);rw[dV] at cl2;have s2:=KD (n:=n) (c:=2*n) g1 (P:=prog) (t:=32) SL (i:=j) byOmega (x:=shV x.1 x.2) (xs:=shC x.1 x.2) rfl (aC _ _) (bH _ _);rw[Cq _ _ _ (by rw[dV];omega),show(QQ.slice (some ⟨2*b,0,none⟩) n (2*n))=w from hwv.symm] at s2;have st:=hr.step byOmega hx (by rw[hl,←hj];exact hy);rw[hl,←hj] at st;simp -dsimp (disch:=try exact dx) only[wpS,wpT,Nat.reduceEqDiff,f0,f2,f3,ej,ix1,ix2,ld1,ld2,s1,s2];refine⟨m - 1,byOmega,i+1,_,byOmega,st,?_,ak _ _ rfl,fun p hp=>?_,by simp[f0],aa,?_⟩;·rw[hh1];exact(hE.put _).put _
  ·rcases xY hp with hp|rfl
   ·rcases xY hp with hp|rfl
    ·exact hwa p hp
    ·exact hwa _ (bN hy)
   ·exact hwa _ (bN hx)
  ·simp;omega
 ·simp -dsimp (disch:=omega) only[wpS,wpT];have e:=hr.done byOmega;rw[e] at hA;exact⟨hE,hA⟩
abbrev bdC (w a:Nat) (p:Nat×Nat):List QQ:=B8 w :: B8 a :: shC p.1 p.2
def bdV (w a:Nat) (p:Nat×Nat):QQ:=.agg (bdC w a p).toArray
def Ih (w a:Nat) (p:Nat×Nat):(bdV w a p).cells.toList=bdC w a p:=rfl
def P4 (p:Nat×Nat) (ll mm:List (List (Nat×Nat))):Prop:=mm=ll∨(∃x∈ll,mm=ll ++ [x]) ∨ ∃i x,ll[i]?=some x∧(mm=ll.set i x.reverse∨mm=ll.set i (x ++ [p]) ∨ ∃j,j<x.length∧mm=ll.set i (x.set j p))
variable {p:Nat×Nat}{k w a:Nat}
def Zgy {H:IH} (g:H.ext.get k=some (.cells (bdC w a p) 0 none)):load prog H 5 (ptr (2*k) 0)=some (B8 w)∧load prog H 5 (ptr (2*k) 1)=some (B8 a)∧load prog H 32 (ptr (2*k) 2)=some (shV p.1 p.2):=by
 have r:=aw g
 have t:List.take 16 (List.drop 2 (bdC w a p))=shC p.1 p.2:=by show List.take 16 (shC p.1 p.2)=_;rw[dr (by rw[aC];omega)]
 refine⟨?_,?_,?_⟩;·simp -dsimp (disch:=omega) only[wpS,ld5,r]
 ·simp -dsimp (disch:=omega) only[wpS,ld5,r]
 ·have l:(bdC w a p).length=18:=by simp[aC]
  simp -dsimp (disch:=omega) only[wpS,zL,zA,dX,r,l,t]
  rfl
def Zeh (ha:a<256) (ox oy:Operand):binop prog .quo 5 ox oy (B8 a) (.int .u8 8)=some (.int .u8 ((a / 8:Nat):Int)):=by
 have hq:=w6 prog 5 ox oy (k:=.u8) (a:=(a:Int)) (b:=8) aP;have e:((a:Int)).tdiv 8=((a / 8:Nat):Int):=by rw[NS byOmega];rfl
 rw[e] at hq;have hw:IntKind.u8.wrap ((a / 8:Nat):Int)=((a / 8:Nat):Int):=by show(((a / 8:Nat):Int)) % 256=_;omega
 rw[hw] at hq;exact hq
variable {h:IH}{n:Nat}{v:QQ}{n0:Nat}
def lk.grown {sz:Nat} {cs:List QQ} (a:lk h n0 sz v n cs) {c c':List QQ} {z:Nat} (hk:h.ext.get k=some (.cells c z none)) (hz:z≠sz):lk (grown h k h.n c z [] [] c' z) n0 sz v n cs:=by
 have dM : ∀j,(Go.Id.grown h k h.n c z [] [] c' z).ext.get j=if j=h.n then some (.cells c' z (some h.n)) else if j=k then some (.cells c z (some h.n)) else h.ext.get j:=fun j=>by simp[Go.Id.grown,IH.fL,Tr.cE]
 have Ck : ∀f,f<h.n→(Go.Id.grown h k h.n c z [] [] c' z).cZ.get f=h.cZ.get f:=fun f hf=>by simp only[Go.Id.grown,Tr.cE];rw[ad byOmega]
 have old : ∀j cc e f,j<h.n→e=sz→h.ext.get j=some (.cells cc e f)→(Go.Id.grown h k h.n c z [] [] c' z).ext.get j=some (.cells cc e f):=fun j cc e f hj he hg=>by rw[dM,ad byOmega,ad (by rintro rfl;rw[hk] at hg;cases hg;exact hz he)];exact hg
 obtain⟨⟨hz0,hl,⟨rfl,rfl⟩|⟨k',fam,rfl,hn,h1,h2,h3,h4⟩⟩,aZ⟩:=a;·obtain rfl:cs = []:=fC.1 byOmega;exact lk.nil _ _ hz0
 ·refine⟨⟨hz0,hl,.inr ⟨k',fam,rfl,hn,h1,rN h2,old k' _ _ _ h2 rfl h3,?_⟩⟩,fun k2 n2 c2 hv2 cs2 f2 Zbs hg2 hf2 j hj=>?_⟩
  ·cases fam with
   | none=>trivial
   | some f =>
    obtain⟨a1,a2,rest,a3,a4⟩:=h4;exact⟨a1,rN a2,rest,by rw[Ck f a2];exact a3,fun j hj=>⟨(a4 j hj).1,rN (a4 j hj).2⟩⟩
  ·have hkk:k2=k':=by injection hv2 with hv2 _ _;injection hv2 with hv2;injection hv2 with hv2 _ _;omega
   subst hkk;rw[old k2 _ _ _ h2 rfl h3] at hg2;cases hg2;obtain⟨a1,a2,rest,a3,a4⟩:=h4;rw[Ck _ a2,a3] at hf2;cases hf2;obtain⟨c'',f',h5⟩:=aZ k2 n _ rfl cs f2 _ h3 a3 j hj;exact⟨c'',f',old j _ _ _ (a4 j hj).2 rfl h5⟩
variable {j:Nat}{ll:List (List (Nat×Nat))}{y:List (Nat×Nat)}
def YA (h:YB ll) (hy : ∀p∈y,p.1<W8∧p.2<W8):YB (ll.set j y):=fun x hx p hp=>by
 rcases xY hx with hx|rfl;·exact h x hx p hp
 ·exact hy p hp
def Ig {h0 h':IH} {out:QQ} {bs:List Nat} (so:cA h 1 out ll.length (bs.map (oA n))) (R:uD h n0 n bs ll) (hn:0<n) (hm:n≤1000000) (hl:ll.length≤1000000) (hw:YB ll) (e:Ext h0 h) (he:h0.n≤n0){b:Nat} {x:List (Nat×Nat)} (hb:bs[j]?=some b) (hx:ll[j]?=some x) (s:Ao b h h') (hg:h'.ext.get b=some (.cells (shL y) 16 none)) (hy:y.length=n) (hyw : ∀p∈y,p.1<W8∧p.2<W8):Ext h0 h'∧je h' out (ll.set j y):=by obtain⟨r1,r2,r3,r4⟩:=R.2.2 j b x hb hx;exact⟨s.ext e byOmega,GN (by rw[dV];exact so.rA (s.rA r3 aP)) (R.turn hb s.1 s.2.2.1 hg hy) hn hm (by rw[dV];exact hl) (YA hw hyw)⟩
def ZaR (hv:je h v ll) (l0:0<ll.length) (hl:ll.length≤60) (hr : ∀x∈ll,x.length=ll.length) (hw:w<256) (ha:a<256) (hp:p.1<W8∧p.2<W8) :WV prog (.func (.func 44) #[] #[]) [bdV w a p,v] h fun r h'=>Ext h h' ∧ ∃mm,je h' r mm∧P4 p ll mm:=by
 obtain⟨_,_,hlen⟩:=hv.co;have hW:YB ll:=fun x hx q hq=>by obtain⟨i,hi⟩:=lV hx;obtain⟨_,_,s,_⟩:=hv.lG hi;exact s.2.2 q hq
 obtain⟨n,hn⟩:=bm (ll.length);rw[←hn] at l0 hl hr hlen;obtain⟨Hb,hHb⟩:=bm (h.new (.cells (bdC w a p) 0 none));have Eb:Ext h Hb:=by rw[hHb];exact(Ext.refl h).new _
 have nb:Hb.n=h.n+1:=by rw[hHb];rfl
 have gb:Hb.ext.get h.n=some (.cells (bdC w a p) 0 none):=by rw[hHb];simp (disch:=omega) only[aq]
 refine enter (nt:=75) (rs:=[.tmp 4]) Proofs.Tryz.func44 rfl rfl rfl aa ?_;simp -dsimp (disch:=omega) only[wpS,zE,zA,Ih,hlen];rw[←hHb];clear hHb;refine loop (fun m fr hh => ∃(i:Nat) (out:QQ) (bs:List Nat),i+m=n∧Ext Hb hh∧lk hh Hb.n 1 out i (bs.map (oA n))∧uD hh Hb.n n bs (ll.take i)∧aj fr 2=some (ptr (2*h.n) 0)∧aj fr 5=some out∧aj fr 9=some v∧aj fr 10=some (KN n)∧aj fr 11=some (KN i)) n ⟨0,.slice none 0 0,[],byOmega,Ext.refl _,lk.nil _ _ byOmega,⟨rfl,List.nodup_nil,fun k b x hb=>by simp at hb⟩,aa⟩ ?_;rintro m fr hh ⟨i,out,bs,him,hE,hA,hR,f2,f5,f9,f10,f11⟩;have hnn:=hE.n;simp -dsimp (disch:=omega) only[wpS,f10,f11];refine az ?_ ?_<;>intro hc<;>simp only[aJ,aV] at hc
 ·have hi:i<n:=byOmega
  obtain⟨x,hx⟩:=fJ (l:=ll) (i:=i) byOmega;have hxl:=hr x (bN hx);obtain⟨wx,A1,A2,A3⟩:=(hv.ae (Eb.trans hE).ae).lG hx;simp -dsimp (disch:=omega) only[wpS,wpT,zE,f5,f9,f11,A3,A1 hh (aX.refl hh)];refine call (LN A2 byOmega byOmega) ?_;rintro _ h2 ⟨X2,b,rfl,b1,b2,b3⟩;have hn2:=X2.n;rw[hxl];obtain⟨fF,h5,hap,hA5,hG5,hE5,oth⟩:=(hA.ext X2).Zcc (P:=prog) (t:=38) Yy (m:=1) (new:=[oA n b]) byOmega rfl rfl byOmega byOmega (hE.trans X2) (ar _);simp -dsimp (disch:=omega) only[wpS,wpT,zE,zL,zA,Yj,Al,f11,hap];have bl:bs.length=i:=by have:=hR.1;rw[iT] at this;omega
  have R2:=hR.mono (h':=h5) (bA hn2 hG5.n) (fun j c hj hg=>oth j c 16 none byOmega aP (X2.kept hj hg));refine⟨m - 1,byOmega,i+1,fF,bs ++ [b],byOmega,hE5,by rw[kX];exact hA5,⟨?_,?_,fun k c y hk hy=>?_⟩,by simp[f2,f9,f10]⟩;·rw[du,bl,iT,tL];omega
  ·refine IA.2 ⟨hR.2.1,aa,fun c hc d hd=>?_⟩
   rw[iD] at hd;subst hd;obtain⟨k,hk⟩:=lV hc;have hkl:=(bZ.1 hk).1;obtain⟨y,hy⟩:=fJ (l:=(ll.take i)) (i:=k) (by rw[←hR.1];exact hkl);have:=(hR.2.2 k c y hk hy).2.1;omega
  ·by_cases hki:k<i
   ·rw[gF byOmega] at hk
    rw[iU,ah byOmega] at hy;exact R2.2.2 k c y hk (by rw[iU,ah hki];exact hy)
   ·have hkl:=(bZ.1 hk).1
    rw[du,tL] at hkl;obtain rfl:k=i:=byOmega;rw[jv byOmega,bl,xQ] at hk;rw[iU,ah byOmega,hx] at hy;cases hk;cases hy;exact⟨byOmega,cV b2 hG5.n,oth b _ 16 none b2 aP b3,hxl⟩
 ·obtain rfl:i=n:=byOmega;rw[dr byOmega] at hR;have g0:=hE.kept byOmega gb;obtain⟨L1,L2,L3⟩:=Zgy g0;have r1 : ∀ox oy,binop prog .rem 3 ox oy (KN a) (KN i)=some (KN (a % i)):=fun ox oy=>oB _ _ .i64 ox oy a i l0;have r2 : ∀ox oy,binop prog .rem 5 ox oy (B8 w) (.int .u8 5)=some (.int .u8 ((w % 5:Nat):Int)):=fun ox oy=>oB _ _ .u8 ox oy w 5 byOmega;have r3 : ∀ox oy,binop prog .rem 3 ox oy (KN (a / 8)) (KN i)=some (KN (a / 8 % i)):=fun ox oy=>oB _ _ .i64 ox oy (a / 8) i l0;have so:=hA.1.sl;have lo:=so.len (P:=prog) ZcS;obtain⟨c,hc5⟩:=bm (w % 5);obtain⟨j,hj⟩:=bm (a % i);have hji:j<i:=by rw[hj];exact gE _ l0
  have bl:=hR.1;rw[←hn] at bl;obtain⟨b,hb⟩:=fJ (l:=bs) (i:=j) byOmega;obtain⟨x,hx⟩:=fJ (l:=ll) (i:=j) byOmega;obtain⟨q1,q2,q3,q4⟩:=hR.2.2 j b x hb hx;have ix:=so.idx ZaE (P:=prog) (k:=.i64) (j:=j) byOmega;rw[dG] at ix;have ld:load prog hh 61 (a9 out j)=some (oA i b):=by rw[so.ld (aX.refl hh) bq UN,cm,hb];rfl
  rw[←hc5] at r2;rw[←hj] at r1;have Eh:Ext h hh:=Eb.trans hE;have sol:cA hh 1 out ll.length (bs.map (oA i)):=by rw[←hn];exact so
  have hxw:=hW x (bN hx);obtain⟨wv,hwv⟩:=bm (oA i b);have sx:iS hh wv x:=by rw[hwv];exact yi q3 q2 byOmega q4 byOmega hxw
  rw[←hwv] at ld;have cl:=ua x;have c5:c=0∨c=1∨c=2∨c=3∨c=4:=byOmega;simp -dsimp (disch:=omega) only[wpS,wpT,zE,Xm,HV,ZdR,f2,f5,L1,L2,lo,r1,r2];rcases c5 with rfl|rfl|rfl|rfl|rfl
  ·obtain⟨jj,hjj⟩:=bm (a / 8 % i);have hjl:jj<i:=by rw[hjj];exact gE _ l0
   rw[←hjj] at r3;have iy:=sx.1.idx qU (P:=prog) (k:=.i64) (j:=jj) byOmega;have st:=KD (n:=i) (c:=2*i) q3 (P:=prog) (t:=32) SL (i:=jj) byOmega (x:=shV p.1 p.2) (xs:=shC p.1 p.2) rfl (aC _ _) (bH _ _);rw[Cq _ _ _ byOmega,show(QQ.slice (some ⟨2*b,0,none⟩) i (2*i))=wv from hwv.symm] at st;simp -dsimp (disch:=try exact dx) only[wpS,wpT,zE,Xm,HV,Xl,f2,f5,L2,L3,lo,r3,Zeh ha,ix,ld,iy,st];obtain⟨z1,z2⟩:=Ig (h0:=h) (h':=hh.put b (.cells (shL (x.set jj p)) 16 none)) sol hR byOmega byOmega byOmega hW Eh byOmega hb hx ((Ao.refl b hh).put _) (ak _ _ rfl) (by rw[dV];exact q4) (fun q hq=>by
    rcases xY hq with hq|rfl;·exact hxw q hq
    ·exact hp)
   exact⟨z1,_,z2,.inr (.inr ⟨j,x,hx,.inr (.inr ⟨jj,byOmega,rfl⟩)⟩)⟩
  ·obtain⟨H1,hH1⟩:=bm (hh.new (.cells (shC p.1 p.2) 16 none));have E1:Ext hh H1:=by rw[hH1];exact(Ext.refl hh).new _
   have n1:H1.n=hh.n+1:=by rw[hH1];rfl
   have gx1:=(E1.get b q2).trans q3;have sp:cA H1 16 (.slice (some ⟨2*hh.n,0,none⟩) 1 3) 1 (shC p.1 p.2):=by rw[hH1];exact qM hh byOmega (by rw[aC]) byOmega
   have hap:=P6 (n:=i) (m:=1) (P:=prog) (t:=61) Gr gx1 byOmega l0 sp.now byOmega (bH _ _) byOmega;rw[show(QQ.slice (some ⟨2*b,0,none⟩) i (2*i))=wv from hwv.symm] at hap;obtain⟨H2,hH2⟩:=bm (grown H1 b H1.n (shL x) 16 [] [] (shL x ++ shC p.1 p.2) 16);have A2:lk H2 Hb.n 1 out i (bs.map (oA i)):=by rw[hH2];exact(hA.ext E1).grown gx1 aP
   have dM : ∀k,H2.ext.get k=if k=H1.n then some (.cells (shL x ++ shC p.1 p.2) 16 (some H1.n)) else if k=b then some (.cells (shL x) 16 (some H1.n)) else H1.ext.get k:=fun k=>by rw[hH2];simp[Go.Id.grown,IH.fL,Tr.cE]
   have n2:H2.n=H1.n+1:=by rw[hH2];rfl
   have E2:Ext Hb H2:=by
    have E0:=hE.trans E1;refine⟨byOmega,by rw[hH2];exact E0.base,fun k hk=>?_,fun f hf=>?_⟩;·rw[dM,ad byOmega,ad byOmega];exact E0.get k hk
    ·rw[hH2]
     simp only[Go.Id.grown,Tr.cE];rw[ad byOmega];exact E0.cZ f hf
   rw[←hH2] at hap;obtain⟨H3,st,A3,E3,n3,_,oth⟩:=A2.Zw (P:=prog) (t:=61) sz61 hji (x:=oA (i+1) H1.n) (xs:=[oA (i+1) H1.n]) rfl rfl rfl E2 (ar _);rw[dG] at st;have K1:=E1.ae;simp -dsimp (disch:=omega) only[wpS,wpT,zE];refine drawn [(5,[9]),(7,[9])] ab ab rfl ?_;simp -dsimp (disch:=omega) only[wpS,wpT,zE,zL,zA,Xl,Cl,oi,f5,ix,ld,f2,L3,aU,aC,cD,←hH1,hap,st];have ldA:load prog H1 61 (a9 out j)=some wv:=by rw[so.ld K1 bq UN,cm,hb,hwv];rfl
   have L3':=JR L3 byOmega E1;refine⟨aB (ai rfl rfl rfl rfl (au rfl ld ldA)) (ai rfl rfl rfl rfl (au rfl L3 L3')),?_⟩;simp -dsimp (disch:=omega) only[wpS,wpT,zE,zA,f5];refine⟨Eb.trans E3,ll.set j (x ++ [p]),?_,.inr (.inr ⟨j,x,hx,.inr (.inl rfl)⟩)⟩;have esp:IH.aI (bs.map (oA i)) (j*1) [oA (i+1) H1.n]=(bs.map (oA i)).set j (oA (i+1) H1.n):=by rw[dG];exact jz bq
   have s3:=A3.1.sl;rw[esp] at s3;refine⟨_,by rw[dV,←hn];exact s3,by rw[dV];omega,fun k y hy=>?_⟩;rw[uW] at hy;by_cases hkj:j=k
   ·subst hkj;rw[ah rfl] at hy;split at hy
    ·cases hy;refine⟨oA (i+1) H1.n,by rw[IC bq],?_⟩;have g3:=oth H1.n (shL x ++ shC p.1 p.2) 16 (some H1.n) aP (by rw[dM,ah rfl]);have esh:shL (x ++ [p])=shL x ++ shC p.1 p.2:=by simp[shL]
     rw[←esh] at g3;refine⟨?_,bq,fun q hq=>?_⟩
     ·have e1:(shL (x ++ [p])).length=(i+1)*16:=by rw[ua,du,tL,q4]
      have e2:i+1≤2*(i+1) / 2:=byOmega;have e3:H1.n<H3.n:=byOmega;have this:cA H3 16 (oA (i+1) H1.n) (i+1) (shL (x ++ [p])):=eh g3 e3 (Nat.succ_pos 15) e1 (Nat.succ_pos _) e2;rw[du,tL,q4];exact this
     ·rcases eE.1 hq with hq|hq
      ·exact hxw q hq
      ·rw[iD.1 hq];exact hp
    ·cases hy
   ·rw[ad hkj] at hy;have hkl:=(bZ.1 hy).1;obtain⟨d,hd⟩ : ∃d,bs[k]?=some d:=⟨bs[k]' byOmega,bK byOmega⟩;obtain⟨r1',r2',r3',r4'⟩:=hR.2.2 k d y hd hy;have hdb:d≠b:=by rintro rfl;have e1:=(bZ.1 hb).2;have e2:=(bZ.1 hd).2;exact hkj ((List.getElem_inj hR.2.1).1 (e1.trans e2.symm))
    refine⟨oA i d,by rw[List.getElem?_set_ne hkj,cm,hd];rfl,?_⟩;exact yi (oth d _ 16 none aP (by rw[dM,ad byOmega,ad hdb];exact(E1.get d r2').trans r3')) byOmega byOmega r4' byOmega (hW y (bN hy))
  ·obtain⟨b0,hb0⟩:=fJ (l:=bs) (i:=0) byOmega
   obtain⟨x0,hx0⟩:=fJ (l:=ll) (i:=0) byOmega;obtain⟨t1,t2,t3,t4⟩:=hR.2.2 0 b0 x0 hb0 hx0;have ix0:indexAddr prog 38 out (KI 0)=some (a9 out 0):=so.idx ZaE (P:=prog) (k:=.i64) (j:=0) byOmega;have ld0:load prog hh 61 (a9 out 0)=some (oA i b0):=by rw[so.ld (aX.refl hh) bq UN,cm,hb0];rfl
   obtain⟨fF,h5,hap,hA5,hG5,hE5,oth⟩:=hA.Zcc (P:=prog) (t:=38) Yy (m:=1) (new:=[oA i b0]) byOmega rfl rfl byOmega byOmega hE (ar _);have n5:=hG5.n;simp -dsimp (disch:=omega) only[wpS,wpT,zE,zL,zA,Yj,Al,f5,ix0,ld0,hap];refine⟨Eb.trans hE5,ll ++ [x0],?_,.inr (.inl ⟨x0,bN hx0,rfl⟩)⟩;have s5:=hA5.1.sl;refine⟨_,by rw[du,tL,←hn];exact s5,bq,fun k y hy=>?_⟩;by_cases hkn:k<i;·rw[gF byOmega] at hy;obtain⟨d,hd⟩ : ∃d,bs[k]?=some d:=⟨bs[k]' byOmega,bK byOmega⟩;obtain⟨r1',r2',r3',r4'⟩:=hR.2.2 k d y hd hy;refine⟨oA i d,by rw[gF bq,cm,hd];rfl,?_⟩;exact yi (oth d _ 16 none r2' aP r3') byOmega byOmega r4' byOmega (hW y (bN hy))
   ·have hkl:=(bZ.1 hy).1
    rw[du,tL] at hkl;obtain rfl:k=i:=byOmega;rw[jv byOmega,show k - ll.length=0 by omega] at hy;cases hy;refine⟨oA k b0,by rw[jv bq];simp[bl],?_⟩;exact yi (oth b0 _ 16 none t2 aP t3) byOmega byOmega t4 byOmega (hW x0 (bN hx0))
  ·simp -dsimp (disch:=omega) only[wpS,wpT,zE,f5,ix,ld];rw[hwv];refine call (LW q3 q2 q4 byOmega byOmega hxw) ?_;rintro _ h6 ⟨S6,g6⟩;simp -dsimp (disch:=omega) only[wpS,zE,f5];obtain⟨z1,z2⟩:=Ig (h0:=h) sol hR byOmega byOmega byOmega hW Eh byOmega hb hx S6 g6 (by rw[List.length_reverse];exact q4) (fun q hq=>hxw q (List.mem_reverse.1 hq));exact⟨z1,_,z2,.inr (.inr ⟨j,x,hx,.inl rfl⟩)⟩
  ·simp -dsimp (disch:=omega) only[wpS,wpT,zE,f5];exact⟨Eh,ll,GN sol hR byOmega byOmega byOmega hW,.inl rfl⟩
end Go.Id
namespace Go.Proofs.YtnnmjocmapilaaaGreat
open Go.ChangeShapes Go.WideShapes Go.ChangeAt Go.RowKit Go.Id
def Vk:Tryz.prog.underlying 34=some (.struct { toList:=[{ name := "What",type:=5,offset:=0,embedded:=false,tag := "",pkgPath := "",byteOffset:=0 },{ name := "At",type:=5,offset:=1,embedded:=false,tag := "",pkgPath := "",byteOffset:=1 },{ name := "A",type:=32,offset:=2,embedded:=false,tag := "",pkgPath := "",byteOffset:=8 }] }):=ab
theorem Zea:Tryz.prog.cellsOf 34=18:=ab
def Tl (w a:Nat) (p:Nat×Nat):plain (bdV w a p)=true:=by have h:=DP p.1 p.2;simp only[bdV,plain,List.all_toArray,bdC,tM] at h ⊢;rw[h];rfl
def ZaT {m:Mp} (w a:Nat) (p:Nat×Nat):aW m (bdV w a p) (.agg (bdC w a p).toArray):=.cY (Tl w a p)
section
variable {H:Type} {enc:TypeId×Value→H} {W:World} {held:Bool}
def ZaS {fuel:Nat} {cs:List Value} {x:DataW H×List MemPlace} (h:DataW.trod enc Tryz.prog W 0 (fun _=>true) held fuel 34 cs=some x) :
  ∃(w a n d:Nat),w<256∧a<256∧n<W8∧d<W8∧cs=bdC w a (n,d):=by
 obtain⟨xs,m,_,_,hl,hn,hf⟩:=DataW.trod_struct Vk h;rw[Zea] at hl;have hn2:xs.length=3:=hn;obtain⟨x0,hx0⟩:=fJ (l:=xs) (i:=0) byOmega;have f0:DataW.trod enc Tryz.prog W 0 (fun _=>true) held m 5 ((cs.drop 0).take (Tryz.prog.cellsOf 5))=some x0:=(hf 0 { name := "What",type:=5,offset:=0,embedded:=false,tag := "",pkgPath := "",byteOffset:=0 } rfl).trans hx0;obtain⟨x1,hx1⟩:=fJ (l:=xs) (i:=1) byOmega;have f1:DataW.trod enc Tryz.prog W 0 (fun _=>true) held m 5 ((cs.drop 1).take (Tryz.prog.cellsOf 5))=some x1:=(hf 1 { name := "At",type:=5,offset:=1,embedded:=false,tag := "",pkgPath := "",byteOffset:=1 } rfl).trans hx1;obtain⟨x2,hx2⟩:=fJ (l:=xs) (i:=2) byOmega;have f2:DataW.trod enc Tryz.prog W 0 (fun _=>true) held m 32 ((cs.drop 2).take (Tryz.prog.cellsOf 32))=some x2:=(hf 2 { name := "A",type:=32,offset:=2,embedded:=false,tag := "",pkgPath := "",byteOffset:=8 } rfl).trans hx2;rw[Zd7] at f0 f1;rw[R9] at f2;rcases cs with _|⟨a,cs⟩;·simp at hl
 rcases cs with _|⟨b,cs⟩
 ·simp at hl
 obtain⟨k,e0,hk⟩:=pW (m:=255) rfl rfl Za f0;obtain⟨j,e1,hj⟩:=pW (m:=255) rfl rfl Za f1;obtain⟨n,d,hn',hd,e2⟩:=LO f2;cases e0;cases e1;refine⟨k,j,n,d,byOmega,byOmega,hn',hd,?_⟩
 have e3:cs=shC n d:=by
  rw[←e2]
  show cs=List.take 16 cs;rw[dr (by simp at hl;omega)]
 rw[e3]
end
end Go.Proofs.YtnnmjocmapilaaaGreat

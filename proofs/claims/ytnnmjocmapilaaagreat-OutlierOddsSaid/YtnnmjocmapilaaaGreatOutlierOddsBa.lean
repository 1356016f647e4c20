/-
  Contracts: reference 38's odds, First, Middle.
-/
import Derived.Test.YtnnmjocmapilaaaGreatOutlierOddsAz
import Derived.Test.YtnnmjocmapilaaaGreatOutlierOddsAu
set_option linter.unusedVariables false
set_option linter.unusedSimpArgs false
set_option linter.defProp false
set_option linter.deprecated false
namespace Go.Id
open Go
open Go renaming Operand→QY,Program→QX,TypeId→QZ,Value→QQ
open Nat renaming reduceAdd→zA,reduceEqDiff→zE,reduceLeDiff→zL
open Nat (reduceMul)
set_option maxHeartbeats 16000000
open Go.Proofs.Tryz (prog)
noncomputable def uH (ll:List (List (Nat×Nat))) (t:List Nat) (f:List (Nat×Nat)) (e:Nat×Nat) (n:Int) (w:Option Nat):QQ :=
 if sV ll t f e n=0 then mU (pC t (fun s=>cX ll.length (kAt ll) n.toNat s fun o=>sC f w (rOf e) (s :: o)) ll.length) else ZdT (sV ll t f e n)
section
variable {ll:List (List (Nat×Nat))}{f:List (Nat×Nat)}{e:Nat×Nat}{t:List Nat}{h:IH}{kv:QQ}{n:Int}{wv fv:QQ}
def GO {w:Option Nat} (hk:je h kv ll) (hw:mS h wv t) (hf:iS h fv f) (he:e.1<W8∧e.2<W8) (hn:gV n) (h8:ll.length≤8) (hwn : ∀a,w=some a→a=0) :WV prog (.func (.func 81) #[] #[]) [kv,wv,fv,KI n,shV e.1 e.2,KI (atZ w)] h fun r h'=>Ext h h'∧r=uH ll t f e n w:=by
 obtain⟨H0,hH0,n0,E0,g10,g12⟩:=gN h (shC e.1 e.2) Z16;obtain⟨_,_,hlen⟩:=hk.co;have Zde:=hw.1.len (P:=prog) AM;refine enter (nt:=74) (rs:=[.cell 12 32,.tmp 13]) Proofs.Tryz.func81 rfl rfl rfl aa ?_;simp -dsimp (disch:=try exact dx) only[wpS,zE,zL,zA,lX,dX,aU,aC,bF];rw[←hH0];clear hH0;refine call (Jk (hk.ae E0.ae) (hw.ae E0.ae) (hf.ae E0.ae) he hn) ?_;rintro _ h1 ⟨X1,rfl⟩;have m1:=X1.n;have E1:=E0.trans X1;replace g10:=X1.kept byOmega g10;replace g12:=X1.kept byOmega g12;unfold uH;by_cases c:sV ll t f e n=0
 case neg =>
  have d:(sV ll t f e n != 0)=true:=by simpa using c
  rw[ad c];simp -dsimp (disch:=omega) only[wpS,wpT,zE,zL,zA,dX,Ky,iJ,d,g12];exact⟨E1.put byOmega _,rfl⟩
 obtain⟨ko,tl,tn,⟨pz,pzm,pz0⟩,_,fo,oke,fl,e0,e1,n0',n20⟩:=vP c;rw[ah c,c];simp -dsimp (disch:=omega) only[wpS,wpT,zE];refine call (qA 0 ⟨byOmega,byOmega⟩) ?_;rintro _ h2 ⟨X2,p2⟩;obtain⟨s2,rfl,u1,u2⟩:=ZbL p2 (Int.le_refl _);have m2:=X2.n;simp -dsimp (disch:=omega) only[wpS,wpT,zE,zL,zA,ou,jI,u2];obtain⟨H2,hH2⟩:=bm ((h2.new (.cells ZL 0 none)).put h2.n (.cells [.bool false,s2] 0 none));have F2:Ext h2 H2:=by rw[hH2];exact((Ext.refl h2).new _).put (ar _) _
 have n2:H2.n=h2.n+1:=by rw[hH2];rfl
 have g15:H2.ext.get h2.n=some (.cells [.bool false,s2] 0 none):=by rw[hH2];simp (disch:=omega) only[ak]
 rw[←hH2];clear hH2;have bw:=yS hw.2.2;refine loop (fun m fr H => ∃(i:Nat) (s':QQ),i+m=t.length∧Ext h1 H∧h2.n<H.n∧H.ext.get h2.n=some (.cells [.bool false,s'] 0 none)∧bU H (.agg #[.bool false,s']) ((oU t i:Nat):Int)∧aj fr 0=some kv∧aj fr 1=some wv∧aj fr 2=some fv∧aj fr 3=some (KI n)∧aj fr 5=some (KI (atZ w))∧aj fr 10=some (ptr (2*h.n) 0)∧aj fr 12=some (ptr (2*(h.n+1)) 0)∧aj fr 15=some (ptr (2*h2.n) 0)∧aj fr 16=some (KN i)) t.length
  ⟨0,s2,byOmega,X2.trans F2,byOmega,g15,p2.ae F2.ae,aa⟩ ?_
 clear g15 p2;rintro m fr H ⟨i,s',him,E,hn2,g15,pS,f0,f1,f2,f3,f5,f10,f12,f15,f16⟩;simp -dsimp (disch:=omega) only[wpS,zE,f1,f16,Zde];refine az ?_ ?_<;>intro hc<;>simp only[aJ,aV] at hc
 ·have hi:i<t.length:=byOmega;obtain⟨p,hp⟩:=fJ (l:=t) (i:=i) hi;have hpm:=bN hp;have wp:=hw.2.2 p hpm;have gp:t.getD i 0=p:=by rw[bC,hp];rfl
  have ix:=hw.1.idx Kk (P:=prog) (k:=.i64) hi;have L15:=ql2n g15;have X0:=Ext.refl H;simp -dsimp (disch:=omega) only[wpS,wpT];refine drawn [(0,[6])] ab ab rfl ?_;simp -dsimp (disch:=omega) only[wpS,wpT,zE,zL,zA,de,f1,f15,f16,aw g15,tk2a,ix,hw.ld (E1.trans E).ae hp];refine call (vX p wp) ?_;rintro r3 h3 ⟨X3,p3⟩;simp -dsimp (disch:=omega) only[wpS,zE];refine call (zB (pS.ae X3.ae) p3 (bV (x:=((oU t i:Nat):Int).natAbs) (k:=512+i) (by rw[jU];exact wK bw i byOmega) byOmega) (bV (k:=512) (bw p hpm) byOmega)) ?_;rintro _ h4 ⟨X4,p4⟩;rw[show((oU t i:Nat):Int)+wdI p=((oU t (i+1):Nat):Int) by have:=tn p hpm;rw[oU,gp];omega] at p4;obtain⟨s4,rfl,v1,v2⟩:=ZbL p4 (AE _);have X34:=X3.trans X4;have m4:=X34.n;have g4:=X34.kept hn2 g15;simp -dsimp (disch:=omega) only[wpS,wpT,zE,zL,zA,jI,f15,g4,v2];refine⟨ai rfl rfl rfl rfl (aO (H0:=H) (b:=2*h2.n) (o:=0) f15 byOmega X0 X3 L15),?_⟩;simp -dsimp (disch:=omega) only[wpS,wpT,zE,zA,f16];exact⟨m - 1,byOmega,i+1,s4,byOmega,(E.trans X34).put byOmega _,by simp only[bd];omega,ak _ _ rfl,p4.ae ((aX.refl _).put g4 _),by simp[f0,f1,f2,f3,f5,f10,f12,f15]⟩
 obtain rfl:i=t.length:=byOmega;clear hc f16;simp -dsimp (disch:=omega) only[wpS,wpT];refine call (lC 0 1 ⟨byOmega,byOmega⟩ ⟨byOmega,byOmega⟩ byOmega) ?_;rintro _ h4 ⟨X4,p4⟩;rw[ux] at p4;have m4:=X4.n;obtain⟨za,zs,zb,zt,rfl,_,_,_,z1,_,z2,z3,z4⟩:=p4.parts;simp -dsimp (disch:=omega) only[wpS,wpT,zE,zL,zA,jF,fS,z1,z2,z3,z4];obtain⟨H5,hH5⟩:=bm ((h4.new (.cells ZR 0 none)).put h4.n (.cells [za,zs,zb,zt] 0 none));have F5:Ext h4 H5:=by rw[hH5];exact((Ext.refl h4).new _).put (ar _) _
 have n5:H5.n=h4.n+1:=by rw[hH5];rfl
 have g17:H5.ext.get h4.n=some (.cells [za,zs,zb,zt] 0 none):=by rw[hH5];simp (disch:=omega) only[ak]
 rw[←hH5];clear hH5;have X5:=X4.trans F5;have hz:=Dx hw.2.2 tn ⟨pz,pzm,pz0⟩;have h0:0<t.length:=List.length_pos_of_mem pzm;obtain⟨D,hD⟩:=JT ko fun i j hi hj=>hk.ZdZ ko hi hj;have hX:512*ll.length*ll.length≤512*8*8:=fB (Iw _ h8) h8;have hD' : ∀i j,i<ll.length→j<ll.length→OvL D (512*8*8) (kAt ll i j):=fun i j hi hj=>(hD i j hi hj).mono hX;have ps:KH ll f n.toNat w (rOf e) D (512*8*8):=⟨ko,h8,fl,fo,byOmega,fun a ha=>by rw[hwn a ha];omega,jY he.1 he.2 oke,hD'⟩;obtain⟨M,hM⟩:=Le (f:=f) (w:=w) (e:=rOf e) ps.s20;have kb:n.toNat*(512*8*8+ll.length)≤20*(512*8*8+8):=fB ps.s20 byOmega;have kb2:n.toNat*(512*8*8+8)≤20*(512*8*8+8):=cT _ ps.s20;have hG : ∀s,s<ll.length→OvL (D ^ n.toNat*M) (n.toNat*(512*8*8+ll.length)+26) (cX ll.length (kAt ll) n.toNat s fun o=>sC f w (rOf e) (s :: o)):=fun s hs=>D5 hD' _ s _ hs fun l hl _=>hM _ (by rw[gX,hl]);refine loop (fun m fr H => ∃(i:Nat) (a' s' b' t' sS:QQ),i+m=ll.length∧Ext h1 H∧h4.n<H.n∧H.ext.get h2.n=some (.cells [.bool false,sS] 0 none)∧bU H (.agg #[.bool false,sS]) ((oU t t.length:Nat):Int)∧H.ext.get h4.n=some (.cells [a',s',b',t'] 0 none)∧fX H (.agg #[a',s',b',t']) (pC t (fun s=>cX ll.length (kAt ll) n.toNat s fun o=>sC f w (rOf e) (s :: o)) i)∧aj fr 0=some kv∧aj fr 1=some wv∧aj fr 2=some fv∧aj fr 3=some (KI n)∧aj fr 5=some (KI (atZ w))∧aj fr 10=some (ptr (2*h.n) 0)∧aj fr 12=some (ptr (2*(h.n+1)) 0)∧aj fr 15=some (ptr (2*h2.n) 0)∧aj fr 17=some (ptr (2*h4.n) 0)∧aj fr 18=some (KN i)) ll.length
  ⟨0,za,zs,zb,zt,s',byOmega,E.trans X5,byOmega,X5.kept byOmega g15,pS.ae X5.ae,g17,p4.ae F5.ae,by simp[f0,f1,f2,f3,f5,f10,f12,f15]⟩ ?_
 clear g15 pS g17 p4 f0 f1 f2 f3 f5 f10 f12 f15 z1 z2 z3 z4;rintro m fr H' ⟨i,a',s3,b',t',sS,him,E',hn4,g15,pS,g17,p17,f0,f1,f2,f3,f5,f10,f12,f15,f17,f18⟩;simp -dsimp (disch:=omega) only[wpS,zE,f0,f18,hlen];refine az ?_ ?_<;>intro hc<;>simp only[aJ,aV] at hc
 ·have hi:i<ll.length:=byOmega;obtain⟨p,hp⟩:=fJ (l:=t) (i:=i) byOmega;have hpm:=bN hp;have wp:=hw.2.2 p hpm;have gp:t.getD i 0=p:=by rw[bC,hp];rfl
  have ix:=hw.1.idx Kk (P:=prog) (k:=.i64) (j:=i) byOmega;have EE:=E1.trans E';have nE:=E'.n;have L15:=ql2n g15;have X0:=Ext.refl H';have K0:=EE.ae;simp -dsimp (disch:=omega) only[wpS,wpT];refine drawn [(5,[4])] ab ab rfl ?_;simp -dsimp (disch:=omega) only[wpS,zE,f1,f18,ix,hw.ld K0 hp];refine call (vX p wp) ?_;rintro r6 h6 ⟨X6,p6⟩;have m6:=X6.n;have K6:=(EE.trans X6).ae;simp -dsimp (disch:=omega) only[wpS,wpT,zE,zL,zA,de,f15,aw (X6.kept byOmega g15),tk2a];refine call (nw p6 (pS.ae X6.ae) (bV (k:=512) (bw p hpm) byOmega) (bV (x:=((oU t t.length:Nat):Int).natAbs) (k:=512+t.length) (by rw[jU];exact wK bw _ (ar _)) byOmega) byOmega) ?_;rintro r7 h7 ⟨X7,p7⟩;have m7:=X7.n;have eq7:Rat.divInt (wdI p) ((oU t t.length:Nat):Int)=wQ t i / rs t.length (wQ t):=by rw[yT tn _ (ar _),oK,wQ,gp];rfl
  rw[eq7] at p7;obtain⟨ya,ys,yb,yt,rfl,_,_,_,y1,_,y2,y3,y4⟩:=p7.parts;have X67:=X6.trans X7;simp -dsimp (disch:=omega) only[wpS,wpT,zE,zL,zA,jF,fS,y1,y2,y3,y4];refine⟨ai rfl rfl rfl rfl (aO (H0:=H') (b:=2*h2.n) (o:=0) f15 byOmega aG aG L15),?_⟩;obtain⟨H8,hH8⟩:=bm ((h7.new (.cells ZR 0 none)).put h7.n (.cells [ya,ys,yb,yt] 0 none));have F8:Ext h7 H8:=by rw[hH8];exact((Ext.refl h7).new _).put (ar _) _
  have n8':H8.n=h7.n+1:=by rw[hH8];rfl
  have g19:H8.ext.get h7.n=some (.cells [ya,ys,yb,yt] 0 none):=by rw[hH8];simp (disch:=omega) only[ak]
  rw[←hH8];clear hH8;have X8:=X67.trans F8;replace g15:=X8.kept byOmega g15;replace g17:=X8.kept byOmega g17;have g10':=(E'.trans X8).kept byOmega g10;replace pS:=pS.ae X8.ae;replace p17:=p17.ae X8.ae;have p19:=p7.ae F8.ae;have E8:=E'.trans X8;have EE8:=E1.trans E8;obtain⟨_,_,L17⟩:=ql4 g17;obtain⟨_,_,L19⟩:=ql4 g19;have FN:Ext H8 (H8.new (.cells [KN i] 1 none)):=(Ext.refl H8).new _;have Y0:=Ext.refl H8;have sb:KK (H8.new (.cells [KN i] 1 none)) (.slice (some ⟨2*H8.n,0,none⟩) 1 3) ([i].map fun a:Nat=>(a:Int)):=⟨qM H8 (m:=1) byOmega rfl byOmega,aa,fun x hx=>by
   have hx:x=(i:Int):=iD.1 hx;rw[hx];exact⟨byOmega,byOmega⟩⟩
  have en:n=((n.toNat:Nat):Int):=byOmega;rw[en] at f3;clear p6 p7;simp -dsimp (disch:=omega) only[wpS,wpT,zA];refine drawn [(0,[9,10,11]),(5,[10])] ab ab rfl ?_;simp -dsimp (disch:=omega) only[wpS,wpT,zE,zL,zA,dX,fU,Ah,f0,f2,f3,f5,f10,f17,f18,aw g10',aw g17,aw g19,aC,bF,fm];refine call (lz e.1 e.2 he.1 he.2) ?_;rintro r10 h10 ⟨X10,p10⟩;have p10:=p10.rat oke;have m10:=X10.n;have Y10:=FN.trans X10;have K10:=(EE8.trans Y10).ae;simp -dsimp (disch:=omega) only[wpS,zE];refine call (DV ps n.toNat (b:=[i]) (hk.ae K10) (hf.ae K10) (sb.ae X10.ae) (p19.ae Y10.ae) p10 bq aa bq (yR hw.2.2 tn hz byOmega) byOmega) ?_;rintro r11 h11 ⟨X11,p11⟩;have m11:=X11.n;have Y11:=Y10.trans X11;have p11':fX h11 r11 (wQ t i / rs t.length (wQ t)*cX ll.length (kAt ll) n.toNat i fun o=>sC f w (rOf e) (i :: o)):=p11;simp -dsimp (disch:=omega) only[wpS,zE];refine call (sL (p17.ae Y11.ae) p11' (JN hw.2.2 tn hz h0 (fun s hs=>hG s byOmega) byOmega).qb ((yR hw.2.2 tn hz byOmega).mul (hG i hi)).qb byOmega) ?_;rintro _ h12 ⟨X12,p12⟩;have m12:=X12.n;have Y12:=Y11.trans X12;have nY:=Y12.n;obtain⟨wa,ws,wb,wt,rfl,_,_,_,w1,_,w2,w3,w4⟩:=p12.parts;have k12:=Y12.kept byOmega g17;simp -dsimp (disch:=omega) only[wpS,wpT,zE,zL,zA,fS,f17,k12,w1,w2,w3,w4];refine⟨by repeat' first|refine aB ?_ ?_|refine aA ?_ ?_|exact ai rfl rfl rfl rfl (aO (H0:=H8) (b:=2*h4.n) (o:=0) f17 byOmega aG aG L17)|exact ai rfl rfl rfl rfl (aO (H0:=H8) (b:=2*h7.n) (o:=0) aa byOmega aG aG L19),?_⟩;simp -dsimp (disch:=omega) only[wpS,wpT,zE,zA,f18];exact⟨m - 1,byOmega,i+1,wa,ws,wb,wt,sS,byOmega,(E8.trans Y12).put byOmega _,by simp only[bd];omega,by simp (disch:=omega) only[ax];exact Y12.kept byOmega g15,(pS.ae Y12.ae).ae ((aX.refl _).put k12 _),ak _ _ rfl,p12.ae ((aX.refl _).put k12 _),by simp[f0],by simp[f1],by simp[f2],by simp[f3];omega,by simp[f5,f10,f12,f15,f17]⟩
 obtain rfl:i=ll.length:=byOmega;have EE:=E1.trans E';simp -dsimp (disch:=omega) only[wpS,wpT,zE,zL,zA,fU,f17,aw g17,fm];refine call (wP p17) ?_;rintro _ h9 ⟨X9,rfl⟩;have mE:=E'.n;have m9:=X9.n;have g129:=(E'.trans X9).kept byOmega g12;obtain⟨x,y,er,hf'⟩:=pZ (pC t (fun s=>cX ll.length (kAt ll) n.toNat s fun o=>sC f w (rOf e) (s :: o)) ll.length);rw[hf'];unfold mU at hf';rw[hf'];simp -dsimp (disch:=omega) only[wpS,wpT,zE,zL,zA,dX,iJ,f12,g129,aU,aC,bH,cD,bF];exact⟨(EE.trans X9).put byOmega _,rfl⟩
def Eg (ll:List (List (Nat×Nat))) (t:List Nat) (f:List (Nat×Nat)) (e:Nat×Nat) (n:Int) (w:Option Nat) : ∃x y er,uH ll t f e n w=.tuple #[shV x y,KI er]:=by
 unfold uH;split;·exact pZ _
 ·exact⟨0,0,_,rfl⟩
def Jn (hk:je h kv ll) (hw:mS h wv t) (hf:iS h fv f) (he:e.1<W8∧e.2<W8) (hn:gV n) (h8:ll.length≤8) :WV prog (.func (.func 21) #[] #[]) [kv,wv,fv,KI n,shV e.1 e.2] h fun r h'=>Ext h h'∧r=uH ll t f e n (some 0):=by obtain⟨H0,hH0,n0,E0,g9,g10⟩:=gN h (shC e.1 e.2) Z16;refine enter (nt:=20) (rs:=[.cell 10 32,.tmp 11]) Proofs.Tryz.func21 rfl rfl rfl aa ?_;simp -dsimp (disch:=try exact dx) only[wpS,zE,zL,zA,lX,dX,aU,aC,bF];rw[←hH0];clear hH0;refine call (GO (w:=some 0) (hk.ae E0.ae) (hw.ae E0.ae) (hf.ae E0.ae) he hn h8 (fun a ha=>by cases ha;try rfl)) ?_;rintro _ h1 ⟨X1,rfl⟩;obtain⟨x,y,er,hf'⟩:=Eg ll t f e n (some 0);rw[hf'];have Py:=X1.kept byOmega g10;simp -dsimp (disch:=omega) only[wpS,wpT,zE,zL,zA,dX,iJ,Py,aU,aC,bH,cD,bF];exact⟨(E0.trans X1).put byOmega _,rfl⟩
def FZ (hk:je h kv ll) (hw:mS h wv t) (hf:iS h fv f) (he:e.1<W8∧e.2<W8) (hn:gV n) (h8:ll.length≤8) :WV prog (.func (.func 23) #[] #[]) [kv,wv,fv,KI n,shV e.1 e.2] h fun r h'=>Ext h h'∧r=uH ll t f e n (none):=by obtain⟨H0,hH0,n0,E0,g9,g10⟩:=gN h (shC e.1 e.2) Z16;refine enter (nt:=20) (rs:=[.cell 10 32,.tmp 11]) Proofs.Tryz.func23 rfl rfl rfl aa ?_;simp -dsimp (disch:=try exact dx) only[wpS,zE,zL,zA,lX,dX,aU,aC,bF];rw[←hH0];clear hH0;refine call (GO (w:=none) (hk.ae E0.ae) (hw.ae E0.ae) (hf.ae E0.ae) he hn h8 (fun a ha=>by cases ha;try rfl)) ?_;rintro _ h1 ⟨X1,rfl⟩;obtain⟨x,y,er,hf'⟩:=Eg ll t f e n (none);rw[hf'];have Py:=X1.kept byOmega g10;simp -dsimp (disch:=omega) only[wpS,wpT,zE,zL,zA,dX,iJ,Py,aU,aC,bH,cD,bF];exact⟨(E0.trans X1).put byOmega _,rfl⟩





theorem Th (l:List Rat) (a:Rat):l.foldl (· + ·) a=a+jJ l:=by
 induction l generalizing a with
 | nil=>exact(lP a).symm
 | cons b l ih =>
  show l.foldl (· + ·) (a+b)=a+l.foldl (· + ·) (0+b);rw[ih,ih,Aw,Rat.add_assoc]
theorem GQ (q:Rat) (l:List Rat):jJ (q :: l)=q+jJ l:=by show l.foldl (· + ·) (0+q)=_;rw[Th,Aw]




def kerL (ll:List (List (Nat×Nat))) (ws:List Nat) (s:List Int) (lev:Int):List (List (Nat×Nat)):=lh ll (mapZ (ZcA s lev) ws ws.length)

structure Reps (H:IH) (n1:Nat) (ks:List Nat) (lv:List Int) (kvs:List Value) (at_:Nat→Nat):Prop where
 len:ks.length=kvs.length
 asc : ∀(i j a b:Nat),i<j→ks[i]?=some a→ks[j]?=some b→a<b
 get : ∀(j k:Nat),ks[j]?=some k→n1≤k∧k<H.n ∧ ∃kv,kvs[j]?=some kv∧H.ext.get k=some (.cells [KI (lv.getD j 0),kv,KN (at_ j)] 0 none)
def pk (k:Nat):QQ:=ptr (2*k) 0
structure RdA (h H:IH) (c b18:Nat) (ll:List (List (Nat×Nat))) (ws:List Nat) (s lv:List Int) (i:Nat) (cpv:QQ) (ks:List Nat) (kvs:List QQ) (n1:Nat):Prop where
 e:Ext h H
 g11:H.ext.get h.n=some (.cells [K64 c] 0 none)
 g12:H.ext.get (h.n+1)=some (.cells [.slice none 0 0] 0 none)
 g13:H.ext.get (h.n+2)=some (.cells [KI 0] 0 none)
 g14:H.ext.get (h.n+3)=some (.cells [.int .u64 0] 0 none)
 g15:H.ext.get (h.n+4)=some (.cells [KI 0] 0 none)
 bn:h.n+4<b18∧b18<n1∧n1≤H.n
 g18:H.ext.get b18=some (.cells [cpv] 0 none)
 acc:Acc H h.n 1 cpv i (ks.map pk)
 rep:Reps H n1 ks lv kvs (fun _=>0)
 ker : ∀(j:Nat) b,j<i→lv[j]?=some b → ∃kv',kvs[j]?=some kv'∧je H kv' (kerL ll ws s b)∧levE ll ws s b=0
structure RdB (h H:IH) (ci b18:Nat) (sw:Int) (lv:List Int) (cpv:QQ) (ks:List Nat) (kvs:List QQ) (n1:Nat) (f:Nat→Nat):Prop where
 e:Ext h H
 g11:H.ext.get h.n=some (.cells [K64 ci] 0 none)
 g12:H.ext.get (h.n+1)=some (.cells [.slice none 0 0] 0 none)
 g13:H.ext.get (h.n+2)=some (.cells [KI sw] 0 none)
 g14:H.ext.get (h.n+3)=some (.cells [.int .u64 0] 0 none)
 g15:H.ext.get (h.n+4)=some (.cells [KI 0] 0 none)
 bn:h.n+4<b18∧b18<n1∧n1≤H.n
 g18:H.ext.get b18=some (.cells [cpv] 0 none)
 acc:Acc H h.n 1 cpv lv.length (ks.map pk)
 rep:Reps H n1 ks lv kvs f
structure TLf (fr:Fr) (w v14 v17:Value) (a b i j:Int) (bx:Nat):Prop where
 f1:aj fr 1=some w
 f2:aj fr 2=some (KI a)
 f3:aj fr 3=some (KI b)
 f4:aj fr 4=some (KI i)
 f5:aj fr 5=some (KI j)
 f6:aj fr 6=some (ptr (2*bx) 0)
 f14:aj fr 14=some v14
 f17:aj fr 17=some v17
section
variable {h hh:IH} {fr:Fr} {sz bx:Nat} {vN vS vL vA vR vQ w:Value} {lN lS lL lA ws:List Nat} {lR lQ:List Int} {a b i j:Int}
def ZcB (x:Int) : ∃y:Nat,IntKind.u64.wrap x=(y:Int):=by
 have h:0≤IntKind.u64.wrap x:=by show 0≤x % 18446744073709551616;omega
 exact⟨_,(Int.toNat_of_nonneg h).symm⟩
end
def UE {h:IH} {v:Value} {ll:List (List (Nat×Nat))} {w a:Nat} {p:Nat×Nat} (hv:je h v ll) (l0:0<ll.length) (hl:ll.length≤60) (hr : ∀x∈ll,x.length=ll.length) (hw:w<256) (ha:a<256) (hp:p.1<W8∧p.2<W8) :WV Proofs.Tryz.prog (.func (.func 11) #[] #[]) [bdV w a p,v] h fun r h'=>Ext h h' ∧ ∃mm,je h' r mm∧P4 p ll mm:=by
 have E1:Ext h (h.new (.cells (bdC w a p) 0 none)):=(Ext.refl h).new _;have g1:(h.new (.cells (bdC w a p) 0 none)).ext.get h.n=some (.cells (bdC w a p) 0 none):=by simp (disch:=omega) only[aq]
 have l18:(bdC w a p).length=18:=by simp[aC]
 have t18:List.take 18 (List.drop 0 (bdC w a p))=bdC w a p:=by rw[cp,dr byOmega]
 refine enter (nt:=8) (rs:=[.tmp 4]) Proofs.Tryz.func11 rfl rfl rfl aa ?_;simp -dsimp (disch:=omega) only[wpS,Nat.reduceEqDiff,Nat.reduceLeDiff,Nat.reduceAdd,Zdh,Ih,l18,t18];refine call (ZaR (hv.ae E1.ae) l0 hl hr hw ha hp) ?_;rintro r h2 ⟨X2,mm,h3,h4⟩;simp -dsimp (disch:=omega) only[wpS,Nat.reduceEqDiff];exact⟨E1.trans X2,mm,h3,h4⟩
structure LVf (fr:Fr) (w:Value) (l:Int) (bx bb:Nat):Prop where
 f2:aj fr 2=some w
 f3:aj fr 3=some (KI l)
 f4:aj fr 4=some (ptr (2*bx) 0)
 f5:aj fr 5=some (ptr (2*bb) 0)
section
variable {h hh:IH} {fr:Fr} {sz bx bb:Nat} {vN vS vL vA vR vQ w:Value} {lN lS lL lA ws:List Nat} {lR lQ:List Int} {l:Int}
end
structure RDf (fr:Fr) (vr:Value) (bx bb bc:Nat):Prop where
 f3:aj fr 3=some vr
 f4:aj fr 4=some (ptr (2*bx) 0)
 f5:aj fr 5=some (ptr (2*bb) 0)
 f6:aj fr 6=some (ptr (2*bc) 0)
section
variable {h hh:IH} {fr:Fr} {sz bx bb bc s:Nat} {vN vS vL vA vR vQ vr:Value} {lN lS lL lA ws:List Nat} {lR lQ lr:List Int}
end
end
def gJ (q:Rat) (B:Nat):Prop:=∃a:Int,q*(B:Rat)=(a:Rat)
theorem BI (q:Rat):q*(q.den:Rat)=(q.num:Rat):=by
 have h:((q.num:Int):Rat) / (q.den:Rat)=q:=by have:=uS q;rw[oK] at this;exact this
 have hd:(0:Rat)<(q.den:Rat):=Ir.2 q.den_pos;grind
variable {B:Nat}{q:Rat}
def K4 (h:q.den∣B):gJ q B:=by obtain⟨k,rfl⟩:=h;refine⟨q.num*k,?_⟩;have h1:q*(q.den:Rat)=(q.num:Rat):=BI q;rw[Rat.natCast_mul,←Rat.mul_assoc,h1,uT];rfl
def gJ.mul (h:gJ q B) (k:Nat):gJ q (B*k):=by obtain⟨a,ha⟩:=h;exact⟨a*k,by rw[Rat.natCast_mul,←Rat.mul_assoc,ha,uT];rfl⟩
def gJ.sub {r:Rat} (h:gJ q B) (k:gJ r B):gJ (q - r) B:=by obtain⟨a,ha⟩:=h;obtain⟨b,hb⟩:=k;exact⟨a - b,by rw[Rat.intCast_sub,←ha,←hb];grind⟩
def Od (hB:0<B) (h0:0≤q) (h1:q≤1) (h:gJ q B):q.den∣B∧0≤q.num∧q.num≤q.den:=by
 have n0:0≤q.num:=tC.2 h0;have n1:q.num≤q.den:=by have hd:(0:Rat)<(q.den:Rat):=Ir.2 q.den_pos;have e:q*(q.den:Rat)=(q.num:Rat):=BI q;have h2:q*(q.den:Rat)≤1*(q.den:Rat):=NI h1 (oJ hd);rw[e,Rat.one_mul] at h2;have:((q.num:Int):Rat)≤((q.den:Int):Rat):=h2;exact Rat.intCast_le_intCast.1 this
 refine⟨?_,n0,n1⟩;obtain⟨a,ha⟩:=h;have hBr:(0:Rat)<(B:Rat):=Ir.2 hB;have a0:0≤a:=by
  have:(0:Rat)≤(a:Rat):=by rw[←ha];exact xP h0 (oJ hBr)
  exact_mod_cast this
 obtain⟨y,rfl⟩:=fD a0;obtain⟨m,_,_,e2⟩:=z9 (y:=y) hB;have hq:q=Rat.divInt (y:Nat) (B:Nat):=by rw[oK];have e1:((B:Int):Rat)=(B:Rat):=rfl;have e2:(((y:Nat):Int):Rat)=q*(B:Rat):=ha.symm;rw[e1,e2];grind
 rw[←hq] at e2;exact⟨m,e2⟩
def QV : ∀(l:List Rat),(∀q∈l,0≤q)→0≤jJ l
 | [],_=>by show(0:Rat)≤0;exact tD
 | q :: l,h=>by have h1:=h q aa;have h2:=QV l fun x hx=>h x (by simp[hx]);rw[GQ];grind
def Q0 : ∀(l:List Rat),(∀q∈l,0≤q) → ∀q∈l,q≤jJ l
 | [],_,q,hq=>by cases hq
 | a :: l,h,q,hq=>by
  have h1:=h a aa;have h2:=QV l fun x hx=>h x (by simp[hx]);rw[GQ];rcases dD.1 hq with rfl|hq;·grind
  ·have h3:=Q0 l (fun x hx=>h x (by simp[hx])) q hq
   grind
variable {ll:List (List (Nat×Nat))}{i:Nat}{t:List Nat}
def PF (k:fy ll) (ht:t.length=ll.length) (hp : ∀p∈t,1≤wdI p) (hi:i<ll.length):(∀q∈gL ll t i,0≤q)∧jJ (gL ll t i)=1∧(∀j,j<ll.length→0≤goQ ll t i j∧goQ ll t i j≤kAt ll i j):=by
 have hw : ∀i,i<ll.length→0<dh (t.getD i 0):=fun i hi=>by
  have:=hp _ (iE (show i<t.length by omega));rw[bC,bK byOmega,mZ];unfold dh;exact CR.2 byOmega
 have hk : ∀i j,i<ll.length→j<ll.length→0≤kAt ll i j:=fun i j hi hj=>by obtain⟨_,p,_,_,_,e4,e5,e6⟩:=fV k hi hj;rw[e6];exact OJ e4 e5
 have hg : ∀i j,i<ll.length→j<ll.length→0≤goQ ll t i j∧goQ ll t i j≤kAt ll i j:=fun i j hi hj=>by
  have h1:=hk i j hi hj;have h2:=hk j i hj hi;have w1:=hw i hi;have w2:=hw j hj;unfold goQ;split;·rename_i c;refine⟨?_,oJ c⟩;rw[Rat.div_def];exact xP (xP h2 (oJ w2)) (oJ (Rat.inv_pos.2 w1))
  ·exact⟨h1,tD⟩
 have hq : ∀i j,i<ll.length→j<ll.length→0≤rE ll t i j:=fun i j hi hj=>by
  unfold rE;split;·have h1:=AV (i:=i) (m:=ll.length) (g:=goQ ll t i) (k:=kAt ll i) fun j hj=>(hg i j hi hj).2;have h2:=vO (kAt ll i) i ll.length;rw[QO k hi,ah hi] at h2;have h3:=hk i i hi hi;grind
  ·exact(hg i j hi hj).1
 refine⟨fun q hq'=>?_,?_,fun j hj=>hg i j hi hj⟩;·obtain⟨j,hj⟩:=lV hq';have hjl:=(bZ.1 hj).1;rw[iQ] at hjl;rw[nI hjl] at hj;cases hj;exact hq i j hi hjl
 ·have h1:=Jh (goQ ll t i) (rY (goQ ll t i) i ll.length) i ll.length
  have h2:=vO (goQ ll t i) i ll.length;rw[ah hi] at h1 h2;have e:gL ll t i=(List.range ll.length).map fun j=>if j=i then rY (goQ ll t i) i ll.length else goQ ll t i j:=rfl;rw[e,h1];grind
theorem gJ.times (h:gJ q B) (x y:Nat) (hy:0<y):gJ (q*(x:Rat) / (y:Rat)) (B*y):=by obtain⟨a,ha⟩:=h;refine⟨a*x,?_⟩;have hy':(0:Rat)<(y:Rat):=Ir.2 hy;rw[Rat.natCast_mul,uT,←ha];show q*(x:Rat) / (y:Rat)*((B:Rat)*(y:Rat))=q*(B:Rat)*(x:Rat);grind
def Ee {g:Nat→Rat} {B i:Nat} : ∀{m:Nat},(∀j,j<m→gJ (g j) B)→gJ (rY g i m) B
 | 0,_=>⟨B,by rw[rY,Rat.one_mul];rfl⟩
 | m+1,h=>by
  have ih:=Ee (i:=i) (m:=m) fun j hj=>h j byOmega;rw[rY];split;·exact ih
  ·exact ih.sub (h m byOmega)
def PD {D:Nat} (hD : ∀i j,i<ll.length→j<ll.length→gJ (kAt ll i j) D) {T:Nat→Nat} (hT : ∀i,i<ll.length→0<T i∧dh (t.getD i 0)=(T i:Rat)) (hi:i<ll.length) : ∀q∈gL ll t i,gJ q (D*T i):=by
 have hg : ∀j,j<ll.length→gJ (goQ ll t i j) (D*T i):=fun j hj=>by
  unfold goQ;split;·rw[(hT j hj).2,(hT i hi).2];exact(hD j i hj hi).times _ _ (hT i hi).1
  ·exact(hD i j hi hj).mul _
 intro q hq;obtain⟨j,hj⟩:=lV hq;have hjl:=(bZ.1 hj).1;rw[iQ] at hjl;rw[nI hjl] at hj;cases hj;unfold rE;split;·exact Ee hg
 ·exact hg j hjl
def Y6 (hB:0<B) (hB2:B<H8) (h0:0≤q) (h1:q≤1) (h:gJ q B):QW q∧(shq q).2∣B∧(shq q).1≤(shq q).2∧0<(shq q).2:=by
 obtain⟨a,b,c⟩:=Od hB h0 h1 h;have h8:=nM;have hd:=CW hB a;have e1:(shq q).1=q.num.toNat:=by show bJ q.num=_;unfold bJ;rw[ah b]
 have e2:(shq q).2=q.den:=by show bJ (q.den:Int)=_;unfold bJ;rw[ah byOmega,oO]
 have dp:=q.den_pos;refine⟨⟨⟨byOmega,byOmega⟩,⟨byOmega,byOmega⟩⟩,by rw[e2];exact a,by rw[e1,e2];omega,by rw[e2];exact dp⟩
def HK : ∀(ll:List (List (Nat×Nat))),(∀x∈ll,∃S,smR S x) → ∃D,0<D∧D≤1000 ^ ll.length ∧ ∀x∈ll,∀p∈x,p.2∣D
 | [],_=>⟨1,byOmega,aa,fun x hx=>by cases hx⟩
 | l :: ll,h=>by
  obtain⟨D,h1,h2,h3⟩:=HK ll fun x hx=>h x (by simp[hx]);obtain⟨S,s1,s2,s3⟩:=h l aa;refine⟨D*S,kf h1 s1,?_,fun x hx p hp=>?_⟩;·rw[gX,dU];exact fB h2 s2
  ·rcases dD.1 hx with rfl|hx
   ·exact pP (s3 p hp).2.2 (Az _ _)
   ·exact pP (h3 x hx p hp) (xU _ _)
def kerD (ll:List (List (Nat×Nat))):Prop:=fy ll∧ll.length≤4 ∧ ∃D,0<D∧D≤1000000000000 ∧ ∀i j,i<ll.length→j<ll.length→gJ (kAt ll i j) D
def PN {ll:List (List (Nat×Nat))} (l1:1≤ll.length) (l2:ll.length≤4) (hr : ∀x∈ll,x.length=ll.length∧OB x):kerD ll:=by obtain⟨_,ok⟩:=Zaf (ll:=ll) byOmega byOmega (fun x hx=>hr x hx);obtain⟨D,h1,h2,h3⟩:=HK ll fun x hx=>(hr x hx).2.2.1;refine⟨ok,l2,D,h1,bA h2 (bA (fQ byOmega l2) aP),fun i j hi hj=>?_⟩;obtain⟨row,p,e1,e2,e3,e4,e5,e6⟩:=fV ok hi hj;have hm:=bN e1;have hp:=bN e3;obtain⟨S,s1,s2,s3⟩:=(hr row hm).2.2.1;have hS:=s3 p hp;have hle:=CW s1 hS.2.2;rw[e6];refine K4 ?_;have hd:=(fi e4).2;rw[Zcp byOmega] at hd;have:(rOf p).den=p.2:=byOmega;rw[this];exact h3 row hm p hp
def YI {a b:Nat} (h:a+b=511):H8=2 ^ a*2 ^ b:=by rw[Zeq,←dC,h]
def Zhf {D T:Nat} (hD:D≤1000000000000) (hT:T≤9*2 ^ 240):60*(D*T)<H8:=by have e:=YI (a:=271) (b:=240) rfl;rw[e];have h1:D*T≤1000000000000*(9*2 ^ 240):=fB hD hT;have h2:(2:Nat) ^ 50≤2 ^ 271:=ZF (a:=50) (b:=271) byOmega;have h3:(2:Nat) ^ 50=1125899906842624:=aP;have h4:0<2 ^ 240:=Nat.two_pow_pos 240;generalize 2 ^ 240=X at *;generalize 2 ^ 271=Y at *;have h5:1125899906842624*X≤Y*X:=cT _ byOmega;omega

def UF {a b x y:Rat} (hx:0<x) (hy:0<y):(if a*x / y<b then a*x / y else b)*y / x=(if b*y / x<a then b*y / x else a):=by
 have k1:a*x / y<b↔a*x<b*y:=by rw[Rat.div_lt_iff hy]
 have k2:b*y / x<a↔b*y<a*x:=by rw[Rat.div_lt_iff hx]
 simp only[k1,k2];by_cases c1:a*x<b*y;·rw[ah c1,ad fO];grind
 ·rw[ad c1];by_cases c2:b*y<a*x
  ·rw[ah c2]
  ·rw[ad c2];have e:b*y=a*x:=fO;rw[e];grind
theorem MU {ll:List (List (Nat×Nat))} {t:List Nat} (ho:yD ll t) {i j:Nat} (hi:i<ll.length) (hj:j<ll.length):kAt (lh ll t) i j=rE ll t i j:=by have hq:=ho i hi _ (bN (nI (ll:=ll) (t:=t) (i:=i) hj));unfold kAt;rw[bC,bC,HD hi,mZ,cm,nI hj];exact(zj hq).1
def Tb {ll:List (List (Nat×Nat))} {t:List Nat} (ht:t.length=ll.length) (hp : ∀p∈t,1≤wdI p) (ho:yD ll t) (i j:Nat) (hi:i<ll.length) (hj:j<i) :dh (t.getD i 0)*kAt (lh ll t) i j=dh (t.getD j 0)*kAt (lh ll t) j i:=by
 have hw : ∀i,i<ll.length→0<dh (t.getD i 0):=fun i hi=>by have:=hp _ (iE (show i<t.length by omega));rw[bC,bK byOmega,mZ];unfold dh;exact CR.2 byOmega
 have wi:=hw i hi;have wj:=hw j byOmega;have e:kAt (lh ll t) j i*dh (t.getD j 0) / dh (t.getD i 0)=kAt (lh ll t) i j:=by rw[MU ho hi byOmega,MU ho byOmega hi];unfold rE;rw[ad byOmega,ad byOmega];exact UF wi wj
 rw[←e];grind
def PG {ll:List (List (Nat×Nat))} {t:List Nat} (k:kerD ll) (ht:t.length=ll.length) (hw : ∀p∈t,1≤wdI p∧wdI p≤9):rF ll t=0∧fy (lh ll t)∧(lh ll t).length=ll.length∧uP (lh ll t) t:=by
 obtain⟨ok,l4,D,D0,D1,hD⟩:=k
 have hp : ∀p∈t,1≤wdI p:=fun p h=>(hw p h).1;have tm : ∀i,i<ll.length→t.getD i 0∈t:=fun i hi=>by rw[bC,bK byOmega];exact iE byOmega
 have hT : ∀i,i<ll.length→0<(wdI (t.getD i 0)).toNat∧dh (t.getD i 0)=((wdI (t.getD i 0)).toNat:Rat):=fun i hi=>by have:=hw _ (tm i hi);refine⟨byOmega,?_⟩;unfold dh;have e:wdI (t.getD i 0)=(((wdI (t.getD i 0)).toNat:Nat):Int):=byOmega;rw[e];rfl
 have hB : ∀i,i<ll.length→0<D*(wdI (t.getD i 0)).toNat∧60*(D*(wdI (t.getD i 0)).toNat)<H8:=fun i hi=>by have:=hw _ (tm i hi);have hX:1≤2 ^ 240:=Iv;exact⟨kf D0 (hT i hi).1,Zhf D1 (bA (show(wdI (t.getD i 0)).toNat≤9 by omega) (CX 9 hX))⟩
 have fo:yD ll t:=fun i hi q hq=>by obtain⟨f1,f2,_⟩:=PF ok ht hp hi;have f3:=Q0 _ f1 q hq;rw[f2] at f3;have:=hB i hi;exact(Y6 this.1 byOmega (f1 q hq) f3 (PD hD hT hi q hq)).1
 have hl:(lh ll t).length=ll.length:=me ll t;refine⟨?_,PE ok ht hp fo,hl,fun i j hi hj=>Tb ht hp fo i j byOmega hj⟩;unfold rF;rw[ad (fun x=>x ok),ad,ah fo];rintro(c|⟨p,h1,h2⟩);·exact c ht
 ·have:=hp p h1
  omega
variable {h:IH}
def JC {s1 s2:Nat} {v1 v2:Value} {l1 l2:List Nat} (hv1:wG h v1 l1) (hs1:s1<256) (hv2:wG h v2 l2) (hs2:s2<256) :WV prog (.func (.func 16) #[] #[]) [.agg #[B8 s1,v1],.agg #[B8 s2,v2]] h fun r h'=>Ext h h' ∧ ∃m w ll t,r=.tuple #[m,w]∧je h' m ll∧mS h' w t∧fy ll∧1≤ll.length∧ll.length≤4∧t.length=ll.length∧(∀p∈t,1≤wdI p)∧uP ll t:=by
 obtain⟨H0,hH0,n0,E0,g2,g3⟩:=gN h [B8 s1,v1] [B8 s2,v2];have o1:=hv1.1.cells;have o2:=hv1.1.cok;have o3:=hv2.1.cells;have o4:=hv2.1.cok;have ta:List.take 2 (List.drop 0 [B8 s1,v1]) = [B8 s1,v1]:=rfl;have tb:List.take 2 (List.drop 0 [B8 s2,v2]) = [B8 s2,v2]:=rfl;refine enter (nt:=24) (rs:=[.tmp 4,.tmp 5]) Proofs.Tryz.func16 rfl rfl rfl aa ?_;simp -dsimp (disch:=try exact dx) only[wpS,wpT,zE,zL,zA,WO,ta];rw[←hH0];clear hH0;refine call (Fb (hv1.ae E0.ae) hs1) ?_;rintro m h1 ⟨X1,ll,hm,hl,hr⟩;obtain⟨c1,c2,hlen⟩:=hm.co;have l1:1≤ll.length:=byOmega;have l4:ll.length≤4:=byOmega;have kd:=PN l1 l4 fun x hx=>by rw[hl];exact hr x hx
 have g31:=X1.kept byOmega g3;simp -dsimp (disch:=omega) only[wpS,wpT,zE,zL,zA,WO,aw g31,tb,hlen];refine call (Kn (hv2.ae (E0.trans X1).ae) ll.length byOmega) ?_;rintro w h2 ⟨X2,t,hw,lt,ht⟩;simp -dsimp (disch:=omega) only[wpS,zE];refine call (LV (hm.ae X2.ae) hw) ?_;rintro _ h3 ⟨X3,out,rfl,q1,_⟩;obtain⟨f1,f2,f3,f4⟩:=PG kd lt ht;rw[f1];have so:=q1 f1;simp -dsimp (disch:=omega) only[wpS,zE];exact⟨((E0.trans X1).trans X2).trans X3,out,w,_,t,rfl,so,hw.ae X3.ae,f2,byOmega,byOmega,byOmega,fun p hp=>(ht p hp).1,f4⟩
def Zs (a b c d:Nat):IH.aI (shC a b) 0 (shC c d)=shC c d:=by simp[IH.aI,aC]
def OS {v:Value} {n m:Nat} (hv:NG h v m) (hn:n≤1000) :WV prog (.func (.func 17) #[] #[]) [v,KN n] h fun r h'=>Ext h h' ∧ ∃l,iS h' r l∧l.length=n∧(∀p∈l,od p):=by
 obtain⟨cs,hsl,hdr⟩:=hv;have hcl:=hsl.2.1;have lenv:=hsl.len ZcR (P:=prog);refine enter (nt:=32) (rs:=[.tmp 4]) Proofs.Tryz.func17 rfl rfl rfl aa ?_;simp -dsimp (disch:=omega) only[wpS,zE,zA];refine loop (fun k fr hh => ∃(i:Nat) (out:Value) (l:List (Nat×Nat)),i+k=n∧l.length=i∧(∀p∈l,od p)∧Ext h hh∧Acc hh h.n 16 out l.length (shL l)∧aj fr 0=some v∧aj fr 5=some out∧aj fr 9=some (KN n)∧aj fr 10=some (KN i)) n ⟨0,.slice none 0 0,[],byOmega,rfl,(fun p hp=>by cases hp),Ext.refl _,Acc.nil _ _ byOmega,aa⟩ ?_;rintro k fr hh ⟨i,out,l,hik,hil,hlt,hE,hA,f0,f5,f9,f10⟩;have hnn:=hE.n;simp -dsimp (disch:=omega) only[wpS,f9,f10];refine az ?_ ?_<;>intro hc<;>simp only[aJ,aV] at hc
 ·have hi:i<n:=byOmega;simp -dsimp (disch:=omega) only[wpS,wpT,zE,f10];refine call (ue 0 1 ⟨byOmega,byOmega⟩ ⟨byOmega,byOmega⟩ byOmega) ?_;rintro _ h1 ⟨X1,rfl⟩;rw[iW];have s0:od (shq (Rat.divInt 0 1)):=⟨0,1,⟨byOmega,byOmega⟩,⟨byOmega,byOmega⟩,rfl⟩;generalize shq (Rat.divInt 0 1)=p0 at s0 ⊢;simp -dsimp (disch:=omega) only[wpS,wpT,zE,zL,zA,lX,iJ,aU,aC,bH,cD];obtain⟨H2,hH2⟩:=bm ((h1.new (.cells Z16 0 none)).put h1.n (.cells (shC p0.1 p0.2) 0 none));have F2:Ext h1 H2:=by rw[hH2];exact((Ext.refl h1).new _).put (ar _) _
  have n2:H2.n=h1.n+1:=by rw[hH2];rfl
  have g7:H2.ext.get h1.n=some (.cells (shC p0.1 p0.2) 0 none):=by rw[hH2];simp (disch:=omega) only[ak]
  rw[←hH2];clear hH2;have E2:=X1.trans F2;have m2:=E2.n;simp -dsimp (disch:=omega) only[wpS,zE,f0,lenv];refine jm (fun fr H => ∃p,od p∧Ext hh H∧h1.n<H.n∧H.ext.get h1.n=some (.cells (shC p.1 p.2) 0 none)∧aj fr 0=some v∧aj fr 5=some out∧aj fr 7=some (ptr (2*h1.n) 0)∧aj fr 9=some (KN n)∧aj fr 10=some (KN i)) (fun hb=>?_) (fun hb=>?_) ?_
  ·have him:i<m:=by have:=Au hb;omega
   have hld:=hsl.Ev (hE.trans E2).ae (c:=i*6) (m:=6) byOmega byOmega (P:=prog) (t:=58) Zem Vp;obtain⟨b,x,a1,b2,x2,a2,hcs,hx,hx2,q1,q2,q3,q4⟩:=hdr i him;rw[hcs] at hld;simp -dsimp (disch:=omega) only[wpS,wpT,zE,f0,hsl.idx es52 him,hld];refine call (EZ (by simpa using hx) (by simpa using hx2) q1 q2 q3 q4) ?_;rintro _ h3 ⟨X3,a,c,ha,hc2,rfl⟩;have sp:od (shq (Rat.divInt a c)):=⟨a,c,ha,hc2,rfl⟩;rw[iW];generalize shq (Rat.divInt a c)=p at sp ⊢;have m3:=X3.n;have g73:=X3.kept byOmega g7;simp -dsimp (disch:=omega) only[wpS,wpT,zE,zL,iJ,g73,aU,aC,bH,Zs];exact⟨p,sp,(E2.trans X3).put (by have:=X1.n;omega) _,by simp only[bd];omega,ak _ _ rfl,by simp[f0,f5,f9,f10]⟩
  ·simp -dsimp (disch:=omega) only[wpS];exact⟨p0,s0,E2,byOmega,g7,by simp[f0,f5,f9,f10]⟩
  clear f0 f5 f9 f10 g7 s0;rintro fr H ⟨p,sp,E,nH,g7,f0,f5,f7,f9,f10⟩;obtain⟨fF,h8,hap,hA8,hG8,hE8⟩:=(hA.ext E).uR (P:=prog) (t:=61) Gr (m:=1) (new:=shC p.1 p.2) byOmega (by rw[aC]) (bH _ _) byOmega (by have:=E.n;omega) (hE.trans E) (ar _);simp -dsimp (disch:=omega) only[wpS,wpT,zE,zL,zA,dX,Cl,oi,f5,f7,f10,aw g7,aC,bF,cD,hap];refine⟨k - 1,byOmega,i+1,fF,l ++ [p],byOmega,by simp[hil],?_,hE8,?_,by simp[f0,f9]⟩
  ·intro q hq;rcases eE.1 hq with hq|hq
   ·exact hlt q hq
   ·obtain rfl:=iD.1 hq;exact sp
  ·rw[LP,du];exact hA8
 ·obtain rfl:i=n:=byOmega;simp -dsimp (disch:=omega) only[wpS,wpT,zE,f5];exact⟨hE,l,⟨hA.sl,byOmega,fun p hp=>(hlt p hp).lt⟩,hil,hlt⟩
def HN {a b c:Rat} (hb:0<b) (h:a≤c*b):a / b≤c:=by have e:a / b*b=a:=Rat.div_mul_cancel fO;generalize a / b=q at *;refine xO.1 fun hn=>?_;have:=Rat.mul_pos (a:=q - c) (b:=b) fO hb;grind
theorem ZcW (n:Nat) (c:Rat) (f:Nat→Rat):rs n (fun i=>f i / c)=rs n f / c:=by rw[bR (g:=fun i=>c⁻¹*f i) (fun i _=>by rw[Rat.div_def,Rat.mul_comm]),rU,Rat.div_def,Rat.mul_comm]
theorem MD (t:List Nat) (g:Nat→Rat) (i:Nat):pC t g i=rs i (fun s=>wQ t s*g s) / rs t.length (wQ t):=by unfold pC;rw[←ZcW];exact bR fun s _=>fO
structure RevK (ll:List (List (Nat×Nat))) (t:List Nat):Prop where
 ko:fy ll
 len:t.length=ll.length
 pos : ∀p∈t,1≤wdI p
 rev:uP ll t
section
variable {ll:List (List (Nat×Nat))} {t:List Nat}
end
theorem Dy (l:List (Nat×Nat)) (k:Nat) : ∀i,i≤l.length→upTo l k i=(l.take i).countP fun p=>decide (rOf p≤rOf (l.getD k (0,0)))
 | 0,_=>by rw[upTo,C8,List.countP_nil]
 | i+1,h=>by
  have hp:l[i]?=some l[i]:=bK byOmega
  have gp:l.getD i (0,0)=l[i]:=by rw[bC,hp];rfl
  rw[upTo,Dy l k i byOmega,fE hp,List.countP_append,List.countP_singleton,gp];by_cases c:rOf l[i]≤rOf (l.getD k (0,0));·rw[ah c,ah (bf c)]
  ·rw[ad c,ad (by simpa using c),fR]
variable {k:Nat}
theorem Tp (f:List (Nat×Nat)) (b:List Nat) (hk:k<b.length):upTo (fu f b) k b.length=b.countP (leF (mC f) (b.getD k 0)):=by
 have g:(fu f b).getD k (0,0)=f.getD (b.getD k 0) (0,0):=by rw[fu,bC,cm,bK hk,show b.getD k 0=b[k] by rw[bC,bK hk];rfl];rfl
 have hl:=fH f b;rw[Dy _ _ _ byOmega,dr byOmega,g,fu,List.countP_map];rfl
variable {e:Nat×Nat}{n:Int}
def ZaH (h0:0≤rOf e) {c:Nat}:(((c:Nat):Int):Rat) / (((n.toNat+1:Nat):Int):Rat)≤rOf e↔c≤qJ e n:=by
 have hs:(0:Rat)<(((n.toNat+1:Nat):Int):Rat):=CR.2 byOmega;have fl:=Hz (rOf e*(((n.toNat+1:Nat):Int):Rat));have fn:=xD (xP h0 (oJ hs));have fo:=@Hy (rOf e*(((n.toNat+1:Nat):Int):Rat)) (c:Int);unfold qJ;generalize (((n.toNat+1:Nat):Int):Rat)=s at hs fl fn fo ⊢;generalize lg (rOf e*s)=z at fl fn fo ⊢;constructor;·intro h;have m:=NI h (oJ hs);rw[Rat.div_mul_cancel fO] at m;have:=fo m;omega
 ·intro h
  refine HN hs (Rat.le_trans ?_ fl);exact Rat.intCast_le_intCast.2 byOmega
variable {f:List (Nat×Nat)}{b:List Nat}
def ext_iff (h0:0≤rOf e) (hb:b.length=n.toNat+1) (hk:k<b.length):tu (fu f b) k≤rOf e↔b.countP (leF (mC f) (b.getD k 0))≤qJ e n:=by unfold tu;rw[fH,Tp f b hk,hb];exact ZaH h0
def Oc (h0:0≤rOf e) {s:Nat} {o:List Nat} (ho:o.length=n.toNat):sC f (some 0) (rOf e) (s :: o)=if o.countP (leF (mC f) s)+1≤qJ e n then 1 else 0:=by
 have i:=ext_iff (f:=f) h0 (n:=n) (b:=s :: o) (k:=0) (by rw[gX,ho]) aa;rw[List.getD_cons_zero,List.countP_cons_of_pos (p:=leF (mC f) s) (bf tD)] at i;show(if tu (fu f (s :: o)) 0≤rOf e then (1:Rat) else 0)=_;by_cases c:tu (fu f (s :: o)) 0≤rOf e;·rw[ah c,ah (i.1 c)]
 ·rw[ad c,ad fun h=>c (i.2 h)]
def Vc (h0:0≤rOf e) (hb:b.length=n.toNat+1):sC f none (rOf e) b=Rat.divInt 1 ((n.toNat+1:Nat):Int)*rs (n.toNat+1) fun j=>if b.countP (leF (mC f) (b.getD j 0))≤qJ e n then 1 else 0:=by
 show(rs b.length fun i=>if tu (fu f b) i≤rOf e then Rat.divInt 1 ((b.length:Nat):Int) else 0)=_;rw[hb,←rU];refine bR fun j hj=>?_;have i:=ext_iff (f:=f) h0 (n:=n) hb (k:=j) byOmega;by_cases c:tu (fu f b) j≤rOf e;·rw[ah c,ah (i.1 c),Ax]
 ·rw[ad c,ad fun h=>c (i.2 h),rM]
section
variable {N:Nat} {p:Nat→Nat→Rat} {w:Nat→Rat}
def Wx (hr : ∀i j,i<N→j<N→w i*p i j=w j*p j i) (f:Nat→Rat) (k R:Nat) {j:Nat} (hj:j<k+1) :(rs N fun s=>w s*zN N p f R k j s)=rs N fun s=>w s*cX N p k s fun l=>if (s :: l).countP (leF f ((s :: l).getD j 0))≤R then 1 else 0:=by unfold zN;rw[Tj hr j (k - j) (fun b s o=>if b.countP (leF f s)+o.countP (leF f s)+1≤R then (1:Rat) else 0),show j+(k - j)=k by omega];refine bR fun s _=>?_;congr 1;refine iY fun l hl=>?_;rw[XV f (by rw[gX];omega)]
end
variable {ll:List (List (Nat×Nat))}{f:List (Nat×Nat)}{n:Int}{e:Nat×Nat}{t:List Nat}
theorem PC (h0:0≤rOf e) :pC t (fun s=>cX ll.length (kAt ll) n.toNat s fun o=>sC f (some 0) (rOf e) (s :: o)) ll.length=pC t (qO ll.length (kAt ll) (mC f) (qJ e n) n.toNat) ll.length:=by unfold pC;refine bR fun s _=>?_;congr 1;exact iY fun o ho=>Oc h0 ho
theorem MF (h0:0≤rOf e) (hr:uP ll t) :pC t (fun s=>cX ll.length (kAt ll) n.toNat s fun o=>sC f none (rOf e) (s :: o)) ll.length=pC t (fun s=>rs (n.toNat+1) (fun k=>zN ll.length (kAt ll) (mC f) (qJ e n) n.toNat k s) / (((n.toNat+1:Nat):Int):Rat)) ll.length:=by
 have hr' : ∀i j,i<ll.length→j<ll.length→wQ t i*kAt ll i j=wQ t j*kAt ll j i:=fun i j hi hj=>DW.1 hr i j hi hj;rw[MD,MD];congr 1;have a : ∀s,(cX ll.length (kAt ll) n.toNat s fun o=>sC f none (rOf e) (s :: o))=Rat.divInt 1 ((n.toNat+1:Nat):Int)*rs (n.toNat+1) fun j=>cX ll.length (kAt ll) n.toNat s fun o=>if (s :: o).countP (leF (mC f) ((s :: o).getD j 0))≤qJ e n then 1 else 0:=fun s=>by rw[←zx,←sM];exact iY fun o ho=>Vc h0 (by rw[gX,ho])
 have b:(rs ll.length fun s=>wQ t s*cX ll.length (kAt ll) n.toNat s fun o=>sC f none (rOf e) (s :: o))=Rat.divInt 1 ((n.toNat+1:Nat):Int)*rs (n.toNat+1) fun j=>rs ll.length fun s=>wQ t s*cX ll.length (kAt ll) n.toNat s fun o=>if (s :: o).countP (leF (mC f) ((s :: o).getD j 0))≤qJ e n then 1 else 0:=by rw[Jj,←rU];refine bR fun s _=>?_;rw[a,rU];grind
 have c:(rs ll.length fun s=>wQ t s*(rs (n.toNat+1) (fun k=>zN ll.length (kAt ll) (mC f) (qJ e n) n.toNat k s) / (((n.toNat+1:Nat):Int):Rat)))=Rat.divInt 1 ((n.toNat+1:Nat):Int)*rs (n.toNat+1) fun j=>rs ll.length fun s=>wQ t s*zN ll.length (kAt ll) (mC f) (qJ e n) n.toNat j s:=by rw[Jj,←rU];refine bR fun s _=>?_;rw[rU,oK,Rat.div_def,Rat.div_def];grind
 rw[b,c];congr 1;exact bR fun j hj=>(Wx hr' (mC f) n.toNat (qJ e n) hj).symm
theorem Ef (ll:List (List (Nat×Nat))) (t:List Nat) (f:List (Nat×Nat)) (e:Nat×Nat) (n:Int):uH ll t f e n (some 0)=wh ll t f e n:=by
 unfold uH wh;by_cases c:sV ll t f e n=0;·obtain⟨_,_,_,_,_,_,_,_,h0,_⟩:=vP c;rw[ah c,ah c,PC h0]
 ·rw[ad c,ad c]
theorem BO (ll:List (List (Nat×Nat))) (t:List Nat) (f:List (Nat×Nat)) (e:Nat×Nat) (n:Int):uH ll t f e n none=El ll t f e n:=by
 unfold uH El;by_cases c:sV ll t f e n=0;·obtain⟨_,_,_,_,hr,_,_,_,h0,_⟩:=vP c;rw[ah c,ah c,MF h0 hr]
 ·rw[ad c,ad c]
variable {h:IH}
def yV (a c:Int) (ha:0≤a∧a<1000) (hc:0<c∧c<25):WV Proofs.Tryz.prog (.func (.func 73) #[] #[]) [uF a,uF c] h fun r h'=>Ext h h'∧r=mG (Rat.divInt a c):=AN a c ⟨byOmega,byOmega⟩ hc
def HI {b b2:Bool} {x x2:Value} {n n2:Int} (hx:([x]:List Value).all aM=true) (hx2:([x2]:List Value).all aM=true) (h0:0≤n) (hn:n<4294967296) (g0:0≤n2) (gn:n2<4294967296) :WV Proofs.Tryz.prog (.func (.func 18) #[] #[]) [.agg #[.bool b,x,.int .u32 n,.bool b2,x2,.int .u32 n2]] h fun r h'=>Ext h h' ∧ ∃a c:Int,0≤a∧a≤c∧0<c∧c<25∧r=mG (Rat.divInt a c):=by
 have hx':aM x=true:=by simpa using hx
 have hx2':aM x2=true:=by simpa using hx2
 obtain⟨H0,hH0,n0,E0,k0,k1⟩:=gN h [.bool b,x,.int .u32 n,.bool b2,x2,.int .u32 n2] Z16;refine enter (nt:=30) (rs:=[.cell 2 32]) Proofs.Tryz.func18 rfl rfl rfl aa ?_;simp -dsimp (disch:=omega) only[wpS,lX];rw[←hH0];clear hH0;have X0:=Ext.refl H0;have L1:load Proofs.Tryz.prog H0 56 (ptr (2*h.n) 3)=some (.agg #[.bool b2,x2,.int .u32 n2]):=by have r:=aw k0;simp -dsimp (disch:=omega) only[wpS,wpT,zL,zA,TP,r];rfl
 refine drawn [(4,[2])] ab ab rfl ?_;simp -dsimp (disch:=omega) only[wpS,wpT,zE,zL,zA,PJ,TP,aw k0];refine call (qH hx h0 hn) ?_;rintro _ h1 ⟨X1,y,rfl,y0,y1⟩;have m1:=X1.n;have kx:=X1.kept byOmega k0;simp -dsimp (disch:=omega) only[wpS,wpT,zE,zL,zA,TP,Xk,aw kx];refine call (qH hx2 g0 gn) ?_;rintro _ h2 ⟨X2,z,rfl,z0,z1⟩;have m2:=X2.n;have X12:=X1.trans X2;simp -dsimp (disch:=omega) only[wpS,zE];refine⟨by repeat' first|refine aB ?_ ?_|refine aA ?_ ?_|exact ai rfl rfl rfl rfl (aO (H0:=H0) rfl byOmega aG aG cS),?_⟩;have cy:y<0∨0≤y:=byOmega;have cz:z<0∨0≤z:=byOmega;rcases cy with hy|hy
 ·rcases cz with hz|hz
  ·obtain⟨w,hw⟩:=bm (-y);obtain⟨u,hu⟩:=bm (-z);have c1:decide (y<0)=true:=bf hy;have c2:decide (z<0)=true:=bf hz;have m0:0≤u % 24∧u % 24<24:=byOmega;have r0:0≤w % (2+u % 24):=Int.emod_nonneg _ byOmega;have r1:w % (2+u % 24)<2+u % 24:=IF _ byOmega;simp -dsimp (disch:=omega) only[wpS,wpT,zE,zA,c1,c2,←hw,←hu];refine call (hP (w % (2+u % 24)) ⟨byOmega,byOmega⟩) ?_;rintro _ h3 ⟨X3,rfl⟩;have m3:=X3.n;simp -dsimp (disch:=omega) only[wpS,zE];refine call (hP (1+u % 24) ⟨byOmega,byOmega⟩) ?_;rintro _ h4 ⟨X4,rfl⟩;have m4:=X4.n;simp -dsimp (disch:=omega) only[wpS,zE];refine call (yV (w % (2+u % 24)) (1+u % 24) ⟨r0,byOmega⟩ ⟨byOmega,byOmega⟩) ?_;rintro _ h5 ⟨X5,rfl⟩;have m5:=X5.n;have XX:=(((X1.trans X2).trans X3).trans X4).trans X5;have k2:=XX.kept byOmega k1;simp -dsimp (disch:=omega) only[wpS,wpT,zE,zL,zA,iJ,dX,k2,aU,aC,bH,cD,bF];exact⟨(E0.trans XX).put byOmega _,_,_,r0,byOmega,byOmega,byOmega,rfl⟩
  ·obtain⟨w,hw⟩:=bm (-y);obtain⟨u,hu⟩:=bm (z);have c1:decide (y<0)=true:=bf hy;have c2:decide (z<0)=false:=aY byOmega;have m0:0≤u % 24∧u % 24<24:=byOmega;have r0:0≤w % (2+u % 24):=Int.emod_nonneg _ byOmega;have r1:w % (2+u % 24)<2+u % 24:=IF _ byOmega;simp -dsimp (disch:=omega) only[wpS,wpT,zE,zA,c1,←hw,←hu];refine call (hP (w % (2+u % 24)) ⟨byOmega,byOmega⟩) ?_;rintro _ h3 ⟨X3,rfl⟩;have m3:=X3.n;simp -dsimp (disch:=omega) only[wpS,zE];refine call (hP (1+u % 24) ⟨byOmega,byOmega⟩) ?_;rintro _ h4 ⟨X4,rfl⟩;have m4:=X4.n;simp -dsimp (disch:=omega) only[wpS,zE];refine call (yV (w % (2+u % 24)) (1+u % 24) ⟨r0,byOmega⟩ ⟨byOmega,byOmega⟩) ?_;rintro _ h5 ⟨X5,rfl⟩;have m5:=X5.n;have XX:=(((X1.trans X2).trans X3).trans X4).trans X5;have k2:=XX.kept byOmega k1;simp -dsimp (disch:=omega) only[wpS,wpT,zE,zL,zA,iJ,dX,k2,aU,aC,bH,cD,bF];exact⟨(E0.trans XX).put byOmega _,_,_,r0,byOmega,byOmega,byOmega,rfl⟩
 ·rcases cz with hz|hz
  ·obtain⟨w,hw⟩:=bm (y);obtain⟨u,hu⟩:=bm (-z);have c1:decide (y<0)=false:=aY byOmega;have c2:decide (z<0)=true:=bf hz;have m0:0≤u % 24∧u % 24<24:=byOmega;have r0:0≤w % (2+u % 24):=Int.emod_nonneg _ byOmega;have r1:w % (2+u % 24)<2+u % 24:=IF _ byOmega;simp -dsimp (disch:=omega) only[wpS,wpT,zE,zA,c2,←hw,←hu];refine call (hP (w % (2+u % 24)) ⟨byOmega,byOmega⟩) ?_;rintro _ h3 ⟨X3,rfl⟩;have m3:=X3.n;simp -dsimp (disch:=omega) only[wpS,zE];refine call (hP (1+u % 24) ⟨byOmega,byOmega⟩) ?_;rintro _ h4 ⟨X4,rfl⟩;have m4:=X4.n;simp -dsimp (disch:=omega) only[wpS,zE];refine call (yV (w % (2+u % 24)) (1+u % 24) ⟨r0,byOmega⟩ ⟨byOmega,byOmega⟩) ?_;rintro _ h5 ⟨X5,rfl⟩;have m5:=X5.n;have XX:=(((X1.trans X2).trans X3).trans X4).trans X5;have k2:=XX.kept byOmega k1;simp -dsimp (disch:=omega) only[wpS,wpT,zE,zL,zA,iJ,dX,k2,aU,aC,bH,cD,bF];exact⟨(E0.trans XX).put byOmega _,_,_,r0,byOmega,byOmega,byOmega,rfl⟩
  ·obtain⟨w,hw⟩:=bm (y);obtain⟨u,hu⟩:=bm (z);have c1:decide (y<0)=false:=aY byOmega;have c2:decide (z<0)=false:=aY byOmega;have m0:0≤u % 24∧u % 24<24:=byOmega;have r0:0≤w % (2+u % 24):=Int.emod_nonneg _ byOmega;have r1:w % (2+u % 24)<2+u % 24:=IF _ byOmega;simp -dsimp (disch:=omega) only[wpS,wpT,zE,zA,←hw,←hu];refine call (hP (w % (2+u % 24)) ⟨byOmega,byOmega⟩) ?_;rintro _ h3 ⟨X3,rfl⟩;have m3:=X3.n;simp -dsimp (disch:=omega) only[wpS,zE];refine call (hP (1+u % 24) ⟨byOmega,byOmega⟩) ?_;rintro _ h4 ⟨X4,rfl⟩;have m4:=X4.n;simp -dsimp (disch:=omega) only[wpS,zE];refine call (yV (w % (2+u % 24)) (1+u % 24) ⟨r0,byOmega⟩ ⟨byOmega,byOmega⟩) ?_;rintro _ h5 ⟨X5,rfl⟩;have m5:=X5.n;have XX:=(((X1.trans X2).trans X3).trans X4).trans X5;have k2:=XX.kept byOmega k1;simp -dsimp (disch:=omega) only[wpS,wpT,zE,zL,zA,iJ,dX,k2,aU,aC,bH,cD,bF];exact⟨(E0.trans XX).put byOmega _,_,_,r0,byOmega,byOmega,byOmega,rfl⟩
def Mn {h:IH} {v:Value} {n:Nat} (hv:NG h v n) :WV prog (.func (.func 19) #[] #[]) [v] h fun r h'=>Ext h h' ∧ ∃l',iS h' r l'∧l'.length=min n 12∧(∀p∈l',od p)∧(l' = []→r=.slice none 0 0):=by
 obtain⟨M,hM⟩:=bm (min n 12);obtain⟨cs,hsl,hdr⟩:=hv;obtain⟨w,hw,hs⟩:=hsl.slice (aX.refl h) (P:=prog) (t:=52) u52 Vp (l:=0) (m:=M) (dT _) byOmega (lo:=none) (hi:=some (KN M)) rfl (fun c hc=>kQ (k:=.i64) byOmega);rw[Ay,iC,cp] at hs;have hcl:=hsl.2.1;have M4:(if (12:Int)<(n:Int) then (12:Int) else (n:Int))=(M:Int):=by split<;>omega
 refine enter (nt:=23) (rs:=[.tmp 2]) Proofs.Tryz.func19 rfl rfl rfl aa ?_;simp -dsimp (disch:=omega) only[wpS,zE,hsl.len ZcR,Pf,M4,hw,hs.len ZcR];refine loop (fun m fr hh => ∃(i:Nat) (out:Value) (l':List (Nat×Nat)),i+m=M∧l'.length=i∧(∀p∈l',od p)∧Ext h hh∧Acc hh h.n 16 out l'.length (shL l')∧(l' = []→out=.slice none 0 0)∧aj fr 3=some out∧aj fr 10=some w∧aj fr 11=some (KN M)∧aj fr 12=some (KN i)) M ⟨0,.slice none 0 0,[],byOmega,rfl,(fun p hp=>by cases hp),Ext.refl _,Acc.nil _ _ byOmega,fun _=>rfl,aa⟩ ?_;rintro m fr hh ⟨i,out,l',him,hil,hlt,hE,hA,hO,f3,f10,f11,f12⟩;have hnn:=hE.n;simp -dsimp (disch:=omega) only[wpS,f11,f12];refine az ?_ ?_<;>intro hc<;>simp only[aJ,aV] at hc
 ·have hi:i<M:=byOmega;have hld:=hs.Ev hE.ae (c:=i*6) (m:=6) (by rw[iT];omega) byOmega (P:=prog) (t:=58) Zem Vp;rw[List.drop_take,C9,lU byOmega] at hld;obtain⟨b,x,n1,b2,x2,n2,hcs,hx,hx2,q1,q2,q3,q4⟩:=hdr i byOmega;rw[hcs] at hld;obtain⟨H0,hH0⟩:=bm ((hh.new (.cells [.bool false,.slice none 0 0,.int .u32 0,.bool false,.slice none 0 0,.int .u32 0] 0 none)).put hh.n (.cells [.bool b,x,.int .u32 n1,.bool b2,x2,.int .u32 n2] 0 none));have n0:H0.n=hh.n+1:=by rw[hH0];rfl
  have k0:H0.ext.get hh.n=some (.cells [.bool b,x,.int .u32 n1,.bool b2,x2,.int .u32 n2] 0 none):=by rw[hH0];simp (disch:=omega) only[ak]
  have E0:Ext hh H0:=by rw[hH0];exact((Ext.refl hh).new _).put byOmega _
  simp -dsimp (disch:=omega) only[wpS,wpT,zE,zL,zA,zc58,st58,f10,f12,hs.idx es52 hi,hld,hx,hx2];rw[←hH0];clear hH0;simp -dsimp (disch:=omega) only[wpS,wpT,zE,zL,zA,ld58,f3,aw k0];refine call (EZ (by simpa using hx) (by simpa using hx2) q1 q2 q3 q4) ?_;rintro _ h1 ⟨X1,a,c,ha,hc2,rfl⟩;have m1:=X1.n;have sp:od (shq (Rat.divInt a c)):=⟨a,c,ha,hc2,rfl⟩;rw[iW];generalize shq (Rat.divInt a c)=p at sp ⊢;have E1:=E0.trans X1;obtain⟨fF,h8,hap,hA8,hG8,hE8⟩:=(hA.ext E1).uR (P:=prog) (t:=61) Gr (m:=1) (new:=shC p.1 p.2) byOmega (by rw[aC]) (bH _ _) byOmega byOmega (hE.trans E1) (ar _);have yC:append prog (h1.new (.cells (shC p.1 p.2) 16 none)) 61 out (.slice (some ⟨2*h1.n,0,none⟩) 1 3)=some (fF,h8):=hap;simp -dsimp (disch:=omega) only[wpS,wpT,zE,zL,zA,Cl,oi,f12,aU,aC,cD,yC];refine⟨m - 1,byOmega,i+1,fF,l' ++ [p],byOmega,by simp[hil],?_,hE8,?_,by simp[f10,f11]⟩
  ·intro q hq;rcases eE.1 hq with hq|hq
   ·exact hlt q hq
   ·obtain rfl:=iD.1 hq;exact sp
  ·rw[LP,du];exact hA8
 ·obtain rfl:i=M:=byOmega;simp -dsimp (disch:=omega) only[wpS,wpT,zE,f3];refine⟨hE,l',⟨hA.sl,byOmega,fun p hp=>(hlt p hp).lt⟩,byOmega,hlt,hO⟩
end Go.Id
namespace Go.Id

open Go
open Go renaming Operand→QY,Program→QX,TypeId→QZ,Value→QQ
open Nat renaming reduceAdd→zA,reduceEqDiff→zE,reduceLeDiff→zL
open Nat (reduceMul)
set_option maxHeartbeats 16000000
open Go.Proofs.Tryz (prog)



noncomputable def SJ:FuncId→Option (List QQ→Option QQ):=I7 [(15,okT)]
structure LX (h hh:IH) (fr:Fr) (a b:Nat) (mid:Bool) (at_ long:Int):Prop where
 e:Ext h hh
 f4:aj fr 4=some (.bool mid)
 f5:aj fr 5=some (KI at_)
 f6:aj fr 6=some (.int .u16 long)
 f9:aj fr 9=some (ptr (2*a) 0)
 f10:aj fr 10=some (ptr (2*b) 0)
section
variable {h hh:IH} {fr:Fr} {Q:cL→Fr→IH→Prop} {v w:QQ} {nd a b:Nat} {mid:Bool} {at_ long:Int} {l0:List (Nat×Nat)}
def tk6 (a b c d e f:QQ):List.take 6 (List.drop 0 [a,b,c,d,e,f]) = [a,b,c,d,e,f]:=rfl
end
def Vi {a c:Int} (a0:0≤a) (a1:a≤c) (a2:0<c) (a3:c<25):QW (Rat.divInt a c)∧0≤Rat.divInt a c∧Rat.divInt a c≤1:=by refine⟨uh ⟨byOmega,byOmega⟩ ⟨byOmega,byOmega⟩ byOmega,Rat.divInt_nonneg a0 byOmega,?_⟩;rw[oK];refine HN (CR.2 a2) ?_;rw[Rat.one_mul];exact Rat.intCast_le_intCast.2 a1
end Go.Id

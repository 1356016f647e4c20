/-
  Contracts: the program's shares: read, told, checked.
-/
import Derived.Test.YtnnmjocmapilaaaGreatTemperRoundsAn
set_option linter.unusedVariables false
set_option linter.unusedSimpArgs false
set_option linter.defProp false
set_option linter.deprecated false
namespace Go.Id
open Go
open Go renaming Operand→QY,Program→QX,TypeId→QZ,Value→QQ
open Nat renaming reduceAdd→zA,reduceEqDiff→zE,reduceLeDiff→zL
open Nat (reduceMul)
set_option maxHeartbeats 16000000
open Go.Proofs.Tryz (prog)
section
def shC (n d:Nat):List QQ:=wdC n ++ wdC d
def shV (n d:Nat):QQ:=.agg (shC n d).toArray
theorem ba (n d:Nat):(shC n d).length=16:=by simp[shC,aD]
theorem cT (n d:Nat):(shC n d).all bB=true:=by simp only[shC,List.all_append,aW,sV]
def bR (n d:Nat):(shV n d).cells.toList=shC n d:=rfl
def dJ (n d:Nat):List.take 16 (List.drop 0 (shC n d))=shC n d:=by rw[cC,fB (by rw[ba];omega)]
theorem iE (n d:Nat):List.take 8 (List.drop 0 (shC n d))=wdC n:=by rw[cC,shC,zC (by rw[aD];omega),fB (by rw[aD];omega)]
theorem jU (n d:Nat):List.take 8 (List.drop 8 (shC n d))=wdC d:=by rw[shC,List.drop_append_of_le_length (by rw[aD];omega),zG (by rw[aD];omega),kG,fB (by rw[aD];omega)]
abbrev Z16:List QQ:=[ZW,ZW,ZW,ZW,ZW,ZW,ZW,ZW,ZW,ZW,ZW,ZW,ZW,ZW,ZW,ZW]
def Qz (n:Nat):IH.bf Z16 0 (wdC n)=shC n 0:=by rw[IH.bf,List.take_zero,kG,aD,shC,lJ];rfl
def Qy (n d:Nat):IH.bf (shC n 0) 8 (wdC d)=shC n d:=by rw[IH.bf,aD,shC,zC (by rw[aD];omega),fB (by rw[aD];omega),zG (by simp[aD]),Gx];rfl
def fD (n d:Nat):IH.bf Z16 0 (shC n d)=shC n d:=jN (by rw[ba];rfl)
theorem TV:Z16=shC 0 0:=by rw[shC,lJ];rfl
theorem yu:QQ.agg #[ZW,ZW,ZW,ZW,ZW,ZW,ZW,ZW,ZW,ZW,ZW,ZW,ZW,ZW,ZW,ZW]=shV 0 0:=by rw[shV,←TV]
def MM:List.take 16 (List.drop 0 Z16)=Z16:=rfl
abbrev mf (q:Rat):QQ:=shV (bN q.num) (bN q.den)
def QW (q:Rat):Prop:=InW q.num∧InW (q.den:Int)
variable {v:QQ}{k:Nat}
def He {P:Program} {H0 hi:IH} {t:TypeId} {o:Nat} (hv:load P H0 t (ptr (2*k) o)=some v) (hb:k<H0.n) (e:Ext H0 hi):load P hi t (ptr (2*k) o)=some v:=(Dj aa e).trans hv
variable {n:Nat}
def psh {H:IH} {d:Nat} (g:H.ext.get k=some (.cells (shC n d) 0 none)):load prog H 30 (ptr (2*k) 0)=some (wdV n)∧load prog H 30 (ptr (2*k) 8)=some (wdV d)∧load prog H 32 (ptr (2*k) 0)=some (shV n d):=by
 have r:=ay g;refine⟨?_,?_,?_⟩
 ·simp -dsimp (disch:=try exact dx) only[wpS,zL,bY,r,ba,iE];rfl
 ·simp -dsimp (disch:=try exact dx) only[wpS,zL,zA,bY,r,ba,jU];rfl
 ·simp -dsimp (disch:=try exact dx) only[wpS,zL,r,ba,dJ,iY];rfl
variable {h:IH}
def rK (n d:Nat) (hn:n<W8) (hd:d<W8):WV prog (.func (.func 156) #[] #[]) [shV n d] h fun r h'=>Ext h h'∧Bn h' r (wdI n) (wdI d):=by refine enter (nt:=10) (rs:=[.cell 2 137]) Proofs.Tryz.func156 rfl rfl rfl ab ?_;simp -dsimp (disch:=try exact dx) only[wpS,oF,bR];obtain⟨H0,hH0,n0,E0,g0,g1⟩:=ko h (shC n d) ZR;rw[←hH0];clear hH0;have X0:=Ext.refl H0;obtain⟨L1,L2,_⟩:=psh g0;refine drawn [(4,[2])] ae ae rfl ?_;simp -dsimp (disch:=try exact dx) only[wpS,zE,zL,qz,bY,ay g0,ba,iE];refine call (j5 n hn) ?_;rintro r1 h1 ⟨X1,p1⟩;have m1:=X1.n;simp -dsimp (disch:=try exact dx) only[wpS,zE,zL,zA,bY,qv,ay (X1.kept aa g0),ba,jU];refine call (j5 d hd) ?_;rintro r2 h2 ⟨hE2,p2⟩;have m2:=hE2.n;have X2:=X1.trans hE2;obtain⟨s1,rfl,c1,o1⟩:=p1.eV;obtain⟨s2,rfl,c2,o2⟩:=p2.eV;have kg:=X2.kept aa g1;simp -dsimp (disch:=try exact dx) only[wpS,wpT,zE,zL,zA,N1,BL,BK,nv,kg,o1,o2];refine⟨by repeat' first|refine aU ?_ ?_|refine bg ?_ ?_|exact az rfl rfl rfl rfl (aP (H0:=H0) rfl aa aN aN bX),?_⟩;simp -dsimp (disch:=try exact dx) only[wpS,wpT,zE,zL,zA,mB,kA];have kp:=(bj.refl h2).put kg (.cells [.bool (decide (wdI n<0)),s1,.bool (decide (wdI d<0)),s2] 0 none);exact⟨(E0.trans X2).put aa _,_,_,_,_,rfl,p1.ai (hE2.ai.trans kp),p2.ai kp⟩
def yx {q:Rat} (hv:jr h v q):WV prog (.func (.func 132) #[] #[]) [v] h fun r h'=>Ext h h'∧r=(open Classical in if QW q then .tuple #[mf q,KI 0] else .tuple #[shV 0 0,KI 6]):=by
 obtain⟨a1,s1,b1,t1,rfl,hn1,hd1,c1,o1,c2,o2,o3,o4⟩:=hv.parts;refine enter (nt:=30) (rs:=[.cell 2 32,.tmp 3]) Proofs.Tryz.func132 rfl rfl rfl ab ?_;simp -dsimp (disch:=try exact dx) only[wpS,wpT,zE,zL,zA,pj,oB,cM];obtain⟨H0,hH0,n0,E0,g0,g1⟩:=ko h [a1,s1,b1,t1] Z16;rw[←hH0];clear hH0;simp -dsimp (disch:=try exact dx) only[tkA];refine call (yD (hn1.ai E0.ai)) ?_;rintro _ h1 ⟨X1,rfl⟩;have m1:=X1.n
 obtain⟨w1,e1,hw⟩ : ∃w1 e1,(if InW q.num then QQ.tuple #[pf q.num,KI 0] else .tuple #[wdV 0,KI 6])=.tuple #[wdV w1,KI e1]∧(InW q.num∧w1=bN q.num∧e1=0 ∨ ¬InW q.num∧e1=6):=by
  by_cases hi:InW q.num;·exact⟨_,0,by rw[aq hi],.inl ⟨hi,rfl,rfl⟩⟩
  ·exact⟨0,6,by rw[ah hi],.inr ⟨hi,rfl⟩⟩
 rw[hw.1];have k0:=X1.kept aa g0;have k1:=X1.kept aa g1;simp -dsimp (disch:=try exact dx) only[wpS,wpT,zE,zL,zA,cM,fa,dw,l5,bA,aD,aW,bD,ay k0,tkA,tkB];obtain⟨H2,hH2⟩ : ∃H2,H2=(h1.new (.cells [ZW,ZW,ZW,ZW,ZW,ZW,ZW,ZW] 0 none)).put h1.n (.cells (wdC w1) 0 none):=⟨_,rfl⟩;have e2:Ext h1 H2:=by rw[hH2];exact((Ext.refl _).new _).put (aA _) _
 have n2:H2.n=h1.n+1:=by rw[hH2];rfl
 have ga:H2.ext.get h1.n=some (.cells (wdC w1) 0 none):=by rw[hH2];simp (disch:=try exact dx) only[aj]
 have k1':=e2.kept aa k1;rw[←hH2];clear hH2;refine call (yD (hd1.ai ((E0.trans X1).trans e2).ai)) ?_;rintro _ h3 ⟨X3,rfl⟩;have m3:=X3.n
 obtain⟨w2,f2,hw2⟩ : ∃w1 e1,(if InW (q.den:Int) then QQ.tuple #[pf q.den,KI 0] else .tuple #[wdV 0,KI 6])=.tuple #[wdV w1,KI e1]∧(InW (q.den:Int)∧w1=bN q.den∧e1=0 ∨ ¬InW (q.den:Int)∧e1=6):=by
  by_cases hi:InW (q.den:Int);·exact⟨_,0,by rw[aq hi],.inl ⟨hi,rfl,rfl⟩⟩
  ·exact⟨0,6,by rw[ah hi],.inr ⟨hi,rfl⟩⟩
 rw[hw2.1];have ga3:=X3.kept aa ga;have k3:=X3.kept aa k1';have xx:=((E0.trans X1).trans e2).trans X3;rcases hw.2 with⟨i1,rfl,rfl⟩|⟨i1,rfl⟩
 ·rcases hw2.2 with⟨i2,rfl,rfl⟩|⟨i2,rfl⟩
  ·rw[aq (show QW q from⟨i1,i2⟩)];simp -dsimp (disch:=try exact dx) only[wpS,wpT,zE,zL,zA,fa,dw,ve,jT,bY,Q7,Q6,iY,bA,aD,aW,bD,ay ga3,k3,fW,Qz,Qy,fD,ba,cT,dJ];exact⟨(((xx.new _).put aa _).put aa _),rfl⟩
  ·rw[ah (show ¬QW q from fun h=>i2 h.2)];simp -dsimp (disch:=try exact dx) only[wpS,wpT,zE,zL,zA,fa,dw,ve,jT,iY,bA,aD,aW,bD,k3,MM];exact⟨(((xx.new _).put aa _).put aa _),by rw[yu]⟩
 ·rw[ah (show ¬QW q from fun h=>i1 h.1)];simp -dsimp (disch:=try exact dx) only[wpS,wpT,zE,zL,zA,fa,dw,ve,jT,iY,bA,aD,aW,bD,k3,MM];exact⟨(((xx.new _).put aa _).put aa _),by rw[yu]⟩
def okS (n d:Nat):Prop:=0<wdI d∧Int.gcd (wdI n) (wdI d)=1
instance (n d:Nat):Decidable (okS n d):=by unfold okS;infer_instance
def jZ (hn:n<W8):bQ (wdI n):=by refine WE ?_;have h2:=dD;unfold wdI InW;split<;>constructor<;>omega
def CQ (n d:Nat) (hn:n<W8) (hd:d<W8):WV prog (.func (.func 128) #[] #[]) [shV n d] h fun r h'=>Ext h h'∧r=KI (if okS n d then 0 else 20):=by
 refine enter (nt:=22) (rs:=[.tmp 2]) Proofs.Tryz.func128 rfl rfl rfl ab ?_;simp -dsimp (disch:=try exact dx) only[wpS,bR];have E1:Ext h (h.new (.cells (shC n d) 0 none)):=(Ext.refl h).new _;have gs:(h.new (.cells (shC n d) 0 none)).ext.get h.n=some (.cells (shC n d) 0 none):=by simp (disch:=try exact dx) only[ar]
 refine call (oK 1 ⟨aa,aa⟩) ?_;rintro _ h1 ⟨X1,p1⟩;have m1:=X1.n;simp only[aH] at m1;obtain⟨s1,rfl,c1,o1⟩:=p1.eV;have gs1:=X1.kept ab gs;have e10:decide ((1:Int)<0)=false:=rfl;rw[e10] at p1 ⊢;simp -dsimp (disch:=try exact dx) only[wpS,wpT,zE,zL,zA,kH,gY,iY,o1,ay gs1,ba,dJ];obtain⟨H2,hH2⟩ : ∃H2,H2=(h1.new (.cells ZL 0 none)).put h1.n (.cells [.bool false,s1] 0 none):=⟨_,rfl⟩;have e2:Ext h1 H2:=by rw[hH2];exact((Ext.refl _).new _).put (aA _) _
 have n2:H2.n=h1.n+1:=by rw[hH2];rfl
 have ga:H2.ext.get h1.n=some (.cells [.bool false,s1] 0 none):=by rw[hH2];simp (disch:=try exact dx) only[aj]
 rw[←hH2];clear hH2;refine call (rK n d hn hd) ?_;rintro _ h3 ⟨X3,a2,s2,b2,t2,rfl,hN,hD⟩;have m3:=X3.n;obtain⟨e3,c3,o3⟩:=hN.co;obtain⟨e4,c4,o4⟩:=hD.co;subst e3 e4;simp -dsimp (disch:=try exact dx) only[wpS,wpT,zE,zL,zA,oF,nv,o3,o4];obtain⟨H0,hH0⟩ : ∃H2,H2=(h3.new (.cells ZR 0 none)).put h3.n (.cells [.bool (decide (wdI n<0)),s2,.bool (decide (wdI d<0)),t2] 0 none):=⟨_,rfl⟩;have e5:Ext h3 H0:=by rw[hH0];exact((Ext.refl _).new _).put (aA _) _
 have n5:H0.n=h3.n+1:=by rw[hH0];rfl
 have gb:H0.ext.get h3.n=some (.cells [.bool (decide (wdI n<0)),s2,.bool (decide (wdI d<0)),t2] 0 none):=by rw[hH0];simp (disch:=try exact dx) only[aj]
 have gc:=e5.kept aa (X3.kept aa ga);rw[←hH0];clear hH0;have hN0:=hN.ai e5.ai;have hD0:=hD.ai e5.ai;have p10:=p1.ai ((e2.trans X3).trans e5).ai;have X0:=Ext.refl H0;obtain⟨L1,L2,_⟩:=pl4 gb;have L3:=pl2 gc;have E0:=((((E1.trans X1).trans e2).trans X3).trans e5);refine drawn [(10,[9])] ae ae rfl ?_;simp -dsimp (disch:=try exact dx) only[wpS,wpT,zE,zL,zA,l5,cM,ay gb,tkB];refine call (C4 hD0) ?_;rintro _ h6 ⟨X6,rfl⟩;have m6:=X6.n;by_cases hd0:0<wdI d
 ·have hdn:decide (wdI d<0)=false:=bF aa;rw[hdn] at hD0 gb L2;rw[ah aa,ah aa];simp -dsimp (disch:=try exact dx) only[wpS,wpT,zE,zL,zA,l5,cM,oB,ay (X6.kept aa gb),tkA,tkB];refine call (xI (hN0.ai X6.ai) (hD0.ai X6.ai) (jZ hn) (jZ hd)) ?_;rintro g h7 ⟨X7,hg⟩;have m7:=X7.n;have X67:=X6.trans X7;have sg:bQ (Int.gcd (wdI n) (wdI d):Int):=mu ((jZ hd).le (sJ aa (zw _ _)));simp -dsimp (disch:=try exact dx) only[wpS,wpT,zE,zL,zA,cM,ay (X67.kept aa gc),Ed];refine call (Nc hg (p10.ai X67.ai) sg (mu GO)) ?_;rintro _ h8 ⟨X8,rfl⟩;have X68:=X67.trans X8;have E8:=E0.trans X68;by_cases hgc:Int.gcd (wdI n) (wdI d)=1
  ·rw[ah aa,aq aa,aq (show okS n d from⟨hd0,hgc⟩)];simp -dsimp (disch:=try exact dx) only[wpS,wpT,zE];refine⟨by repeat' first|refine aU ?_ ?_|refine bg ?_ ?_|exact az rfl rfl rfl rfl (aP (H0:=H0) rfl aa aN aN bX),?_⟩;simp -dsimp (disch:=try exact dx) only[wpS,wpT,zE,zA];exact E8
  ·rw[ah (show ¬okS n d from fun h=>hgc h.2)];have hg1 : ¬((Int.gcd (wdI n) (wdI d):Int)<1):=by have:=Dz (n:=wdI n) (d:=wdI d) aa;omega
   rw[ah hg1,ah aa];simp -dsimp (disch:=try exact dx) only[wpS,wpT,zE];refine⟨by repeat' first|refine aU ?_ ?_|refine bg ?_ ?_|exact az rfl rfl rfl rfl (aP (H0:=H0) rfl aa aN aN bX),?_⟩;simp -dsimp (disch:=try exact dx) only[wpS,wpT,zE,zA];exact E8
 ·rw[ah (show ¬okS n d from fun h=>hd0 h.1)];have E6:=E0.trans X6;obtain⟨c,hc,hc0⟩ : ∃c:Int,(if wdI d<0 then (-1:Int) else if wdI d=0 then 0 else 1)=c∧c≤0:=⟨_,rfl,by split<;>(try split)<;>omega⟩;rw[hc];simp -dsimp (disch:=try exact dx) only[wpS,wpT,zE,show decide (c≤0)=true from ct hc0];refine⟨GA rfl rfl rfl,?_⟩;simp -dsimp (disch:=try exact dx) only[wpS,wpT,zE,zA];exact E6
def shL (l:List (Nat×Nat)):List QQ:=l.flatMap fun p=>shC p.1 p.2
theorem tj (l:List (Nat×Nat)):(shL l).length=l.length*16:=by
 induction l with
 | nil=>rfl
 | cons a l ih=>rw[shL,Ch,dG,ba,←shL,ih,nL];omega
variable {i:Nat}{p:Nat×Nat}{l:List (Nat×Nat)}
def QE (h:l[i]?=some p):((shL l).drop (i*16)).take 16=shC p.1 p.2:=by
 induction l generalizing i with
 | nil=>simp at h
 | cons a l ih =>
  rw[shL,Ch,←shL];cases i with
  | zero =>
   simp at h;subst h;rw[kf,cC,zC (by rw[ba];omega),fB (by rw[ba];omega)]
  | succ i =>
   simp at h;rw[show(i+1)*16=(shC a.1 a.2).length+i*16 by rw[ba];omega,List.drop_length_add_append];exact ih h
def TY (l:List (Nat×Nat)):(shL l).all bB=true:=by
 induction l with
 | nil=>rfl
 | cons a l ih=>rw[shL,Ch,List.all_append,cT,←shL,ih];rfl
def kU (h:IH) (v:QQ) (l:List (Nat×Nat)):Prop:=df h 16 v l.length (shL l)∧l.length<1152921504606846976 ∧ ∀p∈l,p.1<W8∧p.2<W8
variable {h':IH}
def kU.ai (s:kU h v l) (e:bj h h'):kU h' v l:=⟨s.1.ai e,s.2⟩
def kU.ld (s:kU h v l) (e:bj h h') (hi:l[i]?=some p):load prog h' 32 (bq v (i*16))=some (shV p.1 p.2):=by have hl:i<l.length:=(bU.1 hi).1;rw[s.1.Dn e (by rw[tj];omega) aa ag32 Ow,QE hi];rfl
end
section
variable {h:IH}{n:Int}
def yf {v:Value} (hv:cW h v n):WV prog (.func (.func 131) #[] #[]) [v] h fun r h'=>Ext h h'∧jr h' r (n:Rat):=by obtain⟨s,rfl,c1,o1⟩:=hv.eV;refine enter (nt:=6) (rs:=[.cell 2 137]) Proofs.Tryz.func131 rfl rfl rfl ab ?_;simp -dsimp (disch:=try exact dx) only[wpS,oF];obtain⟨H0,hH0,n0,E0,g0,g1⟩:=ko h [.bool (decide (n<0)),s] ZR;rw[←hH0];clear hH0;have X0:=Ext.refl H0;have L1:=pl2 g0;refine drawn [(0,[3])] ae ae rfl ?_;simp -dsimp (disch:=try exact dx) only[wpS,wpT,zE,zL,zA,cM,ay g0,Ed];refine call (oK 1 ⟨aa,aa⟩) ?_;rintro _ h1 ⟨X1,p1⟩;have m1:=X1.n;obtain⟨s1,rfl,c2,o2⟩:=p1.eV;have kg:=X1.kept aa g1;simp -dsimp (disch:=try exact dx) only[wpS,wpT,zE,zL,zA,N1,BL,BK,nv,kg,o1,o2];refine⟨by repeat' first|refine aU ?_ ?_|refine bg ?_ ?_|exact az rfl rfl rfl rfl (aP (H0:=H0) rfl aa aN aN bX),?_⟩;simp -dsimp (disch:=try exact dx) only[wpS,wpT,zE,zL,zA,mB,kA];have kp:=(bj.refl h1).put kg (.cells [.bool (decide (n<0)),s,.bool false,s1] 0 none);exact⟨(E0.trans X1).put aa _,_,_,_,_,rfl,hv.ai ((E0.trans X1).ai.trans kp),p1.ai kp⟩
def uG (n:Int) (hn:fS n):WV prog (.func (.func 75) #[] #[]) [KI n] h fun r h'=>Ext h h'∧jr h' r (n:Rat):=by
 refine enter (nt:=6) (rs:=[.cell 2 137]) Proofs.Tryz.func75 rfl rfl rfl ab ?_;simp -dsimp (disch:=try exact dx) only[wpS,zE,oF];have E1:Ext h (h.new (.cells ZR 0 none)):=(Ext.refl h).new _;have g1:(h.new (.cells ZR 0 none)).ext.get h.n=some (.cells ZR 0 none):=by simp (disch:=try exact dx) only[ar]
 refine call (oK n hn) ?_;rintro _ h1 ⟨X1,p1⟩;simp -dsimp (disch:=try exact dx) only[wpS,zE];refine call (yf p1) ?_;rintro _ h2 ⟨X2,p2⟩;have m1:=X1.n;have m2:=X2.n;simp only[aH] at m1;obtain⟨a3,s3,b3,t3,rfl,_,_,d1,o1,d2,o2,o3,o4⟩:=p2.parts;have kg:=X2.kept aa (X1.kept ab g1);simp -dsimp (disch:=try exact dx) only[wpS,wpT,zE,zL,zA,nv,mB,kg,o1,o2,o3,o4,kA];exact⟨((E1.trans X1).trans X2).put aa _,p2.ai ((bj.refl _).put kg _)⟩
def pz {d:Nat} (hd:d<W8):wdI d=0↔d=0:=by have h2:=dD;have h3:=lE;unfold wdI;split<;>omega
def OD (n d:Nat) (hn:n<W8) (hd:d<W8) (d0:d≠0):WV prog (.func (.func 189) #[] #[]) [wdV n,wdV d] h fun r h'=>Ext h h'∧r=(open Classical in if QW (Rat.divInt (wdI n) (wdI d)) then .tuple #[mf (Rat.divInt (wdI n) (wdI d)),KI 0] else .tuple #[shV 0 0,KI 6]):=by
 refine enter (nt:=18) (rs:=[.cell 4 32,.tmp 5]) Proofs.Tryz.func189 rfl rfl rfl ab ?_;simp -dsimp (disch:=try exact dx) only[wpS,wpT,zE,zL,zA,pj,bY,kQ,bA,aD];obtain⟨H0,hH0,n0,E0,g0,g1,g2⟩:=jC h (wdC n) (wdC d) Z16;rw[←hH0];clear hH0;have X0:=Ext.refl H0;have L2:load prog H0 30 (ptr (2*(h.n+1)) 0)=some (wdV d):=by simp -dsimp (disch:=try exact dx) only[wpS,zL,bY,ay g1,aD,fW];rfl
 have hz:binop prog .eql 30 (.tmp 6) (.tmp 7) (.agg (wdC d).toArray) (.agg #[ZW,ZW,ZW,ZW,ZW,ZW,ZW,ZW])=some (.bool false):=by rw[iL,wdV,GG hd (by have:=dD;have:=lE;omega)];rw[bF d0]
 have hdI:wdI d≠0:=fun h=>d0 ((pz hd).1 h);simp -dsimp (disch:=try exact dx) only[wpS,zE,fW,hz];refine drawn [(2,[1])] ae ae rfl ?_;simp -dsimp (disch:=try exact dx) only[wpS,zE,zL,bY,ay g0,aD,fW];refine call (j5 n hn) ?_;rintro r1 h1 ⟨X1,p1⟩;have m1:=X1.n;simp -dsimp (disch:=try exact dx) only[wpS,zE,zL,bY,ay (X1.kept aa g1),aD,fW];refine call (j5 d hd) ?_;rintro r2 h2 ⟨hE2,p2⟩;have X2:=X1.trans hE2;have m2:=hE2.n;simp -dsimp (disch:=try exact dx) only[wpS,zE];refine call (vG (p1.ai hE2.ai) p2 (jZ hn) (jZ hd) hdI) ?_;rintro r3 h3 ⟨hE3,p3⟩;have X3:=X2.trans hE3;have m3:=hE3.n;simp -dsimp (disch:=try exact dx) only[wpS,zE];refine call (yx p3) ?_;rintro _ h4 ⟨hE4,rfl⟩;have X4:=X3.trans hE4;have m4:=hE4.n;have kg:=X4.kept aa g2;by_cases hq:QW (Rat.divInt (wdI n) (wdI d))
 ·rw[aq hq];simp -dsimp (disch:=try exact dx) only[wpS,wpT,zE,zL,zA,jT,kg,bR,ba,cT,fD];refine⟨by repeat' first|refine aU ?_ ?_|refine bg ?_ ?_|exact az rfl rfl rfl rfl (aP (H0:=H0) rfl aa aN aN bX),?_⟩;simp -dsimp (disch:=try exact dx) only[wpS,wpT,zE,zL,zA,iY,ba,dJ];exact⟨(E0.trans X4).put aa _,rfl⟩
 ·rw[ah hq];simp -dsimp (disch:=try exact dx) only[wpS,wpT,zE,zL,zA,jT,kg,bR,ba,cT,fD];refine⟨by repeat' first|refine aU ?_ ?_|refine bg ?_ ?_|exact az rfl rfl rfl rfl (aP (H0:=H0) rfl aa aN aN bX),?_⟩;simp -dsimp (disch:=try exact dx) only[wpS,wpT,zE,zL,zA,iY,ba,dJ];exact⟨(E0.trans X4).put aa _,rfl⟩
theorem CZ {d:Int} (hn:fS n) (hd:fS d) (d0:d≠0):QW (Rat.divInt n d):=by have h3:=AB;have q:=QB.divInt (k:=63) d0 (n:=n) (by have:=hn.1;have:=hn.2;omega) (by have:=hd.1;have:=hd.2;omega);obtain⟨q1,q2⟩:=q;have e:2 ^ 63=9223372036854775808:=aC;rw[e] at q1 q2;exact⟨⟨aa,aa⟩,⟨aa,aa⟩⟩
theorem rR (hn:fS n):InW n:=by have h3:=AB;exact⟨by have:=hn.1;omega,by have:=hn.2;omega⟩
def Wr (hn:fS n) (h0:n≠0):bN n≠0:=by have hw:=rR hn;have:=eE hw;intro h;rw[h] at this;have h2:=lE;unfold wdI at this;rw[aq h2] at this;omega
def TT (n d:Int) (hn:fS n) (hd:fS d) (d0:d≠0):WV prog (.func (.func 88) #[] #[]) [KI n,KI d] h fun r h'=>Ext h h'∧r=.tuple #[mf (Rat.divInt n d),KI 0]:=by
 refine enter (nt:=13) (rs:=[.cell 4 32,.tmp 5]) Proofs.Tryz.func88 rfl rfl rfl ab ?_;simp -dsimp (disch:=try exact dx) only[wpS,zE,zA,pj];have E1:Ext h (h.new (.cells Z16 0 none)):=(Ext.refl h).new _;have g1:(h.new (.cells Z16 0 none)).ext.get h.n=some (.cells Z16 0 none):=by simp (disch:=try exact dx) only[ar]
 refine call (pP n hn) ?_;rintro _ h1 ⟨X1,rfl⟩;simp -dsimp (disch:=try exact dx) only[wpS,zE];refine call (pP d hd) ?_;rintro _ h2 ⟨X2,rfl⟩;simp -dsimp (disch:=try exact dx) only[wpS,zE];refine call (OD (bN n) (bN d) (gJ (rR hn)) (gJ (rR hd)) (Wr hd d0)) ?_;rintro _ h3 ⟨X3,rfl⟩;rw[eE (rR hn),eE (rR hd),aq (CZ hn hd d0)];have m1:=X1.n;have m2:=X2.n;have m3:=X3.n;simp only[aH] at m1;have kg:=X3.kept aa (X2.kept aa (X1.kept ab g1));simp -dsimp (disch:=try exact dx) only[wpS,wpT,zE,zL,zA,jT,iY,kg,bR,ba,cT,fD,dJ];exact⟨(((E1.trans X1).trans X2).trans X3).put aa _,rfl⟩
end
section
def Ab:Kept jr:=fun _ _ _ _ r e=>r.ai e
def rOf (p:Nat×Nat):Rat:=Rat.divInt (wdI p.1) (wdI p.2)
variable {p:Nat×Nat}
theorem nU (h:okS p.1 p.2):(rOf p).num=wdI p.1∧((rOf p).den:Int)=wdI p.2:=by obtain⟨h1,h2⟩:=h;obtain⟨a,b⟩:=vH (n:=wdI p.1) h1;rw[h2] at a b;simp only[Int.natCast_one,Int.ediv_one] at a b;exact⟨a.symm,b.symm⟩
def tV (h1:p.1<W8) (h2:p.2<W8) (ok:okS p.1 p.2):QB 512 (rOf p):=by
 obtain⟨e1,e2⟩:=nU ok;have hw:W8=2 ^ 512:=cI;have a1:=jZ h1;unfold QB;have k1:(wdI p.1).natAbs≤2 ^ 512:=by rw[←hw];unfold wdI;have:=dD;split<;>omega
 have k2:wdI p.2≤((2 ^ 512:Nat):Int):=by rw[←hw];unfold wdI;have:=dD;split<;>omega
 generalize (2 ^ 512:Nat)=B at *;refine⟨by rw[e1];exact k1,aa⟩
def shq (q:Rat):Nat×Nat:=(bN q.num,bN q.den)
variable {q:Rat}
def rq (h:QW q):(shq q).1<W8∧(shq q).2<W8:=⟨gJ h.1,gJ h.2⟩
theorem iD (q:Rat):mf q=shV (shq q).1 (shq q).2:=rfl
def BC (h:QW q):rOf (shq q)=q∧okS (shq q).1 (shq q).2:=by
 have e1:wdI (shq q).1=q.num:=eE h.1;have e2:wdI (shq q).2=(q.den:Int):=eE h.2;refine⟨?_,?_,?_⟩;·unfold rOf;rw[e1,e2,Rat.num_divInt_den]
 ·rw[e2];have:=q.den_pos;omega
 ·rw[e1,e2];have:=q.reduced;exact this
end
def VC {P:Program} {t:TypeId} {bytes:Nat} (hT:oR P t=some (4,bytes)) (hb:bytes≤1000) {R:IH→QQ→Rat→Prop} (kR:Kept R) {h:IH} {n0:Nat} {v:QQ} {l:List Rat} {cs:List QQ} (a:Acc h n0 4 v l.length cs) (hc:pd R h l cs) {x1 x2 x3 x4:QQ} {q:Rat} (r:R h (.agg #[x1,x2,x3,x4]) q) (o:([x1,x2,x3,x4]:List QQ).all bB=true) (hl:l.length<100000) (h0:n0≤h.n) {h0':IH} (e0:Ext h0' h) (hn0:h0'.n≤n0) :∃v' h',append P (h.new (.cells [x1,x2,x3,x4] 4 none)) t v (.slice (some ⟨2*h.n,0,none⟩) 1 3)=some (v',h')∧Acc h' n0 4 v' (l ++ [q]).length (cs ++ [x1,x2,x3,x4])∧pd R h' (l ++ [q]) (cs ++ [x1,x2,x3,x4])∧Grow h h'∧Ext h0' h':=by
 have hsz:(l.length+1)*(bytes+1)≤1099511627776:=by have:(l.length+1)*(bytes+1)≤100000*1001:=jg aa aa;omega
 obtain⟨v',h',b1,b2,b3,b4⟩:=a.qC hT (m:=1) (new:=[x1,x2,x3,x4]) aa rfl o hsz h0 e0 hn0;exact⟨v',h',b1,by simpa using b2,(hc.snoc r).ai kR b3.ai,b3,b4⟩


end Go.Id
namespace Go.Id
open Go
open Go renaming Operand→QY,Program→QX,TypeId→QZ,Value→QQ
open Nat renaming reduceAdd→zA,reduceEqDiff→zE,reduceLeDiff→zL
open Nat (reduceMul)
set_option maxHeartbeats 16000000
section
def u6 (r:jq) (c:Code):jq:={ r with state:=.done,pending:=some c }
variable {P:Program}{p:Tmp}
@[reducible] def Zac (k:Nat) (r:jq) (K:QQ→IH→Prop) (e:dL) (_:Fr) (h:IH):Prop :=
 h.ext.get k=some (.loop (oP r))∧match e with
  | .normal=>K (.bool true) (h.put k (.loop r))
  | .exit i=>K (.bool false) (h.put k (.loop (u6 r (.exit i))))
  | .ret=>K (.bool false) (h.put k (.loop (u6 r .ret)))
@[reducible] def Vd (P:Program) (k:Nat) (r:jq) (K:QQ→IH→Prop) (e:dL) (fr:Fr) (h:IH):Prop :=
 e=.normal∧h.ext.get k=some (.loop r)∧Do (wpC P r.fn r.nt (some k) r.body fr (h.put k (.loop (oP r)))) (Zac k r K) nx
theorem Oh {k:Nat} {r:jq} (hst:r.state=.ready) (hpe:r.pending=none) (hps:r.params = [p]) (hp:p<r.nt) (v:QQ) (h:IH) (K:QQ→IH→Prop) (hg:h.ext.get k=some (.loop r))(w:wpC P r.fn r.nt (some k) r.assign ((p,v) :: r.fr) h (Vd P k r K)):WV P (.func (.yield (2*k)) #[] #[]) [v] h K:=by
 obtain⟨⟨e0,fr0,h0⟩,⟨N0,hN0⟩,he0,hg0,w⟩:=iR w;simp only at he0 hg0 w hN0;subst he0;obtain⟨⟨e,fr,h1⟩,⟨N,hN⟩,hb,hk⟩:=iR w;simp only at hb hk hN;have hp':Nat.blt p r.nt=true:=by simp only[Nat.blt,ch];exact hp
 have e1:(2*k % 2 == 0)=true:=ab;have e2:2*k / 2=k:=aa;have e3:iT r.nt r.params [v] r.fr=some ((p,v) :: r.fr):=by rw[hps];simp[iT,ue,hp']
 have e5:(r.state == LoopState.ready)=true:=by rw[hst];rfl
 have e6:({ h0 with ext:=h0.ext.set k (.loop { r with state:=.busy }) }:IH)=h0.put k (.loop (oP r)):=rfl;have e7:({ oP r with state:=.ready,pending:=none }:jq)=r:=by cases r;simp only at hst hpe;subst hst;subst hpe;rfl
 cases e with
 | normal =>
  refine⟨(.bool true,h1.put k (.loop r)),⟨N0+N+1,fun n hn=>?_⟩,hk⟩;obtain⟨n,rfl⟩ : ∃m,n=m+1:=⟨n - 1,aa⟩;have h2:=hN n aa;have h3:=hN0 n aa;show(bif 2*k % 2 == 0 then fu (E0 P) (fP (E0 P) n) n (2*k / 2) ((#[]:Array QQ).toList ++ [v]) h else none)=_;rw[e1,cg,e2];simp only[fu,dK hg,e3,h3,dK hg0,e5,cg,e6,h2,dK hb,kG];rw[e7];rfl
 | exit i =>
  refine⟨(.bool false,h1.put k (.loop (u6 r (.exit i)))),⟨N0+N+1,fun n hn=>?_⟩,hk⟩;obtain⟨n,rfl⟩ : ∃m,n=m+1:=⟨n - 1,aa⟩;have h2:=hN n aa;have h3:=hN0 n aa;show(bif 2*k % 2 == 0 then fu (E0 P) (fP (E0 P) n) n (2*k / 2) ((#[]:Array QQ).toList ++ [v]) h else none)=_;rw[e1,cg,e2];simp only[fu,dK hg,e3,h3,dK hg0,e5,cg,e6,h2,dK hb,kG];rfl
 | ret =>
  refine⟨(.bool false,h1.put k (.loop (u6 r .ret))),⟨N0+N+1,fun n hn=>?_⟩,hk⟩;obtain⟨n,rfl⟩ : ∃m,n=m+1:=⟨n - 1,aa⟩;have h2:=hN n aa;have h3:=hN0 n aa;show(bif 2*k % 2 == 0 then fu (E0 P) (fP (E0 P) n) n (2*k / 2) ((#[]:Array QQ).toList ++ [v]) h else none)=_;rw[e1,cg,e2];simp only[fu,dK hg,e3,h3,dK hg0,e5,cg,e6,h2,dK hb,kG];rfl
def J8 (k:Nat) (r:jq) (fr:Fr) (Q:dL→Fr→IH→Prop) (h1:IH):Prop :=
 (h1.ext.get k=some (.loop r)∧Q .normal fr (h1.put k .dead))∨(∃i,h1.ext.get k=some (.loop (u6 r (.exit i)))∧Q (.exit i) fr (h1.put k .dead))∨(h1.ext.get k=some (.loop (u6 r .ret))∧Q .ret fr (h1.put k .dead))
def QJ {fn:FuncId} {nt:Nat} {rd:Option Nat} {f:Operand} {assign body:Code} {fr:Fr} {h:IH} {Q:dL→Fr→IH→Prop} {fv:QQ} (hf:opd fr f=some fv) (hrd:vz h rd=true) (hp:p<nt)(w : ∀(r:jq) (y:QQ),r.fn=fn→r.nt=nt→r.body=body→(∀v h1 K,h1.ext.get h.n=some (.loop r)→Do (wpC P fn nt (some h.n) assign ((p,v) :: fr) h1) (Vd P h.n r K) nx→WV P y [v] h1 K) →WV P fv [y] (h.new (.loop r)) fun _ h1=>J8 h.n r fr Q h1) :
  Do (vg P fn nt rd f #[p] assign body fr h) Q nx:=by
 have w1:=w { state:=.ready,pending:=none,fn,nt,fr,params:=[p],assign:=assign,body } (.func (.yield (2*h.n)) #[] #[]) rfl rfl rfl
  fun v h1 K hg w=>Oh (r:={ state:=.ready,pending:=none,fn,nt,fr,params:=[p],assign:=assign,body }) rfl rfl rfl hp v h1 K hg w
 obtain⟨⟨v,h1⟩,⟨N,hN⟩,hq⟩:=w1;have st : ∀(r:jq) (e:dL),mj h1 h.n=some r→(r.state == LoopState.busy)=false→Al r.pending=some e → ∀n,N≤n→ot (E0 P) (fP (E0 P) n) fn nt rd f [p] assign body fr h=some (e,fr,h1.put h.n .dead):=by intro r e h3 h4 h5 n hn;have h2:=hN n hn;simp only at h2;simp only[ot,hrd,cg,hf];show(match fP (E0 P) n fv [_] _ with|none=>none|some (_,h1)=>_)=_;rw[h2];simp only[h3,h4,fU,h5];rfl
 rcases hq with⟨hg,hq⟩|⟨i,hg,hq⟩|⟨hg,hq⟩;·exact⟨(.normal,fr,h1.put h.n .dead),⟨N,fun n hn=>st _ _ (dK hg) rfl rfl n hn⟩,hq⟩
 ·exact⟨(.exit i,fr,h1.put h.n .dead),⟨N,fun n hn=>st _ _ (dK hg) rfl rfl n hn⟩,hq⟩
 ·exact⟨(.ret,fr,h1.put h.n .dead),⟨N,fun n hn=>st _ _ (dK hg) rfl rfl n hn⟩,hq⟩
end
open Go.Proofs.Tryz (prog)
def bj.QS {a b:IH} (g:bj a b) {k:Nat} (hk : ∀c e f,b.ext.get k=some (.cells c e f)→e=0) (o:cX):bj a (b.put k o):=⟨g.n,g.base,fun j c e f1 hj hg he=>by
 obtain⟨f2,h2⟩:=g.get j c e f1 hj hg he;refine⟨f2,?_⟩;rw[lZ,ah];·exact h2
 ·rintro rfl;exact he (hk _ _ _ h2)⟩
end Go.Id
namespace Go.Id
open Go
open Go renaming Operand→QY,Program→QX,TypeId→QZ,Value→QQ
open Nat renaming reduceAdd→zA,reduceEqDiff→zE,reduceLeDiff→zL
open Nat (reduceMul)
set_option maxHeartbeats 16000000
def WT (P:Program) (h:IH) (ts:Array TypeId) (k:IntKind) (a b:Int):builtin P h .max ts [.int k a,.int k b]=some (.int k (if a<b then b else a),h):=by
 have h1:aI P (Builtin.max_ ts 0 #[.int k a,.int k b])=some (.int k (if a<b then b else a)):=by unfold Builtin.max_;simp;rfl
 show(bif [QQ.int k a,QQ.int k b].all plain then (fb P (Builtin.max_ ts 0 #[.int k a,.int k b])).map (·,h) else none)=_;simp only[fb,h1];rfl
def Lv (P:Program) (h:IH) (ts:Array TypeId) (k:IntKind) (a b:Int):builtin P h .min ts [.int k a,.int k b]=some (.int k (if b<a then b else a),h):=by
 have h1:aI P (Builtin.min_ ts 0 #[.int k a,.int k b])=some (.int k (if b<a then b else a)):=by unfold Builtin.min_;simp;rfl
 show(bif [QQ.int k a,QQ.int k b].all plain then (fb P (Builtin.min_ ts 0 #[.int k a,.int k b])).map (·,h) else none)=_;simp only[fb,h1];rfl
open Go.Proofs.Tryz (prog)


theorem QD (l:List (Nat×Nat)) (p:Nat×Nat):shL (l ++ [p])=shL l ++ shC p.1 p.2:=by simp[shL]
def Acc.T7 {h:IH} {n0 sz:Nat} {v:Value} {n:Nat} {cs:List Value} (a:Acc h n0 sz v n cs) {k:Nat} {r:jq} (hr:h.ext.get k=some (.loop r)) (o:cX):Acc (h.put k o) n0 sz v n cs:=by
 obtain⟨hz,hl,a|⟨kk,fam,rfl,hn,q1,q2,q3,q4⟩⟩:=a;·exact⟨hz,hl,.inl a⟩
 ·refine⟨hz,hl,.inr ⟨kk,fam,rfl,hn,q1,q2,?_,?_⟩⟩
  ·rw[au _ _ (by rintro rfl;rw[hr] at q3;cases q3)];exact q3
  ·cases fam<;>exact q4
section
def Bm (h:IH) (v:QQ) (n d:Int):Prop:=∃a s b t,v=.agg #[a,s,b,t]∧bP h (.agg #[a,s]) n∧bP h (.agg #[b,t]) d
variable {h:IH}{d n:Int}{v:QQ}{h':IH}
def Bm.ai (p:Bm h v n d) (e:bj h h'):Bm h' v n d:=let ⟨a,s,b,t,h1,h2,h3⟩:=p;⟨a,s,b,t,h1,h2.ai e,h3.ai e⟩
def jl (h:IH) (v:QQ) (q:Rat):Prop:=Bm h v q.num q.den
def jl.ai {q:Rat} (p:jl h v q) (e:bj h h'):jl h' v q:=Bm.ai p e
variable {z:Int}
def bP.eV (d:bP h v z) : ∃s,v=.agg #[.bool (decide (z<0)),s]∧s.cells = #[s]∧bB s=true:=let ⟨s,n,a,b,c,_⟩:=d.form;⟨s,a,b,c⟩
def bP.co {a s:QQ} (d:bP h (.agg #[a,s]) z):a=.bool (decide (z<0))∧s.cells = #[s]∧bB s=true:=by obtain⟨s',h1,h2,h3⟩:=d.eV;cases h1;exact⟨rfl,h2,h3⟩
def Rn (hd:d<0):n / (-(Int.gcd n d:Int))=(Rat.divInt n d).num∧d / (-(Int.gcd n d:Int))=(Rat.divInt n d).den:=by obtain⟨a,b⟩:=BO (n:=n) hd;rw[Cl,Cl];exact⟨a,b⟩
def qg {w:QQ} (hv:bP h v n) (hw:bP h w d) (sn:bQ n) (sd:bQ d) (d0:d≠0) :WV Proofs.Tryz.prog (.func (.func 184) #[] #[]) [v,w] h fun r h'=>Ext h h'∧jl h' r (Rat.divInt n d):=by
 obtain⟨s,rfl,c1,o1⟩:=hv.eV;obtain⟨t,rfl,c2,o2⟩:=hw.eV;have sg:bQ (Int.gcd n d:Int):=by have h1:Int.gcd n d≤d.natAbs:=sJ aa (zw _ _);exact mu (sd.le h1)
 refine enter (nt:=32) (rs:=[.cell 4 177]) Proofs.Tryz.func184 rfl rfl rfl ab ?_;simp -dsimp (disch:=try exact dx) only[wpS,wpT,zE,zL,zA,oE,cj];obtain⟨H0,hH0,n0,E0,g0,g1,g2⟩:=jC h [.bool (decide (n<0)),s] [.bool (decide (d<0)),t] ZR;rw[←hH0];clear hH0;refine call (xU (hv.ai E0.ai) (hw.ai E0.ai) sn sd) ?_;rintro _ h1 ⟨hE1,hg⟩;obtain⟨sg1,rfl,c3,o3⟩:=hg.eV;have hng:decide ((Int.gcd n d:Int)<0)=false:=bF aa;rw[hng] at hg ⊢;have x1:=E0.trans hE1;have n1:=(hE1).n;try simp only[aH,aJ] at n1
 simp -dsimp (disch:=try exact dx) only[wpS,wpT,zE,zL,zA,ff,cZ,gV,ld4,o3,ay (hE1.kept aa g1),Ed];obtain⟨H2,hH2⟩ : ∃H2,H2=(h1.new (.cells ZL 0 none)).put h1.n (.cells [.bool false,sg1] 0 none):=⟨_,rfl⟩;have e2:Ext h1 H2:=by rw[hH2];exact((Ext.refl _).new _).put (aA _) _
 have n2:H2.n=h1.n+1:=by rw[hH2];rfl
 have gg:H2.ext.get h1.n=some (.cells [.bool false,sg1] 0 none):=by rw[hH2];simp (disch:=try exact dx) only[aj]
 rw[←hH2];clear hH2;have x2:=x1.trans e2;have kk0:=e2.kept aa (hE1.kept aa g0);have kk1:=e2.kept aa (hE1.kept aa g1);have kk2:=e2.kept aa (hE1.kept aa g2);refine jQ (fun fr2 H3 => ∃(g:Int) (ag sg2:QQ),Ext h H3∧h1.n+1≤H3.n∧H3.ext.get h.n=some (.cells [.bool (decide (n<0)),s] 0 none)∧H3.ext.get (h.n+1)=some (.cells [.bool (decide (d<0)),t] 0 none)∧H3.ext.get (h.n+1+1)=some (.cells ZR 0 none)∧H3.ext.get h1.n=some (.cells [ag,sg2] 0 none)∧bP H3 (.agg #[ag,sg2]) g∧bQ g∧g≠0∧n / g=(Rat.divInt n d).num∧d / g=(Rat.divInt n d).den ∧bP H3 (.agg #[.bool (decide (n<0)),s]) n∧bP H3 (.agg #[.bool (decide (d<0)),t]) d∧ax fr2 2=some (ptr (2*h.n) 0)∧ax fr2 3=some (ptr (2*(h.n+1)) 0)∧ax fr2 4=some (ptr (2*(h.n+1+1)) 0)∧ax fr2 5=some (ptr (2*h1.n) 0)) (fun hb=>?_) (fun hb=>?_) ?_
 ·have hd:d<0:=by simpa using hb
  obtain⟨b1,b2⟩:=Rn (n:=n) hd;simp -dsimp (disch:=try exact dx) only[wpS,wpT,zE,zL,zA,cj,ay gg,Ed];refine call (GK (hg.ai e2.ai)) ?_;rintro _ h3 ⟨hE3,hT⟩;obtain⟨sT,rfl,c4,o4⟩:=hT.eV;have n3:=(hE3).n;try simp only[aH,aJ] at n3
  have kg:=hE3.kept aa gg;simp -dsimp (disch:=try exact dx) only[wpS,wpT,zE,zL,zA,cZ,kg,o4];have kp:=(bj.refl h3).put kg (.cells [.bool (decide (-(Int.gcd n d:Int)<0)),sT] 0 none);have x3:=x2.trans hE3;have hng:=Dz (n:=n) (d:=d) aa;refine⟨-(Int.gcd n d:Int),_,sT,x3.put aa _,by simp only[aJ];omega,by simp (disch:=try exact dx) only[au];exact hE3.kept aa kk0,by simp (disch:=try exact dx) only[au];exact hE3.kept aa kk1,by simp (disch:=try exact dx) only[au];exact hE3.kept aa kk2,aj _ _ rfl,hT.ai kp,by rw[bQ,Int.natAbs_neg];exact sg,aa,b1,b2,hv.ai (x3.ai.trans kp),hw.ai (x3.ai.trans kp),ab,ab,ab,ab⟩
 ·have hd:0<d:=by
   have : ¬d<0:=by simpa using hb
   omega
  obtain⟨b1,b2⟩:=vH (n:=n) hd;simp -dsimp (disch:=try exact dx) only[wpS,wpT];exact⟨Int.gcd n d,_,sg1,x2,aa,kk0,kk1,kk2,gg,hg.ai e2.ai,sg,Dz d0,b1,b2,hv.ai x2.ai,hw.ai x2.ai,ab,ab,ab,ab⟩
 clear hg kk0 kk1 kk2 gg x2 e2;rintro fr2 H3 ⟨g,ag,sg2,x3,n3,k0,k1,k2,kg,hg,sgg,g0',b1,b2,hv3,hw3,f2,f3,f4,f5⟩;rw[mE];simp -dsimp (disch:=try exact dx) only[wpS,wpT,zE,zL,zA,cj,f2,f5,ay k0,ay kg,Ed];refine call (pT hv3 hg sn sgg g0') ?_;rintro _ h4 ⟨hE4,q,u,rfl,hq,hu⟩;rw[b1] at hq;obtain⟨sq,rfl,c4,o4⟩:=hq.eV;obtain⟨su,rfl,c5,o5⟩:=hu.eV;have n4:=(hE4).n;try simp only[aH,aJ] at n4
 have x4:=x3.trans hE4;simp -dsimp (disch:=try exact dx) only[wpS,wpT,zE,zL,zA,cj,ff,cZ,o4,o5,f3,f5,ay (hE4.kept aa k1),ay (hE4.kept aa kg),Ed];obtain⟨H5,hH5⟩ : ∃H4,H4=((((h4.new (.cells ZL 0 none)).new (.cells ZL 0 none)).put h4.n (.cells [.bool (decide ((Rat.divInt n d).num<0)),sq] 0 none)).put (h4.n+1) (.cells [.bool (decide (n % g<0)),su] 0 none)):=⟨_,rfl⟩;have e5:Ext h4 H5:=by rw[hH5];exact((((Ext.refl _).new _).new _).put (aA _) _).put aa _
 have n5:H5.n=h4.n+2:=by rw[hH5];rfl
 have gq:H5.ext.get h4.n=some (.cells [.bool (decide ((Rat.divInt n d).num<0)),sq] 0 none):=by rw[hH5];simp (disch:=try exact dx) only[aj,au]
 rw[←hH5];clear hH5;refine call (pT (hw3.ai (hE4.trans e5).ai) (hg.ai (hE4.trans e5).ai) sd sgg g0') ?_;rintro _ h6 ⟨hE6,q2,u2,rfl,hq2,hu2⟩;rw[b2] at hq2;obtain⟨sq2,rfl,c6,o6⟩:=hq2.eV;obtain⟨su2,rfl,c7,o7⟩:=hu2.eV;have n6:=(hE6).n;try simp only[aH,aJ] at n6
 have hdf:decide (((Rat.divInt n d).den:Int)<0)=false:=bF aa;rw[hdf] at hq2 ⊢;have x6:=(x4.trans e5).trans hE6;have kq:=hE6.kept aa gq;have kr:=hE6.kept aa (e5.kept aa (hE4.kept aa k2));simp -dsimp (disch:=try exact dx) only[wpS,wpT,zE,zL,zA,cj,ff,cZ,NZ,BI,BH,mr,ny,o6,o7,f4,ay kq,kr,o4,Ed,kA];refine⟨?_,_,_,_,_,rfl,hq.ai ((e5.trans hE6).ai.trans ?_),hq2.ai ?_⟩;·exact((((x6.new _).new _).put aa _).put aa _).put aa _
 ·exact(((((bj.refl h6).new _).new _).put (cs:=ZL) (f:=none) (by simp (disch:=try exact dx) only[ar,aE]) _).put (cs:=ZL) (f:=none) (by simp (disch:=try exact dx) only[ar,au]) _).put (cs:=ZR) (f:=none) (by simp (disch:=try exact dx) only[aE,au];exact kr) _
 ·exact(((((bj.refl h6).new _).new _).put (cs:=ZL) (f:=none) (by simp (disch:=try exact dx) only[ar,aE]) _).put (cs:=ZL) (f:=none) (by simp (disch:=try exact dx) only[ar,au]) _).put (cs:=ZR) (f:=none) (by simp (disch:=try exact dx) only[aE,au];exact kr) _
end
section
variable {h:IH}{v:QQ}
def jl.parts {q:Rat} (p:jl h v q) : ∃a s b t,v=.agg #[a,s,b,t]∧bP h (.agg #[a,s]) q.num∧bP h (.agg #[b,t]) q.den∧s.cells = #[s]∧bB s=true∧t.cells = #[t]∧bB t=true∧bB a=true∧bB b=true:=by obtain⟨a,s,b,t,rfl,h1,h2⟩:=p;obtain⟨rfl,c1,o1⟩:=h1.co;obtain⟨rfl,c2,o2⟩:=h2.co;exact⟨_,s,_,t,rfl,h1,h2,c1,o1,c2,o2,rfl,rfl⟩
variable {H:IH}{s:QQ}{k:Nat}
def ql4 {a b t:QQ} (g:H.ext.get k=some (.cells [a,s,b,t] 0 none)):load prog H 175 (ptr (2*k) 0)=some (.agg #[a,s])∧load prog H 175 (ptr (2*k) 2)=some (.agg #[b,t])∧load prog H 177 (ptr (2*k) 0)=some (.agg #[a,s,b,t]):=by
 have r:=ay g;refine⟨?_,?_,?_⟩
 ·simp -dsimp (disch:=try exact dx) only[wpS,wpT,zL,zA,cj,r];rfl
 ·simp -dsimp (disch:=try exact dx) only[wpS,wpT,zL,zA,cj,r];rfl
 ·rw[iG J3 CB,AP r];rfl
def ql2 {a:QQ} (g:H.ext.get k=some (.cells [a,s] 0 none)):load prog H 175 (ptr (2*k) 0)=some (.agg #[a,s]):=by have r:=ay g;simp -dsimp (disch:=try exact dx) only[wpS,wpT,zL,zA,cj,r];rfl
variable {x y:Rat}{b:Nat}{w:QQ}{a:Nat}
def C0 (hv:jl h v x) (hw:jl h w y) (qx:QB a x) (qy:QB b y) (hk:a+b+1<16000000) :WV prog (.func (.func 168) #[] #[]) [v,w] h fun r h'=>Ext h h'∧jl h' r (x+y):=by obtain⟨a1,s1,b1,t1,rfl,hn1,hd1,c1,o1,c2,o2,o3,o4⟩:=hv.parts;obtain⟨a2,s2,b2,t2,rfl,hn2,hd2,c5,o5,c6,o6,o7,o8⟩:=hw.parts;refine enter (nt:=22) (rs:=[.cell 4 177]) Proofs.Tryz.func168 rfl rfl rfl ab ?_;simp -dsimp (disch:=try exact dx) only[wpS,zE,zA,oE];obtain⟨H0,hH0,n0,E0,g0,g1,g2⟩:=jC h [a1,s1,b1,t1] [a2,s2,b2,t2] ZR;rw[←hH0];clear hH0;have X0:=Ext.refl H0;obtain⟨L1,L2,_⟩:=ql4 g0;obtain⟨L3,L4,_⟩:=ql4 g1;refine drawn [(6,[4]),(8,[4]),(12,[4,9,10]),(14,[4,9,10])] ae ae rfl ?_;simp -dsimp (disch:=try exact dx) only[wpS,wpT,zE,zL,zA,nf,cj,oA,ay g0,ay g1,tkA,tkB];refine call (gP (hn1.ai E0.ai) (hd2.ai E0.ai) (bE qx.1 aa) (bE qy.ij aa)) ?_;rintro r1 h1 ⟨X1,p1⟩;have m1:=X1.n;simp -dsimp (disch:=try exact dx) only[wpS,wpT,zE,zL,zA,nf,cj,oA,ay (X1.kept aa g0),ay (X1.kept aa g1),tkA,tkB];refine call (gP (hn2.ai (E0.trans X1).ai) (hd1.ai (E0.trans X1).ai) (bE qy.1 aa) (bE qx.ij aa)) ?_;rintro r2 h2 ⟨hE2,p2⟩;have m2:=hE2.n;have X2:=X1.trans hE2;simp -dsimp (disch:=try exact dx) only[wpS,zE];have b1':=dC qx.1 qy.ij;have b2':=dC qy.1 qx.ij;have b3':=qx.XZ qy;have b4':=dC qx.ij qy.ij;have sb1:bQ (x.num*y.den):=dj b1' aa;have sb2:bQ (y.num*x.den):=dj b2' aa;have sb3:bQ (x.num*y.den+y.num*x.den):=dj b3' hk;have sb4:bQ ((x.den:Int)*y.den):=dj b4' aa;refine call (qM (p1.ai hE2.ai) p2 sb1 sb2) ?_;rintro r3 h3 ⟨hE3,p3⟩;have m3:=hE3.n;have X3:=X2.trans hE3;simp -dsimp (disch:=try exact dx) only[wpS,wpT,zE,zL,zA,cj,oA,ay (X3.kept aa g0),ay (X3.kept aa g1),tkB];refine call (gP (hd1.ai (E0.trans X3).ai) (hd2.ai (E0.trans X3).ai) (bE qx.ij aa) (bE qy.ij aa)) ?_;rintro r4 h4 ⟨hE4,p4⟩;have m4:=hE4.n;have X4:=X3.trans hE4;simp -dsimp (disch:=try exact dx) only[wpS,zE];refine call (qg (p3.ai hE4.ai) p4 sb3 sb4 (FK x y)) ?_;rintro r5 h5 ⟨hE5,p5⟩;have m5:=hE5.n;have X5:=X4.trans hE5;rw[←G4] at p5;obtain⟨a3,s3,b3,t3,rfl,_,_,d1,o1,d2,o2,o3,o4⟩:=p5.parts;have kg:=X5.kept aa g2;simp -dsimp (disch:=try exact dx) only[wpS,wpT,zE,zL,zA,mr,kg,o1,o2,o3,o4];refine⟨by repeat' first|refine aU ?_ ?_|refine bg ?_ ?_|exact az rfl rfl rfl rfl (aP (H0:=H0) rfl aa aN aN bX),?_⟩;simp -dsimp (disch:=try exact dx) only[wpS,wpT,zE,zL,zA,ny,kA];exact⟨(E0.trans X5).put aa _,p5.ai ((bj.refl _).put kg _)⟩
def OO (hv:jl h v x) (hw:jl h w y) (qx:QB a x) (qy:QB b y) (hk:a+b<16000000) :WV prog (.func (.func 166) #[] #[]) [v,w] h fun r h'=>Ext h h'∧jl h' r (x*y):=by obtain⟨a1,s1,b1,t1,rfl,hn1,hd1,c1,o1,c2,o2,o3,o4⟩:=hv.parts;obtain⟨a2,s2,b2,t2,rfl,hn2,hd2,c5,o5,c6,o6,o7,o8⟩:=hw.parts;refine enter (nt:=16) (rs:=[.cell 4 177]) Proofs.Tryz.func166 rfl rfl rfl ab ?_;simp -dsimp (disch:=try exact dx) only[wpS,zE,zA,oE];obtain⟨H0,hH0,n0,E0,g0,g1,g2⟩:=jC h [a1,s1,b1,t1] [a2,s2,b2,t2] ZR;rw[←hH0];clear hH0;have X0:=Ext.refl H0;obtain⟨L1,L2,_⟩:=ql4 g0;obtain⟨L3,L4,_⟩:=ql4 g1;have sb1:bQ (x.num*y.num):=dj (dC qx.1 qy.1) hk;have sb2:bQ ((x.den:Int)*y.den):=dj (dC qx.ij qy.ij) hk;refine drawn [(6,[4]),(8,[4])] ae ae rfl ?_;simp -dsimp (disch:=try exact dx) only[wpS,wpT,zE,zL,zA,nf,cj,ay g0,ay g1,tkA];refine call (gP (hn1.ai E0.ai) (hn2.ai E0.ai) (bE qx.1 aa) (bE qy.1 aa)) ?_;rintro r1 h1 ⟨X1,p1⟩;have m1:=X1.n;simp -dsimp (disch:=try exact dx) only[wpS,wpT,zE,zL,zA,cj,oA,ay (X1.kept aa g0),ay (X1.kept aa g1),tkB];refine call (gP (hd1.ai (E0.trans X1).ai) (hd2.ai (E0.trans X1).ai) (bE qx.ij aa) (bE qy.ij aa)) ?_;rintro r2 h2 ⟨hE2,p2⟩;have m2:=hE2.n;have X2:=X1.trans hE2;simp -dsimp (disch:=try exact dx) only[wpS,zE];refine call (qg (p1.ai hE2.ai) p2 sb1 sb2 (FK x y)) ?_;rintro r5 h5 ⟨hE5,p5⟩;have m5:=hE5.n;have X5:=X2.trans hE5;rw[←GZ] at p5;obtain⟨a3,s3,b3,t3,rfl,_,_,d1,o1,d2,o2,o3,o4⟩:=p5.parts;have kg:=X5.kept aa g2;simp -dsimp (disch:=try exact dx) only[wpS,wpT,zE,zL,zA,mr,kg,o1,o2,o3,o4];refine⟨by repeat' first|refine aU ?_ ?_|refine bg ?_ ?_|exact az rfl rfl rfl rfl (aP (H0:=H0) rfl aa aN aN bX),?_⟩;simp -dsimp (disch:=try exact dx) only[wpS,wpT,zE,zL,zA,ny,kA];exact⟨(E0.trans X5).put aa _,p5.ai ((bj.refl _).put kg _)⟩
def QN (hv:jl h v x) (hw:jl h w y) (qx:QB a x) (qy:QB b y) (hk:a+b<16000000) (y0:y≠0) :WV prog (.func (.func 165) #[] #[]) [v,w] h fun r h'=>Ext h h'∧jl h' r (x / y):=by obtain⟨a1,s1,b1,t1,rfl,hn1,hd1,c1,o1,c2,o2,o3,o4⟩:=hv.parts;obtain⟨a2,s2,b2,t2,rfl,hn2,hd2,c5,o5,c6,o6,o7,o8⟩:=hw.parts;refine enter (nt:=16) (rs:=[.cell 4 177]) Proofs.Tryz.func165 rfl rfl rfl ab ?_;simp -dsimp (disch:=try exact dx) only[wpS,zE,zA,oE];obtain⟨H0,hH0,n0,E0,g0,g1,g2⟩:=jC h [a1,s1,b1,t1] [a2,s2,b2,t2] ZR;rw[←hH0];clear hH0;have X0:=Ext.refl H0;obtain⟨L1,L2,_⟩:=ql4 g0;obtain⟨L3,L4,_⟩:=ql4 g1;have sb1:bQ (x.num*y.den):=dj (dC qx.1 qy.ij) hk;have sb2:bQ ((x.den:Int)*y.num):=dj (dC qx.ij qy.1) hk;refine drawn [(6,[4]),(8,[4])] ae ae rfl ?_;simp -dsimp (disch:=try exact dx) only[wpS,wpT,zE,zL,zA,nf,cj,oA,ay g0,ay g1,tkA,tkB];refine call (gP (hn1.ai E0.ai) (hd2.ai E0.ai) (bE qx.1 aa) (bE qy.ij aa)) ?_;rintro r1 h1 ⟨X1,p1⟩;have m1:=X1.n;simp -dsimp (disch:=try exact dx) only[wpS,wpT,zE,zL,zA,nf,cj,oA,ay (X1.kept aa g0),ay (X1.kept aa g1),tkA,tkB];refine call (gP (hd1.ai (E0.trans X1).ai) (hn2.ai (E0.trans X1).ai) (bE qx.ij aa) (bE qy.1 aa)) ?_;rintro r2 h2 ⟨hE2,p2⟩;have m2:=hE2.n;have X2:=X1.trans hE2;simp -dsimp (disch:=try exact dx) only[wpS,zE];refine call (qg (p1.ai hE2.ai) p2 sb1 sb2 (Int.mul_ne_zero (DK x) (Lo y0))) ?_;rintro r5 h5 ⟨hE5,p5⟩;have m5:=hE5.n;have X5:=X2.trans hE5;rw[←G0] at p5;obtain⟨a3,s3,b3,t3,rfl,_,_,d1,o1,d2,o2,o3,o4⟩:=p5.parts;have kg:=X5.kept aa g2;simp -dsimp (disch:=try exact dx) only[wpS,wpT,zE,zL,zA,mr,kg,o1,o2,o3,o4];refine⟨by repeat' first|refine aU ?_ ?_|refine bg ?_ ?_|exact az rfl rfl rfl rfl (aP (H0:=H0) rfl aa aN aN bX),?_⟩;simp -dsimp (disch:=try exact dx) only[wpS,wpT,zE,zL,zA,ny,kA];exact⟨(E0.trans X5).put aa _,p5.ai ((bj.refl _).put kg _)⟩
theorem Ug (x y:Rat):(if x.num*y.den<y.num*x.den then (-1:Int) else if y.num*x.den<x.num*y.den then 1 else 0)=if x<y then -1 else if x=y then 0 else 1:=by
 simp only[Rat.lt_iff,Rat.eq_iff_mul_eq_mul];split;·rfl
 ·split<;>split<;>first|rfl|omega
def Fg (hv:jl h v x) (hw:jl h w y) (qx:QB a x) (qy:QB b y) (hk:a+b<16000000) :WV prog (.func (.func 167) #[] #[]) [v,w] h fun r h'=>Ext h h'∧r=KI (if x<y then -1 else if x=y then 0 else 1):=by obtain⟨a1,s1,b1,t1,rfl,hn1,hd1,c1,o1,c2,o2,o3,o4⟩:=hv.parts;obtain⟨a2,s2,b2,t2,rfl,hn2,hd2,c5,o5,c6,o6,o7,o8⟩:=hw.parts;refine enter (nt:=16) (rs:=[.tmp 4]) Proofs.Tryz.func167 rfl rfl rfl ab ?_;simp -dsimp (disch:=try exact dx) only[wpS,zE,zA];obtain⟨H0,hH0,n0,E0,g0,g1⟩:=ko h [a1,s1,b1,t1] [a2,s2,b2,t2];rw[←hH0];clear hH0;have X0:=Ext.refl H0;obtain⟨L1,L2,_⟩:=ql4 g0;obtain⟨L3,L4,_⟩:=ql4 g1;have sb1:bQ (x.num*y.den):=dj (dC qx.1 qy.ij) hk;have sb2:bQ (y.num*x.den):=dj (by rw[xf];exact dC qy.1 qx.ij) hk;refine drawn [(6,[4]),(8,[4])] ae ae rfl ?_;simp -dsimp (disch:=try exact dx) only[wpS,wpT,zE,zL,zA,nf,cj,oA,ay g0,ay g1,tkA,tkB];refine call (gP (hn1.ai E0.ai) (hd2.ai E0.ai) (bE qx.1 aa) (bE qy.ij aa)) ?_;rintro r1 h1 ⟨X1,p1⟩;have m1:=X1.n;simp -dsimp (disch:=try exact dx) only[wpS,wpT,zE,zL,zA,nf,cj,oA,ay (X1.kept aa g0),ay (X1.kept aa g1),tkA,tkB];refine call (gP (hn2.ai (E0.trans X1).ai) (hd1.ai (E0.trans X1).ai) (bE qy.1 aa) (bE qx.ij aa)) ?_;rintro r2 h2 ⟨hE2,p2⟩;have m2:=hE2.n;have X2:=X1.trans hE2;simp -dsimp (disch:=try exact dx) only[wpS,zE];refine call (nZ (p1.ai hE2.ai) p2 sb1 sb2) ?_;rintro _ h5 ⟨hE5,rfl⟩;have X5:=X2.trans hE5;rw[Ug];simp -dsimp (disch:=try exact dx) only[wpS,zE];refine⟨by repeat' first|refine aU ?_ ?_|refine bg ?_ ?_|exact az rfl rfl rfl rfl (aP (H0:=H0) rfl aa aN aN bX),?_⟩;simp -dsimp (disch:=try exact dx) only[wpS,wpT,zE,zA];exact E0.trans X5
def QM (hv:jl h v x) :WV prog (.func (.func 227) #[] #[]) [v] h fun r h'=>Ext h h'∧jl h' r (-x):=by obtain⟨a1,s1,b1,t1,rfl,hn1,hd1,c1,o1,c2,o2,o3,o4⟩:=hv.parts;refine enter (nt:=9) (rs:=[.cell 2 177]) Proofs.Tryz.func227 rfl rfl rfl ab ?_;simp -dsimp (disch:=try exact dx) only[wpS,oE];obtain⟨H0,hH0,n0,E0,g0,g1⟩:=ko h [a1,s1,b1,t1] ZR;rw[←hH0];clear hH0;have X0:=Ext.refl H0;obtain⟨L1,L2,_⟩:=ql4 g0;refine drawn [(4,[2])] ae ae rfl ?_;simp -dsimp (disch:=try exact dx) only[wpS,wpT,zE,zL,zA,nf,cj,ay g0,tkA];refine call (GK (hn1.ai E0.ai)) ?_;rintro r1 h1 ⟨X1,p1⟩;have m1:=X1.n;obtain⟨s3,rfl,c5,o5⟩:=p1.eV;have kg:=X1.kept aa g1;simp -dsimp (disch:=try exact dx) only[wpS,wpT,zE,zL,zA,cj,oA,NZ,BI,BH,mr,ay (X1.kept aa g0),kg,tkB,o5,o2,o4];refine⟨by repeat' first|refine aU ?_ ?_|refine bg ?_ ?_|exact az rfl rfl rfl rfl (aP (H0:=H0) rfl aa aN aN bX),?_⟩;simp -dsimp (disch:=try exact dx) only[wpS,wpT,zE,zL,zA,ny,kA];have kp:=(bj.refl h1).put kg (.cells [.bool (decide (-x.num<0)),s3,b1,t1] 0 none);exact⟨(E0.trans X1).put aa _,_,_,_,_,rfl,p1.ai kp,hd1.ai ((E0.trans X1).ai.trans kp)⟩
def OQ (hv:jl h v x) (hw:jl h w y) (qx:QB a x) (qy:QB b y) (hk:a+b+1<16000000) :WV prog (.func (.func 169) #[] #[]) [v,w] h fun r h'=>Ext h h'∧jl h' r (x - y):=by obtain⟨a1,s1,b1,t1,rfl,hn1,hd1,c1,o1,c2,o2,o3,o4⟩:=hv.parts;obtain⟨a2,s2,b2,t2,rfl,hn2,hd2,c5,o5,c6,o6,o7,o8⟩:=hw.parts;refine enter (nt:=9) (rs:=[.cell 4 177]) Proofs.Tryz.func169 rfl rfl rfl ab ?_;simp -dsimp (disch:=try exact dx) only[wpS,zE,zA,oE];obtain⟨H0,hH0,n0,E0,g0,g1,g2⟩:=jC h [a1,s1,b1,t1] [a2,s2,b2,t2] ZR;rw[←hH0];clear hH0;have X0:=Ext.refl H0;obtain⟨_,_,L1⟩:=ql4 g0;obtain⟨_,_,L2⟩:=ql4 g1;refine drawn [(0,[3])] ae ae rfl ?_;simp -dsimp (disch:=try exact dx) only[wpS,wpT,zE,zL,zA,ny,ay g0,ay g1,kA];refine call (QM (hw.ai E0.ai)) ?_;rintro r1 h1 ⟨X1,p1⟩;have m1:=X1.n;simp -dsimp (disch:=try exact dx) only[wpS,zE];refine call (C0 (hv.ai (E0.trans X1).ai) p1 qx qy.neg hk) ?_;rintro r2 h2 ⟨hE2,p2⟩;have X2:=X1.trans hE2;have m2:=hE2.n;rw[←Rat.sub_eq_add_neg] at p2;obtain⟨a3,s3,b3,t3,rfl,_,_,d1,o1,d2,o2,o3,o4⟩:=p2.parts;have kg:=X2.kept aa g2;simp -dsimp (disch:=try exact dx) only[wpS,wpT,zE,zL,zA,mr,kg,o1,o2,o3,o4];refine⟨by repeat' first|refine aU ?_ ?_|refine bg ?_ ?_|exact az rfl rfl rfl rfl (aP (H0:=H0) rfl aa aN aN bX),?_⟩;simp -dsimp (disch:=try exact dx) only[wpS,wpT,zE,zL,zA,ny,kA];exact⟨(E0.trans X2).put aa _,p2.ai ((bj.refl _).put kg _)⟩
end
section
variable {h:IH}
def yC (n d:Int) (hn:fS n) (hd:fS d) (d0:d≠0):WV prog (.func (.func 115) #[] #[]) [KI n,KI d] h fun r h'=>Ext h h'∧jl h' r (Rat.divInt n d):=by
 refine enter (nt:=10) (rs:=[.cell 4 177]) Proofs.Tryz.func115 rfl rfl rfl ab ?_;simp -dsimp (disch:=try exact dx) only[wpS,zE,zA,oE];have E1:Ext h (h.new (.cells ZR 0 none)):=(Ext.refl h).new _;have g1:(h.new (.cells ZR 0 none)).ext.get h.n=some (.cells ZR 0 none):=by simp (disch:=try exact dx) only[ar]
 refine call (fY n hn) ?_;rintro _ h1 ⟨X1,p1⟩;simp -dsimp (disch:=try exact dx) only[wpS,zE];refine call (fY d hd) ?_;rintro _ h2 ⟨X2,p2⟩;simp -dsimp (disch:=try exact dx) only[wpS,zE];have sn:bQ n:=MJ (by have:=hn.1;have:=hn.2;omega);have sd:bQ d:=MJ (by have:=hd.1;have:=hd.2;omega);refine call (qg (p1.ai X2.ai) p2 sn sd d0) ?_;rintro _ h3 ⟨X3,p3⟩;have m1:=X1.n;have m2:=X2.n;have m3:=X3.n;simp only[aH] at m1;obtain⟨a3,s3,b3,t3,rfl,_,_,d1,o1,d2,o2,o3,o4⟩:=p3.parts;have kg:=X3.kept aa (X2.kept aa (X1.kept ab g1));simp -dsimp (disch:=try exact dx) only[wpS,wpT,zE,zL,zA,mr,ny,kg,o1,o2,o3,o4,kA];exact⟨(((E1.trans X1).trans X2).trans X3).put aa _,p3.ai ((bj.refl _).put kg _)⟩
def CX (n d:Nat) (hn:n<W8) (hd:d<W8):WV prog (.func (.func 164) #[] #[]) [shV n d] h fun r h'=>Ext h h'∧Bm h' r (wdI n) (wdI d):=by refine enter (nt:=10) (rs:=[.cell 2 177]) Proofs.Tryz.func164 rfl rfl rfl ab ?_;simp -dsimp (disch:=try exact dx) only[wpS,oE,bR];obtain⟨H0,hH0,n0,E0,g0,g1⟩:=ko h (shC n d) ZR;rw[←hH0];clear hH0;have X0:=Ext.refl H0;obtain⟨L1,L2,_⟩:=psh g0;refine drawn [(4,[2])] ae ae rfl ?_;simp -dsimp (disch:=try exact dx) only[wpS,zE,zL,qz,bY,ay g0,ba,iE];refine call (lT n hn) ?_;rintro r1 h1 ⟨X1,p1⟩;have m1:=X1.n;simp -dsimp (disch:=try exact dx) only[wpS,zE,zL,zA,bY,qv,ay (X1.kept aa g0),ba,jU];refine call (lT d hd) ?_;rintro r2 h2 ⟨hE2,p2⟩;have m2:=hE2.n;have X2:=X1.trans hE2;obtain⟨s1,rfl,c1,o1⟩:=p1.eV;obtain⟨s2,rfl,c2,o2⟩:=p2.eV;have kg:=X2.kept aa g1;simp -dsimp (disch:=try exact dx) only[wpS,wpT,zE,zL,zA,NZ,BI,BH,mr,kg,o1,o2];refine⟨by repeat' first|refine aU ?_ ?_|refine bg ?_ ?_|exact az rfl rfl rfl rfl (aP (H0:=H0) rfl aa aN aN bX),?_⟩;simp -dsimp (disch:=try exact dx) only[wpS,wpT,zE,zL,zA,ny,kA];have kp:=(bj.refl h2).put kg (.cells [.bool (decide (wdI n<0)),s1,.bool (decide (wdI d<0)),s2] 0 none);exact⟨(E0.trans X2).put aa _,_,_,_,_,rfl,p1.ai (hE2.ai.trans kp),p2.ai kp⟩
def zS {v:Value} {q:Rat} (hv:jl h v q):WV prog (.func (.func 114) #[] #[]) [v] h fun r h'=>Ext h h'∧r=(open Classical in if QW q then .tuple #[mf q,KI 0] else .tuple #[shV 0 0,KI 6]):=by
 obtain⟨a1,s1,b1,t1,rfl,hn1,hd1,c1,o1,c2,o2,o3,o4⟩:=hv.parts;refine enter (nt:=30) (rs:=[.cell 2 32,.tmp 3]) Proofs.Tryz.func114 rfl rfl rfl ab ?_;simp -dsimp (disch:=try exact dx) only[wpS,wpT,zE,zL,zA,pj,nf,cj];obtain⟨H0,hH0,n0,E0,g0,g1⟩:=ko h [a1,s1,b1,t1] Z16;rw[←hH0];clear hH0;simp -dsimp (disch:=try exact dx) only[tkA];refine call (tw (hn1.ai E0.ai)) ?_;rintro _ h1 ⟨X1,rfl⟩;have m1:=X1.n
 obtain⟨w1,e1,hw⟩ : ∃w1 e1,(if InW q.num then Value.tuple #[pf q.num,KI 0] else .tuple #[wdV 0,KI 6])=.tuple #[wdV w1,KI e1]∧(InW q.num∧w1=bN q.num∧e1=0 ∨ ¬InW q.num∧e1=6):=by
  by_cases hi:InW q.num;·exact⟨_,0,by rw[aq hi],.inl ⟨hi,rfl,rfl⟩⟩
  ·exact⟨0,6,by rw[ah hi],.inr ⟨hi,rfl⟩⟩
 rw[hw.1];have k0:=X1.kept aa g0;have k1:=X1.kept aa g1;simp -dsimp (disch:=try exact dx) only[wpS,wpT,zE,zL,zA,cj,fa,dw,oA,bA,aD,aW,bD,ay k0,tkA,tkB];obtain⟨H2,hH2⟩ : ∃H2,H2=(h1.new (.cells [ZW,ZW,ZW,ZW,ZW,ZW,ZW,ZW] 0 none)).put h1.n (.cells (wdC w1) 0 none):=⟨_,rfl⟩;have e2:Ext h1 H2:=by rw[hH2];exact((Ext.refl _).new _).put (aA _) _
 have n2:H2.n=h1.n+1:=by rw[hH2];rfl
 have ga:H2.ext.get h1.n=some (.cells (wdC w1) 0 none):=by rw[hH2];simp (disch:=try exact dx) only[aj]
 have k1':=e2.kept aa k1;rw[←hH2];clear hH2;refine call (tw (hd1.ai ((E0.trans X1).trans e2).ai)) ?_;rintro _ h3 ⟨X3,rfl⟩;have m3:=X3.n
 obtain⟨w2,f2,hw2⟩ : ∃w1 e1,(if InW (q.den:Int) then Value.tuple #[pf q.den,KI 0] else .tuple #[wdV 0,KI 6])=.tuple #[wdV w1,KI e1]∧(InW (q.den:Int)∧w1=bN q.den∧e1=0 ∨ ¬InW (q.den:Int)∧e1=6):=by
  by_cases hi:InW (q.den:Int);·exact⟨_,0,by rw[aq hi],.inl ⟨hi,rfl,rfl⟩⟩
  ·exact⟨0,6,by rw[ah hi],.inr ⟨hi,rfl⟩⟩
 rw[hw2.1];have ga3:=X3.kept aa ga;have k3:=X3.kept aa k1';have xx:=((E0.trans X1).trans e2).trans X3;rcases hw.2 with⟨i1,rfl,rfl⟩|⟨i1,rfl⟩
 ·rcases hw2.2 with⟨i2,rfl,rfl⟩|⟨i2,rfl⟩
  ·rw[aq (show QW q from⟨i1,i2⟩)];simp -dsimp (disch:=try exact dx) only[wpS,wpT,zE,zL,zA,fa,dw,ve,jT,bY,Q7,Q6,iY,bA,aD,aW,bD,ay ga3,k3,fW,Qz,Qy,fD,ba,cT,dJ];exact⟨(((xx.new _).put aa _).put aa _),rfl⟩
  ·rw[ah (show ¬QW q from fun h=>i2 h.2)];simp -dsimp (disch:=try exact dx) only[wpS,wpT,zE,zL,zA,fa,dw,ve,jT,iY,bA,aD,aW,bD,k3,MM];exact⟨(((xx.new _).put aa _).put aa _),by rw[yu]⟩
 ·rw[ah (show ¬QW q from fun h=>i1 h.1)];simp -dsimp (disch:=try exact dx) only[wpS,wpT,zE,zL,zA,fa,dw,ve,jT,iY,bA,aD,aW,bD,k3,MM];exact⟨(((xx.new _).put aa _).put aa _),by rw[yu]⟩
def Lc (n d:Nat) (hn:n<W8) (hd:d<W8) (d0:d≠0):WV prog (.func (.func 147) #[] #[]) [wdV n,wdV d] h fun r h'=>Ext h h'∧r=(open Classical in if QW (Rat.divInt (wdI n) (wdI d)) then .tuple #[mf (Rat.divInt (wdI n) (wdI d)),KI 0] else .tuple #[shV 0 0,KI 6]):=by
 refine enter (nt:=18) (rs:=[.cell 4 32,.tmp 5]) Proofs.Tryz.func147 rfl rfl rfl ab ?_;simp -dsimp (disch:=try exact dx) only[wpS,wpT,zE,zL,zA,pj,bY,kQ,bA,aD];obtain⟨H0,hH0,n0,E0,g0,g1,g2⟩:=jC h (wdC n) (wdC d) Z16;rw[←hH0];clear hH0;have X0:=Ext.refl H0;have L2:load prog H0 30 (ptr (2*(h.n+1)) 0)=some (wdV d):=by simp -dsimp (disch:=try exact dx) only[wpS,zL,bY,ay g1,aD,fW];rfl
 have hz:binop prog .eql 30 (.tmp 6) (.tmp 7) (.agg (wdC d).toArray) (.agg #[ZW,ZW,ZW,ZW,ZW,ZW,ZW,ZW])=some (.bool false):=by rw[iL,wdV,GG hd (by have:=dD;have:=lE;omega)];rw[bF d0]
 have hdI:wdI d≠0:=fun h=>d0 ((pz hd).1 h);simp -dsimp (disch:=try exact dx) only[wpS,zE,fW,hz];refine drawn [(2,[1])] ae ae rfl ?_;simp -dsimp (disch:=try exact dx) only[wpS,zE,zL,bY,ay g0,aD,fW];refine call (lT n hn) ?_;rintro r1 h1 ⟨X1,p1⟩;have m1:=X1.n;simp -dsimp (disch:=try exact dx) only[wpS,zE,zL,bY,ay (X1.kept aa g1),aD,fW];refine call (lT d hd) ?_;rintro r2 h2 ⟨hE2,p2⟩;have X2:=X1.trans hE2;have m2:=hE2.n;simp -dsimp (disch:=try exact dx) only[wpS,zE];refine call (qg (p1.ai hE2.ai) p2 (jZ hn) (jZ hd) hdI) ?_;rintro r3 h3 ⟨hE3,p3⟩;have X3:=X2.trans hE3;have m3:=hE3.n;simp -dsimp (disch:=try exact dx) only[wpS,zE];refine call (zS p3) ?_;rintro _ h4 ⟨hE4,rfl⟩;have X4:=X3.trans hE4;have m4:=hE4.n;have kg:=X4.kept aa g2;by_cases hq:QW (Rat.divInt (wdI n) (wdI d))
 ·rw[aq hq];simp -dsimp (disch:=try exact dx) only[wpS,wpT,zE,zL,zA,jT,kg,bR,ba,cT,fD];refine⟨by repeat' first|refine aU ?_ ?_|refine bg ?_ ?_|exact az rfl rfl rfl rfl (aP (H0:=H0) rfl aa aN aN bX),?_⟩;simp -dsimp (disch:=try exact dx) only[wpS,wpT,zE,zL,zA,iY,ba,dJ];exact⟨(E0.trans X4).put aa _,rfl⟩
 ·rw[ah hq];simp -dsimp (disch:=try exact dx) only[wpS,wpT,zE,zL,zA,jT,kg,bR,ba,cT,fD];refine⟨by repeat' first|refine aU ?_ ?_|refine bg ?_ ?_|exact az rfl rfl rfl rfl (aP (H0:=H0) rfl aa aN aN bX),?_⟩;simp -dsimp (disch:=try exact dx) only[wpS,wpT,zE,zL,zA,iY,ba,dJ];exact⟨(E0.trans X4).put aa _,rfl⟩
def xF (n d:Int) (hn:fS n) (hd:fS d) (d0:d≠0):WV prog (.func (.func 42) #[] #[]) [KI n,KI d] h fun r h'=>Ext h h'∧r=.tuple #[mf (Rat.divInt n d),KI 0]:=by
 have hd':(d == 0)=false:=by simpa using d0
 refine enter (nt:=15) (rs:=[.cell 4 32,.tmp 5]) Proofs.Tryz.func42 rfl rfl rfl ab ?_;simp -dsimp (disch:=try exact dx) only[wpS,zE,zA,pj,hd'];have E1:Ext h (h.new (.cells Z16 0 none)):=(Ext.refl h).new _;have g1:(h.new (.cells Z16 0 none)).ext.get h.n=some (.cells Z16 0 none):=by simp (disch:=try exact dx) only[ar]
 refine call (yC n d hn hd d0) ?_;rintro _ h1 ⟨X1,p1⟩;simp -dsimp (disch:=try exact dx) only[wpS,zE];refine call (zS p1) ?_;rintro _ h2 ⟨X2,rfl⟩;rw[aq (CZ hn hd d0)];have m1:=X1.n;have m2:=X2.n;simp only[aH] at m1;have kg:=X2.kept aa (X1.kept ab g1);simp -dsimp (disch:=try exact dx) only[wpS,wpT,zE,zL,zA,jT,iY,kg,bR,ba,cT,fD,dJ];exact⟨((E1.trans X1).trans X2).put aa _,rfl⟩
end

section
section
variable {P:QX}
theorem Lh:aI P (program)=some P:=rfl
def AS {e:TypeId} {n:Nat} (hA:cu P e=some true) (hs:bK P e=some n) (cs:Array QQ) (off:Nat):aI P (part e cs off)=some (.agg (cs.extract off (off+n))):=by
 unfold part;have h1:aI P (isAgg e)=some true:=by unfold isAgg;simp only[cu,bI] at hA;obtain⟨d,hd,hA⟩:=hA;rw[cU (fH hd)];cases d<;>first|rfl|(simp at hA)
 rw[cU h1];simp only[cq];rw[cU (Fh hs)];rfl
variable {x y:Array QQ}{t:TypeId}{b:Bool}
def wS (hg:P.eqGuardType P.depth t=false) (hx:plain (.agg x)=true) (hy:plain (.agg y)=true) (h:aI P (Op.equal t (.agg x) (.agg y))=some b) (ox oy:QY):binop P .eql t ox oy (.agg x) (.agg y)=some (.bool b):=by
 refine gf P t ox oy hx hy rfl ?_;have h1:aI P (eqGuard .eql t ox oy (.agg x) (.agg y))=some ():=by show aI P (if (!P.eqGuardType P.depth t)=true then _ else _)=_;rw[hg];rfl
 rw[cU h1];show aI P (Op.equal t _ _ >>= fun r=>pure (QQ.bool r))=_;rw[cU h];rfl
def wR (hg:P.eqGuardType P.depth t=false) (hx:plain (.agg x)=true) (hy:plain (.agg y)=true) (h:aI P (Op.equal t (.agg x) (.agg y))=some b) (ox oy:QY):binop P .neq t ox oy (.agg x) (.agg y)=some (.bool (!b)):=by
 refine gf P t ox oy hx hy rfl ?_;have h1:aI P (eqGuard .neq t ox oy (.agg x) (.agg y))=some ():=by show aI P (if (!P.eqGuardType P.depth t)=true then _ else _)=_;rw[hg];rfl
 rw[cU h1];show aI P (Op.equal t _ _ >>= fun r=>pure (QQ.bool !r))=_;rw[cU h];rfl
end
def TX (n d:Nat):((shC n d).toArray).extract 0 8=(wdC n).toArray:=by simp only[List.extract_toArray,Kh];rw[show(8 - 0)=8 from rfl,iE]
def TW (n d:Nat):((shC n d).toArray).extract 8 16=(wdC d).toArray:=by simp only[List.extract_toArray,Kh];rw[show(16 - 8)=8 from rfl,jU]
variable {n:Nat}
def Cu {m:Nat} (hn:n<W8) (hm:m<W8) (k:Nat):aI prog (Op.equalIn (k+2) 30 (.agg (wdC n).toArray) (.agg (wdC m).toArray))=some (decide (n=m)):=by rw[qH,qH,tu u30 u28 Ee _ _ _ ab ab,GH hn hm]
variable {d d' n':Nat}
def CR (h1:n<W8) (h2:d<W8) (h3:n'<W8) (h4:d'<W8) (k:Nat):aI prog (Op.equalIn (k+3) 32 (.agg (shC n d).toArray) (.agg (shC n' d').toArray))=some (decide (n=n'∧d=d')):=by
 unfold Op.equalIn;rw[cU (fH (show QX.underlying prog 32=some (.struct { toList:=[{ name := "N",type:=30,offset:=0,embedded:=false,tag := "",pkgPath := "",byteOffset:=0 },{ name := "D",type:=30,offset:=8,embedded:=false,tag := "",pkgPath := "",byteOffset:=64 }] }) by kernel_rfl))];simp only;rw[cU Lh,show QX.stoodInHeld prog 32=false by kernel_rfl];have seq : ∀{α β:Type} (s:Sem α) (f:α→Sem β),aI prog (s >>= f)=(aI prog s).bind fun a=>aI prog (f a):=fun s f=>fk _ f s;have p1:=fun(n d:Nat)=>AS (P:=prog) PX KD (shC n d).toArray 0;have p2:=fun(n d:Nat)=>AS (P:=prog) PX KD (shC n d).toArray 8;have n1:("N" ≠ "_")=True:=ab;have n2:("D" ≠ "_")=True:=ab;simp only[fJ,cE,←Array.forIn_toList,List.forIn_cons,List.forIn_nil,seq,n1,n2,cq,p1,kD,fy,TX,Cu h1 h3];by_cases e1:n=n'
 ·simp only[ct e1,oW,fJ,cE,vB,kD,seq,p2,show(8+8:Nat)=16 from rfl,TW,Cu h2 h4];by_cases e2:d=d'
  ·simp only[ct e2,oW,fJ,cE,vB,kD];rw[ct (aB e1 e2)]
  ·simp only[bF e2,Bool.not_false,cq,vB,kD];rw[bF (fun h=>e2 h.2)]
 ·simp only[bF e1,Bool.not_false,cq,vB,kD];rw[bF (fun h=>e1 h.1)]
def uC (n d:Nat):plain (.agg (shC n d).toArray)=true:=by simp only[plain,shC,wdC];simp[dN]
def QC (h1:n<W8) (h2:d<W8) (h3:n'<W8) (h4:d'<W8) (ox oy:QY):binop prog .eql 32 ox oy (.agg (shC n d).toArray) (.agg (shC n' d').toArray)=some (.bool (decide (n=n'∧d=d'))):=by exact wS ae (uC _ _) (uC _ _) (CR h1 h2 h3 h4 9997) ox oy
theorem QA (h1:n<W8) (h2:d<W8) (h3:n'<W8) (h4:d'<W8) (ox oy:QY):binop prog .neq 32 ox oy (.agg (shC n d).toArray) (.agg (shC n' d').toArray)=some (.bool (!decide (n=n'∧d=d'))):=by exact wR ae (uC _ _) (uC _ _) (CR h1 h2 h3 h4 9997) ox oy
end




end Go.Id

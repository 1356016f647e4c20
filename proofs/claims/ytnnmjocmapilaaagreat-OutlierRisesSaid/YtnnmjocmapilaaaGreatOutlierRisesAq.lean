/-
  Contracts: the reference's shares: in, out, made, valid
-/
import Derived.Test.YtnnmjocmapilaaaGreatOutlierRisesAp
set_option linter.unusedVariables false
set_option linter.unusedSimpArgs false
set_option linter.defProp false
set_option linter.deprecated false
namespace Go.Id
open Go
open Go.Proofs.Tryz (prog)
open Nat renaming reduceAdd→zA,reduceEqDiff→zE,reduceLeDiff→zL
set_option maxHeartbeats 16000000
variable {h:IH}
def vu (n d:Int) (hn:fZ n) (hd:fZ d) (d0:d≠0):WV prog (.func (.func 115) #[] #[]) [KI n,KI d] h fun r h'=>Ext h h'∧fD h' r (Rat.divInt n d):=by
 refine enter (nt:=10) (rs:=[.cell 4 177]) Proofs.Tryz.func115 rfl rfl rfl (by simp) ?_
 simp -dsimp (disch:=omega) only[wpS,zE,zA,kQ]
 have E1:Ext h (h.new (.cells ZR 0 none)):=(Ext.refl h).new _
 have g1:(h.new (.cells ZR 0 none)).ext.get h.n=some (.cells ZR 0 none):=by simp (disch:=omega) only[ah]
 refine call (oO n hn) ?_
 rintro _ h1 ⟨X1,p1⟩
 simp -dsimp (disch:=omega) only[wpS,zE]
 refine call (oO d hd) ?_
 rintro _ h2 ⟨X2,p2⟩
 simp -dsimp (disch:=omega) only[wpS,zE]
 have sn:aX n:=LH (by have:=hn.1;have:=hn.2;omega)
 have sd:aX d:=LH (by have:=hd.1;have:=hd.2;omega)
 refine call (mC (p1.aa X2.aa) p2 sn sd d0) ?_
 rintro _ h3 ⟨X3,p3⟩
 have m1:=X1.n
 have m2:=X2.n
 have m3:=X3.n
 simp only[aH] at m1
 obtain⟨a3,s3,b3,t3,rfl,_,_,d1,o1,d2,o2,o3,o4⟩:=p3.parts
 have kg:=X3.kept (by omega) (X2.kept (by omega) (X1.kept (by simp) g1))
 simp -dsimp (disch:=omega) only[wpS,wpT,zE,zL,zA,jl,jK,kg,o1,o2,o3,o4,fF]
 exact⟨(((E1.trans X1).trans X2).trans X3).put (by omega) _,p3.aa ((aK.refl _).put kg _)⟩
def An (n d:Nat) (hn:n<W8) (hd:d<W8):WV prog (.func (.func 164) #[] #[]) [shV n d] h fun r h'=>Ext h h'∧yE h' r (wdI n) (wdI d):=by
 refine enter (nt:=10) (rs:=[.cell 2 177]) Proofs.Tryz.func164 rfl rfl rfl (by simp) ?_
 simp -dsimp (disch:=omega) only[wpS,kQ,aD]
 obtain⟨H0,hH0,n0,E0,g0,g1⟩:=ev h (shC n d) ZR
 rw[←hH0]
 clear hH0
 have X0:=Ext.refl H0
 obtain⟨L1,L2,_⟩:=psh g0
 refine drawn [(4,[2])] (by kernel_rfl) (by kernel_rfl) rfl ?_
 simp -dsimp (disch:=omega) only[wpS,zE,zL,Kz,fh,aj g0,ax,qR]
 refine call (vM n hn) ?_
 rintro r1 h1 ⟨X1,p1⟩
 have m1:=X1.n
 simp -dsimp (disch:=omega) only[wpS,zE,zL,zA,fh,Ky,aj (X1.kept (by omega) g0),ax,qQ]
 refine call (vM d hd) ?_
 rintro r2 h2 ⟨hE2,p2⟩
 have m2:=hE2.n
 have X2:=X1.trans hE2
 obtain⟨s1,rfl,c1,o1⟩:=p1.ct
 obtain⟨s2,rfl,c2,o2⟩:=p2.ct
 have kg:=X2.kept (by omega) g1
 simp -dsimp (disch:=omega) only[wpS,wpT,zE,zL,zA,Nr,yZ,yY,jl,kg,o1,o2]
 refine⟨by repeat' first|refine aw ?_ ?_|refine aC ?_ ?_|exact ad rfl rfl rfl rfl (aW (H0:=H0) rfl (by omega) (by assumption) (by assumption) (by with_reducible assumption)),?_⟩
 simp -dsimp (disch:=try exact dx) only[wpS,wpT,zE,zL,zA,jK,fF]
 have kp:=(aK.refl h2).put kg (.cells [.bool (decide (wdI n<0)),s1,.bool (decide (wdI d<0)),s2] 0 none)
 exact⟨(E0.trans X2).put (by omega) _,_,_,_,_,rfl,p1.aa (hE2.aa.trans kp),p2.aa kp⟩
def wT {v:Value} {q:Rat} (hv:fD h v q):WV prog (.func (.func 114) #[] #[]) [v] h fun r h'=>Ext h h'∧r=(open Classical in if QW q then .tuple #[gU q,KI 0] else .tuple #[shV 0 0,KI 6]):=by
 obtain⟨a1,s1,b1,t1,rfl,hn1,hd1,c1,o1,c2,o2,o3,o4⟩:=hv.parts
 refine enter (nt:=30) (rs:=[.cell 2 32,.tmp 3]) Proofs.Tryz.func114 rfl rfl rfl (by simp) ?_
 simp -dsimp (disch:=try exact dx) only[wpS,wpT,zE,zL,zA,fR,jG,cg]
 obtain⟨H0,hH0,n0,E0,g0,g1⟩:=ev h [a1,s1,b1,t1] Z16
 rw[←hH0]
 clear hH0
 simp -dsimp (disch:=try exact dx) only[tkA]
 refine call (JK (hn1.aa E0.aa)) ?_
 rintro _ h1 ⟨X1,rfl⟩
 have m1:=X1.n
 obtain⟨w1,e1,hw⟩ : ∃w1 e1,(if InW q.num then Value.tuple #[qe q.num,KI 0] else .tuple #[wdV 0,KI 6])=.tuple #[wdV w1,KI e1]∧(InW q.num∧w1=aY q.num∧e1=0 ∨ ¬InW q.num∧e1=6):=by
  by_cases hi:InW q.num
  ·exact⟨_,0,by rw[if_pos hi],.inl ⟨hi,rfl,rfl⟩⟩
  ·exact⟨0,6,by rw[if_neg hi],.inr ⟨hi,rfl⟩⟩
 rw[hw.1]
 have k0:=X1.kept (by omega) g0
 have k1:=X1.kept (by omega) g1
 simp -dsimp (disch:=omega) only[wpS,wpT,zE,zL,zA,cg,nW,lh,kM,cM,aA,cm,eK,aj k0,tkA,tkB]
 obtain⟨H2,hH2⟩:=aT ((h1.new (.cells [ZW,ZW,ZW,ZW,ZW,ZW,ZW,ZW] 0 none)).put h1.n (.cells (wdC w1) 0 none))
 have e2:Ext h1 H2:=by rw[hH2];exact((Ext.refl _).new _).put (Nat.le_refl _) _
 have n2:H2.n=h1.n+1:=by rw[hH2];rfl
 have ga:H2.ext.get h1.n=some (.cells (wdC w1) 0 none):=by rw[hH2];simp (disch:=omega) only[ae]
 have k1':=e2.kept (by omega) k1
 rw[←hH2]
 clear hH2
 refine call (JK (hd1.aa ((E0.trans X1).trans e2).aa)) ?_
 rintro _ h3 ⟨X3,rfl⟩
 have m3:=X3.n
 obtain⟨w2,f2,hw2⟩ : ∃w1 e1,(if InW (q.den:Int) then Value.tuple #[qe q.den,KI 0] else .tuple #[wdV 0,KI 6])=.tuple #[wdV w1,KI e1]∧(InW (q.den:Int)∧w1=aY q.den∧e1=0 ∨ ¬InW (q.den:Int)∧e1=6):=by
  by_cases hi:InW (q.den:Int)
  ·exact⟨_,0,by rw[if_pos hi],.inl ⟨hi,rfl,rfl⟩⟩
  ·exact⟨0,6,by rw[if_neg hi],.inr ⟨hi,rfl⟩⟩
 rw[hw2.1]
 have ga3:=X3.kept (by omega) ga
 have k3:=X3.kept (by omega) k1'
 have xx:=((E0.trans X1).trans e2).trans X3
 rcases hw.2 with⟨i1,rfl,rfl⟩|⟨i1,rfl⟩
 ·rcases hw2.2 with⟨i2,rfl,rfl⟩|⟨i2,rfl⟩
  ·rw[if_pos (show QW q from⟨i1,i2⟩)]
   simp -dsimp (disch:=omega) only[wpS,wpT,zE,zL,zA,nW,lh,IE,dF,fh,Rq,Rp,cq,cM,aA,cm,eK,aj ga3,k3,bZ,QQ,QP,bg,ax,aV,aS]
   exact⟨(((xx.new _).put (by omega) _).put (by omega) _),rfl⟩
  ·rw[if_neg (show ¬QW q from fun h=>i2 h.2)]
   simp -dsimp (disch:=omega) only[wpS,wpT,zE,zL,zA,nW,lh,IE,dF,cq,cM,aA,cm,eK,k3,LM]
   exact⟨(((xx.new _).put (by omega) _).put (by omega) _),by rw[ve]⟩
 ·rw[if_neg (show ¬QW q from fun h=>i1 h.1)]
  simp -dsimp (disch:=omega) only[wpS,wpT,zE,zL,zA,nW,lh,IE,dF,cq,cM,aA,cm,eK,k3,LM]
  exact⟨(((xx.new _).put (by omega) _).put (by omega) _),by rw[ve]⟩
def Jx (n d:Nat) (hn:n<W8) (hd:d<W8) (d0:d≠0):WV prog (.func (.func 147) #[] #[]) [wdV n,wdV d] h fun r h'=>Ext h h'∧r=(open Classical in if QW (Rat.divInt (wdI n) (wdI d)) then .tuple #[gU (Rat.divInt (wdI n) (wdI d)),KI 0] else .tuple #[shV 0 0,KI 6]):=by
 refine enter (nt:=18) (rs:=[.cell 4 32,.tmp 5]) Proofs.Tryz.func147 rfl rfl rfl (by simp) ?_
 simp -dsimp (disch:=try exact dx) only[wpS,wpT,zE,zL,zA,fR,fh,FL,cM,aA]
 obtain⟨H0,hH0,n0,E0,g0,g1,g2⟩:=gG h (wdC n) (wdC d) Z16
 rw[←hH0]
 clear hH0
 have X0:=Ext.refl H0
 have L2:load prog H0 30 (ptr (2*(h.n+1)) 0)=some (wdV d):=by
  simp -dsimp (disch:=try exact dx) only[wpS,zL,fh,aj g1,aA,bZ]
  rfl
 have hz:binop prog .eql 30 (.tmp 6) (.tmp 7) (.agg (wdC d).toArray) (.agg #[ZW,ZW,ZW,ZW,ZW,ZW,ZW,ZW])=some (.bool false):=by
  rw[nk,wdV,Qi hd (by have:=eP;have:=iJ;omega)]
  rw[decide_eq_false d0]
 have hdI:wdI d≠0:=fun h=>d0 ((lM hd).1 h)
 simp -dsimp (disch:=try exact dx) only[wpS,zE,bZ,hz]
 refine drawn [(2,[1])] (by kernel_rfl) (by kernel_rfl) rfl ?_
 simp -dsimp (disch:=omega) only[wpS,zE,zL,fh,aj g0,aA,bZ]
 refine call (vM n hn) ?_
 rintro r1 h1 ⟨X1,p1⟩
 have m1:=X1.n
 simp -dsimp (disch:=omega) only[wpS,zE,zL,fh,aj (X1.kept (by omega) g1),aA,bZ]
 refine call (vM d hd) ?_
 rintro r2 h2 ⟨hE2,p2⟩
 have X2:=X1.trans hE2
 have m2:=hE2.n
 simp -dsimp (disch:=omega) only[wpS,zE]
 refine call (mC (p1.aa hE2.aa) p2 (gC hn) (gC hd) hdI) ?_
 rintro r3 h3 ⟨hE3,p3⟩
 have X3:=X2.trans hE3
 have m3:=hE3.n
 simp -dsimp (disch:=omega) only[wpS,zE]
 refine call (wT p3) ?_
 rintro _ h4 ⟨hE4,rfl⟩
 have X4:=X3.trans hE4
 have m4:=hE4.n
 have kg:=X4.kept (by omega) g2
 by_cases hq:QW (Rat.divInt (wdI n) (wdI d))
 ·rw[if_pos hq]
  simp -dsimp (disch:=omega) only[wpS,wpT,zE,zL,zA,dF,kg,aD,ax,aV,bg]
  refine⟨by repeat' first|refine aw ?_ ?_|refine aC ?_ ?_|exact ad rfl rfl rfl rfl (aW (H0:=H0) rfl (by omega) (by assumption) (by assumption) (by with_reducible assumption)),?_⟩
  simp -dsimp (disch:=omega) only[wpS,wpT,zE,zL,zA,cq,ax,aS]
  exact⟨(E0.trans X4).put (by omega) _,rfl⟩
 ·rw[if_neg hq]
  simp -dsimp (disch:=omega) only[wpS,wpT,zE,zL,zA,dF,kg,aD,ax,aV,bg]
  refine⟨by repeat' first|refine aw ?_ ?_|refine aC ?_ ?_|exact ad rfl rfl rfl rfl (aW (H0:=H0) rfl (by omega) (by assumption) (by assumption) (by with_reducible assumption)),?_⟩
  simp -dsimp (disch:=omega) only[wpS,wpT,zE,zL,zA,cq,ax,aS]
  exact⟨(E0.trans X4).put (by omega) _,rfl⟩
def pJ (n d:Int) (hn:fZ n) (hd:fZ d) (d0:d≠0):WV prog (.func (.func 42) #[] #[]) [KI n,KI d] h fun r h'=>Ext h h'∧r=.tuple #[gU (Rat.divInt n d),KI 0]:=by
 have hd':(d == 0)=false:=by simpa using d0
 refine enter (nt:=15) (rs:=[.cell 4 32,.tmp 5]) Proofs.Tryz.func42 rfl rfl rfl (by simp) ?_
 simp -dsimp (disch:=omega) only[wpS,zE,zA,fR,hd']
 have E1:Ext h (h.new (.cells Z16 0 none)):=(Ext.refl h).new _
 have g1:(h.new (.cells Z16 0 none)).ext.get h.n=some (.cells Z16 0 none):=by simp (disch:=omega) only[ah]
 refine call (vu n d hn hd d0) ?_
 rintro _ h1 ⟨X1,p1⟩
 simp -dsimp (disch:=omega) only[wpS,zE]
 refine call (wT p1) ?_
 rintro _ h2 ⟨X2,rfl⟩
 rw[if_pos (gX hn hd d0)]
 have m1:=X1.n
 have m2:=X2.n
 simp only[aH] at m1
 have kg:=X2.kept (by omega) (X1.kept (by simp) g1)
 simp -dsimp (disch:=omega) only[wpS,wpT,zE,zL,zA,dF,cq,kg,aD,ax,aV,bg,aS]
 exact⟨((E1.trans X1).trans X2).put (by omega) _,rfl⟩
end Go.Id
namespace Go.Id
open Go
def RP {h:IH} (n d:Nat) (hn:n<W8) (hd:d<W8) (d0:d≠0) (hq:QW (Rat.divInt (wdI n) (wdI d))):WV Proofs.Tryz.prog (.func (.func 73) #[] #[]) [wdV n,wdV d] h fun r h'=>Ext h h'∧r=gU (Rat.divInt (wdI n) (wdI d)):=by
 refine enter (nt:=22) (rs:=[.cell 4 32]) Proofs.Tryz.func73 rfl rfl rfl (by simp) ?_
 simp -dsimp (disch:=try exact dx) only[wpS,Nat.reduceEqDiff,Nat.reduceLeDiff,Nat.reduceAdd,fR,fh,cM,aA,bZ]
 obtain⟨H0,hH0,n0,E0,g0,g1,g2⟩:=gG h (wdC n) (wdC d) Z16
 rw[←hH0]
 clear hH0
 refine call (Jx n d hn hd d0) ?_
 rintro _ h1 ⟨X1,rfl⟩
 rw[if_pos hq]
 have m1:=X1.n
 have k2:=X1.kept (by omega) g2
 simp -dsimp (disch:=omega) only[wpS,wpT,Nat.reduceEqDiff,Nat.reduceLeDiff,Nat.reduceAdd,fR,dF,cq,k2,aD,ax,aV,bg,aS]
 exact⟨(((E0.trans X1).new _).put (by omega) _).put (by omega) _,rfl⟩
open Go.Proofs.Tryz (prog)
section
variable {P:Program}
theorem JE:ar P (program)=some P:=rfl
def xZ {e:TypeId} {n:Nat} (hA:bh P e=some true) (hs:aO P e=some n) (cs:Array Value) (off:Nat):ar P (part e cs off)=some (.agg (cs.extract off (off+n))):=by
 unfold part
 have h1:ar P (isAgg e)=some true:=by
  unfold isAgg
  simp only[bh,Option.map_eq_some_iff] at hA
  obtain⟨d,hd,hA⟩:=hA
  rw[cw (fw hd)]
  cases d<;>first|rfl|(simp at hA)
 rw[cw h1]
 simp only[if_true]
 rw[cw (CH hs)]
 rfl
variable {t:TypeId}{y x:Array Value}{b:Bool}
def Cd (hg:P.eqGuardType P.depth t=false) (hx:plain (.agg x)=true) (hy:plain (.agg y)=true) (h:ar P (Op.equal t (.agg x) (.agg y))=some b) (ox oy:Operand):binop P .eql t ox oy (.agg x) (.agg y)=some (.bool b):=by
 refine cX P t ox oy hx hy rfl ?_
 have h1:ar P (eqGuard .eql t ox oy (.agg x) (.agg y))=some ():=by
  show ar P (if (!P.eqGuardType P.depth t)=true then _ else _)=_
  rw[hg];rfl
 rw[cw h1]
 show ar P (Op.equal t _ _ >>= fun r=>pure (Value.bool r))=_
 rw[cw h];rfl
def Cb (hg:P.eqGuardType P.depth t=false) (hx:plain (.agg x)=true) (hy:plain (.agg y)=true) (h:ar P (Op.equal t (.agg x) (.agg y))=some b) (ox oy:Operand):binop P .neq t ox oy (.agg x) (.agg y)=some (.bool (!b)):=by
 refine cX P t ox oy hx hy rfl ?_
 have h1:ar P (eqGuard .neq t ox oy (.agg x) (.agg y))=some ():=by
  show ar P (if (!P.eqGuardType P.depth t)=true then _ else _)=_
  rw[hg];rfl
 rw[cw h1]
 show ar P (Op.equal t _ _ >>= fun r=>pure (Value.bool !r))=_
 rw[cw h];rfl
end
def Uw (n d:Nat):((shC n d).toArray).extract 0 8=(wdC n).toArray:=by
 simp only[List.extract_toArray,List.extract_eq_take_drop]
 rw[show(8 - 0)=8 from rfl,qR]
def Uv (n d:Nat):((shC n d).toArray).extract 8 16=(wdC d).toArray:=by
 simp only[List.extract_toArray,List.extract_eq_take_drop]
 rw[show(16 - 8)=8 from rfl,qQ]
variable {n:Nat}
def zH {m:Nat} (hn:n<W8) (hm:m<W8) (k:Nat):ar prog (Op.equalIn (k+2) 30 (.agg (wdC n).toArray) (.agg (wdC m).toArray))=some (decide (n=m)):=by
 rw[sC,sC,pN u30 u28 Ei _ _ _ (by simp) (by simp),Jb hn hm]
variable {n' d' d:Nat}
def Ab (h1:n<W8) (h2:d<W8) (h3:n'<W8) (h4:d'<W8) (k:Nat):ar prog (Op.equalIn (k+3) 32 (.agg (shC n d).toArray) (.agg (shC n' d').toArray))=some (decide (n=n'∧d=d')):=by
 unfold Op.equalIn
 rw[cw (fw (show Program.underlying prog 32=some (.struct { toList:=[{ name := "N",type:=30,offset:=0,embedded:=false,tag := "",pkgPath := "",byteOffset:=0 },{ name := "D",type:=30,offset:=8,embedded:=false,tag := "",pkgPath := "",byteOffset:=64 }] }) by kernel_rfl))]
 simp only
 rw[cw JE,show Program.stoodInHeld prog 32=false by kernel_rfl]
 have seq : ∀{α β:Type} (s:Sem α) (f:α→Sem β),ar prog (s >>= f)=(ar prog s).bind fun a=>ar prog (f a):=fun s f=>ff _ f s
 have p1:=fun(n d:Nat)=>xZ (P:=prog) VT Qx (shC n d).toArray 0
 have p2:=fun(n d:Nat)=>xZ (P:=prog) VT Qx (shC n d).toArray 8
 have n1:("N" ≠ "_")=True:=by simp
 have n2:("D" ≠ "_")=True:=by simp
 simp only[Bool.false_eq_true,if_false,←Array.forIn_toList,List.forIn_cons,List.forIn_nil,seq,n1,n2,if_true,p1,Option.bind_some,Nat.zero_add,Uw,zH h1 h3]
 by_cases e1:n=n'
 ·simp only[decide_eq_true e1,Bool.not_true,Bool.false_eq_true,if_false,vx,Option.bind_some,seq,p2,show(8+8:Nat)=16 from rfl,Uv,zH h2 h4]
  by_cases e2:d=d'
  ·simp only[decide_eq_true e2,Bool.not_true,Bool.false_eq_true,if_false,vx,Option.bind_some]
   rw[decide_eq_true (And.intro e1 e2)]
  ·simp only[decide_eq_false e2,Bool.not_false,if_true,vx,Option.bind_some]
   rw[decide_eq_false (fun h=>e2 h.2)]
 ·simp only[decide_eq_false e1,Bool.not_false,if_true,vx,Option.bind_some]
  rw[decide_eq_false (fun h=>e1 h.1)]
def vf (n d:Nat):plain (.agg (shC n d).toArray)=true:=by
 simp only[plain,shC,wdC]
 simp[bA]
def QS (h1:n<W8) (h2:d<W8) (h3:n'<W8) (h4:d'<W8) (ox oy:Operand):binop prog .eql 32 ox oy (.agg (shC n d).toArray) (.agg (shC n' d').toArray)=some (.bool (decide (n=n'∧d=d'))):=by
 exact Cd (by kernel_rfl) (vf _ _) (vf _ _) (Ab h1 h2 h3 h4 9997) ox oy
def QR (h1:n<W8) (h2:d<W8) (h3:n'<W8) (h4:d'<W8) (ox oy:Operand):binop prog .neq 32 ox oy (.agg (shC n d).toArray) (.agg (shC n' d').toArray)=some (.bool (!decide (n=n'∧d=d'))):=by
 exact Cb (by kernel_rfl) (vf _ _) (vf _ _) (Ab h1 h2 h3 h4 9997) ox oy
end Go.Id
namespace Go.Id
open Go


open Go.Proofs.Tryz (prog)
open Nat renaming reduceAdd→zA,reduceEqDiff→zE,reduceLeDiff→zL
set_option maxHeartbeats 16000000
variable {n:Int}{h:IH}{x:Value}{b:Bool}
def mT (hx:([x]:List Value).all aB=true) (h0:0≤n) (hn:n<4294967296) :
  WV prog (.func (.func 72) #[] #[]) [.agg #[.bool b,x,.int .u32 n]] h fun r h'=>Ext h h' ∧ ∃z:Int,r=KI z ∧ -1000000≤z∧z≤1000000:=by
 have E1:Ext h (h.new (.cells [.bool b,x,.int .u32 n] 0 none)):=(Ext.refl h).new _
 have hm:0≤n % 1000001:=by omega
 have hm2:n % 1000001≤1000000:=by omega
 have hx':aB x=true:=by simpa using hx
 refine enter (nt:=13) (rs:=[.tmp 2]) Proofs.Tryz.func72 rfl rfl rfl (by simp) ?_
 simp -dsimp (disch:=omega) only[wpS,zE,Sv,ld54,Ta,Sw,ld4]
 cases b
 ·simp -dsimp (disch:=omega) only[wpS,zE]
  exact⟨E1,_,rfl,by omega,by omega⟩
 ·simp -dsimp (disch:=omega) only[wpS,zE]
  exact⟨E1,_,rfl,by omega,by omega⟩
def mw (z:Int) : -1000<z.tmod 1000∧z.tmod 1000<1000:=by
 rcases Int.le_total 0 z with h|h
 ·rw[Int.tmod_eq_emod_of_nonneg h];omega
 ·obtain⟨w,rfl⟩ : ∃w,z = -w:=⟨-z,by omega⟩
  rw[Int.neg_tmod,Int.tmod_eq_emod_of_nonneg (by omega)];omega
def oH (a c:Int) (ha : -1000<a∧a<1000) (hc:0<c∧c<25):WV prog (.func (.func 73) #[] #[]) [qe a,qe c] h fun r h'=>Ext h h'∧r=gU (Rat.divInt a c):=by
 have ia:fZ a:=⟨by omega,by omega⟩
 have ic:fZ c:=⟨by omega,by omega⟩
 have e1:wdI (aY a)=a:=cB (jL ia)
 have e2:wdI (aY c)=c:=cB (jL ic)
 have hz:aY c≠0:=by
  intro e
  rw[e] at e2
  have:wdI 0=0:=by decide +kernel
  omega
 have hq:QW (Rat.divInt (wdI (aY a)) (wdI (aY c))):=by
  rw[e1,e2]
  exact gX ia ic (by omega)
 have:=RP (h:=h) (aY a) (aY c) (ec (jL ia)) (ec (jL ic)) hz hq
 rw[e1,e2] at this
 exact this
def KB {b2:Bool} {x2:Value} {n2:Int} (hx:([x]:List Value).all aB=true) (hx2:([x2]:List Value).all aB=true) (h0:0≤n) (hn:n<4294967296) (g0:0≤n2) (gn:n2<4294967296) :
  WV prog (.func (.func 29) #[] #[]) [.agg #[.bool b,x,.int .u32 n,.bool b2,x2,.int .u32 n2]] h fun r h'=>Ext h h' ∧ ∃a c:Int,(-1000<a∧a<1000)∧(0<c∧c<25)∧r=gU (Rat.divInt a c):=by
 have hx':aB x=true:=by simpa using hx
 have hx2':aB x2=true:=by simpa using hx2
 obtain⟨H0,hH0,n0,E0,k0,k1⟩:=ev h [.bool b,x,.int .u32 n,.bool b2,x2,.int .u32 n2] Z16
 refine enter (nt:=21) (rs:=[.cell 2 32]) Proofs.Tryz.func29 rfl rfl rfl (by simp) ?_
 simp -dsimp (disch:=try exact dx) only[wpS,wpT,zE,zL,zA,fR,Kx,EY]
 rw[←hH0]
 clear hH0
 refine call (mT hx2 g0 gn) ?_
 rintro _ h1 ⟨X1,z,rfl,z0,z1⟩
 have m1:=X1.n
 have kx:=X1.kept (by omega) k0
 have KM:z<0∨0≤z:=by omega
 rcases KM with hz|hz
 ·obtain⟨w,hw⟩:=aT (-z)
  have c1:decide (z<0)=true:=decide_eq_true hz
  simp -dsimp (disch:=omega) only[wpS,wpT,zE,zL,zA,EY,Be,c1,aj kx]
  rw[←hw]
  refine call (mT hx h0 hn) ?_
  rintro _ h2 ⟨X2,y,rfl,y0,y1⟩
  have m2:=X2.n
  have hr : ∀ox oy,binop prog .rem 3 ox oy (KI y) (KI 1000)=some (KI (y.tmod 1000)):=fun _ _=>kh _ _ _ _ (by decide)
  have hy:=mw y
  simp -dsimp (disch:=omega) only[wpS,zE,hr]
  refine call (cU (y.tmod 1000) ⟨by omega,by omega⟩) ?_
  rintro _ h3 ⟨X3,rfl⟩
  have m3:=X3.n
  simp -dsimp (disch:=omega) only[wpS,zE]
  refine call (cU (1+w % 24) ⟨by omega,by omega⟩) ?_
  rintro _ h4 ⟨X4,rfl⟩
  have m4:=X4.n
  simp -dsimp (disch:=omega) only[wpS,zE]
  refine call (oH (y.tmod 1000) (1+w % 24) hy ⟨by omega,by omega⟩) ?_
  rintro _ h5 ⟨X5,rfl⟩
  have m5:=X5.n
  have XX:=(((X1.trans X2).trans X3).trans X4).trans X5
  have k2:=XX.kept (by omega) k1
  simp -dsimp (disch:=omega) only[wpS,wpT,zE,zL,zA,dF,cq,k2,aD,ax,aV,bg,aS]
  exact⟨(E0.trans XX).put (by omega) _,_,_,hy,⟨by omega,by omega⟩,rfl⟩
 ·obtain⟨w,hw⟩:=aT (z)
  have c1:decide (z<0)=false:=decide_eq_false (by omega)
  simp -dsimp (disch:=omega) only[wpS,wpT,zE,zL,zA,EY,Be,c1,aj kx]
  rw[←hw]
  refine call (mT hx h0 hn) ?_
  rintro _ h2 ⟨X2,y,rfl,y0,y1⟩
  have m2:=X2.n
  have hr : ∀ox oy,binop prog .rem 3 ox oy (KI y) (KI 1000)=some (KI (y.tmod 1000)):=fun _ _=>kh _ _ _ _ (by decide)
  have hy:=mw y
  simp -dsimp (disch:=omega) only[wpS,zE,hr]
  refine call (cU (y.tmod 1000) ⟨by omega,by omega⟩) ?_
  rintro _ h3 ⟨X3,rfl⟩
  have m3:=X3.n
  simp -dsimp (disch:=omega) only[wpS,zE]
  refine call (cU (1+w % 24) ⟨by omega,by omega⟩) ?_
  rintro _ h4 ⟨X4,rfl⟩
  have m4:=X4.n
  simp -dsimp (disch:=omega) only[wpS,zE]
  refine call (oH (y.tmod 1000) (1+w % 24) hy ⟨by omega,by omega⟩) ?_
  rintro _ h5 ⟨X5,rfl⟩
  have m5:=X5.n
  have XX:=(((X1.trans X2).trans X3).trans X4).trans X5
  have k2:=XX.kept (by omega) k1
  simp -dsimp (disch:=omega) only[wpS,wpT,zE,zL,zA,dF,cq,k2,aD,ax,aV,bg,aS]
  exact⟨(E0.trans XX).put (by omega) _,_,_,hy,⟨by omega,by omega⟩,rfl⟩
end Go.Id
namespace Go.Id
open Go

open Go.Proofs.Tryz (prog)
open Nat renaming reduceAdd→zA,reduceEqDiff→zE,reduceLeDiff→zL
set_option maxHeartbeats 16000000
variable {h:IH}
def Yi {v:Value} {z:Int} (hv:bd h v z):WV prog (.func (.func 224) #[] #[]) [v] h fun r h'=>Ext h h'∧r=.bool (decide (z=1)):=by
 obtain⟨s,rfl,ds,hD,hN,hx⟩:=hv
 have E1:Ext h (h.new (.cells [.bool (decide (z<0)),s] 0 none)):=(Ext.refl h).new _
 refine enter (nt:=19) (rs:=[.tmp 2]) Proofs.Tryz.func224 rfl rfl rfl (by simp) ?_
 by_cases h1:ds.length=1
 ·obtain⟨x,rfl⟩:=List.length_eq_one_iff.1 h1
  have hv:ao [x]=x:=by simp[ao,aI]
  rw[hv] at hx
  have ib:indexAddr prog 25 s (.int .i64 0)=some (aP s 0):=by
   simpa using hD.1.idxI (P:=prog) (t:=25) j6 (k:=.i64) (i:=0) (by omega) (by simp)
  have l0:load prog (h.new (.cells [.bool (decide (z<0)),s] 0 none)) 3 (aP s 0)=some (KN x):=hD.1.ld E1.aa (P:=prog) (t:=3) (c:=0) (by simp) ag3
  have hl:=fun h'=>hD.1.len (P:=prog) gh h'
  have hl' : ∀h',ot prog h' 25 s=some (.int .i64 1):=fun h'=>hl h'
  by_cases hx1:x=1
  ·subst hx1
   have l0':load prog (h.new (.cells [.bool (decide (z<0)),s] 0 none)) 3 (aP s 0)=some (KI 1):=l0
   simp -dsimp (disch:=omega) only[wpS,wpT,zE,fk,rC,dT,ld4,hl',ib,l0']
   refine⟨E1,congrArg Value.bool ?_⟩
   by_cases h0:z<0
   ·rw[decide_eq_true h0,decide_eq_false (by omega)];rfl
   ·rw[decide_eq_false h0,decide_eq_true (by omega)];rfl
  ·have c1:((x:Int) == 1)=false:=by simp;omega
   simp -dsimp (disch:=omega) only[wpS,wpT,zE,fk,rC,hl',ib,l0,c1]
   exact⟨E1,by rw[decide_eq_false (by omega)]⟩
 ·have c1:((ds.length:Int) == 1)=false:=by simp;omega
  simp -dsimp (disch:=omega) only[wpS,wpT,zE,fk,rC,hD.1.len gh,c1]
  refine⟨E1,?_⟩
  rw[decide_eq_false]
  rintro rfl
  have h2:ao ds=1:=hx
  have h3:=hN.jd (b:=[1]) (by intro d hd;simp at hd;omega) (by rw[h2];simp[ao,aI])
  have h4:=hN.kI
  rcases Nat.lt_or_ge 0 ds.length with h5|h5
  ·simp at h3;omega
  ·have:ds = []:=List.length_eq_zero_iff.1 (by omega)
   rw[this] at h2;simp[ao,aI] at h2
def Hg (n d:Nat) (hn:n<W8) (hd:d<W8):WV prog (.func (.func 148) #[] #[]) [shV n d] h fun r h'=>Ext h h'∧r=.bool (decide (okS n d)):=by
 refine enter (nt:=26) (rs:=[.tmp 2]) Proofs.Tryz.func148 rfl rfl rfl (by simp) ?_
 simp -dsimp (disch:=omega) only[wpS,aD]
 obtain⟨H0,hH0⟩:=aT (h.new (.cells (shC n d) 0 none))
 have E0:Ext h H0:=by rw[hH0];exact(Ext.refl h).new _
 have n0:H0.n=h.n+1:=by rw[hH0];rfl
 have g0:H0.ext.get h.n=some (.cells (shC n d) 0 none):=by rw[hH0];simp (disch:=omega) only[ah]
 rw[←hH0]
 clear hH0
 have X0:=Ext.refl H0
 obtain⟨L1,L2,_⟩:=psh g0
 refine drawn [(4,[2])] (by kernel_rfl) (by kernel_rfl) rfl ?_
 simp -dsimp (disch:=omega) only[wpS,zE,zL,Kz,fh,aj g0,ax,qR]
 refine call (vM n hn) ?_
 rintro _ h1 ⟨X1,p1⟩
 have m1:=X1.n
 simp -dsimp (disch:=omega) only[wpS,zE,zL,zA,fh,Ky,aj (X1.kept (by omega) g0),ax,qQ]
 refine call (vM d hd) ?_
 rintro _ h2 ⟨X2,p2⟩
 have m2:=X2.n
 have X12:=X1.trans X2
 obtain⟨s1,n1',rfl,c1,o1,_,_⟩:=p1.form
 obtain⟨s2,n2',rfl,c2,o2,lenD,zD⟩:=p2.form
 simp -dsimp (disch:=try exact dx) only[wpS,wpT,zE,zL,zA,lD,gR,o1,o2]
 refine⟨by repeat' first|refine aw ?_ ?_|refine aC ?_ ?_|exact ad rfl rfl rfl rfl (aW (H0:=H0) rfl (by omega) (by assumption) (by assumption) (by with_reducible assumption)),?_⟩
 obtain⟨K0,hK0⟩:=aT (((((h2.new (.cells ZL 0 none)).new (.cells ZL 0 none)).put h2.n (.cells [.bool (decide (wdI n<0)),s1] 0 none)).put (h2.n+1) (.cells [.bool (decide (wdI d<0)),s2] 0 none)))
 have e3:Ext h2 K0:=by rw[hK0];exact((((Ext.refl _).new _).new _).put (Nat.le_refl _) _).put (by omega) _
 have n3:K0.n=h2.n+2:=by rw[hK0];rfl
 have ga:K0.ext.get h2.n=some (.cells [.bool (decide (wdI n<0)),s1] 0 none):=by rw[hK0];simp (disch:=omega) only[ae,ak]
 have gb:K0.ext.get (h2.n+1)=some (.cells [.bool (decide (wdI d<0)),s2] 0 none):=by rw[hK0];simp (disch:=omega) only[ae]
 simp -dsimp (disch:=omega) only[wpS,wpT,zE,zA,dT,ld4]
 rw[←hK0]
 clear hK0
 have q1:=p1.aa (X2.trans e3).aa
 have q2:=p2.aa e3.aa
 have E3:=(E0.trans X12).trans e3
 by_cases ux:wdI d<0
 ·have cn:decide (wdI d<0)=true:=decide_eq_true ux
  rw[cn] at gb
  simp -dsimp (disch:=omega) only[wpS,wpT,zE]
  exact⟨E3,by rw[decide_eq_false (fun h=>by have:=h.1;omega)]⟩
 ·have cn:decide (wdI d<0)=false:=decide_eq_false ux
  rw[cn] at gb q2
  by_cases hz:wdI d=0
  ·have c0:decide ((0:Int)<(n2':Int))=false:=decide_eq_false (by have:=zD.2 hz;omega)
   simp -dsimp (disch:=omega) only[wpS,wpT,zE,fk,rC,aj gb,lenD gh,c0]
   exact⟨E3,by rw[decide_eq_false (fun h=>by have:=h.1;omega)]⟩
  ·have c0:decide ((0:Int)<(n2':Int))=true:=decide_eq_true (by
    have:n2'≠0:=fun h=>hz (zD.1 h)
    omega)
   simp -dsimp (disch:=omega) only[wpS,wpT,zE,zL,zA,fk,rC,cg,aj ga,aj gb,lenD gh,c0,qL]
   refine call (Bk q1 q2 (gC hn) (gC hd)) ?_
   rintro g h4 ⟨X4,hg⟩
   simp -dsimp (disch:=omega) only[wpS,wpT,zE]
   refine call (Yi hg) ?_
   rintro _ h5 ⟨X5,rfl⟩
   simp -dsimp (disch:=omega) only[wpS,zE]
   refine⟨(E3.trans X4).trans X5,congrArg Value.bool ?_⟩
   rw[decide_eq_decide]
   unfold okS
   constructor
   ·intro h;exact⟨by omega,by omega⟩
   ·rintro⟨_,h⟩;omega
end Go.Id
namespace Go.Id
open Go


def Jp {h:IH} {v:Value} {l:List (Nat×Nat)} (hs:gw h v l) (hne:v=.slice none 0 0∨0<l.length) (hn:l.length≤1000000) :
  WV Proofs.Tryz.prog (.func (.func 118) #[] #[]) [v] h fun r h'=>Ext h h'∧Acc h' h.n 16 r l.length (shL l):=by
 have hc:=Ux l
 have hnow:=hs.1.now
 obtain⟨⟨hz,hl,⟨rfl,hl0⟩|⟨b,o,k,rfl,hh⟩⟩,_⟩:=hs
 ·refine enter (nt:=8) (rs:=[.tmp 2]) Proofs.Tryz.func118 rfl rfl rfl (by simp) ?_
  simp -dsimp (disch:=omega) only[wpS,wpT,Nat.reduceEqDiff,Nat.reduceMul,B9,HD u61]
  obtain rfl:l = []:=List.length_eq_zero_iff.1 hl0
  exact⟨Ext.refl _,Acc.nil _ _ (by omega)⟩
 ·have hp:0<l.length:=by
   rcases hne with h1|h1
   ·cases h1
   ·exact h1
  have hk:Ext h (h.new (.cells [] 16 none)):=(Ext.refl h).new _
  have ZbC:lF (h.new (.cells [] 16 none)) 16 (.slice (some ⟨b,o,none⟩) l.length k) l.length (shL l):=(bH.aa ⟨hz,hl,.inr ⟨b,o,k,rfl,hh⟩⟩ hk.aa).now
  refine enter (nt:=8) (rs:=[.tmp 2]) Proofs.Tryz.func118 rfl rfl rfl (by simp) ?_
  simp -dsimp (disch:=omega) only[wpS,wpT,Nat.reduceEqDiff,Nat.reduceMul,B9,nR,HC u61,rT KX _ ZbC hp hc (by omega)]
  refine⟨hk.new _,?_⟩
  exact(zo (by omega) hl hp).from (by simp)
def DrOf (cs:List Value):Prop:=∃b x n b2 x2 n2,cs = [.bool b,x,.int .u32 n,.bool b2,x2,.int .u32 n2]∧aB x=true∧aB x2=true∧0≤n∧n<4294967296∧0≤n2∧n2<4294967296
def P1 (h:IH) (v:Value) (n:Nat):Prop:=∃cs,bH h 6 v n cs ∧ ∀i,i<n→DrOf ((cs.drop (i*6)).take 6)
def P1.aa {h h':IH} {v:Value} {n:Nat} (s:P1 h v n) (e:aK h h'):P1 h' v n:=let ⟨cs,a,b⟩:=s;⟨cs,a.aa e,b⟩
def fW (p:Nat×Nat):Prop:=∃a c:Int,(-1000<a∧a<1000)∧(0<c∧c<25)∧p=shq (Rat.divInt a c)
theorem fW.lt {p:Nat×Nat} (h:fW p):p.1<W8∧p.2<W8:=by
 obtain⟨a,c,ha,hc,rfl⟩:=h
 exact gT (gX ⟨by omega,by omega⟩ ⟨by omega,by omega⟩ (by omega))
end Go.Id
namespace Go.Proofs.YtnnmjocmapilaaaGreat
open Go.ChangeShapes Go.WideShapes Go.ChangeAt Go.RowKit Go.Id
def wf_u8 {x:Int} (h:(Lit.int .u8 x).wf=true):0≤x∧x<256:=by
 simp only[Lit.wf,Bool.and_eq_true,decide_eq_true_eq] at h
 have h1:(0:Int)≤x:=h.1
 have h2:x≤(255:Int):=h.2
 exact⟨h1,by omega⟩
section
variable {H:Type} {enc:TypeId×Value→H} {W:World} {base:Nat} {sp:Nat→Bool} {held:Bool}
end
variable {α:Type}
def len3 : ∀{l:List α},l.length=3 → ∃a b c,l = [a,b,c]
 | [a,b,c],_=>⟨a,b,c,rfl⟩
def len6 : ∀{l:List α},l.length=6 → ∃a b c d e f,l = [a,b,c,d,e,f]
 | [a,b,c,d,e,f],_=>⟨a,b,c,d,e,f,rfl⟩
def Gz:Tryz.prog.underlying 52=some (.slice 58):=by kernel_rfl
def uP:Tryz.prog.underlying 58=some (.struct { toList:=[{ name := "N",type:=56,offset:=0,embedded:=false,tag := "",pkgPath := "",byteOffset:=0 },{ name := "D",type:=56,offset:=3,embedded:=false,tag := "",pkgPath := "",byteOffset:=40 }] }):=by kernel_rfl
def Qq:Tryz.prog.underlying 56=some (.struct { toList:=[{ name := "Below",type:=4,offset:=0,embedded:=false,tag := "",pkgPath := "",byteOffset:=0 },{ name := "Bits",type:=53,offset:=1,embedded:=false,tag := "",pkgPath := "",byteOffset:=8 },{ name := "Less",type:=54,offset:=2,embedded:=false,tag := "",pkgPath := "",byteOffset:=32 }] }):=by kernel_rfl
def XF:Tryz.prog.underlying 53=some (.slice 332):=by kernel_rfl
def Z8:Tryz.prog.underlying 332=some (.int .u16):=by kernel_rfl
def Z7:Tryz.prog.underlying 54=some (.int .u32):=by kernel_rfl
def XG:Tryz.prog.underlying 4=some .bool:=by kernel_rfl
def XE:Tryz.prog.underlying 5=some (.int .u8):=by kernel_rfl
theorem FK:Tryz.prog.cellsOf 58=6:=by kernel_rfl
theorem BB:Tryz.prog.cellsOf 56=3:=by kernel_rfl
def Zcr:Tryz.prog.cellsOf 332=1:=by kernel_rfl
theorem Zcq:Tryz.prog.cellsOf 54=1:=by kernel_rfl
theorem Zt:Tryz.prog.cellsOf 4=1:=by kernel_rfl
theorem Zs:Tryz.prog.cellsOf 53=1:=by kernel_rfl
section
variable {H:Type} {enc:TypeId×Value→H} {W:World} {held:Bool}
variable {fuel:Nat}{x:DataW H×List MemPlace}
def zi (G:Nat→Option (List Value)) {cs:List Value} (h:DataW.trod enc Tryz.prog W 0 (fun _=>true) held fuel 56 cs=some x) :
  ∃b y n,cs = [.bool b,y,.int .u32 n]∧aB (trV y)=true∧dB y=true∧(0≤n∧n<4294967296):=by
 obtain⟨xs,m,_,_,hl,hn,hf⟩:=DataW.trod_struct Qq h
 rw[BB] at hl
 have hn2:xs.length=3:=hn
 obtain⟨x0,hx0⟩:=iC (l:=xs) (i:=0) (by omega)
 have f0:DataW.trod enc Tryz.prog W 0 (fun _=>true) held m 4 ((cs.drop 0).take (Tryz.prog.cellsOf 4))=some x0:=(hf 0 { name := "Below",type:=4,offset:=0,embedded:=false,tag := "",pkgPath := "",byteOffset:=0 } rfl).trans hx0
 obtain⟨x1,hx1⟩:=iC (l:=xs) (i:=1) (by omega)
 have f1:DataW.trod enc Tryz.prog W 0 (fun _=>true) held m 53 ((cs.drop 1).take (Tryz.prog.cellsOf 53))=some x1:=(hf 1 { name := "Bits",type:=53,offset:=1,embedded:=false,tag := "",pkgPath := "",byteOffset:=8 } rfl).trans hx1
 obtain⟨x2,hx2⟩:=iC (l:=xs) (i:=2) (by omega)
 have f2:DataW.trod enc Tryz.prog W 0 (fun _=>true) held m 54 ((cs.drop 2).take (Tryz.prog.cellsOf 54))=some x2:=(hf 2 { name := "Less",type:=54,offset:=2,embedded:=false,tag := "",pkgPath := "",byteOffset:=32 } rfl).trans hx2
 rw[Zt] at f0
 rw[Zs] at f1
 rw[Zcq] at f2
 obtain⟨a,y,c,rfl⟩:=len3 hl
 ·obtain⟨b,e0,_⟩:=DataW.trod_bool XG f0
  obtain⟨v,n,cs',e1,ht,hn',hs,_⟩:=tY (R:=fun _=>True) XF Zcr (by omega) (fun n cs x hx=>by
   obtain⟨k,rfl,_⟩:=uQ (m:=65535) rfl rfl Z8 hx
   exact⟨trivial,fun y hy=>by rw[List.mem_singleton.1 hy];rfl⟩) G f1
  obtain⟨k,e2,hk⟩:=uQ (m:=4294967295) rfl rfl Z7 f2
  cases e0;cases e1;cases e2
  exact⟨b,_,k,rfl,hs.cok,ht,by omega,by omega⟩
def GD (G:Nat→Option (List Value)) {cs0:List Value} (h:DataW.trod enc Tryz.prog W 0 (fun _=>true) held fuel 52 cs0=some x) :
  ∃v n,cs0 = [v]∧dB v=true∧P1 (IH.start (zP G W)) (trV v) n:=by
 obtain⟨v,n,cs,e,ht,hn,hs,hR⟩:=tY (R:=fun cs=>DrOf (cs.map trV)) Gz FK (by omega) (fun n cs x hx=>by
  obtain⟨xs,m,_,_,hl,hn,hf⟩:=DataW.trod_struct uP hx
  rw[FK] at hl
  have hn2:xs.length=2:=hn
  obtain⟨x0,hx0⟩:=iC (l:=xs) (i:=0) (by omega)
  have f0:DataW.trod enc Tryz.prog W 0 (fun _=>true) held m 56 ((cs.drop 0).take (Tryz.prog.cellsOf 56))=some x0:=(hf 0 { name := "N",type:=56,offset:=0,embedded:=false,tag := "",pkgPath := "",byteOffset:=0 } rfl).trans hx0
  obtain⟨x1,hx1⟩:=iC (l:=xs) (i:=1) (by omega)
  have f1:DataW.trod enc Tryz.prog W 0 (fun _=>true) held m 56 ((cs.drop 3).take (Tryz.prog.cellsOf 56))=some x1:=(hf 1 { name := "D",type:=56,offset:=3,embedded:=false,tag := "",pkgPath := "",byteOffset:=40 } rfl).trans hx1
  rw[BB] at f0 f1
  obtain⟨a,b,c,d,e,f,rfl⟩:=len6 hl
  ·obtain⟨b1,y1,n1,e0,o1,t1,r1⟩:=zi G f0
   obtain⟨b2,y2,n2,e1,o2,t2,r2⟩:=zi G f1
   cases e0;cases e1
   refine⟨⟨b1,_,n1,b2,_,n2,rfl,o1,o2,r1.1,r1.2,r2.1,r2.2⟩,fun y hy=>?_⟩
   simp at hy
   rcases hy with rfl|rfl|rfl|rfl|rfl|rfl<;>first|rfl|assumption) G h
 refine⟨v,n,e,ht,cs.map trV,hs,fun i hi=>?_⟩
 rw[←List.map_drop,←List.map_take]
 exact hR i hi
end
end Go.Proofs.YtnnmjocmapilaaaGreat
namespace Go.Id
open Go

open Go.Proofs.Tryz (prog)
open Nat renaming reduceAdd→zA,reduceEqDiff→zE,reduceLeDiff→zL
set_option maxHeartbeats 16000000
variable {v:Value}{h:IH}
def rW.rat {n d:Nat} (p:rW h v (wdI n) (wdI d)) (ok:okS n d):bt h v (rOf (n,d)):=by
 obtain⟨e1,e2⟩:=cZ (p:=(n,d)) ok
 unfold bt
 rw[e1,e2]
 exact p
variable {d1 d2 n2 n1:Nat}
def Qr (h1:n1<W8) (h2:d1<W8) (h3:n2<W8) (h4:d2<W8):gw (h.new (.cells (shL [(n1,d1),(n2,d2)]) 16 none)) (.slice (some ⟨2*h.n,0,none⟩) 2 5) [(n1,d1),(n2,d2)]:=by
 refine⟨cI (k:=h.n) (f:=none) (ah _ _ rfl) (by simp) (by decide) (by rw[LP];rfl) (by omega) (by omega),by simp,?_⟩
 intro p hp
 simp at hp
 rcases hp with rfl|rfl
 ·exact⟨h1,h2⟩
 ·exact⟨h3,h4⟩
variable {fv:Value}{q:Rat}
def LS (h1:n1<W8) (h2:d1<W8) (h3:n2<W8) (h4:d2<W8) (ok1:okS n1 d1) (ok2:okS n2 d2)
  (op : ∀(h':IH) (v w:Value),bt h' v (rOf (n1,d1))→bt h' w (rOf (n2,d2))→WV prog fv [v,w] h' fun r h''=>Ext h' h''∧bt h'' r q) :
  WV prog (.func (.func 86) #[] #[]) [shV n1 d1,shV n2 d2,fv] h fun r h'=>Ext h h' ∧ ∃x,r=.tuple #[x,KI 0]∧bt h' x q:=by
 refine enter (nt:=21) (rs:=[.cell 6 137,.tmp 7]) Proofs.Tryz.func86 rfl rfl rfl (by simp) ?_
 simp -dsimp (disch:=try exact dx) only[wpS,zE,zA,dW,cq,aD]
 obtain⟨H0,hH0,n0,E0,g0,g1,g2⟩:=gG h (shC n1 d1) (shC n2 d2) ZR
 rw[←hH0]
 clear hH0
 have X0:=Ext.refl H0
 have bb : ∀hx:IH,buildSlice prog hx 61 2 [(0,.agg (shC n1 d1).toArray),(1,.agg (shC n2 d2).toArray)]=some (.slice (some ⟨2*hx.n,0,none⟩) 2 5,hx.new (.cells (shL [(n1,d1),(n2,d2)]) 16 none)):=fun hx=>Ts n1 d1 n2 d2
 simp -dsimp (disch:=try exact dx) only[wpS,zE,zL,cq,aj g1,ax,aS,bb]
 refine call (z9 (Qr h1 h2 h3 h4)) ?_
 rintro _ k1 ⟨Y1,rfl⟩
 have X1:Ext H0 k1:=(X0.new _).trans Y1
 have dt:decide (∀p ∈ [(n1,d1),(n2,d2)],okS p.1 p.2)=true:=decide_eq_true (by
  intro p hp
  simp at hp
  rcases hp with rfl|rfl
  ·exact ok1
  ·exact ok2)
 rw[dt]
 have L2:=(psh g1).2.2
 simp -dsimp (disch:=omega) only[wpS,wpT,zE]
 refine drawn [(3,[2])] (by kernel_rfl) (by kernel_rfl) rfl ?_
 simp -dsimp (disch:=omega) only[wpS,zE,zL,cq,aj (X1.kept (by omega) g0),ax,aS]
 refine call (dj n1 d1 h1 h2) ?_
 rintro v k2 ⟨Y2,p2⟩
 have X2:=X1.trans Y2
 simp -dsimp (disch:=omega) only[wpS,zE,zL,cq,aj (X2.kept (by omega) g1),ax,aS]
 refine call (dj n2 d2 h3 h4) ?_
 rintro w k3 ⟨Y3,p3⟩
 have X3:=X2.trans Y3
 simp -dsimp (disch:=omega) only[wpS,zE]
 refine call (op k3 v w (bt.aa (p2.rat ok1) Y3.aa) (p3.rat ok2)) ?_
 rintro x k4 ⟨Y4,p4⟩
 have X4:=X3.trans Y4
 have m1:=X4.n
 obtain⟨a1,s1,b1,t1,rfl,hn1,hd1,c1,o1,c2,o2,o3,o4⟩:=p4.parts
 have kg:=X4.kept (by omega) g2
 simp -dsimp (disch:=omega) only[wpS,wpT,zE,zL,zA,df,kg,o1,o2,o3,o4]
 refine⟨by repeat' first|refine aw ?_ ?_|refine aC ?_ ?_|exact ad rfl rfl rfl rfl (aW (H0:=H0) rfl (by omega) (by assumption) (by assumption) (by with_reducible assumption)),?_⟩
 simp -dsimp (disch:=try exact dx) only[wpS,wpT,zE,zL,zA,fO,fF]
 have kp:=(aK.refl k4).put kg (.cells [a1,s1,b1,t1] 0 none)
 exact⟨(E0.trans X4).put (by omega) _,_,rfl,p4.aa kp⟩
def Vk {z:Int} (h1:n1<W8) (h2:d1<W8) (h3:n2<W8) (h4:d2<W8) (ok1:okS n1 d1) (ok2:okS n2 d2)
  (op : ∀(h':IH) (v w:Value),bt h' v (rOf (n1,d1))→bt h' w (rOf (n2,d2))→WV prog fv [v,w] h' fun r h''=>Ext h' h''∧r=KI z) :
  WV prog (.func (.func 89) #[] #[]) [shV n1 d1,shV n2 d2,fv] h fun r h'=>Ext h h'∧r=.tuple #[KI z,KI 0]:=by
 refine enter (nt:=21) (rs:=[.tmp 6,.tmp 7]) Proofs.Tryz.func89 rfl rfl rfl (by simp) ?_
 simp -dsimp (disch:=try exact dx) only[wpS,zE,zA,cq,aD]
 obtain⟨H0,hH0,n0,E0,g0,g1⟩:=ev h (shC n1 d1) (shC n2 d2)
 rw[←hH0]
 clear hH0
 have X0:=Ext.refl H0
 have bb : ∀hx:IH,buildSlice prog hx 61 2 [(0,.agg (shC n1 d1).toArray),(1,.agg (shC n2 d2).toArray)]=some (.slice (some ⟨2*hx.n,0,none⟩) 2 5,hx.new (.cells (shL [(n1,d1),(n2,d2)]) 16 none)):=fun hx=>Ts n1 d1 n2 d2
 simp -dsimp (disch:=try exact dx) only[wpS,zE,zL,cq,aj g1,ax,aS,bb]
 refine call (z9 (Qr h1 h2 h3 h4)) ?_
 rintro _ k1 ⟨Y1,rfl⟩
 have X1:Ext H0 k1:=(X0.new _).trans Y1
 have dt:decide (∀p ∈ [(n1,d1),(n2,d2)],okS p.1 p.2)=true:=decide_eq_true (by
  intro p hp
  simp at hp
  rcases hp with rfl|rfl
  ·exact ok1
  ·exact ok2)
 rw[dt]
 have L2:=(psh g1).2.2
 simp -dsimp (disch:=omega) only[wpS,wpT,zE]
 refine drawn [(3,[2])] (by kernel_rfl) (by kernel_rfl) rfl ?_
 simp -dsimp (disch:=omega) only[wpS,zE,zL,cq,aj (X1.kept (by omega) g0),ax,aS]
 refine call (dj n1 d1 h1 h2) ?_
 rintro v k2 ⟨Y2,p2⟩
 have X2:=X1.trans Y2
 simp -dsimp (disch:=omega) only[wpS,zE,zL,cq,aj (X2.kept (by omega) g1),ax,aS]
 refine call (dj n2 d2 h3 h4) ?_
 rintro w k3 ⟨Y3,p3⟩
 have X3:=X2.trans Y3
 simp -dsimp (disch:=omega) only[wpS,zE]
 refine call (op k3 v w (bt.aa (p2.rat ok1) Y3.aa) (p3.rat ok2)) ?_
 rintro _ k4 ⟨Y4,rfl⟩
 have X4:=X3.trans Y4
 simp -dsimp (disch:=omega) only[wpS,zE]
 refine⟨by repeat' first|refine aw ?_ ?_|refine aC ?_ ?_|exact ad rfl rfl rfl rfl (aW (H0:=H0) rfl (by omega) (by assumption) (by assumption) (by with_reducible assumption)),?_⟩
 simp -dsimp (disch:=try exact dx) only[wpS,wpT,zE,zA]
 exact E0.trans X4
def Cx (hv:bt h v q):WV prog (.func (.func 85) #[] #[]) [v,KI 0] h fun r h'=>Ext h h'∧r=gN q:=by
 obtain⟨a1,s1,b1,t1,rfl,hn1,hd1,c1,o1,c2,o2,o3,o4⟩:=hv.parts
 obtain⟨n,d,e,ht⟩:=jT q
 refine enter (nt:=14) (rs:=[.cell 4 32,.tmp 5]) Proofs.Tryz.func85 rfl rfl rfl (by simp) ?_
 simp -dsimp (disch:=try exact dx) only[wpS,wpT,zE,zL,zA,fR,fO]
 obtain⟨H0,hH0,n0,E0,g0,g1⟩:=ev h [a1,s1,b1,t1] Z16
 rw[←hH0]
 clear hH0
 simp -dsimp (disch:=try exact dx) only[fF]
 refine call (vh (hv.aa E0.aa)) ?_
 rintro _ h1 ⟨X1,rfl⟩
 have hT:(open Classical in if QW q then Value.tuple #[gU q,KI 0] else .tuple #[shV 0 0,KI 6])=.tuple #[shV n d,KI e]:=ht
 rw[hT,ht]
 have m1:=X1.n
 have kg:=X1.kept (by omega) g1
 simp -dsimp (disch:=try exact dx) only[wpS,wpT,zE,zL,zA,dF,cq,kg,aD,ax,aV,bg,aS]
 exact⟨(E0.trans X1).put (by omega) _,rfl⟩
variable {p1 p2:Nat×Nat}
def QO (h1:p1.1<W8∧p1.2<W8) (h2:p2.1<W8∧p2.2<W8) (ok1:okS p1.1 p1.2) (ok2:okS p2.1 p2.2):WV prog (.func (.func 28) #[] #[]) [shV p1.1 p1.2,shV p2.1 p2.2] h fun r h'=>Ext h h'∧r=gN (rOf p1+rOf p2):=by
 have q1:=iO (p:=p1) h1.1 h1.2 ok1
 have q2:=iO (p:=p2) h2.1 h2.2 ok2
 obtain⟨n,d,e,ht⟩:=jT (rOf p1+rOf p2)
 refine enter (nt:=14) (rs:=[.cell 4 32,.tmp 5]) Proofs.Tryz.func28 rfl rfl rfl (by simp) ?_
 simp -dsimp (disch:=try exact dx) only[wpS,zE,zA,fR,cq,aD]
 obtain⟨H0,hH0,n0,E0,g0,g1,g2⟩:=gG h (shC p1.1 p1.2) (shC p2.1 p2.2) Z16
 rw[←hH0]
 clear hH0
 simp -dsimp (disch:=try exact dx) only[wpS,zE,zL,cq,aj g1,ax,aS]
 refine call (LS (q:=rOf p1+rOf p2) h1.1 h1.2 h2.1 h2.2 ok1 ok2 (fun h' v w a b=>iM a b q1 q2 (by omega))) ?_
 rintro _ k1 ⟨X1,x,rfl,px⟩
 simp -dsimp (disch:=omega) only[wpS,zE]
 refine call (Cx px) ?_
 rintro _ k2 ⟨X2,rfl⟩
 rw[ht]
 have X12:=X1.trans X2
 have m1:=X12.n
 have kg:=X12.kept (by omega) g2
 simp -dsimp (disch:=try exact dx) only[wpS,wpT,zE,zL,zA,cq,dF,kg,aD,ax,aV,bg,aS]
 exact⟨(E0.trans X12).put (by omega) _,rfl⟩
def QK (h1:p1.1<W8∧p1.2<W8) (h2:p2.1<W8∧p2.2<W8) (ok1:okS p1.1 p1.2) (ok2:okS p2.1 p2.2):WV prog (.func (.func 24) #[] #[]) [shV p1.1 p1.2,shV p2.1 p2.2] h fun r h'=>Ext h h'∧r=gN (rOf p1*rOf p2):=by
 have q1:=iO (p:=p1) h1.1 h1.2 ok1
 have q2:=iO (p:=p2) h2.1 h2.2 ok2
 obtain⟨n,d,e,ht⟩:=jT (rOf p1*rOf p2)
 refine enter (nt:=14) (rs:=[.cell 4 32,.tmp 5]) Proofs.Tryz.func24 rfl rfl rfl (by simp) ?_
 simp -dsimp (disch:=try exact dx) only[wpS,zE,zA,fR,cq,aD]
 obtain⟨H0,hH0,n0,E0,g0,g1,g2⟩:=gG h (shC p1.1 p1.2) (shC p2.1 p2.2) Z16
 rw[←hH0]
 clear hH0
 simp -dsimp (disch:=try exact dx) only[wpS,zE,zL,cq,aj g1,ax,aS]
 refine call (LS (q:=rOf p1*rOf p2) h1.1 h1.2 h2.1 h2.2 ok1 ok2 (fun h' v w a b=>jq a b q1 q2 (by omega))) ?_
 rintro _ k1 ⟨X1,x,rfl,px⟩
 simp -dsimp (disch:=omega) only[wpS,zE]
 refine call (Cx px) ?_
 rintro _ k2 ⟨X2,rfl⟩
 rw[ht]
 have X12:=X1.trans X2
 have m1:=X12.n
 have kg:=X12.kept (by omega) g2
 simp -dsimp (disch:=try exact dx) only[wpS,wpT,zE,zL,zA,cq,dF,kg,aD,ax,aV,bg,aS]
 exact⟨(E0.trans X12).put (by omega) _,rfl⟩
def Aa (h1:p1.1<W8∧p1.2<W8) (h2:p2.1<W8∧p2.2<W8) (ok1:okS p1.1 p1.2) (ok2:okS p2.1 p2.2):WV prog (.func (.func 26) #[] #[]) [shV p1.1 p1.2,shV p2.1 p2.2] h fun r h'=>Ext h h'∧r=.tuple #[KI (if rOf p1<rOf p2 then -1 else if rOf p1=rOf p2 then 0 else 1),KI 0]:=by
 have q1:=iO (p:=p1) h1.1 h1.2 ok1
 have q2:=iO (p:=p2) h2.1 h2.2 ok2
 refine enter (nt:=11) (rs:=[.tmp 4,.tmp 5]) Proofs.Tryz.func26 rfl rfl rfl (by simp) ?_
 simp -dsimp (disch:=try exact dx) only[wpS,zE,zA,cq,aD]
 obtain⟨H0,hH0,n0,E0,g0,g1⟩:=ev h (shC p1.1 p1.2) (shC p2.1 p2.2)
 rw[←hH0]
 clear hH0
 simp -dsimp (disch:=try exact dx) only[wpS,zE,zL,cq,aj g1,ax,aS]
 refine call (Vk h1.1 h1.2 h2.1 h2.2 ok1 ok2 (fun h' v w a b=>sG a b q1 q2 (by omega))) ?_
 rintro _ k1 ⟨X1,rfl⟩
 simp -dsimp (disch:=omega) only[wpS,wpT,zE]
 exact E0.trans X1
end Go.Id
namespace Go.Id
open Go

def E1 (P:Program) (tb:FuncId→Option (List Value→Option Value)):Env:=⟨P,fun _ _=>none,fun f=>(tb f).map fun g args h=>bif args.all plain then (g args).map (·,h) else none⟩
variable {l:List Value}{m:Mp}
theorem OA {l':List Value} (h:bw m l l') (hp:l.all plain=true):l'=l:=by
 apply List.ext_getElem? fun i=>?_
 by_cases hi:i<l.length
 ·obtain⟨v',h1,h2⟩:=h.get (List.getElem?_eq_getElem hi)
  rw[h1,List.getElem?_eq_getElem hi,h2.di (by have:=List.all_eq_true.1 hp;exact this _ (List.getElem_mem hi))]
 ·rw[List.getElem?_eq_none (show l'.length≤i from h.1▸Nat.le_of_not_lt hi),List.getElem?_eq_none (Nat.le_of_not_lt hi)]
def vy (hp:l.all plain=true):bw m l l :=
 ⟨rfl,fun i v v' a b=>by
  rw[a] at b;cases b
  exact .bV (List.all_eq_true.1 hp _ (List.mem_of_getElem? a))⟩
variable {h:IH}{w0 w:World}{B:Nat}
def Rel.bare (R:Rel B w0 m h w):Rel B w0 ⟨fun b=>if b % 2=1 then m b else none,m.ez⟩ (IH.start fun _=>none) w:=by
 have leaf : ∀{α:Type} (k:Nat),(Tr.leaf:Tr α).get k=none:=fun k=>rfl
 have odd : ∀k x,(⟨fun b=>if b % 2=1 then m b else none,m.ez⟩:Mp) (2*k)=some x→False:=by
  intro k x h
  have h1:(if 2*k % 2=1 then m (2*k) else none)=some x:=h
  rw[if_neg (by omega)] at h1;cases h1
 refine⟨R.below,R.size,?_,fun b h=>?_,?_,fun k _=>leaf k,?_,?_,?_,?_,?_,?_⟩
 ·intro b cs h;cases h
 ·show(if (2*b+1) % 2=1 then m (2*b+1) else none)=_
  rw[if_pos (by omega)];exact R.odd b h
 ·intro k r s h;exact(odd _ _ h).elim
 ·intro k o r s h;cases h
 ·intro k k' o o' r s s' _ h;cases h
 ·intro f st h;cases h
 ·intro k cs t f h;cases h
 ·intro f st h;cases h
 ·intro f st x y h;cases h
variable {w':World}
theorem fY.same {r s:Nat} {z:Nat×Nat} {o:bI} (h:fY m w r s z o) (e:w'.heap[r]?=w.heap[r]?):fY m w' r s z o:=by
 cases o<;>simp only[fY] at h ⊢ <;> first|(rw[e];exact h)|trivial
def Rel.aside {m':Mp} {h':IH} (R:Rel B w0 m h w) (R':Rel B w0 m' h' w') (S:Step ⟨fun b=>if b % 2=1 then m b else none,m.ez⟩ (IH.start fun _=>none) w m' h' w'):Rel B w0 m h w'∧Step m h w m h w':=by
 have same : ∀r,r<w.heap.size→w'.heap[r]?=w.heap[r]?:=fun r hr=>S.frame r hr fun k s hk=>absurd hk (Nat.not_lt_zero k)
 refine⟨⟨R'.below,R'.size,fun b cs hb=>?_,R.odd,fun k r s hk=>?_,R.dom,fun k o r s hk hm=>?_,R.own,R.du,R.fam,R.long,R.whole⟩,
  ⟨Mp.le_refl m,fun b hb=>absurd rfl hb,Nat.le_refl _,rfl,fun r hr _=>same r hr,fun _ _ _=>rfl,S.size,fun k r s h1 h2=>by omega,fun _ _ _ hh=>hh⟩⟩
 ·obtain⟨r,s,h1,h2,c,el,fz,h3,h4⟩:=R.base b cs hb
  exact⟨r,s,h1,h2,c,el,fz,by rw[same r (by have:=R.size;omega)];exact h3,h4⟩
 ·have:=R.even k r s hk
  have:=S.size
  exact⟨by omega,by omega⟩
 ·exact(R.obj k o r s hk hm).same (same r (R.even k r s hm).2)
def mF:Value→Bool
 | .tuple vs=>vs.toList.all plain
 | v=>plain v
variable {v:Value}
def aG.CN {v':Value} (h:aG m v v') (hv:mF v=true):v'=v:=by
 unfold mF at hv
 split at hv
 ·obtain⟨cs',rfl,h2⟩:=h.oE
  have:=bw.di h2 hv
  exact congrArg Value.tuple (Array.ext' this)
 ·exact h.di hv
def aG.CM (hv:mF v=true):aG m v v:=by
 unfold mF at hv
 split at hv
 ·exact aG.fI (vy hv)
 ·exact .bV hv
def NL (P:Program) (f:FuncId) (args:List Value) (v:Value):Prop :=
 ∀(B:Nat) (w0:World) (m:Mp) (h:IH) (w:World),Rel B w0 m h w → ∃h2,kO P f args.toArray B w0 ⟨fun b=>if b % 2=1 then m b else none,m.ez⟩ (IH.start fun _=>none) w v h2
variable {f:FuncId}{args:List Value}
def Dc {E:Env} (S:Sound E) {n:Nat} {h2:IH} (hr:cc E (n+1) (.func (.func f) #[] #[]) args (IH.start fun _=>none)=some (v,h2)) (hb : ∃fn,E.P.funcs[f]?=some fn∧fn.body.isSome=true) (hp:args.all plain=true):NL E.P f args v:=by
 intro B w0 m h w R
 refine⟨h2,?_⟩
 have hc:=hr
 unfold cc at hc
 have fresh:eH ⟨fun b=>if b % 2=1 then m b else none,m.ez⟩ (IH.start fun _=>none).n h2.n:=fun k _ _=>by
  show(if 2*k % 2=1 then m (2*k) else none)=none
  rw[if_neg (by omega)]
 obtain⟨fn,hfn,hb⟩:=hb
 rcases uF S (oX S n) (ig S n) hc R.bare (args':=args.toArray) (by simpa using vy hp) fresh with⟨_,k⟩|⟨fn',k1,k2,_⟩
 ·exact k
 ·have k3:E.P.funcs[f]?=some fn':=k1
  rw[hfn] at k3;cases k3
  rw[k2] at hb;cases hb
variable {P:Program}
def Sr (S:Sound (E0 P)) (hb : ∃fn,P.funcs[f]?=some fn∧fn.body.isSome=true) (hp:args.all plain=true) (h:WV P (.func (.func f) #[] #[]) args (IH.start fun _=>none) fun r _=>r=v):NL P f args v:=by
 obtain⟨⟨r,h2⟩,⟨N,hN⟩,hr⟩:=h
 simp only at hr
 subst hr
 exact Dc (E:=E0 P) S (hN (N+1) (by omega)) hb hp
def XO {tb:FuncId→Option (List Value→Option Value)} (S:Sound (E0 P)) (hf : ∀f g,tb f=some g → ∃fn,P.funcs[f]?=some fn∧fn.body.isSome=true)
  (hv : ∀f g,tb f=some g → ∀args v,args.all plain=true→g args=some v→mF v=true∧NL P f args v):Sound (E1 P tb) where
 mixed:=S.mixed
 names:=S.names
 origin:=S.origin
 Ia:=fun f g hg args h v h' e=>by
  obtain⟨g0,h1,rfl⟩:=Option.map_eq_some_iff.1 hg
  simp only[cond_eq_ite] at e
  split at e
  ·obtain⟨v0,_,e2⟩:=Option.map_eq_some_iff.1 e
   cases e2;exact Nat.le_refl _
  ·cases e
 tk:=fun f g hg=>by
  obtain⟨g0,h1,rfl⟩:=Option.map_eq_some_iff.1 hg
  refine⟨hf f g0 h1,fun args h v h' e B w0 m w args' R gj _=>?_⟩
  simp only[cond_eq_ite] at e
  split at e
  case isFalse=>cases e
  rename_i hp
  obtain⟨v0,e1,e2⟩:=Option.map_eq_some_iff.1 e
  cases e2
  obtain⟨hpl,hg⟩:=hv f g0 h1 args v hp e1
  obtain⟨h2,key⟩:=hg B w0 m h w R
  have ea:args.toArray=args':=by
   rw[←OA gj hp]
  rw[ea] at key
  refine key.mono fun e' w' ⟨v',m',he,hvr,R',S'⟩=>?_
  obtain⟨R2,S2⟩:=R.aside R' S'
  exact⟨v',m,he,by rw[hvr.CN hpl];exact .CM hpl,R2,S2⟩
end Go.Id

/-
  Contracts: the program's shares: read, told, checked. Contracts: the program's fractions of integers; shares made.
-/
import Derived.Test.YtjhnilfelokpcaaGreatOutlierPathsAq
import Derived.Test.YtjhnilfelokpcaaGreatOutlierPathsAz
import Derived.Test.YtjhnilfelokpcaaGreatOutlierPathsAx
import Derived.Test.YtjhnilfelokpcaaGreatOutlierPathsAt
set_option linter.unusedVariables false
set_option linter.unusedSimpArgs false
set_option linter.defProp false
set_option linter.deprecated false
namespace Go.Id
open Go
open Go.Proofs.Tryz (prog)
open Nat renaming reduceAdd→zA,reduceEqDiff→zE,reduceLeDiff→zL
set_option maxHeartbeats 16000000
def shC (n d:Nat):List Value:=wdC n ++ wdC d
def shV (n d:Nat):Value:=.agg (shC n d).toArray
theorem aP (n d:Nat):(shC n d).length=16:=by simp[shC,aq]
theorem dH (n d:Nat):(shC n d).all aH=true:=by simp only[shC,List.all_append,aM,Bool.and_self]
theorem bV (n d:Nat):(shV n d).cells.toList=shC n d:=rfl
theorem dG (n d:Nat):List.take 16 (List.drop 0 (shC n d))=shC n d:=by rw[List.drop_zero,List.take_of_length_le (by rw[aP];omega)]
theorem nO (n d:Nat):List.take 8 (List.drop 0 (shC n d))=wdC n:=by rw[List.drop_zero,shC,List.take_append_of_le_length (by rw[aq];omega),List.take_of_length_le (by rw[aq];omega)]
theorem lT (n d:Nat):List.take 8 (List.drop 8 (shC n d))=wdC d:=by rw[shC,List.drop_append_of_le_length (by rw[aq];omega),List.drop_of_length_le (by rw[aq];omega),List.nil_append,List.take_of_length_le (by rw[aq];omega)]
abbrev Z16:List Value:=[ZW,ZW,ZW,ZW,ZW,ZW,ZW,ZW,ZW,ZW,ZW,ZW,ZW,ZW,ZW,ZW]
theorem Oy (n:Nat):IH.aG Z16 0 (wdC n)=shC n 0:=by
 rw[IH.aG,List.take_zero,List.nil_append,aq,shC,je];rfl
theorem Ox (n d:Nat):IH.aG (shC n 0) 8 (wdC d)=shC n d:=by
 rw[IH.aG,aq,shC,List.take_append_of_le_length (by rw[aq];omega),List.take_of_length_le (by rw[aq];omega),List.drop_of_length_le (by simp[aq]),List.append_nil];rfl
theorem iI (n d:Nat):IH.aG Z16 0 (shC n d)=shC n d:=gC (by rw[aP];rfl)
theorem RS:Z16=shC 0 0:=by rw[shC,je];rfl
theorem tT:Value.agg #[ZW,ZW,ZW,ZW,ZW,ZW,ZW,ZW,ZW,ZW,ZW,ZW,ZW,ZW,ZW,ZW]=shV 0 0:=by rw[shV,←RS]
theorem Jo:List.take 16 (List.drop 0 Z16)=Z16:=rfl
abbrev pY (q:Rat):Value:=shV (bW q.num) (bW q.den)
def QW (q:Rat):Prop:=InW q.num∧InW (q.den:Int)
theorem Sp {P:Program} {H0 hi:IH} {t:TypeId} {k o:Nat} {v:Value} (hv:load P H0 t (ptr (2*k) o)=some v) (hb:k<H0.n) (e:Ext H0 hi):load P hi t (ptr (2*k) o)=some v:=(zw (by omega) e).trans hv
theorem psh {H:IH} {k:Nat} {n d:Nat} (g:H.ext.get k=some (.cells (shC n d) 0 none)):load prog H 44 (ptr (2*k) 0)=some (wdV n)∧load prog H 44 (ptr (2*k) 8)=some (wdV d)∧load prog H 48 (ptr (2*k) 0)=some (shV n d):=by
 have r:=aj g
 refine⟨?_,?_,?_⟩
 ·simp -dsimp (disch:=try exact dx) only[wpS,zL,bL,r,aP,nO]
  rfl
 ·simp -dsimp (disch:=try exact dx) only[wpS,zL,zA,bL,r,aP,lT]
  rfl
 ·simp -dsimp (disch:=try exact dx) only[wpS,zL,r,aP,dG,kA]
  rfl
theorem lg {h:IH} (n d:Nat) (hn:n<W8) (hd:d<W8):WV prog (.func (.func 114) #[] #[]) [shV n d] h fun r h'=>Ext h h'∧uU h' r (wdI n) (wdI d):=by
 refine enter (nt:=10) (rs:=[.cell 2 169]) Proofs.Tryz.func114 rfl rfl rfl (by simp) ?_
 simp -dsimp (disch:=try exact dx) only[wpS,ny,bV]
 obtain⟨H0,hH0,n0,E0,g0,g1⟩:=iQ h (shC n d) ZR
 rw[←hH0]
 clear hH0
 have X0:=Ext.refl H0
 obtain⟨L1,L2,_⟩:=psh g0
 refine drawn [(4,[2])] (by kernel_rfl) (by kernel_rfl) rfl ?_
 simp -dsimp (disch:=try exact dx) only[wpS,zE,zL,zW,bL,aj g0,aP,nO]
 refine call (gT n hn) ?_
 rintro r1 h1 ⟨X1,p1⟩
 have m1:=X1.n
 simp -dsimp (disch:=try exact dx) only[wpS,zE,zL,zA,bL,tm,aj (X1.kept (by omega) g0),aP,lT]
 refine call (gT d hd) ?_
 rintro r2 h2 ⟨hE2,p2⟩
 have m2:=hE2.n
 have X2:=X1.trans hE2
 obtain⟨s1,rfl,c1,o1⟩:=p1.cP
 obtain⟨s2,rfl,c2,o2⟩:=p2.cP
 have kg:=X2.kept (by omega) g1
 simp -dsimp (disch:=try exact dx) only[wpS,wpT,zE,zL,zA,KB,xS,xR,nK,kg,o1,o2]
 refine⟨by repeat' first|refine ba ?_ ?_|refine aX ?_ ?_|exact ao rfl rfl rfl rfl (aD (H0:=H0) rfl (by omega) (by assumption) (by assumption) (by with_reducible assumption)),?_⟩
 simp -dsimp (disch:=try exact dx) only[wpS,wpT,zE,zL,zA,nU,pJ]
 have kp:=(aN.refl h2).put kg (.cells [.bool (decide (wdI n<0)),s1,.bool (decide (wdI d<0)),s2] 0 none)
 exact⟨(E0.trans X2).put (by omega) _,_,_,_,_,rfl,p1.ae (hE2.ae.trans kp),p2.ae kp⟩
theorem EV {h:IH} {v:Value} {q:Rat} (hv:fc h v q):WV prog (.func (.func 105) #[] #[]) [v] h fun r h'=>Ext h h'∧r=(open Classical in if QW q then .tuple #[pY q,KI 0] else .tuple #[shV 0 0,KI 6]):=by
 obtain⟨a1,s1,b1,t1,rfl,hn1,hd1,c1,o1,c2,o2,o3,o4⟩:=hv.parts
 refine enter (nt:=30) (rs:=[.cell 2 48,.tmp 3]) Proofs.Tryz.func105 rfl rfl rfl (by simp) ?_
 simp -dsimp (disch:=try exact dx) only[wpS,wpT,zE,zL,zA,xr,jY,bP]
 obtain⟨H0,hH0,n0,E0,g0,g1⟩:=iQ h [a1,s1,b1,t1] Z16
 rw[←hH0]
 clear hH0
 simp -dsimp (disch:=try exact dx) only[tkA]
 refine call (qc (hn1.ae E0.ae)) ?_
 rintro _ h1 ⟨X1,rfl⟩
 have m1:=X1.n
 obtain⟨w1,e1,hw⟩ : ∃w1 e1,(if InW q.num then Value.tuple #[pz q.num,KI 0] else .tuple #[wdV 0,KI 6])=.tuple #[wdV w1,KI e1]∧(InW q.num∧w1=bW q.num∧e1=0 ∨ ¬InW q.num∧e1=6):=by
  by_cases hi:InW q.num
  ·exact⟨_,0,by rw[if_pos hi],.inl ⟨hi,rfl,rfl⟩⟩
  ·exact⟨0,6,by rw[if_neg hi],.inr ⟨hi,rfl⟩⟩
 rw[hw.1]
 have k0:=X1.kept (by omega) g0
 have k1:=X1.kept (by omega) g1
 simp -dsimp (disch:=try exact dx) only[wpS,wpT,zE,zL,zA,bP,fo,dr,iE,aY,aq,aM,bf,aj k0,tkA,tkB]
 obtain⟨H2,hH2⟩ : ∃H2,H2=(h1.new (.cells [ZW,ZW,ZW,ZW,ZW,ZW,ZW,ZW] 0 none)).put h1.n (.cells (wdC w1) 0 none):=⟨_,rfl⟩
 have e2:Ext h1 H2:=by rw[hH2];exact((Ext.refl _).new _).put (Nat.le_refl _) _
 have n2:H2.n=h1.n+1:=by rw[hH2];rfl
 have ga:H2.ext.get h1.n=some (.cells (wdC w1) 0 none):=by rw[hH2];simp (disch:=try exact dx) only[aa]
 have k1':=e2.kept (by omega) k1
 rw[←hH2]
 clear hH2
 refine call (qc (hd1.ae ((E0.trans X1).trans e2).ae)) ?_
 rintro _ h3 ⟨X3,rfl⟩
 have m3:=X3.n
 obtain⟨w2,f2,hw2⟩ : ∃w1 e1,(if InW (q.den:Int) then Value.tuple #[pz q.den,KI 0] else .tuple #[wdV 0,KI 6])=.tuple #[wdV w1,KI e1]∧(InW (q.den:Int)∧w1=bW q.den∧e1=0 ∨ ¬InW (q.den:Int)∧e1=6):=by
  by_cases hi:InW (q.den:Int)
  ·exact⟨_,0,by rw[if_pos hi],.inl ⟨hi,rfl,rfl⟩⟩
  ·exact⟨0,6,by rw[if_neg hi],.inr ⟨hi,rfl⟩⟩
 rw[hw2.1]
 have ga3:=X3.kept (by omega) ga
 have k3:=X3.kept (by omega) k1'
 have xx:=((E0.trans X1).trans e2).trans X3
 rcases hw.2 with⟨i1,rfl,rfl⟩|⟨i1,rfl⟩
 ·rcases hw2.2 with⟨i2,rfl,rfl⟩|⟨i2,rfl⟩
  ·rw[if_pos (show QW q from⟨i1,i2⟩)]
   simp -dsimp (disch:=try exact dx) only[wpS,wpT,zE,zL,zA,fo,dr,Nb,rz,bL,O4,O3,kA,aY,aq,aM,bf,aj ga3,k3,eG,Oy,Ox,iI,aP,dH,dG]
   exact⟨(((xx.new _).put (by omega) _).put (by omega) _),rfl⟩
  ·rw[if_neg (show ¬QW q from fun h=>i2 h.2)]
   simp -dsimp (disch:=try exact dx) only[wpS,wpT,zE,zL,zA,fo,dr,Nb,rz,kA,aY,aq,aM,bf,k3,Jo]
   exact⟨(((xx.new _).put (by omega) _).put (by omega) _),by rw[tT]⟩
 ·rw[if_neg (show ¬QW q from fun h=>i1 h.1)]
  simp -dsimp (disch:=try exact dx) only[wpS,wpT,zE,zL,zA,fo,dr,Nb,rz,kA,aY,aq,aM,bf,k3,Jo]
  exact⟨(((xx.new _).put (by omega) _).put (by omega) _),by rw[tT]⟩
def okS (n d:Nat):Prop:=0<wdI d∧Int.gcd (wdI n) (wdI d)=1
instance (n d:Nat):Decidable (okS n d):=by unfold okS;infer_instance
theorem iT {n:Nat} (hn:n<W8):aU (wdI n):=by
 refine UP ?_
 have h2:=cC
 unfold wdI InW
 split<;>constructor<;>omega
theorem sD {h:IH} (n d:Nat) (hn:n<W8) (hd:d<W8):WV prog (.func (.func 113) #[] #[]) [shV n d] h fun r h'=>Ext h h'∧r=KI (if okS n d then 0 else 20):=by
 refine enter (nt:=22) (rs:=[.tmp 2]) Proofs.Tryz.func113 rfl rfl rfl (by simp) ?_
 simp -dsimp (disch:=try exact dx) only[wpS,bV]
 have E1:Ext h (h.new (.cells (shC n d) 0 none)):=(Ext.refl h).new _
 have gs:(h.new (.cells (shC n d) 0 none)).ext.get h.n=some (.cells (shC n d) 0 none):=by simp (disch:=try exact dx) only[ab]
 refine call (qg 1 ⟨by omega,by omega⟩) ?_
 rintro _ h1 ⟨X1,p1⟩
 have m1:=X1.n
 simp only[ax] at m1
 obtain⟨s1,rfl,c1,o1⟩:=p1.cP
 have gs1:=X1.kept (by simp) gs
 have e10:decide ((1:Int)<0)=false:=rfl
 rw[e10] at p1 ⊢
 simp -dsimp (disch:=try exact dx) only[wpS,wpT,zE,zL,zA,iR,fi,kA,o1,aj gs1,aP,dG]
 obtain⟨H2,hH2⟩ : ∃H2,H2=(h1.new (.cells ZL 0 none)).put h1.n (.cells [.bool false,s1] 0 none):=⟨_,rfl⟩
 have e2:Ext h1 H2:=by rw[hH2];exact((Ext.refl _).new _).put (Nat.le_refl _) _
 have n2:H2.n=h1.n+1:=by rw[hH2];rfl
 have ga:H2.ext.get h1.n=some (.cells [.bool false,s1] 0 none):=by rw[hH2];simp (disch:=try exact dx) only[aa]
 rw[←hH2]
 clear hH2
 refine call (lg n d hn hd) ?_
 rintro _ h3 ⟨X3,a2,s2,b2,t2,rfl,hN,hD⟩
 have m3:=X3.n
 obtain⟨e3,c3,o3⟩:=hN.co
 obtain⟨e4,c4,o4⟩:=hD.co
 subst e3 e4
 simp -dsimp (disch:=try exact dx) only[wpS,wpT,zE,zL,zA,ny,nK,o3,o4]
 obtain⟨H0,hH0⟩ : ∃H2,H2=(h3.new (.cells ZR 0 none)).put h3.n (.cells [.bool (decide (wdI n<0)),s2,.bool (decide (wdI d<0)),t2] 0 none):=⟨_,rfl⟩
 have e5:Ext h3 H0:=by rw[hH0];exact((Ext.refl _).new _).put (Nat.le_refl _) _
 have n5:H0.n=h3.n+1:=by rw[hH0];rfl
 have gb:H0.ext.get h3.n=some (.cells [.bool (decide (wdI n<0)),s2,.bool (decide (wdI d<0)),t2] 0 none):=by rw[hH0];simp (disch:=try exact dx) only[aa]
 have gc:=e5.kept (by omega) (X3.kept (by omega) ga)
 rw[←hH0]
 clear hH0
 have hN0:=hN.ae e5.ae
 have hD0:=hD.ae e5.ae
 have p10:=p1.ae ((e2.trans X3).trans e5).ae
 have X0:=Ext.refl H0
 obtain⟨L1,L2,_⟩:=pl4 gb
 have L3:=pl2 gc
 have E0:=((((E1.trans X1).trans e2).trans X3).trans e5)
 refine drawn [(10,[9])] (by kernel_rfl) (by kernel_rfl) rfl ?_
 simp -dsimp (disch:=try exact dx) only[wpS,wpT,zE,zL,zA,iE,bP,aj gb,tkB]
 refine call (ub hD0) ?_
 rintro _ h6 ⟨X6,rfl⟩
 have m6:=X6.n
 by_cases hd0:0<wdI d
 ·have hdn:decide (wdI d<0)=false:=decide_eq_false (by omega)
  rw[hdn] at hD0 gb L2
  rw[if_neg (by omega),if_neg (by omega)]
  simp -dsimp (disch:=try exact dx) only[wpS,wpT,zE,zL,zA,iE,bP,jY,aj (X6.kept (by omega) gb),tkA,tkB]
  refine call (oP (hN0.ae X6.ae) (hD0.ae X6.ae) (iT hn) (iT hd)) ?_
  rintro g h7 ⟨X7,hg⟩
  have m7:=X7.n
  have X67:=X6.trans X7
  have sg:aU (Int.gcd (wdI n) (wdI d):Int):=iV ((iT hd).le (Nat.le_of_dvd (by omega) (Nat.gcd_dvd_right _ _)))
  simp -dsimp (disch:=try exact dx) only[wpS,wpT,zE,zL,zA,bP,aj (X67.kept (by omega) gc),AA]
  refine call (C6 hg (p10.ae X67.ae) sg (iV CN)) ?_
  rintro _ h8 ⟨X8,rfl⟩
  have X68:=X67.trans X8
  have E8:=E0.trans X68
  by_cases hgc:Int.gcd (wdI n) (wdI d)=1
  ·rw[if_neg (by omega),if_pos (by omega),if_pos (show okS n d from⟨hd0,hgc⟩)]
   simp -dsimp (disch:=try exact dx) only[wpS,wpT,zE]
   refine⟨by repeat' first|refine ba ?_ ?_|refine aX ?_ ?_|exact ao rfl rfl rfl rfl (aD (H0:=H0) rfl (by omega) (by assumption) (by assumption) (by with_reducible assumption)),?_⟩
   simp -dsimp (disch:=try exact dx) only[wpS,wpT,zE,zA]
   exact E8
  ·rw[if_neg (show ¬okS n d from fun h=>hgc h.2)]
   have hg1 : ¬((Int.gcd (wdI n) (wdI d):Int)<1):=by
    have:=zQ (n:=wdI n) (d:=wdI d) (by omega)
    omega
   rw[if_neg hg1,if_neg (by omega)]
   simp -dsimp (disch:=try exact dx) only[wpS,wpT,zE]
   refine⟨by repeat' first|refine ba ?_ ?_|refine aX ?_ ?_|exact ao rfl rfl rfl rfl (aD (H0:=H0) rfl (by omega) (by assumption) (by assumption) (by with_reducible assumption)),?_⟩
   simp -dsimp (disch:=try exact dx) only[wpS,wpT,zE,zA]
   exact E8
 ·rw[if_neg (show ¬okS n d from fun h=>hd0 h.1)]
  have E6:=E0.trans X6
  obtain⟨c,hc,hc0⟩ : ∃c:Int,(if wdI d<0 then (-1:Int) else if wdI d=0 then 0 else 1)=c∧c≤0:=⟨_,rfl,by split<;>(try split)<;>omega⟩
  rw[hc]
  simp -dsimp (disch:=try exact dx) only[wpS,wpT,zE,show decide (c≤0)=true from decide_eq_true hc0]
  refine⟨Cw rfl rfl rfl,?_⟩
  simp -dsimp (disch:=try exact dx) only[wpS,wpT,zE,zA]
  exact E6
theorem EP {h:IH} (n d:Nat) (hn:n<W8) (hd:d<W8):WV prog (.func (.func 241) #[] #[]) [shV n d] h fun r h'=>Ext h h'∧r=.bool (decide (okS n d)):=by
 refine enter (nt:=6) (rs:=[.tmp 2]) Proofs.Tryz.func241 rfl rfl rfl (by simp) ?_
 simp -dsimp (disch:=try exact dx) only[wpS,zE,zL,kA,bV,aP,dG]
 refine call (sD n d hn hd) ?_
 rintro _ h1 ⟨hE,rfl⟩
 have E1:=((Ext.refl h).new (.cells (shC n d) 0 none)).trans hE
 by_cases hok:okS n d
 ·rw[if_pos hok]
  simp -dsimp (disch:=try exact dx) only[wpS,wpT,zE]
  exact⟨E1,by rw[decide_eq_true hok]⟩
 ·rw[if_neg hok]
  simp -dsimp (disch:=try exact dx) only[wpS,wpT,zE]
  exact⟨E1,by rw[decide_eq_false hok]⟩
def shL (l:List (Nat×Nat)):List Value:=l.flatMap fun p=>shC p.1 p.2
theorem mI (l:List (Nat×Nat)):(shL l).length=l.length*16:=by
 induction l with
 | nil=>rfl
 | cons a l ih=>rw[shL,List.flatMap_cons,List.length_append,aP,←shL,ih,List.length_cons];omega
theorem OA {l:List (Nat×Nat)} {i:Nat} {p:Nat×Nat} (h:l[i]?=some p):((shL l).drop (i*16)).take 16=shC p.1 p.2:=by
 induction l generalizing i with
 | nil=>simp at h
 | cons a l ih =>
  rw[shL,List.flatMap_cons,←shL]
  cases i with
  | zero =>
   simp at h;subst h
   rw[Nat.zero_mul,List.drop_zero,List.take_append_of_le_length (by rw[aP];omega),List.take_of_length_le (by rw[aP];omega)]
  | succ i =>
   simp at h
   rw[show(i+1)*16=(shC a.1 a.2).length+i*16 by rw[aP];omega,List.drop_length_add_append]
   exact ih h
theorem RT (l:List (Nat×Nat)):(shL l).all aH=true:=by
 induction l with
 | nil=>rfl
 | cons a l ih=>rw[shL,List.flatMap_cons,List.all_append,dH,←shL,ih];rfl
def jt (h:IH) (v:Value) (l:List (Nat×Nat)):Prop:=bI h 16 v l.length (shL l)∧l.length<1152921504606846976 ∧ ∀p∈l,p.1<W8∧p.2<W8
theorem jt.ae {h h':IH} {v:Value} {l:List (Nat×Nat)} (s:jt h v l) (e:aN h h'):jt h' v l:=⟨s.1.ae e,s.2⟩
theorem jt.ld {h h':IH} {v:Value} {l:List (Nat×Nat)} (s:jt h v l) (e:aN h h') {i:Nat} {p:Nat×Nat} (hi:l[i]?=some p):load prog h' 48 (aO v (i*16))=some (shV p.1 p.2):=by
 have hl:i<l.length:=(List.getElem?_eq_some_iff.1 hi).1
 rw[s.1.JY e (by rw[mI];omega) (by omega) Yl Lj,OA hi];rfl
theorem Ow {h:IH} {v:Value} {l:List (Nat×Nat)} (hv:jt h v l):WV prog (.func (.func 242) #[] #[]) [(.func (.func 241) #[] #[]),v] h fun r h'=>Ext h h'∧r=.bool (decide (∀p∈l,okS p.1 p.2)):=by
 refine enter (nt:=18) (rs:=[.tmp 4]) Proofs.Tryz.func242 rfl rfl rfl (by simp) ?_
 simp -dsimp (disch:=try exact dx) only[wpS,zE,zA,hv.1.len tP]
 refine loop (fun m fr h1 => ∃i:Nat,i+m=l.length∧Ext h h1∧(∀j p,j<i→l[j]?=some p→okS p.1 p.2)∧ai fr 0=some (.func (.func 241) #[] #[])∧ai fr 7=some v∧ai fr 8=some (KN l.length)∧ai fr 9=some (KN i)) l.length
  ⟨0,by omega,Ext.refl _,fun j p hj=>by omega,by simp,by simp,by simp,by simp⟩ ?_
 rintro m fr h1 ⟨i,him,hE,hok,f0,f7,f8,f9⟩
 simp -dsimp (disch:=try exact dx) only[wpS,f8,f9]
 refine aA ?_ ?_<;>intro hc<;>simp only[decide_eq_true_eq,decide_eq_false_iff_not] at hc
 ·have hi:i<l.length:=by omega
  obtain⟨p,hp⟩ : ∃p,l[i]?=some p:=⟨_,List.getElem?_eq_getElem hi⟩
  have hpm:=List.mem_of_getElem? hp
  obtain⟨w1,w2⟩:=hv.2.2 p hpm
  have hlb:=hv.2.1
  simp -dsimp (disch:=try exact dx) only[wpS,wpT,zE,zL,zA,kA,xr,rz,f0,f7,f9,hv.1.idx xJ hi,hv.ld hE.ae hp,bV,aP,dH,iI,dG]
  refine call (EP p.1 p.2 w1 w2) ?_
  rintro _ h2 ⟨hE2,rfl⟩
  have E2:=((hE.new (.cells Z16 0 none)).put hE.n (.cells (shC p.1 p.2) 0 none)).trans hE2
  by_cases hk:okS p.1 p.2
  ·rw[decide_eq_true hk]
   simp -dsimp (disch:=try exact dx) only[wpS,wpT,zE,f9]
   refine⟨m - 1,by omega,i+1,by omega,E2,?_,by simp[f0],by simp[f7],by simp[f8],by simp⟩
   intro j q hj hq
   by_cases hji:j=i
   ·subst hji;rw[hp] at hq;cases hq;exact hk
   ·exact hok j q (by omega) hq
  ·rw[decide_eq_false hk]
   simp -dsimp (disch:=try exact dx) only[wpS,wpT,zE]
   refine⟨E2,?_⟩
   rw[decide_eq_false fun fK=>hk (fK p hpm)]
 ·simp -dsimp (disch:=try exact dx) only[wpS,wpT]
  refine⟨hE,?_⟩
  rw[decide_eq_true]
  intro p hp
  obtain⟨j,hj⟩:=List.getElem?_of_mem hp
  have:=(List.getElem?_eq_some_iff.1 hj).1
  exact hok j p (by omega) hj
theorem Hi {h:IH} {v:Value} {l:List (Nat×Nat)} (hv:jt h v l):WV prog (.func (.func 195) #[] #[]) [v] h fun r h'=>Ext h h'∧r=.bool (decide (∀p∈l,okS p.1 p.2)):=by
 refine enter (nt:=7) (rs:=[.tmp 2]) Proofs.Tryz.func195 rfl rfl rfl (by simp) ?_
 simp -dsimp (disch:=try exact dx) only[wpS,zE]
 refine call (Ow hv) ?_
 rintro _ h1 ⟨hE,rfl⟩
 simp -dsimp (disch:=try exact dx) only[wpS,wpT,zE]
 exact hE
end Go.Id

namespace Go.Id
open Go
open Go.Proofs.Tryz (prog)
open Nat renaming reduceAdd→zA,reduceEqDiff→zE,reduceLeDiff→zL
set_option maxHeartbeats 16000000
theorem Eg {h:IH} {v:Value} {n:Int} (hv:bj h v n):WV prog (.func (.func 153) #[] #[]) [v] h fun r h'=>Ext h h'∧fc h' r (n:Rat):=by
 obtain⟨s,rfl,c1,o1⟩:=hv.cP
 refine enter (nt:=6) (rs:=[.cell 2 169]) Proofs.Tryz.func153 rfl rfl rfl (by simp) ?_
 simp -dsimp (disch:=try exact dx) only[wpS,ny]
 obtain⟨H0,hH0,n0,E0,g0,g1⟩:=iQ h [.bool (decide (n<0)),s] ZR
 rw[←hH0]
 clear hH0
 have X0:=Ext.refl H0
 have L1:=pl2 g0
 refine drawn [(0,[3])] (by kernel_rfl) (by kernel_rfl) rfl ?_
 simp -dsimp (disch:=try exact dx) only[wpS,wpT,zE,zL,zA,bP,aj g0,AA]
 refine call (qg 1 ⟨by omega,by omega⟩) ?_
 rintro _ h1 ⟨X1,p1⟩
 have m1:=X1.n
 obtain⟨s1,rfl,c2,o2⟩:=p1.cP
 have kg:=X1.kept (by omega) g1
 simp -dsimp (disch:=try exact dx) only[wpS,wpT,zE,zL,zA,KB,xS,xR,nK,kg,o1,o2]
 refine⟨by repeat' first|refine ba ?_ ?_|refine aX ?_ ?_|exact ao rfl rfl rfl rfl (aD (H0:=H0) rfl (by omega) (by assumption) (by assumption) (by with_reducible assumption)),?_⟩
 simp -dsimp (disch:=try exact dx) only[wpS,wpT,zE,zL,zA,nU,pJ]
 have kp:=(aN.refl h1).put kg (.cells [.bool (decide (n<0)),s,.bool false,s1] 0 none)
 exact⟨(E0.trans X1).put (by omega) _,_,_,_,_,rfl,hv.ae ((E0.trans X1).ae.trans kp),p1.ae kp⟩
theorem yR {h:IH} (n:Int) (hn:jP n):WV prog (.func (.func 116) #[] #[]) [KI n] h fun r h'=>Ext h h'∧fc h' r (n:Rat):=by
 refine enter (nt:=6) (rs:=[.cell 2 169]) Proofs.Tryz.func116 rfl rfl rfl (by simp) ?_
 simp -dsimp (disch:=try exact dx) only[wpS,zE,ny]
 have E1:Ext h (h.new (.cells ZR 0 none)):=(Ext.refl h).new _
 have g1:(h.new (.cells ZR 0 none)).ext.get h.n=some (.cells ZR 0 none):=by simp (disch:=try exact dx) only[ab]
 refine call (qg n hn) ?_
 rintro _ h1 ⟨X1,p1⟩
 simp -dsimp (disch:=try exact dx) only[wpS,zE]
 refine call (Eg p1) ?_
 rintro _ h2 ⟨X2,p2⟩
 have m1:=X1.n
 have m2:=X2.n
 simp only[ax] at m1
 obtain⟨a3,s3,b3,t3,rfl,_,_,d1,o1,d2,o2,o3,o4⟩:=p2.parts
 have kg:=X2.kept (by omega) (X1.kept (by simp) g1)
 simp -dsimp (disch:=try exact dx) only[wpS,wpT,zE,zL,zA,nK,nU,kg,o1,o2,o3,o4,pJ]
 exact⟨((E1.trans X1).trans X2).put (by omega) _,p2.ae ((aN.refl _).put kg _)⟩
theorem ow {d:Nat} (hd:d<W8):wdI d=0↔d=0:=by
 have h2:=cC
 have h3:=jq
 unfold wdI
 split<;>omega
theorem Bo {h:IH} (n d:Nat) (hn:n<W8) (hd:d<W8) (d0:d≠0):WV prog (.func (.func 197) #[] #[]) [wdV n,wdV d] h fun r h'=>Ext h h'∧r=(open Classical in if QW (Rat.divInt (wdI n) (wdI d)) then .tuple #[pY (Rat.divInt (wdI n) (wdI d)),KI 0] else .tuple #[shV 0 0,KI 6]):=by
 refine enter (nt:=18) (rs:=[.cell 4 48,.tmp 5]) Proofs.Tryz.func197 rfl rfl rfl (by simp) ?_
 simp -dsimp (disch:=try exact dx) only[wpS,wpT,zE,zL,zA,xr,bL,gV,aY,aq]
 obtain⟨H0,hH0,n0,E0,g0,g1,g2⟩:=iP h (wdC n) (wdC d) Z16
 rw[←hH0]
 clear hH0
 have X0:=Ext.refl H0
 have L2:load prog H0 44 (ptr (2*(h.n+1)) 0)=some (wdV d):=by
  simp -dsimp (disch:=try exact dx) only[wpS,zL,bL,aj g1,aq,eG]
  rfl
 have hz:binop prog .eql 44 (.tmp 6) (.tmp 7) (.agg (wdC d).toArray) (.agg #[ZW,ZW,ZW,ZW,ZW,ZW,ZW,ZW])=some (.bool false):=by
  rw[eF,wdV,GZ hd (by have:=cC;have:=jq;omega)]
  rw[decide_eq_false d0]
 have hdI:wdI d≠0:=fun h=>d0 ((ow hd).1 h)
 simp -dsimp (disch:=try exact dx) only[wpS,zE,eG,hz]
 refine drawn [(2,[1])] (by kernel_rfl) (by kernel_rfl) rfl ?_
 simp -dsimp (disch:=try exact dx) only[wpS,zE,zL,bL,aj g0,aq,eG]
 refine call (gT n hn) ?_
 rintro r1 h1 ⟨X1,p1⟩
 have m1:=X1.n
 simp -dsimp (disch:=try exact dx) only[wpS,zE,zL,bL,aj (X1.kept (by omega) g1),aq,eG]
 refine call (gT d hd) ?_
 rintro r2 h2 ⟨hE2,p2⟩
 have X2:=X1.trans hE2
 have m2:=hE2.n
 simp -dsimp (disch:=try exact dx) only[wpS,zE]
 refine call (qY (p1.ae hE2.ae) p2 (iT hn) (iT hd) hdI) ?_
 rintro r3 h3 ⟨hE3,p3⟩
 have X3:=X2.trans hE3
 have m3:=hE3.n
 simp -dsimp (disch:=try exact dx) only[wpS,zE]
 refine call (EV p3) ?_
 rintro _ h4 ⟨hE4,rfl⟩
 have X4:=X3.trans hE4
 have m4:=hE4.n
 have kg:=X4.kept (by omega) g2
 by_cases hq:QW (Rat.divInt (wdI n) (wdI d))
 ·rw[if_pos hq]
  simp -dsimp (disch:=try exact dx) only[wpS,wpT,zE,zL,zA,rz,kg,bV,aP,dH,iI]
  refine⟨by repeat' first|refine ba ?_ ?_|refine aX ?_ ?_|exact ao rfl rfl rfl rfl (aD (H0:=H0) rfl (by omega) (by assumption) (by assumption) (by with_reducible assumption)),?_⟩
  simp -dsimp (disch:=try exact dx) only[wpS,wpT,zE,zL,zA,kA,aP,dG]
  exact⟨(E0.trans X4).put (by omega) _,rfl⟩
 ·rw[if_neg hq]
  simp -dsimp (disch:=try exact dx) only[wpS,wpT,zE,zL,zA,rz,kg,bV,aP,dH,iI]
  refine⟨by repeat' first|refine ba ?_ ?_|refine aX ?_ ?_|exact ao rfl rfl rfl rfl (aD (H0:=H0) rfl (by omega) (by assumption) (by assumption) (by with_reducible assumption)),?_⟩
  simp -dsimp (disch:=try exact dx) only[wpS,wpT,zE,zL,zA,kA,aP,dG]
  exact⟨(E0.trans X4).put (by omega) _,rfl⟩
theorem vi {n d:Int} (hn:jP n) (hd:jP d) (d0:d≠0):QW (Rat.divInt n d):=by
 have h3:=D1
 have q:=QB.divInt (k:=63) d0 (n:=n) (by have:=hn.1;have:=hn.2;omega) (by have:=hd.1;have:=hd.2;omega)
 obtain⟨q1,q2⟩:=q
 have e:2 ^ 63=9223372036854775808:=by decide
 rw[e] at q1 q2
 exact⟨⟨by omega,by omega⟩,⟨by omega,by omega⟩⟩
theorem F0 {n:Int} (hn:jP n):InW n:=by
 have h3:=D1
 exact⟨by have:=hn.1;omega,by have:=hn.2;omega⟩
theorem UA {n:Int} (hn:jP n) (h0:n≠0):bW n≠0:=by
 have hw:=F0 hn
 have:=jA hw
 intro h
 rw[h] at this
 have h2:=jq
 unfold wdI at this
 rw[if_pos h2] at this
 omega
theorem RQ {h:IH} (n d:Int) (hn:jP n) (hd:jP d) (d0:d≠0):WV prog (.func (.func 108) #[] #[]) [KI n,KI d] h fun r h'=>Ext h h'∧r=.tuple #[pY (Rat.divInt n d),KI 0]:=by
 refine enter (nt:=13) (rs:=[.cell 4 48,.tmp 5]) Proofs.Tryz.func108 rfl rfl rfl (by simp) ?_
 simp -dsimp (disch:=try exact dx) only[wpS,zE,zA,xr]
 have E1:Ext h (h.new (.cells Z16 0 none)):=(Ext.refl h).new _
 have g1:(h.new (.cells Z16 0 none)).ext.get h.n=some (.cells Z16 0 none):=by simp (disch:=try exact dx) only[ab]
 refine call (qP n hn) ?_
 rintro _ h1 ⟨X1,rfl⟩
 simp -dsimp (disch:=try exact dx) only[wpS,zE]
 refine call (qP d hd) ?_
 rintro _ h2 ⟨X2,rfl⟩
 simp -dsimp (disch:=try exact dx) only[wpS,zE]
 refine call (Bo (bW n) (bW d) (lI (F0 hn)) (lI (F0 hd)) (UA hd d0)) ?_
 rintro _ h3 ⟨X3,rfl⟩
 rw[jA (F0 hn),jA (F0 hd),if_pos (vi hn hd d0)]
 have m1:=X1.n
 have m2:=X2.n
 have m3:=X3.n
 simp only[ax] at m1
 have kg:=X3.kept (by omega) (X2.kept (by omega) (X1.kept (by simp) g1))
 simp -dsimp (disch:=try exact dx) only[wpS,wpT,zE,zL,zA,rz,kA,kg,bV,aP,dH,iI,dG]
 exact⟨(((E1.trans X1).trans X2).trans X3).put (by omega) _,rfl⟩
end Go.Id

namespace Go.Id
open Go
def rOf (p:Nat×Nat):Rat:=Rat.divInt (wdI p.1) (wdI p.2)
theorem dZ {p:Nat×Nat} (h:okS p.1 p.2):(rOf p).num=wdI p.1∧((rOf p).den:Int)=wdI p.2:=by
 obtain⟨h1,h2⟩:=h
 obtain⟨a,b⟩:=oS (n:=wdI p.1) h1
 rw[h2] at a b
 simp only[Int.natCast_one,Int.ediv_one] at a b
 exact⟨a.symm,b.symm⟩
noncomputable def rL (q:Rat):Value:=open Classical in if QW q then .tuple #[pY q,KI 0] else .tuple #[shV 0 0,KI 6]
theorem G2 (q:Rat) : ∃n d e,rL q=.tuple #[shV n d,KI e]:=by
 unfold rL
 by_cases h:QW q
 ·exact⟨_,_,0,by rw[if_pos h]⟩
 ·exact⟨0,0,6,by rw[if_neg h]⟩
theorem Bx {p:Nat×Nat} (h1:p.1<W8) (h2:p.2<W8) (ok:okS p.1 p.2):QB 512 (rOf p):=by
 obtain⟨e1,e2⟩:=dZ ok
 have hw:W8=2 ^ 512:=by decide +kernel
 have a1:=iT h1
 unfold QB
 have k1:(wdI p.1).natAbs≤2 ^ 512:=by
  rw[←hw]
  unfold wdI
  have:=cC
  split<;>omega
 have k2:wdI p.2≤((2 ^ 512:Nat):Int):=by
  rw[←hw]
  unfold wdI
  have:=cC
  split<;>omega
 generalize (2 ^ 512:Nat)=B at *
 refine⟨by rw[e1];exact k1,by omega⟩
def shq (q:Rat):Nat×Nat:=(bW q.num,bW q.den)
theorem CQ {q:Rat} (h:QW q):(shq q).1<W8∧(shq q).2<W8:=⟨lI h.1,lI h.2⟩
theorem yL (q:Rat):pY q=shV (shq q).1 (shq q).2:=rfl
theorem Jm {q:Rat} (h:QW q):rOf (shq q)=q∧okS (shq q).1 (shq q).2:=by
 have e1:wdI (shq q).1=q.num:=jA h.1
 have e2:wdI (shq q).2=(q.den:Int):=jA h.2
 refine⟨?_,?_,?_⟩
 ·unfold rOf;rw[e1,e2,Rat.num_divInt_den]
 ·rw[e2];have:=q.den_pos;omega
 ·rw[e1,e2];have:=q.reduced;exact this
theorem V4 {h:IH} (a b c d:Nat):buildSlice Proofs.Tryz.prog h 82 2 [(0,shV a b),(1,shV c d)]=some (.slice (some ⟨2*h.n,0,none⟩) 2 5,h.new (.cells (shL [(a,b),(c,d)]) 16 none)):=by
 rw[QZ h 2 _ (by decide)]
 have e:cj (fun i=>some (i*16,16)) (bS 2 [.int .u64 0,.int .u64 0,.int .u64 0,.int .u64 0,.int .u64 0,.int .u64 0,.int .u64 0,.int .u64 0,.int .u64 0,.int .u64 0,.int .u64 0,.int .u64 0,.int .u64 0,.int .u64 0,.int .u64 0,.int .u64 0]) [(0,shV a b),(1,shV c d)]=some (shL [(a,b),(c,d)]):=by kernel_rfl
 rw[e];rfl
end Go.Id

namespace Go.Id
open Go
end Go.Id

namespace Go.Id
open Go
end Go.Id

namespace Go.Id
open Go
end Go.Id

namespace Go.Id
open Go
def wX (r:gP) (c:Code):gP:={ r with state:=.done,pending:=some c }
@[reducible] def XS (k:Nat) (r:gP) (K:Value→IH→Prop) (e:bh) (_:Fr) (h:IH):Prop :=
 h.ext.get k=some (.loop (xh r))∧match e with
  | .normal=>K (.bool true) (h.put k (.loop r))
  | .exit i=>K (.bool false) (h.put k (.loop (wX r (.exit i))))
  | .ret=>K (.bool false) (h.put k (.loop (wX r .ret)))
@[reducible] def XV (P:Program) (k:Nat) (r:gP) (K:Value→IH→Prop) (e:bh) (fr:Fr) (h:IH):Prop :=
 e=.normal∧h.ext.get k=some (.loop r)∧Do (wpC P r.fn r.nt (some k) r.body fr (h.put k (.loop (xh r)))) (XS k r K) nx
theorem KV {P:Program} {k:Nat} {r:gP} {p:Tmp} (hst:r.state=.ready) (hpe:r.pending=none) (hps:r.params = [p]) (hp:p<r.nt) (v:Value) (h:IH) (K:Value→IH→Prop) (hg:h.ext.get k=some (.loop r))
  (w:wpC P r.fn r.nt (some k) r.assign ((p,v) :: r.fr) h (XV P k r K)):WV P (.func (.yield (2*k)) #[] #[]) [v] h K:=by
 obtain⟨⟨e0,fr0,h0⟩,⟨N0,hN0⟩,he0,hg0,w⟩:=ft w
 simp only at he0 hg0 w hN0
 subst he0
 obtain⟨⟨e,fr,h1⟩,⟨N,hN⟩,hb,hk⟩:=ft w
 simp only at hb hk hN
 have hp':Nat.blt p r.nt=true:=by simp only[Nat.blt,Nat.ble_eq];exact hp
 have e1:(2*k % 2 == 0)=true:=by simp
 have e2:2*k / 2=k:=by omega
 have e3:dQ r.nt r.params [v] r.fr=some ((p,v) :: r.fr):=by
  rw[hps];simp[dQ,mC,hp']
 have e5:(r.state == LoopState.ready)=true:=by rw[hst];rfl
 have e6:({ h0 with ext:=h0.ext.set k (.loop { r with state:=.busy }) }:IH)=h0.put k (.loop (xh r)):=rfl
 have e7:({ xh r with state:=.ready,pending:=none }:gP)=r:=by
  cases r;simp only at hst hpe;subst hst;subst hpe;rfl
 cases e with
 | normal =>
  refine⟨(.bool true,h1.put k (.loop r)),⟨N0+N+1,fun n hn=>?_⟩,hk⟩
  obtain⟨n,rfl⟩ : ∃m,n=m+1:=⟨n - 1,by omega⟩
  have h2:=hN n (by omega)
  have h3:=hN0 n (by omega)
  show(bif 2*k % 2 == 0 then dD (E0 P) (cb (E0 P) n) n (2*k / 2) ((#[]:Array Value).toList ++ [v]) h else none)=_
  rw[e1,cond_true,e2]
  simp only[dD,fT hg,e3,h3,fT hg0,e5,cond_true,e6,h2,fT hb,List.nil_append]
  rw[e7];rfl
 | exit i =>
  refine⟨(.bool false,h1.put k (.loop (wX r (.exit i)))),⟨N0+N+1,fun n hn=>?_⟩,hk⟩
  obtain⟨n,rfl⟩ : ∃m,n=m+1:=⟨n - 1,by omega⟩
  have h2:=hN n (by omega)
  have h3:=hN0 n (by omega)
  show(bif 2*k % 2 == 0 then dD (E0 P) (cb (E0 P) n) n (2*k / 2) ((#[]:Array Value).toList ++ [v]) h else none)=_
  rw[e1,cond_true,e2]
  simp only[dD,fT hg,e3,h3,fT hg0,e5,cond_true,e6,h2,fT hb,List.nil_append]
  rfl
 | ret =>
  refine⟨(.bool false,h1.put k (.loop (wX r .ret))),⟨N0+N+1,fun n hn=>?_⟩,hk⟩
  obtain⟨n,rfl⟩ : ∃m,n=m+1:=⟨n - 1,by omega⟩
  have h2:=hN n (by omega)
  have h3:=hN0 n (by omega)
  show(bif 2*k % 2 == 0 then dD (E0 P) (cb (E0 P) n) n (2*k / 2) ((#[]:Array Value).toList ++ [v]) h else none)=_
  rw[e1,cond_true,e2]
  simp only[dD,fT hg,e3,h3,fT hg0,e5,cond_true,e6,h2,fT hb,List.nil_append]
  rfl
def Ro (k:Nat) (r:gP) (fr:Fr) (Q:bh→Fr→IH→Prop) (h1:IH):Prop :=
 (h1.ext.get k=some (.loop r)∧Q .normal fr (h1.put k .dead))∨(∃i,h1.ext.get k=some (.loop (wX r (.exit i)))∧Q (.exit i) fr (h1.put k .dead))∨(h1.ext.get k=some (.loop (wX r .ret))∧Q .ret fr (h1.put k .dead))
theorem OP {P:Program} {fn:FuncId} {nt:Nat} {rd:Option Nat} {f:Operand} {p:Tmp} {assign body:Code} {fr:Fr} {h:IH} {Q:bh→Fr→IH→Prop} {fv:Value} (hf:opd fr f=some fv) (hrd:oI h rd=true) (hp:p<nt)
  (w : ∀(r:gP) (y:Value),r.fn=fn→r.nt=nt→r.body=body→(∀v h1 K,h1.ext.get h.n=some (.loop r)→Do (wpC P fn nt (some h.n) assign ((p,v) :: fr) h1) (XV P h.n r K) nx→WV P y [v] h1 K) →
   WV P fv [y] (h.new (.loop r)) fun _ h1=>Ro h.n r fr Q h1) :
  Do (Av P fn nt rd f #[p] assign body fr h) Q nx:=by
 have w1:=w { state:=.ready,pending:=none,fn,nt,fr,params:=[p],assign:=assign,body } (.func (.yield (2*h.n)) #[] #[]) rfl rfl rfl
  fun v h1 K hg w=>KV (r:={ state:=.ready,pending:=none,fn,nt,fr,params:=[p],assign:=assign,body }) rfl rfl rfl hp v h1 K hg w
 obtain⟨⟨v,h1⟩,⟨N,hN⟩,hq⟩:=w1
 have st : ∀(r:gP) (e:bh),fg h1 h.n=some r→(r.state == LoopState.busy)=false→tp r.pending=some e → ∀n,N≤n→jT (E0 P) (cb (E0 P) n) fn nt rd f [p] assign body fr h=some (e,fr,h1.put h.n .dead):=by
  intro r e h3 h4 h5 n hn
  have h2:=hN n hn
  simp only at h2
  simp only[jT,hrd,cond_true,hf]
  show(match cb (E0 P) n fv [_] _ with|none=>none|some (_,h1)=>_)=_
  rw[h2]
  simp only[h3,h4,cond_false,h5]
  rfl
 rcases hq with⟨hg,hq⟩|⟨i,hg,hq⟩|⟨hg,hq⟩
 ·exact⟨(.normal,fr,h1.put h.n .dead),⟨N,fun n hn=>st _ _ (fT hg) rfl rfl n hn⟩,hq⟩
 ·exact⟨(.exit i,fr,h1.put h.n .dead),⟨N,fun n hn=>st _ _ (fT hg) rfl rfl n hn⟩,hq⟩
 ·exact⟨(.ret,fr,h1.put h.n .dead),⟨N,fun n hn=>st _ _ (fT hg) rfl rfl n hn⟩,hq⟩
end Go.Id

namespace Go.Id
open Go
end Go.Id

namespace Go.Id
open Go
end Go.Id

namespace Go.Id
open Go
end Go.Id

namespace Go.Id
open Go
end Go.Id

namespace Go.Id
open Go
end Go.Id

namespace Go.Id
open Go
open Nat renaming reduceAdd→zA,reduceEqDiff→zE,reduceLeDiff→zL
set_option maxHeartbeats 16000000
def xp (h:IH) (v:Value) (n d:Int):Prop:=∃a s b t,v=.agg #[a,s,b,t]∧aV h (.agg #[a,s]) n∧aV h (.agg #[b,t]) d
theorem xp.ae {h h':IH} {v:Value} {n d:Int} (p:xp h v n d) (e:aN h h'):xp h' v n d:=let ⟨a,s,b,t,h1,h2,h3⟩:=p;⟨a,s,b,t,h1,h2.ae e,h3.ae e⟩
def po (h:IH) (v:Value) (q:Rat):Prop:=xp h v q.num q.den
theorem po.ae {h h':IH} {v:Value} {q:Rat} (p:po h v q) (e:aN h h'):po h' v q:=xp.ae p e
theorem aV.cP {h:IH} {v:Value} {z:Int} (d:aV h v z) : ∃s,v=.agg #[.bool (decide (z<0)),s]∧s.cells = #[s]∧aH s=true:=let ⟨s,n,a,b,c,_⟩:=d.form;⟨s,a,b,c⟩
theorem aV.co {h:IH} {a s:Value} {z:Int} (d:aV h (.agg #[a,s]) z):a=.bool (decide (z<0))∧s.cells = #[s]∧aH s=true:=by
 obtain⟨s',h1,h2,h3⟩:=d.cP
 cases h1
 exact⟨rfl,h2,h3⟩
theorem Pt {n d:Int} (hd:d<0):n / (-(Int.gcd n d:Int))=(Rat.divInt n d).num∧d / (-(Int.gcd n d:Int))=(Rat.divInt n d).den:=by
 obtain⟨a,b⟩:=xW (n:=n) hd
 rw[Int.ediv_neg,Int.ediv_neg]
 exact⟨a,b⟩
theorem yQ {h:IH} {v w:Value} {n d:Int} (hv:aV h v n) (hw:aV h w d) (sn:aU n) (sd:aU d) (d0:d≠0) :
  WV Proofs.Tryz.prog (.func (.func 154) #[] #[]) [v,w] h fun r h'=>Ext h h'∧po h' r (Rat.divInt n d):=by
 obtain⟨s,rfl,c1,o1⟩:=hv.cP
 obtain⟨t,rfl,c2,o2⟩:=hw.cP
 have sg:aU (Int.gcd n d:Int):=by
  have h1:Int.gcd n d≤d.natAbs:=Nat.le_of_dvd (by omega) (Nat.gcd_dvd_right _ _)
  exact iV (sd.le h1)
 refine enter (nt:=32) (rs:=[.cell 4 186]) Proofs.Tryz.func154 rfl rfl rfl (by simp) ?_
 simp -dsimp (disch:=try exact dx) only[wpS,wpT,zE,zL,zA,tA,bq]
 obtain⟨H0,hH0,n0,E0,g0,g1,g2⟩:=iP h [.bool (decide (n<0)),s] [.bool (decide (d<0)),t] ZR
 rw[←hH0]
 clear hH0
 refine call (tq (hv.ae E0.ae) (hw.ae E0.ae) sn sd) ?_
 rintro _ h1 ⟨hE1,hg⟩
 obtain⟨sg1,rfl,c3,o3⟩:=hg.cP
 have hng:decide ((Int.gcd n d:Int)<0)=false:=decide_eq_false (by omega)
 rw[hng] at hg ⊢
 have x1:=E0.trans hE1
 have n1:=(hE1).n;try simp only[ax,ay] at n1
 simp -dsimp (disch:=try exact dx) only[wpS,wpT,zE,zL,zA,dh,bY,dJ,ld4,o3,aj (hE1.kept (by omega) g1),AA]
 obtain⟨H2,hH2⟩ : ∃H2,H2=(h1.new (.cells ZL 0 none)).put h1.n (.cells [.bool false,sg1] 0 none):=⟨_,rfl⟩
 have e2:Ext h1 H2:=by rw[hH2];exact((Ext.refl _).new _).put (Nat.le_refl _) _
 have n2:H2.n=h1.n+1:=by rw[hH2];rfl
 have gg:H2.ext.get h1.n=some (.cells [.bool false,sg1] 0 none):=by rw[hH2];simp (disch:=try exact dx) only[aa]
 rw[←hH2]
 clear hH2
 have x2:=x1.trans e2
 have kk0:=e2.kept (by omega) (hE1.kept (by omega) g0)
 have kk1:=e2.kept (by omega) (hE1.kept (by omega) g1)
 have kk2:=e2.kept (by omega) (hE1.kept (by omega) g2)
 refine hI (fun fr2 H3 => ∃(g:Int) (ag sg2:Value),Ext h H3∧h1.n+1≤H3.n∧H3.ext.get h.n=some (.cells [.bool (decide (n<0)),s] 0 none)∧H3.ext.get (h.n+1)=some (.cells [.bool (decide (d<0)),t] 0 none)∧H3.ext.get (h.n+1+1)=some (.cells ZR 0 none)∧H3.ext.get h1.n=some (.cells [ag,sg2] 0 none)∧aV H3 (.agg #[ag,sg2]) g∧aU g∧g≠0∧n / g=(Rat.divInt n d).num∧d / g=(Rat.divInt n d).den ∧
  aV H3 (.agg #[.bool (decide (n<0)),s]) n∧aV H3 (.agg #[.bool (decide (d<0)),t]) d∧ai fr2 2=some (ptr (2*h.n) 0)∧ai fr2 3=some (ptr (2*(h.n+1)) 0)∧ai fr2 4=some (ptr (2*(h.n+1+1)) 0)∧ai fr2 5=some (ptr (2*h1.n) 0)) (fun hb=>?_) (fun hb=>?_) ?_
 ·have hd:d<0:=by simpa using hb
  obtain⟨b1,b2⟩:=Pt (n:=n) hd
  simp -dsimp (disch:=try exact dx) only[wpS,wpT,zE,zL,zA,bq,aj gg,AA]
  refine call (I9 (hg.ae e2.ae)) ?_
  rintro _ h3 ⟨hE3,hT⟩
  obtain⟨sT,rfl,c4,o4⟩:=hT.cP
  have n3:=(hE3).n;try simp only[ax,ay] at n3
  have kg:=hE3.kept (by omega) gg
  simp -dsimp (disch:=try exact dx) only[wpS,wpT,zE,zL,zA,bY,kg,o4]
  have kp:=(aN.refl h3).put kg (.cells [.bool (decide (-(Int.gcd n d:Int)<0)),sT] 0 none)
  have x3:=x2.trans hE3
  have hng:=zQ (n:=n) (d:=d) (by omega)
  refine⟨-(Int.gcd n d:Int),_,sT,x3.put (by omega) _,by simp only[ay];omega,by simp (disch:=try exact dx) only[ah];exact hE3.kept (by omega) kk0,by simp (disch:=try exact dx) only[ah];exact hE3.kept (by omega) kk1,by simp (disch:=try exact dx) only[ah];exact hE3.kept (by omega) kk2,aa _ _ rfl,hT.ae kp,by rw[aU,Int.natAbs_neg];exact sg,by omega,b1,b2,hv.ae (x3.ae.trans kp),hw.ae (x3.ae.trans kp),by simp,by simp,by simp,by simp⟩
 ·have hd:0<d:=by
   have : ¬d<0:=by simpa using hb
   omega
  obtain⟨b1,b2⟩:=oS (n:=n) hd
  simp -dsimp (disch:=try exact dx) only[wpS,wpT]
  exact⟨Int.gcd n d,_,sg1,x2,by omega,kk0,kk1,kk2,gg,hg.ae e2.ae,sg,zQ d0,b1,b2,hv.ae x2.ae,hw.ae x2.ae,by simp,by simp,by simp,by simp⟩
 clear hg kk0 kk1 kk2 gg x2 e2
 rintro fr2 H3 ⟨g,ag,sg2,x3,n3,k0,k1,k2,kg,hg,sgg,g0',b1,b2,hv3,hw3,f2,f3,f4,f5⟩
 rw[kM]
 simp -dsimp (disch:=try exact dx) only[wpS,wpT,zE,zL,zA,bq,f2,f5,aj k0,aj kg,AA]
 refine call (lq hv3 hg sn sgg g0') ?_
 rintro _ h4 ⟨hE4,q,u,rfl,hq,hu⟩
 rw[b1] at hq
 obtain⟨sq,rfl,c4,o4⟩:=hq.cP
 obtain⟨su,rfl,c5,o5⟩:=hu.cP
 have n4:=(hE4).n;try simp only[ax,ay] at n4
 have x4:=x3.trans hE4
 simp -dsimp (disch:=try exact dx) only[wpS,wpT,zE,zL,zA,bq,dh,bY,o4,o5,f3,f5,aj (hE4.kept (by omega) k1),aj (hE4.kept (by omega) kg),AA]
 obtain⟨H5,hH5⟩ : ∃H4,H4=((((h4.new (.cells ZL 0 none)).new (.cells ZL 0 none)).put h4.n (.cells [.bool (decide ((Rat.divInt n d).num<0)),sq] 0 none)).put (h4.n+1) (.cells [.bool (decide (n % g<0)),su] 0 none)):=⟨_,rfl⟩
 have e5:Ext h4 H5:=by rw[hH5];exact((((Ext.refl _).new _).new _).put (Nat.le_refl _) _).put (by omega) _
 have n5:H5.n=h4.n+2:=by rw[hH5];rfl
 have gq:H5.ext.get h4.n=some (.cells [.bool (decide ((Rat.divInt n d).num<0)),sq] 0 none):=by rw[hH5];simp (disch:=try exact dx) only[aa,ah]
 rw[←hH5]
 clear hH5
 refine call (lq (hw3.ae (hE4.trans e5).ae) (hg.ae (hE4.trans e5).ae) sd sgg g0') ?_
 rintro _ h6 ⟨hE6,q2,u2,rfl,hq2,hu2⟩
 rw[b2] at hq2
 obtain⟨sq2,rfl,c6,o6⟩:=hq2.cP
 obtain⟨su2,rfl,c7,o7⟩:=hu2.cP
 have n6:=(hE6).n;try simp only[ax,ay] at n6
 have hdf:decide (((Rat.divInt n d).den:Int)<0)=false:=decide_eq_false (by omega)
 rw[hdf] at hq2 ⊢
 have x6:=(x4.trans e5).trans hE6
 have kq:=hE6.kept (by omega) gq
 have kr:=hE6.kept (by omega) (e5.kept (by omega) (hE4.kept (by omega) k2))
 simp -dsimp (disch:=try exact dx) only[wpS,wpT,zE,zL,zA,bq,dh,bY,Uj,JG,JF,tN,zB,o6,o7,f4,aj kq,kr,o4,AA,pJ]
 refine⟨?_,_,_,_,_,rfl,hq.ae ((e5.trans hE6).ae.trans ?_),hq2.ae ?_⟩
 ·exact((((x6.new _).new _).put (by omega) _).put (by omega) _).put (by omega) _
 ·exact(((((aN.refl h6).new _).new _).put (cs:=ZL) (f:=none) (by simp (disch:=try exact dx) only[ab,ar]) _).put (cs:=ZL) (f:=none) (by simp (disch:=try exact dx) only[ab,ah]) _).put (cs:=ZR) (f:=none) (by simp (disch:=try exact dx) only[ar,ah];exact kr) _
 ·exact(((((aN.refl h6).new _).new _).put (cs:=ZL) (f:=none) (by simp (disch:=try exact dx) only[ab,ar]) _).put (cs:=ZL) (f:=none) (by simp (disch:=try exact dx) only[ab,ah]) _).put (cs:=ZR) (f:=none) (by simp (disch:=try exact dx) only[ar,ah];exact kr) _
end Go.Id

/-
  Contracts: the program's shares: read, told, checked. Contracts: the program's fractions of integers; shares made.
-/
import Derived.Test.YtnanhedgenokpaaGreatTemperMovesAt
import Derived.Test.YtnanhedgenokpaaGreatTemperMovesBd
import Derived.Test.YtnanhedgenokpaaGreatTemperMovesAs
set_option linter.unusedVariables false
set_option linter.unusedSimpArgs false
set_option linter.defProp false
set_option linter.deprecated false
namespace Go.Id
open Go
open Go.Proofs.Tryz (prog)
open Nat renaming reduceAdd→zA,reduceEqDiff→zE,reduceLeDiff→zL
set_option maxHeartbeats 16000000
def shC (n d:Nat):List Value:=wdC n ++ wdC d
def shV (n d:Nat):Value:=.agg (shC n d).toArray
theorem aH (n d:Nat):(shC n d).length=16:=by simp[shC,aj]
theorem cU (n d:Nat):(shC n d).all aG=true:=by simp only[shC,List.all_append,ay,Bool.and_self]
theorem aV (n d:Nat):(shV n d).cells.toList=shC n d:=rfl
theorem bN (n d:Nat):List.take 16 (List.drop 0 (shC n d))=shC n d:=by rw[List.drop_zero,List.take_of_length_le (by rw[aH];omega)]
theorem gU (n d:Nat):List.take 8 (List.drop 0 (shC n d))=wdC n:=by rw[List.drop_zero,shC,List.take_append_of_le_length (by rw[aj];omega),List.take_of_length_le (by rw[aj];omega)]
theorem iT (n d:Nat):List.take 8 (List.drop 8 (shC n d))=wdC d:=by rw[shC,List.drop_append_of_le_length (by rw[aj];omega),List.drop_of_length_le (by rw[aj];omega),List.nil_append,List.take_of_length_le (by rw[aj];omega)]
abbrev Z16:List Value:=[ZW,ZW,ZW,ZW,ZW,ZW,ZW,ZW,ZW,ZW,ZW,ZW,ZW,ZW,ZW,ZW]
theorem J8 (n:Nat):IH.aD Z16 0 (wdC n)=shC n 0:=by
 rw[IH.aD,List.take_zero,List.nil_append,aj,shC,gQ];rfl
theorem J7 (n d:Nat):IH.aD (shC n 0) 8 (wdC d)=shC n d:=by
 rw[IH.aD,aj,shC,List.take_append_of_le_length (by rw[aj];omega),List.take_of_length_le (by rw[aj];omega),List.drop_of_length_le (by simp[aj]),List.append_nil];rfl
theorem dX (n d:Nat):IH.aD Z16 0 (shC n d)=shC n d:=fY (by rw[aH];rfl)
theorem Nc:Z16=shC 0 0:=by rw[shC,gQ];rfl
theorem rO:Value.agg #[ZW,ZW,ZW,ZW,ZW,ZW,ZW,ZW,ZW,ZW,ZW,ZW,ZW,ZW,ZW,ZW]=shV 0 0:=by rw[shV,←Nc]
theorem Gh:List.take 16 (List.drop 0 Z16)=Z16:=rfl
abbrev iS (q:Rat):Value:=shV (aU q.num) (aU q.den)
def QW (q:Rat):Prop:=InW q.num∧InW (q.den:Int)
theorem psh {H:IH} {k:Nat} {n d:Nat} (g:H.ext.get k=some (.cells (shC n d) 0 none)):load prog H 30 (ptr (2*k) 0)=some (wdV n)∧load prog H 30 (ptr (2*k) 8)=some (wdV d)∧load prog H 32 (ptr (2*k) 0)=some (shV n d):=by
 have r:=ai g
 refine⟨?_,?_,?_⟩
 ·simp -dsimp (disch:=try exact dx) only[wpS,zL,ba,r,aH,gU]
  rfl
 ·simp -dsimp (disch:=try exact dx) only[wpS,zL,zA,ba,r,aH,iT]
  rfl
 ·simp -dsimp (disch:=try exact dx) only[wpS,zL,r,aH,bN,fE]
  rfl
theorem jt {h:IH} (n d:Nat) (hn:n<W8) (hd:d<W8):WV prog (.func (.func 92) #[] #[]) [shV n d] h fun r h'=>Ext h h'∧uT h' r (wdI n) (wdI d):=by
 refine enter (nt:=10) (rs:=[.cell 2 139]) Proofs.Tryz.func92 rfl rfl rfl (by simp) ?_
 simp -dsimp (disch:=try exact dx) only[wpS,jQ,aV]
 obtain⟨H0,hH0,n0,E0,g0,g1⟩:=gl h (shC n d) ZR
 rw[←hH0]
 clear hH0
 have X0:=Ext.refl H0
 obtain⟨L1,L2,_⟩:=psh g0
 refine drawn [(4,[2])] (by kernel_rfl) (by kernel_rfl) rfl ?_
 simp -dsimp (disch:=try exact dx) only[wpS,zE,zL,qW,ba,ai g0,aH,gU]
 refine call (fN n hn) ?_
 rintro r1 h1 ⟨X1,p1⟩
 have m1:=X1.n
 simp -dsimp (disch:=try exact dx) only[wpS,zE,zL,zA,ba,qV,ai (X1.kept (by omega) g0),aH,iT]
 refine call (fN d hd) ?_
 rintro r2 h2 ⟨hE2,p2⟩
 have m2:=hE2.n
 have X2:=X1.trans hE2
 obtain⟨s1,rfl,c1,o1⟩:=p1.cT
 obtain⟨s2,rfl,c2,o2⟩:=p2.cT
 have kg:=X2.kept (by omega) g1
 simp -dsimp (disch:=try exact dx) only[wpS,wpT,zE,zL,zA,Hp,vy,vx,jh,kg,o1,o2]
 refine⟨by repeat' first|refine aN ?_ ?_|refine aI ?_ ?_|exact ak rfl rfl rfl rfl (aJ (H0:=H0) rfl (by omega) (by assumption) (by assumption) (by with_reducible assumption)),?_⟩
 simp -dsimp (disch:=try exact dx) only[wpS,wpT,zE,zL,zA,iJ,kA]
 have kp:=(aF.refl h2).put kg (.cells [.bool (decide (wdI n<0)),s1,.bool (decide (wdI d<0)),s2] 0 none)
 exact⟨(E0.trans X2).put (by omega) _,_,_,_,_,rfl,p1.ab (hE2.ab.trans kp),p2.ab kp⟩
theorem rR {h:IH} {v:Value} {q:Rat} (hv:dU h v q):WV prog (.func (.func 106) #[] #[]) [v] h fun r h'=>Ext h h'∧r=(open Classical in if QW q then .tuple #[iS q,KI 0] else .tuple #[shV 0 0,KI 6]):=by
 obtain⟨a1,s1,b1,t1,rfl,hn1,hd1,c1,o1,c2,o2,o3,o4⟩:=hv.parts
 refine enter (nt:=30) (rs:=[.cell 2 32,.tmp 3]) Proofs.Tryz.func106 rfl rfl rfl (by simp) ?_
 simp -dsimp (disch:=try exact dx) only[wpS,wpT,zE,zL,zA,mi,iY,bh]
 obtain⟨H0,hH0,n0,E0,g0,g1⟩:=gl h [a1,s1,b1,t1] Z16
 rw[←hH0]
 clear hH0
 simp -dsimp (disch:=try exact dx) only[tkA]
 refine call (rU (hn1.ab E0.ab)) ?_
 rintro _ h1 ⟨X1,rfl⟩
 have m1:=X1.n
 obtain⟨w1,e1,hw⟩ : ∃w1 e1,(if InW q.num then Value.tuple #[mj q.num,KI 0] else .tuple #[wdV 0,KI 6])=.tuple #[wdV w1,KI e1]∧(InW q.num∧w1=aU q.num∧e1=0 ∨ ¬InW q.num∧e1=6):=by
  by_cases hi:InW q.num
  ·exact⟨_,0,by rw[if_pos hi],.inl ⟨hi,rfl,rfl⟩⟩
  ·exact⟨0,6,by rw[if_neg hi],.inr ⟨hi,rfl⟩⟩
 rw[hw.1]
 have k0:=X1.kept (by omega) g0
 have k1:=X1.kept (by omega) g1
 simp -dsimp (disch:=try exact dx) only[wpS,wpT,zE,zL,zA,bh,dB,cj,hZ,aM,aj,ay,aO,ai k0,tkA,tkB]
 obtain⟨H2,hH2⟩ : ∃H2,H2=(h1.new (.cells [ZW,ZW,ZW,ZW,ZW,ZW,ZW,ZW] 0 none)).put h1.n (.cells (wdC w1) 0 none):=⟨_,rfl⟩
 have e2:Ext h1 H2:=by rw[hH2];exact((Ext.refl _).new _).put (Nat.le_refl _) _
 have n2:H2.n=h1.n+1:=by rw[hH2];rfl
 have ga:H2.ext.get h1.n=some (.cells (wdC w1) 0 none):=by rw[hH2];simp (disch:=try exact dx) only[ad]
 have k1':=e2.kept (by omega) k1
 rw[←hH2]
 clear hH2
 refine call (rU (hd1.ab ((E0.trans X1).trans e2).ab)) ?_
 rintro _ h3 ⟨X3,rfl⟩
 have m3:=X3.n
 obtain⟨w2,f2,hw2⟩ : ∃w1 e1,(if InW (q.den:Int) then Value.tuple #[mj q.den,KI 0] else .tuple #[wdV 0,KI 6])=.tuple #[wdV w1,KI e1]∧(InW (q.den:Int)∧w1=aU q.den∧e1=0 ∨ ¬InW (q.den:Int)∧e1=6):=by
  by_cases hi:InW (q.den:Int)
  ·exact⟨_,0,by rw[if_pos hi],.inl ⟨hi,rfl,rfl⟩⟩
  ·exact⟨0,6,by rw[if_neg hi],.inr ⟨hi,rfl⟩⟩
 rw[hw2.1]
 have ga3:=X3.kept (by omega) ga
 have k3:=X3.kept (by omega) k1'
 have xx:=((E0.trans X1).trans e2).trans X3
 rcases hw.2 with⟨i1,rfl,rfl⟩|⟨i1,rfl⟩
 ·rcases hw2.2 with⟨i2,rfl,rfl⟩|⟨i2,rfl⟩
  ·rw[if_pos (show QW q from⟨i1,i2⟩)]
   simp -dsimp (disch:=try exact dx) only[wpS,wpT,zE,zL,zA,dB,cj,ve,jr,ba,Ks,Kr,fE,aM,aj,ay,aO,ai ga3,k3,dV,J8,J7,dX,aH,cU,bN]
   exact⟨(((xx.new _).put (by omega) _).put (by omega) _),rfl⟩
  ·rw[if_neg (show ¬QW q from fun h=>i2 h.2)]
   simp -dsimp (disch:=try exact dx) only[wpS,wpT,zE,zL,zA,dB,cj,ve,jr,fE,aM,aj,ay,aO,k3,Gh]
   exact⟨(((xx.new _).put (by omega) _).put (by omega) _),by rw[rO]⟩
 ·rw[if_neg (show ¬QW q from fun h=>i1 h.1)]
  simp -dsimp (disch:=try exact dx) only[wpS,wpT,zE,zL,zA,dB,cj,ve,jr,fE,aM,aj,ay,aO,k3,Gh]
  exact⟨(((xx.new _).put (by omega) _).put (by omega) _),by rw[rO]⟩
def okS (n d:Nat):Prop:=0<wdI d∧Int.gcd (wdI n) (wdI d)=1
instance (n d:Nat):Decidable (okS n d):=by unfold okS;infer_instance
theorem iD {n:Nat} (hn:n<W8):aS (wdI n):=by
 refine P1 ?_
 have h2:=bV
 unfold wdI InW
 split<;>constructor<;>omega
theorem qG {h:IH} (n d:Nat) (hn:n<W8) (hd:d<W8):WV prog (.func (.func 147) #[] #[]) [shV n d] h fun r h'=>Ext h h'∧r=KI (if okS n d then 0 else 20):=by
 refine enter (nt:=22) (rs:=[.tmp 2]) Proofs.Tryz.func147 rfl rfl rfl (by simp) ?_
 simp -dsimp (disch:=try exact dx) only[wpS,aV]
 have E1:Ext h (h.new (.cells (shC n d) 0 none)):=(Ext.refl h).new _
 have gs:(h.new (.cells (shC n d) 0 none)).ext.get h.n=some (.cells (shC n d) 0 none):=by simp (disch:=try exact dx) only[aa]
 refine call (jU 1 ⟨by omega,by omega⟩) ?_
 rintro _ h1 ⟨X1,p1⟩
 have m1:=X1.n
 simp only[al] at m1
 obtain⟨s1,rfl,c1,o1⟩:=p1.cT
 have gs1:=X1.kept (by simp) gs
 have e10:decide ((1:Int)<0)=false:=rfl
 rw[e10] at p1 ⊢
 simp -dsimp (disch:=try exact dx) only[wpS,wpT,zE,zL,zA,fU,dI,fE,o1,ai gs1,aH,bN]
 obtain⟨H2,hH2⟩ : ∃H2,H2=(h1.new (.cells ZL 0 none)).put h1.n (.cells [.bool false,s1] 0 none):=⟨_,rfl⟩
 have e2:Ext h1 H2:=by rw[hH2];exact((Ext.refl _).new _).put (Nat.le_refl _) _
 have n2:H2.n=h1.n+1:=by rw[hH2];rfl
 have ga:H2.ext.get h1.n=some (.cells [.bool false,s1] 0 none):=by rw[hH2];simp (disch:=try exact dx) only[ad]
 rw[←hH2]
 clear hH2
 refine call (jt n d hn hd) ?_
 rintro _ h3 ⟨X3,a2,s2,b2,t2,rfl,hN,hD⟩
 have m3:=X3.n
 obtain⟨e3,c3,o3⟩:=hN.co
 obtain⟨e4,c4,o4⟩:=hD.co
 subst e3 e4
 simp -dsimp (disch:=try exact dx) only[wpS,wpT,zE,zL,zA,jQ,jh,o3,o4]
 obtain⟨H0,hH0⟩ : ∃H2,H2=(h3.new (.cells ZR 0 none)).put h3.n (.cells [.bool (decide (wdI n<0)),s2,.bool (decide (wdI d<0)),t2] 0 none):=⟨_,rfl⟩
 have e5:Ext h3 H0:=by rw[hH0];exact((Ext.refl _).new _).put (Nat.le_refl _) _
 have n5:H0.n=h3.n+1:=by rw[hH0];rfl
 have gb:H0.ext.get h3.n=some (.cells [.bool (decide (wdI n<0)),s2,.bool (decide (wdI d<0)),t2] 0 none):=by rw[hH0];simp (disch:=try exact dx) only[ad]
 have gc:=e5.kept (by omega) (X3.kept (by omega) ga)
 rw[←hH0]
 clear hH0
 have hN0:=hN.ab e5.ab
 have hD0:=hD.ab e5.ab
 have p10:=p1.ab ((e2.trans X3).trans e5).ab
 have X0:=Ext.refl H0
 obtain⟨L1,L2,_⟩:=pl4 gb
 have L3:=pl2 gc
 have E0:=((((E1.trans X1).trans e2).trans X3).trans e5)
 refine drawn [(10,[9])] (by kernel_rfl) (by kernel_rfl) rfl ?_
 simp -dsimp (disch:=try exact dx) only[wpS,wpT,zE,zL,zA,hZ,bh,ai gb,tkB]
 refine call (rV hD0) ?_
 rintro _ h6 ⟨X6,rfl⟩
 have m6:=X6.n
 by_cases hd0:0<wdI d
 ·have hdn:decide (wdI d<0)=false:=decide_eq_false (by omega)
  rw[hdn] at hD0 gb L2
  rw[if_neg (by omega),if_neg (by omega)]
  simp -dsimp (disch:=try exact dx) only[wpS,wpT,zE,zL,zA,hZ,bh,iY,ai (X6.kept (by omega) gb),tkA,tkB]
  refine call (qJ (hN0.ab X6.ab) (hD0.ab X6.ab) (iD hn) (iD hd)) ?_
  rintro g h7 ⟨X7,hg⟩
  have m7:=X7.n
  have X67:=X6.trans X7
  have sg:aS (Int.gcd (wdI n) (wdI d):Int):=iF ((iD hd).le (Nat.le_of_dvd (by omega) (Nat.gcd_dvd_right _ _)))
  simp -dsimp (disch:=try exact dx) only[wpS,wpT,zE,zL,zA,bh,ai (X67.kept (by omega) gc),yy]
  refine call (GF hg (p10.ab X67.ab) sg (iF AW)) ?_
  rintro _ h8 ⟨X8,rfl⟩
  have X68:=X67.trans X8
  have E8:=E0.trans X68
  by_cases hgc:Int.gcd (wdI n) (wdI d)=1
  ·rw[if_neg (by omega),if_pos (by omega),if_pos (show okS n d from⟨hd0,hgc⟩)]
   simp -dsimp (disch:=try exact dx) only[wpS,wpT,zE]
   refine⟨by repeat' first|refine aN ?_ ?_|refine aI ?_ ?_|exact ak rfl rfl rfl rfl (aJ (H0:=H0) rfl (by omega) (by assumption) (by assumption) (by with_reducible assumption)),?_⟩
   simp -dsimp (disch:=try exact dx) only[wpS,wpT,zE,zA]
   exact E8
  ·rw[if_neg (show ¬okS n d from fun h=>hgc h.2)]
   have hg1 : ¬((Int.gcd (wdI n) (wdI d):Int)<1):=by
    have:=xG (n:=wdI n) (d:=wdI d) (by omega)
    omega
   rw[if_neg hg1,if_neg (by omega)]
   simp -dsimp (disch:=try exact dx) only[wpS,wpT,zE]
   refine⟨by repeat' first|refine aN ?_ ?_|refine aI ?_ ?_|exact ak rfl rfl rfl rfl (aJ (H0:=H0) rfl (by omega) (by assumption) (by assumption) (by with_reducible assumption)),?_⟩
   simp -dsimp (disch:=try exact dx) only[wpS,wpT,zE,zA]
   exact E8
 ·rw[if_neg (show ¬okS n d from fun h=>hd0 h.1)]
  have E6:=E0.trans X6
  obtain⟨c,hc,hc0⟩ : ∃c:Int,(if wdI d<0 then (-1:Int) else if wdI d=0 then 0 else 1)=c∧c≤0:=⟨_,rfl,by split<;>(try split)<;>omega⟩
  rw[hc]
  simp -dsimp (disch:=try exact dx) only[wpS,wpT,zE,show decide (c≤0)=true from decide_eq_true hc0]
  refine⟨AK rfl rfl rfl,?_⟩
  simp -dsimp (disch:=try exact dx) only[wpS,wpT,zE,zA]
  exact E6
theorem CB {h:IH} (n d:Nat) (hn:n<W8) (hd:d<W8):WV prog (.func (.func 239) #[] #[]) [shV n d] h fun r h'=>Ext h h'∧r=.bool (decide (okS n d)):=by
 refine enter (nt:=6) (rs:=[.tmp 2]) Proofs.Tryz.func239 rfl rfl rfl (by simp) ?_
 simp -dsimp (disch:=try exact dx) only[wpS,zE,zL,fE,aV,aH,bN]
 refine call (qG n d hn hd) ?_
 rintro _ h1 ⟨hE,rfl⟩
 have E1:=((Ext.refl h).new (.cells (shC n d) 0 none)).trans hE
 by_cases hok:okS n d
 ·rw[if_pos hok]
  simp -dsimp (disch:=try exact dx) only[wpS,wpT,zE]
  exact⟨E1,by rw[decide_eq_true hok]⟩
 ·rw[if_neg hok]
  simp -dsimp (disch:=try exact dx) only[wpS,wpT,zE]
  exact⟨E1,by rw[decide_eq_false hok]⟩
def shL (l:List (Nat×Nat)):List Value:=l.flatMap fun p=>shC p.1 p.2
theorem Gi (l:List (Nat×Nat)):(shL l).length=l.length*16:=by
 induction l with
 | nil=>rfl
 | cons a l ih=>rw[shL,List.flatMap_cons,List.length_append,aH,←shL,ih,List.length_cons];omega
theorem P2 {l:List (Nat×Nat)} {i:Nat} {p:Nat×Nat} (h:l[i]?=some p):((shL l).drop (i*16)).take 16=shC p.1 p.2:=by
 induction l generalizing i with
 | nil=>simp at h
 | cons a l ih =>
  rw[shL,List.flatMap_cons,←shL]
  cases i with
  | zero =>
   simp at h;subst h
   rw[Nat.zero_mul,List.drop_zero,List.take_append_of_le_length (by rw[aH];omega),List.take_of_length_le (by rw[aH];omega)]
  | succ i =>
   simp at h
   rw[show(i+1)*16=(shC a.1 a.2).length+i*16 by rw[aH];omega,List.drop_length_add_append]
   exact ih h
def iM (h:IH) (v:Value) (l:List (Nat×Nat)):Prop:=bI h 16 v l.length (shL l)∧l.length<1152921504606846976 ∧ ∀p∈l,p.1<W8∧p.2<W8
theorem iM.ab {h h':IH} {v:Value} {l:List (Nat×Nat)} (s:iM h v l) (e:aF h h'):iM h' v l:=⟨s.1.ab e,s.2⟩
theorem iM.ld {h h':IH} {v:Value} {l:List (Nat×Nat)} (s:iM h v l) (e:aF h h') {i:Nat} {p:Nat×Nat} (hi:l[i]?=some p):load prog h' 32 (aK v (i*16))=some (shV p.1 p.2):=by
 have hl:i<l.length:=(List.getElem?_eq_some_iff.1 hi).1
 rw[s.1.Dg e (by rw[Gi];omega) (by omega) Ts PV,P2 hi];rfl
theorem J6 {h:IH} {v:Value} {l:List (Nat×Nat)} (hv:iM h v l):WV prog (.func (.func 240) #[] #[]) [(.func (.func 239) #[] #[]),v] h fun r h'=>Ext h h'∧r=.bool (decide (∀p∈l,okS p.1 p.2)):=by
 refine enter (nt:=18) (rs:=[.tmp 4]) Proofs.Tryz.func240 rfl rfl rfl (by simp) ?_
 simp -dsimp (disch:=try exact dx) only[wpS,zE,zA,hv.1.len rJ]
 refine loop (fun m fr h1 => ∃i:Nat,i+m=l.length∧Ext h h1∧(∀j p,j<i→l[j]?=some p→okS p.1 p.2)∧ah fr 0=some (.func (.func 239) #[] #[])∧ah fr 7=some v∧ah fr 8=some (KN l.length)∧ah fr 9=some (KN i)) l.length
  ⟨0,by omega,Ext.refl _,fun j p hj=>by omega,by simp,by simp,by simp,by simp⟩ ?_
 rintro m fr h1 ⟨i,him,hE,hok,f0,f7,f8,f9⟩
 simp -dsimp (disch:=try exact dx) only[wpS,f8,f9]
 refine ax ?_ ?_<;>intro hc<;>simp only[decide_eq_true_eq,decide_eq_false_iff_not] at hc
 ·have hi:i<l.length:=by omega
  obtain⟨p,hp⟩ : ∃p,l[i]?=some p:=⟨_,List.getElem?_eq_getElem hi⟩
  have hpm:=List.mem_of_getElem? hp
  obtain⟨w1,w2⟩:=hv.2.2 p hpm
  have hlb:=hv.2.1
  simp -dsimp (disch:=try exact dx) only[wpS,wpT,zE,zL,zA,fE,mi,jr,f0,f7,f9,hv.1.idx sK hi,hv.ld hE.ab hp,aV,aH,cU,dX,bN]
  refine call (CB p.1 p.2 w1 w2) ?_
  rintro _ h2 ⟨hE2,rfl⟩
  have E2:=((hE.new (.cells Z16 0 none)).put hE.n (.cells (shC p.1 p.2) 0 none)).trans hE2
  by_cases hk:okS p.1 p.2
  ·rw[decide_eq_true hk]
   simp -dsimp (disch:=try exact dx) only[wpS,wpT,zE,f9]
   refine⟨m - 1,by omega,i+1,by omega,E2,?_,by simp[f0],by simp[f7],by simp[f8],by simp⟩
   intro j q hj hq
   by_cases hji:j=i
   ·subst hji;rw[hp] at hq;cases hq;exact hk
   ·exact hok j q (by omega) hq
  ·rw[decide_eq_false hk]
   simp -dsimp (disch:=try exact dx) only[wpS,wpT,zE]
   refine⟨E2,?_⟩
   rw[decide_eq_false fun dC=>hk (dC p hpm)]
 ·simp -dsimp (disch:=try exact dx) only[wpS,wpT]
  refine⟨hE,?_⟩
  rw[decide_eq_true]
  intro p hp
  obtain⟨j,hj⟩:=List.getElem?_of_mem hp
  have:=(List.getElem?_eq_some_iff.1 hj).1
  exact hok j p (by omega) hj
theorem Ez {h:IH} {v:Value} {l:List (Nat×Nat)} (hv:iM h v l):WV prog (.func (.func 170) #[] #[]) [v] h fun r h'=>Ext h h'∧r=.bool (decide (∀p∈l,okS p.1 p.2)):=by
 refine enter (nt:=7) (rs:=[.tmp 2]) Proofs.Tryz.func170 rfl rfl rfl (by simp) ?_
 simp -dsimp (disch:=try exact dx) only[wpS,zE]
 refine call (J6 hv) ?_
 rintro _ h1 ⟨hE,rfl⟩
 simp -dsimp (disch:=try exact dx) only[wpS,wpT,zE]
 exact hE
end Go.Id

namespace Go.Id
open Go
open Go.Proofs.Tryz (prog)
open Nat renaming reduceAdd→zA,reduceEqDiff→zE,reduceLeDiff→zL
set_option maxHeartbeats 16000000
theorem rq {h:IH} {v:Value} {n:Int} (hv:bq h v n):WV prog (.func (.func 150) #[] #[]) [v] h fun r h'=>Ext h h'∧dU h' r (n:Rat):=by
 obtain⟨s,rfl,c1,o1⟩:=hv.cT
 refine enter (nt:=6) (rs:=[.cell 2 139]) Proofs.Tryz.func150 rfl rfl rfl (by simp) ?_
 simp -dsimp (disch:=try exact dx) only[wpS,jQ]
 obtain⟨H0,hH0,n0,E0,g0,g1⟩:=gl h [.bool (decide (n<0)),s] ZR
 rw[←hH0]
 clear hH0
 have X0:=Ext.refl H0
 have L1:=pl2 g0
 refine drawn [(0,[3])] (by kernel_rfl) (by kernel_rfl) rfl ?_
 simp -dsimp (disch:=try exact dx) only[wpS,wpT,zE,zL,zA,bh,ai g0,yy]
 refine call (jU 1 ⟨by omega,by omega⟩) ?_
 rintro _ h1 ⟨X1,p1⟩
 have m1:=X1.n
 obtain⟨s1,rfl,c2,o2⟩:=p1.cT
 have kg:=X1.kept (by omega) g1
 simp -dsimp (disch:=try exact dx) only[wpS,wpT,zE,zL,zA,Hp,vy,vx,jh,kg,o1,o2]
 refine⟨by repeat' first|refine aN ?_ ?_|refine aI ?_ ?_|exact ak rfl rfl rfl rfl (aJ (H0:=H0) rfl (by omega) (by assumption) (by assumption) (by with_reducible assumption)),?_⟩
 simp -dsimp (disch:=try exact dx) only[wpS,wpT,zE,zL,zA,iJ,kA]
 have kp:=(aF.refl h1).put kg (.cells [.bool (decide (n<0)),s,.bool false,s1] 0 none)
 exact⟨(E0.trans X1).put (by omega) _,_,_,_,_,rfl,hv.ab ((E0.trans X1).ab.trans kp),p1.ab kp⟩
theorem ow {h:IH} (n:Int) (hn:dH n):WV prog (.func (.func 91) #[] #[]) [KI n] h fun r h'=>Ext h h'∧dU h' r (n:Rat):=by
 refine enter (nt:=6) (rs:=[.cell 2 139]) Proofs.Tryz.func91 rfl rfl rfl (by simp) ?_
 simp -dsimp (disch:=try exact dx) only[wpS,zE,jQ]
 have E1:Ext h (h.new (.cells ZR 0 none)):=(Ext.refl h).new _
 have g1:(h.new (.cells ZR 0 none)).ext.get h.n=some (.cells ZR 0 none):=by simp (disch:=try exact dx) only[aa]
 refine call (jU n hn) ?_
 rintro _ h1 ⟨X1,p1⟩
 simp -dsimp (disch:=try exact dx) only[wpS,zE]
 refine call (rq p1) ?_
 rintro _ h2 ⟨X2,p2⟩
 have m1:=X1.n
 have m2:=X2.n
 simp only[al] at m1
 obtain⟨a3,s3,b3,t3,rfl,_,_,d1,o1,d2,o2,o3,o4⟩:=p2.parts
 have kg:=X2.kept (by omega) (X1.kept (by simp) g1)
 simp -dsimp (disch:=try exact dx) only[wpS,wpT,zE,zL,zA,jh,iJ,kg,o1,o2,o3,o4,kA]
 exact⟨((E1.trans X1).trans X2).put (by omega) _,p2.ab ((aF.refl _).put kg _)⟩
theorem ry {d:Nat} (hd:d<W8):wdI d=0↔d=0:=by
 have h2:=bV
 have h3:=jg
 unfold wdI
 split<;>omega
theorem Ib {h:IH} (n d:Nat) (hn:n<W8) (hd:d<W8) (d0:d≠0):WV prog (.func (.func 33) #[] #[]) [wdV n,wdV d] h fun r h'=>Ext h h'∧r=(open Classical in if QW (Rat.divInt (wdI n) (wdI d)) then .tuple #[iS (Rat.divInt (wdI n) (wdI d)),KI 0] else .tuple #[shV 0 0,KI 6]):=by
 refine enter (nt:=18) (rs:=[.cell 4 32,.tmp 5]) Proofs.Tryz.func33 rfl rfl rfl (by simp) ?_
 simp -dsimp (disch:=try exact dx) only[wpS,wpT,zE,zL,zA,mi,ba,ra,aM,aj]
 obtain⟨H0,hH0,n0,E0,g0,g1,g2⟩:=gP h (wdC n) (wdC d) Z16
 rw[←hH0]
 clear hH0
 have X0:=Ext.refl H0
 have L2:load prog H0 30 (ptr (2*(h.n+1)) 0)=some (wdV d):=by
  simp -dsimp (disch:=try exact dx) only[wpS,zL,ba,ai g1,aj,dV]
  rfl
 have hz:binop prog .eql 30 (.tmp 6) (.tmp 7) (.agg (wdC d).toArray) (.agg #[ZW,ZW,ZW,ZW,ZW,ZW,ZW,ZW])=some (.bool false):=by
  rw[gC,wdV,JB hd (by have:=bV;have:=jg;omega)]
  rw[decide_eq_false d0]
 have hdI:wdI d≠0:=fun h=>d0 ((ry hd).1 h)
 simp -dsimp (disch:=try exact dx) only[wpS,zE,dV,hz]
 refine drawn [(2,[1])] (by kernel_rfl) (by kernel_rfl) rfl ?_
 simp -dsimp (disch:=try exact dx) only[wpS,zE,zL,ba,ai g0,aj,dV]
 refine call (fN n hn) ?_
 rintro r1 h1 ⟨X1,p1⟩
 have m1:=X1.n
 simp -dsimp (disch:=try exact dx) only[wpS,zE,zL,ba,ai (X1.kept (by omega) g1),aj,dV]
 refine call (fN d hd) ?_
 rintro r2 h2 ⟨hE2,p2⟩
 have X2:=X1.trans hE2
 have m2:=hE2.n
 simp -dsimp (disch:=try exact dx) only[wpS,zE]
 refine call (pE (p1.ab hE2.ab) p2 (iD hn) (iD hd) hdI) ?_
 rintro r3 h3 ⟨hE3,p3⟩
 have X3:=X2.trans hE3
 have m3:=hE3.n
 simp -dsimp (disch:=try exact dx) only[wpS,zE]
 refine call (rR p3) ?_
 rintro _ h4 ⟨hE4,rfl⟩
 have X4:=X3.trans hE4
 have m4:=hE4.n
 have kg:=X4.kept (by omega) g2
 by_cases hq:QW (Rat.divInt (wdI n) (wdI d))
 ·rw[if_pos hq]
  simp -dsimp (disch:=try exact dx) only[wpS,wpT,zE,zL,zA,jr,kg,aV,aH,cU,dX]
  refine⟨by repeat' first|refine aN ?_ ?_|refine aI ?_ ?_|exact ak rfl rfl rfl rfl (aJ (H0:=H0) rfl (by omega) (by assumption) (by assumption) (by with_reducible assumption)),?_⟩
  simp -dsimp (disch:=try exact dx) only[wpS,wpT,zE,zL,zA,fE,aH,bN]
  exact⟨(E0.trans X4).put (by omega) _,rfl⟩
 ·rw[if_neg hq]
  simp -dsimp (disch:=try exact dx) only[wpS,wpT,zE,zL,zA,jr,kg,aV,aH,cU,dX]
  refine⟨by repeat' first|refine aN ?_ ?_|refine aI ?_ ?_|exact ak rfl rfl rfl rfl (aJ (H0:=H0) rfl (by omega) (by assumption) (by assumption) (by with_reducible assumption)),?_⟩
  simp -dsimp (disch:=try exact dx) only[wpS,wpT,zE,zL,zA,fE,aH,bN]
  exact⟨(E0.trans X4).put (by omega) _,rfl⟩
theorem wR {n d:Int} (hn:dH n) (hd:dH d) (d0:d≠0):QW (Rat.divInt n d):=by
 have h3:=ud
 have q:=QB.divInt (k:=63) d0 (n:=n) (by have:=hn.1;have:=hn.2;omega) (by have:=hd.1;have:=hd.2;omega)
 obtain⟨q1,q2⟩:=q
 have e:2 ^ 63=9223372036854775808:=by decide
 rw[e] at q1 q2
 exact⟨⟨by omega,by omega⟩,⟨by omega,by omega⟩⟩
theorem qn {n:Int} (hn:dH n):InW n:=by
 have h3:=ud
 exact⟨by have:=hn.1;omega,by have:=hn.2;omega⟩
theorem PM {n:Int} (hn:dH n) (h0:n≠0):aU n≠0:=by
 have hw:=qn hn
 have:=cK hw
 intro h
 rw[h] at this
 have h2:=jg
 unfold wdI at this
 rw[if_pos h2] at this
 omega
theorem Na {h:IH} (n d:Int) (hn:dH n) (hd:dH d) (d0:d≠0):WV prog (.func (.func 131) #[] #[]) [KI n,KI d] h fun r h'=>Ext h h'∧r=.tuple #[iS (Rat.divInt n d),KI 0]:=by
 refine enter (nt:=13) (rs:=[.cell 4 32,.tmp 5]) Proofs.Tryz.func131 rfl rfl rfl (by simp) ?_
 simp -dsimp (disch:=try exact dx) only[wpS,zE,zA,mi]
 have E1:Ext h (h.new (.cells Z16 0 none)):=(Ext.refl h).new _
 have g1:(h.new (.cells Z16 0 none)).ext.get h.n=some (.cells Z16 0 none):=by simp (disch:=try exact dx) only[aa]
 refine call (kU n hn) ?_
 rintro _ h1 ⟨X1,rfl⟩
 simp -dsimp (disch:=try exact dx) only[wpS,zE]
 refine call (kU d hd) ?_
 rintro _ h2 ⟨X2,rfl⟩
 simp -dsimp (disch:=try exact dx) only[wpS,zE]
 refine call (Ib (aU n) (aU d) (fk (qn hn)) (fk (qn hd)) (PM hd d0)) ?_
 rintro _ h3 ⟨X3,rfl⟩
 rw[cK (qn hn),cK (qn hd),if_pos (wR hn hd d0)]
 have m1:=X1.n
 have m2:=X2.n
 have m3:=X3.n
 simp only[al] at m1
 have kg:=X3.kept (by omega) (X2.kept (by omega) (X1.kept (by simp) g1))
 simp -dsimp (disch:=try exact dx) only[wpS,wpT,zE,zL,zA,jr,fE,kg,aV,aH,cU,dX,bN]
 exact⟨(((E1.trans X1).trans X2).trans X3).put (by omega) _,rfl⟩
end Go.Id

namespace Go.Id
open Go
theorem tM:Kept dU:=fun _ _ _ _ r e=>r.ab e
def rOf (p:Nat×Nat):Rat:=Rat.divInt (wdI p.1) (wdI p.2)
theorem iH {p:Nat×Nat} (h:okS p.1 p.2):(rOf p).num=wdI p.1∧((rOf p).den:Int)=wdI p.2:=by
 obtain⟨h1,h2⟩:=h
 obtain⟨a,b⟩:=pF (n:=wdI p.1) h1
 rw[h2] at a b
 simp only[Int.natCast_one,Int.ediv_one] at a b
 exact⟨a.symm,b.symm⟩
theorem uv {p:Nat×Nat} (h1:p.1<W8) (h2:p.2<W8) (ok:okS p.1 p.2):QB 512 (rOf p):=by
 obtain⟨e1,e2⟩:=iH ok
 have hw:W8=2 ^ 512:=by decide +kernel
 have a1:=iD h1
 unfold QB
 have k1:(wdI p.1).natAbs≤2 ^ 512:=by
  rw[←hw]
  unfold wdI
  have:=bV
  split<;>omega
 have k2:wdI p.2≤((2 ^ 512:Nat):Int):=by
  rw[←hw]
  unfold wdI
  have:=bV
  split<;>omega
 generalize (2 ^ 512:Nat)=B at *
 refine⟨by rw[e1];exact k1,by omega⟩
def shq (q:Rat):Nat×Nat:=(aU q.num,aU q.den)
theorem oq {q:Rat} (h:QW q):(shq q).1<W8∧(shq q).2<W8:=⟨fk h.1,fk h.2⟩
theorem ij (q:Rat):iS q=shV (shq q).1 (shq q).2:=rfl
theorem rN {q:Rat} (h:QW q):rOf (shq q)=q∧okS (shq q).1 (shq q).2:=by
 have e1:wdI (shq q).1=q.num:=cK h.1
 have e2:wdI (shq q).2=(q.den:Int):=cK h.2
 refine⟨?_,?_,?_⟩
 ·unfold rOf;rw[e1,e2,Rat.num_divInt_den]
 ·rw[e2];have:=q.den_pos;omega
 ·rw[e1,e2];have:=q.reduced;exact this
theorem QU {h:IH} (a b c d:Nat):buildSlice Proofs.Tryz.prog h 60 2 [(0,shV a b),(1,shV c d)]=some (.slice (some ⟨2*h.n,0,none⟩) 2 5,h.new (.cells (shL [(a,b),(c,d)]) 16 none)):=by
 rw[Mq h 2 _ (by decide)]
 have e:cz (fun i=>some (i*16,16)) (bA 2 [.int .u64 0,.int .u64 0,.int .u64 0,.int .u64 0,.int .u64 0,.int .u64 0,.int .u64 0,.int .u64 0,.int .u64 0,.int .u64 0,.int .u64 0,.int .u64 0,.int .u64 0,.int .u64 0,.int .u64 0,.int .u64 0]) [(0,shV a b),(1,shV c d)]=some (shL [(a,b),(c,d)]):=by kernel_rfl
 rw[e];rfl
end Go.Id

namespace Go.Id
open Go
theorem Ry {P:Program} {t:TypeId} {bytes:Nat} (hT:pd P t=some (4,bytes)) (hb:bytes≤1000) {R:IH→Value→Rat→Prop} (kR:Kept R) {h:IH} {n0:Nat} {v:Value} {l:List Rat} {cs:List Value} (a:Acc h n0 4 v l.length cs) (hc:lT R h l cs) {x1 x2 x3 x4:Value} {q:Rat} (r:R h (.agg #[x1,x2,x3,x4]) q) (o:([x1,x2,x3,x4]:List Value).all aG=true) (hl:l.length<100000) (h0:n0≤h.n) {h0':IH} (e0:Ext h0' h) (hn0:h0'.n≤n0) :
  ∃v' h',append P (h.new (.cells [x1,x2,x3,x4] 4 none)) t v (.slice (some ⟨2*h.n,0,none⟩) 1 3)=some (v',h')∧Acc h' n0 4 v' (l ++ [q]).length (cs ++ [x1,x2,x3,x4])∧lT R h' (l ++ [q]) (cs ++ [x1,x2,x3,x4])∧Grow h h'∧Ext h0' h':=by
 have hsz:(l.length+1)*(bytes+1)≤1099511627776:=by
  have:(l.length+1)*(bytes+1)≤100000*1001:=Nat.mul_le_mul (by omega) (by omega)
  omega
 obtain⟨v',h',b1,b2,b3,b4⟩:=a.pU hT (m:=1) (new:=[x1,x2,x3,x4]) (by omega) rfl o hsz h0 e0 hn0
 exact⟨v',h',b1,by simpa using b2,(hc.snoc r).ab kR b3.ab,b3,b4⟩
end Go.Id

namespace Go.Id
open Go
end Go.Id

namespace Go.Id
open Go
end Go.Id

namespace Go.Id
open Go
def oW (r:fa) (c:Code):fa:={ r with state:=.done,pending:=some c }
@[reducible] def S6 (k:Nat) (r:fa) (K:Value→IH→Prop) (e:bd) (_:Fr) (h:IH):Prop :=
 h.ext.get k=some (.loop (kh r))∧match e with
  | .normal=>K (.bool true) (h.put k (.loop r))
  | .exit i=>K (.bool false) (h.put k (.loop (oW r (.exit i))))
  | .ret=>K (.bool false) (h.put k (.loop (oW r .ret)))
@[reducible] def Ox (P:Program) (k:Nat) (r:fa) (K:Value→IH→Prop) (e:bd) (fr:Fr) (h:IH):Prop :=
 e=.normal∧h.ext.get k=some (.loop r)∧Do (wpC P r.fn r.nt (some k) r.body fr (h.put k (.loop (kh r)))) (S6 k r K) nx
theorem HF {P:Program} {k:Nat} {r:fa} {p:Tmp} (hst:r.state=.ready) (hpe:r.pending=none) (hps:r.params = [p]) (hp:p<r.nt) (v:Value) (h:IH) (K:Value→IH→Prop) (hg:h.ext.get k=some (.loop r))
  (w:wpC P r.fn r.nt (some k) r.assign ((p,v) :: r.fr) h (Ox P k r K)):WV P (.func (.yield (2*k)) #[] #[]) [v] h K:=by
 obtain⟨⟨e0,fr0,h0⟩,⟨N0,hN0⟩,he0,hg0,w⟩:=dY w
 simp only at he0 hg0 w hN0
 subst he0
 obtain⟨⟨e,fr,h1⟩,⟨N,hN⟩,hb,hk⟩:=dY w
 simp only at hb hk hN
 have hp':Nat.blt p r.nt=true:=by simp only[Nat.blt,Nat.ble_eq];exact hp
 have e1:(2*k % 2 == 0)=true:=by simp
 have e2:2*k / 2=k:=by omega
 have e3:ef r.nt r.params [v] r.fr=some ((p,v) :: r.fr):=by
  rw[hps];simp[ef,nU,hp']
 have e5:(r.state == LoopState.ready)=true:=by rw[hst];rfl
 have e6:({ h0 with ext:=h0.ext.set k (.loop { r with state:=.busy }) }:IH)=h0.put k (.loop (kh r)):=rfl
 have e7:({ kh r with state:=.ready,pending:=none }:fa)=r:=by
  cases r;simp only at hst hpe;subst hst;subst hpe;rfl
 cases e with
 | normal =>
  refine⟨(.bool true,h1.put k (.loop r)),⟨N0+N+1,fun n hn=>?_⟩,hk⟩
  obtain⟨n,rfl⟩ : ∃m,n=m+1:=⟨n - 1,by omega⟩
  have h2:=hN n (by omega)
  have h3:=hN0 n (by omega)
  show(bif 2*k % 2 == 0 then ct (E0 P) (cI (E0 P) n) n (2*k / 2) ((#[]:Array Value).toList ++ [v]) h else none)=_
  rw[e1,cond_true,e2]
  simp only[ct,bH hg,e3,h3,bH hg0,e5,cond_true,e6,h2,bH hb,List.nil_append]
  rw[e7];rfl
 | exit i =>
  refine⟨(.bool false,h1.put k (.loop (oW r (.exit i)))),⟨N0+N+1,fun n hn=>?_⟩,hk⟩
  obtain⟨n,rfl⟩ : ∃m,n=m+1:=⟨n - 1,by omega⟩
  have h2:=hN n (by omega)
  have h3:=hN0 n (by omega)
  show(bif 2*k % 2 == 0 then ct (E0 P) (cI (E0 P) n) n (2*k / 2) ((#[]:Array Value).toList ++ [v]) h else none)=_
  rw[e1,cond_true,e2]
  simp only[ct,bH hg,e3,h3,bH hg0,e5,cond_true,e6,h2,bH hb,List.nil_append]
  rfl
 | ret =>
  refine⟨(.bool false,h1.put k (.loop (oW r .ret))),⟨N0+N+1,fun n hn=>?_⟩,hk⟩
  obtain⟨n,rfl⟩ : ∃m,n=m+1:=⟨n - 1,by omega⟩
  have h2:=hN n (by omega)
  have h3:=hN0 n (by omega)
  show(bif 2*k % 2 == 0 then ct (E0 P) (cI (E0 P) n) n (2*k / 2) ((#[]:Array Value).toList ++ [v]) h else none)=_
  rw[e1,cond_true,e2]
  simp only[ct,bH hg,e3,h3,bH hg0,e5,cond_true,e6,h2,bH hb,List.nil_append]
  rfl
def D2 (k:Nat) (r:fa) (fr:Fr) (Q:bd→Fr→IH→Prop) (h1:IH):Prop :=
 (h1.ext.get k=some (.loop r)∧Q .normal fr (h1.put k .dead))∨(∃i,h1.ext.get k=some (.loop (oW r (.exit i)))∧Q (.exit i) fr (h1.put k .dead))∨(h1.ext.get k=some (.loop (oW r .ret))∧Q .ret fr (h1.put k .dead))
theorem Kg {P:Program} {fn:FuncId} {nt:Nat} {rd:Option Nat} {f:Operand} {p:Tmp} {assign body:Code} {fr:Fr} {h:IH} {Q:bd→Fr→IH→Prop} {fv:Value} (hf:opd fr f=some fv) (hrd:pz h rd=true) (hp:p<nt)
  (w : ∀(r:fa) (y:Value),r.fn=fn→r.nt=nt→r.body=body→(∀v h1 K,h1.ext.get h.n=some (.loop r)→Do (wpC P fn nt (some h.n) assign ((p,v) :: fr) h1) (Ox P h.n r K) nx→WV P y [v] h1 K) →
   WV P fv [y] (h.new (.loop r)) fun _ h1=>D2 h.n r fr Q h1) :
  Do (pf P fn nt rd f #[p] assign body fr h) Q nx:=by
 have w1:=w { state:=.ready,pending:=none,fn,nt,fr,params:=[p],assign:=assign,body } (.func (.yield (2*h.n)) #[] #[]) rfl rfl rfl
  fun v h1 K hg w=>HF (r:={ state:=.ready,pending:=none,fn,nt,fr,params:=[p],assign:=assign,body }) rfl rfl rfl hp v h1 K hg w
 obtain⟨⟨v,h1⟩,⟨N,hN⟩,hq⟩:=w1
 have st : ∀(r:fa) (e:bd),iy h1 h.n=some r→(r.state == LoopState.busy)=false→tT r.pending=some e → ∀n,N≤n→jK (E0 P) (cI (E0 P) n) fn nt rd f [p] assign body fr h=some (e,fr,h1.put h.n .dead):=by
  intro r e h3 h4 h5 n hn
  have h2:=hN n hn
  simp only at h2
  simp only[jK,hrd,cond_true,hf]
  show(match cI (E0 P) n fv [_] _ with|none=>none|some (_,h1)=>_)=_
  rw[h2]
  simp only[h3,h4,cond_false,h5]
  rfl
 rcases hq with⟨hg,hq⟩|⟨i,hg,hq⟩|⟨hg,hq⟩
 ·exact⟨(.normal,fr,h1.put h.n .dead),⟨N,fun n hn=>st _ _ (bH hg) rfl rfl n hn⟩,hq⟩
 ·exact⟨(.exit i,fr,h1.put h.n .dead),⟨N,fun n hn=>st _ _ (bH hg) rfl rfl n hn⟩,hq⟩
 ·exact⟨(.ret,fr,h1.put h.n .dead),⟨N,fun n hn=>st _ _ (bH hg) rfl rfl n hn⟩,hq⟩
end Go.Id

namespace Go.Id
open Go
theorem aF.Kl {a b:IH} (g:aF a b) {k:Nat} (hk : ∀c e f,b.ext.get k=some (.cells c e f)→e=0) (o:bB):aF a (b.put k o):=⟨g.n,g.base,fun j c e f1 hj hg he=>by
 obtain⟨f2,h2⟩:=g.get j c e f1 hj hg he
 refine⟨f2,?_⟩
 rw[hH,if_neg]
 ·exact h2
 ·rintro rfl;exact he (hk _ _ _ h2)⟩
end Go.Id

namespace Go.Id
open Go
theorem KE (P:Program) (h:IH) (ts:Array TypeId) (k:IntKind) (a b:Int):builtin P h .min ts [.int k a,.int k b]=some (.int k (if b<a then b else a),h):=by
 have h1:ar P (Builtin.min_ ts 0 #[.int k a,.int k b])=some (.int k (if b<a then b else a)):=by
  unfold Builtin.min_
  simp
  rfl
 show(bif [Value.int k a,Value.int k b].all plain then (cG P (Builtin.min_ ts 0 #[.int k a,.int k b])).map (·,h) else none)=_
 simp only[cG,h1]
 rfl
end Go.Id

namespace Go.Id
open Go
end Go.Id

namespace Go.Id
open Go
end Go.Id

namespace Go.Id
open Go
theorem Kb (l:List (Nat×Nat)) (p:Nat×Nat):shL (l ++ [p])=shL l ++ shC p.1 p.2:=by simp[shL]
theorem Acc.Nl {h:IH} {n0 sz:Nat} {v:Value} {n:Nat} {cs:List Value} (a:Acc h n0 sz v n cs) {k:Nat} {r:fa} (hr:h.ext.get k=some (.loop r)) (o:bB):Acc (h.put k o) n0 sz v n cs:=by
 obtain⟨hz,hl,a|⟨kk,fam,rfl,hn,q1,q2,q3,q4⟩⟩:=a
 ·exact⟨hz,hl,.inl a⟩
 ·refine⟨hz,hl,.inr ⟨kk,fam,rfl,hn,q1,q2,?_,?_⟩⟩
  ·rw[ae _ _ (by rintro rfl;rw[hr] at q3;cases q3)];exact q3
  ·cases fam<;>exact q4
end Go.Id

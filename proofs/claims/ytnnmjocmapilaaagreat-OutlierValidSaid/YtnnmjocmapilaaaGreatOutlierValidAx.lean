/-
  Contracts: the program's shares: read, told, checked.
-/
import Derived.Test.YtnnmjocmapilaaaGreatOutlierValidAw
set_option linter.unusedVariables false
set_option linter.unusedSimpArgs false
set_option linter.defProp false
set_option linter.deprecated false
namespace Go.Id
open Go
open Go.Proofs.Tryz (prog)
open Nat renaming reduceAdd→zA,reduceEqDiff→zE,reduceLeDiff→zL
set_option maxHeartbeats 16000000
def shC (n d:Nat):List Value:=wdC n ++ wdC d
def shV (n d:Nat):Value:=.agg (shC n d).toArray
theorem au (n d:Nat):(shC n d).length=16:=by simp[shC,ar]
theorem aY (n d:Nat):(shC n d).all aA=true:=by simp only[shC,List.all_append,cb,Bool.and_self]
theorem aB (n d:Nat):(shV n d).cells.toList=shC n d:=rfl
theorem aO (n d:Nat):List.take 16 (List.drop 0 (shC n d))=shC n d:=by rw[List.drop_zero,List.take_of_length_le (by rw[au];omega)]
theorem uB (n d:Nat):List.take 8 (List.drop 0 (shC n d))=wdC n:=by rw[List.drop_zero,shC,List.take_append_of_le_length (by rw[ar];omega),List.take_of_length_le (by rw[ar];omega)]
theorem uA (n d:Nat):List.take 8 (List.drop 8 (shC n d))=wdC d:=by rw[shC,List.drop_append_of_le_length (by rw[ar];omega),List.drop_of_length_le (by rw[ar];omega),List.nil_append,List.take_of_length_le (by rw[ar];omega)]
abbrev Z16:List Value:=[ZW,ZW,ZW,ZW,ZW,ZW,ZW,ZW,ZW,ZW,ZW,ZW,ZW,ZW,ZW,ZW]
theorem Pz (n:Nat):IH.aG Z16 0 (wdC n)=shC n 0:=by
 rw[IH.aG,List.take_zero,List.nil_append,ar,shC,lP];rfl
theorem Py (n d:Nat):IH.aG (shC n 0) 8 (wdC d)=shC n d:=by
 rw[IH.aG,ar,shC,List.take_append_of_le_length (by rw[ar];omega),List.take_of_length_le (by rw[ar];omega),List.drop_of_length_le (by simp[ar]),List.append_nil];rfl
theorem bC (n d:Nat):IH.aG Z16 0 (shC n d)=shC n d:=iI (by rw[au];rfl)
theorem SW:Z16=shC 0 0:=by rw[shC,lP];rfl
theorem uz:Value.agg #[ZW,ZW,ZW,ZW,ZW,ZW,ZW,ZW,ZW,ZW,ZW,ZW,ZW,ZW,ZW,ZW]=shV 0 0:=by rw[shV,←SW]
theorem Kj:List.take 16 (List.drop 0 Z16)=Z16:=rfl
abbrev hZ (q:Rat):Value:=shV (aV q.num) (aV q.den)
def QW (q:Rat):Prop:=InW q.num∧InW (q.den:Int)
theorem KY {P:Program} {H0 hi:IH} {t:TypeId} {k o:Nat} {v:Value} (hv:load P H0 t (ptr (2*k) o)=some v) (hb:k<H0.n) (e:Ext H0 hi):load P hi t (ptr (2*k) o)=some v:=(zV (by omega) e).trans hv
theorem psh {H:IH} {k:Nat} {n d:Nat} (g:H.ext.get k=some (.cells (shC n d) 0 none)):load prog H 30 (ptr (2*k) 0)=some (wdV n)∧load prog H 30 (ptr (2*k) 8)=some (wdV d)∧load prog H 32 (ptr (2*k) 0)=some (shV n d):=by
 have r:=aj g
 refine⟨?_,?_,?_⟩
 ·simp -dsimp (disch:=omega) only[wpS,zL,eV,r,au,uB]
  rfl
 ·simp -dsimp (disch:=omega) only[wpS,zL,zA,eV,r,au,uA]
  rfl
 ·simp -dsimp (disch:=omega) only[wpS,zL,r,au,aO,bY]
  rfl
theorem cW {h:IH} (n d:Nat) (hn:n<W8) (hd:d<W8):WV prog (.func (.func 156) #[] #[]) [shV n d] h fun r h'=>Ext h h'∧rp h' r (wdI n) (wdI d):=by
 refine enter (nt:=10) (rs:=[.cell 2 137]) Proofs.Tryz.func156 rfl rfl rfl (by simp) ?_
 simp -dsimp (disch:=omega) only[wpS,dr,aB]
 obtain⟨H0,hH0,n0,E0,g0,g1⟩:=dY h (shC n d) ZR
 rw[←hH0]
 clear hH0
 have X0:=Ext.refl H0
 obtain⟨L1,L2,_⟩:=psh g0
 refine drawn [(4,[2])] (by kernel_rfl) (by kernel_rfl) rfl ?_
 simp -dsimp (disch:=omega) only[wpS,zE,zL,Jq,eV,aj g0,au,uB]
 refine call (jb n hn) ?_
 rintro r1 h1 ⟨X1,p1⟩
 have m1:=X1.n
 simp -dsimp (disch:=omega) only[wpS,zE,zL,zA,eV,Jp,aj (X1.kept (by omega) g0),au,uA]
 refine call (jb d hd) ?_
 rintro r2 h2 ⟨hE2,p2⟩
 have m2:=hE2.n
 have X2:=X1.trans hE2
 obtain⟨s1,rfl,c1,o1⟩:=p1.cg
 obtain⟨s2,rfl,c2,o2⟩:=p2.cg
 have kg:=X2.kept (by omega) g1
 simp -dsimp (disch:=omega) only[wpS,wpT,zE,zL,zA,LZ,yp,yo,cQ,kg,o1,o2]
 refine⟨by repeat' first|refine ay ?_ ?_|refine az ?_ ?_|exact ad rfl rfl rfl rfl (aT (H0:=H0) rfl (by omega) (by assumption) (by assumption) (by with_reducible assumption)),?_⟩
 simp -dsimp (disch:=try exact dx) only[wpS,wpT,zE,zL,zA,fA,fg]
 have kp:=(aJ.refl h2).put kg (.cells [.bool (decide (wdI n<0)),s1,.bool (decide (wdI d<0)),s2] 0 none)
 exact⟨(E0.trans X2).put (by omega) _,_,_,_,_,rfl,p1.aa (hE2.aa.trans kp),p2.aa kp⟩
theorem uD {h:IH} {v:Value} {q:Rat} (hv:bg h v q):WV prog (.func (.func 132) #[] #[]) [v] h fun r h'=>Ext h h'∧r=(open Classical in if QW q then .tuple #[hZ q,KI 0] else .tuple #[shV 0 0,KI 6]):=by
 obtain⟨a1,s1,b1,t1,rfl,hn1,hd1,c1,o1,c2,o2,o3,o4⟩:=hv.parts
 refine enter (nt:=30) (rs:=[.cell 2 32,.tmp 3]) Proofs.Tryz.func132 rfl rfl rfl (by simp) ?_
 simp -dsimp (disch:=try exact dx) only[wpS,wpT,zE,zL,zA,gC,fM,bE]
 obtain⟨H0,hH0,n0,E0,g0,g1⟩:=dY h [a1,s1,b1,t1] Z16
 rw[←hH0]
 clear hH0
 simp -dsimp (disch:=try exact dx) only[tkA]
 refine call (qA (hn1.aa E0.aa)) ?_
 rintro _ h1 ⟨X1,rfl⟩
 have m1:=X1.n
 obtain⟨w1,e1,hw⟩ : ∃w1 e1,(if InW q.num then Value.tuple #[pH q.num,KI 0] else .tuple #[wdV 0,KI 6])=.tuple #[wdV w1,KI e1]∧(InW q.num∧w1=aV q.num∧e1=0 ∨ ¬InW q.num∧e1=6):=by
  by_cases hi:InW q.num
  ·exact⟨_,0,by rw[if_pos hi],.inl ⟨hi,rfl,rfl⟩⟩
  ·exact⟨0,6,by rw[if_neg hi],.inr ⟨hi,rfl⟩⟩
 rw[hw.1]
 have k0:=X1.kept (by omega) g0
 have k1:=X1.kept (by omega) g1
 simp -dsimp (disch:=omega) only[wpS,wpT,zE,zL,zA,bE,nh,kK,gX,cD,ar,cb,ev,aj k0,tkA,tkB]
 obtain⟨H2,hH2⟩:=aP ((h1.new (.cells [ZW,ZW,ZW,ZW,ZW,ZW,ZW,ZW] 0 none)).put h1.n (.cells (wdC w1) 0 none))
 have e2:Ext h1 H2:=by rw[hH2];exact((Ext.refl _).new _).put (Nat.le_refl _) _
 have n2:H2.n=h1.n+1:=by rw[hH2];rfl
 have ga:H2.ext.get h1.n=some (.cells (wdC w1) 0 none):=by rw[hH2];simp (disch:=omega) only[ae]
 have k1':=e2.kept (by omega) k1
 rw[←hH2]
 clear hH2
 refine call (qA (hd1.aa ((E0.trans X1).trans e2).aa)) ?_
 rintro _ h3 ⟨X3,rfl⟩
 have m3:=X3.n
 obtain⟨w2,f2,hw2⟩ : ∃w1 e1,(if InW (q.den:Int) then Value.tuple #[pH q.den,KI 0] else .tuple #[wdV 0,KI 6])=.tuple #[wdV w1,KI e1]∧(InW (q.den:Int)∧w1=aV q.den∧e1=0 ∨ ¬InW (q.den:Int)∧e1=6):=by
  by_cases hi:InW (q.den:Int)
  ·exact⟨_,0,by rw[if_pos hi],.inl ⟨hi,rfl,rfl⟩⟩
  ·exact⟨0,6,by rw[if_neg hi],.inr ⟨hi,rfl⟩⟩
 rw[hw2.1]
 have ga3:=X3.kept (by omega) ga
 have k3:=X3.kept (by omega) k1'
 have xx:=((E0.trans X1).trans e2).trans X3
 rcases hw.2 with⟨i1,rfl,rfl⟩|⟨i1,rfl⟩
 ·rcases hw2.2 with⟨i2,rfl,rfl⟩|⟨i2,rfl⟩
  ·rw[if_pos (show QW q from⟨i1,i2⟩)]
   simp -dsimp (disch:=omega) only[wpS,wpT,zE,zL,zA,nh,kK,Ej,ed,eV,Qa,P9,bY,cD,ar,cb,ev,aj ga3,k3,bS,Pz,Py,bC,au,aY,aO]
   exact⟨(((xx.new _).put (by omega) _).put (by omega) _),rfl⟩
  ·rw[if_neg (show ¬QW q from fun h=>i2 h.2)]
   simp -dsimp (disch:=omega) only[wpS,wpT,zE,zL,zA,nh,kK,Ej,ed,bY,cD,ar,cb,ev,k3,Kj]
   exact⟨(((xx.new _).put (by omega) _).put (by omega) _),by rw[uz]⟩
 ·rw[if_neg (show ¬QW q from fun h=>i1 h.1)]
  simp -dsimp (disch:=omega) only[wpS,wpT,zE,zL,zA,nh,kK,Ej,ed,bY,cD,ar,cb,ev,k3,Kj]
  exact⟨(((xx.new _).put (by omega) _).put (by omega) _),by rw[uz]⟩
def okS (n d:Nat):Prop:=0<wdI d∧Int.gcd (wdI n) (wdI d)=1
instance (n d:Nat):Decidable (okS n d):=by unfold okS;infer_instance
theorem fZ {n:Nat} (hn:n<W8):aU (wdI n):=by
 refine Wf ?_
 have h2:=dZ
 unfold wdI InW
 split<;>constructor<;>omega
theorem oO {h:IH} (n d:Nat) (hn:n<W8) (hd:d<W8):WV prog (.func (.func 128) #[] #[]) [shV n d] h fun r h'=>Ext h h'∧r=KI (if okS n d then 0 else 20):=by
 refine enter (nt:=22) (rs:=[.tmp 2]) Proofs.Tryz.func128 rfl rfl rfl (by simp) ?_
 simp -dsimp (disch:=omega) only[wpS,aB]
 have E1:Ext h (h.new (.cells (shC n d) 0 none)):=(Ext.refl h).new _
 have gs:(h.new (.cells (shC n d) 0 none)).ext.get h.n=some (.cells (shC n d) 0 none):=by simp (disch:=omega) only[ah]
 refine call (uO 1 ⟨by omega,by omega⟩) ?_
 rintro _ h1 ⟨X1,p1⟩
 have m1:=X1.n
 simp only[aI] at m1
 obtain⟨s1,rfl,c1,o1⟩:=p1.cg
 have gs1:=X1.kept (by simp) gs
 have e10:decide ((1:Int)<0)=false:=rfl
 rw[e10] at p1 ⊢
 simp -dsimp (disch:=omega) only[wpS,wpT,zE,zL,zA,ju,gu,bY,o1,aj gs1,au,aO]
 obtain⟨H2,hH2⟩:=aP ((h1.new (.cells ZL 0 none)).put h1.n (.cells [.bool false,s1] 0 none))
 have e2:Ext h1 H2:=by rw[hH2];exact((Ext.refl _).new _).put (Nat.le_refl _) _
 have n2:H2.n=h1.n+1:=by rw[hH2];rfl
 have ga:H2.ext.get h1.n=some (.cells [.bool false,s1] 0 none):=by rw[hH2];simp (disch:=omega) only[ae]
 rw[←hH2]
 clear hH2
 refine call (cW n d hn hd) ?_
 rintro _ h3 ⟨X3,a2,s2,b2,t2,rfl,hN,hD⟩
 have m3:=X3.n
 obtain⟨e3,c3,o3⟩:=hN.co
 obtain⟨e4,c4,o4⟩:=hD.co
 subst e3 e4
 simp -dsimp (disch:=omega) only[wpS,wpT,zE,zL,zA,dr,cQ,o3,o4]
 obtain⟨H0,hH0⟩:=aP ((h3.new (.cells ZR 0 none)).put h3.n (.cells [.bool (decide (wdI n<0)),s2,.bool (decide (wdI d<0)),t2] 0 none))
 have e5:Ext h3 H0:=by rw[hH0];exact((Ext.refl _).new _).put (Nat.le_refl _) _
 have n5:H0.n=h3.n+1:=by rw[hH0];rfl
 have gb:H0.ext.get h3.n=some (.cells [.bool (decide (wdI n<0)),s2,.bool (decide (wdI d<0)),t2] 0 none):=by rw[hH0];simp (disch:=omega) only[ae]
 have gc:=e5.kept (by omega) (X3.kept (by omega) ga)
 rw[←hH0]
 clear hH0
 have hN0:=hN.aa e5.aa
 have hD0:=hD.aa e5.aa
 have p10:=p1.aa ((e2.trans X3).trans e5).aa
 have X0:=Ext.refl H0
 obtain⟨L1,L2,_⟩:=pl4 gb
 have L3:=pl2 gc
 have E0:=((((E1.trans X1).trans e2).trans X3).trans e5)
 refine drawn [(10,[9])] (by kernel_rfl) (by kernel_rfl) rfl ?_
 simp -dsimp (disch:=omega) only[wpS,wpT,zE,zL,zA,gX,bE,aj gb,tkB]
 refine call (kD hD0) ?_
 rintro _ h6 ⟨X6,rfl⟩
 have m6:=X6.n
 by_cases hd0:0<wdI d
 ·have hdn:decide (wdI d<0)=false:=decide_eq_false (by omega)
  rw[hdn] at hD0 gb L2
  rw[if_neg (by omega),if_neg (by omega)]
  simp -dsimp (disch:=omega) only[wpS,wpT,zE,zL,zA,gX,bE,fM,aj (X6.kept (by omega) gb),tkA,tkB]
  refine call (tx (hN0.aa X6.aa) (hD0.aa X6.aa) (fZ hn) (fZ hd)) ?_
  rintro g h7 ⟨X7,hg⟩
  have m7:=X7.n
  have X67:=X6.trans X7
  have sg:aU (Int.gcd (wdI n) (wdI d):Int):=iX ((fZ hd).le (Nat.le_of_dvd (by omega) (Nat.gcd_dvd_right _ _)))
  simp -dsimp (disch:=omega) only[wpS,wpT,zE,zL,zA,bE,aj (X67.kept (by omega) gc),qh]
  refine call (Dx hg (p10.aa X67.aa) sg (iX Dg)) ?_
  rintro _ h8 ⟨X8,rfl⟩
  have X68:=X67.trans X8
  have E8:=E0.trans X68
  by_cases hgc:Int.gcd (wdI n) (wdI d)=1
  ·rw[if_neg (by omega),if_pos (by omega),if_pos (show okS n d from⟨hd0,hgc⟩)]
   simp -dsimp (disch:=omega) only[wpS,wpT,zE]
   refine⟨by repeat' first|refine ay ?_ ?_|refine az ?_ ?_|exact ad rfl rfl rfl rfl (aT (H0:=H0) rfl (by omega) (by assumption) (by assumption) (by with_reducible assumption)),?_⟩
   simp -dsimp (disch:=omega) only[wpS,wpT,zE,zA]
   exact E8
  ·rw[if_neg (show ¬okS n d from fun h=>hgc h.2)]
   have hg1 : ¬((Int.gcd (wdI n) (wdI d):Int)<1):=by
    have:=Af (n:=wdI n) (d:=wdI d) (by omega)
    omega
   rw[if_neg hg1,if_neg (by omega)]
   simp -dsimp (disch:=omega) only[wpS,wpT,zE]
   refine⟨by repeat' first|refine ay ?_ ?_|refine az ?_ ?_|exact ad rfl rfl rfl rfl (aT (H0:=H0) rfl (by omega) (by assumption) (by assumption) (by with_reducible assumption)),?_⟩
   simp -dsimp (disch:=omega) only[wpS,wpT,zE,zA]
   exact E8
 ·rw[if_neg (show ¬okS n d from fun h=>hd0 h.1)]
  have E6:=E0.trans X6
  obtain⟨c,hc,hc0⟩ : ∃c:Int,(if wdI d<0 then (-1:Int) else if wdI d=0 then 0 else 1)=c∧c≤0:=⟨_,rfl,by split<;>(try split)<;>omega⟩
  rw[hc]
  simp -dsimp (disch:=omega) only[wpS,wpT,zE,show decide (c≤0)=true from decide_eq_true hc0]
  refine⟨oz rfl rfl rfl,?_⟩
  simp -dsimp (disch:=omega) only[wpS,wpT,zE,zA]
  exact E6
theorem Fy {h:IH} (n d:Nat) (hn:n<W8) (hd:d<W8):WV prog (.func (.func 240) #[] #[]) [shV n d] h fun r h'=>Ext h h'∧r=.bool (decide (okS n d)):=by
 refine enter (nt:=6) (rs:=[.tmp 2]) Proofs.Tryz.func240 rfl rfl rfl (by simp) ?_
 simp -dsimp (disch:=omega) only[wpS,zE,zL,bY,aB,au,aO]
 refine call (oO n d hn hd) ?_
 rintro _ h1 ⟨hE,rfl⟩
 have E1:=((Ext.refl h).new (.cells (shC n d) 0 none)).trans hE
 by_cases hok:okS n d
 ·rw[if_pos hok]
  simp -dsimp (disch:=omega) only[wpS,wpT,zE]
  exact⟨E1,by rw[decide_eq_true hok]⟩
 ·rw[if_neg hok]
  simp -dsimp (disch:=omega) only[wpS,wpT,zE]
  exact⟨E1,by rw[decide_eq_false hok]⟩
def shL (l:List (Nat×Nat)):List Value:=l.flatMap fun p=>shC p.1 p.2
theorem Kk (l:List (Nat×Nat)):(shL l).length=l.length*16:=by
 induction l with
 | nil=>rfl
 | cons a l ih=>rw[shL,List.flatMap_cons,List.length_append,au,←shL,ih,List.length_cons];omega
theorem Wh {l:List (Nat×Nat)} {i:Nat} {p:Nat×Nat} (h:l[i]?=some p):((shL l).drop (i*16)).take 16=shC p.1 p.2:=by
 induction l generalizing i with
 | nil=>simp at h
 | cons a l ih =>
  rw[shL,List.flatMap_cons,←shL]
  cases i with
  | zero =>
   simp at h;subst h
   rw[Nat.zero_mul,List.drop_zero,List.take_append_of_le_length (by rw[au];omega),List.take_of_length_le (by rw[au];omega)]
  | succ i =>
   simp at h
   rw[show(i+1)*16=(shC a.1 a.2).length+i*16 by rw[au];omega,List.drop_length_add_append]
   exact ih h
theorem SY (l:List (Nat×Nat)):(shL l).all aA=true:=by
 induction l with
 | nil=>rfl
 | cons a l ih=>rw[shL,List.flatMap_cons,List.all_append,aY,←shL,ih];rfl
def iT (h:IH) (v:Value) (l:List (Nat×Nat)):Prop:=bJ h 16 v l.length (shL l)∧l.length<1152921504606846976 ∧ ∀p∈l,p.1<W8∧p.2<W8
theorem iT.aa {h h':IH} {v:Value} {l:List (Nat×Nat)} (s:iT h v l) (e:aJ h h'):iT h' v l:=⟨s.1.aa e,s.2⟩
theorem iT.ld {h h':IH} {v:Value} {l:List (Nat×Nat)} (s:iT h v l) (e:aJ h h') {i:Nat} {p:Nat×Nat} (hi:l[i]?=some p):load prog h' 32 (aM v (i*16))=some (shV p.1 p.2):=by
 have hl:i<l.length:=(List.getElem?_eq_some_iff.1 hi).1
 rw[s.1.Cb e (by rw[Kk];omega) (by omega) ag32 V8,Wh hi];rfl
theorem Px {h:IH} {v:Value} {l:List (Nat×Nat)} (hv:iT h v l):WV prog (.func (.func 241) #[] #[]) [(.func (.func 240) #[] #[]),v] h fun r h'=>Ext h h'∧r=.bool (decide (∀p∈l,okS p.1 p.2)):=by
 refine enter (nt:=18) (rs:=[.tmp 4]) Proofs.Tryz.func241 rfl rfl rfl (by simp) ?_
 simp -dsimp (disch:=omega) only[wpS,zE,zA,hv.1.len uu]
 refine loop (fun m fr h1 => ∃i:Nat,i+m=l.length∧Ext h h1∧(∀j p,j<i→l[j]?=some p→okS p.1 p.2)∧ab fr 0=some (.func (.func 240) #[] #[])∧ab fr 7=some v∧ab fr 8=some (KN l.length)∧ab fr 9=some (KN i)) l.length
  ⟨0,by omega,Ext.refl _,fun j p hj=>by omega,by simp⟩ ?_
 rintro m fr h1 ⟨i,him,hE,hok,f0,f7,f8,f9⟩
 simp -dsimp (disch:=omega) only[wpS,f8,f9]
 refine aq ?_ ?_<;>intro hc<;>simp only[decide_eq_true_eq,decide_eq_false_iff_not] at hc
 ·have hi:i<l.length:=by omega
  obtain⟨p,hp⟩:=il (l:=l) (i:=i) hi
  have hpm:=List.mem_of_getElem? hp
  obtain⟨w1,w2⟩:=hv.2.2 p hpm
  have hlb:=hv.2.1
  simp -dsimp (disch:=omega) only[wpS,wpT,zE,zL,zA,bY,gC,ed,f0,f7,f9,hv.1.idx x8 hi,hv.ld hE.aa hp,aB,au,aY,bC,aO]
  refine call (Fy p.1 p.2 w1 w2) ?_
  rintro _ h2 ⟨hE2,rfl⟩
  have E2:=((hE.new (.cells Z16 0 none)).put hE.n (.cells (shC p.1 p.2) 0 none)).trans hE2
  by_cases hk:okS p.1 p.2
  ·rw[decide_eq_true hk]
   simp -dsimp (disch:=omega) only[wpS,wpT,zE,f9]
   refine⟨m - 1,by omega,i+1,by omega,E2,?_,by simp[f0,f7,f8]⟩
   intro j q hj hq
   by_cases hji:j=i
   ·subst hji;rw[hp] at hq;cases hq;exact hk
   ·exact hok j q (by omega) hq
  ·rw[decide_eq_false hk]
   simp -dsimp (disch:=omega) only[wpS,wpT,zE]
   refine⟨E2,?_⟩
   rw[decide_eq_false fun ef=>hk (ef p hpm)]
 ·simp -dsimp (disch:=omega) only[wpS,wpT]
  refine⟨hE,?_⟩
  rw[decide_eq_true]
  intro p hp
  obtain⟨j,hj⟩:=List.getElem?_of_mem hp
  have:=(List.getElem?_eq_some_iff.1 hj).1
  exact hok j p (by omega) hj
theorem tk {h:IH} {v:Value} {l:List (Nat×Nat)} (hv:iT h v l):WV prog (.func (.func 188) #[] #[]) [v] h fun r h'=>Ext h h'∧r=.bool (decide (∀p∈l,okS p.1 p.2)):=by
 refine enter (nt:=7) (rs:=[.tmp 2]) Proofs.Tryz.func188 rfl rfl rfl (by simp) ?_
 simp -dsimp (disch:=omega) only[wpS,zE]
 refine call (Px hv) ?_
 rintro _ h1 ⟨hE,rfl⟩
 simp -dsimp (disch:=omega) only[wpS,wpT,zE]
 exact hE
theorem uc {h:IH} {v:Value} {n:Int} (hv:a9 h v n):WV prog (.func (.func 131) #[] #[]) [v] h fun r h'=>Ext h h'∧bg h' r (n:Rat):=by
 obtain⟨s,rfl,c1,o1⟩:=hv.cg
 refine enter (nt:=6) (rs:=[.cell 2 137]) Proofs.Tryz.func131 rfl rfl rfl (by simp) ?_
 simp -dsimp (disch:=omega) only[wpS,dr]
 obtain⟨H0,hH0,n0,E0,g0,g1⟩:=dY h [.bool (decide (n<0)),s] ZR
 rw[←hH0]
 clear hH0
 have X0:=Ext.refl H0
 have L1:=pl2 g0
 refine drawn [(0,[3])] (by kernel_rfl) (by kernel_rfl) rfl ?_
 simp -dsimp (disch:=omega) only[wpS,wpT,zE,zL,zA,bE,aj g0,qh]
 refine call (uO 1 ⟨by omega,by omega⟩) ?_
 rintro _ h1 ⟨X1,p1⟩
 have m1:=X1.n
 obtain⟨s1,rfl,c2,o2⟩:=p1.cg
 have kg:=X1.kept (by omega) g1
 simp -dsimp (disch:=omega) only[wpS,wpT,zE,zL,zA,LZ,yp,yo,cQ,kg,o1,o2]
 refine⟨by repeat' first|refine ay ?_ ?_|refine az ?_ ?_|exact ad rfl rfl rfl rfl (aT (H0:=H0) rfl (by omega) (by assumption) (by assumption) (by with_reducible assumption)),?_⟩
 simp -dsimp (disch:=omega) only[wpS,wpT,zE,zL,zA,fA,fg]
 have kp:=(aJ.refl h1).put kg (.cells [.bool (decide (n<0)),s,.bool false,s1] 0 none)
 exact⟨(E0.trans X1).put (by omega) _,_,_,_,_,rfl,hv.aa ((E0.trans X1).aa.trans kp),p1.aa kp⟩
theorem eH {h:IH} (n:Int) (hn:fR n):WV prog (.func (.func 75) #[] #[]) [KI n] h fun r h'=>Ext h h'∧bg h' r (n:Rat):=by
 refine enter (nt:=6) (rs:=[.cell 2 137]) Proofs.Tryz.func75 rfl rfl rfl (by simp) ?_
 simp -dsimp (disch:=omega) only[wpS,zE,dr]
 have E1:Ext h (h.new (.cells ZR 0 none)):=(Ext.refl h).new _
 have g1:(h.new (.cells ZR 0 none)).ext.get h.n=some (.cells ZR 0 none):=by simp (disch:=omega) only[ah]
 refine call (uO n hn) ?_
 rintro _ h1 ⟨X1,p1⟩
 simp -dsimp (disch:=omega) only[wpS,zE]
 refine call (uc p1) ?_
 rintro _ h2 ⟨X2,p2⟩
 have m1:=X1.n
 have m2:=X2.n
 simp only[aI] at m1
 obtain⟨a3,s3,b3,t3,rfl,_,_,d1,o1,d2,o2,o3,o4⟩:=p2.parts
 have kg:=X2.kept (by omega) (X1.kept (by simp) g1)
 simp -dsimp (disch:=omega) only[wpS,wpT,zE,zL,zA,cQ,fA,kg,o1,o2,o3,o4,fg]
 exact⟨((E1.trans X1).trans X2).put (by omega) _,p2.aa ((aJ.refl _).put kg _)⟩
theorem kX {d:Nat} (hd:d<W8):wdI d=0↔d=0:=by
 have h2:=dZ
 have h3:=gU
 unfold wdI
 split<;>omega
theorem BE {h:IH} (n d:Nat) (hn:n<W8) (hd:d<W8) (d0:d≠0):WV prog (.func (.func 189) #[] #[]) [wdV n,wdV d] h fun r h'=>Ext h h'∧r=(open Classical in if QW (Rat.divInt (wdI n) (wdI d)) then .tuple #[hZ (Rat.divInt (wdI n) (wdI d)),KI 0] else .tuple #[shV 0 0,KI 6]):=by
 refine enter (nt:=18) (rs:=[.cell 4 32,.tmp 5]) Proofs.Tryz.func189 rfl rfl rfl (by simp) ?_
 simp -dsimp (disch:=try exact dx) only[wpS,wpT,zE,zL,zA,gC,eV,Ek,cD,ar]
 obtain⟨H0,hH0,n0,E0,g0,g1,g2⟩:=fP h (wdC n) (wdC d) Z16
 rw[←hH0]
 clear hH0
 have X0:=Ext.refl H0
 have L2:load prog H0 30 (ptr (2*(h.n+1)) 0)=some (wdV d):=by
  simp -dsimp (disch:=try exact dx) only[wpS,zL,eV,aj g1,ar,bS]
  rfl
 have hz:binop prog .eql 30 (.tmp 6) (.tmp 7) (.agg (wdC d).toArray) (.agg #[ZW,ZW,ZW,ZW,ZW,ZW,ZW,ZW])=some (.bool false):=by
  rw[mF,wdV,O5 hd (by have:=dZ;have:=gU;omega)]
  rw[decide_eq_false d0]
 have hdI:wdI d≠0:=fun h=>d0 ((kX hd).1 h)
 simp -dsimp (disch:=try exact dx) only[wpS,zE,bS,hz]
 refine drawn [(2,[1])] (by kernel_rfl) (by kernel_rfl) rfl ?_
 simp -dsimp (disch:=omega) only[wpS,zE,zL,eV,aj g0,ar,bS]
 refine call (jb n hn) ?_
 rintro r1 h1 ⟨X1,p1⟩
 have m1:=X1.n
 simp -dsimp (disch:=omega) only[wpS,zE,zL,eV,aj (X1.kept (by omega) g1),ar,bS]
 refine call (jb d hd) ?_
 rintro r2 h2 ⟨hE2,p2⟩
 have X2:=X1.trans hE2
 have m2:=hE2.n
 simp -dsimp (disch:=omega) only[wpS,zE]
 refine call (rL (p1.aa hE2.aa) p2 (fZ hn) (fZ hd) hdI) ?_
 rintro r3 h3 ⟨hE3,p3⟩
 have X3:=X2.trans hE3
 have m3:=hE3.n
 simp -dsimp (disch:=omega) only[wpS,zE]
 refine call (uD p3) ?_
 rintro _ h4 ⟨hE4,rfl⟩
 have X4:=X3.trans hE4
 have m4:=hE4.n
 have kg:=X4.kept (by omega) g2
 by_cases hq:QW (Rat.divInt (wdI n) (wdI d))
 ·rw[if_pos hq]
  simp -dsimp (disch:=omega) only[wpS,wpT,zE,zL,zA,ed,kg,aB,au,aY,bC]
  refine⟨by repeat' first|refine ay ?_ ?_|refine az ?_ ?_|exact ad rfl rfl rfl rfl (aT (H0:=H0) rfl (by omega) (by assumption) (by assumption) (by with_reducible assumption)),?_⟩
  simp -dsimp (disch:=omega) only[wpS,wpT,zE,zL,zA,bY,au,aO]
  exact⟨(E0.trans X4).put (by omega) _,rfl⟩
 ·rw[if_neg hq]
  simp -dsimp (disch:=omega) only[wpS,wpT,zE,zL,zA,ed,kg,aB,au,aY,bC]
  refine⟨by repeat' first|refine ay ?_ ?_|refine az ?_ ?_|exact ad rfl rfl rfl rfl (aT (H0:=H0) rfl (by omega) (by assumption) (by assumption) (by with_reducible assumption)),?_⟩
  simp -dsimp (disch:=omega) only[wpS,wpT,zE,zL,zA,bY,au,aO]
  exact⟨(E0.trans X4).put (by omega) _,rfl⟩
theorem kL {n d:Int} (hn:fR n) (hd:fR d) (d0:d≠0):QW (Rat.divInt n d):=by
 have h3:=tY
 have q:=QB.divInt (k:=63) d0 (n:=n) (by have:=hn.1;have:=hn.2;omega) (by have:=hd.1;have:=hd.2;omega)
 obtain⟨q1,q2⟩:=q
 have e:2 ^ 63=9223372036854775808:=by decide
 rw[e] at q1 q2
 exact⟨⟨by omega,by omega⟩,⟨by omega,by omega⟩⟩
theorem jy {n:Int} (hn:fR n):InW n:=by
 have h3:=tY
 exact⟨by have:=hn.1;omega,by have:=hn.2;omega⟩
theorem VS {n:Int} (hn:fR n) (h0:n≠0):aV n≠0:=by
 have hw:=jy hn
 have:=cm hw
 intro h
 rw[h] at this
 have h2:=gU
 unfold wdI at this
 rw[if_pos h2] at this
 omega
theorem Kh {h:IH} (n d:Int) (hn:fR n) (hd:fR d) (d0:d≠0):WV prog (.func (.func 88) #[] #[]) [KI n,KI d] h fun r h'=>Ext h h'∧r=.tuple #[hZ (Rat.divInt n d),KI 0]:=by
 refine enter (nt:=13) (rs:=[.cell 4 32,.tmp 5]) Proofs.Tryz.func88 rfl rfl rfl (by simp) ?_
 simp -dsimp (disch:=omega) only[wpS,zE,zA,gC]
 have E1:Ext h (h.new (.cells Z16 0 none)):=(Ext.refl h).new _
 have g1:(h.new (.cells Z16 0 none)).ext.get h.n=some (.cells Z16 0 none):=by simp (disch:=omega) only[ah]
 refine call (nI n hn) ?_
 rintro _ h1 ⟨X1,rfl⟩
 simp -dsimp (disch:=omega) only[wpS,zE]
 refine call (nI d hd) ?_
 rintro _ h2 ⟨X2,rfl⟩
 simp -dsimp (disch:=omega) only[wpS,zE]
 refine call (BE (aV n) (aV d) (dR (jy hn)) (dR (jy hd)) (VS hd d0)) ?_
 rintro _ h3 ⟨X3,rfl⟩
 rw[cm (jy hn),cm (jy hd),if_pos (kL hn hd d0)]
 have m1:=X1.n
 have m2:=X2.n
 have m3:=X3.n
 simp only[aI] at m1
 have kg:=X3.kept (by omega) (X2.kept (by omega) (X1.kept (by simp) g1))
 simp -dsimp (disch:=omega) only[wpS,wpT,zE,zL,zA,ed,bY,kg,aB,au,aY,bC,aO]
 exact⟨(((E1.trans X1).trans X2).trans X3).put (by omega) _,rfl⟩
end Go.Id
namespace Go.Id
open Go
theorem gL:Kept bg:=fun _ _ _ _ r e=>r.aa e
def rOf (p:Nat×Nat):Rat:=Rat.divInt (wdI p.1) (wdI p.2)
theorem dC {p:Nat×Nat} (h:okS p.1 p.2):(rOf p).num=wdI p.1∧((rOf p).den:Int)=wdI p.2:=by
 obtain⟨h1,h2⟩:=h
 obtain⟨a,b⟩:=mP (n:=wdI p.1) h1
 rw[h2] at a b
 simp only[Int.natCast_one,Int.ediv_one] at a b
 exact⟨a.symm,b.symm⟩
abbrev Sh (l:List (Nat×Nat)):Prop:=∀p∈l,okS p.1 p.2
noncomputable def gY (q:Rat):Value:=open Classical in if QW q then .tuple #[hZ q,KI 0] else .tuple #[shV 0 0,KI 6]
theorem lV (q:Rat) : ∃n d e,gY q=.tuple #[shV n d,KI e]:=by
 unfold gY
 by_cases h:QW q
 ·exact⟨_,_,0,by rw[if_pos h]⟩
 ·exact⟨0,0,6,by rw[if_neg h]⟩
theorem jm {p:Nat×Nat} (h1:p.1<W8) (h2:p.2<W8) (ok:okS p.1 p.2):QB 512 (rOf p):=by
 obtain⟨e1,e2⟩:=dC ok
 have hw:W8=2 ^ 512:=by decide +kernel
 have a1:=fZ h1
 unfold QB
 have k1:(wdI p.1).natAbs≤2 ^ 512:=by
  rw[←hw]
  unfold wdI
  have:=dZ
  split<;>omega
 have k2:wdI p.2≤((2 ^ 512:Nat):Int):=by
  rw[←hw]
  unfold wdI
  have:=dZ
  split<;>omega
 generalize (2 ^ 512:Nat)=B at *
 refine⟨by rw[e1];exact k1,by omega⟩
def shq (q:Rat):Nat×Nat:=(aV q.num,aV q.den)
theorem nk {q:Rat} (h:QW q):(shq q).1<W8∧(shq q).2<W8:=⟨dR h.1,dR h.2⟩
theorem fh (q:Rat):hZ q=shV (shq q).1 (shq q).2:=rfl
theorem cK {q:Rat} (h:QW q):rOf (shq q)=q∧okS (shq q).1 (shq q).2:=by
 have e1:wdI (shq q).1=q.num:=cm h.1
 have e2:wdI (shq q).2=(q.den:Int):=cm h.2
 refine⟨?_,?_,?_⟩
 ·unfold rOf;rw[e1,e2,Rat.num_divInt_den]
 ·rw[e2];have:=q.den_pos;omega
 ·rw[e1,e2];have:=q.reduced;exact this
theorem JF {h:IH} (a b c d:Nat):buildSlice Proofs.Tryz.prog h 61 2 [(0,shV a b),(1,shV c d)]=some (.slice (some ⟨2*h.n,0,none⟩) 2 5,h.new (.cells (shL [(a,b),(c,d)]) 16 none)):=by
 rw[Hm h 2 _ (by decide)]
 have e:cd (fun i=>some (i*16,16)) (bq 2 [.int .u64 0,.int .u64 0,.int .u64 0,.int .u64 0,.int .u64 0,.int .u64 0,.int .u64 0,.int .u64 0,.int .u64 0,.int .u64 0,.int .u64 0,.int .u64 0,.int .u64 0,.int .u64 0,.int .u64 0,.int .u64 0]) [(0,shV a b),(1,shV c d)]=some (shL [(a,b),(c,d)]):=by kernel_rfl
 rw[e];rfl
theorem PS {P:Program} {t:TypeId} {bytes:Nat} (hT:kG P t=some (4,bytes)) (hb:bytes≤1000) {R:IH→Value→Rat→Prop} (kR:Kept R) {h:IH} {n0:Nat} {v:Value} {l:List Rat} {cs:List Value} (a:Acc h n0 4 v l.length cs) (hc:jR R h l cs) {x1 x2 x3 x4:Value} {q:Rat} (r:R h (.agg #[x1,x2,x3,x4]) q) (o:([x1,x2,x3,x4]:List Value).all aA=true) (hl:l.length<100000) (h0:n0≤h.n) {h0':IH} (e0:Ext h0' h) (hn0:h0'.n≤n0) :
  ∃v' h',append P (h.new (.cells [x1,x2,x3,x4] 4 none)) t v (.slice (some ⟨2*h.n,0,none⟩) 1 3)=some (v',h')∧Acc h' n0 4 v' (l ++ [q]).length (cs ++ [x1,x2,x3,x4])∧jR R h' (l ++ [q]) (cs ++ [x1,x2,x3,x4])∧Grow h h'∧Ext h0' h':=by
 have hsz:(l.length+1)*(bytes+1)≤1099511627776:=by
  have:(l.length+1)*(bytes+1)≤100000*1001:=Nat.mul_le_mul (by omega) (by omega)
  omega
 obtain⟨v',h',b1,b2,b3,b4⟩:=a.se hT (m:=1) (new:=[x1,x2,x3,x4]) (by omega) rfl o hsz h0 e0 hn0
 exact⟨v',h',b1,by simpa using b2,(hc.snoc r).aa kR b3.aa,b3,b4⟩


def Cu (r:gT) (c:Code):gT:={ r with state:=.done,pending:=some c }
@[reducible] def Zam (k:Nat) (r:gT) (K:Value→IH→Prop) (e:bf) (_:Fr) (h:IH):Prop :=
 h.ext.get k=some (.loop (AJ r))∧match e with
  | .normal=>K (.bool true) (h.put k (.loop r))
  | .exit i=>K (.bool false) (h.put k (.loop (Cu r (.exit i))))
  | .ret=>K (.bool false) (h.put k (.loop (Cu r .ret)))
@[reducible] def asgK (P:Program) (k:Nat) (r:gT) (K:Value→IH→Prop) (e:bf) (fr:Fr) (h:IH):Prop :=
 e=.normal∧h.ext.get k=some (.loop r)∧Do (wpC P r.fn r.nt (some k) r.body fr (h.put k (.loop (AJ r)))) (Zam k r K) nx
def So (k:Nat) (r:gT) (fr:Fr) (Q:bf→Fr→IH→Prop) (h1:IH):Prop :=
 (h1.ext.get k=some (.loop r)∧Q .normal fr (h1.put k .dead))∨(∃i,h1.ext.get k=some (.loop (Cu r (.exit i)))∧Q (.exit i) fr (h1.put k .dead))∨(h1.ext.get k=some (.loop (Cu r .ret))∧Q .ret fr (h1.put k .dead))
theorem aJ.Ir {a b:IH} (g:aJ a b) {k:Nat} (hk : ∀c e f,b.ext.get k=some (.cells c e f)→e=0) (o:bz):aJ a (b.put k o):=⟨g.n,g.base,fun j c e f1 hj hg he=>by
 obtain⟨f2,h2⟩:=g.get j c e f1 hj hg he
 refine⟨f2,?_⟩
 rw[iF,if_neg]
 ·exact h2
 ·rintro rfl;exact he (hk _ _ _ h2)⟩


abbrev Ul (e:Int):Value:=.tuple #[shV 0 0,KI e]
theorem PA (l:List (Nat×Nat)) (p:Nat×Nat):shL (l ++ [p])=shL l ++ shC p.1 p.2:=by simp[shL]
open Nat renaming reduceAdd→zA,reduceEqDiff→zE,reduceLeDiff→zL
set_option maxHeartbeats 16000000
def xS (h:IH) (v:Value) (n d:Int):Prop:=∃a s b t,v=.agg #[a,s,b,t]∧ba h (.agg #[a,s]) n∧ba h (.agg #[b,t]) d
theorem xS.aa {h h':IH} {v:Value} {n d:Int} (p:xS h v n d) (e:aJ h h'):xS h' v n d:=let ⟨a,s,b,t,h1,h2,h3⟩:=p;⟨a,s,b,t,h1,h2.aa e,h3.aa e⟩
def fm (h:IH) (v:Value) (q:Rat):Prop:=xS h v q.num q.den
theorem fm.aa {h h':IH} {v:Value} {q:Rat} (p:fm h v q) (e:aJ h h'):fm h' v q:=xS.aa p e
theorem ba.cg {h:IH} {v:Value} {z:Int} (d:ba h v z) : ∃s,v=.agg #[.bool (decide (z<0)),s]∧s.cells = #[s]∧aA s=true:=let ⟨s,n,a,b,c,_⟩:=d.form;⟨s,a,b,c⟩
theorem ba.co {h:IH} {a s:Value} {z:Int} (d:ba h (.agg #[a,s]) z):a=.bool (decide (z<0))∧s.cells = #[s]∧aA s=true:=by
 obtain⟨s',h1,h2,h3⟩:=d.cg
 cases h1
 exact⟨rfl,h2,h3⟩
theorem Qw {n d:Int} (hd:d<0):n / (-(Int.gcd n d:Int))=(Rat.divInt n d).num∧d / (-(Int.gcd n d:Int))=(Rat.divInt n d).den:=by
 obtain⟨a,b⟩:=yr (n:=n) hd
 rw[Int.ediv_neg,Int.ediv_neg]
 exact⟨a,b⟩
theorem ma {h:IH} {v w:Value} {n d:Int} (hv:ba h v n) (hw:ba h w d) (sn:aU n) (sd:aU d) (d0:d≠0) :
  WV Proofs.Tryz.prog (.func (.func 184) #[] #[]) [v,w] h fun r h'=>Ext h h'∧fm h' r (Rat.divInt n d):=by
 obtain⟨s,rfl,c1,o1⟩:=hv.cg
 obtain⟨t,rfl,c2,o2⟩:=hw.cg
 have sg:aU (Int.gcd n d:Int):=by
  have h1:Int.gcd n d≤d.natAbs:=Nat.le_of_dvd (by omega) (Nat.gcd_dvd_right _ _)
  exact iX (sd.le h1)
 refine enter (nt:=32) (rs:=[.cell 4 177]) Proofs.Tryz.func184 rfl rfl rfl (by simp) ?_
 simp -dsimp (disch:=try exact dx) only[wpS,wpT,zE,zL,zA,ku,bW]
 obtain⟨H0,hH0,n0,E0,g0,g1,g2⟩:=fP h [.bool (decide (n<0)),s] [.bool (decide (d<0)),t] ZR
 rw[←hH0]
 clear hH0
 refine call (Aq (hv.aa E0.aa) (hw.aa E0.aa) sn sd) ?_
 rintro _ h1 ⟨hE1,hg⟩
 obtain⟨sg1,rfl,c3,o3⟩:=hg.cg
 have hng:decide ((Int.gcd n d:Int)<0)=false:=decide_eq_false (by omega)
 rw[hng] at hg ⊢
 have x1:=E0.trans hE1
 have n1:=(hE1).n;try simp only[aI,aH] at n1
 simp -dsimp (disch:=try exact dx) only[wpS,wpT,zE,zL,zA,kS,gF,dL,ld4,o3,aj (hE1.kept (by omega) g1),qh]
 obtain⟨H2,hH2⟩:=aP ((h1.new (.cells ZL 0 none)).put h1.n (.cells [.bool false,sg1] 0 none))
 have e2:Ext h1 H2:=by rw[hH2];exact((Ext.refl _).new _).put (Nat.le_refl _) _
 have n2:H2.n=h1.n+1:=by rw[hH2];rfl
 have gg:H2.ext.get h1.n=some (.cells [.bool false,sg1] 0 none):=by rw[hH2];simp (disch:=try exact dx) only[ae]
 rw[←hH2]
 clear hH2
 have x2:=x1.trans e2
 have kk0:=e2.kept (by omega) (hE1.kept (by omega) g0)
 have kk1:=e2.kept (by omega) (hE1.kept (by omega) g1)
 have kk2:=e2.kept (by omega) (hE1.kept (by omega) g2)
 refine fC (fun fr2 H3 => ∃(g:Int) (ag sg2:Value),Ext h H3∧h1.n+1≤H3.n∧H3.ext.get h.n=some (.cells [.bool (decide (n<0)),s] 0 none)∧H3.ext.get (h.n+1)=some (.cells [.bool (decide (d<0)),t] 0 none)∧H3.ext.get (h.n+1+1)=some (.cells ZR 0 none)∧H3.ext.get h1.n=some (.cells [ag,sg2] 0 none)∧ba H3 (.agg #[ag,sg2]) g∧aU g∧g≠0∧n / g=(Rat.divInt n d).num∧d / g=(Rat.divInt n d).den ∧
  ba H3 (.agg #[.bool (decide (n<0)),s]) n∧ba H3 (.agg #[.bool (decide (d<0)),t]) d∧ab fr2 2=some (ptr (2*h.n) 0)∧ab fr2 3=some (ptr (2*(h.n+1)) 0)∧ab fr2 4=some (ptr (2*(h.n+1+1)) 0)∧ab fr2 5=some (ptr (2*h1.n) 0)) (fun hb=>?_) (fun hb=>?_) ?_
 ·have hd:d<0:=by simpa using hb
  obtain⟨b1,b2⟩:=Qw (n:=n) hd
  simp -dsimp (disch:=try exact dx) only[wpS,wpT,zE,zL,zA,bW,aj gg,qh]
  refine call (C6 (hg.aa e2.aa)) ?_
  rintro _ h3 ⟨hE3,hT⟩
  obtain⟨sT,rfl,c4,o4⟩:=hT.cg
  have n3:=(hE3).n;try simp only[aI,aH] at n3
  have kg:=hE3.kept (by omega) gg
  simp -dsimp (disch:=try exact dx) only[wpS,wpT,zE,zL,zA,gF,kg,o4]
  have kp:=(aJ.refl h3).put kg (.cells [.bool (decide (-(Int.gcd n d:Int)<0)),sT] 0 none)
  have x3:=x2.trans hE3
  have hng:=Af (n:=n) (d:=d) (by omega)
  refine⟨-(Int.gcd n d:Int),_,sT,x3.put (by omega) _,by simp only[aH];omega,by simp (disch:=try exact dx) only[ak];exact hE3.kept (by omega) kk0,by simp (disch:=try exact dx) only[ak];exact hE3.kept (by omega) kk1,by simp (disch:=try exact dx) only[ak];exact hE3.kept (by omega) kk2,ae _ _ rfl,hT.aa kp,by rw[aU,Int.natAbs_neg];exact sg,by omega,b1,b2,hv.aa (x3.aa.trans kp),hw.aa (x3.aa.trans kp),by simp,by simp,by simp,by simp⟩
 ·have hd:0<d:=by
   have : ¬d<0:=by simpa using hb
   omega
  obtain⟨b1,b2⟩:=mP (n:=n) hd
  simp -dsimp (disch:=try exact dx) only[wpS,wpT]
  exact⟨Int.gcd n d,_,sg1,x2,by omega,kk0,kk1,kk2,gg,hg.aa e2.aa,sg,Af d0,b1,b2,hv.aa x2.aa,hw.aa x2.aa,by simp,by simp,by simp,by simp⟩
 clear hg kk0 kk1 kk2 gg x2 e2
 rintro fr2 H3 ⟨g,ag,sg2,x3,n3,k0,k1,k2,kg,hg,sgg,g0',b1,b2,hv3,hw3,f2,f3,f4,f5⟩
 rw[mu]
 simp -dsimp (disch:=try exact dx) only[wpS,wpT,zE,zL,zA,bW,f2,f5,aj k0,aj kg,qh]
 refine call (B5 hv3 hg sn sgg g0') ?_
 rintro _ h4 ⟨hE4,q,u,rfl,hq,hu⟩
 rw[b1] at hq
 obtain⟨sq,rfl,c4,o4⟩:=hq.cg
 obtain⟨su,rfl,c5,o5⟩:=hu.cg
 have n4:=(hE4).n;try simp only[aI,aH] at n4
 have x4:=x3.trans hE4
 simp -dsimp (disch:=try exact dx) only[wpS,wpT,zE,zL,zA,bW,kS,gF,o4,o5,f3,f5,aj (hE4.kept (by omega) k1),aj (hE4.kept (by omega) kg),qh]
 obtain⟨H5,hH5⟩ : ∃H4,H4=((((h4.new (.cells ZL 0 none)).new (.cells ZL 0 none)).put h4.n (.cells [.bool (decide ((Rat.divInt n d).num<0)),sq] 0 none)).put (h4.n+1) (.cells [.bool (decide (n % g<0)),su] 0 none)):=⟨_,rfl⟩
 have e5:Ext h4 H5:=by rw[hH5];exact((((Ext.refl _).new _).new _).put (Nat.le_refl _) _).put (by omega) _
 have n5:H5.n=h4.n+2:=by rw[hH5];rfl
 have gq:H5.ext.get h4.n=some (.cells [.bool (decide ((Rat.divInt n d).num<0)),sq] 0 none):=by rw[hH5];simp (disch:=try exact dx) only[ae,ak]
 rw[←hH5]
 clear hH5
 refine call (B5 (hw3.aa (hE4.trans e5).aa) (hg.aa (hE4.trans e5).aa) sd sgg g0') ?_
 rintro _ h6 ⟨hE6,q2,u2,rfl,hq2,hu2⟩
 rw[b2] at hq2
 obtain⟨sq2,rfl,c6,o6⟩:=hq2.cg
 obtain⟨su2,rfl,c7,o7⟩:=hu2.cg
 have n6:=(hE6).n;try simp only[aI,aH] at n6
 have hdf:decide (((Rat.divInt n d).den:Int)<0)=false:=decide_eq_false (by omega)
 rw[hdf] at hq2 ⊢
 have x6:=(x4.trans e5).trans hE6
 have kq:=hE6.kept (by omega) gq
 have kr:=hE6.kept (by omega) (e5.kept (by omega) (hE4.kept (by omega) k2))
 simp -dsimp (disch:=try exact dx) only[wpS,wpT,zE,zL,zA,bW,kS,gF,LW,ym,yl,iW,jx,o6,o7,f4,aj kq,kr,o4,qh,fg]
 refine⟨?_,_,_,_,_,rfl,hq.aa ((e5.trans hE6).aa.trans ?_),hq2.aa ?_⟩
 ·exact((((x6.new _).new _).put (by omega) _).put (by omega) _).put (by omega) _
 ·exact(((((aJ.refl h6).new _).new _).put (cs:=ZL) (f:=none) (by simp (disch:=try exact dx) only[ah,ax]) _).put (cs:=ZL) (f:=none) (by simp (disch:=try exact dx) only[ah,ak]) _).put (cs:=ZR) (f:=none) (by simp (disch:=try exact dx) only[ax,ak];exact kr) _
 ·exact(((((aJ.refl h6).new _).new _).put (cs:=ZL) (f:=none) (by simp (disch:=try exact dx) only[ah,ax]) _).put (cs:=ZL) (f:=none) (by simp (disch:=try exact dx) only[ah,ak]) _).put (cs:=ZR) (f:=none) (by simp (disch:=try exact dx) only[ax,ak];exact kr) _
end Go.Id

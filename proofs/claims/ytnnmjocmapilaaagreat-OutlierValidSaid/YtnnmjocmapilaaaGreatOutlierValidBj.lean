/-
  Contracts: package outlier: check.
-/
import Derived.Test.YtnnmjocmapilaaaGreatOutlierValidBi
set_option linter.unusedVariables false
set_option linter.unusedSimpArgs false
set_option linter.defProp false
set_option linter.deprecated false
namespace Go.Id
open Go
open Go.Proofs.Tryz (prog)
open Nat renaming reduceAdd→zA,reduceEqDiff→zE,reduceLeDiff→zL
set_option maxHeartbeats 16000000
noncomputable def tA (ll:List (List (Nat×Nat))) (t:List Nat) (f:List (Nat×Nat)) (e:Nat×Nat) (n:Int):Int:=open Classical in
 if oS ll t≠0 then oS ll t else if ¬(∃p∈t,p≠0) then 7 else if ¬Dq ll t then 5 else if ∃p∈f ++ [e],¬okS p.1 p.2 then 20
 else if f.length≠ll.length∨rOf e<0∨1<rOf e∨n<0∨20<n then 2 else 0
theorem IG {h:IH} {p:Nat} (hp:p<W8):WV prog (.func (.func 172) #[] #[]) [wdV p] h fun r h'=>Ext h h'∧r=.bool (decide (p≠0)):=by
 refine enter (nt:=6) (rs:=[.tmp 2]) Proofs.Tryz.func172 rfl rfl rfl (by simp) ?_
 have hne : ∀ox oy,binop prog .neq 30 ox oy (.agg (wdC p).toArray) (.agg #[.int .u64 0,.int .u64 0,.int .u64 0,.int .u64 0,.int .u64 0,.int .u64 0,.int .u64 0,.int .u64 0])=some (.bool (decide (p≠0))):=fun ox oy=>(O4 hp (Nat.lt_of_le_of_lt (Nat.zero_le _) hp) ox oy).trans (by
  by_cases c:p=0
  ·rw[decide_eq_true c,decide_eq_false (fun h=>h c)];rfl
  ·rw[decide_eq_false c,decide_eq_true c];rfl)
 simp -dsimp (disch:=omega) only[wpS,wpT,zE,zL,eV,Ek,cD,ar,bS,hne]
 exact(Ext.refl h).new _
open Classical in
theorem IF {h:IH} {p:Nat×Nat} (hp:p.1<W8∧p.2<W8):WV prog (.func (.func 174) #[] #[]) [shV p.1 p.2] h fun r h'=>Ext h h'∧r=.bool (decide (¬okS p.1 p.2)):=by
 refine enter (nt:=6) (rs:=[.tmp 2]) Proofs.Tryz.func174 rfl rfl rfl (by simp) ?_
 simp -dsimp (disch:=omega) only[wpS,zE,zL,bY,aB,au,aO]
 refine call (oO p.1 p.2 hp.1 hp.2) ?_
 rintro _ h1 ⟨X1,rfl⟩
 have E1:Ext h (h.new (.cells (shC p.1 p.2) 0 none)):=(Ext.refl h).new _
 by_cases c:okS p.1 p.2
 ·rw[if_pos c,decide_eq_false (fun h=>h c)]
  simp -dsimp (disch:=omega) only[wpS,wpT,zE]
  exact E1.trans X1
 ·rw[if_neg c,decide_eq_true c]
  simp -dsimp (disch:=omega) only[wpS,wpT,zE]
  exact E1.trans X1
open Classical in
theorem BT {h:IH} {kv wv fv:Value} {ll:List (List (Nat×Nat))} {t:List Nat} {f:List (Nat×Nat)} {e:Nat×Nat} {n:Int} (hk:jt h kv ll) (hw:pE h wv t) (hf:iT h fv f) (hne:fv=.slice none 0 0∨0<f.length) (hfl:f.length≤1000) (he:e.1<W8∧e.2<W8) (hn:fR n) :
  WV prog (.func (.func 74) #[] #[]) [kv,wv,fv,KI n,shV e.1 e.2] h fun r h'=>Ext h h'∧r=KI (tA ll t f e n):=by
 obtain⟨H0,hH0⟩:=aP (h.new (.cells (shC e.1 e.2) 0 none))
 have E0:Ext h H0:=by rw[hH0];exact(Ext.refl h).new _
 have n0:H0.n=h.n+1:=by rw[hH0];rfl
 have g9:H0.ext.get h.n=some (.cells (shC e.1 e.2) 0 none):=by rw[hH0];simp (disch:=omega) only[ah]
 obtain⟨_,_,hlen⟩:=hk.co
 have TI:=hf.1.len (P:=prog) uu
 refine enter (nt:=61) (rs:=[.tmp 10]) Proofs.Tryz.func74 rfl rfl rfl (by simp) ?_
 simp -dsimp (disch:=omega) only[wpS,zE,zA,aB]
 rw[←hH0]
 clear hH0
 refine call (TP (hk.aa E0.aa) (hw.aa E0.aa)) ?_
 rintro _ h1 ⟨X1,rfl⟩
 have E1:=E0.trans X1
 unfold tA
 by_cases e0:oS ll t=0
 case neg =>
  rw[if_pos e0]
  have d:(oS ll t != 0)=true:=by simpa using e0
  simp -dsimp (disch:=omega) only[wpS,wpT,zE,d]
  exact E1
 rw[if_neg (fun h=>h e0),e0]
 simp -dsimp (disch:=omega) only[wpS,wpT,zE]
 refine call (qa (hw.aa E1.aa) (fun p=>p≠0) fun H p X hp=>(IG (hw.2.2 p hp)).mono fun r h' q=>⟨q.1,q.2.trans (by congr)⟩) ?_
 rintro _ h2 ⟨X2,rfl⟩
 have E2:=E1.trans X2
 by_cases hz : ∃p∈t,p≠0
 case neg =>
  have hd : ∀i:Decidable (∃p∈t,p≠0),@decide _ i=false:=fun i=>decide_eq_false hz
  rw[hd,if_pos hz]
  simp -dsimp (disch:=omega) only[wpS,wpT,zE]
  exact E2
 have hd : ∀i:Decidable (∃p∈t,p≠0),@decide _ i=true:=fun i=>decide_eq_true hz
 rw[hd,if_neg (fun h=>h hz)]
 by_cases hb:Dq ll t
 case neg =>
  rw[if_pos hb,decide_eq_false hb]
  simp -dsimp (disch:=omega) only[wpS,wpT,zE]
  exact E2
 rw[if_neg (fun h=>h hb),decide_eq_true hb]
 simp -dsimp (disch:=omega) only[wpS,wpT,zE]
 have g92:=(X1.trans X2).kept (by omega) g9
 obtain⟨_,_,L2⟩:=psh g92
 refine drawn [(2,[1,4])] (by kernel_rfl) (by kernel_rfl) rfl ?_
 simp -dsimp (disch:=omega) only[wpS,zE]
 refine call (Ib (hf.aa E2.aa) hne (by omega)) ?_
 rintro cv h3 ⟨X3,A3⟩
 have g93:=X3.kept (by have:=(X1.trans X2).n;omega) g92
 obtain⟨_,_,L3⟩:=psh g93
 have n3:=X3.n
 obtain⟨out,h4,hap,A4,G4,E4⟩:=A3.se (P:=prog) (t:=61) OG (m:=1) (new:=shC e.1 e.2) (by omega) (by rw[au]) (aY _ _) (by omega) (by omega) (E2.trans X3) (Nat.le_trans E2.n (Nat.le_refl _))
 simp -dsimp (disch:=omega) only[wpS,wpT,zE,zL,zA,Hm,rT,L3,aB,au,bC,hap]
 have s4:iT h4 out (f ++ [e]):=⟨by
  have eT:shL f ++ shC e.1 e.2=shL (f ++ [e]):=by rw[shL,shL,List.flatMap_append];simp
  rw[←eT,List.length_append]
  exact A4.sl,by rw[List.length_append];simp;omega,fun p hp=>by
  rcases List.mem_append.1 hp with h|h
  ·exact hf.2.2 p h
  ·rw[List.mem_singleton.1 h];exact he⟩
 refine call (sE s4 (fun p => ¬okS p.1 p.2) fun H p X hp=>(IF (s4.2.2 p hp)).mono fun r h' q=>⟨q.1,q.2.trans (by congr)⟩) ?_
 rintro _ h5 ⟨X5,rfl⟩
 have E5:=E4.trans X5
 simp -dsimp (disch:=omega) only[wpS]
 refine⟨az (ad rfl rfl rfl rfl (ai rfl L3 L2)) (ad rfl rfl rfl rfl (ai rfl L3 (psh (((Ext.refl h3).new _).kept (by have:=(X1.trans X2).n;have:=X3.n;omega) g93)).2.2)),?_⟩
 by_cases hs : ∃p∈f ++ [e],¬okS p.1 p.2
 case pos =>
  have hd : ∀i:Decidable (∃p∈f ++ [e],¬okS p.1 p.2),@decide _ i=true:=fun i=>decide_eq_true hs
  rw[hd,if_pos hs]
  simp -dsimp (disch:=omega) only[wpS,wpT,zE,zA]
  exact E5
 have hd : ∀i:Decidable (∃p∈f ++ [e],¬okS p.1 p.2),@decide _ i=false:=fun i=>decide_eq_false hs
 rw[hd,if_neg hs]
 have ok:okS e.1 e.2:=Classical.byContradiction fun h=>hs ⟨e,by simp,h⟩
 have hn3:h.n<h3.n:=by have:=(X1.trans X2).n;have:=X3.n;omega
 have g95:=X5.kept (Nat.lt_of_lt_of_le hn3 G4.n) (Grow.box G4 hn3 g93 (fun c e f he=>by cases he;rfl))
 obtain⟨_,_,L5⟩:=psh g95
 simp -dsimp (disch:=omega) only[wpS,wpT,zE,zA,L5]
 refine call (cW e.1 e.2 he.1 he.2) ?_
 rintro r6 h6 ⟨X6,p6⟩
 have p6:=p6.rat ok
 obtain⟨a1,a2,a3,a4,rfl,_,_,d1,o1,d2,o2,o3,o4⟩:=p6.parts
 simp -dsimp (disch:=omega) only[wpS,wpT,zE,zL,zA,dr,cQ,o1,o2,o3,o4]
 obtain⟨H7,hH7⟩:=aP ((h6.new (.cells ZR 0 none)).put h6.n (.cells [a1,a2,a3,a4] 0 none))
 have F7:Ext h6 H7:=by rw[hH7];exact((Ext.refl h6).new _).put (Nat.le_refl _) _
 have n7:H7.n=h6.n+1:=by rw[hH7];rfl
 have g13:H7.ext.get h6.n=some (.cells [a1,a2,a3,a4] 0 none):=by rw[hH7];simp (disch:=omega) only[ae]
 rw[←hH7]
 clear hH7
 have p7:=p6.aa F7.aa
 have E7:=(E5.trans X6).trans F7
 by_cases c1:f.length=ll.length
 case neg =>
  have d1:(((f.length:Nat):Int) != ((ll.length:Nat):Int))=true:=by simpa using fun h=>c1 (by omega)
  rw[if_pos (.inl c1)]
  refine drawn [(12,[14])] (by kernel_rfl) (by kernel_rfl) rfl ?_
  simp -dsimp (maxSteps:=1000000) (disch:=first|omega|(simp only[aI,aH];omega)|decide +kernel|(repeat first|rw[aI]|rw[aH])) only[wpS,wpT,zE,TI,hlen,d1]
  refine⟨oz rfl rfl rfl,?_⟩
  simp -dsimp (disch:=omega) only[wpS,wpT,zE,zA]
  exact E7
 have d1:(((f.length:Nat):Int) != ((ll.length:Nat):Int))=false:=by simp[c1]
 obtain⟨_,_,_,_,hh,hn1,hd1,_⟩:=p7.parts
 cases hh
 have X70:=Ext.refl H7
 refine drawn [(12,[14])] (by kernel_rfl) (by kernel_rfl) rfl ?_
 simp -dsimp (disch:=omega) only[wpS,wpT,zE,zL,zA,fM,bE,TI,hlen,d1,aj g13,tkA]
 refine call (kD hn1) ?_
 rintro _ h8 ⟨X8,rfl⟩
 have E8:=E7.trans X8
 obtain⟨z,hz,hz2⟩ : ∃z:Int,(if (rOf e).num<0 then (-1:Int) else if (rOf e).num=0 then 0 else 1)=z∧(z<0↔rOf e<0):=⟨_,rfl,by
  rw[show rOf e<0↔(rOf e).num<0 by rw[←Int.not_le,←Rat.not_le,Rat.num_nonneg]]
  by_cases h:(rOf e).num<0
  ·rw[if_pos h];exact⟨fun _=>h,fun _=>by omega⟩
  ·rw[if_neg h];refine⟨fun k=>?_,fun k=>absurd k h⟩;split at k<;>omega⟩
 rw[hz]
 by_cases c2:rOf e<0
 ·have d2:decide (z<0)=true:=decide_eq_true (hz2.2 c2)
  rw[if_pos (.inr (.inl c2))]
  simp -dsimp (maxSteps:=1000000) (disch:=first|omega|(simp only[aI,aH];omega)|decide +kernel|(repeat first|rw[aI]|rw[aH])) only[wpS,wpT,zE,d2]
  refine⟨oz rfl rfl rfl,?_⟩
  simp -dsimp (disch:=omega) only[wpS,wpT,zE,zA]
  exact E8
 have d2:decide (z<0)=false:=decide_eq_false (fun h=>c2 (hz2.1 h))
 have ZZ:=X8.kept (by omega) g13
 obtain⟨_,_,L8⟩:=pl4 ZZ
 simp -dsimp (disch:=omega) only[wpS,wpT,zE,d2,L8]
 refine call (eH 1 ⟨by omega,by omega⟩) ?_
 rintro r9 h9 ⟨X9,p9⟩
 obtain⟨_,_,L9⟩:=pl4 (X9.kept (by have:=X8.n;omega) ZZ)
 simp -dsimp (disch:=omega) only[wpS,wpT,zE]
 refine call (rH (p7.aa (X8.trans X9).aa) p9 (jm he.1 he.2 ok) (QB.int (k:=64) (by omega)) (by omega)) ?_
 rintro _ h10 ⟨X10,rfl⟩
 have E10:=(E8.trans X9).trans X10
 obtain⟨w,hw1,hw2⟩ : ∃z:Int,(if rOf e<((1:Int):Rat) then (-1:Int) else if rOf e=((1:Int):Rat) then 0 else 1)=z∧(0<z↔1<rOf e):=⟨_,rfl,by
  have e1:((1:Int):Rat)=1:=rfl
  rw[e1]
  by_cases h:rOf e<1
  ·rw[if_pos h];refine⟨fun k=>by omega,fun k=>absurd k (Rat.not_lt.2 (Rat.le_of_lt h))⟩
  ·rw[if_neg h]
   by_cases h2:rOf e=1
   ·rw[if_pos h2,h2];exact⟨fun k=>by omega,fun k=>absurd k Rat.lt_irrefl⟩
   ·rw[if_neg h2]
    exact⟨fun _=>Classical.byContradiction fun k=>h2 (Rat.le_antisymm (Rat.not_lt.1 k) (Rat.not_lt.1 h)),fun _=>by omega⟩⟩
 rw[hw1]
 by_cases c3:1<rOf e
 ·have d3:decide (0<w)=true:=decide_eq_true (hw2.2 c3)
  rw[if_pos (.inr (.inr (.inl c3)))]
  simp -dsimp (maxSteps:=1000000) (disch:=first|omega|(simp only[aI,aH];omega)|decide +kernel|(repeat first|rw[aI]|rw[aH])) only[wpS,wpT,zE,d3]
  refine⟨ad rfl rfl rfl rfl (ai rfl L8 L9),?_⟩
  simp -dsimp (disch:=omega) only[wpS,wpT,zE,zA]
  exact E10
 have d3:decide (0<w)=false:=decide_eq_false (fun h=>c3 (hw2.1 h))
 by_cases c4:n<0
 ·have d4:decide (n<0)=true:=decide_eq_true c4
  rw[if_pos (.inr (.inr (.inr (.inl c4))))]
  simp -dsimp (maxSteps:=1000000) (disch:=first|omega|(simp only[aI,aH];omega)|decide +kernel|(repeat first|rw[aI]|rw[aH])) only[wpS,wpT,zE,d3,d4]
  refine⟨ad rfl rfl rfl rfl (ai rfl L8 L9),?_⟩
  simp -dsimp (disch:=omega) only[wpS,wpT,zE,zA]
  exact E10
 have d4:decide (n<0)=false:=decide_eq_false c4
 by_cases c5:20<n
 ·have d5:decide (20<n)=true:=decide_eq_true c5
  rw[if_pos (.inr (.inr (.inr (.inr c5))))]
  simp -dsimp (maxSteps:=1000000) (disch:=first|omega|(simp only[aI,aH];omega)|decide +kernel|(repeat first|rw[aI]|rw[aH])) only[wpS,wpT,zE,d3,d4,d5]
  refine⟨ad rfl rfl rfl rfl (ai rfl L8 L9),?_⟩
  simp -dsimp (disch:=omega) only[wpS,wpT,zE,zA]
  exact E10
 have d5:decide (20<n)=false:=decide_eq_false c5
 rw[if_neg (fun h=>by
  rcases h with h|h|h|h|h
  ·exact h c1
  ·exact c2 h
  ·exact c3 h
  ·exact c4 h
  ·exact c5 h)]
 simp -dsimp (maxSteps:=1000000) (disch:=first|omega|(simp only[aI,aH];omega)|decide +kernel|(repeat first|rw[aI]|rw[aH])) only[wpS,wpT,zE,d3,d4,d5]
 refine⟨ad rfl rfl rfl rfl (ai rfl L8 L9),?_⟩
 simp -dsimp (disch:=omega) only[wpS,wpT,zE,zA]
 exact E10
def upV (a b:Nat→Rat) (most:Int) (M i:Nat):Rat:=rs M fun j=>if (i:Int)+(j:Int)≤most then a i*b j else 0
def upP (a b:Nat→Rat) (most:Int) (M i j:Nat):Rat:=rs i (upV a b most M)+rs j fun j=>if (i:Int)+(j:Int)≤most then a i*b j else 0
theorem Pc (a b:Nat→Rat) (most:Int) (M i j:Nat):upP a b most M i (j+1)=if (i:Int)+(j:Int)≤most then upP a b most M i j+a i*b j else upP a b most M i j:=by
 unfold upP
 rw[rs]
 split
 ·rw[Rat.add_assoc]
 ·rw[Rat.add_zero]
theorem SE (a b:Nat→Rat) (most:Int) (M i:Nat):upP a b most M i M=upP a b most M (i+1) 0:=by
 unfold upP
 rw[rs,rs,Rat.add_zero]
 rfl
theorem VW {a b:Nat→Rat} {most:Int} {M N L K x y:Nat} (hL:0<L) (hx:L≤2 ^ x) (hK:0<K) (hy:K≤2 ^ y) (oa : ∀i,i<N→OvL L x (a i)) (ob : ∀j,j<M→OvL K y (b j)) {i j:Nat} (hi:i<N) (hj:j≤M):QB (x+y+M+N+1) (upP a b most M i j):=by
 have z:L*K≤2 ^ (x+y):=by rw[Nat.pow_add];exact Nat.mul_le_mul hx hy
 have zp:0<L*K:=Nat.mul_pos hL hK
 have t : ∀i j,i<N→j<M→OvL (L*K) (x+y) (if (i:Int)+(j:Int)≤most then a i*b j else 0):=fun i j hi hj=>((oa i hi).mul (ob j hj)).ite
 have r : ∀i j,i<N→j≤M→OvL (L*K) (x+y+M) (rs j fun j=>if (i:Int)+(j:Int)≤most then a i*b j else 0):=fun i j hi hj=>(OvL.rs zp z fun j' hj'=>t i j' hi (by omega)).mono (by omega)
 have z2:L*K≤2 ^ (x+y+M):=Nat.le_trans z (Nat.pow_le_pow_right (by omega) (by omega))
 exact((((OvL.rs zp z2 (n:=i) (f:=upV a b most M) fun i' hi'=>r i' M (by omega) (Nat.le_refl _)).mono (y:=x+y+M+N) (by omega)).add ((r i j hi hj).mono (by omega)))).qb
def atQ (l:List Rat) (i:Nat):Rat:=l.getD i 0
theorem Sc {l:List Rat} {i:Nat} (h:i<l.length):l[i]?=some (atQ l i):=by
 unfold atQ
 rw[List.getD_eq_getElem?_getD,List.getElem?_eq_getElem h];rfl
theorem J3 {h:IH} {va vb:Value} {la lb:List Rat} {L K x y:Nat} {most:Int} (ha:nF bg h va la) (hb:nF bg h vb lb) (hL:0<L) (hx:L≤2 ^ x) (hK:0<K) (hy:K≤2 ^ y) (oa : ∀i,i<la.length→OvL L x (atQ la i)) (ob : ∀j,j<lb.length→OvL K y (atQ lb j)) (hm:fR most) (l1:la.length≤1000) (l2:lb.length≤1000) (hk:2*(x+y)+5000<16000000) :
  WV prog (.func (.func 78) #[] #[]) [va,vb,KI most] h fun r h'=>Ext h h'∧bg h' r (rs la.length (upV (atQ la) (atQ lb) most lb.length)):=by
 obtain⟨csa,sa,_,_⟩:=id ha
 obtain⟨csb,sb,_,_⟩:=id hb
 have YV:=sa.len (P:=prog) Bz
 have YU:=sb.len (P:=prog) Bz
 obtain⟨N,hN⟩:=aP (la.length)
 obtain⟨M,hM⟩:=aP (lb.length)
 rw[←hN] at oa l1 YV sa ⊢
 rw[←hM] at ob l2 YU sb ⊢
 obtain⟨a,hA⟩:=aP (atQ la)
 obtain⟨b,hB⟩:=aP (atQ lb)
 have atA : ∀i,i<N→la[i]?=some (a i):=fun i hi=>by rw[hA];exact Sc (by omega)
 have atB : ∀i,i<M→lb[i]?=some (b i):=fun i hi=>by rw[hB];exact Sc (by omega)
 rw[←hA] at oa ⊢
 rw[←hB] at ob ⊢
 clear hA hB
 have qb : ∀i j,i<N→j≤M→QB (x+y+M+N+1) (upP a b most M i j):=fun i j hi hj=>VW hL hx hK hy oa ob hi hj
 refine enter (nt:=40) (rs:=[.cell 6 137]) Proofs.Tryz.func78 rfl rfl rfl (by simp) ?_
 simp -dsimp (disch:=omega) only[wpS,zA,dr]
 have E1:Ext h (h.new (.cells ZR 0 none)):=(Ext.refl h).new _
 have g1:(h.new (.cells ZR 0 none)).ext.get h.n=some (.cells ZR 0 none):=by simp (disch:=omega) only[ah]
 refine call (eH 0 ⟨by omega,by omega⟩) ?_
 rintro z h1 ⟨X1,p1⟩
 have m1:=X1.n
 simp only[aI] at m1
 obtain⟨a3,s3,b3,t3,rfl,_,_,d1,o1,d2,o2,o3,o4⟩:=p1.parts
 have kg:=X1.kept (by simp) g1
 simp -dsimp (disch:=omega) only[wpS,wpT,zE,zL,zA,dr,cQ,o1,o2,o3,o4,YV]
 have Ex2:Ext h1 ((h1.new (.cells ZR 0 none)).put h1.n (.cells [a3,s3,b3,t3] 0 none)):=((Ext.refl h1).new _).put (Nat.le_refl _) _
 have p0:upP a b most M 0 0=((0:Int):Rat):=by unfold upP;rw[rs,rs,Rat.add_zero];rfl
 rw[←p0] at p1
 refine loop (fun m fr hh => ∃(i:Nat) (z1 z2 z3 z4:Value),i+m=N∧Ext h hh∧h1.n<hh.n∧hh.ext.get h.n=some (.cells ZR 0 none)∧hh.ext.get h1.n=some (.cells [z1,z2,z3,z4] 0 none)∧bg hh (.agg #[z1,z2,z3,z4]) (upP a b most M i 0) ∧
   ab fr 1=some vb∧ab fr 2=some (KI most)∧ab fr 6=some (ptr (2*h.n) 0)∧ab fr 7=some (ptr (2*h1.n) 0)∧ab fr 13=some va∧ab fr 14=some (KN N)∧ab fr 15=some (KN i)) N
  ⟨0,a3,s3,b3,t3,by omega,(E1.trans X1).trans Ex2,by simp,by simp (disch:=omega) only[ax,ak];exact kg,by simp (disch:=omega) only[ae],p1.aa Ex2.aa,by simp⟩ ?_
 clear p1 kg Ex2
 rintro m fr hh ⟨i,z1,z2,z3,z4,him,hE,hn,hg,hg7,hp,f1,f2,f6,f7,f13,f14,f15⟩
 simp -dsimp (disch:=omega) only[wpS,f14,f15]
 refine aq ?_ ?_<;>intro hc<;>simp only[decide_eq_true_eq,decide_eq_false_iff_not] at hc
 ·have hi:i<N:=by omega
  obtain⟨c1,c2,c3,c4,hld,hr⟩:=ha.ld gL hE.aa (atA i hi) (P:=prog) (t:=137) AS sD
  obtain⟨_,_,_,_,hhe,_,_,_,q1,_,q2,q3,q4⟩:=hr.parts
  cases hhe
  simp -dsimp (disch:=omega) only[wpS,wpT,zE,zL,zA,dr,cQ,f1,f13,f15,sa.idx An hi,hld,q1,q2,q3,q4,YU]
  obtain⟨H0,hH0⟩:=aP ((hh.new (.cells ZR 0 none)).put hh.n (.cells [c1,c2,c3,c4] 0 none))
  have e0:Ext hh H0:=by rw[hH0];exact((Ext.refl hh).new _).put (Nat.le_refl _) _
  have n0:H0.n=hh.n+1:=by rw[hH0];rfl
  have g9:H0.ext.get hh.n=some (.cells [c1,c2,c3,c4] 0 none):=by rw[hH0];simp (disch:=omega) only[ae]
  have nn:=hE.n
  refine loop (fun m2 fr H => ∃(j:Nat) (z1 z2 z3 z4:Value),j+m2=M∧Ext h H∧hh.n<H.n∧H.ext.get h.n=some (.cells ZR 0 none)∧H.ext.get h1.n=some (.cells [z1,z2,z3,z4] 0 none)∧bg H (.agg #[z1,z2,z3,z4]) (upP a b most M i j)∧H.ext.get hh.n=some (.cells [c1,c2,c3,c4] 0 none)∧bg H (.agg #[c1,c2,c3,c4]) (a i) ∧
    ab fr 1=some vb∧ab fr 2=some (KI most)∧ab fr 6=some (ptr (2*h.n) 0)∧ab fr 7=some (ptr (2*h1.n) 0)∧ab fr 8=some (KN i)∧ab fr 9=some (ptr (2*hh.n) 0)∧ab fr 13=some va∧ab fr 14=some (KN N)∧ab fr 15=some (KN i)∧ab fr 20=some vb∧ab fr 21=some (KN M)∧ab fr 22=some (KN j)) M
   ⟨0,z1,z2,z3,z4,by omega,by rw[←hH0];exact hE.trans e0,by rw[←hH0];omega,by rw[←hH0];exact e0.kept (by omega) hg,by rw[←hH0];exact e0.kept hn hg7,by rw[←hH0];exact hp.aa e0.aa,by rw[←hH0];exact g9,by rw[←hH0];exact hr.aa e0.aa,by simp[f1,f2,f6,f7,f13,f14,f15]⟩ ?_
  clear hH0 e0 n0 g9 hp hr hg hg7 f1 f2 f6 f7 f13 f14 f15 hld
  rintro m2 fr H ⟨j,z1,z2,z3,z4,hjm,E,hnH,hg,hg7,hp,g9,hr,f1,f2,f6,f7,f8,f9,f13,f14,f15,f20,f21,f22⟩
  simp -dsimp (disch:=omega) only[wpS,f21,f22]
  refine aq ?_ ?_<;>intro hc2<;>simp only[decide_eq_true_eq,decide_eq_false_iff_not] at hc2
  ·have hj:j<M:=by omega
   obtain⟨y1,y2,y3,y4,hld,hry⟩:=hb.ld gL E.aa (atB j hj) (P:=prog) (t:=137) AS sD
   obtain⟨_,_,_,_,hhe,_,_,_,q5,_,q6,q7,q8⟩:=hry.parts
   cases hhe
   simp -dsimp (disch:=omega) only[wpS,wpT,zE,zL,zA,dr,cQ,f20,f22,sb.idx An hj,hld,q5,q6,q7,q8]
   obtain⟨H0,hH0⟩:=aP ((H.new (.cells ZR 0 none)).put H.n (.cells [y1,y2,y3,y4] 0 none))
   have e0:Ext H H0:=by rw[hH0];exact((Ext.refl H).new _).put (Nat.le_refl _) _
   have n0:H0.n=H.n+1:=by rw[hH0];rfl
   have gy:H0.ext.get H.n=some (.cells [y1,y2,y3,y4] 0 none):=by rw[hH0];simp (disch:=omega) only[ae]
   rw[←hH0]
   clear hH0
   have nn2:=E.n
   have gz:=e0.kept (by omega) hg
   have gs:=e0.kept (by omega) hg7
   have ga:=e0.kept hnH g9
   have st:=Pc a b most M i j
   simp -dsimp (disch:=omega) only[wpS,zE,f2,f8]
   refine aq ?_ ?_<;>intro hc3<;>simp only[decide_eq_true_eq,decide_eq_false_iff_not] at hc3
   ·rw[if_pos (by omega)] at st
    have X0:=Ext.refl H0
    obtain⟨_,_,L1⟩:=pl4 gs
    obtain⟨_,_,L2⟩:=pl4 ga
    obtain⟨_,_,L3⟩:=pl4 gy
    refine drawn [(0,[4])] (by kernel_rfl) (by kernel_rfl) rfl ?_
    simp -dsimp (disch:=omega) only[wpS,wpT,zE,f7,f9,L1,L2,L3]
    refine call (iZ (hr.aa e0.aa) (hry.aa e0.aa) (oa i hi).qb (ob j hj).qb (by omega)) ?_
    rintro r2 h2 ⟨X2,p2⟩
    have m2':=X2.n
    simp -dsimp (disch:=omega) only[wpS,zE]
    refine call (jj (hp.aa (e0.trans X2).aa) p2 (qb i j hi (by omega)) ((oa i hi).mul (ob j hj)).qb (by omega)) ?_
    rintro r3 h3 ⟨hE3,p3⟩
    rw[←st] at p3
    have m3:=hE3.n
    have X3:=X2.trans hE3
    obtain⟨a4,s4,b4,t4,rfl,_,_,_,o1,_,o2,o3,o4⟩:=p3.parts
    have k5:=X3.kept (by omega) gs
    have kz:=X3.kept (by omega) gz
    have ka:=X3.kept (by omega) ga
    simp -dsimp (disch:=omega) only[wpS,wpT,zE,zL,zA,cQ,f7,k5,o1,o2,o3,o4]
    refine⟨ad rfl rfl rfl rfl (aT (H0:=H0) (b:=2*h1.n) (o:=0) f7 (by omega) X0 (by assumption) L1),?_⟩
    simp -dsimp (disch:=omega) only[wpS,wpT,zE,zA,f22]
    refine⟨m2 - 1,by omega,j+1,a4,s4,b4,t4,by omega,((E.trans e0).trans X3).put (by omega) _,by simp only[aH];omega,?_,ae _ _ rfl,p3.aa ((aJ.refl _).put k5 _),?_,(hr.aa (e0.trans X3).aa).aa ((aJ.refl _).put k5 _),by simp[f1,f2,f6,f7,f8,f9,f13,f14,f15,f20,f21]⟩
    ·rw[ak _ _ (by omega)];exact kz
    ·rw[ak _ _ (by omega)];exact ka
   ·rw[if_neg (by omega)] at st
    rw[←st] at hp
    simp -dsimp (disch:=omega) only[wpS,wpT,zE,f22]
    exact⟨m2 - 1,by omega,j+1,z1,z2,z3,z4,by omega,E.trans e0,by omega,gz,gs,hp.aa e0.aa,ga,hr.aa e0.aa,by simp[f1,f2,f6,f7,f8,f9,f13,f14,f15,f20,f21]⟩
  ·obtain rfl:j=M:=by omega
   rw[SE] at hp
   simp -dsimp (disch:=omega) only[wpS,wpT,zE,f15]
   have nn2:=E.n
   exact⟨m - 1,by omega,i+1,z1,z2,z3,z4,by omega,E,by omega,hg,hg7,hp,by simp[f1,f2,f6,f7,f13,f14]⟩
 ·obtain rfl:i=N:=by omega
  have e:upP a b most M i 0=rs i (upV a b most M):=by unfold upP;exact Rat.add_zero _
  rw[e] at hp
  obtain⟨_,_,_,_,hhe,_,_,_,o1,_,o2,o3,o4⟩:=hp.parts
  cases hhe
  simp -dsimp (disch:=omega) only[wpS,wpT,zE,zL,zA,cQ,fA,f6,f7,aj hg7,hg,fg,o1,o2,o3,o4]
  exact⟨hE.put (Nat.le_refl _) _,hp.aa ((aJ.refl _).put hg _)⟩
theorem SK {h:IH} {F:Value} {n0 n1 b N M L x:Nat} {r:Nat→Nat} {q:Nat→Nat→Rat} (hv:Tab h n0 n1 b N M r q) (g:Nat→Rat) (hF : ∀h1 j,Ext h h1→j<N→WV prog F [mkV (r j) M] h1 fun r h2=>Ext h1 h2∧bg h2 r (g j)) (hk : ∀j,j<N→OvL L x (g j)) (hL:0<L) (hx:L≤2 ^ x) (hb:2*x+N+1<16000000) :
  WV prog (.func (.func 230) #[] #[]) [mkV b N,F] h fun r h'=>Ext h h'∧bg h' r (rs N g):=by
 have hQ : ∀i,i≤N→QB (x+i) (rs i g):=fun i hi=>(OvL.rs hL hx fun j hj=>hk j (by omega)).qb
 refine enter (nt:=22) (rs:=[.cell 4 137]) Proofs.Tryz.func230 rfl rfl rfl (by simp) ?_
 simp -dsimp (disch:=omega) only[wpS,zA,dr]
 have E1:Ext h (h.new (.cells ZR 0 none)):=(Ext.refl h).new _
 have g1:(h.new (.cells ZR 0 none)).ext.get h.n=some (.cells ZR 0 none):=by simp (disch:=omega) only[ah]
 refine call (eH 0 ⟨by omega,by omega⟩) ?_
 rintro z h1 ⟨X1,p1⟩
 have m1:=X1.n
 simp only[aI] at m1
 obtain⟨a3,s3,b3,t3,rfl,_,_,d1,o1,d2,o2,o3,o4⟩:=p1.parts
 have kg:=X1.kept (by simp) g1
 simp -dsimp (disch:=omega) only[wpS,wpT,zE,zL,zA,dr,cQ,o1,o2,o3,o4,hv.len]
 have Ex2:Ext h1 ((h1.new (.cells ZR 0 none)).put h1.n (.cells [a3,s3,b3,t3] 0 none)):=((Ext.refl h1).new _).put (Nat.le_refl _) _
 refine loop (fun m fr hh => ∃(i:Nat) (a s b' t:Value),i+m=N∧Ext h hh∧h1.n<hh.n∧hh.ext.get h.n=some (.cells ZR 0 none)∧hh.ext.get h1.n=some (.cells [a,s,b',t] 0 none)∧bg hh (.agg #[a,s,b',t]) (rs i g) ∧
   ab fr 1=some F∧ab fr 4=some (ptr (2*h.n) 0)∧ab fr 5=some (ptr (2*h1.n) 0)∧ab fr 9=some (mkV b N)∧ab fr 10=some (KN N)∧ab fr 11=some (KN i)) N
  ⟨0,a3,s3,b3,t3,by omega,(E1.trans X1).trans Ex2,by simp,by simp (disch:=omega) only[ax,ak];exact kg,by simp (disch:=omega) only[ae],p1.aa Ex2.aa,by simp⟩ ?_
 clear p1 kg Ex2
 rintro m fr hh ⟨i,a,s,b',t,him,hE,hn,hg,hg5,hp,f1,f4,f5,f9,f10,f11⟩
 simp -dsimp (disch:=omega) only[wpS,f10,f11]
 refine aq ?_ ?_<;>intro hc<;>simp only[decide_eq_true_eq,decide_eq_false_iff_not] at hc
 ·have hi:i<N:=by omega
  simp -dsimp (disch:=omega) only[wpS,wpT,zE,f9,f11,hv.idx hi,hv.ldR hE hi]
  have X0:=Ext.refl hh
  obtain⟨_,_,L1⟩:=pl4 hg5
  have hnn:=hE.n
  refine drawn [(0,[4])] (by kernel_rfl) (by kernel_rfl) rfl ?_
  simp -dsimp (disch:=omega) only[wpS,wpT,zE,zL,zA,fA,f1,f5,aj hg5,fg]
  refine call (hF hh i hE hi) ?_
  rintro r2 h2 ⟨X2,p2⟩
  have m2:=X2.n
  simp -dsimp (disch:=omega) only[wpS,zE]
  refine call (jj (hp.aa X2.aa) p2 (hQ i (by omega)) (hk i hi).qb (by omega)) ?_
  rintro r3 h3 ⟨hE3,p3⟩
  have m3:=hE3.n
  have X3:=X2.trans hE3
  have eT:rs i g+g i=rs (i+1) g:=rfl
  rw[eT] at p3
  obtain⟨a4,s4,b4,t4,rfl,_,_,_,o1,_,o2,o3,o4⟩:=p3.parts
  have k5:=X3.kept (by omega) hg5
  have kz:=X3.kept (by omega) hg
  simp -dsimp (disch:=omega) only[wpS,wpT,zE,zL,zA,cQ,f5,k5,o1,o2,o3,o4]
  refine⟨ad rfl rfl rfl rfl (aT (H0:=hh) (b:=2*h1.n) (o:=0) f5 (by omega) X0 (by assumption) L1),?_⟩
  simp -dsimp (disch:=omega) only[wpS,wpT,zE,zA,f11]
  refine⟨m - 1,by omega,i+1,a4,s4,b4,t4,by omega,(hE.trans X3).put (by omega) _,by simp only[aH];omega,by simp (disch:=omega) only[ak];exact kz,ae _ _ rfl,p3.aa ((aJ.refl _).put k5 _),by simp[f1,f4,f5,f9,f10]⟩
 ·obtain rfl:i=N:=by omega
  obtain⟨_,_,_,_,hhe,_,_,_,o1,_,o2,o3,o4⟩:=hp.parts
  cases hhe
  simp -dsimp (disch:=omega) only[wpS,wpT,zE,zL,zA,cQ,fA,f4,f5,aj hg5,hg,fg,o1,o2,o3,o4]
  exact⟨hE.put (Nat.le_refl _) _,hp.aa ((aJ.refl _).put hg _)⟩
theorem SJ {h:IH} {v F:Value} {ws:List Nat} (hv:pE h v ws) (hl:ws.length≤60) (hF : ∀h1 p,Ext h h1→p∈ws→WV prog F [wdV p] h1 fun r h2=>Ext h1 h2∧bg h2 r (cA p)) :
  WV prog (.func (.func 176) #[] #[]) [v,F] h fun r h'=>Ext h h'∧bg h' r (rs ws.length fun i=>cA (ws.getD i 0)):=by
 obtain⟨g,hg0⟩:=aP (fun i=>cA (ws.getD i 0))
 rw[←hg0]
 have gp : ∀i,i<ws.length → ∃p,ws[i]?=some p∧g i=cA p:=fun i hi=>⟨_,List.getElem?_eq_getElem hi,by rw[hg0];simp only[List.getD_eq_getElem?_getD,List.getElem?_eq_getElem hi];rfl⟩
 have hk : ∀i,i<ws.length→OvL 1 512 (g i):=fun i hi=>by
  obtain⟨p,h1,h2⟩:=gp i hi
  rw[h2]
  exact Tl (kV (hv.2.2 p (List.mem_of_getElem? h1))).abs
 have hQ : ∀i,i≤ws.length→QB (512+i) (rs i g):=fun i hi=>(OvL.rs (by omega) (Tu _) fun j hj=>hk j (by omega)).qb
 have len:=hv.1.len (P:=prog) Dh
 refine enter (nt:=22) (rs:=[.cell 4 137]) Proofs.Tryz.func176 rfl rfl rfl (by simp) ?_
 simp -dsimp (disch:=omega) only[wpS,zA,dr]
 have E1:Ext h (h.new (.cells ZR 0 none)):=(Ext.refl h).new _
 have g1:(h.new (.cells ZR 0 none)).ext.get h.n=some (.cells ZR 0 none):=by simp (disch:=omega) only[ah]
 refine call (eH 0 ⟨by omega,by omega⟩) ?_
 rintro z h1 ⟨X1,p1⟩
 have m1:=X1.n
 simp only[aI] at m1
 obtain⟨a3,s3,b3,t3,rfl,_,_,d1,o1,d2,o2,o3,o4⟩:=p1.parts
 have kg:=X1.kept (by simp) g1
 simp -dsimp (disch:=omega) only[wpS,wpT,zE,zL,zA,dr,cQ,o1,o2,o3,o4,len]
 have Ex2:Ext h1 ((h1.new (.cells ZR 0 none)).put h1.n (.cells [a3,s3,b3,t3] 0 none)):=((Ext.refl h1).new _).put (Nat.le_refl _) _
 refine loop (fun m fr hh => ∃(i:Nat) (a s b' t:Value),i+m=ws.length∧Ext h hh∧h1.n<hh.n∧hh.ext.get h.n=some (.cells ZR 0 none)∧hh.ext.get h1.n=some (.cells [a,s,b',t] 0 none)∧bg hh (.agg #[a,s,b',t]) (rs i g) ∧
   ab fr 1=some F∧ab fr 4=some (ptr (2*h.n) 0)∧ab fr 5=some (ptr (2*h1.n) 0)∧ab fr 9=some v∧ab fr 10=some (KN ws.length)∧ab fr 11=some (KN i)) ws.length
  ⟨0,a3,s3,b3,t3,by omega,(E1.trans X1).trans Ex2,by simp,by simp (disch:=omega) only[ax,ak];exact kg,by simp (disch:=omega) only[ae],p1.aa Ex2.aa,by simp⟩ ?_
 clear p1 kg Ex2
 rintro m fr hh ⟨i,a,s,b',t,him,hE,hn,hg,hg5,hp,f1,f4,f5,f9,f10,f11⟩
 simp -dsimp (disch:=omega) only[wpS,f10,f11]
 refine aq ?_ ?_<;>intro hc<;>simp only[decide_eq_true_eq,decide_eq_false_iff_not] at hc
 ·have hi:i<ws.length:=by omega
  obtain⟨p,hpi,gpi⟩:=gp i hi
  have wp:=hv.2.2 p (List.mem_of_getElem? hpi)
  simp -dsimp (disch:=omega) only[wpS,wpT,zE,zL,zA,nh,kK,f9,f11,hv.1.idx N9 hi,hv.ld hE.aa hpi]
  obtain⟨H0,hH0⟩:=aP ((hh.new (.cells [ZW,ZW,ZW,ZW,ZW,ZW,ZW,ZW] 0 none)).put hh.n (.cells (wdC p) 0 none))
  have e0:Ext hh H0:=by rw[hH0];exact((Ext.refl hh).new _).put (Nat.le_refl _) _
  have n0:H0.n=hh.n+1:=by rw[hH0];rfl
  have gx:H0.ext.get hh.n=some (.cells (wdC p) 0 none):=by rw[hH0];simp (disch:=omega) only[ae]
  have gs:=e0.kept hn hg5
  have gz:=e0.kept (by have:=hE.n;omega) hg
  simp -dsimp (disch:=omega) only[wpS,wpT,cD,ar,cb,ev]
  rw[←hH0]
  clear hH0
  have X0:=Ext.refl H0
  obtain⟨_,_,L1⟩:=pl4 gs
  have L2:=K3 gx
  have hnn:=hE.n
  refine drawn [(0,[4])] (by kernel_rfl) (by kernel_rfl) rfl ?_
  simp -dsimp (disch:=omega) only[wpS,wpT,zE,zL,zA,fA,f1,f5,aj gs,L2,fg]
  refine call (hF H0 p (hE.trans e0) (List.mem_of_getElem? hpi)) ?_
  rintro r2 h2 ⟨X2,p2⟩
  rw[←gpi] at p2
  have m2:=X2.n
  simp -dsimp (disch:=omega) only[wpS,zE]
  refine call (jj (hp.aa (e0.trans X2).aa) p2 (hQ i (by omega)) (hk i hi).qb (by omega)) ?_
  rintro r3 h3 ⟨hE3,p3⟩
  have m3:=hE3.n
  have X3:=X2.trans hE3
  have eT:rs i g+g i=rs (i+1) g:=rfl
  rw[eT] at p3
  obtain⟨a4,s4,b4,t4,rfl,_,_,_,o1,_,o2,o3,o4⟩:=p3.parts
  have k5:=X3.kept (by omega) gs
  have kz:=X3.kept (by omega) gz
  simp -dsimp (disch:=omega) only[wpS,wpT,zE,zL,zA,cQ,f5,k5,o1,o2,o3,o4]
  refine⟨ad rfl rfl rfl rfl (aT (H0:=H0) (b:=2*h1.n) (o:=0) f5 (by omega) X0 (by assumption) L1),?_⟩
  simp -dsimp (disch:=omega) only[wpS,wpT,zE,zA,f11]
  refine⟨m - 1,by omega,i+1,a4,s4,b4,t4,by omega,((hE.trans e0).trans X3).put (by omega) _,by simp only[aH];omega,by simp (disch:=omega) only[ak];exact kz,ae _ _ rfl,p3.aa ((aJ.refl _).put k5 _),by simp[f1,f4,f5,f9,f10]⟩
 ·obtain rfl:i=ws.length:=by omega
  obtain⟨_,_,_,_,hhe,_,_,_,o1,_,o2,o3,o4⟩:=hp.parts
  cases hhe
  simp -dsimp (disch:=omega) only[wpS,wpT,zE,zL,zA,cQ,fA,f4,f5,aj hg5,hg,fg,o1,o2,o3,o4]
  exact⟨hE.put (Nat.le_refl _) _,hp.aa ((aJ.refl _).put hg _)⟩
end Go.Id
namespace Go.Id
open Go
open Nat renaming reduceAdd→zA,reduceEqDiff→zE,reduceLeDiff→zL
set_option maxHeartbeats 16000000
def pP (N M:Nat) (q:Nat→Nat→Rat):List Rat:=(List.range M).map fun m=>rs N fun j=>q j m
theorem fS (N M:Nat) (q:Nat→Nat→Rat):(pP N M q).length=M:=by simp[pP]
theorem C9 {N M m:Nat} (q:Nat→Nat→Rat) (h:m<M):(pP N M q)[m]?=some (rs N fun j=>q j m):=by
 unfold pP
 rw[List.getElem?_map,List.getElem?_range h];rfl
theorem HO {h:IH} {k j M m:Nat} {g:Nat→Rat} (t:kQ h j M g) (gk:h.ext.get k=some (.cells [KN m] 0 none)) (hkn:k<h.n) (hm:m<M) :
  WV Proofs.Tryz.prog (.func (.func 231) #[] #[ptr (2*k) 0]) [mkV j M] h fun r h'=>Ext h h'∧bg h' r (g m):=by
 obtain⟨a,s,b,u,hld,hp⟩:=t.ldK hm
 obtain⟨_,_,_,_,hhe,_,_,_,o1,_,o2,o3,o4⟩:=hp.parts
 cases hhe
 have E1:Ext h (h.new (.cells ZR 0 none)):=(Ext.refl h).new _
 have g1:(h.new (.cells ZR 0 none)).ext.get h.n=some (.cells ZR 0 none):=by simp (disch:=omega) only[ah]
 have gk1:=E1.kept hkn gk
 refine enter (nt:=8) (rs:=[.cell 3 137]) Proofs.Tryz.func231 rfl rfl rfl (by simp) ?_
 simp -dsimp (disch:=omega) only[wpS,wpT,zE,zL,zA,dr,ld3,fA,cQ,aj gk1,g1,t.idx hm,hld _ E1,o1,o2,o3,o4,fg]
 exact⟨E1.put (Nat.le_refl _) _,(hp.aa E1.aa).aa ((aJ.refl _).put g1 _)⟩
theorem Bs {h:IH} {n0 n1 b N M L x:Nat} {r:Nat→Nat} {q:Nat→Nat→Rat} (t:Tab h n0 n1 b N M r q) (hq : ∀j m,j<N→m<M→OvL L x (q j m)) (hL:0<L) (hx:L≤2 ^ x) (hb:2*x+N+1<16000000) (hM:M≤1000) :
  WV Proofs.Tryz.prog (.func (.func 179) #[] #[]) [mkV b N] h fun v h'=>Ext h h'∧nF bg h' v (pP N M q):=by
 have hN:0<N:=t.ob.some_
 refine enter (nt:=20) (rs:=[.tmp 2]) Proofs.Tryz.func179 rfl rfl rfl (by simp) ?_
 have ix0:indexAddr Proofs.Tryz.prog 147 (mkV b N) (.int .i64 0)=some (aM (mkV b N) 0):=t.idx hN
 simp -dsimp (disch:=omega) only[wpS,zE,ix0,t.ldR (Ext.refl h) hN,(t.row 0 hN).len]
 refine loop (fun m fr h1 => ∃(i:Nat) (out:Value) (cs:List Value),i+m=M∧Ext h h1∧Acc h1 h.n 4 out ((pP N M q).take i).length cs∧jR bg h1 ((pP N M q).take i) cs∧ab fr 0=some (mkV b N)∧ab fr 3=some out∧ab fr 8=some (KN M)∧ab fr 9=some (KN i)) M
  ⟨0,.slice none 0 0,[],by omega,Ext.refl _,Acc.nil h _ (by omega),by simp[jR]⟩ ?_
 rintro m fr h1 ⟨i,out,cs,him,hE,hA,hC,f0,f3,f8,f9⟩
 simp -dsimp (disch:=omega) only[wpS,f8,f9]
 refine aq ?_ ?_<;>intro hc<;>simp only[decide_eq_true_eq,decide_eq_false_iff_not] at hc
 ·have hi:i<M:=by omega
  simp -dsimp (disch:=omega) only[wpS,wpT,zE,zL,zc3,st3,f0,f3,f9]
  obtain⟨H0,hH0⟩:=aP ((h1.new (.cells [.int .i64 0] 0 none)).put h1.n (.cells [KN i] 0 none))
  have e0:Ext h1 H0:=by rw[hH0];exact((Ext.refl h1).new _).put (Nat.le_refl _) _
  have n0':H0.n=h1.n+1:=by rw[hH0];rfl
  have gk:H0.ext.get h1.n=some (.cells [KN i] 0 none):=by rw[hH0];simp (disch:=omega) only[ae]
  rw[←hH0]
  clear hH0
  have E0:=hE.trans e0
  refine call (SK (t.ext E0) (fun j=>q j i) (fun H j X hj=>HO ((t.row j hj).ext (E0.trans X)) (X.kept (by omega) gk) (by have:=X.n;omega) hi) (fun j hj=>hq j i hj hi) hL hx hb) ?_
  rintro r2 h2 ⟨X2,p2⟩
  have X02:=e0.trans X2
  have n1':=hE.n
  have n2':=X02.n
  obtain⟨a4,s4,b4,t4,rfl,_,_,_,o1,_,o2,o3,o4⟩:=p2.parts
  have hlen:((pP N M q).take i).length=i:=by rw[List.length_take,fS];omega
  obtain⟨dU,h5,hap,hA5,hC5,hG5,hE5⟩:=PS VK (by omega) gL (hA.ext X02) (hC.aa gL X02.aa) p2 (by simp[o1,o2,o3,o4]) (by omega) (by omega) (hE.trans X02) (Nat.le_refl _)
  rw[←fy (C9 q hi)] at hA5 hC5
  simp -dsimp (disch:=omega) only[wpS,wpT,zE,zL,zA,RY,CM,f9,hap]
  exact⟨m - 1,by omega,i+1,dU,_,by omega,hE5,hA5,hC5,by simp[f0,f8]⟩
 ·obtain rfl:i=M:=by omega
  rw[List.take_of_length_le (by rw[fS];omega)] at hA hC
  simp -dsimp (disch:=omega) only[wpS,wpT,zE,f3]
  exact⟨hE,cs,hA.sl,hC,by rw[fS];omega⟩
open Go.Proofs.Tryz (prog)
theorem Mem.split {m:Nat} {h h':IH} {o:bz} (x:Mem m h h') (g:h'.ext.get m=some o):Ext (h.put m o) h' :=
 ⟨x.n,x.base,fun k hk=>by
  rw[iF]
  split
  ·rename_i e;rw[e];exact g
  ·rename_i e;exact x.get k hk e,x.bT⟩
def vJ (H:IH) (N S k:Nat) (p:Nat→Nat→Rat) (hit:Nat→Bool) (s:Nat) (vs:List Value):Prop:=∀i,i<k → ∃w,vs[i]?=some w∧nF bg H w (pP N (S+1) (iR N p hit s i))
def VN (H:IH) (v:Value) (N S:Nat) (p:Nat→Nat→Rat) (hit:Nat→Bool) (s:Nat):Prop:=∃vs,bJ H 1 v (S+1) vs∧vJ H N S (S+1) p hit s vs
theorem vJ.aa {H H':IH} {N S k:Nat} {p:Nat→Nat→Rat} {hit:Nat→Bool} {s:Nat} {vs:List Value} (c:vJ H N S k p hit s vs) (K:aJ H H'):vJ H' N S k p hit s vs:=fun i hi =>
 let ⟨w,h1,h2⟩:=c i hi
 ⟨w,h1,h2.aa gL K⟩
theorem vJ.snoc {H:IH} {N S k:Nat} {p:Nat→Nat→Rat} {hit:Nat→Bool} {s:Nat} {vs:List Value} (c:vJ H N S k p hit s vs) (hl:vs.length=k) {w:Value} (hw:nF bg H w (pP N (S+1) (iR N p hit s k))):vJ H N S (k+1) p hit s (vs ++ [w]):=fun i hi=>by
 by_cases e:i=k
 ·subst e
  exact⟨w,by rw[←hl];simp,hw⟩
 ·obtain⟨w',h1,h2⟩:=c i (by omega)
  exact⟨w',by rw[List.getElem?_append_left (by omega)];exact h1,h2⟩
theorem kY {N D d S:Nat} {p:Nat→Nat→Rat} {hit:Nat→Bool} {s:Nat} (hN:0<N) (hp : ∀i j,i<N→j<N→OvL D d (p i j)) (k:Nat) {m:Nat} (hm:m<S+1):OvL (D ^ k) (k*(d+N)+N) (atQ (pP N (S+1) (iR N p hit s k)) m):=by
 have z:=yB (hit:=hit) (s:=s) hp k hN m
 unfold atQ
 rw[List.getD_eq_getElem?_getD,C9 _ hm]
 exact OvL.rs z.1 z.2.1 fun j hj=>yB hp k hj m
theorem Q3 {h h':IH} (g:Grow h h') {k:Nat} {c:List Value} {f:Option Nat} (hk:k<h.n) (hg:h.ext.get k=some (.cells c 0 f)):h'.ext.get k=some (.cells c 0 f):=by
 rcases g.get k hk with h1|⟨c',e,f1,f2,he,h1,h2⟩
 ·rw[h1];exact hg
 ·rw[hg] at h1
  cases h1
  exact absurd rfl he
theorem mS {t:TypeId} (hT:bj prog t=some false) {h:IH} {k:Nat} {e:Nat} {f:Option Nat} {v:Value} (g:h.ext.get k=some (.cells [v] e f)):load prog h t (ptr (2*k) 0)=some v:=by
 rw[cp hT,Vj (aj g)];rfl
theorem CE {h:IH} {S N s D d:Nat} {kv hv:Value} {ll:List (List (Nat×Nat))} {hit:Nat→Bool}
  (hk:jt h kv ll) (ko:df ll) (hN:N=ll.length) (hh:bJ h 1 hv N (u6 N hit)) (hS:S≤20) (hs:s<N) (hp : ∀i j,i<N→j<N→OvL D d (kAt ll i j)) (hd:d≤300000) :
  WV prog (.func (.func 79) #[] #[]) [.agg #[kv,hv],KN s,KN S] h fun v h'=>Ext h h'∧VN h' v N S (kAt ll) hit s:=by
 obtain⟨c1,c2,hlen⟩:=hk.co
 rw[←hN] at hlen
 have k1:=ko.1
 have k2:=ko.2.1
 have o3:=hh.cells
 have o4:=hh.cok
 have tk0:List.take 1 (List.drop 0 [kv,hv]) = [kv]:=rfl
 refine enter (nt:=39) (rs:=[.tmp 6]) Proofs.Tryz.func79 rfl rfl rfl (by simp) ?_
 obtain⟨H0,hH0,n0,E0,g3,g5⟩:=dY h [kv,hv] [KN S]
 simp -dsimp (disch:=try exact dx) only[wpS,zE,zA,D6,D7,TM,ld3,hlen]
 rw[←hH0]
 clear hH0
 refine call (EC (M:=S+1) (by omega) (by omega) (by omega) (by omega)) ?_
 rintro _ h1 ⟨X1,b',r',lb',rfl,T⟩
 have m1:=X1.n
 obtain⟨q1,q2⟩:=Qr b' N
 simp -dsimp (disch:=omega) only[wpS,wpT,zE,zL,Yb,UU,q1,q2]
 obtain⟨H2,hH2⟩:=aP ((h1.new (.cells [.slice none 0 0] 0 none)).put h1.n (.cells [mkV b' N] 0 none))
 have F2:Ext h1 H2:=by rw[hH2];exact((Ext.refl h1).new _).put (Nat.le_refl _) _
 have n2:H2.n=h1.n+1:=by rw[hH2];rfl
 have g7:H2.ext.get h1.n=some (.cells [mkV b' N] 0 none):=by rw[hH2];simp (disch:=omega) only[ae]
 rw[←hH2]
 clear hH2
 have T2:=T.ext F2
 have hX0:=Ext.refl H2
 have rl:=T2.ldR hX0 hs
 have ix:=T2.idx hs
 refine drawn [(0,[6]),(3,[6])] (by kernel_rfl) (by kernel_rfl) rfl ?_
 simp -dsimp (disch:=omega) only[wpS,zE,K4,aj g7,ix,rl]
 refine call (eH 1 ⟨by omega,by omega⟩) ?_
 rintro z h3 ⟨X3,p3⟩
 have T3:=T2.ext X3
 obtain⟨a1,a2,a3,a4,rfl,_,_,d1,o1,d2,o2,o5,o6⟩:=p3.parts
 obtain⟨cs',c,gr,st,T4⟩:=T3.set hs (show 0<S+1 by omega) p3 (by simp[o1,o2,o5,o6])
 rw[Nat.zero_mul] at st
 have iy:indexAddr prog 139 (mkV (r' s) (S+1)) (.int .i64 0)=some (aM (mkV (r' s) (S+1)) 0):=by
  have:=(T3.row s hs).idx (show 0<S+1 by omega)
  rwa [Nat.zero_mul] at this
 simp -dsimp (disch:=omega) only[wpS,zE,iy,st]
 refine⟨ay (ad rfl rfl rfl rfl (ai rfl (mS Si g7) (mS Si (X3.kept (by omega) g7)))) (ad rfl rfl rfl rfl (ai rfl rl (T2.ldR X3 hs))),?_⟩
 have ls:=T.lr s hs
 have n3:=X3.n
 obtain⟨H4,hH4⟩:=aP (h3.put (r' s) (.cells cs' 4 none))
 rw[←hH4] at T4 ⊢
 have g74:H4.ext.get h1.n=some (.cells [mkV b' N] 0 none):=by rw[hH4,ak _ _ (by omega)];exact X3.kept (by omega) g7
 have E4:Ext H0 H4:=by rw[hH4];exact((X1.trans F2).trans X3).put (by omega) _
 have n4:H4.n=h3.n:=by rw[hH4];rfl
 clear hH4 st gr T3 T2 T
 have T5:Tab H4 b' h1.n b' N (S+1) r' (iR N (kAt ll) hit s 0):=T4.congr fun a m _ _=>by rw[iR];rfl
 clear T4
 have cO : ∀k,k≤S → ∀j m,j<N→m<S+1→OvL (D ^ k) (k*(d+N)) (iR N (kAt ll) hit s k j m):=fun k _ j m hj _=>yB hp k hj m
 have kb : ∀k,k≤S→k*(d+N)≤20*(d+N):=fun k hk=>Nat.mul_le_mul_right _ (by omega)
 have z0:=cO 0 (by omega) 0 0 (by omega) (by omega)
 simp -dsimp (disch:=omega) only[wpS,wpT,zE,zA,K4,aj g74]
 refine call (Bs T5 (cO 0 (by omega)) z0.1 z0.2.1 (by have:=kb 0 (by omega);omega) (by omega)) ?_
 rintro w0 h5 ⟨X5,e0⟩
 have n5:=X5.n
 obtain⟨_,sw,_,_⟩:=id e0
 have w1:=sw.cells
 have w2:=sw.cok
 have g55:=(E4.trans X5).kept (by omega) g5
 simp -dsimp (disch:=omega) only[wpS,wpT,zE,zL,zA,ld3,VD,w1,aj g55]
 obtain⟨H6,hH6⟩:=aP (h5.new (.cells [w0] 1 none))
 have F6:Ext h5 H6:=by rw[hH6];exact(Ext.refl h5).new _
 have n6:H6.n=h5.n+1:=by rw[hH6];rfl
 have G6:Gro H6 H0.n 1 (.slice (some ⟨2*h5.n,0,none⟩) 1 3) 1 [w0]:=by
  rw[hH6]
  exact(Ug (h:=h5) (sz:=1) (m:=1) (by omega) rfl (by omega)).from (by have:=E4.n;omega)
 rw[←hH6]
 clear hH6
 have E6:=E4.trans (X5.trans F6)
 have g76:=(X5.trans F6).kept (by omega) g74
 have T6:=T5.ext (X5.trans F6)
 have V6:vJ H6 N S 1 (kAt ll) hit s [w0]:=fun i hi=>⟨w0,by
  obtain rfl:i=0:=by omega
  rfl,by
  obtain rfl:i=0:=by omega
  exact e0.aa gL F6.aa⟩
 refine loop (fun m fr H => ∃(k:Nat) (out v:Value) (vs:List Value) (rv:Nat→Value),k+m=S∧Ext H0 H∧h1.n<H.n∧H.ext.get h1.n=some (.cells [v] 0 none)∧sj H v N (S+1) rv (iR N (kAt ll) hit s k)∧Gro H H0.n 1 out (k+1) vs∧vJ H N S (k+1) (kAt ll) hit s vs ∧
   ab fr 5=some (ptr (2*(h.n+1)) 0)∧ab fr 7=some (ptr (2*h1.n) 0)∧ab fr 8=some out∧ab fr 9=some (.func (.func 180) #[] #[ptr (2*h.n) 0,ptr (2*(h.n+1)) 0,ptr (2*h1.n) 0])∧ab fr 27=some (KN S)∧ab fr 28=some (KN k)) S
  ⟨0,_,_,[w0],_,by omega,E6,by omega,g76,T6.toR (by omega),G6,V6,by simp⟩ ?_
 clear E6 g76 T6 V6 G6 F6 T5 E4 g74 e0 sw X5 ls
 rintro m fr H ⟨k,out,v,vs,rv,hkm,E,lH,g7',T,G,V,f5,f7,f8,f9,f27,f28⟩
 simp -dsimp (disch:=omega) only[wpS,f27,f28]
 refine aq ?_ ?_<;>intro hc<;>simp only[decide_eq_true_eq,decide_eq_false_iff_not] at hc
 ·have hkS:k<S:=by omega
  have K:=(E0.trans E).aa
  have g3':=E.kept (by omega) g3
  have g5':=E.kept (by omega) g5
  have nH:=E.n
  have kb1:=kb k (by omega)
  have kb2:=kb (k+1) (by omega)
  simp -dsimp (disch:=omega) only[wpS,wpT,zE,f9]
  refine call (RK (hk.aa K) ko hN (hh.aa K) hS g3' g5' g7' (by omega) (by omega) (by omega) T (fun i m hi=>yB hp k hi m) hp (fun i hi=>RQ k hkS) (by omega)) ?_
  rintro _ h7 ⟨M7,b2,r2,n02,l2,g77,T7⟩
  have T7:Tab h7 n02 h7.n b2 N (S+1) r2 (iR N (kAt ll) hit s (k+1)):=T7.congr fun a m _ _=>Wx a m fun i m _=>rfl
  have S7:=M7.split g77
  have E7:Ext H0 h7:=(E.put (by omega) _).trans S7
  have G7:=(G.put g7' (.cells [mkV b2 N] 0 none)).ext S7
  have V7:=(V.aa ((aJ.refl H).put g7' (.cells [mkV b2 N] 0 none))).aa S7.aa
  have n7:=M7.n
  have z1:=cO (k+1) (by omega) 0 0 (by omega) (by omega)
  simp -dsimp (disch:=omega) only[wpS,zE,K4,f7,f8,aj g77]
  refine call (Bs T7 (cO (k+1) (by omega)) z1.1 z1.2.1 (by omega) (by omega)) ?_
  rintro w h8 ⟨X8,e8⟩
  have n8:=X8.n
  obtain⟨_,sw,_,_⟩:=id e8
  have w1:=sw.cells
  have w2:=sw.cok
  obtain⟨dU,h9,hap,A9,G9,E9⟩:=(G7.ext X8).se (P:=prog) (t:=147) ZaA (m:=1) (new:=[w]) (by omega) rfl (by simp[w2]) (by omega) (by omega) (E7.trans X8) (Nat.le_refl _)
  simp -dsimp (disch:=omega) only[wpS,wpT,zE,zL,zA,VD,OC,f28,w1,hap]
  have g79:h9.ext.get h1.n=some (.cells [mkV b2 N] 0 none):=Q3 G9 (by omega) (X8.kept (by omega) g77)
  exact⟨m - 1,by omega,k+1,dU,_,vs ++ [w],_,by omega,E9,by have:=G9.n;omega,g79,(T7.toR (by omega)).aa (X8.aa.trans G9.aa),.inl A9,((V7.aa X8.aa).snoc (by have:=G7.sl.2.1;omega) e8).aa G9.aa,by simp[f5,f7,f9,f27]⟩
 ·obtain rfl:k=S:=by omega
  simp -dsimp (disch:=omega) only[wpS,wpT,zE,f8]
  exact⟨E0.trans E,vs,G.sl,V⟩
end Go.Id

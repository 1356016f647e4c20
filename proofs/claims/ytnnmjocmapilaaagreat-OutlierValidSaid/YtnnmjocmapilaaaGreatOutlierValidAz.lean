/-
  Contracts: share's operations on two shares.
-/
import Derived.Test.YtnnmjocmapilaaaGreatOutlierValidAx
set_option linter.unusedVariables false
set_option linter.unusedSimpArgs false
set_option linter.defProp false
set_option linter.deprecated false
namespace Go.Id
open Go
open Go.Proofs.Tryz (prog)
open Nat renaming reduceAdd→zA,reduceEqDiff→zE,reduceLeDiff→zL
set_option maxHeartbeats 16000000
theorem rp.rat {h:IH} {v:Value} {n d:Nat} (p:rp h v (wdI n) (wdI d)) (ok:okS n d):bg h v (rOf (n,d)):=by
 obtain⟨e1,e2⟩:=dC (p:=(n,d)) ok
 unfold bg
 rw[e1,e2]
 exact p
theorem HN {h:IH} {n1 d1 n2 d2:Nat} (h1:n1<W8) (h2:d1<W8) (h3:n2<W8) (h4:d2<W8):iT (h.new (.cells (shL [(n1,d1),(n2,d2)]) 16 none)) (.slice (some ⟨2*h.n,0,none⟩) 2 5) [(n1,d1),(n2,d2)]:=by
 refine⟨cT (k:=h.n) (f:=none) (ah _ _ rfl) (by simp) (by decide) (by rw[Kk];rfl) (by omega) (by omega),by simp,?_⟩
 intro p hp
 simp at hp
 rcases hp with rfl|rfl
 ·exact⟨h1,h2⟩
 ·exact⟨h3,h4⟩
theorem S5 {h:IH} {n1 d1 n2 d2:Nat} {fv:Value} {q:Rat} (h1:n1<W8) (h2:d1<W8) (h3:n2<W8) (h4:d2<W8) (ok1:okS n1 d1) (ok2:okS n2 d2)
  (op : ∀(h':IH) (v w:Value),bg h' v (rOf (n1,d1))→bg h' w (rOf (n2,d2))→WV prog fv [v,w] h' fun r h''=>Ext h' h''∧bg h'' r q) :
  WV prog (.func (.func 86) #[] #[]) [shV n1 d1,shV n2 d2,fv] h fun r h'=>Ext h h' ∧ ∃x,r=.tuple #[x,KI 0]∧bg h' x q:=by
 refine enter (nt:=21) (rs:=[.cell 6 137,.tmp 7]) Proofs.Tryz.func86 rfl rfl rfl (by simp) ?_
 simp -dsimp (disch:=try exact dx) only[wpS,zE,zA,dr,bY,aB]
 obtain⟨H0,hH0,n0,E0,g0,g1,g2⟩:=fP h (shC n1 d1) (shC n2 d2) ZR
 rw[←hH0]
 clear hH0
 have X0:=Ext.refl H0
 have bb : ∀hx:IH,buildSlice prog hx 61 2 [(0,.agg (shC n1 d1).toArray),(1,.agg (shC n2 d2).toArray)]=some (.slice (some ⟨2*hx.n,0,none⟩) 2 5,hx.new (.cells (shL [(n1,d1),(n2,d2)]) 16 none)):=fun hx=>JF n1 d1 n2 d2
 simp -dsimp (disch:=try exact dx) only[wpS,zE,zL,bY,aj g1,au,aO,bb]
 refine call (tk (HN h1 h2 h3 h4)) ?_
 rintro _ k1 ⟨Y1,rfl⟩
 have X1:Ext H0 k1:=(X0.new _).trans Y1
 have dt:decide (∀p ∈ [(n1,d1),(n2,d2)],okS p.1 p.2)=true:=decide_eq_true (by
  intro p hp
  simp at hp
  rcases hp with rfl|rfl
  ·exact ok1
  ·exact ok2)
 rw[dt]
 have L2:=(psh g1).2.2
 simp -dsimp (disch:=omega) only[wpS,wpT,zE]
 refine drawn [(3,[2])] (by kernel_rfl) (by kernel_rfl) rfl ?_
 simp -dsimp (disch:=omega) only[wpS,zE,zL,bY,aj (X1.kept (by omega) g0),au,aO]
 refine call (cW n1 d1 h1 h2) ?_
 rintro v k2 ⟨Y2,p2⟩
 have X2:=X1.trans Y2
 simp -dsimp (disch:=omega) only[wpS,zE,zL,bY,aj (X2.kept (by omega) g1),au,aO]
 refine call (cW n2 d2 h3 h4) ?_
 rintro w k3 ⟨Y3,p3⟩
 have X3:=X2.trans Y3
 simp -dsimp (disch:=omega) only[wpS,zE]
 refine call (op k3 v w (bg.aa (p2.rat ok1) Y3.aa) (p3.rat ok2)) ?_
 rintro x k4 ⟨Y4,p4⟩
 have X4:=X3.trans Y4
 have m1:=X4.n
 obtain⟨a1,s1,b1,t1,rfl,hn1,hd1,c1,o1,c2,o2,o3,o4⟩:=p4.parts
 have kg:=X4.kept (by omega) g2
 simp -dsimp (disch:=omega) only[wpS,wpT,zE,zL,zA,cQ,kg,o1,o2,o3,o4]
 refine⟨by repeat' first|refine ay ?_ ?_|refine az ?_ ?_|exact ad rfl rfl rfl rfl (aT (H0:=H0) rfl (by omega) (by assumption) (by assumption) (by with_reducible assumption)),?_⟩
 simp -dsimp (disch:=try exact dx) only[wpS,wpT,zE,zL,zA,fA,fg]
 have kp:=(aJ.refl k4).put kg (.cells [a1,s1,b1,t1] 0 none)
 exact⟨(E0.trans X4).put (by omega) _,_,rfl,p4.aa kp⟩
theorem Li {h:IH} {n1 d1 n2 d2:Nat} {fv:Value} {z:Int} (h1:n1<W8) (h2:d1<W8) (h3:n2<W8) (h4:d2<W8) (ok1:okS n1 d1) (ok2:okS n2 d2)
  (op : ∀(h':IH) (v w:Value),bg h' v (rOf (n1,d1))→bg h' w (rOf (n2,d2))→WV prog fv [v,w] h' fun r h''=>Ext h' h''∧r=KI z) :
  WV prog (.func (.func 89) #[] #[]) [shV n1 d1,shV n2 d2,fv] h fun r h'=>Ext h h'∧r=.tuple #[KI z,KI 0]:=by
 refine enter (nt:=21) (rs:=[.tmp 6,.tmp 7]) Proofs.Tryz.func89 rfl rfl rfl (by simp) ?_
 simp -dsimp (disch:=try exact dx) only[wpS,zE,zA,bY,aB]
 obtain⟨H0,hH0,n0,E0,g0,g1⟩:=dY h (shC n1 d1) (shC n2 d2)
 rw[←hH0]
 clear hH0
 have X0:=Ext.refl H0
 have bb : ∀hx:IH,buildSlice prog hx 61 2 [(0,.agg (shC n1 d1).toArray),(1,.agg (shC n2 d2).toArray)]=some (.slice (some ⟨2*hx.n,0,none⟩) 2 5,hx.new (.cells (shL [(n1,d1),(n2,d2)]) 16 none)):=fun hx=>JF n1 d1 n2 d2
 simp -dsimp (disch:=try exact dx) only[wpS,zE,zL,bY,aj g1,au,aO,bb]
 refine call (tk (HN h1 h2 h3 h4)) ?_
 rintro _ k1 ⟨Y1,rfl⟩
 have X1:Ext H0 k1:=(X0.new _).trans Y1
 have dt:decide (∀p ∈ [(n1,d1),(n2,d2)],okS p.1 p.2)=true:=decide_eq_true (by
  intro p hp
  simp at hp
  rcases hp with rfl|rfl
  ·exact ok1
  ·exact ok2)
 rw[dt]
 have L2:=(psh g1).2.2
 simp -dsimp (disch:=omega) only[wpS,wpT,zE]
 refine drawn [(3,[2])] (by kernel_rfl) (by kernel_rfl) rfl ?_
 simp -dsimp (disch:=omega) only[wpS,zE,zL,bY,aj (X1.kept (by omega) g0),au,aO]
 refine call (cW n1 d1 h1 h2) ?_
 rintro v k2 ⟨Y2,p2⟩
 have X2:=X1.trans Y2
 simp -dsimp (disch:=omega) only[wpS,zE,zL,bY,aj (X2.kept (by omega) g1),au,aO]
 refine call (cW n2 d2 h3 h4) ?_
 rintro w k3 ⟨Y3,p3⟩
 have X3:=X2.trans Y3
 simp -dsimp (disch:=omega) only[wpS,zE]
 refine call (op k3 v w (bg.aa (p2.rat ok1) Y3.aa) (p3.rat ok2)) ?_
 rintro _ k4 ⟨Y4,rfl⟩
 have X4:=X3.trans Y4
 simp -dsimp (disch:=omega) only[wpS,zE]
 refine⟨by repeat' first|refine ay ?_ ?_|refine az ?_ ?_|exact ad rfl rfl rfl rfl (aT (H0:=H0) rfl (by omega) (by assumption) (by assumption) (by with_reducible assumption)),?_⟩
 simp -dsimp (disch:=try exact dx) only[wpS,wpT,zE,zA]
 exact E0.trans X4
theorem ML {h:IH} {v:Value} {q:Rat} (hv:bg h v q):WV prog (.func (.func 85) #[] #[]) [v,KI 0] h fun r h'=>Ext h h'∧r=gY q:=by
 obtain⟨a1,s1,b1,t1,rfl,hn1,hd1,c1,o1,c2,o2,o3,o4⟩:=hv.parts
 obtain⟨n,d,e,ht⟩:=lV q
 refine enter (nt:=14) (rs:=[.cell 4 32,.tmp 5]) Proofs.Tryz.func85 rfl rfl rfl (by simp) ?_
 simp -dsimp (disch:=try exact dx) only[wpS,wpT,zE,zL,zA,gC,fA]
 obtain⟨H0,hH0,n0,E0,g0,g1⟩:=dY h [a1,s1,b1,t1] Z16
 rw[←hH0]
 clear hH0
 simp -dsimp (disch:=try exact dx) only[fg]
 refine call (uD (hv.aa E0.aa)) ?_
 rintro _ h1 ⟨X1,rfl⟩
 have hT:(open Classical in if QW q then Value.tuple #[hZ q,KI 0] else .tuple #[shV 0 0,KI 6])=.tuple #[shV n d,KI e]:=ht
 rw[hT,ht]
 have m1:=X1.n
 have kg:=X1.kept (by omega) g1
 simp -dsimp (disch:=try exact dx) only[wpS,wpT,zE,zL,zA,ed,bY,kg,aB,au,aY,bC,aO]
 exact⟨(E0.trans X1).put (by omega) _,rfl⟩
theorem Fz {h:IH} {p1 p2:Nat×Nat} (h1:p1.1<W8∧p1.2<W8) (h2:p2.1<W8∧p2.2<W8) (ok1:okS p1.1 p1.2) (ok2:okS p2.1 p2.2):WV prog (.func (.func 24) #[] #[]) [shV p1.1 p1.2,shV p2.1 p2.2] h fun r h'=>Ext h h'∧r=gY (rOf p1*rOf p2):=by
 have q1:=jm (p:=p1) h1.1 h1.2 ok1
 have q2:=jm (p:=p2) h2.1 h2.2 ok2
 obtain⟨n,d,e,ht⟩:=lV (rOf p1*rOf p2)
 refine enter (nt:=14) (rs:=[.cell 4 32,.tmp 5]) Proofs.Tryz.func24 rfl rfl rfl (by simp) ?_
 simp -dsimp (disch:=try exact dx) only[wpS,zE,zA,gC,bY,aB]
 obtain⟨H0,hH0,n0,E0,g0,g1,g2⟩:=fP h (shC p1.1 p1.2) (shC p2.1 p2.2) Z16
 rw[←hH0]
 clear hH0
 simp -dsimp (disch:=try exact dx) only[wpS,zE,zL,bY,aj g1,au,aO]
 refine call (S5 (q:=rOf p1*rOf p2) h1.1 h1.2 h2.1 h2.2 ok1 ok2 (fun h' v w a b=>iZ a b q1 q2 (by omega))) ?_
 rintro _ k1 ⟨X1,x,rfl,px⟩
 simp -dsimp (disch:=omega) only[wpS,zE]
 refine call (ML px) ?_
 rintro _ k2 ⟨X2,rfl⟩
 rw[ht]
 have X12:=X1.trans X2
 have m1:=X12.n
 have kg:=X12.kept (by omega) g2
 simp -dsimp (disch:=try exact dx) only[wpS,wpT,zE,zL,zA,bY,ed,kg,aB,au,aY,bC,aO]
 exact⟨(E0.trans X12).put (by omega) _,rfl⟩
theorem zi {h:IH} {p1 p2:Nat×Nat} (h1:p1.1<W8∧p1.2<W8) (h2:p2.1<W8∧p2.2<W8) (ok1:okS p1.1 p1.2) (ok2:okS p2.1 p2.2):WV prog (.func (.func 26) #[] #[]) [shV p1.1 p1.2,shV p2.1 p2.2] h fun r h'=>Ext h h'∧r=.tuple #[KI (if rOf p1<rOf p2 then -1 else if rOf p1=rOf p2 then 0 else 1),KI 0]:=by
 have q1:=jm (p:=p1) h1.1 h1.2 ok1
 have q2:=jm (p:=p2) h2.1 h2.2 ok2
 refine enter (nt:=11) (rs:=[.tmp 4,.tmp 5]) Proofs.Tryz.func26 rfl rfl rfl (by simp) ?_
 simp -dsimp (disch:=try exact dx) only[wpS,zE,zA,bY,aB]
 obtain⟨H0,hH0,n0,E0,g0,g1⟩:=dY h (shC p1.1 p1.2) (shC p2.1 p2.2)
 rw[←hH0]
 clear hH0
 simp -dsimp (disch:=try exact dx) only[wpS,zE,zL,bY,aj g1,au,aO]
 refine call (Li h1.1 h1.2 h2.1 h2.2 ok1 ok2 (fun h' v w a b=>rH a b q1 q2 (by omega))) ?_
 rintro _ k1 ⟨X1,rfl⟩
 simp -dsimp (disch:=try exact dx) only[wpS,wpT,zE]
 exact E0.trans X1
theorem Ia {h:IH} {v w:Value} {x y:Rat} (hv:bg h v x) (hw:bg h w y):WV prog (.func (.func 91) #[] #[]) [v,w] h fun r h'=>Ext h h'∧r=KI (if x<0 then -1 else if x=0 then 0 else 1):=by
 obtain⟨a1,s1,b1,t1,rfl,hn1,hd1,c1,o1,c2,o2,o3,o4⟩:=hv.parts
 obtain⟨a2,s2,b2,t2,rfl,hn2,hd2,c5,o5,c6,o6,o7,o8⟩:=hw.parts
 refine enter (nt:=8) (rs:=[.tmp 4]) Proofs.Tryz.func91 rfl rfl rfl (by simp) ?_
 simp -dsimp (disch:=try exact dx) only[wpS,wpT,zE,zL,zA,fM,bE]
 obtain⟨H0,hH0,n0,E0,g0,g1⟩:=dY h [a1,s1,b1,t1] [a2,s2,b2,t2]
 rw[←hH0]
 clear hH0
 simp -dsimp (disch:=try exact dx) only[tkA]
 refine call (kD (hn1.aa E0.aa)) ?_
 rintro _ h1 ⟨X1,rfl⟩
 have e:(if x.num<0 then (-1:Int) else if x.num=0 then 0 else 1)=if x<0 then -1 else if x=0 then 0 else 1:=by
  have hlt:x<0↔x.num<0:=by rw[Rat.lt_iff];simp
  by_cases c:x<0
  ·rw[if_pos c,if_pos (hlt.1 c)]
  ·rw[if_neg c,if_neg (fun h=>c (hlt.2 h))]
   by_cases c2:x=0
   ·rw[if_pos c2,if_pos (Rat.num_eq_zero.2 c2)]
   ·rw[if_neg c2,if_neg (fun h=>c2 (Rat.num_eq_zero.1 h))]
 rw[e]
 simp -dsimp (disch:=omega) only[wpS,wpT,zE]
 exact E0.trans X1
theorem BC {h:IH} {p1:Nat×Nat} (h1:p1.1<W8∧p1.2<W8) (ok1:okS p1.1 p1.2):WV prog (.func (.func 27) #[] #[]) [shV p1.1 p1.2] h fun r h'=>Ext h h'∧r=.tuple #[KI (if rOf p1<0 then -1 else if rOf p1=0 then 0 else 1),KI 0]:=by
 refine enter (nt:=9) (rs:=[.tmp 2,.tmp 3]) Proofs.Tryz.func27 rfl rfl rfl (by simp) ?_
 simp -dsimp (disch:=omega) only[wpS,zE,bY,aB]
 obtain⟨H0,hH0⟩:=aP (h.new (.cells (shC p1.1 p1.2) 0 none))
 have E0:Ext h H0:=by rw[hH0];exact(Ext.refl h).new _
 have g0:H0.ext.get h.n=some (.cells (shC p1.1 p1.2) 0 none):=by rw[hH0];simp (disch:=omega) only[ah]
 rw[←hH0]
 clear hH0
 simp -dsimp (disch:=omega) only[wpS,zE,zL,bY,aj g0,au,aO]
 refine call (Li h1.1 h1.2 h1.1 h1.2 ok1 ok1 (fun h' v w a b=>Ia a b)) ?_
 rintro _ k1 ⟨X1,rfl⟩
 simp -dsimp (disch:=omega) only[wpS,wpT,zE]
 exact E0.trans X1
end Go.Id
namespace Go.Id
open Go

def E1 (P:Program) (tb:FuncId→Option (List Value→Option Value)):Env:=⟨P,fun _ _=>none,fun f=>(tb f).map fun g args h=>bif args.all plain then (g args).map (·,h) else none⟩
theorem Nc {m:Mp} {l l':List Value} (h:bm m l l') (hp:l.all plain=true):l'=l:=by
 apply List.ext_getElem? fun i=>?_
 by_cases hi:i<l.length
 ·obtain⟨v',h1,h2⟩:=h.get (List.getElem?_eq_getElem hi)
  rw[h1,List.getElem?_eq_getElem hi,h2.cV (by have:=List.all_eq_true.1 hp;exact this _ (List.getElem_mem hi))]
 ·rw[List.getElem?_eq_none (show l'.length≤i from h.1▸Nat.le_of_not_lt hi),List.getElem?_eq_none (Nat.le_of_not_lt hi)]
theorem uM {m:Mp} {l:List Value} (hp:l.all plain=true):bm m l l :=
 ⟨rfl,fun i v v' a b=>by
  rw[a] at b;cases b
  exact .bP (List.all_eq_true.1 hp _ (List.mem_of_getElem? a))⟩
theorem Rel.bare {B:Nat} {w0:World} {m:Mp} {h:IH} {w:World} (R:Rel B w0 m h w):Rel B w0 ⟨fun b=>if b % 2=1 then m b else none,m.ez⟩ (IH.start fun _=>none) w:=by
 have leaf : ∀{α:Type} (k:Nat),(Tr.leaf:Tr α).get k=none:=fun k=>rfl
 have odd : ∀k x,(⟨fun b=>if b % 2=1 then m b else none,m.ez⟩:Mp) (2*k)=some x→False:=by
  intro k x h
  have h1:(if 2*k % 2=1 then m (2*k) else none)=some x:=h
  rw[if_neg (by omega)] at h1;cases h1
 refine⟨R.below,R.size,?_,fun b h=>?_,?_,fun k _=>leaf k,?_,?_,?_,?_,?_,?_⟩
 ·intro b cs h;cases h
 ·show(if (2*b+1) % 2=1 then m (2*b+1) else none)=_
  rw[if_pos (by omega)];exact R.odd b h
 ·intro k r s h;exact(odd _ _ h).elim
 ·intro k o r s h;cases h
 ·intro k k' o o' r s s' _ h;cases h
 ·intro f st h;cases h
 ·intro k cs t f h;cases h
 ·intro f st h;cases h
 ·intro f st x y h;cases h
theorem fQ.same {m:Mp} {w w':World} {r s:Nat} {z:Nat×Nat} {o:bz} (h:fQ m w r s z o) (e:w'.heap[r]?=w.heap[r]?):fQ m w' r s z o:=by
 cases o<;>simp only[fQ] at h ⊢ <;> first|(rw[e];exact h)|trivial
theorem Rel.aside {B:Nat} {w0:World} {m m':Mp} {h h':IH} {w w':World} (R:Rel B w0 m h w) (R':Rel B w0 m' h' w') (S:Step ⟨fun b=>if b % 2=1 then m b else none,m.ez⟩ (IH.start fun _=>none) w m' h' w'):Rel B w0 m h w'∧Step m h w m h w':=by
 have same : ∀r,r<w.heap.size→w'.heap[r]?=w.heap[r]?:=fun r hr=>S.frame r hr fun k s hk=>absurd hk (Nat.not_lt_zero k)
 refine⟨⟨R'.below,R'.size,fun b cs hb=>?_,R.odd,fun k r s hk=>?_,R.dom,fun k o r s hk hm=>?_,R.own,R.cY,R.fam,R.long,R.whole⟩,
  ⟨Mp.le_refl m,fun b hb=>absurd rfl hb,Nat.le_refl _,rfl,fun r hr _=>same r hr,fun _ _ _=>rfl,S.size,fun k r s h1 h2=>by omega,fun _ _ _ hh=>hh⟩⟩
 ·obtain⟨r,s,h1,h2,c,el,fz,h3,h4⟩:=R.base b cs hb
  exact⟨r,s,h1,h2,c,el,fz,by rw[same r (by have:=R.size;omega)];exact h3,h4⟩
 ·have:=R.even k r s hk
  have:=S.size
  exact⟨by omega,by omega⟩
 ·exact(R.obj k o r s hk hm).same (same r (R.even k r s hm).2)
def mc:Value→Bool
 | .tuple vs=>vs.toList.all plain
 | v=>plain v
theorem aD.BR {m:Mp} {v v':Value} (h:aD m v v') (hv:mc v=true):v'=v:=by
 unfold mc at hv
 split at hv
 ·obtain⟨cs',rfl,h2⟩:=h.nL
  have:=bm.cV h2 hv
  exact congrArg Value.tuple (Array.ext' this)
 ·exact h.cV hv
theorem aD.BQ {m:Mp} {v:Value} (hv:mc v=true):aD m v v:=by
 unfold mc at hv
 split at hv
 ·exact aD.fx (uM hv)
 ·exact .bP hv
def Mm (P:Program) (f:FuncId) (args:List Value) (v:Value):Prop :=
 ∀(B:Nat) (w0:World) (m:Mp) (h:IH) (w:World),Rel B w0 m h w → ∃h2,kh P f args.toArray B w0 ⟨fun b=>if b % 2=1 then m b else none,m.ez⟩ (IH.start fun _=>none) w v h2
theorem Ch {E:Env} (S:Sound E) {n:Nat} {f:FuncId} {args:List Value} {v:Value} {h2:IH} (hr:bU E (n+1) (.func (.func f) #[] #[]) args (IH.start fun _=>none)=some (v,h2)) (hb : ∃fn,E.P.funcs[f]?=some fn∧fn.body.isSome=true) (hp:args.all plain=true):Mm E.P f args v:=by
 intro B w0 m h w R
 refine⟨h2,?_⟩
 have hc:=hr
 unfold bU at hc
 have fresh:eo ⟨fun b=>if b % 2=1 then m b else none,m.ez⟩ (IH.start fun _=>none).n h2.n:=fun k _ _=>by
  show(if 2*k % 2=1 then m (2*k) else none)=none
  rw[if_neg (by omega)]
 obtain⟨fn,hfn,hb⟩:=hb
 rcases tU S (ot S n) (gN S n) hc R.bare (args':=args.toArray) (by simpa using uM hp) fresh with⟨_,k⟩|⟨fn',k1,k2,_⟩
 ·exact k
 ·have k3:E.P.funcs[f]?=some fn':=k1
  rw[hfn] at k3;cases k3
  rw[k2] at hb;cases hb
theorem Q4 {P:Program} (S:Sound (E0 P)) {f:FuncId} {args:List Value} {v:Value} (hb : ∃fn,P.funcs[f]?=some fn∧fn.body.isSome=true) (hp:args.all plain=true) (h:WV P (.func (.func f) #[] #[]) args (IH.start fun _=>none) fun r _=>r=v):Mm P f args v:=by
 obtain⟨⟨r,h2⟩,⟨N,hN⟩,hr⟩:=h
 simp only at hr
 subst hr
 exact Ch (E:=E0 P) S (hN (N+1) (by omega)) hb hp
theorem Wd {P:Program} {tb:FuncId→Option (List Value→Option Value)} (S:Sound (E0 P)) (hf : ∀f g,tb f=some g → ∃fn,P.funcs[f]?=some fn∧fn.body.isSome=true)
  (hv : ∀f g,tb f=some g → ∀args v,args.all plain=true→g args=some v→mc v=true∧Mm P f args v):Sound (E1 P tb) where
 mixed:=S.mixed
 names:=S.names
 origin:=S.origin
 GM:=fun f g hg args h v h' e=>by
  obtain⟨g0,h1,rfl⟩:=Option.map_eq_some_iff.1 hg
  simp only[cond_eq_ite] at e
  split at e
  ·obtain⟨v0,_,e2⟩:=Option.map_eq_some_iff.1 e
   cases e2;exact Nat.le_refl _
  ·cases e
 rZ:=fun f g hg=>by
  obtain⟨g0,h1,rfl⟩:=Option.map_eq_some_iff.1 hg
  refine⟨hf f g0 h1,fun args h v h' e B w0 m w args' R fV _=>?_⟩
  simp only[cond_eq_ite] at e
  split at e
  case isFalse=>cases e
  rename_i hp
  obtain⟨v0,e1,e2⟩:=Option.map_eq_some_iff.1 e
  cases e2
  obtain⟨hpl,hg⟩:=hv f g0 h1 args v hp e1
  obtain⟨h2,key⟩:=hg B w0 m h w R
  have ea:args.toArray=args':=by
   rw[←Nc fV hp]
  rw[ea] at key
  refine key.mono fun e' w' ⟨v',m',he,hvr,R',S'⟩=>?_
  obtain⟨R2,S2⟩:=R.aside R' S'
  exact⟨v',m,he,by rw[hvr.BR hpl];exact .BQ hpl,R2,S2⟩
noncomputable section
def fN {α:Type} (x:Nat) (k:Nat→α):α:=Nat.rec (motive:=fun _=>α) (k 0) (fun m _=>k (Nat.succ m)) x
theorem dO {α:Type} (x:Nat) (k:Nat→α):fN x k=k x:=by cases x<;>rfl
def bO {α β:Type} (o:Option α) (k:α→Option β):Option β:=Option.rec (motive:=fun _=>Option β) none k o
@[simp] theorem aW {α β:Type} (a:α) (k:α→Option β):bO (some a) k=k a:=rfl
@[simp] theorem Za6 {α β:Type} (k:α→Option β):bO none k=none:=rfl
def iB {α:Type} (b:Bool) (x y:α):α:=Bool.rec (motive:=fun _=>α) y x b
theorem eh {α:Type} (b:Bool) (x y:α):iB b x y=cond b x y:=by cases b<;>rfl
@[simp] theorem yy {α:Type} (x y:α):iB true x y=x:=rfl
@[simp] theorem qP {α:Type} (x y:α):iB false x y=y:=rfl
theorem qZ {a b:Nat}:Nat.ble a b=true↔a≤b:=by rw[Nat.ble_eq]
theorem kP (a b:Nat):(a == b)=Nat.beq a b:=by
 rw[Bool.eq_iff_iff];simp[Nat.beq_eq]
def vg (fr:Fr) (t:Nat):Option Value:=List.rec (motive:=fun _=>Option Value) none (fun p _ ih=>Bool.rec (motive:=fun _=>Option Value) ih (some p.2) (Nat.beq p.1 t)) fr
theorem oq : ∀(fr:Fr) (t:Nat),vg fr t=ab fr t
 | [],_=>rfl
 | (s,v) :: r,t=>by
  show Bool.rec (motive:=fun _=>Option Value) (vg r t) (some v) (Nat.beq s t)=bif s == t then some v else ab r t
  rw[oq r t,kP]
  cases Nat.beq s t<;>rfl
def P1 (nt:Nat) (fr:Fr) (d:Option Nat) (v:Value):Option Fr:=Option.rec (motive:=fun _=>Option Fr) (some fr) (fun d=>Bool.rec (motive:=fun _=>Option Fr) none (some ((d,v) :: fr)) (Nat.ble (Nat.succ d) nt)) d
theorem Dt (nt:Nat) (fr:Fr) (d:Option Nat) (v:Value):P1 nt fr d v=mC nt fr d v:=by
 cases d with
 | none=>rfl
 | some d =>
  show Bool.rec (motive:=fun _=>Option Fr) none (some ((d,v) :: fr)) (Nat.ble (Nat.succ d) nt)=bif Nat.blt d nt then some ((d,v) :: fr) else none
  rw[show Nat.blt d nt=Nat.ble (Nat.succ d) nt from rfl]
  cases Nat.ble (Nat.succ d) nt<;>rfl
def Wr (t:Tmp) (fr:Fr):Option Value:=vg fr t
def Qc (v:Value) (_:Fr):Option Value:=Bool.rec (motive:=fun _=>Option Value) none (some v) (plain v)
def Nd (g:Nat) (_:Fr):Option Value:=bif Nat.blt g 4294967296 then some (.pointer (some ⟨2*g+1,0,none⟩)) else none
def Tt (f:FuncId) (_:Fr):Option Value:=some (.func (.func f) #[] #[])
def cL (x:Operand) (fr:Fr):Option Value:=Operand.rec (motive:=fun _=>Fr→Option Value) Wr Qc Nd Tt x fr
theorem ck (x:Operand) (fr:Fr):cL x fr=opd fr x:=by
 cases x with
 | tmp t=>exact oq fr t
 | const v =>
  show Bool.rec (motive:=fun _=>Option Value) none (some v) (plain v)=bif plain v then some v else none
  cases plain v<;>rfl
 | global g=>rfl
 | func f=>rfl
def zI (l:List Operand) (fr:Fr):Option (List Value):=List.rec (motive:=fun _=>Option (List Value)) (some []) (fun x _ ih=>bO (cL x fr) fun v=>bO ih fun vs=>some (v :: vs)) l
theorem zH : ∀(l:List Operand) (fr:Fr),zI l fr=gA fr l
 | [],_=>rfl
 | x :: l,fr=>by
  show bO (cL x fr) (fun v=>bO (zI l fr) fun vs=>some (v :: vs))=_
  rw[ck,zH l fr,gA]
  cases opd fr x<;>cases gA fr l<;>rfl
def ug {α:Type} (t:Tr α) (n:Nat):Option α:=Tr.rec (motive:=fun _=>Nat→Option α) (fun _=>none) (fun _ v _ gl gr n=>Bool.rec (motive:=fun _=>Option α) (Bool.rec (motive:=fun _=>Option α) (gr (Nat.div (Nat.sub n 1) 2)) (gl (Nat.div n 2)) (Nat.beq (Nat.mod n 2) 1)) v (Nat.beq n 0)) t n
theorem lU {α:Type} : ∀(t:Tr α) (n:Nat),ug t n=t.get n
 | .leaf,_=>rfl
 | .node l v r,n=>by
  show Bool.rec (motive:=fun _=>Option α) (Bool.rec (motive:=fun _=>Option α) (ug r (Nat.div (Nat.sub n 1) 2)) (ug l (Nat.div n 2)) (Nat.beq (Nat.mod n 2) 1)) v (Nat.beq n 0)=bif n == 0 then v else bif n % 2 == 1 then l.get (n / 2) else r.get ((n - 1) / 2)
  rw[lU l,lU r,kP,kP]
  show Bool.rec (motive:=fun _=>Option α) (Bool.rec (motive:=fun _=>Option α) (r.get ((n - 1) / 2)) (l.get (n / 2)) (Nat.beq (n % 2) 1)) v (Nat.beq n 0)=_
  cases Nat.beq n 0<;>cases Nat.beq (n % 2) 1<;>rfl
def C8 {α β:Type} (x:α) (f n:Nat) (k:Tr α→β):β:=Nat.rec (motive:=fun _=>Nat→(Tr α→β)→β) (fun _ k=>k (.node .leaf (some x) .leaf)) (fun _ ih n k=>Bool.rec (motive:=fun _=>β) (Bool.rec (motive:=fun _=>β) (fN (Nat.div (Nat.sub n 1) 2) fun m=>ih m fun t=>k (.node .leaf none t)) (fN (Nat.div n 2) fun m=>ih m fun t=>k (.node t none .leaf)) (Nat.beq (Nat.mod n 2) 1)) (k (.node .leaf (some x) .leaf)) (Nat.beq n 0)) f n k
theorem vP {α β:Type} (x:α) : ∀(f n:Nat) (k:Tr α→β),C8 x f n k=k (Tr.one f n x)
 | 0,_,_=>rfl
 | f+1,n,k=>by
  show Bool.rec (motive:=fun _=>β) (Bool.rec (motive:=fun _=>β) (fN (Nat.div (Nat.sub n 1) 2) fun m=>C8 x f m fun t=>k (.node .leaf none t)) (fN (Nat.div n 2) fun m=>C8 x f m fun t=>k (.node t none .leaf)) (Nat.beq (Nat.mod n 2) 1)) (k (.node .leaf (some x) .leaf)) (Nat.beq n 0)=_
  rw[dO,dO,vP x f,vP x f,Tr.one,kP,kP]
  show Bool.rec (motive:=fun _=>β) (Bool.rec (motive:=fun _=>β) (k (.node .leaf none (Tr.one f ((n - 1) / 2) x))) (k (.node (Tr.one f (n / 2) x) none .leaf)) (Nat.beq (n % 2) 1)) (k (.node .leaf (some x) .leaf)) (Nat.beq n 0)=_
  cases Nat.beq n 0<;>cases Nat.beq (n % 2) 1<;>rfl
def lT {α β:Type} (x:α) (t:Tr α) (n:Nat) (k:Tr α→β):β:=Tr.rec (motive:=fun _=>Nat→(Tr α→β)→β) (fun n k=>C8 x n n k) (fun l v r sl sr n k=>Bool.rec (motive:=fun _=>β) (Bool.rec (motive:=fun _=>β) (fN (Nat.div (Nat.sub n 1) 2) fun m=>sr m fun r=>k (.node l v r)) (fN (Nat.div n 2) fun m=>sl m fun l=>k (.node l v r)) (Nat.beq (Nat.mod n 2) 1)) (k (.node l (some x) r)) (Nat.beq n 0)) t n k
theorem kB {α β:Type} (x:α) : ∀(t:Tr α) (n:Nat) (k:Tr α→β),lT x t n k=k (t.set n x)
 | .leaf,n,k=>vP x n n k
 | .node l v r,n,k=>by
  show Bool.rec (motive:=fun _=>β) (Bool.rec (motive:=fun _=>β) (fN (Nat.div (Nat.sub n 1) 2) fun m=>lT x r m fun r=>k (.node l v r)) (fN (Nat.div n 2) fun m=>lT x l m fun l=>k (.node l v r)) (Nat.beq (Nat.mod n 2) 1)) (k (.node l (some x) r)) (Nat.beq n 0)=_
  rw[dO,dO,kB x r,kB x l,Tr.set,kP,kP]
  show Bool.rec (motive:=fun _=>β) (Bool.rec (motive:=fun _=>β) (k (.node l v (r.set ((n - 1) / 2) x))) (k (.node (l.set (n / 2) x) v r)) (Nat.beq (n % 2) 1)) (k (.node l (some x) r)) (Nat.beq n 0)=_
  cases Nat.beq n 0<;>cases Nat.beq (n % 2) 1<;>rfl
def wG {β:Type} (l:List Value) (k:List Value→β):β:=List.rec (motive:=fun _=>(List Value→β)→β) (fun k=>k []) (fun a _ ih k=>ih fun r=>k (a :: r)) l k
theorem oj {β:Type} : ∀(l:List Value) (k:List Value→β),wG l k=k l
 | [],_=>rfl
 | _ :: l,_=>oj l _
def Cs (n:Nat) (l:List Value):List Value:=Nat.rec (motive:=fun _=>List Value→List Value) (fun l=>l) (fun _ ih l=>List.rec (motive:=fun _=>List Value) [] (fun _ l _=>ih l) l) n l
theorem qW : ∀(n:Nat) (l:List Value),Cs n l=l.drop n
 | 0,_=>rfl
 | n+1,[]=>rfl
 | n+1,_ :: l=>qW n l
def Ka (n:Nat) (l:List Value):Option (List Value):=Nat.rec (motive:=fun _=>List Value→Option (List Value)) (fun _=>some []) (fun _ ih l=>List.rec (motive:=fun _=>Option (List Value)) none (fun a l _=>bO (ih l) fun r=>some (a :: r)) l) n l
theorem Ff : ∀(n:Nat) (l:List Value),Ka n l=bif Nat.ble n l.length then some (l.take n) else none
 | 0,_=>rfl
 | n+1,[]=>rfl
 | n+1,a :: l=>by
  show bO (Ka n l) (fun r=>some (a :: r))=_
  rw[Ff n l]
  show _=bif Nat.ble n l.length then some (a :: l.take n) else none
  cases Nat.ble n l.length<;>rfl
def UM (n:Nat) (l:List Value):List Value:=Nat.rec (motive:=fun _=>List Value→List Value) (fun _ => []) (fun _ ih l=>List.rec (motive:=fun _=>List Value) [] (fun a l _=>a :: ih l) l) n l
theorem Fe : ∀(n:Nat) (l:List Value),UM n l=l.take n
 | 0,_=>rfl
 | n+1,[]=>rfl
 | n+1,a :: l=>congrArg (a :: ·) (Fe n l)
def Qk (n:Nat) (l:List Value):Option Value:=List.rec (motive:=fun _=>Option Value) none (fun a _ _=>some a) (Cs n l)
theorem DC (n:Nat) (l:List Value):Qk n l=l[n]?:=by
 unfold Qk
 rw[qW,←List.head?_drop]
 cases l.drop n<;>rfl
def ya (l m:List Value):List Value:=List.rec (motive:=fun _=>List Value) m (fun a _ ih=>a :: ih) l
theorem yE : ∀(l m:List Value),ya l m=l ++ m
 | [],_=>rfl
 | a :: l,m=>congrArg (a :: ·) (yE l m)
def zW (l:List Value):Nat:=List.rec (motive:=fun _=>Nat) 0 (fun _ _ ih=>Nat.succ ih) l
theorem j4 : ∀(l:List Value),zW l=l.length
 | []=>rfl
 | _ :: l=>congrArg Nat.succ (j4 l)
def Uy (p:Value→Bool) (l:List Value):Bool:=List.rec (motive:=fun _=>Bool) true (fun a _ ih=>Bool.rec (motive:=fun _=>Bool) false ih (p a)) l
theorem Ev (p:Value→Bool) : ∀(l:List Value),Uy p l=l.all p
 | []=>rfl
 | a :: l=>by
  show Bool.rec (motive:=fun _=>Bool) false (Uy p l) (p a)=_
  rw[Ev p l,List.all_cons]
  cases p a<;>rfl
def KK (vs cs:List Value):Option (List Value):=List.rec (motive:=fun _=>List Value→Option (List Value)) (fun cs=>some cs) (fun v _ ih cs=>List.rec (motive:=fun _=>Option (List Value)) none (fun _ l _=>bO (ih l) fun r=>some (v :: r)) cs) vs cs
theorem FY : ∀(vs cs:List Value),KK vs cs=bif Nat.ble vs.length cs.length then some (vs ++ cs.drop vs.length) else none
 | [],_=>rfl
 | _ :: _,[]=>rfl
 | v :: vs,c :: cs=>by
  show bO (KK vs cs) (fun r=>some (v :: r))=bif Nat.ble vs.length cs.length then some (v :: (vs ++ cs.drop vs.length)) else none
  rw[FY vs cs]
  cases Nat.ble vs.length cs.length<;>rfl
def ur (o:Nat) (vs cs:List Value):Option (List Value):=Nat.rec (motive:=fun _=>List Value→Option (List Value)) (fun cs=>KK vs cs) (fun _ ih cs=>List.rec (motive:=fun _=>Option (List Value)) none (fun a l _=>bO (ih l) fun r=>some (a :: r)) cs) o cs
theorem oM (vs:List Value) : ∀(o:Nat) (cs:List Value),ur o vs cs=bif Nat.ble (o+vs.length) cs.length then some (IH.aG cs o vs) else none
 | 0,cs=>by
  show KK vs cs=_
  rw[FY,Nat.zero_add]
  show _=bif Nat.ble vs.length cs.length then some (cs.take 0 ++ (vs ++ cs.drop (0+vs.length))) else none
  rw[Nat.zero_add,List.take_zero];rfl
 | o+1,[]=>by
  rw[show o+1+vs.length=(o+vs.length)+1 from by omega];rfl
 | o+1,c :: cs=>by
  show bO (ur o vs cs) (fun r=>some (c :: r))=_
  rw[oM vs o cs,show o+1+vs.length=(o+vs.length)+1 from by omega]
  show _=bif Nat.ble (o+vs.length) cs.length then some (IH.aG (c :: cs) (o+1) vs) else none
  rw[show IH.aG (c :: cs) (o+1) vs=c :: IH.aG cs o vs from by simp[IH.aG,show o+1+vs.length=(o+vs.length)+1 from by omega]]
  cases Nat.ble (o+vs.length) cs.length<;>rfl
def Kv (n:Nat) (z:List Value):List Value:=Nat.rec (motive:=fun _=>List Value) [] (fun _ ih=>ya z ih) n
theorem zr (z:List Value) : ∀n,Kv n z=bq n z
 | 0=>rfl
 | n+1=>by
  show ya z (Kv n z)=_
  rw[yE,zr z n];rfl
def pn (v:Value):List Value:=match v with
 | .agg cs=>cs.toList
 | v => [v]
theorem wL (v:Value):pn v=v.cells.toList:=by cases v<;>rfl
def RU (v:Value):Bool:=match v with
 | .agg _=>false
 | .tuple _=>false
 | _=>true
theorem Hg:RU=aA:=by funext v;cases v<;>rfl
def cellsOf (o:bz):Option (List Value):=match o with
 | .cells cs _ _=>some cs
 | _=>none
def S6 (h:IH) (b:Nat):Option (List Value):=Bool.rec (motive:=fun _=>Option (List Value)) (bO (ug h.ext (Nat.div b 2)) cellsOf) (h.base (Nat.div b 2)) (Nat.beq (Nat.mod b 2) 1)
theorem Ks (h:IH) (b:Nat):S6 h b=h.row b:=by
 unfold S6 IH.row
 rw[kP,lU]
 show Bool.rec (motive:=fun _=>Option (List Value)) (bO (h.ext.get (b / 2)) cellsOf) (h.base (b / 2)) (Nat.beq (b % 2) 1)=_
 cases Nat.beq (b % 2) 1
 ·show bO (h.ext.get (b / 2)) cellsOf=match h.ext.get (b / 2) with|some (.cells cs _ _)=>some cs|_=>none
  cases h.ext.get (b / 2) with
  | none=>rfl
  | some o=>cases o<;>rfl
 ·rfl
theorem Wl {cs:List Value} {o n:Nat}:(bif Nat.ble (o+n) cs.length then some ((cs.drop o).take n) else none:Option (List Value))=if n=0 then (bif Nat.ble o cs.length then some [] else none) else Ka n (cs.drop o):=by
 rw[Ff,List.length_drop]
 split
 ·subst n;rfl
 ·have e:Nat.ble (o+n) cs.length=Nat.ble n (cs.length - o):=by
   rw[Bool.eq_iff_iff];simp only[Nat.ble_eq];omega
  rw[e]
def rd1 (h:IH) (b o:Nat):Option Value:=bO (S6 h b) fun cs=>Qk o cs
theorem Wm (h:IH) (b o:Nat):rd1 h b o=(h.rd b o 1).bind (·.head?):=by
 unfold rd1 IH.rd
 rw[Ks]
 cases h.row b with
 | none=>rfl
 | some cs =>
  simp only[aW,DC]
  by_cases hl:o<cs.length
  ·rw[show Nat.ble (o+1) cs.length=true from qZ.2 hl]
   simp only[cond_true,Option.bind_some,List.head?_take,List.head?_drop]
   simp
  ·rw[show Nat.ble (o+1) cs.length=false from by rw[Bool.eq_false_iff];simp only[ne_eq,Nat.ble_eq];omega]
   simp[List.getElem?_eq_none (Nat.le_of_not_lt hl)]
def rdN (h:IH) (b o n:Nat):Option (List Value):=bO (S6 h b) fun cs=>Ka n (Cs o cs)
theorem PU (h:IH) (b o n:Nat) (hn:n≠0):rdN h b o n=h.rd b o n:=by
 unfold rdN IH.rd
 rw[Ks]
 cases h.row b with
 | none=>rfl
 | some cs =>
  simp only[aW,qW]
  exact((Wl (cs:=cs) (o:=o) (n:=n)).trans (if_neg hn)).symm
def KZ (P:Program) (h:IH) (t:TypeId) (v:Value):Option Value:=match v with
 | .pointer (some ⟨b,o,none⟩)=>bO (bj P t) fun g=>iB g (bO (aK P t) fun n=>bO (iB (Nat.beq n 0) (h.rd b o n) (rdN h b o n)) fun l=>some (Value.agg ⟨l⟩)) (rd1 h b o)
 | _=>none
theorem GC (P:Program) (h:IH) (t:TypeId) (v:Value):KZ P h t v=load P h t v:=by
 unfold KZ load
 split
 ·rename_i b o
  rw[show asAddr (.pointer (some ⟨b,o,none⟩))=some (b,o) from rfl]
  cases bj P t with
  | none=>cases aK P t<;>rfl
  | some g =>
   cases g with
   | false=>simp only[aW,qP,Wm]
   | true =>
    simp only[aW,yy]
    cases aK P t with
    | none=>rfl
    | some n =>
     simp only[aW]
     have e:iB (Nat.beq n 0) (h.rd b o n) (rdN h b o n)=h.rd b o n:=by
      by_cases hn:n=0
      ·subst hn;rfl
      ·rw[PU h b o n hn,eh];cases Nat.beq n 0<;>rfl
     rw[e]
     cases h.rd b o n<;>rfl
 ·rename_i hv
  have:asAddr v=none:=by
   unfold asAddr
   split
   ·exact absurd rfl (hv _ _)
   ·rfl
  rw[this]
def Nu {β:Type} (h:IH) (o:bz) (k:Nat→IH→β):β:=IH.rec (motive:=fun _=>β) (fun base n ext bT=>fN n fun n=>lT o ext n fun e=>k n ⟨base,Nat.succ n,e,bT⟩) h
theorem yq {β:Type} (h:IH) (o:bz) (k:Nat→IH→β):Nu h o k=k h.n (h.new o):=by
 obtain⟨base,n,ext,bT⟩:=h
 show(fN n fun n=>lT o ext n fun e=>k n ⟨base,Nat.succ n,e,bT⟩)=_
 rw[dO,kB];rfl
def Ie {β:Type} (h:IH) (b:Nat) (o:bz) (k:IH→β):β:=IH.rec (motive:=fun _=>β) (fun base n ext bT=>fN b fun b=>lT o ext b fun e=>k ⟨base,n,e,bT⟩) h
theorem Dn {β:Type} (h:IH) (b:Nat) (o:bz) (k:IH→β):Ie h b o k=k { h with ext:=h.ext.set b o }:=by
 obtain⟨base,n,ext,bT⟩:=h
 show(fN b fun b=>lT o ext b fun e=>k ⟨base,n,e,bT⟩)=_
 rw[dO,kB]
def wrF (h:IH) (b o:Nat) (vs:List Value):Option IH:=iB (Nat.beq (Nat.mod b 2) 1) none (bO (ug h.ext (Nat.div b 2)) fun ob=>match ob with
 | .cells cs t none=>bO (ur o vs cs) fun cs=>Ie h (Nat.div b 2) (.cells cs t none) some
 | .cells _ _ (some _)=>h.wr b o vs
 | _=>none)
theorem OW (h:IH) (b o:Nat) (vs:List Value):wrF h b o vs=h.wr b o vs:=by
 unfold wrF
 rw[lU]
 show iB (Nat.beq (b % 2) 1) none (bO (h.ext.get (b / 2)) _)=_
 cases hb:Nat.beq (b % 2) 1
 ·rw[qP]
  cases hg:h.ext.get (b / 2) with
  | none =>
   unfold IH.wr
   rw[kP,hb,hg];rfl
  | some ob =>
   rw[aW]
   split
   ·unfold IH.wr
    rw[kP,hb,hg]
    simp only[cond_false,oM]
    rename_i cs t
    cases Nat.ble (o+vs.length) cs.length
    ·rfl
    ·simp only[cond_true,aW,Dn];rfl
   ·rfl
   ·unfold IH.wr
    rw[kP,hb,hg]
    simp only[cond_false]
    split
    ·rename_i h1 h2 _ _ _ _ h4
     cases h4
     rename_i fam
     cases fam
     ·exact absurd rfl (h1 _ _)
     ·exact absurd rfl (h2 _ _ _)
    ·rfl
 ·rw[yy]
  unfold IH.wr
  rw[kP,hb];rfl
def HR (P:Program) (h:IH) (t:TypeId) (a v:Value):Option IH:=match a with
 | .pointer (some ⟨b,o,none⟩)=>bO (aK P t) fun n=>iB (Nat.beq (zW (pn v)) n) (iB (Uy RU (pn v)) (wrF h b o (pn v)) none) none
 | _=>none
theorem ME (P:Program) (h:IH) (t:TypeId) (a v:Value):HR P h t a v=store P h t a v:=by
 unfold HR store
 split
 ·rename_i b o
  show _=match some (b,o),aK P t with|some (b,o),some n=>(bif v.cells.size == n && v.cells.toList.all aA then h.wr b o v.cells.toList else none)|_,_=>none
  cases aK P t with
  | none=>rfl
  | some n =>
   simp only[aW,wL,j4,Ev,Hg,OW,eh,kP,Array.length_toList]
   cases Nat.beq v.cells.size n<;>cases v.cells.toList.all aA<;>rfl
 ·rename_i hv
  have:asAddr a=none:=by
   unfold asAddr
   split
   ·exact absurd rfl (hv _ _)
   ·rfl
  rw[this]
def xY (k:IntKind):Nat:=IntKind.rec (motive:=fun _=>Nat) 128 32768 2147483648 9223372036854775808 256 65536 4294967296 18446744073709551616 k
theorem nG {k:IntKind} {n:Nat} (h:n<xY k):k.wrap (n:Int)=n:=by
 cases k
 ·exact IntWalk.i8_in _ (by simp only[xY] at h;omega)
 ·exact IntWalk.i16_in _ (by simp only[xY] at h;omega)
 ·exact IntWalk.i32_in _ (by simp only[xY] at h;omega)
 ·exact IntWalk.i64_in _ (by simp only[xY] at h;omega)
 ·exact IntWalk.u8_in _ (by simp only[xY] at h;omega)
 ·exact IntWalk.u16_in _ (by simp only[xY] at h;omega)
 ·exact IntWalk.u32_in _ (by simp only[xY] at h;omega)
 ·exact IntWalk.u64_in _ (by simp only[xY] at h;omega)
def okI (k:IntKind) (n:Nat):Option Value:=fN n fun s=>iB (Nat.ble (Nat.succ s) (xY k)) (some (.int k (.ofNat s))) none
def addF (k:IntKind) (a b:Nat):Option Value:=okI k (Nat.add a b)
def subF (k:IntKind) (a b:Nat):Option Value:=iB (Nat.ble b a) (okI k (Nat.sub a b)) none
def mulF (k:IntKind) (a b:Nat):Option Value:=okI k (Nat.mul a b)
def quoF (k:IntKind) (a b:Nat):Option Value:=iB (Nat.beq b 0) none (okI k (Nat.div a b))
def remF (k:IntKind) (a b:Nat):Option Value:=iB (Nat.beq b 0) none (okI k (Nat.mod a b))
def noF (_:IntKind) (_ _:Nat):Option Value:=none
def eqlF (_:IntKind) (a b:Nat):Option Value:=some (.bool (Nat.beq a b))
def neqF (_:IntKind) (a b:Nat):Option Value:=some (.bool (not (Nat.beq a b)))
def lssF (_:IntKind) (a b:Nat):Option Value:=some (.bool (Nat.ble (Nat.succ a) b))
def leqF (_:IntKind) (a b:Nat):Option Value:=some (.bool (Nat.ble a b))
def gtrF (_:IntKind) (a b:Nat):Option Value:=some (.bool (Nat.ble (Nat.succ b) a))
def geqF (_:IntKind) (a b:Nat):Option Value:=some (.bool (Nat.ble b a))
def Lj (k:IntKind):Bool:=IntKind.rec (motive:=fun _=>Bool) false false false true false false false true k
def Lk (k:IntKind):Bool:=IntKind.rec (motive:=fun _=>Bool) false false false false false false false true k
def andF (k:IntKind) (a b:Nat):Option Value:=iB (Lk k) (iB (Nat.ble (Nat.succ a) 18446744073709551616) (iB (Nat.ble (Nat.succ b) 18446744073709551616) (okI k (Nat.land a b)) none) none) none
def orF (k:IntKind) (a b:Nat):Option Value:=iB (Lk k) (iB (Nat.ble (Nat.succ a) 18446744073709551616) (iB (Nat.ble (Nat.succ b) 18446744073709551616) (okI k (Nat.lor a b)) none) none) none
def binF (op:BinOp) (k:IntKind) (a b:Nat):Option Value:=BinOp.rec (motive:=fun _=>IntKind→Nat→Nat→Option Value) addF subF mulF quoF remF andF orF noF noF noF noF eqlF neqF lssF leqF gtrF geqF op k a b
theorem iA {k:IntKind} {n:Nat} {v:Value} (h:okI k n=some v):n<xY k∧v=.int k (n:Int):=by
 unfold okI at h
 rw[dO,eh] at h
 cases hb:Nat.ble (Nat.succ n) (xY k) with
 | false=>rw[hb] at h;cases h
 | true =>
  rw[hb] at h;cases h
  exact⟨qZ.1 hb,rfl⟩
theorem cq {α:Type} {b:Bool} {x:Option α} {v:α} (h:iB b x none=some v):b=true∧x=some v:=by
 cases b
 ·cases h
 ·exact⟨rfl,h⟩
theorem mj {α:Type} {b:Bool} {x:Option α} {v:α} (h:iB b none x=some v):b=false∧x=some v:=by
 cases b
 ·exact⟨rfl,h⟩
 ·cases h
theorem Mb (a b:Nat):Nat.ble a b=decide ((a:Int)≤(b:Int)):=by
 rw[Bool.eq_iff_iff];simp only[Nat.ble_eq,decide_eq_true_eq];omega
theorem Ma (a b:Nat):Nat.ble (Nat.succ a) b=decide ((a:Int)<(b:Int)):=by
 rw[Bool.eq_iff_iff];simp only[Nat.ble_eq,decide_eq_true_eq];omega
theorem Md (a b:Nat):Nat.beq a b=((a:Int) == (b:Int)):=by
 rw[Bool.eq_iff_iff];simp only[Nat.beq_eq,beq_iff_eq];omega
theorem Ox {P:Program} {op:BinOp} {t:TypeId} {ox oy:Operand} {k:IntKind} {a b:Nat} {v:Value} (h:binF op k a b=some v):binop P op t ox oy (.int k (a:Int)) (.int k (b:Int))=some v:=by
 cases op
 case add =>
  obtain⟨h1,rfl⟩:=iA (n:=a+b) h
  rw[w6]
  exact congrArg (fun x=>some (Value.int k x)) (by rw[show(a:Int)+b=((a+b:Nat):Int) from by omega];exact nG h1)
 case sub =>
  obtain⟨h0,h⟩:=cq (b:=Nat.ble b a) h
  obtain⟨h1,rfl⟩:=iA (n:=a - b) h
  have h2:=qZ.1 h0
  rw[wO]
  exact congrArg (fun x=>some (Value.int k x)) (by rw[show(a:Int) - b=((a - b:Nat):Int) from by omega];exact nG h1)
 case mul =>
  obtain⟨h1,rfl⟩:=iA (n:=a*b) h
  rw[wU]
  exact congrArg (fun x=>some (Value.int k x)) (by rw[←Int.natCast_mul];exact nG h1)
 case quo =>
  obtain⟨h0,h⟩:=mj (b:=Nat.beq b 0) h
  obtain⟨h1,rfl⟩:=iA (n:=a / b) h
  have hb:b≠0:=fun e=>by subst e;cases h0
  rw[wR P t ox oy (by omega)]
  exact congrArg (fun x=>some (Value.int k x)) (by rw[←Int.ofNat_tdiv];exact nG h1)
 case rem =>
  obtain⟨h0,h⟩:=mj (b:=Nat.beq b 0) h
  obtain⟨h1,rfl⟩:=iA (n:=a % b) h
  have hb:b≠0:=fun e=>by subst e;cases h0
  rw[ow P t ox oy (by omega)]
  exact congrArg (fun x=>some (Value.int k x)) (Int.ofNat_tmod a b).symm
 case and =>
  obtain⟨h0,h⟩:=cq (b:=Lk k) h
  obtain⟨h2,h⟩:=cq (b:=Nat.ble (Nat.succ a) 18446744073709551616) h
  obtain⟨h3,h⟩:=cq (b:=Nat.ble (Nat.succ b) 18446744073709551616) h
  obtain⟨h1,rfl⟩:=iA (n:=a &&& b) h
  cases k<;>first|(cases h0;done)|exact Bi P t ox oy a b (qZ.1 h2) (qZ.1 h3)
 case or =>
  obtain⟨h0,h⟩:=cq (b:=Lk k) h
  obtain⟨h2,h⟩:=cq (b:=Nat.ble (Nat.succ a) 18446744073709551616) h
  obtain⟨h3,h⟩:=cq (b:=Nat.ble (Nat.succ b) 18446744073709551616) h
  obtain⟨h1,rfl⟩:=iA (n:=a ||| b) h
  cases k<;>first|(cases h0;done)|exact vD P t ox oy a b (qZ.1 h2) (qZ.1 h3)
 case eql=>rw[wZ,←Md];exact h
 case neq=>rw[wT,bne,←Md];exact h
 case lss=>rw[wV,←Ma];exact h
 case leq=>rw[wW,←Mb];exact h
 case gtr=>rw[wX,←Ma];exact h
 case geq=>rw[wY,←Mb];exact h
 all_goals cases h
def La (k:IntKind):Nat:=IntKind.rec (motive:=fun _=>Nat) 0 1 2 3 4 5 6 7 k
theorem NM {j k:IntKind} (h:Nat.beq (La j) (La k)=true):j=k:=by
 cases j<;>cases k<;>first|rfl|cases h
def shF (op:BinOp) (k:IntKind) (a b:Nat):Option Value:=BinOp.rec (motive:=fun _=>Option Value) none none none none none none none none
 (iB (Nat.ble b 64) (iB (Lj k) (okI k (Nat.mul a (Nat.pow 2 b))) none) none)
 (iB (Nat.ble b 64) (iB (Lj k) (okI k (Nat.div a (Nat.pow 2 b))) none) none) none none none none none none none op
theorem PB {P:Program} {op:BinOp} {t:TypeId} {ox oy:Operand} {k j:IntKind} {a b:Nat} {v:Value} (h:shF op k a b=some v):binop P op t ox oy (.int k (a:Int)) (.int j (b:Int))=some v:=by
 cases op
 case shl =>
  obtain⟨h0,h⟩:=cq (b:=Nat.ble b 64) h
  obtain⟨h2,h⟩:=cq (b:=Lj k) h
  obtain⟨h1,rfl⟩:=iA (n:=a*2 ^ b) h
  rw[ov P t ox oy (by omega)]
  have hb:min (b:Int).toNat k.bits=b:=by
   have:=qZ.1 h0
   rw[Int.toNat_natCast]
   cases k<;>first|(cases h2;done)|exact Nat.min_eq_left this
  rw[hb]
  exact congrArg (fun x=>some (Value.int k x)) (by rw[show(a:Int)*2 ^ b=((a*2 ^ b:Nat):Int) from by rw[Int.natCast_mul,Int.natCast_pow];rfl];exact nG h1)
 case shr =>
  obtain⟨h0,h⟩:=cq (b:=Nat.ble b 64) h
  obtain⟨h2,h⟩:=cq (b:=Lj k) h
  obtain⟨h1,rfl⟩:=iA (n:=a / 2 ^ b) h
  rw[wP P t ox oy (by omega)]
  have hb:min (b:Int).toNat k.bits=b:=by
   have:=qZ.1 h0
   rw[Int.toNat_natCast]
   cases k<;>first|(cases h2;done)|exact Nat.min_eq_left this
  rw[hb]
  refine congrArg (fun x=>some (Value.int k x)) ?_
  rw[Int.fdiv_eq_ediv_of_nonneg _ (by exact Int.le_of_lt (Int.pow_pos (by omega))),Int.natCast_ediv,Int.natCast_pow];rfl
 all_goals cases h
def orElse (a b:Option Value):Option Value:=Option.rec (motive:=fun _=>Option Value) b (fun v=>some v) a
def JI (P:Program) (op:BinOp) (t:TypeId) (ox oy:Operand) (x y:Value):Option Value:=match x,y with
 | .int k (.ofNat a),.int j (.ofNat b)=>orElse (iB (Nat.beq (La k) (La j)) (binF op k a b) none) (orElse (shF op k a b) (binop P op t ox oy (.int k (.ofNat a)) (.int j (.ofNat b))))
 | x,y=>binop P op t ox oy x y
theorem we {a b c:Option Value} (h : ∀v,a=some v→c=some v) (hb:b=c):orElse a b=c:=by
 cases a with
 | none=>exact hb
 | some v=>exact(h v rfl).symm
theorem Ow (P:Program) (op:BinOp) (t:TypeId) (ox oy:Operand) (x y:Value):JI P op t ox oy x y=binop P op t ox oy x y:=by
 unfold JI
 split
 ·refine we (fun v h=>?_) (we (fun v h=>PB h) rfl)
  obtain⟨h0,h1⟩:=cq h
  have:=NM h0
  subst this
  exact Ox h1
 ·rfl
end
end Go.Id

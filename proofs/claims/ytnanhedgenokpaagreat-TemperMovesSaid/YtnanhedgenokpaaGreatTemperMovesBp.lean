/-
  Contracts: package kernel: told; the filtered kernel as plain numbers. Lists that grow, or are just laid out (out of dg/WdMs).
-/
import Derived.Test.YtnanhedgenokpaaGreatTemperMovesAt
import Derived.Test.YtnanhedgenokpaaGreatTemperMovesBo
import Derived.Test.YtnanhedgenokpaaGreatTemperMovesBm
import Derived.Test.YtnanhedgenokpaaGreatTemperMovesBg
import Derived.Test.YtnanhedgenokpaaGreatTemperMovesAs
import Derived.Test.YtnanhedgenokpaaGreatTemperMovesBn
import Derived.Test.YtnanhedgenokpaaGreatTemperMovesBj
import Derived.Test.YtnanhedgenokpaaGreatTemperMovesAr
import Derived.Test.YtnanhedgenokpaaGreatTemperMovesBf
set_option linter.unusedVariables false
set_option linter.unusedSimpArgs false
set_option linter.defProp false
set_option linter.deprecated false
namespace Go.Id
open Go
open Nat renaming reduceAdd→zA,reduceEqDiff→zE,reduceLeDiff→zL
set_option maxHeartbeats 16000000
theorem dU.qk {h h':IH} {v:Value} {q:Rat} (p:dU h v q) (e:nS 1 h h'):dU h' v q:=by
 obtain⟨a,s,b,t,h1,⟨s1,e1,ds,d1,d2⟩,⟨s2,e2,es,d3,d4⟩⟩:=p
 exact⟨a,s,b,t,h1,⟨s1,e1,ds,⟨d1.1.qk e,d1.2⟩,d2⟩,⟨s2,e2,es,⟨d3.1.qk e,d3.2⟩,d4⟩⟩
theorem re.ld {h:IH} {k:Nat} {v:Value} {n:Nat} {cs:List Value} (r:re h 4 k v n cs) {R:IH→Value→Rat→Prop} {j:Nat} {q:Rat} (x:kG R h cs j q) (hj:j<n) {P:Program} {t:TypeId} (hT:aY P t=some true) (hS:aP P t=some 4) :
  ∃a s b u,load P h t (aK v (j*4))=some (.agg #[a,s,b,u])∧R h (.agg #[a,s,b,u]) q:=by
 obtain⟨a,s,b,u,h1,h2⟩:=x
 have hl:=r.len
 refine⟨a,s,b,u,?_,h2⟩
 rw[r.sl.Dg (aF.refl h) (by omega) (by omega) hT hS,h1]
theorem CL (z:List Value) : ∀n,(bA n z).length=n*z.length
 | 0=>by rw[zu];simp
 | n+1=>by rw[tC,List.length_append,CL z n,Nat.add_mul];omega
open Classical in
theorem KT {h:IH} {v:Value} {l:List Rat} (hv:yZ dU h v l) (hl:l.length≤1000) :
  WV Proofs.Tryz.prog (.func (.func 97) #[] #[]) [v] h fun r h'=>Ext h h'∧((∀q∈l,QW q) → ∃w,r=.tuple #[w,KI 0]∧iM h' w (l.map shq))∧(¬(∀q∈l,QW q)→r=.tuple #[.slice none 0 0,KI 6]):=by
 obtain⟨cs0,hs0,_,_⟩:=id hv
 refine enter (nt:=29) (rs:=[.tmp 2,.tmp 3]) Proofs.Tryz.func97 rfl rfl rfl (by simp) ?_
 simp -dsimp (disch:=try exact dx) only[wpS,zE,hs0.len OQ]
 refine loop (fun m fr h1 => ∃(i:Nat) (out:Value),i+m=l.length∧Ext h h1∧Acc h1 h.n 16 out i (shL ((l.take i).map shq))∧(∀(j:Nat) q,j<i→l[j]?=some q→QW q)∧ah fr 4=some out∧ah fr 9=some v∧ah fr 10=some (KN l.length)∧ah fr 11=some (KN i)) l.length
  ⟨0,.slice none 0 0,by omega,Ext.refl _,Acc.nil h _ (by omega),fun j q hj=>by omega,by simp,by simp,by simp,by simp⟩ ?_
 rintro m fr h1 ⟨i,out,him,hE,hA,hW,f4,f9,f10,f11⟩
 simp -dsimp (disch:=try exact dx) only[wpS,f10,f11]
 refine ax ?_ ?_<;>intro hc<;>simp only[decide_eq_true_eq,decide_eq_false_iff_not] at hc
 ·have hi:i<l.length:=by omega
  obtain⟨q,hq⟩ : ∃q,l[i]?=some q:=⟨_,List.getElem?_eq_getElem hi⟩
  obtain⟨a,s,b,u,ld,pq⟩:=hv.ld tM hE.ab hq DY uf
  obtain⟨_,_,_,_,he,_,_,_,o1,_,o2,o3,o4⟩:=pq.parts
  cases he
  simp -dsimp (disch:=try exact dx) only[wpS,wpT,zE,zL,zA,iJ,jQ,jh,f9,f11,hs0.idx Dz hi,ld,o1,o2,o3,o4,kA]
  have E1:Ext h1 ((h1.new (.cells ZR 0 none)).put h1.n (.cells [a,s,b,u] 0 none)):=((Ext.refl h1).new _).put (Nat.le_refl _) _
  refine call (rR (pq.ab E1.ab)) ?_
  rintro _ h2 ⟨X2,rfl⟩
  have E2:=E1.trans X2
  have n1:=hE.n
  have n2:=E2.n
  by_cases c:QW q
  ·rw[if_pos c,ij]
   simp -dsimp (disch:=try exact dx) only[wpS,wpT,zE,zL,zA,mi,jr,aV,aH,cU,dX]
   obtain⟨H3,hH3⟩ : ∃H,H=(h2.new (.cells Z16 0 none)).put h2.n (.cells (shC (shq q).1 (shq q).2) 0 none):=⟨_,rfl⟩
   have E3:Ext h2 H3:=by rw[hH3];exact((Ext.refl h2).new _).put (Nat.le_refl _) _
   have n3:=E3.n
   have g3:H3.ext.get h2.n=some (.cells (shC (shq q).1 (shq q).2) 0 none):=by rw[hH3];simp (disch:=try exact dx) only[ad]
   rw[←hH3]
   clear hH3
   have E23:=E2.trans E3
   obtain⟨bR,h5,hap,hA5,hG5,hE5⟩:=(hA.ext E23).pU (P:=Proofs.Tryz.prog) (t:=60) Oz (m:=1) (new:=shC (shq q).1 (shq q).2) (by omega) (by rw[aH]) (cU _ _) (by omega) (by omega) (hE.trans E23) (Nat.le_refl _)
   have eT:shL ((l.take i).map shq) ++ shC (shq q).1 (shq q).2=shL ((l.take (i+1)).map shq):=by
    rw[gF hq,List.map_append,List.map_cons,List.map_nil,shL,shL,List.flatMap_append];simp
   rw[eT] at hA5
   simp -dsimp (disch:=try exact dx) only[wpS,wpT,zE,zL,zA,fE,Mq,vF,f4,f11,ai g3,aH,dX,bN,hap]
   refine⟨m - 1,by omega,i+1,bR,by omega,hE5,hA5,fun j p hj hp=>?_,by simp,by simp[f9],by simp[f10],by simp⟩
   by_cases hji:j=i
   ·subst hji;rw[hq] at hp;cases hp;exact c
   ·exact hW j p (by omega) hp
  ·rw[if_neg c]
   simp -dsimp (disch:=try exact dx) only[wpS,wpT,zE,zL,zA,mi,jr,aV,aH,cU,dX]
   exact⟨(hE.trans E2).trans (((Ext.refl h2).new _).put (Nat.le_refl _) _),fun dC=>absurd (dC q (List.mem_of_getElem? hq)) c,fun _=>trivial⟩
 ·obtain rfl:i=l.length:=by omega
  rw[List.take_length] at hA
  have dC : ∀q∈l,QW q:=fun q hq=>by
   obtain⟨j,hj⟩:=List.getElem?_of_mem hq
   exact hW j q (List.getElem?_eq_some_iff.1 hj).1 hj
  simp -dsimp (disch:=try exact dx) only[wpS,wpT,zE,f4]
  refine⟨hE,fun _=>⟨out,rfl,?_⟩,fun hn=>absurd dC hn⟩
  refine⟨by rw[List.length_map];exact hA.sl,by rw[List.length_map];omega,fun p hp=>?_⟩
  obtain⟨q,hq,rfl⟩:=List.mem_map.1 hp
  exact oq (dC q hq)
def kAt (ll:List (List (Nat×Nat))) (i j:Nat):Rat:=rOf ((ll.getD i []).getD j (0,0))
def goQ (ll:List (List (Nat×Nat))) (t:List Nat) (i j:Nat):Rat:=if kAt ll j i*kY (t.getD j 0) / kY (t.getD i 0)<kAt ll i j then kAt ll j i*kY (t.getD j 0) / kY (t.getD i 0) else kAt ll i j
def im (g:Nat→Rat) (i:Nat):Nat→Rat
 | 0=>1
 | j+1=>if j=i then im g i j else im g i j - g j
def oU (ll:List (List (Nat×Nat))) (t:List Nat) (i j:Nat):Rat:=if j=i then im (goQ ll t i) i ll.length else goQ ll t i j
def dA (ll:List (List (Nat×Nat))) (t:List Nat) (i:Nat):List Rat:=(List.range ll.length).map (oU ll t i)
def xJ (ll:List (List (Nat×Nat))) (t:List Nat):Prop:=∀i,i<ll.length → ∀q∈dA ll t i,QW q
def kB (ll:List (List (Nat×Nat))) (t:List Nat):List (List (Nat×Nat)):=(List.range ll.length).map fun i=>(dA ll t i).map shq
open Classical in
noncomputable def kF (ll:List (List (Nat×Nat))) (t:List Nat):Int:=if ¬fL ll then 330 else if t.length≠ll.length∨(∃p∈t,wdI p<1) then 2 else if xJ ll t then 0 else 6
theorem eK (ll:List (List (Nat×Nat))) (t:List Nat) (i:Nat):(dA ll t i).length=ll.length:=by simp[dA]
theorem nu {ll:List (List (Nat×Nat))} {t:List Nat} {i j:Nat} (hj:j<ll.length):(dA ll t i)[j]?=some (oU ll t i j):=by
 rw[dA,List.getElem?_map,List.getElem?_range hj];rfl
theorem zY {ll:List (List (Nat×Nat))} {t:List Nat} {i:Nat} (hi:i<ll.length):(kB ll t)[i]?=some ((dA ll t i).map shq):=by
 rw[kB,List.getElem?_map,List.getElem?_range hi];rfl
theorem gh (ll:List (List (Nat×Nat))) (t:List Nat):(kB ll t).length=ll.length:=by simp[kB]
theorem vi {p:Nat} (hp:p<W8):QB 512 (kY p):=by
 refine QB.int ?_
 have hw:W8=2 ^ 512:=by decide +kernel
 rw[←hw]
 unfold wdI
 have:=bV
 split<;>omega
theorem AJ {p:Nat} (h:1≤wdI p):kY p≠0:=fun e=>by
 have:wdI p=0:=Rat.intCast_inj.1 e
 omega
theorem QC {ll:List (List (Nat×Nat))} {t:List Nat} {i j:Nat} (h1:QB 512 (kAt ll i j)) (h2:QB 512 (kAt ll j i)) (h3:t.getD j 0<W8) (h4:t.getD i 0<W8) (h5:1≤wdI (t.getD i 0)):QB 1536 (goQ ll t i j):=by
 have q1:=h2.mul (vi h3)
 have q2:=q1.div (vi h4) (AJ h5)
 have q3:=q2.mono (b:=1536) (by omega)
 unfold goQ
 split
 ·exact q3
 ·exact h1.mono (by omega)
theorem GK {g:Nat→Rat} {i:Nat} {k:Nat} : ∀{n:Nat},(∀j,j<n→QB k (g j))→QB (1+n*(k+1)) (im g i n)
 | 0,_=>⟨by rw[im];show 1≤2 ^ (1+0*(k+1));rw[Nat.zero_mul];decide,by rw[im];show 1≤2 ^ (1+0*(k+1));rw[Nat.zero_mul];decide⟩
 | n+1,h=>by
  have ih:=GK (i:=i) (n:=n) fun j hj=>h j (by omega)
  have e:1+(n+1)*(k+1)=1+n*(k+1)+k+1:=by rw[Nat.add_mul];omega
  rw[im,e]
  split
  ·exact ih.mono (by omega)
  ·exact ih.sub (h n (by omega))
theorem j5 {ll:List (List (Nat×Nat))} (k:fL ll) {i j:Nat} (hi:i<ll.length) (hj:j<ll.length) : ∃row p,ll[i]?=some row∧row.length=ll.length∧row[j]?=some p∧okS p.1 p.2∧0≤wdI p.1∧kAt ll i j=rOf p:=by
 obtain⟨h1,h2⟩:=k.2.2 _ (List.getElem_mem hi)
 have hj':j<(ll[i]).length:=by omega
 refine⟨_,_,List.getElem?_eq_getElem hi,h1,List.getElem?_eq_getElem hj',(oJ (h2.1 _ (List.getElem_mem hj'))).1,(oJ (h2.1 _ (List.getElem_mem hj'))).2,?_⟩
 unfold kAt
 simp only[List.getD_eq_getElem?_getD,List.getElem?_eq_getElem hi,Option.getD_some,List.getElem?_eq_getElem hj']
end Go.Id

namespace Go.Id
open Go
end Go.Id

namespace Go.Id
open Go
def Uk (ll:List (List (Nat×Nat))):Prop:=1≤ll.length∧ll.length≤60 ∧ ∀x∈ll,x.length=ll.length∧(∃S,smR S x) ∧ ∃q∈x,0<q.1
abbrev pI (p:List Nat):List Int:=p.map fun n:Nat=>((n:Nat):Int)
end Go.Id

namespace Go.Id
open Go
theorem NS {ll:List (List (Nat×Nat))} (h1:1≤ll.length) (h2:ll.length≤60) (h : ∀x∈ll,x.length=ll.length∧EF x):Uk ll∧fL ll :=
 ⟨⟨h1,h2,fun x hx=>⟨(h x hx).1,(h x hx).2.2⟩⟩,h1,h2,fun x hx=>⟨(h x hx).1,(h x hx).2.1⟩⟩
end Go.Id

namespace Go.Id
open Go
def Jt (h:IH) (n0 n1:Nat) (v:Value) (n:Nat) (cs:List Value):Prop :=
 cs.length=n ∧ ∃k c fam,v=.slice (some ⟨2*k,0,none⟩) n c∧(c=2*n∨(c=2*n+1∧fam=none))∧0<n∧n0≤k∧k<n1∧n1≤h.n∧h.ext.get k=some (.cells cs 1 fam)∧match fam with
  | none=>True
  | some f=>n0≤f∧f<h.n ∧ ∃rest,h.cM.get f=some (k :: rest) ∧ ∀j∈rest,n0≤j∧j<n1
theorem Jt.sl {h:IH} {n0 n1:Nat} {v:Value} {n:Nat} {cs:List Value} (g:Jt h n0 n1 v n cs):bI h 1 v n cs:=by
 obtain⟨hl,k,c,fam,rfl,hc,hn,h1,h2,h3,h4,_⟩:=g
 exact cV h4 (by omega) (by omega) (by omega) (by omega) (by omega)
def Sim (n0 n1:Nat) (h h':IH):Prop:=h'.n=h.n∧h'.base=h.base∧(∀j,j<n0∨n1≤j→h'.ext.get j=h.ext.get j)∧h'.cM=h.cM
theorem Sim.trans {n0 n1:Nat} {a b c:IH} (x:Sim n0 n1 a b) (y:Sim n0 n1 b c):Sim n0 n1 a c:=⟨y.1.trans x.1,y.2.1.trans x.2.1,fun j hj=>(y.2.2.1 j hj).trans (x.2.2.1 j hj),y.2.2.2.trans x.2.2.2⟩
theorem Sim.ext {n0 n1:Nat} {g h h':IH} (s:Sim n0 n1 h h') (e:Ext g h) (hg:g.n≤n0):Ext g h' :=
 ⟨by rw[s.1];exact e.n,by rw[s.2.1];exact e.base,fun j hj=>(s.2.2.1 j (.inl (by omega))).trans (e.get j hj),fun f hf=>by rw[s.2.2.2];exact e.cM f hf⟩
theorem Jt.set {h:IH} {n0 n1:Nat} {v:Value} {n:Nat} {cs:List Value} (g:Jt h n0 n1 v n cs) {P:Program} {t:TypeId} (hT:aP P t=some 1) {i:Nat} (hi:i<n) {x:Value} (hx:x.cells = #[x]) (hc:aG x=true) :
  ∃h',store P h t (aK v i) x=some h'∧Jt h' n0 n1 v n (cs.set i x)∧Sim n0 n1 h h':=by
 obtain⟨hl,k,c,fam,rfl,hcc,hn,h1,h2,h2',h3,h4⟩:=g
 have hsp:IH.aD cs i [x]=cs.set i x:=fX (by omega)
 have k2:2*k / 2=k:=by omega
 have k1:(2*k % 2 == 1)=false:=by simp
 have hst:store P h t (aK (.slice (some ⟨2*k,0,none⟩) n c) i) x=h.wr (2*k) i [x]:=by
  simp only[aK,Nat.zero_add,store,asAddr,ptr,hT,hx]
  simp[hc]
 have hle:Nat.ble (i + [x].length) cs.length=true:=by rw[Nat.ble_eq];simp;omega
 rw[hst]
 cases fam with
 | none =>
  refine⟨h.put k (.cells (cs.set i x) 1 none),?_,⟨by simpa using hl,k,c,none,rfl,hcc,hn,h1,h2,h2',ad _ _ rfl,trivial⟩,rfl,rfl,fun j hj=>ae _ _ (by omega),rfl⟩
  simp only[IH.wr,k1,k2,h3,hle,cond_true,cond_false,hsp];rfl
 | some f =>
  obtain⟨a1,a2,rest,a3,a4⟩:=h4
  refine⟨{ h with ext:=(IH.fh h.ext (((k :: rest).filter (· != k)))).set k (.cells (cs.set i x) 1 none) },?_,⟨by simpa using hl,k,c,none,rfl,hcc.imp id (fun h=>⟨h.1,rfl⟩),hn,h1,h2,h2',?_,trivial⟩,rfl,rfl,fun j hj=>?_,rfl⟩
  ·simp only[IH.wr,k1,k2,h3,hle,cond_true,cond_false,hsp,a3]
  ·simp[Tr.bY]
  ·have hjk:j≠k:=by omega
   rw[Tr.bY,if_neg hjk,ke,if_neg]
   intro hm
   simp only[List.mem_filter,List.mem_cons,bne_iff_ne,ne_eq] at hm
   rcases hm with⟨rfl|hm,hne⟩
   ·exact hne rfl
   ·have:=a4 j hm;omega
end Go.Id

namespace Go.Id
open Go
end Go.Id

namespace Go.Id
open Go
end Go.Id

namespace Go.Id
open Go
end Go.Id

namespace Go.Id
open Go
end Go.Id

namespace Go.Id
open Go
end Go.Id

namespace Go.Id
open Go
end Go.Id

namespace Go.Id
open Go
end Go.Id

namespace Go.Id
open Go
noncomputable section
end
end Go.Id

namespace Go.Id
open Go
end Go.Id

namespace Go.Id
open Go Go.RowKit
def partAt:Code→Nat→Code
 | .seq a _,0=>a
 | .seq _ b,n+1=>partAt b n
 | c,_=>c
def EK:Code→Nat→Code
 | c,0=>c
 | .seq _ b,n+1=>EK b n
 | c,_=>c
end Go.Id

namespace Go.Id
open Go

noncomputable abbrev QOw:bd→Fr→IH→Prop:=Nh Proofs.Tryz.prog [.tmp 8] fun r _=>r=.bool true
section
variable {h:IH} {fr:Fr} {vN:Value} {lN:List Nat} {sz bx cx s:Nat} {from_ steps:Nat}
end
end Go.Id

namespace Go.Id
open Go
end Go.Id

namespace Go.Id
open Go
theorem Mj (a b:Int):ar Proofs.Tryz.prog (Op.equal 36 (.agg #[.int .u64 a]) (.agg #[.int .u64 b]))=some (a == b):=by
 have key:=uX (P:=Proofs.Tryz.prog) u36 (by kernel_rfl) 9999 #[.int .u64 a] #[.int .u64 b] (fun _=>a == b) (by
  intro f hf
  simp only[List.mem_cons,List.not_mem_nil,or_false] at hf
  subst hf
  exact⟨by decide,.int .u64 a,.int .u64 b,rW nV rfl,rW nV rfl,rX u28 _ _ _⟩)
 refine key.trans (congrArg some ?_)
 simp
section
variable {h:IH} {fr:Fr} {m k e3 v18:Value} {X N:Nat}
structure WX (hh:IH) (fr:Fr) (m v12 v18:Value) (ll:List (List (Nat×Nat))) (N kn:Nat) (p t:List Nat):Prop where
 f9:ah fr 9=some m
 f11:ah fr 11=some (KN N)
 f12:ah fr 12=some v12
 f18:ah fr 18=some v18
 f19:ah fr 19=some (KN kn)
 hm:je hh m ll
 sp:bI hh 1 v12 (N+1) ((pI p).map KI)
 st:bI hh 1 v18 (N+1) ((pI t).map KI)
end
end Go.Id

namespace Go.Id
open Go
end Go.Id

namespace Go.Id
open Go
theorem je.nR {h:IH} {v:Value} {ll:List (List (Nat×Nat))} (s:je h v ll) {i:Nat} {x:List (Nat×Nat)} (hx:ll[i]?=some x) :
  ∃w,(∀h',aF h h'→load Proofs.Tryz.prog h' 60 (aK v i)=some w)∧iM h w x ∧ ∀k:IntKind,indexAddr Proofs.Tryz.prog 38 v (.int k (i:Int))=some (aK v i):=by
 obtain⟨vs,a,b,c⟩:=s
 obtain⟨w,h1,h2⟩:=c i x hx
 have hi:=(List.getElem?_eq_some_iff.1 hx).1
 refine⟨w,fun h' e=>?_,h2,fun k=>by rw[a.idx SO hi,Nat.mul_one]⟩
 rw[a.ld e (by rw[a.2.1];omega) Tq]
 exact h1
section
variable {h:IH} {fr:Fr} {m v12 v18:Value} {X N kn:Nat} {ll:List (List (Nat×Nat))} {p t:List Nat}
end
end Go.Id

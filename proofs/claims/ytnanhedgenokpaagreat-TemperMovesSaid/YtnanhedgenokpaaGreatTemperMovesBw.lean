/-
  TemperMoves: for every input the law returns true, and each argument reads as it did. Conditions: none but the row's own.
-/
import Derived.Test.YtnanhedgenokpaaGreatTemperMovesAt
import Derived.Test.YtnanhedgenokpaaGreatTemperMovesBv
import Derived.Test.YtnanhedgenokpaaGreatTemperMovesBi
set_option linter.unusedVariables false
set_option linter.unusedSimpArgs false
set_option linter.defProp false
set_option linter.deprecated false
namespace Go.Id
open Go
open Go.Proofs.Tryz (prog)
open Nat (reduceMul)
open Nat renaming reduceAdd→zA,reduceEqDiff→zE,reduceLeDiff→zL
set_option maxHeartbeats 16000000
theorem tt {h:IH} {v:Value} {l:List Int} (hv:fI h v l) (hl:l.length≤10) :
  WV prog (.func (.func 50) #[] #[]) [v] h fun r h'=>Ext h h'∧iA h' r (l.map aU):=by
 refine enter (nt:=19) (rs:=[.tmp 2]) Proofs.Tryz.func50 rfl rfl rfl (by simp) ?_
 simp -dsimp (disch:=try exact dx) only[wpS,zE,hv.1.len cW]
 refine loop (fun m fr hh => ∃(i:Nat) (out:Value),i+m=l.length∧Ext h hh∧Acc hh h.n 8 out ((l.take i).map aU).length (wiL ((l.take i).map aU))∧ah fr 3=some out∧ah fr 6=some v∧ah fr 7=some (KN l.length)∧ah fr 8=some (KN i)) l.length
  ⟨0,.slice none 0 0,by omega,Ext.refl _,Acc.nil _ _ (by omega),by simp,by simp,by simp,by simp⟩ ?_
 rintro m fr hh ⟨i,out,him,hE,hA,f3,f6,f7,f8⟩
 have hnn:=hE.n
 simp -dsimp (disch:=try exact dx) only[wpS,f7,f8]
 refine ax ?_ ?_<;>intro hc<;>simp only[decide_eq_true_eq,decide_eq_false_iff_not] at hc
 ·have hi:i<l.length:=by omega
  obtain⟨a,ha⟩ : ∃a,l[i]?=some a:=⟨_,List.getElem?_eq_getElem hi⟩
  have a64:=hv.2.2 a (List.mem_of_getElem? ha)
  have ix:=hv.1.idx fc (P:=prog) (k:=.i64) hi
  simp -dsimp (disch:=try exact dx) only[wpS,wpT,zE,f3,f6,f8,ix,fS hv hE.ab ha]
  refine call (kU a a64) ?_
  rintro _ h1 ⟨X1,rfl⟩
  have m1:=X1.n
  have wl:((l.take i).map aU).length=i:=by rw[List.length_map,List.length_take];omega
  obtain⟨bR,h8,hap,hA8,hG8,hE8⟩:=(hA.ext X1).pU (P:=prog) (t:=42) FX (m:=1) (new:=wdC (aU a)) (by omega) (by rw[aj]) (ay _) (by omega) (by omega) (hE.trans X1) (by omega)
  have jA:append prog (h1.new (.cells (wdC (aU a)) 8 none)) 42 out (.slice (some ⟨2*h1.n,0,none⟩) 1 3)=some (bR,h8):=hap
  simp -dsimp (disch:=try exact dx) only[wpS,wpT,zE,zL,zA,FP,nA,f8,mj,aM,aj,aO,jA]
  refine⟨m - 1,by omega,i+1,bR,by omega,hE8,?_,by simp,by simp[f6],by simp[f7],by simp⟩
  rw[gF ha,List.map_append,List.map_cons,List.map_nil,lf,List.length_append]
  exact hA8
 ·obtain rfl:i=l.length:=by omega
  rw[List.take_length] at hA
  simp -dsimp (disch:=try exact dx) only[wpS,wpT,zE,f3]
  exact⟨hE,hA.sl,by rw[List.length_map];omega,fun n hn=>by
   obtain⟨a,ha,rfl⟩:=List.mem_map.1 hn
   exact fk (qn (hv.2.2 a ha))⟩
theorem GS {h:IH} {w:Value} (c:w.cells = #[w]) :
  WV prog (.func (.func 49) #[] #[]) [w] h fun r h'=>r=.func (.func 132) #[] #[ptr (2*h.n) 0]∧h'=h.new (.cells [w] 0 none):=by
 refine enter (nt:=4) (rs:=[.tmp 2]) Proofs.Tryz.func49 rfl rfl rfl (by simp) ?_
 simp -dsimp (disch:=try exact dx) only[wpS,wpT,zE,c]
theorem Dl {h:IH} {v w:Value} {l:List Int} {b:Nat} (hw:fI h w l) (hl:l.length≤10) (hv:iA h v (l.map aU)) (g:h.ext.get b=some (.cells [w] 0 none)) :
  WV prog (.func (.func 132) #[] #[ptr (2*b) 0]) [v,KI 0] h fun r h'=>Ext h h'∧r=.bool true:=by
 refine enter (nt:=14) (rs:=[.tmp 5]) Proofs.Tryz.func132 rfl rfl rfl (by simp) ?_
 simp -dsimp (disch:=try exact dx) only[wpS,zE,zA,fQ,ai g]
 refine call (tt hw hl) ?_
 rintro _ h1 ⟨X1,s1⟩
 simp -dsimp (disch:=try exact dx) only[wpS,zE]
 refine call (Ej (hv.ab X1.ab) s1) ?_
 rintro _ z1 ⟨ez,rfl⟩
 rw[ez]
 clear ez z1
 simp -dsimp (disch:=try exact dx) only[wpS,wpT,zE]
 exact X1
theorem Er {h:IH} {e:Int} :
  WV prog (.func (.func 54) #[] #[]) [KI e] h fun r h'=>r=.func (.func 133) #[] #[ptr (2*h.n) 0]∧h'=h.new (.cells [KI e] 0 none):=by
 refine enter (nt:=4) (rs:=[.tmp 2]) Proofs.Tryz.func54 rfl rfl rfl (by simp) ?_
 simp -dsimp (disch:=try exact dx) only[wpS,wpT,zE]
theorem Cq {h:IH} {e:Int} {b:Nat} (hb:b<h.n) (g:h.ext.get b=some (.cells [KI e] 0 none)) :
  WV prog (.func (.func 133) #[] #[ptr (2*b) 0]) [shV 0 0,KI e] h fun r h'=>Ext h h'∧r=.bool true:=by
 have hz:(.agg (shC 0 0).toArray:Value)=.agg #[.int .u64 0,.int .u64 0,.int .u64 0,.int .u64 0,.int .u64 0,.int .u64 0,.int .u64 0,.int .u64 0,.int .u64 0,.int .u64 0,.int .u64 0,.int .u64 0,.int .u64 0,.int .u64 0,.int .u64 0,.int .u64 0]:=by kernel_rfl
 have hne : ∀ox oy,binop prog .eql 32 ox oy (.agg (shC 0 0).toArray) (.agg #[.int .u64 0,.int .u64 0,.int .u64 0,.int .u64 0,.int .u64 0,.int .u64 0,.int .u64 0,.int .u64 0,.int .u64 0,.int .u64 0,.int .u64 0,.int .u64 0,.int .u64 0,.int .u64 0,.int .u64 0,.int .u64 0])=some (.bool true):=fun ox oy=>by
  rw[←hz]
  have:=Ka (n:=0) (d:=0) (n':=0) (d':=0) (by decide +kernel) (by decide +kernel) (by decide +kernel) (by decide +kernel) ox oy
  rw[show decide ((0:Nat)=0∧(0:Nat)=0)=true from rfl] at this
  exact this
 have E1:Ext h (h.new (.cells (shC 0 0) 0 none)):=(Ext.refl h).new _
 have k:=E1.kept hb g
 have c:(e == e)=true:=by simp
 refine enter (nt:=14) (rs:=[.tmp 5]) Proofs.Tryz.func133 rfl rfl rfl (by simp) ?_
 simp -dsimp (disch:=try exact dx) only[wpS,wpT,zE,zL,zA,fE,ve,kO,aV,aH,bN,ai k,hne,c]
 exact E1
def A0 (l:List Int) (j:Nat):List (Nat×Nat):=(List.range j).map fun i=>shq (Rat.divInt (l.getD (2*i) 0) (l.getD (2*i+1) 0))
theorem CG (l:List Int) (j:Nat):(A0 l j).length=j:=by simp[A0]
theorem Ih (l:List Int) (j:Nat):A0 l (j+1)=A0 l j ++ [shq (Rat.divInt (l.getD (2*j) 0) (l.getD (2*j+1) 0))]:=by simp[A0,List.range_succ]
theorem Kd {h:IH} {v:Value} {l:List Int} {n:Nat} (hv:fI h v l) (hl:l.length=2*n) (hn:n≤10) (hd : ∀j,j<n→l.getD (2*j+1) 0≠0∧QW (Rat.divInt (l.getD (2*j) 0) (l.getD (2*j+1) 0))) :
  WV prog (.func (.func 53) #[] #[]) [v] h fun r h'=>Ext h h'∧iM h' r (A0 l n):=by
 have hlen:=hv.1.len (P:=prog) cW
 refine enter (nt:=26) (rs:=[.tmp 2]) Proofs.Tryz.func53 rfl rfl rfl (by simp) ?_
 simp -dsimp (disch:=try exact dx) only[wpS]
 refine loop (fun m fr hh => ∃(j:Nat) (out:Value),j+m=n∧Ext h hh∧Acc hh h.n 16 out j (shL (A0 l j))∧ah fr 0=some v∧ah fr 3=some out∧ah fr 4=some (KN (2*j))) n
  ⟨0,.slice none 0 0,by omega,Ext.refl _,Acc.nil _ _ (by omega),by simp,by simp,by simp⟩ ?_
 rintro m fr hh ⟨j,out,hjm,hE,hA,f0,f3,f4⟩
 have hnn:=hE.n
 rw[hl] at hlen
 simp -dsimp (disch:=try exact dx) only[wpS,zE,f0,f4,hlen]
 refine ax ?_ ?_<;>intro hc<;>simp only[decide_eq_true_eq,decide_eq_false_iff_not] at hc
 ·have hj:j<n:=by omega
  obtain⟨d0,hq⟩:=hd j hj
  obtain⟨a,ha⟩ : ∃a,l[2*j]?=some a:=⟨_,List.getElem?_eq_getElem (by omega)⟩
  obtain⟨b,hb⟩ : ∃a,l[2*j+1]?=some a:=⟨_,List.getElem?_eq_getElem (by omega)⟩
  have ga:l.getD (2*j) 0=a:=by rw[List.getD_eq_getElem?_getD,ha];rfl
  have gb:l.getD (2*j+1) 0=b:=by rw[List.getD_eq_getElem?_getD,hb];rfl
  rw[gb] at d0
  rw[ga,gb] at hq
  have a64:=hv.2.2 a (List.mem_of_getElem? ha)
  have b64:=hv.2.2 b (List.mem_of_getElem? hb)
  have ixa:=hv.1.idx fc (P:=prog) (k:=.i64) (j:=2*j) (by omega)
  have ixb:indexAddr prog 25 v (KI (((2*j:Nat):Int)+1))=some (aK v ((2*j+1)*1)):=hv.1.idx fc (P:=prog) (k:=.i64) (j:=2*j+1) (by omega)
  rw[Nat.mul_one] at ixa ixb
  simp -dsimp (disch:=try exact dx) only[wpS,wpT,zE,f0,f3,f4,ixa,ixb,fS hv hE.ab ha,fS hv hE.ab hb]
  refine call (Kj a b a64 b64 d0) ?_
  rintro _ h1 ⟨X1,rfl⟩
  have m1:=X1.n
  rw[ij]
  obtain⟨p,hp⟩ : ∃p,p=shq (Rat.divInt a b):=⟨_,rfl⟩
  rw[←hp]
  obtain⟨bR,h8,hap,hA8,hG8,hE8⟩:=(hA.ext X1).pU (P:=prog) (t:=60) Oz (m:=1) (new:=shC p.1 p.2) (by omega) (by rw[aH]) (cU _ _) (by omega) (by omega) (hE.trans X1) (by omega)
  have jA:append prog (h1.new (.cells (shC p.1 p.2) 16 none)) 60 out (.slice (some ⟨2*h1.n,0,none⟩) 1 3)=some (bR,h8):=hap
  have eT:shL (A0 l j) ++ shC p.1 p.2=shL (A0 l (j+1)):=by
   rw[Ih,ga,gb,←hp,Kb]
  rw[eT] at hA8
  simp -dsimp (disch:=try exact dx) only[wpS,wpT,zE,zL,zA,Mq,vF,f4,aV,aH,dX,jA]
  have e2:((2*j:Nat):Int)+2=((2*(j+1):Nat):Int):=by omega
  exact⟨m - 1,by omega,j+1,bR,by omega,hE8,hA8,by simp[f0],by simp,by show _=some (KI ((2*(j+1):Nat):Int));rw[←e2];simp⟩
 ·obtain rfl:j=n:=by omega
  simp -dsimp (disch:=try exact dx) only[wpS,wpT,zE,f3]
  refine⟨hE,by rw[CG];exact hA.sl,by rw[CG];omega,fun p hp=>?_⟩
  obtain⟨i,hi,rfl⟩:=List.mem_map.1 hp
  exact oq (hd i (List.mem_range.1 hi)).2
theorem za {h:IH} {w1 w2:Value} {x1 x2:List (Nat×Nat)} (s1:iM h w1 x1) (s2:iM h w2 x2):je (h.new (.cells [w1,w2] 1 none)) (.slice (some ⟨2*h.n,0,none⟩) 2 5) [x1,x2]:=by
 have E:Ext h (h.new (.cells [w1,w2] 1 none)):=(Ext.refl h).new _
 refine⟨[w1,w2],cV (k:=h.n) (f:=none) (aa _ _ rfl) (by simp) (by decide) (by simp) (by omega) (by omega),by simp,?_⟩
 intro i x hx
 match i,hx with
 | 0,hx=>simp at hx;subst hx;exact⟨w1,rfl,s1.ab E.ab⟩
 | 1,hx=>simp at hx;subst hx;exact⟨w2,rfl,s2.ab E.ab⟩
 | i+2,hx=>simp at hx
theorem xq {h:IH} (l:List Int) (h0:0<l.length) (hl:l.length≤100) (hx : ∀x∈l,dH x):fI (h.new (.cells (l.map KI) 1 none)) (.slice (some ⟨2*h.n,0,none⟩) l.length (2*l.length+1)) l :=
 ⟨cV (k:=h.n) (f:=none) (aa _ _ rfl) (by simp) (by decide) (by simp) (by omega) (by omega),by omega,hx⟩
def qb:List (List (Nat×Nat)):=[[(1,2),(1,2)],[(1,4),(3,4)]]
theorem vm {h:IH} (a b c d:Int) (hx : ∀x ∈ [a,b,c,d],dH x) (h1:b≠0∧QW (Rat.divInt a b)) (h2:d≠0∧QW (Rat.divInt c d)) :
  WV prog (.func (.func 53) #[] #[]) [.slice (some ⟨2*h.n,0,none⟩) 4 9] (h.new (.cells [KI a,KI b,KI c,KI d] 1 none)) fun r h'=>Ext h h'∧iM h' r [shq (Rat.divInt a b),shq (Rat.divInt c d)] :=
 (Kd (n:=2) (xq [a,b,c,d] (by simp) (by simp) hx) rfl (by omega) (fun j hj=>by
  match j,hj with
  | 0,_=>exact h1
  | 1,_=>exact h2)).mono fun _ _ ⟨X,s⟩=>⟨((Ext.refl h).new _).trans X,s⟩
theorem qwS (n d:Int) (h:(Rat.divInt n d).num.natAbs≤1000000∧(Rat.divInt n d).den≤1000000):QW (Rat.divInt n d):=by
 have:=HD
 exact⟨⟨by omega,by omega⟩,⟨by omega,by omega⟩⟩
theorem rB {h:IH}:WV prog (.func (.func 52) #[] #[]) [] h fun r h'=>Ext h h'∧je h' r qb:=by
 refine enter (nt:=6) (rs:=[.tmp 0]) Proofs.Tryz.func52 rfl rfl rfl (by simp) ?_
 simp -dsimp (disch:=try exact dx) only[wpS,wpT,zL,zA,reduceMul,gO]
 refine call (vm 1 2 1 2 (by decide) ⟨by decide,qwS _ _ (by decide +kernel)⟩ ⟨by decide,qwS _ _ (by decide +kernel)⟩) ?_
 rintro r1 h1 ⟨X1,s1⟩
 simp -dsimp (disch:=try exact dx) only[wpS,wpT,zE,zL,zA,reduceMul,gO]
 refine call (vm 1 4 3 4 (by decide) ⟨by decide,qwS _ _ (by decide +kernel)⟩ ⟨by decide,qwS _ _ (by decide +kernel)⟩) ?_
 rintro r2 h2 ⟨X2,s2⟩
 have c1:=s1.1.cells
 have c2:=s2.1.cells
 have o1:=s1.1.cok
 have o2:=s2.1.cok
 simp -dsimp (disch:=try exact dx) only[wpS,wpT,zE,zL,zA,reduceMul,Mr,c1,c2]
 have e:qb = [[shq (Rat.divInt 1 2),shq (Rat.divInt 1 2)],[shq (Rat.divInt 1 4),shq (Rat.divInt 3 4)]]:=by decide +kernel
 rw[e]
 exact⟨(X1.trans X2).new _,za (s1.ab X2.ab) s2⟩
theorem vU:KX qb:=by
 refine xP (by decide) (by decide) fun x hx=>?_
 simp only[qb,List.mem_cons,List.not_mem_nil,or_false] at hx
 rcases hx with rfl|rfl
 ·exact⟨rfl,⟨by unfold gJ ti okS;decide +kernel,⟨2,by unfold smR;decide⟩,(1,2),by decide,by decide⟩⟩
 ·exact⟨rfl,⟨by unfold gJ ti okS;decide +kernel,⟨4,by unfold smR;decide⟩,(1,4),by decide,by decide⟩⟩
theorem w12:([1,2]:List Int).map aU = [1,2]:=by decide +kernel
theorem De {lev:Int} (h:0≤lev∧lev≤8):gN qb [1,2] [0,1] lev=0:=(tJ vU rfl rfl (by decide +kernel) (by decide) h).1
theorem RJ:jv (jo [0,1] 0) [1,2] 2=([1,2]:List Int).map aU:=by decide +kernel
theorem RI:jv (jo [0,1] 2) [1,2] 2=([4,2]:List Int).map aU:=by decide +kernel
theorem SL:kB qb (jv (jo [0,1] 0) [1,2] 2)=qb:=by decide +kernel
theorem SK:kB qb (jv (jo [0,1] 2) [1,2] 2) = [[shq (Rat.divInt 7 8),shq (Rat.divInt 1 8)],[shq (Rat.divInt 1 4),shq (Rat.divInt 3 4)]]:=by decide +kernel
end Go.Id

namespace Go.Id
open Go
open Nat (reduceMul)
open Nat renaming reduceAdd→zA,reduceEqDiff→zE,reduceLeDiff→zL
set_option maxHeartbeats 16000000
theorem IQ {l:List Int} (h : ∀x∈l,-1000≤x∧x≤1000) : ∀x∈l,dH x:=fun x hx=>by
 have:=h x hx
 exact⟨by omega,by omega⟩
theorem kQ (h:IH) (a b:Int) (hx : ∀x ∈ [a,b],dH x):fI (h.new (.cells [KI a,KI b] 1 none)) (.slice (some ⟨2*h.n,0,none⟩) 2 5) [a,b]:=xq [a,b] (by simp) (by simp) hx
theorem QZ {α:Type} (a:α) (l m:List α):List.append (a :: l) m=a :: List.append l m:=rfl
theorem QY {α:Type} (m:List α):List.append [] m=m:=rfl
set_option maxRecDepth 100000 in
theorem Eg {h:IH}:WV Proofs.Tryz.prog (.func (.func 10) #[] #[]) [] h fun r h'=>Ext h h'∧r=.bool true:=by
 have i0:dH (0:Int):=⟨by omega,by omega⟩
 have i2:dH (2:Int):=⟨by omega,by omega⟩
 have y12 : ∀x∈([1,2]:List Int),dH x:=IQ (by decide)
 obtain⟨Ha,hHa⟩ : ∃H,H=h.new (.cells [KI 0,KI 1] 1 none):=⟨_,rfl⟩
 have Ea:Ext h Ha:=by rw[hHa];exact(Ext.refl h).new _
 obtain⟨vs,hvs⟩ : ∃v,v=Value.slice (some ⟨2*h.n,0,none⟩) 2 5:=⟨_,rfl⟩
 have ss:fI Ha vs [0,1]:=by rw[hHa,hvs];exact kQ h 0 1 (IQ (by decide))
 refine enter (nt:=97) (rs:=[.tmp 0]) Proofs.Tryz.func10 rfl rfl rfl (by simp) ?_
 simp -dsimp (disch:=try exact dx) only[wpS,wpT,zL,zA,reduceMul,gO,←hHa,←hvs]
 simp only[QZ,QY]
 simp -dsimp (disch:=try exact dx) only[wpS,wpT,zE,zL,zA,reduceMul,gO]
 clear hHa hvs
 refine call (GS (w:=.slice (some ⟨2*Ha.n,0,none⟩) 2 5) rfl) ?_
 rintro _ H1 ⟨rfl,hH1⟩
 have sa:fI H1 (.slice (some ⟨2*Ha.n,0,none⟩) 2 5) [1,2]:=by rw[hH1];exact(kQ Ha 1 2 y12).ab ((Ext.refl _).new _).ab
 have g1:H1.ext.get (Ha.n+1)=some (.cells [.slice (some ⟨2*Ha.n,0,none⟩) 2 5] 0 none):=by rw[hH1];exact aa _ _ rfl
 have E1:Ext Ha H1:=by rw[hH1];exact((Ext.refl _).new _).new _
 have n1:H1.n=Ha.n+2:=by rw[hH1];rfl
 clear hH1
 simp -dsimp (disch:=try exact dx) only[wpS,wpT,zE,zL,zA,reduceMul,gO]
 refine call (tt (kQ H1 1 2 y12) (by decide)) ?_
 rintro v2 h2 ⟨X2,s2⟩
 rw[w12] at s2
 have E2:=(E1.new _).trans X2
 simp -dsimp (disch:=try exact dx) only[wpS,zE]
 refine call (mU s2 (ss.ab E2.ab) i0) ?_
 rintro _ h3 ⟨X3,v3,rfl,t3,_⟩
 have e3:=(xg (De (lev:=0) (by omega))).1
 have t3:=t3 e3
 rw[e3]
 rw[show([1,2]:List Nat).length=2 from rfl,RJ] at t3
 have E3:=E2.trans X3
 have E13:=(((Ext.refl H1).new _).trans X2).trans X3
 simp -dsimp (disch:=try exact dx) only[wpS,zE]
 refine call (Dl (sa.ab E13.ab) (by decide) t3 (E13.kept (by omega) g1)) ?_
 rintro _ h4 ⟨X4,rfl⟩
 have E4:=E3.trans X4
 simp -dsimp (disch:=try exact dx) only[wpS,wpT,zE,zL,zA,reduceMul,gO]
 refine call (GS (w:=.slice (some ⟨2*h4.n,0,none⟩) 2 5) rfl) ?_
 rintro _ H5 ⟨rfl,hH5⟩
 have sb:fI H5 (.slice (some ⟨2*h4.n,0,none⟩) 2 5) [4,2]:=by rw[hH5];exact(kQ h4 4 2 (IQ (by decide))).ab ((Ext.refl _).new _).ab
 have g5:H5.ext.get (h4.n+1)=some (.cells [.slice (some ⟨2*h4.n,0,none⟩) 2 5] 0 none):=by rw[hH5];exact aa _ _ rfl
 have E5:Ext h4 H5:=by rw[hH5];exact((Ext.refl _).new _).new _
 have n5:H5.n=h4.n+2:=by rw[hH5];rfl
 clear hH5
 simp -dsimp (disch:=try exact dx) only[wpS,wpT,zE,zL,zA,reduceMul,gO]
 refine call (tt (kQ H5 1 2 y12) (by decide)) ?_
 rintro v6 h6 ⟨X6,s6⟩
 rw[w12] at s6
 have E6:=((E4.trans E5).new _).trans X6
 simp -dsimp (disch:=try exact dx) only[wpS,wpT,zE]
 refine call (mU s6 (ss.ab E6.ab) i2) ?_
 rintro _ h7 ⟨X7,v7,rfl,t7,_⟩
 have e7:=(xg (De (lev:=2) (by omega))).1
 have t7:=t7 e7
 rw[e7]
 rw[show([1,2]:List Nat).length=2 from rfl,RI] at t7
 have E7:=E6.trans X7
 have E57:=(((Ext.refl H5).new _).trans X6).trans X7
 simp -dsimp (disch:=try exact dx) only[wpS,wpT,zE]
 refine call (Dl (sb.ab E57.ab) (by decide) t7 (E57.kept (by omega) g5)) ?_
 rintro _ h8 ⟨X8,rfl⟩
 have E8:=E7.trans X8
 simp -dsimp (disch:=try exact dx) only[wpS,wpT,zE,zL,zA,reduceMul,gO]
 obtain⟨H9,hH9⟩ : ∃H,H=(h8.new (.cells [KI 0,KI 31] 1 none)).new (.cells [KI 0] 1 none):=⟨_,rfl⟩
 have E9:Ext h8 H9:=by rw[hH9];exact((Ext.refl _).new _).new _
 have c1:fI H9 (.slice (some ⟨2*h8.n,0,none⟩) 2 5) [0,31]:=by rw[hH9];exact(kQ h8 0 31 (IQ (by decide))).ab ((Ext.refl _).new _).ab
 have c2:fI H9 (.slice (some ⟨2*(h8.n+1),0,none⟩) 1 3) [0]:=by rw[hH9];exact Bd _ 0 i0
 rw[←hH9]
 clear hH9
 refine call (mW c1 c2) ?_
 rintro _ h10 ⟨X10,rfl⟩
 rw[show fF [0,31] [0]=340 from rfl]
 have E10:=(E8.trans E9).trans X10
 simp -dsimp (disch:=try exact dx) only[wpS,wpT,zE]
 refine call rB ?_
 rintro w1 h11 ⟨X11,t11⟩
 obtain⟨cw1,_,_⟩:=t11.co
 simp -dsimp (disch:=try exact dx) only[wpS,wpT,zE]
 refine call (Li cw1) ?_
 rintro _ H12 ⟨rfl,Oa⟩
 have E12:Ext h11 H12:=by rw[Oa];exact(Ext.refl _).new _
 have n12:H12.n=h11.n+1:=by rw[Oa];rfl
 have g12:H12.ext.get h11.n=some (.cells [w1] 0 none):=by rw[Oa];exact aa _ _ rfl
 clear Oa
 simp -dsimp (disch:=try exact dx) only[wpS,wpT,zE]
 refine call rB ?_
 rintro w2 h13 ⟨X13,t13⟩
 simp -dsimp (disch:=try exact dx) only[wpS,wpT,zE,zL,zA,reduceMul,gO]
 refine call (tt (kQ h13 1 2 y12) (by decide)) ?_
 rintro v14 h14 ⟨X14,s14⟩
 rw[w12] at s14
 have E14:=((((E10.trans X11).trans E12).trans X13).new _).trans X14
 have F14:=(X13.new _).trans X14
 simp -dsimp (disch:=try exact dx) only[wpS,wpT,zE]
 refine call (mV (t13.ab (((Ext.refl h13).new _).trans X14).ab) s14 (ss.ab E14.ab) i0) ?_
 rintro _ h15 ⟨X15,o15,rfl,t15,_⟩
 have e15:=De (lev:=0) (by omega)
 have t15:=t15 e15
 rw[e15]
 rw[show([1,2]:List Nat).length=2 from rfl,SL] at t15
 obtain⟨c15,k15,_⟩:=t15.co
 have F15:=F14.trans X15
 simp -dsimp (disch:=try exact dx) only[wpS,wpT,zE]
 refine call (GX t15 (t11.ab (E12.trans F15).ab) (F15.kept (by omega) g12)) ?_
 rintro _ z1 ⟨ez,rfl⟩
 rw[ez]
 clear ez z1
 have E15:=E14.trans X15
 simp -dsimp (disch:=try exact dx) only[wpS,wpT,zE,zL,zA,reduceMul,gO]
 have qs : ∀n d:Int,d≠0∧(Rat.divInt n d).num.natAbs≤1000000∧(Rat.divInt n d).den≤1000000→d≠0∧QW (Rat.divInt n d):=fun n d h=>⟨h.1,qwS n d h.2⟩
 refine call (vm 7 8 1 8 (IQ (by decide)) (qs 7 8 (by decide +kernel)) (qs 1 8 (by decide +kernel))) ?_
 rintro r1 h16 ⟨X16,s16⟩
 simp -dsimp (disch:=try exact dx) only[wpS,wpT,zE,zL,zA,reduceMul,gO]
 refine call (vm 1 4 3 4 (IQ (by decide)) (qs 1 4 (by decide +kernel)) (qs 3 4 (by decide +kernel))) ?_
 rintro r2 h17 ⟨X17,s17⟩
 have d1:=s16.1.cells
 have d2:=s17.1.cells
 have d3:=s16.1.cok
 have d4:=s17.1.cok
 simp -dsimp (disch:=try exact dx) only[wpS,wpT,zE,zL,zA,reduceMul,Mr,d1,d2]
 have t18:=za (s16.ab X17.ab) s17
 refine call (Li (w:=.slice (some ⟨2*h17.n,0,none⟩) 2 5) rfl) ?_
 rintro _ H18 ⟨rfl,N9⟩
 have E18:Ext (h17.new (.cells [r1,r2] 1 none)) H18:=by rw[N9];exact(Ext.refl _).new _
 have n18:H18.n=h17.n+2:=by rw[N9];rfl
 have g18:H18.ext.get (h17.n+1)=some (.cells [.slice (some ⟨2*h17.n,0,none⟩) 2 5] 0 none):=by rw[N9];exact aa _ _ rfl
 clear N9
 have F18:=(((E15.trans X16).trans X17).new (.cells [r1,r2] 1 none)).trans E18
 simp -dsimp (disch:=try exact dx) only[wpS,wpT,zE]
 refine call rB ?_
 rintro w3 h19 ⟨X19,t19⟩
 simp -dsimp (disch:=try exact dx) only[wpS,wpT,zE,zL,zA,reduceMul,gO]
 refine call (tt (kQ h19 1 2 y12) (by decide)) ?_
 rintro v20 h20 ⟨X20,s20⟩
 rw[w12] at s20
 have E20:=((F18.trans X19).new _).trans X20
 have F20:=(X19.new _).trans X20
 simp -dsimp (disch:=try exact dx) only[wpS,wpT,zE]
 refine call (mV (t19.ab (((Ext.refl h19).new _).trans X20).ab) s20 (ss.ab E20.ab) i2) ?_
 rintro _ h21 ⟨X21,o21,rfl,t21,_⟩
 have e21:=De (lev:=2) (by omega)
 have t21:=t21 e21
 rw[e21]
 rw[show([1,2]:List Nat).length=2 from rfl,SK] at t21
 obtain⟨c21,k21,_⟩:=t21.co
 have F21:=F20.trans X21
 simp -dsimp (disch:=try exact dx) only[wpS,wpT,zE]
 refine call (GX t21 (t18.ab (E18.trans F21).ab) (F21.kept (by omega) g18)) ?_
 rintro _ z1 ⟨ez,rfl⟩
 rw[ez]
 clear ez z1
 have E21:=E20.trans X21
 have q11:(1:Int)≠0∧QW (Rat.divInt 1 1):=qs 1 1 (by decide +kernel)
 have q14:(4:Int)≠0∧QW (Rat.divInt 1 4):=qs 1 4 (by decide +kernel)
 have i1:dH (1:Int):=⟨by omega,by omega⟩
 have i4:dH (4:Int):=⟨by omega,by omega⟩
 have sb1 : ∀x∈([0,1]:List Int),0≤x∧x≤30:=by decide
 have k1:iK [0,1] 2 0 1 0=.tuple #[iS (Rat.divInt 1 1),KI 0]:=sZ (s:=[0,1]) (a:=2) (b:=0) (x:=1) (y:=0) (by decide) (by decide) sb1 (by decide) (by decide) (by decide) (by decide)
 have k2:iK [0,1] 2 0 0 1=.tuple #[iS (Rat.divInt 1 4),KI 0]:=sZ (s:=[0,1]) (a:=2) (b:=0) (x:=0) (y:=1) (by decide) (by decide) sb1 (by decide) (by decide) (by decide) (by decide)
 have k3:iK [0,1] 2 0 0 2=.tuple #[shV 0 0,KI 2]:=by
  unfold iK
  rw[if_neg (by rw[show fF [0,1] [2,0]=0 from rfl];decide),if_pos (by decide)]
 simp -dsimp (disch:=try exact dx) only[wpS,wpT,zE]
 refine call GL ?_
 rintro _ H22 ⟨rfl,Lo⟩
 have E22:Ext h21 H22:=by rw[Lo];exact((Ext.refl _).new _).new _
 have n22:H22.n=h21.n+2:=by rw[Lo];rfl
 have p22:H22.ext.get h21.n=some (.cells [KI 1] 0 none):=by rw[Lo];simp (disch:=try exact dx) only[aa,ao]
 have r22:H22.ext.get (h21.n+1)=some (.cells [KI 1] 0 none):=by rw[Lo];simp (disch:=try exact dx) only[aa]
 clear Lo
 simp -dsimp (disch:=try exact dx) only[wpS,wpT,zE]
 refine call (oh (ss.ab (E21.trans E22).ab) i2 i0 i1 i0) ?_
 rintro _ h23 ⟨X23,rfl⟩
 rw[k1]
 simp -dsimp (maxSteps:=1000000) (disch:=first|omega|(simp only[al,aq];omega)|decide +kernel|(repeat first|rw[al]|rw[aq])) only[wpS,wpT,zE]
 refine call (CU i1 i1 q11.1 q11.2 (by have:=X23.n;omega) (by have:=X23.n;omega) (X23.kept (by omega) p22) (X23.kept (by omega) r22)) ?_
 rintro _ h24 ⟨X24,rfl⟩
 have E24:=((E21.trans E22).trans X23).trans X24
 simp -dsimp (disch:=try exact dx) only[wpS,wpT,zE]
 refine call GL ?_
 rintro _ H25 ⟨rfl,Ln⟩
 have E25:Ext h24 H25:=by rw[Ln];exact((Ext.refl _).new _).new _
 have n25:H25.n=h24.n+2:=by rw[Ln];rfl
 have p25:H25.ext.get h24.n=some (.cells [KI 1] 0 none):=by rw[Ln];simp (disch:=try exact dx) only[aa,ao]
 have r25:H25.ext.get (h24.n+1)=some (.cells [KI 4] 0 none):=by rw[Ln];simp (disch:=try exact dx) only[aa]
 clear Ln
 simp -dsimp (disch:=try exact dx) only[wpS,wpT,zE]
 refine call (oh (ss.ab (E24.trans E25).ab) i2 i0 i0 i1) ?_
 rintro _ h26 ⟨X26,rfl⟩
 rw[k2]
 simp -dsimp (maxSteps:=1000000) (disch:=first|omega|(simp only[al,aq];omega)|decide +kernel|(repeat first|rw[al]|rw[aq])) only[wpS,wpT,zE]
 refine call (CU i1 i4 q14.1 q14.2 (by have:=X26.n;omega) (by have:=X26.n;omega) (X26.kept (by omega) p25) (X26.kept (by omega) r25)) ?_
 rintro _ h27 ⟨X27,rfl⟩
 have E27:=((E24.trans E25).trans X26).trans X27
 simp -dsimp (disch:=try exact dx) only[wpS,wpT,zE]
 refine call Er ?_
 rintro _ H28 ⟨rfl,N8⟩
 have E28:Ext h27 H28:=by rw[N8];exact(Ext.refl _).new _
 have n28:H28.n=h27.n+1:=by rw[N8];rfl
 have p28:H28.ext.get h27.n=some (.cells [KI 2] 0 none):=by rw[N8];exact aa _ _ rfl
 clear N8
 simp -dsimp (disch:=try exact dx) only[wpS,wpT,zE]
 refine call (oh (ss.ab (E27.trans E28).ab) i2 i0 i0 i2) ?_
 rintro _ h29 ⟨X29,rfl⟩
 rw[k3]
 simp -dsimp (maxSteps:=1000000) (disch:=first|omega|(simp only[al,aq];omega)|decide +kernel|(repeat first|rw[al]|rw[aq])) only[wpS,wpT,zE]
 refine call (Cq (by have:=X29.n;omega) (X29.kept (by omega) p28)) ?_
 rintro _ h30 ⟨X30,rfl⟩
 have E30:=((E27.trans E28).trans X29).trans X30
 simp -dsimp (disch:=try exact dx) only[wpS,wpT,zE]
 refine call G8 ?_
 rintro _ H31 ⟨rfl,N7⟩
 have E31:Ext h30 H31:=by rw[N7];exact(Ext.refl _).new _
 have n31:H31.n=h30.n+1:=by rw[N7];rfl
 have p31:H31.ext.get h30.n=some (.cells [KI 2] 0 none):=by rw[N7];exact aa _ _ rfl
 clear N7
 simp -dsimp (disch:=try exact dx) only[wpS,wpT,zE]
 refine call rB ?_
 rintro w4 h32 ⟨X32,t32⟩
 simp -dsimp (disch:=try exact dx) only[wpS,wpT,zE,zL,zA,reduceMul,gO]
 refine call (tt (kQ h32 1 2 y12) (by decide)) ?_
 rintro v33 h33 ⟨X33,s33⟩
 rw[w12] at s33
 have F33:=(X32.new _).trans X33
 have E33:=((E30.trans E31).trans F33)
 simp -dsimp (maxSteps:=1000000) (disch:=first|omega|(simp only[al,aq];omega)|decide +kernel|(repeat first|rw[al]|rw[aq])) only[wpS,wpT,zE,zL,zA,gO,mh]
 obtain⟨H34,Lm⟩ : ∃H,H=(h33.new (.cells [KI 0] 1 none)).new (.cells [KI 2] 1 none):=⟨_,rfl⟩
 have E34:Ext h33 H34:=by rw[Lm];exact((Ext.refl _).new _).new _
 have a1:fI H34 (.slice (some ⟨2*h33.n,0,none⟩) 1 3) [0]:=by rw[Lm];exact(Bd _ 0 i0).ab ((Ext.refl _).new _).ab
 have a2:fI H34 (.slice (some ⟨2*(h33.n+1),0,none⟩) 1 3) [2]:=by rw[Lm];exact Bd _ 2 i2
 rw[←Lm]
 clear Lm
 have rr:yG qb [1,2] [0,1] [0] [2] 0=([],0,0,2):=by
  have lv0:pS qb [1,2] [0,1] [0]=0:=by
   rw[pS,De (by omega),if_neg (fun h=>h rfl),pS]
  unfold yG
  rw[if_neg (fun h=>h vU.1),if_neg (by rw[show fF [0,1] [0]=0 from rfl];decide),lv0,if_neg (by decide),if_pos (.inr (by decide))]
 refine call (vY (c:=0) (t32.ab ((((Ext.refl h32).new _).trans X33).trans E34).ab) (s33.ab E34.ab) (ss.ab (E33.trans E34).ab) a1 a2 (by decide)) ?_
 rintro _ h35 ⟨X35,o35,rfl,S35⟩
 rw[rr] at S35 ⊢
 simp -dsimp (maxSteps:=1000000) (disch:=first|omega|(simp only[al,aq];omega)|decide +kernel|(repeat first|rw[al]|rw[aq])) only[wpS,wpT,zE]
 refine call (DD S35 (by have:=(F33.trans (E34.trans X35)).n;omega) ((F33.trans (E34.trans X35)).kept (by omega) p31)) ?_
 rintro _ h36 ⟨X36,rfl⟩
 simp -dsimp (maxSteps:=1000000) (disch:=first|omega|(simp only[al,aq];omega)|decide +kernel|(repeat first|rw[al]|rw[aq])) only[wpS,wpT,zE]
 exact Ea.trans (((E33.trans E34).trans X35).trans X36)
end Go.Id

namespace Go.Id
open Go
theorem C5 {h:IH} {sz s:Nat} {vN vS vL vA vR vQ:Value} {lN lS lL lA:List Nat} (hN:jF h vN lN) (hS:jF h vS lS) (hL:jF h vL lL) (hA:jF h vA lA) (coR:vR.cells = #[vR]) (cR:aG vR=true) (coQ:vQ.cells = #[vQ]) (cQ:aG vQ=true) (hsz:sz<256) (hs:s<18446744073709551616) :
  WV Proofs.Tryz.prog (.func (.func 4) #[] #[]) [.agg #[B8 sz,vN,vS,vL,vA,vR,vQ],.agg #[K64 s]] h fun r _=>r=.bool true:=by
 obtain⟨H0,hH0⟩ : ∃H,H=(h.new (.cells [B8 sz,vN,vS,vL,vA,vR,vQ] 0 none)).new (.cells [K64 s] 0 none):=⟨_,rfl⟩
 have n0:H0.n=h.n+2:=by rw[hH0];rfl
 have E0:Ext h H0:=by rw[hH0];exact((Ext.refl h).new _).new _
 have g0:H0.ext.get h.n=some (.cells [B8 sz,vN,vS,vL,vA,vR,vQ] 0 none):=by rw[hH0];simp (disch:=try exact dx) only[aa,ao]
 have g1:H0.ext.get (h.n+1)=some (.cells [K64 s] 0 none):=by rw[hH0];simp (disch:=try exact dx) only[aa]
 refine enter (nt:=170) (rs:=[.tmp 4]) Proofs.Tryz.func4 rfl rfl rfl (by simp) ?_
 show Do (wpC _ _ _ _ (.seq (partAt BO 0) (.seq (partAt BO 1) (EK BO 2))) _ _) _ _
 rw[kf]
 refine cut (fun fr h'=>h'=H0∧ah fr 2=some (ptr (2*h.n) 0)∧ah fr 3=some (ptr (2*(h.n+1)) 0)) ?_ ?_
 ·show Do (wpC _ _ _ _ (.region _ _ _) _ _) _ _
  simp -dsimp (disch:=try exact dx) only[wpS,Nat.reduceEqDiff,Nat.reduceAdd]
  exact⟨hH0.symm,by simp,by simp⟩
 rintro fr1 h1 ⟨e1,f2,f3⟩
 rw[e1]
 clear e1 h1
 rw[kf]
 refine cut (fun fr h'=>Ext H0 h'∧ah fr 2=some (ptr (2*h.n) 0)∧ah fr 3=some (ptr (2*(h.n+1)) 0)) ?_ ?_
 ·show Do (wpC _ _ _ _ (.seq _ _) _ _) _ _
  simp -dsimp (disch:=try exact dx) only[wpS]
  refine call Eg ?_
  rintro _ h2 ⟨X2,rfl⟩
  simp -dsimp (disch:=try exact dx) only[wpS,wpT,Nat.reduceEqDiff]
  exact⟨X2,by simp[f2],by simp[f3]⟩
 rintro fr2 h2 ⟨X2,f2,f3⟩
 have n2:=X2.n
 have E2:=E0.trans X2
 exact EZ (bx:=h.n) (bc:=h.n+1) (hN.ab E2.ab) (hS.ab E2.ab) (hL.ab E2.ab) (hA.ab E2.ab) cR cQ hsz hs (by omega) (by omega) (X2.kept (by omega) g0) (X2.kept (by omega) g1) f2 f3
end Go.Id

namespace Go.Proofs.YtnanhedgenokpaaGreat
open Go.ChangeShapes Go.WideShapes Go.ChangeAt Go.RowKit Go.Id
theorem wf_u16 {x:Int} (h:(Lit.int .u16 x).wf=true):0≤x∧x<65536:=by
 simp only[Lit.wf,Bool.and_eq_true,decide_eq_true_eq] at h
 have h1:(0:Int)≤x:=h.1
 have h2:x≤(65535:Int):=h.2
 exact⟨h1,by omega⟩
theorem TI {m:Mp} (n d:Nat):aB m (shV n d) (.agg (shC n d).toArray):=.bT (It n d)
set_option maxRecDepth 100000 in
theorem qF (os:Os) (started:os.Started) (H:Type) (enc:TypeId×Value→H) :
  ReturnsInHanded {} Tryz.checked os 4 .any (Rows.temperMovesSpec.pre6 enc Tryz.prog Tryz.f4 Rows.temperMovesRow.domain false) (Rows.temperMovesSpec.post enc Tryz.prog Tryz.f4 false true false false):=by
 refine returnsInHanded_of_change (C:=Tryz.checked) Tryz.own started (by kernel_rfl) Tryz.func4
  (ChangeSpec.witness6 (enc:=enc) (C:=Tryz.checked) false ⟨#[],#[.agg #[.int .u8 0,.slice none 0 0,.slice none 0 0,.slice none 0 0,.slice none 0 0,.slice none 0 0,.slice none 0 0],.agg #[.int .u64 0]],[]⟩ 8 (by kernel_rfl) (by kernel_rfl) (by kernel_rfl) (by kernel_rfl)) ?_
 intro W base args ds gs before R9 hW hcnd _
 have oO : ∀(j:Nat) t v,Tryz.f4.params[j]?=some t→args[j]?=some v→Value.okWide Tryz.prog W .any base t v:=R9
 have hW':=hW
 obtain⟨p,q,hA0,hV,rfl,hfz,hnd⟩:=hW
 have hA:DataW.TrodAll enc Tryz.prog W 0 (fun _=>true) true Tryz.f4.params.toList args.toList ds p:=hA0
 have hA1:=hA
 rw[Tryz.params4] at hA oO
 obtain⟨a0,r0,d0,ds0,p0,q0,e0,rfl,rfl,t0,h0A⟩:=trodAll_cons hA
 obtain⟨a1,r1,d1,ds1,p1,q1,rfl,rfl,rfl,t1,h1A⟩:=trodAll_cons h0A
 obtain⟨rfl,rfl,rfl⟩:=trodAll_nil h1A
 obtain⟨rfl,rfl⟩:=trodVars_none hV
 obtain rfl:args = #[a0,a1]:=by cases args;simpa using e0
 obtain⟨z0,rfl,_⟩:=okWide_struct JI (oO 0 _ _ rfl rfl)
 obtain⟨fu0,t0⟩:=t0
 obtain⟨k0,yN0,yS0,yL0,yA0,yR0,yQ0,lN0,lS0,lL0,lA0,lR0,lQ0,g0,kb0,m0,sN0,sS0,sL0,sA0,sR0,sQ0⟩:=Ot (fun _=>none) t0
 obtain rfl:z0 = #[B8 k0,yN0,yS0,yL0,yA0,yR0,yQ0]:=by cases z0;simpa using g0
 obtain⟨z1,rfl,_⟩:=okWide_struct Cf (oO 1 _ _ rfl rfl)
 obtain⟨fu1,t1⟩:=t1
 obtain⟨k1,g1,kb1⟩:=Ja t1
 obtain rfl:z1 = #[K64 k1]:=by cases z1;simpa using g1
 have hb:=MZ (W:=W) (G:=fun _=>none) (fun b cs h=>by cases h)
 refine(ML Tryz.sound (C5 sN0 sS0 sL0 sA0 sR0.1.cells sR0.1.cok sQ0.1.cells sQ0.1.cok kb0 kb1) hb (args':=#[.agg #[B8 k0,yN0,yS0,yL0,yA0,yR0,yQ0],.agg #[K64 k1]]) (.cons (.pR (.cons (.bP rfl) (.cons (mS m0.1) (.cons (mS m0.2.1) (.cons (mS m0.2.2.1) (.cons (mS m0.2.2.2.1) (.cons (mS m0.2.2.2.2.1) (.cons (mS m0.2.2.2.2.2) (.nil _))))))))) (.cons (.pR (.cons (.bP rfl) (.nil _))) (.nil _)))).mono fun e W' ⟨he,hk⟩=>?_
 subst he
 refine⟨_,rfl,yH (pa:=p0 ++ (p1 ++ [])) (pv:=[]) hW' (fun _ _ _=>trodAll_mk1 (shut_bool Tryz.underlying4 _)) (fun sp hs=>?_) (fun _ _=>rfl) hk⟩
 exact qc Tryz.kids Tryz.pos hk hA1 (fun t ht=>by
  rw[Tryz.params4] at ht
  simp at ht
  rcases ht with rfl|rfl<;>exact of_decide_eq_true (by kernel_rfl)) (fun x hx=>hs x (by simpa using hx))
theorem temperMoves_row:Rows.TemperMovesSaid :=
 OpenClaim.holds_of_wide 4 Tryz.f4 rfl rfl rfl rfl rfl rfl rfl ⟨rfl,rfl,rfl,rfl,rfl⟩ rfl rfl rfl rfl rfl (by kernel_rfl) Tryz.func4 (by kernel_rfl)
  (of_decide_eq_true (by kernel_rfl)) (by unfold Func.isWrapper;first|(rw[if_pos (by decide +kernel)];kernel_rfl)|(rw[if_neg (by decide +kernel)];exact⟨rfl,rfl⟩))
  (fun os started H enc _=>qF os started H enc)
#print axioms temperMoves_row
end Go.Proofs.YtnanhedgenokpaaGreat

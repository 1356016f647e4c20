/-
  Weakest preconditions over the ideal machine: a store into a list that grows leaves all later memory as it is. Contracts: slices.Reverse of ints.
-/
import Derived.Test.YtjhnilfelokpcaaGreatOutlierWaysBl
import Derived.Test.YtjhnilfelokpcaaGreatOutlierWaysAs
import Derived.Test.YtjhnilfelokpcaaGreatOutlierWaysAt
import Derived.Test.YtjhnilfelokpcaaGreatOutlierWaysBu
import Derived.Test.YtjhnilfelokpcaaGreatOutlierWaysBq
set_option linter.unusedVariables false
set_option linter.unusedSimpArgs false
set_option linter.defProp false
set_option linter.deprecated false
namespace Go.Id
open Go
def GroB (h:IH) (n0 n1:Nat) (v:Value) (n:Nat) (cs:List Value):Prop :=
 cs.length=n ∧ ∃k c fam,v=.slice (some ⟨2*k,0,none⟩) n c∧(c=2*n∨(c=2*n+1∧fam=none))∧0<n∧n0≤k∧k<n1∧n1≤h.n∧h.ext.get k=some (.cells cs 1 fam)∧match fam with
  | none=>True
  | some f=>n0≤f∧f<h.n ∧ ∃rest,h.fams.get f=some (k :: rest) ∧ ∀j∈rest,n0≤j∧j<n1
theorem Acc.groB {h:IH} {n0:Nat} {v:Value} {n:Nat} {cs:List Value} (a:Acc h n0 1 v n cs) (hn:0<n):GroB h n0 h.n v n cs:=by
 obtain⟨hz,hl,⟨rfl,rfl⟩|⟨k,fam,rfl,hn,h1,h2,h3,h4⟩⟩:=a
 ·omega
 ·refine⟨by omega,k,2*n,fam,rfl,.inl rfl,hn,h1,h2,Nat.le_refl _,h3,?_⟩
  cases fam with
  | none=>trivial
  | some f=>exact h4
theorem GroB.sl {h:IH} {n0 n1:Nat} {v:Value} {n:Nat} {cs:List Value} (g:GroB h n0 n1 v n cs):SlOf h 1 v n cs:=by
 obtain⟨hl,k,c,fam,rfl,hc,hn,h1,h2,h3,h4,_⟩:=g
 exact sl_block h4 (by omega) (by omega) (by omega) (by omega) (by omega)
def Sim (n0 n1:Nat) (h h':IH):Prop:=h'.n=h.n∧h'.base=h.base∧(∀j,j<n0∨n1≤j→h'.ext.get j=h.ext.get j)∧h'.fams=h.fams
theorem Sim.refl (n0 n1:Nat) (h:IH):Sim n0 n1 h h:=⟨rfl,rfl,fun _ _=>rfl,rfl⟩
theorem Sim.trans {n0 n1:Nat} {a b c:IH} (x:Sim n0 n1 a b) (y:Sim n0 n1 b c):Sim n0 n1 a c:=⟨y.1.trans x.1,y.2.1.trans x.2.1,fun j hj=>(y.2.2.1 j hj).trans (x.2.2.1 j hj),y.2.2.2.trans x.2.2.2⟩
theorem Sim.ext {n0 n1:Nat} {g h h':IH} (s:Sim n0 n1 h h') (e:Ext g h) (hg:g.n≤n0):Ext g h' :=
 ⟨by rw[s.1];exact e.n,by rw[s.2.1];exact e.base,fun j hj=>(s.2.2.1 j (.inl (by omega))).trans (e.get j hj),fun f hf=>by rw[s.2.2.2];exact e.fams f hf⟩
theorem GroB.ext {h h':IH} {n0 n1:Nat} {v:Value} {n:Nat} {cs:List Value} (g:GroB h n0 n1 v n cs) (e:Ext h h'):GroB h' n0 n1 v n cs:=by
 obtain⟨hl,k,c,fam,rfl,hc,hn,h1,h2,h3,h4,h5⟩:=g
 refine⟨hl,k,c,fam,rfl,hc,hn,h1,h2,Nat.le_trans h3 e.n,(e.get k (by omega)).trans h4,?_⟩
 cases fam with
 | none=>trivial
 | some f =>
  obtain⟨a1,a2,rest,a3,a4⟩:=h5
  exact⟨a1,Nat.lt_of_lt_of_le a2 e.n,rest,by rw[e.fams f a2];exact a3,a4⟩
theorem GroB.put {h:IH} {n0 n1:Nat} {v:Value} {n:Nat} {cs:List Value} (g:GroB h n0 n1 v n cs) {k:Nat} (hk:k<n0) (o:IObj):GroB (h.put k o) n0 n1 v n cs:=by
 obtain⟨hl,j,c,fam,rfl,hc,hn,h1,h2,h3,h4,h5⟩:=g
 refine⟨hl,j,c,fam,rfl,hc,hn,h1,h2,h3,by rw[get_put_old _ _ (by omega)];exact h4,?_⟩
 cases fam with
 | none=>trivial
 | some f=>exact h5
theorem GroB.set {h:IH} {n0 n1:Nat} {v:Value} {n:Nat} {cs:List Value} (g:GroB h n0 n1 v n cs) {P:Program} {t:TypeId} (hT:sizeT P t=some 1) {i:Nat} (hi:i<n) {x:Value} (hx:x.cells = #[x]) (hc:cellOK x=true) :
  ∃h',store P h t (elemAddr v i) x=some h'∧GroB h' n0 n1 v n (cs.set i x)∧Sim n0 n1 h h':=by
 obtain⟨hl,k,c,fam,rfl,hcc,hn,h1,h2,h2',h3,h4⟩:=g
 have hsp:IH.splice cs i [x]=cs.set i x:=splice_set (by omega)
 have k2:2*k / 2=k:=by omega
 have k1:(2*k % 2 == 1)=false:=by simp
 have hst:store P h t (elemAddr (.slice (some ⟨2*k,0,none⟩) n c) i) x=h.wr (2*k) i [x]:=by
  simp only[elemAddr,Nat.zero_add,store,asAddr,ptr,hT,hx]
  simp[hc]
 have hle:Nat.ble (i + [x].length) cs.length=true:=by rw[Nat.ble_eq];simp;omega
 rw[hst]
 cases fam with
 | none =>
  refine⟨h.put k (.cells (cs.set i x) 1 none),?_,⟨by simpa using hl,k,c,none,rfl,hcc,hn,h1,h2,h2',get_put_same _ _ rfl,trivial⟩,rfl,rfl,fun j hj=>get_put_old _ _ (by omega),rfl⟩
  simp only[IH.wr,k1,k2,h3,hle,cond_true,cond_false,hsp];rfl
 | some f =>
  obtain⟨a1,a2,rest,a3,a4⟩:=h4
  refine⟨{ h with ext:=(IH.killAll h.ext (((k :: rest).filter (· != k)))).set k (.cells (cs.set i x) 1 none) },?_,⟨by simpa using hl,k,c,none,rfl,hcc.imp id (fun h=>⟨h.1,rfl⟩),hn,h1,h2,h2',?_,trivial⟩,rfl,rfl,fun j hj=>?_,rfl⟩
  ·simp only[IH.wr,k1,k2,h3,hle,cond_true,cond_false,hsp,a3]
  ·simp[Tr.get_set]
  ·have hjk:j≠k:=by omega
   rw[Tr.get_set,if_neg hjk,get_killAll,if_neg]
   intro hm
   simp only[List.mem_filter,List.mem_cons,bne_iff_ne,ne_eq] at hm
   rcases hm with⟨rfl|hm,hne⟩
   ·exact hne rfl
   ·have:=a4 j hm;omega
end Go.Id

namespace Go.Id
open Go
open Go.Proofs.Tryz (prog)
set_option maxHeartbeats 16000000
theorem Gro.groB {h:IH} {n0:Nat} {v:Value} {n:Nat} {cs:List Value} (g:Gro h n0 1 v n cs) (hn:0<n):GroB h n0 h.n v n cs:=by
 rcases g with a|⟨hz,hl,k,rfl,hn',h1,h2,h3⟩
 ·exact a.groB hn
 ·exact⟨by omega,k,2*n+1,none,rfl,.inr ⟨rfl,rfl⟩,hn,h1,h2,Nat.le_refl _,h3,trivial⟩
theorem GroB.gro {h:IH} {n0 n1:Nat} {v:Value} {n:Nat} {cs:List Value} (g:GroB h n0 n1 v n cs):Gro h n0 1 v n cs:=by
 obtain⟨hl,k,c,fam,rfl,rfl|⟨rfl,rfl⟩,hn,h1,h2,h3,h4,h5⟩:=g
 ·refine .inl ⟨by omega,by omega,.inr ⟨k,fam,rfl,hn,h1,by omega,h4,?_⟩⟩
  cases fam with
  | none=>trivial
  | some f =>
   obtain⟨a1,a2,rest,a3,a4⟩:=h5
   exact⟨a1,a2,rest,a3,fun j hj=>⟨(a4 j hj).1,Nat.lt_of_lt_of_le (a4 j hj).2 h3⟩⟩
 ·exact .inr ⟨by omega,by omega,k,rfl,hn,h1,by omega,h4⟩
theorem Gro.sim {h h':IH} {a b n0:Nat} {v:Value} {n:Nat} {cs:List Value} (g:Gro h n0 1 v n cs) (s:Sim a b h h') (hb:b≤n0):Gro h' n0 1 v n cs:=by
 obtain⟨s1,s2,s3,s4⟩:=s
 rcases g with⟨hz,hl,g|⟨k,fam,rfl,hn,h1,h2,h3,h4⟩⟩|⟨hz,hl,k,rfl,hn',h1,h2,h3⟩
 ·exact .inl ⟨hz,hl,.inl g⟩
 ·refine .inl ⟨hz,hl,.inr ⟨k,fam,rfl,hn,h1,by omega,(s3 k (.inr (by omega))).trans h3,?_⟩⟩
  cases fam with
  | none=>trivial
  | some f =>
   obtain⟨a1,a2,rest,a3,a4⟩:=h4
   exact⟨a1,by omega,rest,by rw[s4];exact a3,fun j hj=>by rw[s1];exact a4 j hj⟩
 ·exact .inr ⟨hz,hl,k,rfl,hn',h1,by omega,(s3 k (.inr (by omega))).trans h3⟩
def RevAt (l m:List Int) (i:Nat):Prop:=m.length=l.length ∧ ∀k,k<l.length→m[k]?=if k<i∨l.length≤k+i then l[l.length - 1 - k]? else l[k]?
theorem RevAt.start (l:List Int):RevAt l l 0:=⟨rfl,fun k hk=>by rw[if_neg (by omega)]⟩
theorem RevAt.done {l m:List Int} {i:Nat} (r:RevAt l m i) (hi:l.length≤i+i+1):m=l.reverse:=by
 apply List.ext_getElem?
 intro k
 by_cases hk:k<l.length
 ·rw[List.getElem?_reverse hk,r.2 k hk]
  by_cases c:k<i∨l.length≤k+i
  ·rw[if_pos c]
  ·rw[if_neg c,show l.length - 1 - k=k by omega]
 ·rw[List.getElem?_eq_none (by rw[r.1];omega),List.getElem?_eq_none (by rw[List.length_reverse];omega)]
theorem RevAt.step {l m:List Int} {i:Nat} (r:RevAt l m i) (hi:i+i+1<l.length) {x y:Int} (hx:m[i]?=some x) (hy:m[l.length - 1 - i]?=some y):RevAt l ((m.set i y).set (l.length - 1 - i) x) (i+1):=by
 have ex:=r.2 i (by omega)
 have ey:=r.2 (l.length - 1 - i) (by omega)
 rw[if_neg (by omega),hx] at ex
 rw[if_neg (by omega),hy] at ey
 refine⟨by simp[r.1],fun k hk=>?_⟩
 rw[List.getElem?_set,List.getElem?_set,List.length_set,r.1]
 by_cases c1:l.length - 1 - i=k
 ·subst c1
  rw[if_pos rfl,if_pos hk,if_pos (by omega),show l.length - 1 - (l.length - 1 - i)=i by omega,←ex]
 rw[if_neg c1]
 by_cases c2:i=k
 ·subst c2
  rw[if_pos rfl,if_pos hk,if_pos (by omega),←ey]
 rw[if_neg c2,r.2 k hk]
 by_cases c:k<i∨l.length≤k+i
 ·rw[if_pos c,if_pos (by omega)]
 ·rw[if_neg c,if_neg (by omega)]
theorem reverseI_ok {h:IH} {n0 n1:Nat} {v:Value} {l:List Int} (hG:GroB h n0 n1 v l.length (l.map KI)) (hl:l.length≤1000000000) :
  WV prog (.func (.func 100) #[] #[]) [v] h fun r h'=>Sim n0 n1 h h'∧GroB h' n0 n1 v l.length (l.reverse.map KI):=by
 have len:=hG.sl.len sl25 (P:=prog)
 refine enter (nt:=28) (rs:=[]) Proofs.Tryz.func100 rfl rfl rfl (by simp) ?_
 simp -dsimp (maxSteps:=1000000) (disch:=try exact dx) only[wpS,Nat.reduceEqDiff,len]
 refine loop (fun m fr hh => ∃(i:Nat) (a:List Int),i+m=l.length∧RevAt l a i∧Sim n0 n1 h hh∧GroB hh n0 n1 v l.length (a.map KI)∧fget fr 0=some v∧fget fr 2=some (KN i)∧fget fr 3=some (KI ((l.length:Int) - 1 - (i:Int)))) l.length
  ⟨0,l,by omega,.start l,Sim.refl _ _ _,hG,by simp,by simp,by simp⟩ ?_
 rintro m fr hh ⟨i,a,him,hr,hE,hA,f0,f2,f3⟩
 simp -dsimp (maxSteps:=1000000) (disch:=try exact dx) only[wpS,Nat.reduceEqDiff,f2,f3]
 refine bq_intro ?_ ?_<;>intro hc<;>simp only[decide_eq_true_eq,decide_eq_false_iff_not] at hc
 ·have al:=hr.1
  obtain⟨j,hj⟩ : ∃j,j=l.length - 1 - i:=⟨_,rfl⟩
  have ej:(l.length:Int) - 1 - (i:Int)=(j:Int):=by omega
  obtain⟨x,hx⟩ : ∃x,a[i]?=some x:=⟨_,List.getElem?_eq_getElem (by omega)⟩
  obtain⟨y,hy⟩ : ∃y,a[j]?=some y:=⟨_,List.getElem?_eq_getElem (by omega)⟩
  have sl:=hA.sl
  have ix1:=sl.idx es25 (P:=prog) (k:=.i64) (j:=i) (by omega)
  have ix2:=sl.idx es25 (P:=prog) (k:=.i64) (j:=j) (by omega)
  rw[Nat.mul_one] at ix1 ix2
  have ld1:load prog hh 3 (elemAddr v i)=some (KI x):=by rw[sl.ld (Keep.refl hh) (by simp;omega) ag3,List.getElem?_map,hx];rfl
  have ld2:load prog hh 3 (elemAddr v j)=some (KI y):=by rw[sl.ld (Keep.refl hh) (by simp;omega) ag3,List.getElem?_map,hy];rfl
  obtain⟨h1,s1,A1,E1⟩:=hA.set (P:=prog) sz3 (i:=i) (by omega) (x:=KI y) rfl rfl
  obtain⟨h2,s2,A2,E2⟩:=A1.set (P:=prog) sz3 (i:=j) (by omega) (x:=KI x) rfl rfl
  have st:=hr.step (by omega) hx (by rw[←hj];exact hy)
  rw[←hj] at st
  simp -dsimp (maxSteps:=1000000) (disch:=try exact dx) only[wpS,wpT,Nat.reduceEqDiff,f0,f2,f3,ej,ix1,ix2,ld1,ld2,s1,s2]
  refine⟨m - 1,by omega,i+1,_,by omega,st,(hE.trans E1).trans E2,?_,by simp[f0],by simp,?_⟩
  ·rw[List.map_set,List.map_set];exact A2
  ·simp;omega
 ·simp -dsimp (maxSteps:=1000000) (disch:=try exact dx) only[wpS,wpT]
  have e:=hr.done (by omega)
  rw[e] at hA
  exact⟨hE,hA⟩
end Go.Id

namespace Go.Id
open Go
open Go.Proofs.Tryz (prog)
open Nat (reduceAdd reduceEqDiff reduceLeDiff)
set_option maxHeartbeats 16000000
theorem wv_unbl {P:Program} {f:FuncId} {a:Value} {l:List Value} {h:IH} {K:Value→IH→Prop} (w:WV P (.func (.func f) #[] #[]) (a :: l) h K):WV P (.func (.func f) #[a] #[]) l h K:=by
 obtain⟨p,⟨N,hN⟩,hk⟩:=w
 refine⟨p,⟨N,fun n hn=>?_⟩,hk⟩
 have:=hN n hn
 cases n with
 | zero=>exact this
 | succ n=>exact this
theorem append_none0 {P:Program} {t:TypeId} {sz bytes:Nat} (hT:appT P t=some (sz,bytes)) (h:IH) {x:Value} (hx:lenOf x=some 0) (b o n c:Nat):append P h t (.slice (some ⟨b,o,none⟩) n c) x=some (.slice (some ⟨b,o,none⟩) n c,h):=by
 unfold appT at hT
 split at hT
 case h_2=>cases hT
 rename_i e hu
 split at hT
 case h_2=>cases hT
 rename_i zs z1 z2 z3
 simp only[append,hu,z1,z2,z3,hx,beq_self_eq_true,cond_true]
def cutH (h:IH) (n0:Nat):IH:={ h with n:=n0 }
theorem cut_ext {h:IH} {n0:Nat} (hn:n0≤h.n):Ext (cutH h n0) h:=⟨hn,rfl,fun _ _=>rfl,fun _ _=>rfl⟩
theorem ext_cut {g h:IH} {n0:Nat} (e:Ext g h) (hn:g.n≤n0):Ext g (cutH h n0):=⟨hn,e.base,e.get,e.fams⟩
theorem Gro.app {h:IH} {n0 sz:Nat} {v:Value} {n:Nat} {cs:List Value} (g:Gro h n0 sz v n cs) {P:Program} {t:TypeId} {bytes:Nat} (hT:appT P t=some (sz,bytes)) {x:Value} {m:Nat} {new:List Value} (sx:SlOf h sz x m new) (hn:0<n)
  (hc:new.all cellOK=true) (hsz:(n+m)*(bytes+1)≤1099511627776) (h0:n0≤h.n) :
  ∃v' h',append P h t v x=some (v',h')∧SlOf h' sz v' (n+m) (cs ++ new)∧Grow h h'∧Ext (cutH h n0) h':=by
 by_cases hm:m=0
 ·subst hm
  obtain⟨a,k,rfl⟩:=sx.now.form
  have hnil:new = []:=List.length_eq_zero_iff.1 (by rw[sx.2.1];omega)
  subst hnil
  have hv : ∃b o c,v=.slice (some ⟨b,o,none⟩) n c:=by
   rcases g with⟨_,_,⟨_,rfl⟩|⟨k,f,rfl,_⟩⟩|⟨_,_,k,rfl,_⟩
   ·omega
   ·exact⟨_,_,_,rfl⟩
   ·exact⟨_,_,_,rfl⟩
  have hs:=g.sl
  obtain⟨b,o,c,rfl⟩:=hv
  exact⟨_,h,append_none0 hT h rfl b o n c,by rw[List.append_nil];exact hs,Grow.refl h,cut_ext h0⟩
 ·rcases g with a|⟨hz,hcl,k,rfl,hn',h1,h2,h3⟩
  ·obtain⟨v',h',b1,b2,b3,b4,b5⟩:=a.app hT sx (by omega) hc hsz h0 (cut_ext h0) (Nat.le_refl _)
   exact⟨v',h',b1,b2.sl,b3,b5⟩
  ·have sv:SlOf h sz (.slice (some ⟨2*k,0,none⟩) n (2*n+1)) n cs:=sl_block h3 h2 hz hcl (by omega) (by omega)
   refine⟨_,_,append_full hT sv.now sx.now (by omega) hn hc hsz,?_,((Ext.refl h).new _).grow,(cut_ext h0).new _⟩
   exact(acc_new hz (by rw[List.length_append,hcl,sx.2.1,Nat.add_mul]) (by omega)).sl
def thrOk (ll:List (List (Nat×Nat))) (x n k:Nat) (b o:List Nat):Prop:=k≤n∧chainOk ll b∧chainOk ll o∧b.length=k+1∧o.length=n - k+1∧b.getD 0 0=x∧o.getD 0 0=x
theorem pI_len (p:List Nat):(pI p).length=p.length:=by simp[pI]
theorem through_ok {h:IH} {v:Value} {ll:List (List (Nat×Nat))} {x n s:Nat} (hv:ShLs h v ll) (hk:kerS ll) (hko:kerOk ll) (hx:x<ll.length) (hn:n≤20) (hs:s<18446744073709551616) :
  WV prog (.func (.func 31) #[] #[]) [v,KN x,KN n,chV s] h fun r h'=>Ext h h'∧(r=.tuple #[.slice none 0 0,KI 0,chV 0,KI 9] ∨ ∃out k t b o,r=.tuple #[out,KN k,chV t,KI 0]∧thrOk ll x n k b o∧SlOf h' 1 out (n+1) ((pI (b.reverse ++ o.drop 1)).map KI)):=by
 obtain⟨cv,co,hlen⟩:=hv.co
 obtain⟨H0,hH0⟩ : ∃H,H=(h.new (.cells [K64 s] 0 none)).new (.cells [.int .u64 0] 0 none):=⟨_,rfl⟩
 have n0:H0.n=h.n+2:=by rw[hH0];rfl
 have E0:Ext h H0:=by rw[hH0];exact((Ext.refl h).new _).new _
 have c7:H0.ext.get h.n=some (.cells [K64 s] 0 none):=by rw[hH0];simp (disch:=try exact dx) only[get_new_same,get_new_old]
 have c9:H0.ext.get (h.n+1)=some (.cells [.int .u64 0] 0 none):=by rw[hH0];simp (disch:=try exact dx) only[get_new_same]
 have ok0:chainOk ll [x]:=⟨fun y hy=>by rw[List.mem_singleton.1 hy];exact hx,fun i hi=>by simp at hi⟩
 refine enter (nt:=76) (rs:=[.tmp 8,.tmp 9,.cell 10 63,.tmp 11]) Proofs.Tryz.func31 rfl rfl rfl (by simp) ?_
 simp -dsimp (maxSteps:=1000000) (disch:=try exact dx) only[wpS,reduceEqDiff,reduceAdd,zc63,chV]
 rw[←hH0]
 clear hH0
 refine call (owalk_ok (hv.keep E0.keep) hko hx hn) ?_
 rintro _ h1 ⟨X1,rfl⟩
 have m1:=X1.n
 have e7:=X1.kept (by omega) c7
 have e9:=X1.kept (by omega) c9
 simp -dsimp (maxSteps:=1000000) (disch:=try exact dx) only[wpS,wpT,reduceEqDiff,reduceLeDiff,bv164,pl164_0,ld63,row_of e7,tk1,cv]
 refine call (chBelow_ok (s:=s) (n:=(n:Int)+1) ⟨by omega,by omega⟩) ?_
 rintro _ h2 ⟨X2,rfl⟩
 have m2:=X2.n
 have X02:=(E0.trans X1).trans X2
 have g7:=X2.kept (by omega) e7
 have g9:=X2.kept (by omega) e9
 unfold belowV
 rw[if_neg (by omega),show((n:Int)+1).toNat=n+1 by omega]
 rcases hb:belowT (n+1) TR s with _|⟨k,s1⟩
 ·simp -dsimp (maxSteps:=1000000) (disch:=try exact dx) only[wpS,wpT,reduceEqDiff,reduceLeDiff,bv63,st63,ld63,g7,g9,chV,tk1]
  exact⟨(X02.put (by omega) _).put (by omega) _,.inl rfl⟩
 have hkb:=belowT_lt (by omega) hb
 simp -dsimp (maxSteps:=1000000) (disch:=try exact dx) only[wpS,wpT,reduceEqDiff,reduceLeDiff,st63,ld63,g7,chV,tk1]
 obtain⟨H3,hH3⟩ : ∃H,H=h2.put h.n (.cells [K64 s1] 0 none):=⟨_,rfl⟩
 have n3:H3.n=h2.n:=by rw[hH3];rfl
 have E3:Ext h H3:=by rw[hH3];exact X02.put (Nat.le_refl _) _
 have j7:H3.ext.get h.n=some (.cells [K64 s1] 0 none):=by rw[hH3];simp (disch:=try exact dx) only[get_put_same]
 have j9:H3.ext.get (h.n+1)=some (.cells [.int .u64 0] 0 none):=by rw[hH3,get_put_old _ _ (by omega)];exact g9
 rw[←hH3]
 clear hH3
 refine call (wv_unbl (opath_ok (n:=k) (hv.keep E3.keep) hk hx (by omega) hkb.2)) ?_
 rintro r1 h4 ⟨X4,hr1⟩
 have m4:=X4.n
 have k7:=X4.kept (by omega) j7
 have k9:=X4.kept (by omega) j9
 have E4:=E3.trans X4
 revert hr1
 rcases hp1:pathT ll k [x] s1 with _|⟨b,s2⟩<;>intro hr1
 ·obtain rfl:=hr1
  simp -dsimp (maxSteps:=1000000) (disch:=try exact dx) only[wpS,wpT,reduceEqDiff,reduceLeDiff,bv63,st63,ld63,k7,k9,chV,tk1]
  exact⟨(E4.put (by omega) _).put (by omega) _,.inl rfl⟩
 obtain⟨out1,rfl,hG1⟩:=hr1
 obtain⟨q1,q2,q3,q4⟩:=pathT_ok hk (by simp) ok0 hkb.2 hp1
 rw[List.length_singleton] at q2
 have hB1:=hG1.groB (show 0<b.length by omega)
 simp -dsimp (maxSteps:=1000000) (disch:=try exact dx) only[wpS,wpT,reduceEqDiff,reduceLeDiff,st63,ld63,k7,chV,tk1]
 obtain⟨H5,hH5⟩ : ∃H,H=h4.put h.n (.cells [K64 s2] 0 none):=⟨_,rfl⟩
 have n5:H5.n=h4.n:=by rw[hH5];rfl
 have E5:Ext h H5:=by rw[hH5];exact E4.put (Nat.le_refl _) _
 have hB2:GroB H5 (H3.n+3) h4.n out1 b.length ((pI b).map KI):=by rw[hH5];exact hB1.put (by omega) _
 have l7:H5.ext.get h.n=some (.cells [K64 s2] 0 none):=by rw[hH5];simp (disch:=try exact dx) only[get_put_same]
 have l9:H5.ext.get (h.n+1)=some (.cells [.int .u64 0] 0 none):=by rw[hH5,get_put_old _ _ (by omega)];exact k9
 have hsub:(n:Int) - (k:Int)=((n - k:Nat):Int):=by omega
 rw[←hH5]
 clear hH5
 simp -dsimp (maxSteps:=1000000) (disch:=try exact dx) only[hsub]
 refine call (wv_unbl (opath_ok (n:=n - k) (hv.keep E5.keep) hk hx (by omega) q3)) ?_
 rintro r2 h6 ⟨X6,hr2⟩
 have m6:=X6.n
 have o7:=X6.kept (by omega) l7
 have o9:=X6.kept (by omega) l9
 have E6:=E5.trans X6
 revert hr2
 rcases hp2:pathT ll (n - k) [x] s2 with _|⟨o,s3⟩<;>intro hr2
 ·obtain rfl:=hr2
  simp -dsimp (maxSteps:=1000000) (disch:=try exact dx) only[wpS,wpT,reduceEqDiff,reduceLeDiff,bv63,st63,ld63,o7,o9,chV,tk1]
  exact⟨(E6.put (by omega) _).put (by omega) _,.inl rfl⟩
 obtain⟨out2,rfl,hG2⟩:=hr2
 obtain⟨t1,t2,t3,t4⟩:=pathT_ok hk (by simp) ok0 q3 hp2
 rw[List.length_singleton] at t2
 simp -dsimp (maxSteps:=1000000) (disch:=try exact dx) only[wpS,wpT,reduceEqDiff,reduceLeDiff,st63,o7,chV]
 obtain⟨H7,hH7⟩ : ∃H,H=h6.put h.n (.cells [K64 s3] 0 none):=⟨_,rfl⟩
 have n7:H7.n=h6.n:=by rw[hH7];rfl
 have E7:Ext h H7:=by rw[hH7];exact E6.put (Nat.le_refl _) _
 have hB7:GroB H7 (H3.n+3) h4.n out1 b.length ((pI b).map KI):=by rw[hH7];exact(hB2.ext X6).put (by omega) _
 have hG7:Gro H7 (H5.n+3) 1 out2 o.length ((pI o).map KI):=by rw[hH7];exact hG2.put o7 _
 have p7:H7.ext.get h.n=some (.cells [K64 s3] 0 none):=by rw[hH7];simp (disch:=try exact dx) only[get_put_same]
 have p9:H7.ext.get (h.n+1)=some (.cells [.int .u64 0] 0 none):=by rw[hH7,get_put_old _ _ (by omega)];exact o9
 rw[←hH7]
 clear hH7
 have hB7':GroB H7 (H3.n+3) h4.n out1 (pI b).length ((pI b).map KI):=by rw[pI_len];exact hB7
 refine call (reverseI_ok hB7' (by rw[pI_len];omega)) ?_
 rintro _ h8 ⟨S8,hB8⟩
 have n8:=S8.1
 have hG8:=hG7.sim S8 (by omega)
 have r7:=(S8.2.2.1 h.n (.inl (by omega))).trans p7
 have r9:=(S8.2.2.1 (h.n+1) (.inl (by omega))).trans p9
 have E8:=S8.ext E7 (by omega)
 have hs2:=hG8.sl
 obtain⟨w,hw,hsw⟩:=hs2.slice (Keep.refl h8) (P:=prog) (t:=25) u25 sz3 (l:=1) (m:=o.length) (by omega) (Nat.le_refl _) (lo:=some (KN 1)) (hi:=none) (natOf_nat (k:=.i64) (by omega)) (fun c hc=>rfl)
 have hw':sliceOp prog h8 25 out2 (some (KI 1)) none none=some w:=hw
 have hlo:H3.n+3<h8.n:=by
  obtain⟨_,k',c',f',_,_,_,a1,a2,a3,_⟩:=hB8
  omega
 have hcell:(((((pI o).map KI).drop (1*1)).take ((o.length - 1)*1)).all cellOK)=true:=List.all_eq_true.2 fun x hx=>by
  obtain⟨y,_,rfl⟩:=List.mem_map.1 (List.mem_of_mem_drop (List.mem_of_mem_take hx))
  rfl
 have hB8':=hB8.gro
 rw[pI_len] at hB8'
 obtain⟨out,h9,ha,hso,hGr,hE9⟩:=hB8'.app (P:=prog) (t:=25) ap25 hsw (by omega) hcell (by omega) (Nat.le_of_lt hlo)
 have E9:Ext h h9:=(ext_cut E8 (by omega)).trans hE9
 have u7:=hGr.var (by omega) r7
 have u9:=hGr.var (by omega) r9
 simp -dsimp (maxSteps:=1000000) (disch:=try exact dx) only[wpS]
 refine drawn [(5,[3])] (by kernel_rfl) (by kernel_rfl) rfl ?_
 simp -dsimp (maxSteps:=1000000) (disch:=try exact dx) only[wpS,wpT,reduceEqDiff,reduceLeDiff,st63,ld63,ba25_25,hw',ha,row_of u7,u9,tk1]
 have La:load prog h8 63 (ptr (2*h.n) 0)=some (.agg #[K64 s3]):=by
  have r:=row_of r7
  simp -dsimp (maxSteps:=1000000) (disch:=try exact dx) only[wpS,wpT,reduceLeDiff,ld63,r,tk1]
 have Lb:load prog h9 63 (ptr (2*h.n) 0)=some (.agg #[K64 s3]):=by
  have r:=row_of u7
  simp -dsimp (maxSteps:=1000000) (disch:=try exact dx) only[wpS,wpT,reduceLeDiff,ld63,r,tk1]
 refine⟨wpSteady_one rfl rfl rfl rfl (steady_load (v:=.agg #[K64 s3]) rfl ?_ ?_),?_⟩
 ·skip
  with_reducible first|exact La|exact Lb
 ·with_reducible first|exact La|exact Lb
 simp -dsimp (maxSteps:=1000000) (disch:=try exact dx) only[wpS,wpT,reduceEqDiff,reduceLeDiff,reduceAdd,ld63,tk1]
 have eL:(pI (b.reverse ++ o.drop 1)).map KI=(pI b).reverse.map KI ++ ((((pI o).map KI).drop (1*1)).take ((o.length - 1)*1)):=by
  rw[List.take_of_length_le (by simp)]
  simp only[pI,List.map_append,List.map_reverse,List.map_drop,Nat.one_mul]
 refine⟨E9.put (by omega) _,.inr ⟨out,k,s3,b,o,rfl,⟨by omega,q1,t1,by omega,by omega,q4,t4⟩,?_⟩⟩
 rw[eL,show n+1=b.length+(o.length - 1) by omega]
 exact hso.keep ((Keep.refl h9).put u9 _)
end Go.Id

namespace Go.Id
open Go
def RAcc (h:IH) (n0:Nat) (v:Value) (n:Nat) (cs:List Value):Prop :=
 cs.length=n∧((v=.slice none 0 0∧n=0) ∨ ∃k fam tl,v=.slice (some ⟨2*k,0,none⟩) n (2*(n+tl.length))∧0<n+tl.length∧n0≤k∧k<h.n∧h.ext.get k=some (.cells (cs ++ tl) 1 fam)∧TopFam h n0 k fam)
theorem RAcc.nil (h:IH) (n0:Nat):RAcc h n0 (.slice none 0 0) 0 []:=⟨rfl,.inl ⟨rfl,rfl⟩⟩
theorem RAcc.sl {h:IH} {n0:Nat} {v:Value} {n:Nat} {cs:List Value} (a:RAcc h n0 v n cs):SlOf h 1 v n cs:=by
 obtain⟨hl,a|⟨k,fam,tl,rfl,hn,h1,h2,h3,h4⟩⟩:=a
 ·exact⟨by omega,by omega,.inl a⟩
 ·refine⟨by omega,by omega,.inr ⟨2*k,0,2*(n+tl.length),rfl,.inr ⟨by omega,by omega,cs ++ tl,.inr ⟨by omega,by omega,fam,?_⟩,?_,?_,?_⟩⟩⟩
  ·rw[show 2*k / 2=k from by omega,h3]
  ·rw[row_even];simp[IH.cells,h3]
  ·rw[List.drop_zero,Nat.mul_one,List.take_append_of_le_length (by omega),List.take_of_length_le (by omega)]
  ·rw[List.length_append];omega
theorem TopFam.ext {h h':IH} {n0 k:Nat} {fam:Option Nat} (t:TopFam h n0 k fam) (e:Ext h h'):TopFam h' n0 k fam:=by
 cases fam with
 | none=>trivial
 | some f =>
  obtain⟨a1,a2,rest,a3,a4⟩:=t
  exact⟨a1,by have:=e.n;omega,rest,by rw[e.fams f a2];exact a3,fun j hj=>⟨(a4 j hj).1,Nat.lt_of_lt_of_le (a4 j hj).2 e.n⟩⟩
theorem RAcc.ext {h h':IH} {n0:Nat} {v:Value} {n:Nat} {cs:List Value} (a:RAcc h n0 v n cs) (e:Ext h h'):RAcc h' n0 v n cs:=by
 obtain⟨hl,a|⟨k,fam,tl,rfl,hn,h1,h2,h3,h4⟩⟩:=a
 ·exact⟨hl,.inl a⟩
 ·exact⟨hl,.inr ⟨k,fam,tl,rfl,hn,h1,by have:=e.n;omega,by rw[e.get k h2];exact h3,h4.ext e⟩⟩
theorem RAcc.cut {h:IH} {n0:Nat} {v:Value} {n:Nat} {cs:List Value} (a:RAcc h n0 v n cs) {P:Program} {t e:TypeId} (hu:P.underlying t=some (.slice e)) (hT:sizeT P e=some 1) {kd:IntKind} :
  ∃v',sliceOp P h t v none (some (.int kd 0)) none=some v'∧RAcc h n0 v' 0 []:=by
 obtain⟨hl,⟨rfl,rfl⟩|⟨k,fam,tl,rfl,hn,h1,h2,h3,h4⟩⟩:=a
 ·refine⟨.slice none 0 0,?_,RAcc.nil h n0⟩
  have b0:Nat.ble 0 0=true:=rfl
  simp[sliceOp,hu,hT,resliced,boundsOf,hiOf,loOf,natOf,b0]
 ·refine⟨.slice (some ⟨2*k,0,none⟩) 0 (2*(n+tl.length)),?_,rfl,.inr ⟨k,fam,cs ++ tl,by rw[List.length_append,Nat.zero_add,hl],by rw[List.length_append];omega,h1,h2,by rw[List.nil_append];exact h3,h4⟩⟩
  have hr:roomy h 1 (.slice (some ⟨2*k,0,none⟩) n (2*(n+tl.length)))=true:=by simp[roomy,h3]
  have c1:(2*(n+tl.length) == 0)=false:=by simp;omega
  have c2:((0:Nat) == 2*(n+tl.length) / 2)=false:=by
   rw[show 2*(n+tl.length) / 2=n+tl.length from by omega]
   simp;omega
  have b0:hiOf (some (.int kd 0)) n (2*(n+tl.length) / 2)=some 0:=rfl
  simp only[sliceOp,hu,hT,resliced,boundsOf,b0,loOf,hr,c1,c2,cond_true,cond_false,Bool.or_true,Nat.zero_mul,Nat.mul_zero,Nat.sub_zero,Nat.zero_add]
end Go.Id

namespace Go.Id
open Go
theorem builtin_appendZ (P:Program) (h:IH) (s t:TypeId) (x y:Value) (hT:isSliceT P (some t)=false) (hI:isIntT P (some t)=true):builtin P h .append #[s,t] [x,y]=appendZ P h s x y:=by
 have e1:(#[s,t]:Array TypeId)[1]?=some t:=rfl
 have e0:(#[s,t]:Array TypeId)[0]?=some s:=rfl
 simp only[builtin,e1,e0,hT,hI,cond_true,cond_false]
theorem appendZ_nil {P:Program} {st e:TypeId} {sz bytes:Nat} {zs:List Value} (hu:P.underlying st=some (.slice e)) (h1:sizeT P e=some sz) (h2:bytesT P e=some bytes) (h3:zeroCellsT P e=some zs)
  (hs:0<sz) (hb:bytes≤65536) (hl:zs.length=sz) (hc:zs.all cellOK=true) (h:IH) {k:IntKind} {n:Nat} (hn:0<n) (hm:n*(bytes+1)≤1099511627776) :
  appendZ P h st (.slice none 0 0) (.int k (n:Int))=some (.slice (some ⟨2*h.n,0,none⟩) n (2*n),h.new (.cells (repl n zs) sz none)):=by
 have hn1:n≤sizeMost:=by
  have:n≤n*(bytes+1):=Nat.le_mul_of_pos_right _ (by omega)
  unfold sizeMost
  omega
 have e:natOf (.int k (n:Int)) sizeMost=some n:=natOf_nat hn1
 have b1:Nat.blt 0 n=true:=by rw[Nat.blt_eq];exact hn
 have b2:Nat.blt 0 sz=true:=by rw[Nat.blt_eq];exact hs
 have b3:Nat.ble bytes 65536=true:=by rw[Nat.ble_eq];exact hb
 have b4:Nat.ble (n*(bytes+1)) sizeMost=true:=by rw[Nat.ble_eq];exact hm
 simp only[appendZ,hu,h1,h2,h3,e,hl,hc,b1,b2,b3,b4,BEq.rfl,Bool.and_self,cond_true]
def Room (h:IH) (n0:Nat) (v:Value) (n:Nat) (cs:List Value) (r:Nat):Prop :=
 cs.length=n ∧ ∃k tl,v=.slice (some ⟨2*k,0,none⟩) n (2*(n+r))∧tl.length=r∧0<n+r∧n0≤k∧k<h.n∧h.ext.get k=some (.cells (cs ++ tl) 1 none)
theorem room_zeros {h:IH} {n:Nat} {cs:List Value} (hl:cs.length=n) (hn:0<n):Room (h.new (.cells cs 1 none)) h.n (.slice (some ⟨2*h.n,0,none⟩) 0 (2*n)) 0 [] n :=
 ⟨rfl,h.n,cs,by rw[Nat.zero_add],hl,by omega,Nat.le_refl _,by simp,get_new_same _ _ rfl⟩
theorem cut_zeros {h:IH} {n:Nat} {cs:List Value} (hn:0<n) {P:Program} {t e:TypeId} (hu:P.underlying t=some (.slice e)) (hT:sizeT P e=some 1) {kd:IntKind} :
  sliceOp P (h.new (.cells cs 1 none)) t (.slice (some ⟨2*h.n,0,none⟩) n (2*n)) none (some (.int kd 0)) none=some (.slice (some ⟨2*h.n,0,none⟩) 0 (2*n)):=by
 have hg:(h.new (.cells cs 1 none)).ext.get h.n=some (.cells cs 1 none):=get_new_same _ _ rfl
 have hr:roomy (h.new (.cells cs 1 none)) 1 (.slice (some ⟨2*h.n,0,none⟩) n (2*n))=true:=by simp[roomy,hg]
 have c1:(2*n == 0)=false:=by simp;omega
 have c2:((0:Nat) == 2*n / 2)=false:=by
  rw[show 2*n / 2=n from by omega]
  simp;omega
 have b0:hiOf (some (.int kd 0)) n (2*n / 2)=some 0:=rfl
 simp only[sliceOp,hu,hT,resliced,boundsOf,b0,loOf,hr,c1,c2,cond_true,cond_false,Bool.or_true,Nat.zero_mul,Nat.mul_zero,Nat.sub_zero,Nat.zero_add]
theorem Room.ext {h h':IH} {n0:Nat} {v:Value} {n:Nat} {cs:List Value} {r:Nat} (a:Room h n0 v n cs r) (e:Ext h h'):Room h' n0 v n cs r:=by
 obtain⟨hl,k,tl,rfl,h1,h2,h3,h4,h5⟩:=a
 exact⟨hl,k,tl,rfl,h1,h2,h3,Nat.lt_of_lt_of_le h4 e.n,(e.get k h4).trans h5⟩
theorem Room.sl {h:IH} {n0:Nat} {v:Value} {n:Nat} {cs:List Value} {r:Nat} (a:Room h n0 v n cs r):SlOf h 1 v n cs:=by
 obtain⟨hl,k,tl,rfl,h1,h2,h3,h4,h5⟩:=a
 refine⟨by omega,by omega,.inr ⟨2*k,0,2*(n+r),rfl,.inr ⟨by omega,by omega,cs ++ tl,.inr ⟨by omega,by omega,none,?_⟩,?_,?_,?_⟩⟩⟩
 ·rw[show 2*k / 2=k from by omega,h5]
 ·rw[row_even];simp[IH.cells,h5]
 ·rw[List.drop_zero,Nat.mul_one,List.take_append_of_le_length (by omega),List.take_of_length_le (by omega)]
 ·rw[List.length_append];omega
theorem Room.app {h:IH} {n0:Nat} {v:Value} {n:Nat} {cs:List Value} {r:Nat} (a:Room h n0 v n cs r) {P:Program} {t:TypeId} {bytes:Nat} (hT:appT P t=some (1,bytes)) {x:Value} {m:Nat} {new:List Value} (sx:SlNow h 1 x m new)
  (hm:m≤r) (hc:new.all cellOK=true) (hsz:(n+m)*(bytes+1)≤1099511627776) :
  ∃v' h',append P h t v x=some (v',h')∧Room h' n0 v' (n+m) (cs ++ new) (r - m)∧h'.n=h.n ∧ ∀g,Ext g h→g.n≤n0→Ext g h':=by
 unfold appT at hT
 split at hT
 case h_2=>cases hT
 rename_i e hu
 split at hT
 case h_2=>cases hT
 rename_i zs h1 h2 h3
 simp only[cond_eq_ite] at hT
 split at hT
 case isTrue=>cases hT
 rename_i hbad
 cases hT
 have hbad':((1:Nat) == 0 || (!(Nat.ble bytes 65536) || !(zs.length == 1)))=false:=by simpa using hbad
 have hlx:lenOf x=some m:=by
  obtain⟨_,k,rfl⟩:=sx.form
  rfl
 obtain⟨hl,k,tl,rfl,g1,g2,g3,g4,g5⟩:=a
 by_cases hm0:m=0
 ·subst hm0
  obtain rfl:new = []:=List.length_eq_zero_iff.1 (by have:=sx.2.1;omega)
  refine⟨_,h,?_,⟨by simpa using hl,k,tl,rfl,g1,g2,g3,g4,by rw[List.append_nil];exact g5⟩,rfl,fun g e _=>e⟩
  simp only[append,hu,h1,h2,h3,hlx,beq_self_eq_true,cond_true,Nat.add_zero,Nat.sub_zero]
 ·have hmne:(m == 0)=false:=by simpa using hm0
  have hln:new.length=m*1:=sx.2.1
  have hfirst:firstOf h 1 m x=some new:=by
   obtain⟨hz,hl2,⟨rfl,rfl⟩|⟨b2,o2,k2,rfl,rfl|⟨row,a1,a2,a3⟩⟩⟩:=sx
   ·omega
   ·omega
   simp only[firstOf,cond_eq_ite,Nat.ble_eq,Nat.le_refl,if_true,beq_iff_eq,if_neg (show ¬m*1=0 by omega)]
   rw[rd_of a1,if_pos a3,a2]
  have hble:Nat.ble ((n+m)*(bytes+1)) sizeMost=true:=by rw[Nat.ble_eq];exact hsz
  have hcap:Nat.ble (n+m) (2*(n+r) / 2)=true:=by rw[Nat.ble_eq];omega
  have k2:2*k / 2=k:=by omega
  have k1:(2*k % 2 == 1)=false:=by simp
  have hle:Nat.ble (n+new.length) (cs ++ tl).length=true:=by rw[Nat.ble_eq,List.length_append];omega
  have hsp:IH.splice (cs ++ tl) n new=(cs ++ new) ++ tl.drop m:=by
   rw[IH.splice,List.take_append_of_le_length (by omega),List.take_of_length_le (by omega),List.drop_append,List.drop_of_length_le (by omega),List.nil_append,hl,hln,Nat.mul_one,show n+m - n=m by omega,List.append_assoc]
  have hwr:h.wr (2*k) (0+n*1) new=some (h.put k (.cells ((cs ++ new) ++ tl.drop m) 1 none)):=by
   rw[Nat.zero_add,Nat.mul_one]
   simp only[IH.wr,k1,k2,g5,hle,cond_true,cond_false,hsp];rfl
  refine⟨.slice (some ⟨2*k,0,none⟩) (n+m) (2*(n+r)),h.put k (.cells ((cs ++ new) ++ tl.drop m) 1 none),?_,⟨by rw[List.length_append];omega,k,tl.drop m,by rw[show n+m+(r - m)=n+r by omega],by rw[List.length_drop];omega,by omega,g3,g4,get_put_same _ _ rfl⟩,rfl,fun g e hg=>e.put (by omega) _⟩
  simp only[append,hu,h1,h2,h3,hlx,hmne,hbad',hfirst,hc,hble,hcap,hwr,cond_true,cond_false,Bool.not_true,Option.map_some]
end Go.Id

namespace Go.Id
open Go
open Go.Proofs.Tryz (prog)
set_option maxHeartbeats 16000000
theorem growI_ok {h:IH} {n:Nat} (hn:0<n) (hb:n≤1000000000) :
  WV prog (.func (.func 120) #[] #[]) [.slice none 0 0,KN n] h fun r h'=>Ext h h'∧Room h' h.n r 0 [] n:=by
 have hT:isSliceT prog (some 3)=false:=by kernel_rfl
 have hI:isIntT prog (some 3)=true:=by kernel_rfl
 have hz:zeroCellsT prog 3=some [KI 0]:=by kernel_rfl
 have hby:bytesT prog 3=some 8:=by kernel_rfl
 have ha:=fun H:IH=>(builtin_appendZ prog H 25 3 (.slice none 0 0) (KN n) hT hI).trans (appendZ_nil (k:=.i64) u25 sz3 hby hz (by omega) (by omega) rfl rfl H hn (by omega))
 have hlen:(repl n [KI 0]).length=n:=by rw[repl_length];simp
 have R0:=room_zeros (h:=h) hlen hn
 have hc:=cut_zeros (h:=h) (cs:=repl n [KI 0]) hn (P:=prog) u25 sz3 (kd:=.i64)
 have hcap : ∀H:IH,builtin prog H .cap #[25] [.slice none 0 0]=some (KI 0,H):=fun H=>by simp[builtin,capB]
 have b0:Nat.ble 0 0=true:=rfl
 have hc0 : ∀H:IH,sliceOp prog H 25 (.slice none 0 0) none (some (KI 0)) none=some (.slice none 0 0):=fun H=>by
  simp[sliceOp,sz3,resliced,boundsOf,hiOf,loOf,natOf,b0]
 have hln : ∀H:IH,lenB prog H 25 (.slice none 0 0)=some (KI 0):=fun H=>by simp[lenB]
 refine enter (nt:=27) (rs:=[.tmp 4]) Proofs.Tryz.func120 rfl rfl rfl (by simp) ?_
 simp -dsimp (maxSteps:=1000000) (disch:=try exact dx) only[wpS,wpT,Nat.reduceEqDiff,Nat.reduceAdd,hcap,hln,hc0,ha,hc,Int.sub_zero]
 exact⟨(Ext.refl h).new _,R0⟩
end Go.Id

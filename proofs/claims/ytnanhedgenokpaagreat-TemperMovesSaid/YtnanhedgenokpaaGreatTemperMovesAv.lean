/-
  Contracts: the reference's long integers. Contracts: the reference's long integers, second part: sums and differences of digits.
-/
import Derived.Test.YtnanhedgenokpaaGreatTemperMovesAt
import Derived.Test.YtnanhedgenokpaaGreatTemperMovesAu
import Derived.Test.YtnanhedgenokpaaGreatTemperMovesAs
set_option linter.unusedVariables false
set_option linter.unusedSimpArgs false
set_option linter.defProp false
set_option linter.deprecated false
namespace Go.Id
open Go
open Go.Proofs.Tryz (prog)
open Nat renaming reduceAdd→zA,reduceEqDiff→zE,reduceLeDiff→zL
abbrev KN (n:Nat):Value:=.int .i64 (n:Int)
def gA (h:IH) (v:Value) (ds:List Nat):Prop:=bI h 1 v ds.length (ds.map KN)∧bz ds∧ds.length≤1100000
def Dig (h:IH) (v:Value) (x:Nat):Prop:=∃ds,gA h v ds∧Norm ds∧au ds=x
theorem gA.ab {h h':IH} {v:Value} {ds:List Nat} (d:gA h v ds) (e:aF h h'):gA h' v ds:=⟨d.1.ab e,d.2⟩
theorem Dig.ab {h h':IH} {v:Value} {x:Nat} (d:Dig h v x) (e:aF h h'):Dig h' v x:=let ⟨ds,a,b⟩:=d;⟨ds,a.ab e,b⟩
theorem get_some {ds:List Nat} {i:Nat} (h:i<ds.length):ds[i]?=some (ds.getD i 0):=by
 rw[List.getD_eq_getElem?_getD,List.getElem?_eq_getElem h];rfl
theorem bD {α β:Type} (f:α→β) (l:List α) (i:Nat):(l.map f)[i]?=(l[i]?).map f:=List.getElem?_map
theorem tV {h:IH} {v:Value} {ds:List Nat} (hd:gA h v ds):WV prog (.func (.func 232) #[] #[]) [v] h fun r h'=>h'=h∧Dig h r (au ds):=by
 refine enter (nt:=21) (rs:=[.tmp 2]) Proofs.Tryz.func232 rfl rfl rfl (by simp) ?_
 simp -dsimp (disch:=try exact dx) only[wpS,zE,hd.1.len cW]
 refine loop (fun m fr h1=>h1=h∧m≤ds.length∧ah fr 3=some (KN m)∧ah fr 0=some v ∧ ∀j,m≤j→ds.getD j 0=0) ds.length ⟨rfl,Nat.le_refl _,by simp,by simp,fun j hj=>cH hj⟩ ?_
 rintro m fr h1 ⟨rfl,hm,f3,f0,hz⟩
 have fin : ∀n:Nat,n≤ds.length→(∀j,n≤j→ds.getD j 0=0)→(n=0∨ds.getD (n - 1) 0≠0) → ∃r,di prog h1 25 v none (some (KN n)) none=some r∧Dig h1 r (au ds):=by
  intro n hn hz hne
  obtain⟨r,hr,hs⟩:=hd.1.slice (aF.refl _) (P:=prog) (t:=25) u25 sz3 (l:=0) (m:=n) (Nat.zero_le _) hn (lo:=none) (hi:=some (KN n)) rfl (fun c hc=>ju (k:=.i64) (by omega))
  refine⟨r,hr,ds.take n,⟨?_,hd.2.1.take n,by simp;have:=hd.2.2;omega⟩,?_,tu hn hz⟩
  ·have hl:(ds.take n).length=n:=by simp[hn]
   rw[hl]
   simpa [List.map_take] using hs
  ·rcases hne with rfl|hne
   ·left;simp
   ·by_cases h0:n=0
    ·subst h0;left;simp
    ·right
     have hl:(ds.take n).length=n:=by simp[hn]
     rw[hl,mI,if_pos (by omega)];exact hne
 have hb:=hd.2.2
 rcases Nat.eq_zero_or_pos m with rfl|hp
 ·obtain⟨r,hr,hD⟩:=fin 0 hm hz (.inl rfl)
  simp -dsimp (disch:=try exact dx) only[wpS,wpT,zE,f3,f0,hr]
  exact hD
 ·obtain⟨k,rfl⟩ : ∃k,m=k+1:=⟨m - 1,by omega⟩
  have h2:IntKind.i64.wrap (((k+1:Nat):Int) - 1)=(k:Int):=by rw[wrap_i64 (by omega)];omega
  simp -dsimp (disch:=try exact dx) only[wpS,wpT,zE,f3,f0,h2,hd.1.idx fc (show k<ds.length by omega),hd.1.ld (aF.refl _) (P:=prog) (t:=3) (c:=k) (by simp<;>omega) ag3,bD,get_some (show k<ds.length by omega)]
  refine ax (fun hc=>?_) (fun hc=>?_)
  ·simp -dsimp (disch:=try exact dx) only[wpS,zE,f3,h2]
   refine⟨k,by omega,rfl,by omega,by simp,by simp[f0],fun j hj=>?_⟩
   by_cases hjk:j=k
   ·subst hjk;simpa using hc
   ·exact hz j (by omega)
  ·obtain⟨r,hr,hD⟩:=fin (k+1) hm hz (.inr (by simpa using hc))
   simp -dsimp (disch:=try exact dx) only[wpS,wpT,zE,f3,f0,hr]
   exact hD
theorem IZ {h:IH} {v:Value} {ds:List Nat} (hd:gA h v ds):WV prog (.func (.func 232) #[] #[]) [v] h fun r h'=>dG r=dG v:=by
 have hb:=hd.2.2
 refine enter (nt:=21) (rs:=[.tmp 2]) Proofs.Tryz.func232 rfl rfl rfl (by simp) ?_
 simp -dsimp (disch:=try exact dx) only[wpS,zE,hd.1.len cW]
 refine loop (fun m fr h1=>h1=h∧m≤ds.length∧ah fr 3=some (KN m)∧ah fr 0=some v) ds.length ⟨rfl,Nat.le_refl _,by simp,by simp⟩ ?_
 rintro m fr h1 ⟨rfl,hm,f3,f0⟩
 have fin : ∀n:Nat,n≤ds.length → ∃r,di prog h1 25 v none (some (KN n)) none=some r∧dG r=dG v:=by
  intro n hn
  obtain⟨r,hr,hs⟩:=hd.1.slice (aF.refl _) (P:=prog) (t:=25) u25 sz3 (l:=0) (m:=n) (Nat.zero_le _) hn (lo:=none) (hi:=some (KN n)) rfl (fun c hc=>ju (k:=.i64) (by omega))
  exact⟨r,hr,uk u25 hr⟩
 rcases Nat.eq_zero_or_pos m with rfl|hp
 ·obtain⟨r,hr,hD⟩:=fin 0 hm
  simp -dsimp (disch:=try exact dx) only[wpS,wpT,zE,f3,f0,hr]
  exact hD
 ·obtain⟨k,rfl⟩ : ∃k,m=k+1:=⟨m - 1,by omega⟩
  have h2:IntKind.i64.wrap (((k+1:Nat):Int) - 1)=(k:Int):=by rw[wrap_i64 (by omega)];omega
  simp -dsimp (disch:=try exact dx) only[wpS,wpT,zE,f3,f0,h2,hd.1.idx fc (show k<ds.length by omega),hd.1.ld (aF.refl _) (P:=prog) (t:=3) (c:=k) (by simp<;>omega) ag3,bD,get_some (show k<ds.length by omega)]
  refine ax (fun hc=>?_) (fun hc=>?_)
  ·simp -dsimp (disch:=try exact dx) only[wpS,zE,f3,h2]
   exact⟨k,by omega,rfl,by omega,by simp,by simp[f0]⟩
  ·obtain⟨r,hr,hD⟩:=fin (k+1) hm
   simp -dsimp (disch:=try exact dx) only[wpS,zE,f3,f0,hr]
   exact hD
def aZ (h:IH) (v:Value) (z:Int):Prop:=∃s,v=.agg #[.bool (decide (z<0)),s]∧Dig h s z.natAbs
theorem aZ.ab {h h':IH} {v:Value} {z:Int} (d:aZ h v z) (e:aF h h'):aZ h' v z:=let ⟨s,a,b⟩:=d;⟨s,a,b.ab e⟩
theorem jN {h:IH} {v:Value} {ds:List Nat} (hd:gA h v ds) (b:Bool):WV prog (.func (.func 220) #[] #[]) [.bool b,v] h fun r h'=>Ext h h'∧aZ h' r (if b then -(au ds:Int) else au ds):=by
 refine enter (nt:=15) (rs:=[.cell 4 194]) Proofs.Tryz.func220 rfl rfl rfl (by simp) ?_
 simp -dsimp (disch:=try exact dx) only[wpS,zE,zA,kD]
 refine call (tV (hd.ab ((aF.refl h).new _))) ?_
 rintro r h1 ⟨rfl,ds',hD,hN,hv⟩
 have hl:=hD.2.2
 have hz:=hN.jM
 have hk : ∀o,aF (h.new (.cells [.bool false,.slice none 0 0] 0 none)) ((h.new (.cells [.bool false,.slice none 0 0] 0 none)).put h.n o):=fun o=>(aF.refl _).put (aa _ _ rfl) o
 cases b
 ·simp -dsimp (disch:=try exact dx) only[wpS,wpT,zE,zL,zA,Ho,Gz,vv,fW,bZ,hD.1.cells,hD.1.cok]
  refine⟨((Ext.refl h).new _).put (Nat.le_refl _) _,r,?_,ds',hD.ab (hk _),hN,?_⟩
  ·simp
  ·simp[hv]
 ·simp -dsimp (disch:=try exact dx) only[wpS,wpT,zE,zL,zA,Ho,Gz,vv,fW,bZ,hD.1.cells,hD.1.cok,hD.1.len cW]
  refine⟨((Ext.refl h).new _).put (Nat.le_refl _) _,r,?_,ds',hD.ab (hk _),hN,?_⟩
  ·rw[hv] at hz
   have:0<ds'.length↔0<au ds:=by
    cases ds' with
    | nil=>simp at hz;simp[hz]
    | cons x l=>simp at hz;simp;omega
   simp[this]
  ·simp[hv]
theorem wV {h:IH} {v w:Value} {a b:List Nat} (ha:gA h v a) (hb:gA h w b) (na:Norm a) (nb:Norm b) :
  WV prog (.func (.func 218) #[] #[]) [v,w] h fun r h'=>h'=h ∧ ∃c:Int,r=KI c∧(c<0↔au a<au b)∧(c=0↔au a=au b) ∧ -9223372036854775808≤c∧c≤9223372036854775807:=by
 have la:=ha.2.2
 have lb:=hb.2.2
 refine enter (nt:=41) (rs:=[.tmp 4]) Proofs.Tryz.func218 rfl rfl rfl (by simp) ?_
 simp -dsimp (disch:=try exact dx) only[wpS,zE,zA,ha.1.len cW,hb.1.len cW]
 refine ax ?_ ?_<;>intro hc<;>simp only[bne_iff_ne,bne_eq_false_iff_eq,ne_eq] at hc
 ·simp -dsimp (disch:=try exact dx) only[wpS,wpT,zE,ha.1.len cW,hb.1.len cW]
  refine⟨_,rfl,?_,?_,by omega,by omega⟩
  ·constructor
   ·intro h1;exact jy ha.2.1 nb (by omega)
   ·intro h1
    have:=na.lH hb.2.1 (Nat.le_of_lt h1)
    omega
  ·constructor
   ·intro h1;omega
   ·intro h1
    have h2:=na.lH hb.2.1 (Nat.le_of_eq h1)
    have h3:=nb.lH ha.2.1 (Nat.le_of_eq h1.symm)
    omega
 ·have hl:a.length=b.length:=by omega
  simp -dsimp (disch:=try exact dx) only[wpS,wpT,zE,ha.1.len cW]
  refine loop (fun m fr h1=>h1=h∧m≤a.length∧ah fr 5=some (KI ((m:Int) - 1))∧ah fr 0=some v∧ah fr 1=some w ∧ ∀j,m≤j→j<a.length→a.getD j 0=b.getD j 0) a.length ⟨rfl,Nat.le_refl _,by simp,by simp,by simp,fun j hj hj2=>by omega⟩ ?_
  rintro m fr h1 ⟨rfl,hm,f5,f0,f1,hz⟩
  rcases Nat.eq_zero_or_pos m with rfl|hp
  ·simp -dsimp (disch:=try exact dx) only[wpS,wpT,zE,f5]
   refine⟨_,rfl,?_,?_,by omega,by omega⟩
   ·have:=kW hl (fun j hj=>hz j (Nat.zero_le _) hj);omega
   ·have:=kW hl (fun j hj=>hz j (Nat.zero_le _) hj);omega
  ·obtain⟨k,rfl⟩ : ∃k,m=k+1:=⟨m - 1,by omega⟩
   have h2:(((k+1:Nat):Int) - 1)=(k:Int):=by omega
   rw[h2] at f5
   have da:=bj ha.2.1 k
   have db:=bj hb.2.1 k
   simp -dsimp (disch:=try exact dx) only[wpS,wpT,zE,f5,f0,f1,ha.1.idx fc (show k<a.length by omega),ha.1.ld (aF.refl _) (P:=prog) (t:=3) (c:=k) (by simp<;>omega) ag3,hb.1.idx fc (show k<b.length by omega),hb.1.ld (aF.refl _) (P:=prog) (t:=3) (c:=k) (by simp<;>omega) ag3,bD,get_some (show k<a.length by omega),get_some (show k<b.length by omega)]
   refine ax ?_ ?_<;>intro hc<;>simp only[bne_iff_ne,bne_eq_false_iff_eq,ne_eq] at hc
   ·simp -dsimp (disch:=try exact dx) only[wpS,wpT,zE,f5,f0,f1,ha.1.idx fc (show k<a.length by omega),ha.1.ld (aF.refl _) (P:=prog) (t:=3) (c:=k) (by simp<;>omega) ag3,hb.1.idx fc (show k<b.length by omega),hb.1.ld (aF.refl _) (P:=prog) (t:=3) (c:=k) (by simp<;>omega) ag3,bD,get_some (show k<a.length by omega),get_some (show k<b.length by omega)]
    have key:(a.getD k 0<b.getD k 0→au a<au b)∧(b.getD k 0<a.getD k 0→au b<au a) :=
     ⟨fun h=>jx ha.2.1 hl (by omega) h (fun j x y=>hz j (by omega) y),fun h=>jx hb.2.1 hl.symm (by omega) h (fun j x y=>(hz j (by omega) (by omega)).symm)⟩
    refine⟨_,rfl,?_,?_,by omega,by omega⟩
    ·constructor
     ·intro h1;exact key.1 (by omega)
     ·intro h1
      apply Classical.byContradiction;intro h3
      have:=key.2 (by omega)
      omega
    ·constructor
     ·intro h1;omega
     ·intro h1
      rcases Nat.lt_or_ge (a.getD k 0) (b.getD k 0) with h3|h3
      ·have:=key.1 h3;omega
      ·have:=key.2 (by omega);omega
   ·simp -dsimp (disch:=try exact dx) only[wpS,wpT,zE,f5]
    refine⟨k,by omega,rfl,by omega,by simp,by simp[f0],by simp[f1],fun j h3 h4=>?_⟩
    by_cases hjk:j=k
    ·subst hjk;exact Int.ofNat.inj hc
    ·exact hz j (by omega) h4
end Go.Id

namespace Go.Id
open Go
open Go.Proofs.Tryz (prog)
open Nat renaming reduceAdd→zA,reduceEqDiff→zE,reduceLeDiff→zL
theorem sj (os:List Nat) (d:Nat):os.map KN ++ [KN d]=(os ++ [d]).map KN:=by simp
theorem Acc.block {h:IH} {n0 sz:Nat} {v:Value} {n:Nat} {cs:List Value} (a:Acc h n0 sz v n cs) {k:Nat} (hk:k<n0):dG v≠some (2*k):=by
 obtain⟨hz,hl,⟨rfl,_⟩|⟨j,fam,rfl,hn,h1,h2,h3,h4⟩⟩:=a
 ·intro h;cases h
 ·intro h
  have:2*j=2*k:=Option.some.inj h
  omega
theorem GP {h:IH} {v w:Value} {a b:List Nat} (ha:gA h v a) (hb:gA h w b) (nb:Norm b) (hle:au b≤au a) :
  WV prog (.func (.func 219) #[] #[]) [v,w] h fun r h'=>(Ext h h'∧Dig h' r (au a - au b)) ∧ ∀k,k<h.n→dG r≠some (2*k):=by
 have la:=ha.2.2
 have lb:=hb.2.2
 refine enter (nt:=41) (rs:=[.tmp 4]) Proofs.Tryz.func219 rfl rfl rfl (by simp) ?_
 simp -dsimp (disch:=try exact dx) only[wpS,zA]
 refine loop (fun m fr h1 => ∃(i bor:Nat) (os:List Nat) (out:Value),i+m=a.length∧ah fr 0=some v∧ah fr 1=some w∧ah fr 5=some out∧ah fr 6=some (KN bor)∧ah fr 7=some (KN i)∧bor≤1∧os.length=i∧bz os ∧
  az a i+bor*4294967296 ^ i=az b i+au os∧Acc h1 h.n 1 out i (os.map KN)∧Ext h h1) a.length ⟨0,0,[],.slice none 0 0,by simp,by simp,by simp,by simp,by simp,by simp,by omega,rfl,fun d hd=>(by cases hd),by simp[az,au],Acc.nil _ _ (by omega),Ext.refl _⟩ ?_
 rintro m fr h1 ⟨i,bor,os,out,him,f0,f1,f5,f6,f7,Dv,hos,hd,hv,hA,hE⟩
 simp -dsimp (disch:=try exact dx) only[wpS,zE,f0,f7,ha.1.len cW]
 refine ax ?_ ?_<;>intro hc<;>simp only[decide_eq_true_eq,decide_eq_false_iff_not] at hc
 ·have hi:i<a.length:=by omega
  have da:=bj ha.2.1 i
  have db:=bj hb.2.1 i
  simp -dsimp (disch:=try exact dx) only[wpS,wpT,zE,f0,f1,f6,f7,ha.1.idx fc hi,ha.1.ld hE.ab (P:=prog) (t:=3) (c:=i) (by simpa using hi) ag3,bD,get_some hi,hb.1.len cW]
  refine fR (fun fr2 h2=>h2=h1∧ah fr2 0=some v∧ah fr2 1=some w∧ah fr2 5=some out∧ah fr2 7=some (KN i)∧ah fr2 8=some (KI ((a.getD i 0:Int) - bor - (b.getD i 0:Int)))) (fun hc=>?_) (fun hc=>?_) ?_
  ·simp only[decide_eq_true_eq] at hc
   have hi2:i<b.length:=by omega
   simp -dsimp (disch:=try exact dx) only[wpS,wpT,zE,f1,f7,hb.1.idx fc hi2,hb.1.ld hE.ab (P:=prog) (t:=3) (c:=i) (by simpa using hi2) ag3,bD,get_some hi2]
   exact⟨rfl,by simp[f0],by simp[f1],by simp[f5],by simp[f7],by simp⟩
  ·simp only[decide_eq_false_iff_not] at hc
   simp -dsimp (disch:=try exact dx) only[wpS,wpT]
   exact⟨rfl,by simp[f0],by simp[f1],by simp[f5],by simp[f7],by rw[cH (show b.length≤i by omega)];simp⟩
  ·rintro fr2 h2 ⟨rfl,f0,f1,f5,f7,f8⟩
   simp -dsimp (disch:=try exact dx) only[wpS,zE,f8]
   refine fR (fun fr3 h3=>h3=h2∧ah fr3 0=some v∧ah fr3 1=some w∧ah fr3 5=some out∧ah fr3 7=some (KN i) ∧ ∃d Mt:Nat,ah fr3 8=some (KN d)∧ah fr3 6=some (KN Mt)∧d<4294967296∧Mt≤1∧a.getD i 0+Mt*4294967296=b.getD i 0+bor+d) (fun hc=>?_) (fun hc=>?_) ?_
   ·simp only[decide_eq_true_eq] at hc
    simp -dsimp (disch:=try exact dx) only[wpS,wpT,zE,f8]
    refine⟨rfl,by simp[f0],by simp[f1],by simp[f5],by simp[f7],a.getD i 0+4294967296 - bor - b.getD i 0,1,?_,by simp,by omega,by omega,by omega⟩
    simp only[mK,zE,if_false,if_true]
    congr 2;omega
   ·simp only[decide_eq_false_iff_not] at hc
    simp -dsimp (disch:=try exact dx) only[wpS,wpT]
    refine⟨rfl,by simp[f0],by simp[f1],by simp[f5],by simp[f7],a.getD i 0 - bor - b.getD i 0,0,?_,by simp,by omega,by omega,by omega⟩
    simp only[mK,zE,if_false,f8]
    congr 2;omega
   ·rintro fr3 h3 ⟨rfl,f0,f1,f5,f7,d,Mt,f8,f6,hd2,hb2,iz⟩
    obtain⟨bR,h',hap,hA',hG,hE'⟩:=hA.tj (P:=prog) (t:=25) pV (x:=KN d) rfl (by omega) hE.n hE (Nat.le_refl _)
    simp -dsimp (disch:=try exact dx) only[wpS,wpT,zE,zL,zA,gO,fj,f5,f7,f8,hap]
    refine⟨m - 1,by omega,i+1,Mt,os ++ [d],bR,by omega,by simp[f0],by simp[f1],by simp,by simp[f6],by simp,hb2,by simp[hos],hd.append hd2,?_,by rw[←sj];exact hA',hE'⟩
    rw[iE,az,az,hos]
    grind
 ·obtain rfl:i=a.length:=by omega
  have hbl:=nb.lH ha.2.1 hle
  rw[gY hbl,gY (Nat.le_refl _)] at hv
  have hlt:=jH hd
  rw[hos] at hlt
  have hb0:bor=0:=by
   apply Classical.byContradiction;intro hne
   have:bor=1:=by omega
   subst this;omega
  subst hb0
  have hD:gA h1 out os:=⟨by rw[hos];exact hA.sl,hd,by omega⟩
  simp -dsimp (disch:=try exact dx) only[wpS,wpT,zE,f5]
  refine call ((tV hD).and (IZ hD)) ?_
  rintro r h2 ⟨⟨rfl,hr⟩,hbk⟩
  simp -dsimp (disch:=try exact dx) only[wpS,zE]
  refine⟨⟨hE,?_⟩,fun k hk=>?_⟩
  ·rw[show au a - au b=au os by omega];exact hr
  ·rw[hbk];exact hA.block hk
theorem vC {h:IH} {v w:Value} {a b:List Nat} (ha:gA h v a) (hb:gA h w b) (nb:Norm b) (hle:au b≤au a) :
  WV prog (.func (.func 219) #[] #[]) [v,w] h fun r h'=>Ext h h'∧Dig h' r (au a - au b):=(GP ha hb nb hle).mono fun _ _ k=>k.1
theorem NG {h:IH} {v w:Value} {a b:List Nat} (ha:gA h v a) (hb:gA h w b) (la:a.length≤1000001) (lb:b.length≤1000001) :
  WV prog (.func (.func 236) #[] #[]) [v,w] h fun r h'=>Ext h h' ∧ ∃os,gA h' r os∧au os=au a+au b:=by
 refine enter (nt:=52) (rs:=[.tmp 4]) Proofs.Tryz.func236 rfl rfl rfl (by simp) ?_
 simp -dsimp (disch:=try exact dx) only[wpS,zA]
 refine loop (fun m fr h1 => ∃(i c:Nat) (os:List Nat) (out:Value),i+m=1000003∧ah fr 0=some v∧ah fr 1=some w∧ah fr 5=some out∧ah fr 6=some (KN c)∧ah fr 7=some (KN i)∧c≤1∧os.length=i∧bz os∧i≤1000002∧(1000001<i→c=0) ∧
  au os+c*4294967296 ^ i=az a i+az b i∧Acc h1 h.n 1 out i (os.map KN)∧Ext h h1) 1000003 ⟨0,0,[],.slice none 0 0,by simp,by simp,by simp,by simp,by simp,by simp,by omega,rfl,fun d hd=>(by cases hd),by omega,by omega,by simp[az,au],Acc.nil _ _ (by omega),Ext.refl _⟩ ?_
 rintro m fr h1 ⟨i,c,os,out,him,f0,f1,f5,f6,f7,hcc,hos,hd,hi2,hi3,hv,hA,hE⟩
 rw[kf]
 by_cases hcont:i<a.length∨i<b.length∨0<c
 ·refine cut (fun fr2 h2=>h2=h1∧ah fr2 0=some v∧ah fr2 1=some w∧ah fr2 5=some out∧ah fr2 6=some (KN c)∧ah fr2 7=some (KN i)) ?_ ?_
  ·by_cases c1:i<a.length
   ·simp -dsimp (disch:=try exact dx) only[wpS,wpT,zE,f0,f7,ha.1.len cW]
    exact⟨rfl,by simp[f0],by simp[f1],by simp[f5],by simp[f6],by simp[f7]⟩
   ·by_cases c2:i<b.length
    ·simp -dsimp (disch:=try exact dx) only[wpS,wpT,zE,f0,f1,f7,ha.1.len cW,hb.1.len cW]
     exact⟨rfl,by simp[f0],by simp[f1],by simp[f5],by simp[f6],by simp[f7]⟩
    ·simp -dsimp (disch:=try exact dx) only[wpS,wpT,zE,f0,f1,f6,f7,ha.1.len cW,hb.1.len cW]
     exact⟨rfl,by simp[f0],by simp[f1],by simp[f5],by simp[f6],by simp[f7]⟩
  ·rintro fr2 h2 ⟨rfl,f0,f1,f5,f6,f7⟩
   have da:=bj ha.2.1 i
   have db:=bj hb.2.1 i
   simp -dsimp (disch:=try exact dx) only[wpS,zE,f0,f7,ha.1.len cW]
   refine fR (fun fr3 h3=>h3=h2∧ah fr3 0=some v∧ah fr3 1=some w∧ah fr3 5=some out∧ah fr3 7=some (KN i)∧ah fr3 6=some (KN (c+a.getD i 0))) (fun hc=>?_) (fun hc=>?_) ?_
   ·simp only[decide_eq_true_eq] at hc
    have hi:i<a.length:=by omega
    simp -dsimp (disch:=try exact dx) only[wpS,wpT,zE,f0,f6,f7,ha.1.idx fc hi,ha.1.ld hE.ab (P:=prog) (t:=3) (c:=i) (by simpa using hi) ag3,bD,get_some hi]
    exact⟨rfl,by simp[f0],by simp[f1],by simp[f5],by simp[f7],by simp⟩
   ·simp only[decide_eq_false_iff_not] at hc
    simp -dsimp (disch:=try exact dx) only[wpS,wpT]
    exact⟨rfl,by simp[f0],by simp[f1],by simp[f5],by simp[f7],by rw[cH (show a.length≤i by omega)];simp[f6]⟩
   ·rintro fr3 h3 ⟨rfl,f0,f1,f5,f7,f6⟩
    simp -dsimp (disch:=try exact dx) only[wpS,zE,f1,f7,hb.1.len cW]
    refine fR (fun fr4 h4=>h4=h3∧ah fr4 0=some v∧ah fr4 1=some w∧ah fr4 5=some out∧ah fr4 7=some (KN i)∧ah fr4 6=some (KN (c+a.getD i 0+b.getD i 0))) (fun hc=>?_) (fun hc=>?_) ?_
    ·simp only[decide_eq_true_eq] at hc
     have hi:i<b.length:=by omega
     simp -dsimp (disch:=try exact dx) only[wpS,wpT,zE,f1,f6,f7,hb.1.idx fc hi,hb.1.ld hE.ab (P:=prog) (t:=3) (c:=i) (by simpa using hi) ag3,bD,get_some hi]
     exact⟨rfl,by simp[f0],by simp[f1],by simp[f5],by simp[f7],by simp⟩
    ·simp only[decide_eq_false_iff_not] at hc
     simp -dsimp (disch:=try exact dx) only[wpS,wpT]
     exact⟨rfl,by simp[f0],by simp[f1],by simp[f5],by simp[f7],by rw[cH (show b.length≤i by omega)];simp[f6]⟩
    ·rintro fr4 h4 ⟨rfl,f0,f1,f5,f7,f6⟩
     have hi5:i≤1000001:=by
      apply Classical.byContradiction;intro hn
      have:=hi3 (by omega)
      omega
     generalize hs:c+a.getD i 0+b.getD i 0=s at f6
     have e1:((s:Int) % 4294967296)=((s % 4294967296:Nat):Int):=by omega
     have e2:((s:Int) / 4294967296)=((s / 4294967296:Nat):Int):=by omega
     obtain⟨bR,h',hap,hA',hG,hE'⟩:=hA.tj (P:=prog) (t:=25) pV (x:=KN (s % 4294967296)) rfl (by omega) hE.n hE (Nat.le_refl _)
     simp -dsimp (disch:=try exact dx) only[wpS,wpT,zE,zL,zA,gO,fj,f5,f6,f7,e1,hap,e2]
     refine⟨m - 1,by omega,i+1,s / 4294967296,os ++ [s % 4294967296],bR,by omega,by simp[f0],by simp[f1],by simp,by simp,by simp,by omega,by simp[hos],hd.append (by omega),by omega,fun hh=>?_,?_,by rw[←sj];exact hA',hE'⟩
     ·have h1:=cH (ds:=a) (k:=i) (by omega)
      have h2:=cH (ds:=b) (k:=i) (by omega)
      omega
     ·rw[iE,az,az,hos]
      have h5:s % 4294967296+s / 4294967296*4294967296=c+a.getD i 0+b.getD i 0:=by omega
      grind
 ·refine cut (fun fr2 h2=>False) ?_ (fun _ _ h=>h.elim)
  simp -dsimp (disch:=try exact dx) only[wpS,wpT,zE,f0,f1,f5,f6,f7,ha.1.len cW,hb.1.len cW]
  obtain rfl:c=0:=by omega
  rw[gY (by omega),gY (by omega)] at hv
  exact⟨hE,os,⟨by rw[hos];exact hA.sl,hd,by omega⟩,by omega⟩
end Go.Id

namespace Go.Id
open Go
open Nat renaming reduceAdd→zA,reduceEqDiff→zE,reduceLeDiff→zL
set_option maxHeartbeats 16000000
@[irreducible] def Small (x:Nat):Prop:=x<4294967296 ^ 1000000
theorem Small.lt {x:Nat} (h:Small x):x<4294967296 ^ 1000000:=by unfold Small at h;exact h
theorem Small.mk {x:Nat} (h:x<4294967296 ^ 1000000):Small x:=by unfold Small;exact h
theorem Small.le {x y:Nat} (h:Small x) (k:y≤x):Small y:=.mk (Nat.lt_of_le_of_lt k h.lt)
theorem Norm.small {ds:List Nat} (h:Norm ds) (hs:Small (au ds)):ds.length≤1000000:=by
 by_cases hne:ds = []
 ·subst hne;simp
 ·have h1:=h.ge hne
  have h2:4294967296 ^ (ds.length - 1)<4294967296 ^ 1000000:=Nat.lt_of_le_of_lt h1 hs.lt
  have:=(Nat.pow_lt_pow_iff_right (a:=4294967296) (by omega)).1 h2
  omega
abbrev aS (z:Int):Prop:=Small z.natAbs
theorem F7 {h:IH} {v:Value} {z:Int} (hv:aZ h v z):WV Proofs.Tryz.prog (.func (.func 256) #[] #[]) [v] h fun r h'=>Ext h h'∧aZ h' r (-z):=by
 obtain⟨s,rfl,ds,hD,hN,hx⟩:=hv
 refine enter (nt:=9) (rs:=[.cell 2 194]) Proofs.Tryz.func256 rfl rfl rfl (by simp) ?_
 simp -dsimp (disch:=try exact dx) only[wpS,zE,kD,dF,ld4,eP,fQ]
 refine call (jN (hD.ab (((aF.refl h).new _).new _)) _) ?_
 rintro r h1 ⟨hE,s1,rfl,h2⟩
 have hg:h1.ext.get (h.n+1)=some (.cells [.bool false,.slice none 0 0] 0 none):=by
  rw[hE.get _ (by simp)];exact aa _ _ rfl
 obtain⟨ds1,hD1,hr1⟩:=h2
 simp -dsimp (disch:=try exact dx) only[wpS,wpT,zE,zL,zA,fW,bZ,hg,hD1.1.cok]
 refine⟨((((Ext.refl h).new _).new _).trans hE).put (by omega) _,?_⟩
 have hz:(if (!decide (z<0))=true then -(au ds:Int) else au ds) = -z:=by
  by_cases h0:z<0<;>simp[h0]<;>omega
 rw[hz] at hr1 ⊢
 exact⟨s1,rfl,ds1,hD1.ab ((aF.refl _).put hg _),hr1⟩
theorem vu {h:IH} {v w:Value} {x y:Int} (hv:aZ h v x) (hw:aZ h w y) (sx:aS x) (sy:aS y) :
  WV Proofs.Tryz.prog (.func (.func 157) #[] #[]) [v,w] h fun r h'=>Ext h h'∧aZ h' r (x+y):=by
 obtain⟨s,rfl,a,ha,na,hx⟩:=hv
 obtain⟨t,rfl,b,hb,nb,hy⟩:=hw
 have la:a.length≤1000000:=na.small (by rw[hx];exact sx)
 have lb:b.length≤1000000:=nb.small (by rw[hy];exact sy)
 refine enter (nt:=40) (rs:=[.cell 4 194]) Proofs.Tryz.func157 rfl rfl rfl (by simp) ?_
 simp -dsimp (disch:=try exact dx) only[wpS,zE,zA,kD,dF,ld4,be4]
 have kk : ∀o1 o2 o3,aF h (((h.new o1).new o2).new o3):=fun o1 o2 o3=>(((aF.refl h).new _).new _).new _
 have ee : ∀o1 o2 o3,Ext h (((h.new o1).new o2).new o3):=fun o1 o2 o3=>(((Ext.refl h).new _).new _).new _
 refine ax (fun hc=>?_) (fun hc=>?_)
 ·have hc:(x<0↔y<0):=by simpa using hc
  simp -dsimp (disch:=try exact dx) only[wpS]
  refine drawn [(1,[7])] (by kernel_rfl) (by kernel_rfl) rfl ?_
  simp -dsimp (disch:=try exact dx) only[wpS,zE,dF,ld4,eP,fQ]
  refine call (NG (ha.ab (kk _ _ _)) (hb.ab (kk _ _ _)) (by omega) (by omega)) ?_
  rintro r h1 ⟨hE,os,hD,oO⟩
  simp -dsimp (disch:=try exact dx) only[wpS,zE]
  refine call (jN hD _) ?_
  rintro r2 h2 ⟨hE2,s1,rfl,ds1,hD1,hr1⟩
  have hg:h2.ext.get (h.n+1+1)=some (.cells [.bool false,.slice none 0 0] 0 none):=by
   rw[hE2.get _ (by have:=hE.n;simp at this;omega),hE.get _ (by simp)];exact aa _ _ rfl
  have dE : ∀k',k'≤h.n→True:=fun _ _=>trivial
  have hr0:h1.row (2*h.n)=some [.bool (decide (x<0)),s]:=by
   rw[hE.row (by simp<;>omega)];simp -dsimp (disch:=try exact dx) only[wpS]
  simp -dsimp (disch:=try exact dx) only[wpS,wpT,zE,zL,zA,fW,hg,hD1.1.cok]
  refine⟨ak rfl rfl rfl rfl (aA (av:=ptr (2*h.n) 0) (v:=.bool (decide (x<0))) rfl ?_ ?_),?_⟩
  ·simp -dsimp (disch:=try exact dx) only[wpS,ld4]
  ·simp -dsimp (disch:=try exact dx) only[wpS,ld4,hr0]
  ·simp -dsimp (disch:=try exact dx) only[wpS,wpT,zE,zL,zA,bZ]
   refine⟨(((ee _ _ _).trans hE).trans hE2).put (by omega) _,?_⟩
   have hz:(if decide (x<0)=true then -(au os:Int) else au os)=x+y:=by
    by_cases h0:x<0<;>simp[h0]<;>omega
   rw[hz] at hr1 ⊢
   exact⟨s1,rfl,ds1,hD1.ab ((aF.refl _).put hg _),hr1⟩
 ·have hc : ¬(x<0↔y<0):=by simpa using hc
  simp -dsimp (disch:=try exact dx) only[wpS,zE,eP,fQ]
  refine call (wV (ha.ab (kk _ _ _)) (hb.ab (kk _ _ _)) na nb) ?_
  rintro r h1 ⟨rfl,c,rfl,hc1,hc2,hc3,hc4⟩
  simp -dsimp (disch:=try exact dx) only[wpS,zE]
  refine ax ?_ ?_<;>intro hc5<;>simp only[decide_eq_true_eq,decide_eq_false_iff_not] at hc5
  ·simp -dsimp (disch:=try exact dx) only[wpS,wpT]
   refine drawn [(1,[7])] (by kernel_rfl) (by kernel_rfl) rfl ?_
   simp -dsimp (disch:=try exact dx) only[wpS,zE,dF,ld4,eP,fQ]
   refine call (vC (ha.ab (kk _ _ _)) (hb.ab (kk _ _ _)) nb (by omega)) ?_
   rintro r h1 ⟨hE,os,hD,hN,oO⟩
   simp -dsimp (disch:=try exact dx) only[wpS,zE]
   refine call (jN hD _) ?_
   rintro r2 h2 ⟨hE2,s1,rfl,ds1,hD1,hr1⟩
   have hg:h2.ext.get (h.n+1+1)=some (.cells [.bool false,.slice none 0 0] 0 none):=by
    rw[hE2.get _ (by have:=hE.n;simp at this;omega),hE.get _ (by simp)];exact aa _ _ rfl
   have hr0:h1.row (2*h.n)=some [.bool (decide (x<0)),s]:=by
    rw[hE.row (by simp<;>omega)];simp -dsimp (disch:=try exact dx) only[wpS]
   simp -dsimp (disch:=try exact dx) only[wpS,wpT,zE,zL,zA,fW,hg,hD1.1.cok]
   refine⟨ak rfl rfl rfl rfl (aA (av:=ptr (2*h.n) 0) (v:=.bool (decide (x<0))) rfl ?_ ?_),?_⟩
   ·simp -dsimp (disch:=try exact dx) only[wpS,ld4]
   ·simp -dsimp (disch:=try exact dx) only[wpS,ld4,hr0]
   ·simp -dsimp (disch:=try exact dx) only[wpS,wpT,zE,zL,zA,bZ]
    refine⟨(((ee _ _ _).trans hE).trans hE2).put (by omega) _,?_⟩
    have hz:(if decide (x<0)=true then -(au os:Int) else au os).natAbs=(x+y).natAbs∧((if decide (x<0)=true then -(au os:Int) else au os)<0↔x+y<0):=by
     by_cases h0:x<0<;>simp[h0]<;>omega
    rw[hz.1] at hr1
    refine⟨s1,?_,ds1,hD1.ab ((aF.refl _).put hg _),hr1⟩
    simp only[hz.2]<;>rfl
  ·simp -dsimp (disch:=try exact dx) only[wpS,wpT]
   refine drawn [(1,[7])] (by kernel_rfl) (by kernel_rfl) rfl ?_
   simp -dsimp (disch:=try exact dx) only[wpS,zE,dF,ld4,eP,fQ]
   refine call (vC (hb.ab (kk _ _ _)) (ha.ab (kk _ _ _)) na (by omega)) ?_
   rintro r h1 ⟨hE,os,hD,hN,oO⟩
   simp -dsimp (disch:=try exact dx) only[wpS,zE]
   refine call (jN hD _) ?_
   rintro r2 h2 ⟨hE2,s1,rfl,ds1,hD1,hr1⟩
   have hg:h2.ext.get (h.n+1+1)=some (.cells [.bool false,.slice none 0 0] 0 none):=by
    rw[hE2.get _ (by have:=hE.n;simp at this;omega),hE.get _ (by simp)];exact aa _ _ rfl
   have hr0:h1.row (2*(h.n+1))=some [.bool (decide (y<0)),t]:=by
    rw[hE.row (by simp<;>omega)];simp -dsimp (disch:=try exact dx) only[wpS]
   simp -dsimp (disch:=try exact dx) only[wpS,wpT,zE,zL,zA,fW,hg,hD1.1.cok]
   refine⟨ak rfl rfl rfl rfl (aA (av:=ptr (2*(h.n+1)) 0) (v:=.bool (decide (y<0))) rfl ?_ ?_),?_⟩
   ·simp -dsimp (disch:=try exact dx) only[wpS,ld4]
   ·simp -dsimp (disch:=try exact dx) only[wpS,ld4,hr0]
   ·simp -dsimp (disch:=try exact dx) only[wpS,wpT,zE,zL,zA,bZ]
    refine⟨(((ee _ _ _).trans hE).trans hE2).put (by omega) _,?_⟩
    have hz:(if decide (y<0)=true then -(au os:Int) else au os).natAbs=(x+y).natAbs∧((if decide (y<0)=true then -(au os:Int) else au os)<0↔x+y<0):=by
     by_cases h0:y<0<;>simp[h0]<;>omega
    rw[hz.1] at hr1
    refine⟨s1,?_,ds1,hD1.ab ((aF.refl _).put hg _),hr1⟩
    simp only[hz.2]<;>rfl
end Go.Id

namespace Go.Id
open Go
open Nat renaming reduceAdd→zA,reduceEqDiff→zE,reduceLeDiff→zL
set_option maxHeartbeats 16000000
theorem aZ.form {h:IH} {v:Value} {z:Int} (d:aZ h v z) : ∃s n,v=.agg #[.bool (decide (z<0)),s]∧s.cells = #[s]∧aG s=true∧(∀{P:Program} {t:TypeId} (_:cX P (some t)=true) (h':IH),nT P h' t s=some (.int .i64 ((n:Nat):Int)))∧(n=0↔z=0):=by
 obtain⟨s,rfl,ds,hD,hN,hx⟩:=d
 refine⟨s,ds.length,rfl,hD.1.cells,hD.1.cok,fun hT h'=>hD.1.len hT h',?_⟩
 have:=hN.jM
 rw[hx] at this
 rw[List.length_eq_zero_iff,←this];omega
theorem C6 {h:IH} {v w:Value} {x y:Int} (hv:aZ h v x) (hw:aZ h w y) (sx:aS x) (sy:aS y) :
  WV Proofs.Tryz.prog (.func (.func 234) #[] #[]) [v,w] h fun r h'=>Ext h h'∧aZ h' r (x - y):=by
 obtain⟨s,n1,rfl,c1,o1,l1,z1⟩:=hv.form
 obtain⟨t,n2,rfl,c2,o2,l2,z2⟩:=hw.form
 refine enter (nt:=9) (rs:=[.cell 4 194]) Proofs.Tryz.func234 rfl rfl rfl (by simp) ?_
 simp -dsimp (disch:=try exact dx) only[wpS,zE,zA,kD]
 have kk : ∀o1 o2 o3,aF h (((h.new o1).new o2).new o3):=fun o1 o2 o3=>(((aF.refl h).new _).new _).new _
 have ee : ∀o1 o2 o3,Ext h (((h.new o1).new o2).new o3):=fun o1 o2 o3=>(((Ext.refl h).new _).new _).new _
 refine drawn [(0,[3])] (by kernel_rfl) (by kernel_rfl) rfl ?_
 simp -dsimp (disch:=try exact dx) only[wpS,wpT,zE,zL,zA,bZ]
 refine call (F7 (hw.ab (kk _ _ _))) ?_
 rintro r h1 ⟨hE,hT⟩
 simp -dsimp (disch:=try exact dx) only[wpS,zE]
 refine call (vu (hv.ab ((kk _ _ _).trans hE.ab)) hT sx (by rw[aS,Int.natAbs_neg];exact sy)) ?_
 rintro r2 h2 ⟨hE2,hr⟩
 obtain⟨s1,n3,rfl,c3,o3,l3,z3⟩:=hr.form
 have hg:h2.ext.get (h.n+1+1)=some (.cells [.bool false,.slice none 0 0] 0 none):=by
  rw[hE2.get _ (by have:=hE.n;simp at this;omega),hE.get _ (by simp)];exact aa _ _ rfl
 have hr0:h1.row (2*h.n)=some [.bool (decide (x<0)),s]:=by
  rw[hE.row (by simp<;>omega)];simp -dsimp (disch:=try exact dx) only[wpS]
 simp -dsimp (disch:=try exact dx) only[wpS,wpT,zE,zL,zA,fW,hg,o3]
 refine⟨ak rfl rfl rfl rfl (aA (av:=ptr (2*h.n) 0) (v:=.agg #[.bool (decide (x<0)),s]) rfl ?_ ?_),?_⟩
 ·simp -dsimp (disch:=try exact dx) only[wpS,wpT,zL,zA,bZ]
  rfl
 ·simp -dsimp (disch:=try exact dx) only[wpS,wpT,zL,zA,bZ,hr0]
  rfl
 ·simp -dsimp (disch:=try exact dx) only[wpS,wpT,zE,zL,zA,bZ]
  refine⟨(((ee _ _ _).trans hE).trans hE2).put (by omega) _,?_⟩
  have:x + -y=x - y:=by omega
  rw[this] at hr ⊢
  exact hr.ab ((aF.refl _).put hg _)
theorem IC {h:IH} {v w:Value} {x y:Int} (hv:aZ h v x) (hw:aZ h w y) (sx:aS x) (sy:aS y) :
  WV Proofs.Tryz.prog (.func (.func 159) #[] #[]) [v,w] h fun r h'=>Ext h h'∧r=KI (if x<y then -1 else if y<x then 1 else 0):=by
 obtain⟨s,n1,rfl,c1,o1,l1,z1⟩:=hv.form
 obtain⟨t,n2,rfl,c2,o2,l2,z2⟩:=hw.form
 refine enter (nt:=15) (rs:=[.tmp 4]) Proofs.Tryz.func159 rfl rfl rfl (by simp) ?_
 simp -dsimp (disch:=try exact dx) only[wpS,wpT,zE,zL,zA,bZ]
 refine call (C6 (hv.ab (((aF.refl h).new _).new _)) (hw.ab (((aF.refl h).new _).new _)) sx sy) ?_
 rintro r h1 ⟨hE,hr⟩
 obtain⟨s1,n3,rfl,c3,o3,l3,z3⟩:=hr.form
 have hE2:Ext h h1:=(((Ext.refl h).new _).new _).trans hE
 simp -dsimp (disch:=try exact dx) only[wpS,wpT,zE,zL,zA,kD,fW,dF,ld4,o3]
 refine ax ?_ ?_<;>intro hc<;>simp only[decide_eq_true_eq,decide_eq_false_iff_not] at hc
 ·simp -dsimp (disch:=try exact dx) only[wpS,wpT,zE]
  refine⟨(hE2.new _).put hE2.n _,?_⟩
  rw[if_pos (by omega)]
 ·simp -dsimp (disch:=try exact dx) only[wpS,wpT,zE,eP,fQ,l3 cW]
  refine ax ?_ ?_<;>intro hc2<;>simp only[decide_eq_true_eq,decide_eq_false_iff_not] at hc2
  ·simp -dsimp (disch:=try exact dx) only[wpS,wpT,zE]
   refine⟨(hE2.new _).put hE2.n _,?_⟩
   rw[if_neg (by omega),if_pos (by omega)]
  ·simp -dsimp (disch:=try exact dx) only[wpS,wpT]
   refine⟨(hE2.new _).put hE2.n _,?_⟩
   rw[if_neg (by omega),if_neg (by omega)]
end Go.Id

namespace Go.Id
def wrd (n i:Nat):Nat:=n / 18446744073709551616 ^ i % 18446744073709551616
theorem qB (n i:Nat):wrd n i<18446744073709551616:=Nat.mod_lt _ (by omega)
theorem vz (n i:Nat):n % 18446744073709551616 ^ (i+1)=n % 18446744073709551616 ^ i+18446744073709551616 ^ i*wrd n i:=Nat.mod_pow_succ
theorem pow_two (i:Nat):4294967296 ^ (2*i)=18446744073709551616 ^ i:=by
 rw[Nat.pow_mul]
theorem Ba (i:Nat):4294967296 ^ (2*i+1)=4294967296*18446744073709551616 ^ i:=by
 rw[Nat.pow_succ,pow_two,Nat.mul_comm]
theorem iN {n i j:Nat} (h:n<18446744073709551616 ^ i) (hj:i≤j):wrd n j=0:=by
 have:n<18446744073709551616 ^ j:=Nat.lt_of_lt_of_le h (Nat.pow_le_pow_right (by omega) hj)
 rw[wrd,Nat.div_eq_of_lt this]
theorem nY {n x i j:Nat} (hj:j<i):wrd (n+x*18446744073709551616 ^ i) j=wrd n j:=by
 obtain⟨d,rfl⟩ : ∃d,i=j+1+d:=⟨i - j - 1,by omega⟩
 rw[wrd,wrd,show x*18446744073709551616 ^ (j+1+d)=18446744073709551616 ^ j*(18446744073709551616*(x*18446744073709551616 ^ d)) from by
  rw[Nat.pow_add,Nat.pow_add];grind]
 rw[Nat.add_mul_div_left _ _ (Nat.pow_pos (by omega)),Nat.add_mul_mod_self_left]
theorem qC {n x i:Nat} (h:n<18446744073709551616 ^ (i+1)) (hx:wrd n i+x<18446744073709551616):wrd (n+x*18446744073709551616 ^ i) i=wrd n i+x:=by
 have h1:n / 18446744073709551616 ^ i<18446744073709551616:=by
  rw[Nat.div_lt_iff_lt_mul (Nat.pow_pos (by omega))]
  rw[Nat.pow_succ] at h;rw[Nat.mul_comm];exact h
 have h2:wrd n i=n / 18446744073709551616 ^ i:=Nat.mod_eq_of_lt h1
 rw[wrd,Nat.add_mul_div_right _ _ (Nat.pow_pos (by omega)),←h2,Nat.mod_eq_of_lt hx]
theorem AF {n x i:Nat} (h:n<18446744073709551616 ^ (i+1)) (hx:wrd n i+x<18446744073709551616):n+x*18446744073709551616 ^ i<18446744073709551616 ^ (i+1):=by
 have h1:n / 18446744073709551616 ^ i<18446744073709551616:=by
  rw[Nat.div_lt_iff_lt_mul (Nat.pow_pos (by omega))]
  rw[Nat.pow_succ] at h;rw[Nat.mul_comm];exact h
 have h2:wrd n i=n / 18446744073709551616 ^ i:=Nat.mod_eq_of_lt h1
 have hp:0<18446744073709551616 ^ i:=Nat.pow_pos (by omega)
 have h3:=Nat.div_add_mod n (18446744073709551616 ^ i)
 have h4:=Nat.mod_lt n hp
 rw[h2] at hx
 have h5:(n / 18446744073709551616 ^ i+x+1)*18446744073709551616 ^ i≤18446744073709551616*18446744073709551616 ^ i:=Nat.mul_le_mul_right _ (by omega)
 rw[Nat.pow_succ]
 generalize 18446744073709551616 ^ i=p at *
 have h6:(n / p+x+1)*p=p*(n / p)+x*p+p:=by grind
 rw[Nat.mul_comm 18446744073709551616 p] at h5
 omega
@[irreducible] def W8:Nat:=18446744073709551616 ^ 8
@[irreducible] def H8:Nat:=9223372036854775808*18446744073709551616 ^ 7
theorem AH:W8=18446744073709551616 ^ 8:=by unfold W8;rfl
theorem BS:W8=2*H8:=by unfold W8 H8;rfl
theorem yr:W8=4294967296 ^ 16:=by unfold W8;rfl
theorem Q9:H8=2147483648*4294967296 ^ 15:=by unfold H8;rfl
theorem ud:9223372036854775808<H8:=by unfold H8;decide
def wdI (n:Nat):Int:=if n<H8 then (n:Int) else (n:Int) - W8
theorem PJ {n:Nat} (h:n<W8):wrd n 7<9223372036854775808↔n<H8:=by
 rw[AH] at h
 unfold H8
 have h1:n / 18446744073709551616 ^ 7<18446744073709551616:=by
  rw[Nat.div_lt_iff_lt_mul (Nat.pow_pos (by decide))];exact h
 rw[wrd,Nat.mod_eq_of_lt h1,Nat.div_lt_iff_lt_mul (Nat.pow_pos (by decide))]
end Go.Id

/-
  Contracts: law 38's helper: short shares of drafts. Contracts: drafts of fractions: Unit.
-/
import Derived.Test.YtjhnilfelokpcaaGreatOutlierTellsAr
import Derived.Test.YtjhnilfelokpcaaGreatOutlierTellsBh
import Derived.Test.YtjhnilfelokpcaaGreatOutlierTellsAu
import Init
import Derived.Test.YtjhnilfelokpcaaGreatOutlierTellsBc
import Derived.Test.YtjhnilfelokpcaaGreatOutlierTellsBg
import Derived.Test.YtjhnilfelokpcaaGreatOutlierTellsBi
import Derived.Test.YtjhnilfelokpcaaGreatOutlierTellsBo
import Derived.Test.YtjhnilfelokpcaaGreatOutlierTellsBk
set_option linter.unusedVariables false
set_option linter.unusedSimpArgs false
set_option linter.defProp false
set_option linter.deprecated false
namespace Go.Id
open Go
open Go.Proofs.Tryz (prog)
open Nat (reduceAdd reduceEqDiff reduceLeDiff)
set_option maxHeartbeats 16000000
theorem olShorts_ok {h:IH} {v:Value} {n:Nat} (hv:DrSl h v n) :
  WV prog (.func (.func 33) #[] #[]) [v] h fun r h'=>Ext h h' ∧ ∃l',ShSl h' r l'∧l'.length=min n 12∧(∀p∈l',isShort p)∧(l' = []→r=.slice none 0 0):=by
 obtain⟨M,hM⟩ : ∃M,M=min n 12:=⟨_,rfl⟩
 obtain⟨cs,hsl,hdr⟩:=hv
 obtain⟨w,hw,hs⟩:=hsl.slice (Keep.refl h) (P:=prog) (t:=75) u75 sz81 (l:=0) (m:=M) (Nat.zero_le _) (by omega) (lo:=none) (hi:=some (KN M)) rfl (fun c hc=>natOf_nat (k:=.i64) (by omega))
 rw[Nat.sub_zero,Nat.zero_mul,List.drop_zero] at hs
 have hcl:=hsl.2.1
 have hmin:(if (12:Int)<(n:Int) then (12:Int) else (n:Int))=(M:Int):=by split<;>omega
 refine enter (nt:=23) (rs:=[.tmp 2]) Proofs.Tryz.func33 rfl rfl rfl (by simp) ?_
 simp -dsimp (maxSteps:=1000000) (disch:=try exact dx) only[wpS,reduceEqDiff,hsl.len sl75,min_ii,hmin,hw,hs.len sl75]
 refine loop (fun m fr hh => ∃(i:Nat) (out:Value) (l':List (Nat×Nat)),i+m=M∧l'.length=i∧(∀p∈l',isShort p)∧Ext h hh∧Acc hh h.n 16 out l'.length (shL l')∧(l' = []→out=.slice none 0 0)∧fget fr 3=some out∧fget fr 10=some w∧fget fr 11=some (KN M)∧fget fr 12=some (KN i)) M
  ⟨0,.slice none 0 0,[],by omega,rfl,(fun p hp=>by cases hp),Ext.refl _,Acc.nil _ _ (by omega),fun _=>rfl,by simp,by simp,by simp,by simp⟩ ?_
 rintro m fr hh ⟨i,out,l',him,hil,hlt,hE,hA,hO,f3,f10,f11,f12⟩
 have hnn:=hE.n
 simp -dsimp (maxSteps:=1000000) (disch:=try exact dx) only[wpS,f11,f12]
 refine bq_intro ?_ ?_<;>intro hc<;>simp only[decide_eq_true_eq,decide_eq_false_iff_not] at hc
 ·have hi:i<M:=by omega
  have hld:=hs.ldAgg hE.keep (c:=i*6) (m:=6) (by rw[List.length_take];omega) (by omega) (P:=prog) (t:=81) ag81 sz81
  rw[List.drop_take,List.take_take,Nat.min_eq_left (by omega)] at hld
  obtain⟨b,x,n1,b2,x2,n2,hcs,hx,hx2,q1,q2,q3,q4⟩:=hdr i (by omega)
  rw[hcs] at hld
  obtain⟨H0,hH0⟩ : ∃H0,H0=(hh.new (.cells [.bool false,.slice none 0 0,.int .u32 0,.bool false,.slice none 0 0,.int .u32 0] 0 none)).put hh.n (.cells [.bool b,x,.int .u32 n1,.bool b2,x2,.int .u32 n2] 0 none):=⟨_,rfl⟩
  have n0:H0.n=hh.n+1:=by rw[hH0];rfl
  have k0:H0.ext.get hh.n=some (.cells [.bool b,x,.int .u32 n1,.bool b2,x2,.int .u32 n2] 0 none):=by rw[hH0];simp (disch:=try exact dx) only[get_put_same]
  have E0:Ext hh H0:=by rw[hH0];exact((Ext.refl hh).new _).put (by omega) _
  simp -dsimp (maxSteps:=1000000) (disch:=try exact dx) only[wpS,wpT,reduceEqDiff,reduceLeDiff,reduceAdd,zc81,st81,f10,f12,hs.idx es75 hi,hld,hx,hx2]
  rw[←hH0]
  clear hH0
  simp -dsimp (maxSteps:=1000000) (disch:=try exact dx) only[wpS,wpT,reduceEqDiff,reduceLeDiff,reduceAdd,ld81,f3,row_of k0]
  refine call (drshort_ok (by simpa using hx) (by simpa using hx2) q1 q2 q3 q4) ?_
  rintro _ h1 ⟨X1,a,c,ha,hc2,rfl⟩
  have m1:=X1.n
  have sp:isShort (shq (Rat.divInt a c)):=⟨a,c,ha,hc2,rfl⟩
  rw[shareV_shq]
  generalize shq (Rat.divInt a c)=p at sp ⊢
  have E1:=E0.trans X1
  obtain⟨out',h8,hap,hA8,hG8,hE8⟩:=(hA.ext E1).appN (P:=prog) (t:=82) ap82 (m:=1) (new:=shC p.1 p.2) (by omega) (by rw[shC_len]) (shC_all _ _) (by omega) (by omega) (hE.trans E1) (Nat.le_refl _)
  have hap':append prog (h1.new (.cells (shC p.1 p.2) 16 none)) 82 out (.slice (some ⟨2*h1.n,0,none⟩) 1 3)=some (out',h8):=hap
  simp -dsimp (maxSteps:=1000000) (disch:=try exact dx) only[wpS,wpT,reduceEqDiff,reduceLeDiff,reduceAdd,bs82,ba82_82,f12,shV_cells,shC_len,sh_sp3,hap']
  refine⟨m - 1,by omega,i+1,out',l' ++ [p],by omega,by simp[hil],?_,hE8,?_,by simp,by simp,by simp[f10],by simp[f11],by simp⟩
  ·intro q hq
   rcases List.mem_append.1 hq with hq|hq
   ·exact hlt q hq
   ·obtain rfl:=List.mem_singleton.1 hq
    exact sp
  ·rw[shL_snoc,List.length_append]
   exact hA8
 ·obtain rfl:i=M:=by omega
  simp -dsimp (maxSteps:=1000000) (disch:=try exact dx) only[wpS,wpT,reduceEqDiff,f3]
  refine⟨hE,l',⟨hA.sl,by omega,fun p hp=>(hlt p hp).lt⟩,by omega,hlt,hO⟩
end Go.Id

namespace Go.Id
open Go
open Nat (reduceAdd reduceEqDiff reduceLeDiff)
set_option maxHeartbeats 16000000
theorem unitS_ok {h:IH} (a c:Int) (ha:0≤a∧a<1000) (hc:0<c∧c<25):WV Proofs.Tryz.prog (.func (.func 110) #[] #[]) [wideV a,wideV c] h fun r h'=>Ext h h'∧r=shareV (Rat.divInt a c):=shortS_ok a c ⟨by omega,by omega⟩ hc
theorem drunit_ok {h:IH} {b b2:Bool} {x x2:Value} {n n2:Int} (hx:([x]:List Value).all cellOK=true) (hx2:([x2]:List Value).all cellOK=true) (h0:0≤n) (hn:n<4294967296) (g0:0≤n2) (gn:n2<4294967296) :
  WV Proofs.Tryz.prog (.func (.func 38) #[] #[]) [.agg #[.bool b,x,.int .u32 n,.bool b2,x2,.int .u32 n2]] h fun r h'=>Ext h h' ∧ ∃a c:Int,0≤a∧a≤c∧0<c∧c<25∧r=shareV (Rat.divInt a c):=by
 have hx':cellOK x=true:=by simpa using hx
 have hx2':cellOK x2=true:=by simpa using hx2
 obtain⟨H0,hH0,n0,E0,k0,k1⟩:=boxes2 h [.bool b,x,.int .u32 n,.bool b2,x2,.int .u32 n2] Z16
 refine enter (nt:=30) (rs:=[.cell 2 48]) Proofs.Tryz.func38 rfl rfl rfl (by simp) ?_
 simp -dsimp (maxSteps:=1000000) (disch:=try exact dx) only[wpS,zc48]
 rw[←hH0]
 clear hH0
 have X0:=Ext.refl H0
 have L1:load Proofs.Tryz.prog H0 79 (ptr (2*h.n) 3)=some (.agg #[.bool b2,x2,.int .u32 n2]):=by
  have r:=row_of k0
  simp -dsimp (maxSteps:=1000000) (disch:=try exact dx) only[wpS,wpT,reduceLeDiff,reduceAdd,ld79,r]
  rfl
 refine drawn [(4,[2])] (by kernel_rfl) (by kernel_rfl) rfl ?_
 simp -dsimp (maxSteps:=1000000) (disch:=try exact dx) only[wpS,wpT,reduceEqDiff,reduceLeDiff,reduceAdd,fa81_0,ld79,row_of k0]
 refine call (drsmall_ok hx h0 hn) ?_
 rintro _ h1 ⟨X1,y,rfl,y0,y1⟩
 have m1:=X1.n
 have kx:=X1.kept (by omega) k0
 simp -dsimp (maxSteps:=1000000) (disch:=try exact dx) only[wpS,wpT,reduceEqDiff,reduceLeDiff,reduceAdd,ld79,fa81_1,row_of kx]
 refine call (drsmall_ok hx2 g0 gn) ?_
 rintro _ h2 ⟨X2,z,rfl,z0,z1⟩
 have m2:=X2.n
 have X12:=X1.trans X2
 simp -dsimp (maxSteps:=1000000) (disch:=try exact dx) only[wpS,reduceEqDiff]
 refine⟨by repeat' first|refine wpSteady_c2 ?_ ?_|refine wpSteady_t2 ?_ ?_|exact wpSteady_one rfl rfl rfl rfl (steady_ext (H0:=H0) rfl (by omega) (by assumption) (by assumption) (by with_reducible assumption)),?_⟩
 have cy:y<0∨0≤y:=by omega
 have cz:z<0∨0≤z:=by omega
 rcases cy with hy|hy
 ·rcases cz with hz|hz
  ·obtain⟨w,hw⟩ : ∃w,w = -y:=⟨_,rfl⟩
   obtain⟨u,hu⟩ : ∃u,u = -z:=⟨_,rfl⟩
   have c1:decide (y<0)=true:=decide_eq_true hy
   have c2:decide (z<0)=true:=decide_eq_true hz
   have m0:0≤u % 24∧u % 24<24:=by omega
   have r0:0≤w % (2+u % 24):=Int.emod_nonneg _ (by omega)
   have r1:w % (2+u % 24)<2+u % 24:=Int.emod_lt_of_pos _ (by omega)
   simp -dsimp (maxSteps:=1000000) (disch:=try exact dx) only[wpS,wpT,reduceEqDiff,reduceAdd,c1,c2,←hw,←hu]
   refine call (refOf_ok (w % (2+u % 24)) ⟨by omega,by omega⟩) ?_
   rintro _ h3 ⟨X3,rfl⟩
   have m3:=X3.n
   simp -dsimp (maxSteps:=1000000) (disch:=try exact dx) only[wpS,reduceEqDiff]
   refine call (refOf_ok (1+u % 24) ⟨by omega,by omega⟩) ?_
   rintro _ h4 ⟨X4,rfl⟩
   have m4:=X4.n
   simp -dsimp (maxSteps:=1000000) (disch:=try exact dx) only[wpS,reduceEqDiff]
   refine call (unitS_ok (w % (2+u % 24)) (1+u % 24) ⟨r0,by omega⟩ ⟨by omega,by omega⟩) ?_
   rintro _ h5 ⟨X5,rfl⟩
   have m5:=X5.n
   have XX:=(((X1.trans X2).trans X3).trans X4).trans X5
   have k2:=XX.kept (by omega) k1
   simp -dsimp (maxSteps:=1000000) (disch:=try exact dx) only[wpS,wpT,reduceEqDiff,reduceLeDiff,reduceAdd,st48,ld48,k2,shV_cells,shC_len,shC_all,sh_sp3,sh_take]
   exact⟨(E0.trans XX).put (by omega) _,_,_,r0,by omega,by omega,by omega,rfl⟩
  ·obtain⟨w,hw⟩ : ∃w,w = -y:=⟨_,rfl⟩
   obtain⟨u,hu⟩ : ∃u,u=z:=⟨_,rfl⟩
   have c1:decide (y<0)=true:=decide_eq_true hy
   have c2:decide (z<0)=false:=decide_eq_false (by omega)
   have m0:0≤u % 24∧u % 24<24:=by omega
   have r0:0≤w % (2+u % 24):=Int.emod_nonneg _ (by omega)
   have r1:w % (2+u % 24)<2+u % 24:=Int.emod_lt_of_pos _ (by omega)
   simp -dsimp (maxSteps:=1000000) (disch:=try exact dx) only[wpS,wpT,reduceEqDiff,reduceAdd,c1,←hw,←hu]
   refine call (refOf_ok (w % (2+u % 24)) ⟨by omega,by omega⟩) ?_
   rintro _ h3 ⟨X3,rfl⟩
   have m3:=X3.n
   simp -dsimp (maxSteps:=1000000) (disch:=try exact dx) only[wpS,reduceEqDiff]
   refine call (refOf_ok (1+u % 24) ⟨by omega,by omega⟩) ?_
   rintro _ h4 ⟨X4,rfl⟩
   have m4:=X4.n
   simp -dsimp (maxSteps:=1000000) (disch:=try exact dx) only[wpS,reduceEqDiff]
   refine call (unitS_ok (w % (2+u % 24)) (1+u % 24) ⟨r0,by omega⟩ ⟨by omega,by omega⟩) ?_
   rintro _ h5 ⟨X5,rfl⟩
   have m5:=X5.n
   have XX:=(((X1.trans X2).trans X3).trans X4).trans X5
   have k2:=XX.kept (by omega) k1
   simp -dsimp (maxSteps:=1000000) (disch:=try exact dx) only[wpS,wpT,reduceEqDiff,reduceLeDiff,reduceAdd,st48,ld48,k2,shV_cells,shC_len,shC_all,sh_sp3,sh_take]
   exact⟨(E0.trans XX).put (by omega) _,_,_,r0,by omega,by omega,by omega,rfl⟩
 ·rcases cz with hz|hz
  ·obtain⟨w,hw⟩ : ∃w,w=y:=⟨_,rfl⟩
   obtain⟨u,hu⟩ : ∃u,u = -z:=⟨_,rfl⟩
   have c1:decide (y<0)=false:=decide_eq_false (by omega)
   have c2:decide (z<0)=true:=decide_eq_true hz
   have m0:0≤u % 24∧u % 24<24:=by omega
   have r0:0≤w % (2+u % 24):=Int.emod_nonneg _ (by omega)
   have r1:w % (2+u % 24)<2+u % 24:=Int.emod_lt_of_pos _ (by omega)
   simp -dsimp (maxSteps:=1000000) (disch:=try exact dx) only[wpS,wpT,reduceEqDiff,reduceAdd,c2,←hw,←hu]
   refine call (refOf_ok (w % (2+u % 24)) ⟨by omega,by omega⟩) ?_
   rintro _ h3 ⟨X3,rfl⟩
   have m3:=X3.n
   simp -dsimp (maxSteps:=1000000) (disch:=try exact dx) only[wpS,reduceEqDiff]
   refine call (refOf_ok (1+u % 24) ⟨by omega,by omega⟩) ?_
   rintro _ h4 ⟨X4,rfl⟩
   have m4:=X4.n
   simp -dsimp (maxSteps:=1000000) (disch:=try exact dx) only[wpS,reduceEqDiff]
   refine call (unitS_ok (w % (2+u % 24)) (1+u % 24) ⟨r0,by omega⟩ ⟨by omega,by omega⟩) ?_
   rintro _ h5 ⟨X5,rfl⟩
   have m5:=X5.n
   have XX:=(((X1.trans X2).trans X3).trans X4).trans X5
   have k2:=XX.kept (by omega) k1
   simp -dsimp (maxSteps:=1000000) (disch:=try exact dx) only[wpS,wpT,reduceEqDiff,reduceLeDiff,reduceAdd,st48,ld48,k2,shV_cells,shC_len,shC_all,sh_sp3,sh_take]
   exact⟨(E0.trans XX).put (by omega) _,_,_,r0,by omega,by omega,by omega,rfl⟩
  ·obtain⟨w,hw⟩ : ∃w,w=y:=⟨_,rfl⟩
   obtain⟨u,hu⟩ : ∃u,u=z:=⟨_,rfl⟩
   have c1:decide (y<0)=false:=decide_eq_false (by omega)
   have c2:decide (z<0)=false:=decide_eq_false (by omega)
   have m0:0≤u % 24∧u % 24<24:=by omega
   have r0:0≤w % (2+u % 24):=Int.emod_nonneg _ (by omega)
   have r1:w % (2+u % 24)<2+u % 24:=Int.emod_lt_of_pos _ (by omega)
   simp -dsimp (maxSteps:=1000000) (disch:=try exact dx) only[wpS,wpT,reduceEqDiff,reduceAdd,←hw,←hu]
   refine call (refOf_ok (w % (2+u % 24)) ⟨by omega,by omega⟩) ?_
   rintro _ h3 ⟨X3,rfl⟩
   have m3:=X3.n
   simp -dsimp (maxSteps:=1000000) (disch:=try exact dx) only[wpS,reduceEqDiff]
   refine call (refOf_ok (1+u % 24) ⟨by omega,by omega⟩) ?_
   rintro _ h4 ⟨X4,rfl⟩
   have m4:=X4.n
   simp -dsimp (maxSteps:=1000000) (disch:=try exact dx) only[wpS,reduceEqDiff]
   refine call (unitS_ok (w % (2+u % 24)) (1+u % 24) ⟨r0,by omega⟩ ⟨by omega,by omega⟩) ?_
   rintro _ h5 ⟨X5,rfl⟩
   have m5:=X5.n
   have XX:=(((X1.trans X2).trans X3).trans X4).trans X5
   have k2:=XX.kept (by omega) k1
   simp -dsimp (maxSteps:=1000000) (disch:=try exact dx) only[wpS,wpT,reduceEqDiff,reduceLeDiff,reduceAdd,st48,ld48,k2,shV_cells,shC_len,shC_all,sh_sp3,sh_take]
   exact⟨(E0.trans XX).put (by omega) _,_,_,r0,by omega,by omega,by omega,rfl⟩
end Go.Id

namespace Go.Id
open Go
end Go.Id

namespace Go.Id
end Go.Id

namespace Go.Id
open Go
end Go.Id

namespace Go.Id
open Go
end Go.Id

namespace Go.Id
open Go
end Go.Id

namespace Go.Id
open Go
def ShLs (h:IH) (v:Value) (ll:List (List (Nat×Nat))):Prop:=∃vs:List Value,SlOf h 1 v ll.length vs∧ll.length<1152921504606846976 ∧ ∀(i:Nat) (x:List (Nat×Nat)),ll[i]?=some x → ∃w,vs[i]?=some w∧ShSl h w x
theorem ShLs.keep {h h':IH} {v:Value} {ll:List (List (Nat×Nat))} (s:ShLs h v ll) (e:Keep h h'):ShLs h' v ll:=by
 obtain⟨vs,a,b,c⟩:=s
 refine⟨vs,a.keep e,b,fun i x hx=>?_⟩
 obtain⟨w,h1,h2⟩:=c i x hx
 exact⟨w,h1,h2.keep e⟩
theorem ShLs.at {h h':IH} {v:Value} {ll:List (List (Nat×Nat))} (s:ShLs h v ll) (e:Keep h h') {i:Nat} {x:List (Nat×Nat)} (hx:ll[i]?=some x) :
  ∃w,load Proofs.Tryz.prog h' 82 (elemAddr v i)=some w∧ShSl h' w x ∧ ∀k:IntKind,indexAddr Proofs.Tryz.prog 54 v (.int k (i:Int))=some (elemAddr v i):=by
 obtain⟨vs,a,b,c⟩:=s
 obtain⟨w,h1,h2⟩:=c i x hx
 have hi:=(List.getElem?_eq_some_iff.1 hx).1
 refine⟨w,?_,h2.keep e,fun k=>by rw[a.idx es54 hi,Nat.mul_one]⟩
 rw[a.ld e (by rw[a.2.1];omega) ag82]
 exact h1
end Go.Id

namespace Go.Id
open Go
end Go.Id

namespace Go.Id
open Go
def Follows (P:Program) (f:FuncId) (nt:Nat) (run:Fr→IH→Out) (c:Code):Prop :=
 (∀fr h e fr' h',run fr h=some (e,fr',h')→h.n≤h'.n) ∧ ∀(b:Frame) (z B:Nat) (w0:World) (cs:List Frame),b.fn=f→SimCode (E0 P) run b none B w0 z nt cs c
theorem follows_code {E:Env} (S:Sound E) (n:Nat) (f:FuncId) (nt:Nat) (c:Code):Follows E.P f nt (evC E (callV E n) f nt none n c) c:=by
 refine⟨fun fr h e fr' h' hr=>evC_n (callV_mono S n) _ _ _ _ _ _ hr,fun b z B w0 cs hb=>?_⟩
 subst hb
 exact sim_code (E:=E) (callV_sim S n) (callV_mono S n) S.mixed n c
def seqR (ra rb:Fr→IH→Out):Fr→IH→Out:=fun fr h=>match ra fr h with
 | some (.normal,fr,h)=>rb fr h
 | o=>o
theorem follows_seq {P:Program} {f:FuncId} {nt:Nat} {ra rb:Fr→IH→Out} {x y:Code} (hx:Follows P f nt ra x) (hy:Follows P f nt rb y):Follows P f nt (seqR ra rb) (.seq x y):=by
 refine⟨fun fr h e fr' h' hr=>?_,fun b z B w0 cs hb=>?_⟩
 ·unfold seqR at hr
  split at hr
  ·rename_i hx1
   exact Nat.le_trans (hx.1 _ _ _ _ _ hx1) (hy.1 _ _ _ _ _ hr)
  ·exact hx.1 _ _ _ _ _ hr
 ·intro fr h e fr' h' hr m w tmps k ds R hf ht hfr hfo hd hz
  unfold seqR at hr
  split at hr
  ·rename_i fr1 h1 hx1
   have n1:=hx.1 _ _ _ _ _ hx1
   have n2:=hy.1 _ _ _ _ _ hr
   obtain⟨m1,w1,tmps1,ds1,k1,a1,a2,a3,a4,a5,a6,a7⟩:=hx.2 b z B w0 cs hb fr h .normal fr1 h1 hx1 m w tmps (.code y :: k) ds R hf ht (hfr.sub (Nat.le_refl _) n2) hfo hd hz
   obtain rfl:k1=_:=a2
   refine .first (.head st_seq a1) (.step a6 ?_)
   exact hy.2 b z B w0 cs hb fr1 h1 e fr' h' hr m1 w1 tmps1 k ds1 a5 a3 a4 (a6.fresh hfr) (hfo.mono a6.le) a7 (Nat.le_trans hz a6.size)
  ·rename_i hne
   cases e with
   | normal=>exact absurd hr (hne _ _)
   | exit i=>exact .first (.one st_seq) ((hx.2 b z B w0 cs hb fr h _ _ _ hr m w tmps (.code y :: k) ds R hf ht hfr hfo hd hz).out (by simp) (fun i _=>rfl))
   | ret=>exact .first (.one st_seq) ((hx.2 b z B w0 cs hb fr h _ _ _ hr m w tmps (.code y :: k) ds R hf ht hfr hfo hd hz).out (by simp) (fun i hi=>by cases hi))
theorem follows_calls {P:Program} {f:FuncId} {fn:Func} {c:Code} {run:Fr→IH→Out} (hfn:P.funcs[f]?=some fn) (hc:fn.body=some c) (F:Follows P f fn.ntmps run c) {args:List Value} {h h1:IH} {e:IExit} {fr1:Fr} {vs:List Value}
  (hlen':args.length≤fn.ntmps) (hx:run (enterFr 0 args) h=some (e,fr1,h1)) (hne : ∀i,e≠.exit i) (hvs:resultsOf P fr1 h1 fn.results.toList=some vs)
  {B:Nat} {w0:World} {m:Mp} {w:World} {args':Array Value} (R:Rel B w0 m h w) (hargs:LRel m args args'.toList) (hfr:Fresh m h.n h1.n):CallsTo P f args' B w0 m h w (single vs) h1:=by
 have hsz:args'.size=args.length:=by rw[hargs.1];simp
 intro cs
 let b:Frame:={ fn:=f,tmps:=#[],todo:=[],defers:=[],mode:=.run,kind:=.normal,roundOf:=none }
 let tmps:Array Value:=args' ++ Array.replicate (fn.ntmps - args'.size) undef
 have hen:Frame.enter P f args' .normal=on b tmps [.code c] []:=by
  simp[Frame.enter,hfn,hc,on,b,tmps]
 have htmps:FrRel m (enterFr 0 args) tmps:=by
  intro t u hu
  rw[fget_enterFr] at hu
  simp only[Nat.zero_le,if_true,Nat.sub_zero] at hu
  obtain⟨u',h2,h3⟩:=hargs.get hu
  have h4:args'[t]?=some u':=by simpa using h2
  refine⟨u',?_,h3⟩
  have:=(Array.getElem?_eq_some_iff.1 h4).1
  rw[Array.getElem?_append_left this,h4]
 have htsz:fn.ntmps≤tmps.size:=by simp[tmps];omega
 obtain⟨m1,w1,tmps1,ds1,k1,a1,a2,a3,a4,a5,a6,a7⟩:=F.2 b w.heap.size B w0 cs rfl _ _ _ _ _ hx m w tmps [] [] R htmps htsz hfr (.inl ⟨rfl,rfl⟩) (DefOK.nil _ _ _ _) (Nat.le_refl _)
 obtain⟨rs,d1,d2,d3⟩:=a7
 have hleave : ∃todo,step P (lone (on b tmps1 k1 ds1) cs w1)=.next (lone { on b tmps1 todo ds1 with mode:=.returning } cs w1):=by
  cases e with
  | normal=>obtain rfl:k1=_:=a2;exact⟨_,stepR_end (b:=b) (a:=⟨tmps1,ds1⟩) rfl⟩
  | exit i=>exact absurd rfl (hne i)
  | ret=>obtain⟨k2,rfl⟩:=a2;exact⟨_,stepR_ret (b:=b) (a:=⟨tmps1,ds1⟩) rfl⟩
 obtain⟨todo,hleave⟩:=hleave
 obtain⟨w2,b1,b2,b3,b4⟩:=unwind_marks (P:=P) R.size rs { on b tmps1 todo ds1 with mode:=.returning } cs w1 rfl d1 d2 d3 a5
 obtain⟨v',r1,r2⟩:=results_run b2 a3 hvs
 refine⟨.returned v',w2,{ on b tmps1 todo ds1 with mode:=.returning,defers:=[] },⟨v',m1,rfl,r2,b2,?_⟩,?_,?_,?_⟩
 ·refine⟨a6.le,a6.new,a6.n,a6.base,fun r hr hk=>?_,a6.idle,by rw[b3];exact a6.size,a6.img,a6.idleF⟩
  rw[b4 r (fun hm=>by have:=(d3 r hm).1;omega)]
  exact a6.frame r hr hk
 ·exact(by rw[hen];exact a1.trans (.head hleave b1):Steps P (lone (Frame.enter P f args' .normal) cs w) _)
 ·rfl
 ·exact⟨rfl,rfl,rfl,fn,hfn,r1⟩
end Go.Id

namespace Go.Id
open Go Go.RowKit
def partAt:Code→Nat→Code
 | .seq a _,0=>a
 | .seq _ b,n+1=>partAt b n
 | c,_=>c
def restAt:Code→Nat→Code
 | c,0=>c
 | .seq _ b,n+1=>restAt b n
 | c,_=>c
theorem parts_true {P:Program} {tb:FuncId→Option (List Value→Option Value)} (S0:Sound (E0 P)) (S1:Sound (E1 P tb)) {f:FuncId} {fn:Func} {a b rest:Code} {rs:List ResultVar} {nt:Nat} (hfn:P.funcs[f]?=some fn) (hc:fn.body=some (.seq a (.seq b rest))) (hrs:fn.results.toList=rs) (hnt:fn.ntmps=nt)
  {args:List Value} {base:Nat→Option (List Value)} {A:Nat→Nat×Nat} (hlen:args.length≤nt) {fra fr1:Fr} {ha h1:IH} {n:Nat}
  (ea:evC (E1 P tb) (callV (E1 P tb) n) f nt none n a (enterFr 0 args) (IH.start base)=some (.normal,fra,ha))
  (eb:evC (E1 P tb) (callV (E1 P tb) n) f nt none n b fra ha=some (.normal,fr1,h1))
  (w:Do (wpC P f nt none rest fr1 h1) (retK P rs fun r _=>r=.bool true) nx)
  {W:World} {args':Array Value} (hb:BaseOK A base W) (hargs:LRel (Mp.startOf A) args args'.toList):Calls P f args' W fun e W'=>e=.returned (.bool true)∧Below W.heap.size W W':=by
 subst hrs hnt
 obtain⟨⟨e,fr2,h2⟩,⟨N,hN⟩,hq⟩:=wpC_sound w
 have hn:=hN N (Nat.le_refl _)
 have key : ∀(K:Prop),retK P fn.results.toList (fun r _=>r=.bool true) e fr2 h2→(∀vs,(∀i,e≠.exit i)→resultsOf P fr2 h2 fn.results.toList=some vs→single vs=.bool true→K)→K:=by
  intro K hr k
  cases e with
  | exit i=>exact hr.elim
  | normal=>obtain⟨l,h3,h4⟩:=(hr:Ex _ _);exact k l (fun i h=>by cases h) h3 h4
  | ret=>obtain⟨l,h3,h4⟩:=(hr:Ex _ _);exact k l (fun i h=>by cases h) h3 h4
 refine key _ hq fun vs hne hvs hs=>?_
 have F:=follows_seq (follows_code S1 n f fn.ntmps a) (follows_seq (follows_code S1 n f fn.ntmps b) (follows_code S0 N f fn.ntmps rest))
 have hx:seqR (evC (E1 P tb) (callV (E1 P tb) n) f fn.ntmps none n a) (seqR (evC (E1 P tb) (callV (E1 P tb) n) f fn.ntmps none n b) (evC (E0 P) (callV (E0 P) N) f fn.ntmps none N rest)) (enterFr 0 args) (IH.start base)=some (e,fr2,h2):=by
  unfold seqR
  rw[ea]
  show(match evC (E1 P tb) (callV (E1 P tb) n) f fn.ntmps none n b fra ha with|some (.normal,fr,h)=>_|o=>o)=_
  rw[eb]
  exact hn
 refine(follows_calls hfn hc F hlen hx hne hvs (Rel.start hb) hargs (fun k _ _=>Mp.startOf_even A k)).mono fun e w' ⟨v',m',he,hv,R,_⟩=>?_
 rw[hs] at hv
 rw[he,hv.scal_eq rfl]
 exact⟨rfl,R.below⟩
end Go.Id

namespace Go.Id
open Go
noncomputable def tb38:FuncId→Option (List Value→Option Value):=tbOf [(28,okT)]
noncomputable abbrev bodyOl:Code:=Proofs.Tryz.f9.body.getD .skip
structure LX (h hh:IH) (fr:Fr) (a b:Nat) (mid:Bool) (at_ long:Int):Prop where
 e:Ext h hh
 f4:fget fr 4=some (.bool mid)
 f5:fget fr 5=some (KI at_)
 f6:fget fr 6=some (.int .u16 long)
 f9:fget fr 9=some (ptr (2*a) 0)
 f10:fget fr 10=some (ptr (2*b) 0)
section
variable {h hh:IH} {fr:Fr} {Q:IExit→Fr→IH→Prop} {v w:Value} {nd a b:Nat} {mid:Bool} {at_ long:Int} {l0:List (Nat×Nat)}
end
end Go.Id

namespace Go.Id
open Go
end Go.Id

namespace Go.Id
open Go
open Go.Proofs.Tryz (prog)
open Nat (reduceAdd reduceEqDiff reduceLeDiff)
theorem olq_ok {h:IH} (n d:Int) (hn:In64 n) (hd:In64 d) (d0:d≠0):WV prog (.func (.func 37) #[] #[]) [KI n,KI d] h fun r h'=>Ext h h'∧r=shareV (Rat.divInt n d):=by
 refine enter (nt:=14) (rs:=[.cell 4 48]) Proofs.Tryz.func37 rfl rfl rfl (by simp) ?_
 simp -dsimp (maxSteps:=1000000) (disch:=try exact dx) only[wpS,reduceEqDiff,reduceAdd,zc48]
 have E1:Ext h (h.new (.cells Z16 0 none)):=(Ext.refl h).new _
 have g1:(h.new (.cells Z16 0 none)).ext.get h.n=some (.cells Z16 0 none):=by simp (disch:=try exact dx) only[get_new_same]
 refine call (shof_ok n d hn hd d0) ?_
 rintro _ h1 ⟨X1,rfl⟩
 have m1:=X1.n
 simp only[new_n] at m1
 have k1:=X1.kept (by simp) g1
 simp -dsimp (maxSteps:=1000000) (disch:=try exact dx) only[wpS,wpT,reduceEqDiff,reduceLeDiff,reduceAdd,zc48,st48,ld48,k1,shV_cells,shC_len,shC_all,sh_sp3,sh_take]
 exact⟨(((E1.trans X1).new _).put (by omega) _).put (by omega) _,rfl⟩
theorem olfails_ok {h:IH} (e:Int):WV prog (.func (.func 34) #[] #[]) [KI e] h fun r h'=>r=.func (.func 102) #[] #[ptr (2*h.n) 0]∧h'=h.new (.cells [KI e] 0 none):=by
 refine enter (nt:=4) (rs:=[.tmp 2]) Proofs.Tryz.func34 rfl rfl rfl (by simp) ?_
 simp -dsimp (maxSteps:=1000000) (disch:=try exact dx) only[wpS,wpT,reduceEqDiff]
theorem olfails1_ok {h:IH} {n d b:Nat} {e e':Int} (h1:n<W8) (h2:d<W8) (hb:b<h.n) (g:h.ext.get b=some (.cells [KI e'] 0 none)) :
  WV prog (.func (.func 102) #[] #[ptr (2*b) 0]) [shV n d,KI e] h fun r h'=>Ext h h'∧r=.bool (decide ((n=0∧d=0)∧e=e')):=by
 have hz:(.agg (shC 0 0).toArray:Value)=.agg #[.int .u64 0,.int .u64 0,.int .u64 0,.int .u64 0,.int .u64 0,.int .u64 0,.int .u64 0,.int .u64 0,.int .u64 0,.int .u64 0,.int .u64 0,.int .u64 0,.int .u64 0,.int .u64 0,.int .u64 0,.int .u64 0]:=by kernel_rfl
 have hne : ∀ox oy,binop prog .eql 48 ox oy (.agg (shC n d).toArray) (.agg #[.int .u64 0,.int .u64 0,.int .u64 0,.int .u64 0,.int .u64 0,.int .u64 0,.int .u64 0,.int .u64 0,.int .u64 0,.int .u64 0,.int .u64 0,.int .u64 0,.int .u64 0,.int .u64 0,.int .u64 0,.int .u64 0])=some (.bool (decide (n=0∧d=0))):=fun ox oy=>by
  rw[←hz]
  exact sh_eql h1 h2 (by decide +kernel) (by decide +kernel) ox oy
 have E1:Ext h (h.new (.cells (shC n d) 0 none)):=(Ext.refl h).new _
 refine enter (nt:=14) (rs:=[.tmp 5]) Proofs.Tryz.func102 rfl rfl rfl (by simp) ?_
 have k:=E1.kept hb g
 by_cases hd:n=0∧d=0
 ·rw[decide_eq_true hd] at hne
  by_cases he:e=e'
  ·have c:(e == e')=true:=by simpa using he
   simp -dsimp (maxSteps:=1000000) (disch:=try exact dx) only[wpS,wpT,reduceEqDiff,reduceLeDiff,reduceAdd,ld48,bv48,ld33,shV_cells,shC_len,sh_take,row_of k,hne,c]
   exact⟨E1,by simp[hd,he]⟩
  ·have c:(e == e')=false:=by simpa using he
   simp -dsimp (maxSteps:=1000000) (disch:=try exact dx) only[wpS,wpT,reduceEqDiff,reduceLeDiff,reduceAdd,ld48,bv48,ld33,shV_cells,shC_len,sh_take,row_of k,hne,c]
   exact⟨E1,by simp[he]⟩
 ·rw[decide_eq_false hd] at hne
  simp -dsimp (maxSteps:=1000000) (disch:=try exact dx) only[wpS,wpT,reduceEqDiff,reduceLeDiff,reduceAdd,ld48,bv48,shV_cells,shC_len,sh_take,hne]
  exact⟨E1,by simp[hd]⟩
theorem says_ok {h:IH} (w:Bool):WV prog (.func (.func 41) #[] #[]) [.bool w] h fun r h'=>r=.func (.func 119) #[] #[ptr (2*h.n) 0]∧h'=h.new (.cells [.bool w] 0 none):=by
 refine enter (nt:=4) (rs:=[.tmp 2]) Proofs.Tryz.func41 rfl rfl rfl (by simp) ?_
 simp -dsimp (maxSteps:=1000000) (disch:=try exact dx) only[wpS,wpT,reduceEqDiff]
theorem stops_ok {h:IH} (e:Int):WV prog (.func (.func 39) #[] #[]) [KI e] h fun r h'=>r=.func (.func 111) #[] #[ptr (2*h.n) 0]∧h'=h.new (.cells [KI e] 0 none):=by
 refine enter (nt:=4) (rs:=[.tmp 2]) Proofs.Tryz.func39 rfl rfl rfl (by simp) ?_
 simp -dsimp (maxSteps:=1000000) (disch:=try exact dx) only[wpS,wpT,reduceEqDiff]
theorem says1_ok {h:IH} {w:Bool} {b:Nat} (hb:b<h.n) (g:h.ext.get b=some (.cells [.bool w] 0 none)) :
  WV prog (.func (.func 119) #[] #[ptr (2*b) 0]) [.bool w,KI 0] h fun r h'=>h'=h∧r=.bool true:=by
 have e1:(w == w)=true:=by simp
 refine enter (nt:=13) (rs:=[.tmp 5]) Proofs.Tryz.func119 rfl rfl rfl (by simp) ?_
 simp -dsimp (maxSteps:=1000000) (disch:=try exact dx) only[wpS,wpT,reduceEqDiff,reduceAdd,ld4,be4,row_of g,e1]
theorem stops1_ok {h:IH} {e:Int} {b:Nat} (hb:b<h.n) (g:h.ext.get b=some (.cells [KI e] 0 none)) :
  WV prog (.func (.func 111) #[] #[ptr (2*b) 0]) [.bool false,KI e] h fun r h'=>h'=h∧r=.bool true:=by
 have e1:(e == e)=true:=by simp
 refine enter (nt:=13) (rs:=[.tmp 5]) Proofs.Tryz.func111 rfl rfl rfl (by simp) ?_
 simp -dsimp (maxSteps:=1000000) (disch:=try exact dx) only[wpS,wpT,reduceEqDiff,reduceAdd,ld33,row_of g,e1]
end Go.Id

namespace Go.Id
open Go
theorem short_fine {p:Nat×Nat} (h:isShort p):(p.1<W8∧p.2<W8)∧okS p.1 p.2:=by
 refine⟨h.lt,?_⟩
 obtain⟨a,c,ha,hc,rfl⟩:=h
 exact(shq_rOf (qw_div (n:=a) (d:=c) ⟨by omega,by omega⟩ ⟨by omega,by omega⟩ (by omega))).2
theorem shorts_ch {l:List (Nat×Nat)} (h : ∀p∈l,isShort p) (h0:l ≠ []) (hl:l.length≤12):chErr l=0:=by
 have l0:0<l.length:=List.length_pos_iff.2 h0
 unfold chErr
 rw[if_neg (by omega),if_neg (fun hn=>hn fun p hp=>(short_fine (h p hp)).2),if_neg (by omega)]
theorem shorts_place {l:List (Nat×Nat)} (h : ∀p∈l,isShort p) (hl:l.length≤12) {k:Nat} (hk:k<l.length):placeErr l (k:Int)=0:=by
 unfold placeErr
 rw[if_pos (shorts_ch h (fun e=>by rw[e] at hk;simp at hk) hl),if_neg (by omega)]
theorem extR_div (l:List (Nat×Nat)) (k:Nat):extR l k=Rat.divInt ((upTo l k l.length:Nat):Int) ((l.length:Nat):Int):=by
 unfold extR
 rw[Rat.divInt_eq_div]
theorem extR_qw {l:List (Nat×Nat)} (hl:l.length≤200) (h0:0<l.length) (k:Nat):QW (extR l k):=by
 rw[extR_div]
 have:=upTo_le l k l.length
 exact qw_div ⟨by omega,by omega⟩ ⟨by omega,by omega⟩ (by omega)
theorem extRes_nil:extRes [] 0=.tuple #[shV 0 0,KI 4]:=by
 have h:placeErr [] 0=4:=by
  unfold placeErr chErr
  simp
 unfold extRes
 rw[h,if_neg (by decide)]
theorem extRes_fine {l:List (Nat×Nat)} (h : ∀p∈l,isShort p) (hl:l.length≤12) {k:Nat} (hk:k<l.length):extRes l (k:Int)=.tuple #[shV (shq (extR l k)).1 (shq (extR l k)).2,KI 0]:=by
 unfold extRes
 rw[if_pos (shorts_place h hl hk),Int.toNat_natCast,toldV_qw (extR_qw (by omega) (by omega) k)]
theorem passRes_fine {l:List (Nat×Nat)} (h : ∀p∈l,isShort p) (hl:l.length≤12) {k:Nat} (hk:k<l.length) {x:Rat} (hx:QW x) (m:Bool):passRes l (shq x) m (k:Int)=if x≤0∨1<x then .tuple #[.bool false,KI 2] else .tuple #[.bool (passB (extR l k) x m),KI 0]:=by
 obtain⟨e1,e2⟩:=shq_rOf hx
 unfold passRes
 rw[if_neg (fun hn=>hn (shorts_ch h (fun e=>by rw[e] at hk;simp at hk) hl)),if_neg (fun hn=>hn e2),e1,Int.toNat_natCast]
 by_cases c:x≤0∨1<x
 ·rw[if_pos (.inr c),if_pos c]
 ·rw[if_neg (fun hn=>hn.elim (fun h1=>h1 (shorts_place h hl hk)) c),if_neg c]
theorem extR_bounds {l:List (Nat×Nat)} (h0:0<l.length) (k:Nat):0≤extR l k∧extR l k≤1:=by
 have u:=upTo_le l k l.length
 have b0:(0:Rat)<(((l.length:Nat):Int):Rat):=by
  have:((0:Int):Rat)<(((l.length:Nat):Int):Rat):=Rat.intCast_lt_intCast.2 (by omega)
  simpa using this
 have a0:(0:Rat)≤(((upTo l k l.length:Nat):Int):Rat):=by
  have:((0:Int):Rat)≤(((upTo l k l.length:Nat):Int):Rat):=Rat.intCast_le_intCast.2 (by omega)
  simpa using this
 have ab:(((upTo l k l.length:Nat):Int):Rat)≤(((l.length:Nat):Int):Rat):=Rat.intCast_le_intCast.2 (by omega)
 unfold extR
 generalize (((upTo l k l.length:Nat):Int):Rat)=x at *
 generalize (((l.length:Nat):Int):Rat)=y at *
 have e:x / y*y=x:=Rat.div_mul_cancel (by grind)
 generalize x / y=z at *
 refine⟨Rat.not_lt.1 fun hn=>?_,Rat.not_lt.1 fun hn=>?_⟩
 ·have:=Rat.mul_pos (a:=-z) (b:=y) (by grind) b0
  grind
 ·have:=Rat.mul_pos (a:=z - 1) (b:=y) (by grind) b0
  grind
theorem pass_more {e x y:Rat} (m:Bool) (h0:0<x) (h:x≤y) (p:passB e x m=true):passB e y m=true:=by
 unfold passB at p ⊢
 cases m with
 | true=>simp at p ⊢;grind
 | false =>
  simp at p ⊢
  have:=Rat.mul_nonneg (a:=y - x) (b:=y+x) (by grind) (by grind)
  grind
theorem pass_mid {e x:Rat} (h0:0<x) (h1:x≤1) (he:0≤e) (p:passB e x false=true):passB e x true=true:=by
 unfold passB at p ⊢
 simp at p ⊢
 have:=Rat.mul_nonneg (a:=x) (b:=1 - x) (by grind) (by grind)
 grind
theorem pass_one {e:Rat} (h:e≤1):passB e 1 true=true:=by
 unfold passB
 simp
 exact h
end Go.Id

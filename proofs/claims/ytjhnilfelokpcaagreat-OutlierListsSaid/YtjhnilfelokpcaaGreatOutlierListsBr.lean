/-
  Contracts: drafts of fractions: Unit. Contracts: Go's package slices, for numbers.
-/
import Derived.Test.YtjhnilfelokpcaaGreatOutlierListsAr
import Derived.Test.YtjhnilfelokpcaaGreatOutlierListsBh
import Derived.Test.YtjhnilfelokpcaaGreatOutlierListsAu
import Init
import Derived.Test.YtjhnilfelokpcaaGreatOutlierListsBc
import Derived.Test.YtjhnilfelokpcaaGreatOutlierListsBg
import Derived.Test.YtjhnilfelokpcaaGreatOutlierListsBi
set_option linter.unusedVariables false
set_option linter.unusedSimpArgs false
set_option linter.defProp false
set_option linter.deprecated false
namespace Go.Id
open Go
open Nat (reduceAdd reduceEqDiff reduceLeDiff)
set_option maxHeartbeats 16000000
theorem unitS_ok {h:IH} (a c:Int) (ha:0≤a∧a<1000) (hc:0<c∧c<25):WV Proofs.Tryz.prog (.func (.func 110) #[] #[]) [wideV a,wideV c] h fun r h'=>Ext h h'∧r=shareV (Rat.divInt a c):=shortS_ok a c ⟨by omega,by omega⟩ hc
theorem drunit_ok {h:IH} {b b2:Bool} {x x2:Value} {n n2:Int} (hx:([x]:List Value).all cellOK=true) (hx2:([x2]:List Value).all cellOK=true) (h0:0≤n) (hn:n<4294967296) (g0:0≤n2) (gn:n2<4294967296) :
  WV Proofs.Tryz.prog (.func (.func 38) #[] #[]) [.agg #[.bool b,x,.int .u32 n,.bool b2,x2,.int .u32 n2]] h fun r h'=>Ext h h' ∧ ∃a c:Int,0≤a∧a≤c∧0<c∧c<25∧r=shareV (Rat.divInt a c):=by
 have hx':cellOK x=true:=by simpa using hx
 have hx2':cellOK x2=true:=by simpa using hx2
 obtain⟨H0,hH0,n0,E0,k0,k1⟩:=boxes2 h [.bool b,x,.int .u32 n,.bool b2,x2,.int .u32 n2] Z16
 refine enter (nt:=30) (rs:=[.cell 2 48]) Proofs.Tryz.func38 rfl rfl rfl (by simp) ?_
 simp -dsimp (maxSteps:=1000000) (disch:=try exact dx) only[wpS,zc48]
 rw[←hH0]
 clear hH0
 have X0:=Ext.refl H0
 have L1:load Proofs.Tryz.prog H0 79 (ptr (2*h.n) 3)=some (.agg #[.bool b2,x2,.int .u32 n2]):=by
  have r:=row_of k0
  simp -dsimp (maxSteps:=1000000) (disch:=try exact dx) only[wpS,wpT,reduceLeDiff,reduceAdd,ld79,r]
  rfl
 refine drawn [(4,[2])] (by kernel_rfl) (by kernel_rfl) rfl ?_
 simp -dsimp (maxSteps:=1000000) (disch:=try exact dx) only[wpS,wpT,reduceEqDiff,reduceLeDiff,reduceAdd,fa81_0,ld79,row_of k0]
 refine call (drsmall_ok hx h0 hn) ?_
 rintro _ h1 ⟨X1,y,rfl,y0,y1⟩
 have m1:=X1.n
 have kx:=X1.kept (by omega) k0
 simp -dsimp (maxSteps:=1000000) (disch:=try exact dx) only[wpS,wpT,reduceEqDiff,reduceLeDiff,reduceAdd,ld79,fa81_1,row_of kx]
 refine call (drsmall_ok hx2 g0 gn) ?_
 rintro _ h2 ⟨X2,z,rfl,z0,z1⟩
 have m2:=X2.n
 have X12:=X1.trans X2
 simp -dsimp (maxSteps:=1000000) (disch:=try exact dx) only[wpS,reduceEqDiff]
 refine⟨by repeat' first|refine wpSteady_c2 ?_ ?_|refine wpSteady_t2 ?_ ?_|exact wpSteady_one rfl rfl rfl rfl (steady_ext (H0:=H0) rfl (by omega) (by assumption) (by assumption) (by with_reducible assumption)),?_⟩
 have cy:y<0∨0≤y:=by omega
 have cz:z<0∨0≤z:=by omega
 rcases cy with hy|hy
 ·rcases cz with hz|hz
  ·obtain⟨w,hw⟩ : ∃w,w = -y:=⟨_,rfl⟩
   obtain⟨u,hu⟩ : ∃u,u = -z:=⟨_,rfl⟩
   have c1:decide (y<0)=true:=decide_eq_true hy
   have c2:decide (z<0)=true:=decide_eq_true hz
   have m0:0≤u % 24∧u % 24<24:=by omega
   have r0:0≤w % (2+u % 24):=Int.emod_nonneg _ (by omega)
   have r1:w % (2+u % 24)<2+u % 24:=Int.emod_lt_of_pos _ (by omega)
   simp -dsimp (maxSteps:=1000000) (disch:=try exact dx) only[wpS,wpT,reduceEqDiff,reduceAdd,c1,c2,←hw,←hu]
   refine call (refOf_ok (w % (2+u % 24)) ⟨by omega,by omega⟩) ?_
   rintro _ h3 ⟨X3,rfl⟩
   have m3:=X3.n
   simp -dsimp (maxSteps:=1000000) (disch:=try exact dx) only[wpS,reduceEqDiff]
   refine call (refOf_ok (1+u % 24) ⟨by omega,by omega⟩) ?_
   rintro _ h4 ⟨X4,rfl⟩
   have m4:=X4.n
   simp -dsimp (maxSteps:=1000000) (disch:=try exact dx) only[wpS,reduceEqDiff]
   refine call (unitS_ok (w % (2+u % 24)) (1+u % 24) ⟨r0,by omega⟩ ⟨by omega,by omega⟩) ?_
   rintro _ h5 ⟨X5,rfl⟩
   have m5:=X5.n
   have XX:=(((X1.trans X2).trans X3).trans X4).trans X5
   have k2:=XX.kept (by omega) k1
   simp -dsimp (maxSteps:=1000000) (disch:=try exact dx) only[wpS,wpT,reduceEqDiff,reduceLeDiff,reduceAdd,st48,ld48,k2,shV_cells,shC_len,shC_all,sh_sp3,sh_take]
   exact⟨(E0.trans XX).put (by omega) _,_,_,r0,by omega,by omega,by omega,rfl⟩
  ·obtain⟨w,hw⟩ : ∃w,w = -y:=⟨_,rfl⟩
   obtain⟨u,hu⟩ : ∃u,u=z:=⟨_,rfl⟩
   have c1:decide (y<0)=true:=decide_eq_true hy
   have c2:decide (z<0)=false:=decide_eq_false (by omega)
   have m0:0≤u % 24∧u % 24<24:=by omega
   have r0:0≤w % (2+u % 24):=Int.emod_nonneg _ (by omega)
   have r1:w % (2+u % 24)<2+u % 24:=Int.emod_lt_of_pos _ (by omega)
   simp -dsimp (maxSteps:=1000000) (disch:=try exact dx) only[wpS,wpT,reduceEqDiff,reduceAdd,c1,←hw,←hu]
   refine call (refOf_ok (w % (2+u % 24)) ⟨by omega,by omega⟩) ?_
   rintro _ h3 ⟨X3,rfl⟩
   have m3:=X3.n
   simp -dsimp (maxSteps:=1000000) (disch:=try exact dx) only[wpS,reduceEqDiff]
   refine call (refOf_ok (1+u % 24) ⟨by omega,by omega⟩) ?_
   rintro _ h4 ⟨X4,rfl⟩
   have m4:=X4.n
   simp -dsimp (maxSteps:=1000000) (disch:=try exact dx) only[wpS,reduceEqDiff]
   refine call (unitS_ok (w % (2+u % 24)) (1+u % 24) ⟨r0,by omega⟩ ⟨by omega,by omega⟩) ?_
   rintro _ h5 ⟨X5,rfl⟩
   have m5:=X5.n
   have XX:=(((X1.trans X2).trans X3).trans X4).trans X5
   have k2:=XX.kept (by omega) k1
   simp -dsimp (maxSteps:=1000000) (disch:=try exact dx) only[wpS,wpT,reduceEqDiff,reduceLeDiff,reduceAdd,st48,ld48,k2,shV_cells,shC_len,shC_all,sh_sp3,sh_take]
   exact⟨(E0.trans XX).put (by omega) _,_,_,r0,by omega,by omega,by omega,rfl⟩
 ·rcases cz with hz|hz
  ·obtain⟨w,hw⟩ : ∃w,w=y:=⟨_,rfl⟩
   obtain⟨u,hu⟩ : ∃u,u = -z:=⟨_,rfl⟩
   have c1:decide (y<0)=false:=decide_eq_false (by omega)
   have c2:decide (z<0)=true:=decide_eq_true hz
   have m0:0≤u % 24∧u % 24<24:=by omega
   have r0:0≤w % (2+u % 24):=Int.emod_nonneg _ (by omega)
   have r1:w % (2+u % 24)<2+u % 24:=Int.emod_lt_of_pos _ (by omega)
   simp -dsimp (maxSteps:=1000000) (disch:=try exact dx) only[wpS,wpT,reduceEqDiff,reduceAdd,c2,←hw,←hu]
   refine call (refOf_ok (w % (2+u % 24)) ⟨by omega,by omega⟩) ?_
   rintro _ h3 ⟨X3,rfl⟩
   have m3:=X3.n
   simp -dsimp (maxSteps:=1000000) (disch:=try exact dx) only[wpS,reduceEqDiff]
   refine call (refOf_ok (1+u % 24) ⟨by omega,by omega⟩) ?_
   rintro _ h4 ⟨X4,rfl⟩
   have m4:=X4.n
   simp -dsimp (maxSteps:=1000000) (disch:=try exact dx) only[wpS,reduceEqDiff]
   refine call (unitS_ok (w % (2+u % 24)) (1+u % 24) ⟨r0,by omega⟩ ⟨by omega,by omega⟩) ?_
   rintro _ h5 ⟨X5,rfl⟩
   have m5:=X5.n
   have XX:=(((X1.trans X2).trans X3).trans X4).trans X5
   have k2:=XX.kept (by omega) k1
   simp -dsimp (maxSteps:=1000000) (disch:=try exact dx) only[wpS,wpT,reduceEqDiff,reduceLeDiff,reduceAdd,st48,ld48,k2,shV_cells,shC_len,shC_all,sh_sp3,sh_take]
   exact⟨(E0.trans XX).put (by omega) _,_,_,r0,by omega,by omega,by omega,rfl⟩
  ·obtain⟨w,hw⟩ : ∃w,w=y:=⟨_,rfl⟩
   obtain⟨u,hu⟩ : ∃u,u=z:=⟨_,rfl⟩
   have c1:decide (y<0)=false:=decide_eq_false (by omega)
   have c2:decide (z<0)=false:=decide_eq_false (by omega)
   have m0:0≤u % 24∧u % 24<24:=by omega
   have r0:0≤w % (2+u % 24):=Int.emod_nonneg _ (by omega)
   have r1:w % (2+u % 24)<2+u % 24:=Int.emod_lt_of_pos _ (by omega)
   simp -dsimp (maxSteps:=1000000) (disch:=try exact dx) only[wpS,wpT,reduceEqDiff,reduceAdd,←hw,←hu]
   refine call (refOf_ok (w % (2+u % 24)) ⟨by omega,by omega⟩) ?_
   rintro _ h3 ⟨X3,rfl⟩
   have m3:=X3.n
   simp -dsimp (maxSteps:=1000000) (disch:=try exact dx) only[wpS,reduceEqDiff]
   refine call (refOf_ok (1+u % 24) ⟨by omega,by omega⟩) ?_
   rintro _ h4 ⟨X4,rfl⟩
   have m4:=X4.n
   simp -dsimp (maxSteps:=1000000) (disch:=try exact dx) only[wpS,reduceEqDiff]
   refine call (unitS_ok (w % (2+u % 24)) (1+u % 24) ⟨r0,by omega⟩ ⟨by omega,by omega⟩) ?_
   rintro _ h5 ⟨X5,rfl⟩
   have m5:=X5.n
   have XX:=(((X1.trans X2).trans X3).trans X4).trans X5
   have k2:=XX.kept (by omega) k1
   simp -dsimp (maxSteps:=1000000) (disch:=try exact dx) only[wpS,wpT,reduceEqDiff,reduceLeDiff,reduceAdd,st48,ld48,k2,shV_cells,shC_len,shC_all,sh_sp3,sh_take]
   exact⟨(E0.trans XX).put (by omega) _,_,_,r0,by omega,by omega,by omega,rfl⟩
end Go.Id

namespace Go.Id
open Go
end Go.Id

namespace Go.Id
end Go.Id

namespace Go.Id
open Go
theorem mul64_ok {h:IH} (a b:Nat) (ha:a<4294967296) (hb:b<4294967296):WV Proofs.Tryz.prog (.func (.func 203) #[] #[]) [K64 a,K64 b] h fun r h'=>h'=h∧r=.tuple #[K64 0,K64 (a*b)]:=by
 have hab:a*b<18446744073709551616:=by
  have:a*b≤4294967295*4294967295:=Nat.mul_le_mul (by omega) (by omega)
  omega
 have ea:a &&& 4294967295=a:=by rw[Nat.and_two_pow_sub_one_eq_mod a 32];omega
 have eb:b &&& 4294967295=b:=by rw[Nat.and_two_pow_sub_one_eq_mod b 32];omega
 have sa:nshr a 32=0:=by rw[nshr,Nat.shiftRight_eq_div_pow];omega
 have sb:nshr b 32=0:=by rw[nshr,Nat.shiftRight_eq_div_pow];omega
 have e3:nshr (nshr (a*b) 32) 32=0:=by rw[nshr,nshr,Nat.shiftRight_eq_div_pow,Nat.shiftRight_eq_div_pow];omega
 have e4:nshr (a*b) 32 &&& 4294967295=nshr (a*b) 32:=by
  rw[Nat.and_two_pow_sub_one_eq_mod _ 32,nshr,Nat.shiftRight_eq_div_pow];omega
 have e5:=nshr_le (a*b) 32
 have e6:(a:Int)*(b:Int)=((a*b:Nat):Int):=by simp
 generalize hp:a*b=p at *
 generalize hq:nshr p 32=q at *
 have e7 : ∀x:Int,(0:Int)*x=0:=fun x=>Int.zero_mul x
 have e8 : ∀x:Int,x*(0:Int)=0:=fun x=>Int.mul_zero x
 refine enter (nt:=51) (rs:=[.tmp 4,.tmp 5]) Proofs.Tryz.func203 rfl rfl rfl (by simp) ?_
 simp -dsimp (maxSteps:=1000000) (disch:=try exact dx) only[wpS,wpT,Nat.reduceEqDiff,Nat.reduceAdd,Int.reduceToNat,ea,eb,sa,sb,e6,Int.ofNat_zero,e7,e8,Int.zero_add,Int.add_zero,hq,e3,e4]
 rfl
theorem mul_ok {h:IH} (a b:Nat) (ha:a<4294967296) (hb:b<4294967296):WV Proofs.Tryz.prog (.func (.func 123) #[] #[]) [K64 a,K64 b] h fun r h'=>h'=h∧r=.tuple #[K64 0,K64 (a*b)]:=by
 refine enter (nt:=30) (rs:=[.tmp 4,.tmp 5]) Proofs.Tryz.func123 rfl rfl rfl (by simp) ?_
 simp -dsimp (maxSteps:=1000000) (disch:=try exact dx) only[wpS,Nat.reduceEqDiff,Nat.reduceAdd]
 refine call (mul64_ok a b ha hb) ?_
 rintro _ _ ⟨rfl,rfl⟩
 simp -dsimp (maxSteps:=1000000) (disch:=try exact dx) only[wpS,wpT,Nat.reduceEqDiff]
end Go.Id

namespace Go.Id
open Go
open Go.Proofs.Tryz (prog)
set_option maxHeartbeats 16000000
def flS (n k:Nat) (p:Nat×Nat):List (Nat×Nat):=List.replicate k p ++ List.replicate (n - k) (0,0)
theorem flS_len {n k:Nat} (p:Nat×Nat) (h:k≤n):(shL (flS n k p)).length=n*16:=by
 rw[shL_len,flS,List.length_append,List.length_replicate,List.length_replicate,show k+(n - k)=n by omega]
theorem flS_zero (n:Nat) (p:Nat×Nat):repl n Z16=shL (flS n 0 p):=by
 unfold flS
 rw[List.replicate_zero,List.nil_append,Nat.sub_zero]
 induction n with
 | zero=>rfl
 | succ n ih=>rw[List.replicate_succ,show repl (n+1) Z16=Z16 ++ repl n Z16 from rfl,ih,sh_zero];rfl
theorem shL_app2 (a b:List (Nat×Nat)):shL (a ++ b)=shL a ++ shL b:=by simp[shL]
theorem shL_splice (A B C D:List (Nat×Nat)) (h:D.length=B.length):IH.splice (shL (A ++ (B ++ C))) (A.length*16) (shL D)=shL (A ++ (D ++ C)):=by
 unfold IH.splice
 have e1:(shL (A ++ (B ++ C))).take (A.length*16)=shL A:=by
  rw[shL_app2,List.take_append_of_le_length (by rw[shL_len];omega),List.take_of_length_le (by rw[shL_len];omega)]
 have e2:(shL (A ++ (B ++ C))).drop (A.length*16+(shL D).length)=shL C:=by
  rw[shL_len,h,←List.append_assoc,shL_app2,List.drop_append_of_le_length (by rw[shL_len,List.length_append];omega),List.drop_of_length_le (by rw[shL_len,List.length_append];omega),List.nil_append]
 rw[e1,e2,shL_app2,shL_app2]
theorem flS_splice {n k m:Nat} (p:Nat×Nat) (hm:m≤n - k):IH.splice (shL (flS n k p)) (k*16) (shL (List.replicate m p))=shL (flS n (k+m) p):=by
 have:=shL_splice (List.replicate k p) (List.replicate m (0,0)) (List.replicate (n - k - m) (0,0)) (List.replicate m p) (by simp)
 rw[List.length_replicate] at this
 unfold flS
 rw[show List.replicate (n - k) ((0,0):Nat×Nat)=List.replicate m (0,0) ++ List.replicate (n - k - m) (0,0) by rw[List.replicate_append_replicate,show m+(n - k - m)=n - k by omega],this,←List.append_assoc,List.replicate_append_replicate,show n - k - m=n - (k+m) by omega]
theorem flS_take {n k m:Nat} (p:Nat×Nat) (h:m≤k):(shL (flS n k p)).take (m*16)=shL (List.replicate m p):=by
 rw[←shL_take]
 unfold flS
 rw[List.take_append_of_le_length (by simpa using h),List.take_replicate,Nat.min_eq_left h]
theorem shrepeat_ok {h:IH} {v:Value} {p:Nat×Nat} (hs:ShSl h v [p]) (n:Nat) (hp:0<n) (hn:n≤1000) :
  WV prog (.func (.func 44) #[] #[]) [v,KN n] h fun r h'=>Ext h h'∧ShSl h' r (List.replicate n p):=by
 have e1:((1:Nat):Int)=1:=rfl
 have s0:SlOf h 16 v 1 (shL [p]):=hs.1
 refine enter (nt:=48) (rs:=[.tmp 4]) Proofs.Tryz.func44 rfl rfl rfl (by simp) ?_
 simp -dsimp (maxSteps:=1000000) (disch:=try exact dx) only[wpS,wpT,Nat.reduceEqDiff,Nat.reduceAdd,cv3_35,s0.len sl82]
 refine call (mul_ok 1 n (by omega) (by omega)) ?_
 rintro _ h1 ⟨rfl,rfl⟩
 rw[Nat.one_mul]
 have hE:Ext h1 (h1.new (.cells (shL (flS n 0 p)) 16 none)):=(Ext.refl h1).new _
 have lt:=hs.2.2
 have fin : ∀h2:IH,h1.n<h2.n→h2.ext.get h1.n=some (.cells (shL (flS n n p)) 16 none)→ShSl h2 (.slice (some ⟨2*h1.n,0,none⟩) n (2*n+1)) (List.replicate n p):=by
  intro h2 hlt hg
  have e:flS n n p=List.replicate n p:=by unfold flS;rw[Nat.sub_self,List.replicate_zero,List.append_nil]
  rw[e] at hg
  refine⟨?_,by rw[List.length_replicate];omega,fun q hq=>?_⟩
  ·rw[List.length_replicate]
   exact sl_block hg hlt (by omega) (by rw[shL_len,List.length_replicate]) (by omega) (by omega)
  ·obtain⟨_,rfl⟩:=List.mem_replicate.1 hq
   exact lt _ (by simp)
 have hcp:=copy_eq (P:=prog) u82 sz48 (h:=h1.new (.cells (shL (flS n 0 p)) 16 none)) (k:=h1.n) (o:=0) (dn:=n) (c:=2*n+1) (cs:=shL (flS n 0 p)) (e2:=16) (get_new_same _ _ rfl) (sn:=1) (ss:=shL [p]) ((s0.keep hE.keep).now) (shL_all _) (by omega) (by rw[flS_len p (by omega)];omega) #[82,82] rfl
 have hx1:IH.splice (shL (flS n 0 p)) 0 ((shL [p]).take (min 1 n*16))=shL (flS n 1 p):=by
  rw[show min 1 n=1 by omega,List.take_of_length_le (by rw[shL_len];simp)]
  have:=flS_splice (n:=n) (k:=0) (m:=1) p (by omega)
  rwa [Nat.zero_mul] at this
 rw[hx1,show((min 1 n:Nat):Int)=1 by omega] at hcp
 have hE2:Ext h1 ((h1.new (.cells (shL (flS n 0 p)) 16 none)).put h1.n (.cells (shL (flS n 1 p)) 16 none)):=((Ext.refl h1).new _).put (Nat.le_refl _) _
 have hg2:((h1.new (.cells (shL (flS n 0 p)) 16 none)).put h1.n (.cells (shL (flS n 1 p)) 16 none)).ext.get h1.n=some (.cells (shL (flS n 1 p)) 16 none):=get_put_same _ _ rfl
 have hl2:h1.n<((h1.new (.cells (shL (flS n 0 p)) 16 none)).put h1.n (.cells (shL (flS n 1 p)) 16 none)).n:=by simp
 rw[←flS_zero] at hcp hE2 hg2 hl2
 simp -dsimp (maxSteps:=1000000) (disch:=try exact dx) only[wpS,wpT,Nat.reduceEqDiff,cv35_3,ms82,hcp]
 refine loop (fun m fr h3 => ∃k:Nat,0<k∧k+m=n∧Ext h1 h3∧h1.n<h3.n∧h3.ext.get h1.n=some (.cells (shL (flS n k p)) 16 none)∧fget fr 7=some (.slice (some ⟨2*h1.n,0,none⟩) n (2*n+1))∧fget fr 8=some (KI k)) (n - 1) ⟨1,by omega,by omega,hE2,hl2,hg2,by simp,by simp⟩ ?_
 rintro m fr h3 ⟨k,hk0,hkm,hE3,hl3,hg3,f7,f8⟩
 simp -dsimp (maxSteps:=1000000) (disch:=try exact dx) only[wpS,Nat.reduceEqDiff,ln82,f7,f8]
 refine bq_intro ?_ ?_<;>intro hc2<;>simp only[decide_eq_true_eq,decide_eq_false_iff_not] at hc2
 ·have s1:=slice_odd (P:=prog) u82 sz48 h3 (b:=2*h1.n) (o:=0) (n:=n) (k:=2*n+1) (l:=k) (m:=n) (by omega) (by omega) (lo:=some (KI k)) (hi:=none) (natOf_nat (k:=.i64) (by omega)) rfl
  have s2:=slice_odd (P:=prog) u82 sz48 h3 (b:=2*h1.n) (o:=0) (n:=n) (k:=2*n+1) (l:=0) (m:=k) (by omega) (by omega) (lo:=none) (hi:=some (KI k)) rfl (natOf_nat (k:=.i64) (by omega))
  have hr:h3.row (2*h1.n)=some (shL (flS n k p)):=by rw[row_even];simp[IH.cells,hg3]
  have hno:=slNow_mk (h:=h3) (b:=2*h1.n) (o:=0+0*16) (n:=k - 0) (k:=2*n+1 - 2*0) (sz:=16) (by omega) hr (by rw[flS_len p (by omega)];omega)
  have all2:((List.drop (0+0*16) (shL (flS n k p))).take ((k - 0)*16)).all cellOK=true:=by
   rw[Nat.zero_mul,Nat.add_zero,List.drop_zero,Nat.sub_zero,flS_take p (Nat.le_refl k)];exact shL_all _
  have hc3:=copy_eq (P:=prog) u82 sz48 (h:=h3) (k:=h1.n) (o:=0+k*16) (dn:=n - k) (c:=2*n+1 - 2*k) (cs:=shL (flS n k p)) (e2:=16) hg3 hno all2 (by omega) (by rw[flS_len p (by omega)];omega) #[82,82] rfl
  have hx3:IH.splice (shL (flS n k p)) (0+k*16) (((List.drop (0+0*16) (shL (flS n k p))).take ((k - 0)*16)).take (min (k - 0) (n - k)*16))=shL (flS n (k+min k (n - k)) p):=by
   rw[Nat.zero_mul,Nat.add_zero,List.drop_zero,Nat.sub_zero,Nat.zero_add,List.take_take,Nat.min_eq_left (Nat.mul_le_mul_right 16 (Nat.min_le_left k (n - k))),flS_take p (Nat.min_le_left k (n - k))]
   exact flS_splice p (Nat.min_le_right _ _)
  rw[hx3] at hc3
  simp only[Nat.zero_add,Nat.zero_mul,Nat.mul_zero,Nat.add_zero] at hc3 s1 s2
  simp -dsimp (maxSteps:=1000000) (disch:=try exact dx) only[wpS,wpT,Nat.reduceEqDiff,f7,f8,s1,s2,hc3]
  refine⟨m - min k m,by omega,k+min k m,by omega,by omega,hE3.put (by omega) _,by simp;omega,?_,by simp[f7],?_⟩
  ·rw[show n - k=m by omega];exact get_put_same _ _ rfl
  ·rw[fget_cons,if_pos rfl];exact congrArg (fun z=>some (Value.int .i64 z)) (by omega)
 ·simp -dsimp (maxSteps:=1000000) (disch:=try exact dx) only[wpS,wpT,Nat.reduceEqDiff,f7]
  obtain rfl:k=n:=by omega
  exact⟨hE3,fin _ hl3 hg3⟩
end Go.Id

namespace Go.Id
open Go
theorem build_sh2 (n d m e:Nat):buildV Proofs.Tryz.prog 103 [(0,shV n d),(1,shV m e)]=some (.agg (shL [(n,d),(m,e)]).toArray):=by
 kernel_rfl
theorem idx_sh2a (n d m e:Nat):indexV Proofs.Tryz.prog 103 (.agg (shL [(n,d),(m,e)]).toArray) (KN 0)=some (shV n d):=by
 kernel_rfl
theorem idx_sh2b (n d m e:Nat):indexV Proofs.Tryz.prog 103 (.agg (shL [(n,d),(m,e)]).toArray) (KN 1)=some (shV m e):=by
 kernel_rfl
end Go.Id

namespace Go.Id
open Go
def ShLs (h:IH) (v:Value) (ll:List (List (Nat×Nat))):Prop:=∃vs:List Value,SlOf h 1 v ll.length vs∧ll.length<1152921504606846976 ∧ ∀(i:Nat) (x:List (Nat×Nat)),ll[i]?=some x → ∃w,vs[i]?=some w∧ShSl h w x
theorem ShLs.keep {h h':IH} {v:Value} {ll:List (List (Nat×Nat))} (s:ShLs h v ll) (e:Keep h h'):ShLs h' v ll:=by
 obtain⟨vs,a,b,c⟩:=s
 refine⟨vs,a.keep e,b,fun i x hx=>?_⟩
 obtain⟨w,h1,h2⟩:=c i x hx
 exact⟨w,h1,h2.keep e⟩
theorem ShLs.at {h h':IH} {v:Value} {ll:List (List (Nat×Nat))} (s:ShLs h v ll) (e:Keep h h') {i:Nat} {x:List (Nat×Nat)} (hx:ll[i]?=some x) :
  ∃w,load Proofs.Tryz.prog h' 82 (elemAddr v i)=some w∧ShSl h' w x ∧ ∀k:IntKind,indexAddr Proofs.Tryz.prog 54 v (.int k (i:Int))=some (elemAddr v i):=by
 obtain⟨vs,a,b,c⟩:=s
 obtain⟨w,h1,h2⟩:=c i x hx
 have hi:=(List.getElem?_eq_some_iff.1 hx).1
 refine⟨w,?_,h2.keep e,fun k=>by rw[a.idx es54 hi,Nat.mul_one]⟩
 rw[a.ld e (by rw[a.2.1];omega) ag82]
 exact h1
theorem ShLs.co {h:IH} {v:Value} {ll:List (List (Nat×Nat))} (s:ShLs h v ll):v.cells = #[v]∧cellOK v=true ∧ ∀h',lenB Proofs.Tryz.prog h' 54 v=some (.int .i64 ll.length):=by
 obtain⟨vs,a,_⟩:=s
 exact⟨a.cells,a.cok,fun h'=>a.len sl54 h'⟩
theorem ShSl.co {h:IH} {v:Value} {l:List (Nat×Nat)} (s:ShSl h v l):v.cells = #[v]∧cellOK v=true:=⟨s.1.cells,s.1.cok⟩
end Go.Id

namespace Go.Id
open Go
theorem append_full {P:Program} {t:TypeId} {sz bytes:Nat} (hT:appT P t=some (sz,bytes)) {h:IH} {b o n:Nat} {cs:List Value} (sv:SlNow h sz (.slice (some ⟨b,o,none⟩) n (2*n+1)) n cs) {x:Value} {m:Nat} {new:List Value} (sx:SlNow h sz x m new) (hm:0<m) (hn:0<n) (hc:new.all cellOK=true) (hsz:(n+m)*(bytes+1)≤1099511627776) :
  append P h t (.slice (some ⟨b,o,none⟩) n (2*n+1)) x=some (.slice (some ⟨2*h.n,0,none⟩) (n+m) (2*(n+m)),h.new (.cells (cs ++ new) sz none)):=by
 unfold appT at hT
 split at hT
 case h_2=>cases hT
 rename_i e hu
 split at hT
 case h_2=>cases hT
 rename_i zs h1 h2 h3
 simp only[cond_eq_ite] at hT
 split at hT
 case isTrue=>cases hT
 rename_i hbad
 cases hT
 have hbad':(sz == 0 || (!(Nat.ble bytes 65536) || !(zs.length == sz)))=false:=by simpa using hbad
 have first : ∀{y:Value} {k:Nat} {l:List Value},0<k→SlNow h sz y k l→firstOf h sz k y=some l∧lenOf y=some k:=by
  intro y k l hk s
  obtain⟨hz,hl,⟨rfl,rfl⟩|⟨b2,o2,k2,rfl,rfl|⟨row,a1,a2,a3⟩⟩⟩:=s
  ·omega
  ·omega
  have hms : ¬k*sz=0:=by
   have:0<k*sz:=Nat.mul_pos hk hz
   omega
  refine⟨?_,rfl⟩
  simp only[firstOf,cond_eq_ite,Nat.ble_eq,Nat.le_refl,if_true,beq_iff_eq,if_neg hms]
  rw[rd_of a1,if_pos a3,a2]
 have hmne:(m == 0)=false:=by simp;omega
 obtain⟨hfx,hlx⟩:=first hm sx
 obtain⟨hfv,_⟩:=first hn sv
 have hble:Nat.ble ((n+m)*(bytes+1)) sizeMost=true:=by rw[Nat.ble_eq];exact hsz
 have hcap:Nat.ble (n+m) ((2*n+1) / 2)=false:=by
  rw[Bool.eq_false_iff];intro hh;rw[Nat.ble_eq] at hh;omega
 have hodd:((2*n+1) % 2 == 1)=true:=by simp
 simp only[Id.append,hu,h1,h2,h3,hlx,hmne,hbad',hfx,hc,hble,hcap,hodd,hfv,cond_true,cond_false,Bool.not_true]
theorem steady_len {P:Program} {fr:Fr} {c:Call} {h h':IH} {v r:Value} {t:TypeId} (hc:c.callee=.builtin .len) (ha:opds fr c.args.toList=some [v]) (ht:c.argTypes[0]?=some t) (h1:lenB P h t v=some r) (h2:lenB P h' t v=some r):steadyAt P fr (.call c) h h'=true :=
 steadyAt_of (v:=r) (x:=h) (y:=h') (by simp[iop,hc,ha,builtin,ht,h1]) (by simp[iop,hc,ha,builtin,ht,h2])
theorem steady_slice {P:Program} {fr:Fr} {t:TypeId} {x:Operand} {lo hi:Option Operand} {h h':IH} {xv r:Value} {lov hiv:Option Value} (hx:opd fr x=some xv) (hl:optOpd fr lo=some lov) (hh:optOpd fr hi=some hiv) (h1:sliceOp P h t xv lov hiv none=some r) (h2:sliceOp P h' t xv lov hiv none=some r):steadyAt P fr (.slice t x lo hi none) h h'=true:=by
 have h0:optOpd fr none=some none:=rfl
 exact steadyAt_of (v:=r) (x:=h) (y:=h') (by simp only[iop,hx,hl,hh,h0,h1,Option.map_some]) (by simp only[iop,hx,hl,hh,h0,h2,Option.map_some])
theorem SlOf.slice_same {h h1 h2:IH} {sz:Nat} {v:Value} {n:Nat} {cs:List Value} (s:SlOf h sz v n cs) (k1:Keep h h1) (k2:Keep h h2) {P:Program} {t e:TypeId} (hu:P.underlying t=some (.slice e)) (hT:sizeT P e=some sz) {lo hi mx:Option Value}:sliceOp P h1 t v lo hi mx=sliceOp P h2 t v lo hi mx:=by
 simp only[sliceOp,hu,hT]
 obtain⟨hz,hl,⟨rfl,rfl⟩|⟨b,o,k,rfl,⟨rfl,rfl⟩|⟨a1,a2,row,a3,h3,h4⟩⟩⟩:=s
 ·rfl
 ·simp[resliced]
 ·rcases a3 with a3|⟨a4,a5,f,a6⟩
  ·simp[resliced,a3.2]
  ·obtain⟨f1,g1⟩:=k1.get (b / 2) row sz f (by omega) a6 (by omega)
   obtain⟨f2,g2⟩:=k2.get (b / 2) row sz f (by omega) a6 (by omega)
   have r1:roomy h1 sz (.slice (some ⟨b,o,none⟩) n k)=true:=by simp[roomy,a4,g1]
   have r2:roomy h2 sz (.slice (some ⟨b,o,none⟩) n k)=true:=by simp[roomy,a4,g2]
   rw[r1,r2]
end Go.Id

namespace Go.Id
open Go
def Follows (P:Program) (f:FuncId) (nt:Nat) (run:Fr→IH→Out) (c:Code):Prop :=
 (∀fr h e fr' h',run fr h=some (e,fr',h')→h.n≤h'.n) ∧ ∀(b:Frame) (z B:Nat) (w0:World) (cs:List Frame),b.fn=f→SimCode (E0 P) run b none B w0 z nt cs c
theorem follows_code {E:Env} (S:Sound E) (n:Nat) (f:FuncId) (nt:Nat) (c:Code):Follows E.P f nt (evC E (callV E n) f nt none n c) c:=by
 refine⟨fun fr h e fr' h' hr=>evC_n (callV_mono S n) _ _ _ _ _ _ hr,fun b z B w0 cs hb=>?_⟩
 subst hb
 exact sim_code (E:=E) (callV_sim S n) (callV_mono S n) S.mixed n c
def seqR (ra rb:Fr→IH→Out):Fr→IH→Out:=fun fr h=>match ra fr h with
 | some (.normal,fr,h)=>rb fr h
 | o=>o
theorem follows_seq {P:Program} {f:FuncId} {nt:Nat} {ra rb:Fr→IH→Out} {x y:Code} (hx:Follows P f nt ra x) (hy:Follows P f nt rb y):Follows P f nt (seqR ra rb) (.seq x y):=by
 refine⟨fun fr h e fr' h' hr=>?_,fun b z B w0 cs hb=>?_⟩
 ·unfold seqR at hr
  split at hr
  ·rename_i hx1
   exact Nat.le_trans (hx.1 _ _ _ _ _ hx1) (hy.1 _ _ _ _ _ hr)
  ·exact hx.1 _ _ _ _ _ hr
 ·intro fr h e fr' h' hr m w tmps k ds R hf ht hfr hfo hd hz
  unfold seqR at hr
  split at hr
  ·rename_i fr1 h1 hx1
   have n1:=hx.1 _ _ _ _ _ hx1
   have n2:=hy.1 _ _ _ _ _ hr
   obtain⟨m1,w1,tmps1,ds1,k1,a1,a2,a3,a4,a5,a6,a7⟩:=hx.2 b z B w0 cs hb fr h .normal fr1 h1 hx1 m w tmps (.code y :: k) ds R hf ht (hfr.sub (Nat.le_refl _) n2) hfo hd hz
   obtain rfl:k1=_:=a2
   refine .first (.head st_seq a1) (.step a6 ?_)
   exact hy.2 b z B w0 cs hb fr1 h1 e fr' h' hr m1 w1 tmps1 k ds1 a5 a3 a4 (a6.fresh hfr) (hfo.mono a6.le) a7 (Nat.le_trans hz a6.size)
  ·rename_i hne
   cases e with
   | normal=>exact absurd hr (hne _ _)
   | exit i=>exact .first (.one st_seq) ((hx.2 b z B w0 cs hb fr h _ _ _ hr m w tmps (.code y :: k) ds R hf ht hfr hfo hd hz).out (by simp) (fun i _=>rfl))
   | ret=>exact .first (.one st_seq) ((hx.2 b z B w0 cs hb fr h _ _ _ hr m w tmps (.code y :: k) ds R hf ht hfr hfo hd hz).out (by simp) (fun i hi=>by cases hi))
theorem follows_calls {P:Program} {f:FuncId} {fn:Func} {c:Code} {run:Fr→IH→Out} (hfn:P.funcs[f]?=some fn) (hc:fn.body=some c) (F:Follows P f fn.ntmps run c) {args:List Value} {h h1:IH} {e:IExit} {fr1:Fr} {vs:List Value}
  (hlen':args.length≤fn.ntmps) (hx:run (enterFr 0 args) h=some (e,fr1,h1)) (hne : ∀i,e≠.exit i) (hvs:resultsOf P fr1 h1 fn.results.toList=some vs)
  {B:Nat} {w0:World} {m:Mp} {w:World} {args':Array Value} (R:Rel B w0 m h w) (hargs:LRel m args args'.toList) (hfr:Fresh m h.n h1.n):CallsTo P f args' B w0 m h w (single vs) h1:=by
 have hsz:args'.size=args.length:=by rw[hargs.1];simp
 intro cs
 let b:Frame:={ fn:=f,tmps:=#[],todo:=[],defers:=[],mode:=.run,kind:=.normal,roundOf:=none }
 let tmps:Array Value:=args' ++ Array.replicate (fn.ntmps - args'.size) undef
 have hen:Frame.enter P f args' .normal=on b tmps [.code c] []:=by
  simp[Frame.enter,hfn,hc,on,b,tmps]
 have htmps:FrRel m (enterFr 0 args) tmps:=by
  intro t u hu
  rw[fget_enterFr] at hu
  simp only[Nat.zero_le,if_true,Nat.sub_zero] at hu
  obtain⟨u',h2,h3⟩:=hargs.get hu
  have h4:args'[t]?=some u':=by simpa using h2
  refine⟨u',?_,h3⟩
  have:=(Array.getElem?_eq_some_iff.1 h4).1
  rw[Array.getElem?_append_left this,h4]
 have htsz:fn.ntmps≤tmps.size:=by simp[tmps];omega
 obtain⟨m1,w1,tmps1,ds1,k1,a1,a2,a3,a4,a5,a6,a7⟩:=F.2 b w.heap.size B w0 cs rfl _ _ _ _ _ hx m w tmps [] [] R htmps htsz hfr (.inl ⟨rfl,rfl⟩) (DefOK.nil _ _ _ _) (Nat.le_refl _)
 obtain⟨rs,d1,d2,d3⟩:=a7
 have hleave : ∃todo,step P (lone (on b tmps1 k1 ds1) cs w1)=.next (lone { on b tmps1 todo ds1 with mode:=.returning } cs w1):=by
  cases e with
  | normal=>obtain rfl:k1=_:=a2;exact⟨_,stepR_end (b:=b) (a:=⟨tmps1,ds1⟩) rfl⟩
  | exit i=>exact absurd rfl (hne i)
  | ret=>obtain⟨k2,rfl⟩:=a2;exact⟨_,stepR_ret (b:=b) (a:=⟨tmps1,ds1⟩) rfl⟩
 obtain⟨todo,hleave⟩:=hleave
 obtain⟨w2,b1,b2,b3,b4⟩:=unwind_marks (P:=P) R.size rs { on b tmps1 todo ds1 with mode:=.returning } cs w1 rfl d1 d2 d3 a5
 obtain⟨v',r1,r2⟩:=results_run b2 a3 hvs
 refine⟨.returned v',w2,{ on b tmps1 todo ds1 with mode:=.returning,defers:=[] },⟨v',m1,rfl,r2,b2,?_⟩,?_,?_,?_⟩
 ·refine⟨a6.le,a6.new,a6.n,a6.base,fun r hr hk=>?_,a6.idle,by rw[b3];exact a6.size,a6.img,a6.idleF⟩
  rw[b4 r (fun hm=>by have:=(d3 r hm).1;omega)]
  exact a6.frame r hr hk
 ·exact(by rw[hen];exact a1.trans (.head hleave b1):Steps P (lone (Frame.enter P f args' .normal) cs w) _)
 ·rfl
 ·exact⟨rfl,rfl,rfl,fn,hfn,r1⟩
end Go.Id

namespace Go.Id
open Go Go.RowKit
def partAt:Code→Nat→Code
 | .seq a _,0=>a
 | .seq _ b,n+1=>partAt b n
 | c,_=>c
def restAt:Code→Nat→Code
 | c,0=>c
 | .seq _ b,n+1=>restAt b n
 | c,_=>c
theorem parts_true {P:Program} {tb:FuncId→Option (List Value→Option Value)} (S0:Sound (E0 P)) (S1:Sound (E1 P tb)) {f:FuncId} {fn:Func} {a b rest:Code} {rs:List ResultVar} {nt:Nat} (hfn:P.funcs[f]?=some fn) (hc:fn.body=some (.seq a (.seq b rest))) (hrs:fn.results.toList=rs) (hnt:fn.ntmps=nt)
  {args:List Value} {base:Nat→Option (List Value)} {A:Nat→Nat×Nat} (hlen:args.length≤nt) {fra fr1:Fr} {ha h1:IH} {n:Nat}
  (ea:evC (E1 P tb) (callV (E1 P tb) n) f nt none n a (enterFr 0 args) (IH.start base)=some (.normal,fra,ha))
  (eb:evC (E1 P tb) (callV (E1 P tb) n) f nt none n b fra ha=some (.normal,fr1,h1))
  (w:Do (wpC P f nt none rest fr1 h1) (retK P rs fun r _=>r=.bool true) nx)
  {W:World} {args':Array Value} (hb:BaseOK A base W) (hargs:LRel (Mp.startOf A) args args'.toList):Calls P f args' W fun e W'=>e=.returned (.bool true)∧Below W.heap.size W W':=by
 subst hrs hnt
 obtain⟨⟨e,fr2,h2⟩,⟨N,hN⟩,hq⟩:=wpC_sound w
 have hn:=hN N (Nat.le_refl _)
 have key : ∀(K:Prop),retK P fn.results.toList (fun r _=>r=.bool true) e fr2 h2→(∀vs,(∀i,e≠.exit i)→resultsOf P fr2 h2 fn.results.toList=some vs→single vs=.bool true→K)→K:=by
  intro K hr k
  cases e with
  | exit i=>exact hr.elim
  | normal=>obtain⟨l,h3,h4⟩:=(hr:Ex _ _);exact k l (fun i h=>by cases h) h3 h4
  | ret=>obtain⟨l,h3,h4⟩:=(hr:Ex _ _);exact k l (fun i h=>by cases h) h3 h4
 refine key _ hq fun vs hne hvs hs=>?_
 have F:=follows_seq (follows_code S1 n f fn.ntmps a) (follows_seq (follows_code S1 n f fn.ntmps b) (follows_code S0 N f fn.ntmps rest))
 have hx:seqR (evC (E1 P tb) (callV (E1 P tb) n) f fn.ntmps none n a) (seqR (evC (E1 P tb) (callV (E1 P tb) n) f fn.ntmps none n b) (evC (E0 P) (callV (E0 P) N) f fn.ntmps none N rest)) (enterFr 0 args) (IH.start base)=some (e,fr2,h2):=by
  unfold seqR
  rw[ea]
  show(match evC (E1 P tb) (callV (E1 P tb) n) f fn.ntmps none n b fra ha with|some (.normal,fr,h)=>_|o=>o)=_
  rw[eb]
  exact hn
 refine(follows_calls hfn hc F hlen hx hne hvs (Rel.start hb) hargs (fun k _ _=>Mp.startOf_even A k)).mono fun e w' ⟨v',m',he,hv,R,_⟩=>?_
 rw[hs] at hv
 rw[he,hv.scal_eq rfl]
 exact⟨rfl,R.below⟩
end Go.Id

/-
  Contracts: package chance: the words of a candidate. Contracts: package chance: a wide number drawn.
-/
import Derived.Test.YtjhnilfelokpcaaGreatOutlierWaysAt
import Derived.Test.YtjhnilfelokpcaaGreatOutlierWaysBq
set_option linter.unusedVariables false
set_option linter.unusedSimpArgs false
set_option linter.defProp false
set_option linter.deprecated false
namespace Go.Id
open Go
open Nat (reduceAdd reduceEqDiff reduceLeDiff)
set_option maxHeartbeats 16000000
theorem splice_at {cs:List Value} {i:Nat} {x:Value} (hi:i<cs.length) (j:Nat):(IH.splice cs i [x])[j]?=if j=i then some x else cs[j]?:=by
 simp only[IH.splice]
 by_cases h:j<i
 ·rw[List.getElem?_append_left (by rw[List.length_take];omega),List.getElem?_take,if_pos h,if_neg (by omega)]
 ·rw[List.getElem?_append_right (by rw[List.length_take];omega),List.length_take,Nat.min_eq_left (by omega)]
  by_cases h2:j=i
  ·subst h2;rw[Nat.sub_self,if_pos rfl];rfl
  ·rw[if_neg h2,show j - i=(j - i - 1)+1 by omega]
   simp only[List.singleton_append,List.getElem?_cons_succ,List.length_singleton,List.getElem?_drop]
   congr 1
   omega
theorem wdC_put {v x i:Nat} (hi:i<8) (hv:v<18446744073709551616 ^ i) (hx:x<18446744073709551616):IH.splice (wdC v) i [K64 x]=wdC (v+x*18446744073709551616 ^ i):=by
 have hz:wrd v i=0:=wrd_high hv (Nat.le_refl _)
 have hv2:v<18446744073709551616 ^ (i+1):=Nat.lt_of_lt_of_le hv (Nat.pow_le_pow_right (by omega) (by omega))
 apply List.ext_getElem?
 intro j
 rw[splice_at (by rw[wdC_len];exact hi)]
 by_cases h8:j<8
 ·by_cases hj:j=i
  ·subst hj
   rw[if_pos rfl,wdC_get _ _ h8,wrd_add_at hv2 (by omega),hz,Nat.zero_add]
  ·rw[if_neg hj,wdC_get _ _ h8,wdC_get _ _ h8]
   by_cases hl:j<i
   ·rw[wrd_add_low hl]
   ·have h1:wrd v j=0:=wrd_high hv (by omega)
    have h2:wrd (v+x*18446744073709551616 ^ i) j=0:=wrd_high (i:=i+1) (add_at_lt hv2 (by omega)) (by omega)
    rw[h1,h2]
 ·rw[if_neg (by omega),List.getElem?_eq_none (by rw[wdC_len];omega),List.getElem?_eq_none (by rw[wdC_len];omega)]
theorem wdC_mask {v q r:Nat} (hq:q<8) (hr:r<64) (hv:v<18446744073709551616 ^ (q+1)):IH.splice (wdC v) q [K64 (wrd v q % 2 ^ r)]=wdC (v % 2 ^ (64*q+r)):=by
 apply List.ext_getElem?
 intro j
 rw[splice_at (by rw[wdC_len];exact hq)]
 by_cases h8:j<8
 ·by_cases hj:j=q
  ·subst hj
   rw[if_pos rfl,wdC_get _ _ h8,wrd_modtop hr]
  ·rw[if_neg hj,wdC_get _ _ h8,wdC_get _ _ h8]
   by_cases hl:j<q
   ·rw[wrd_modlow (by omega)]
   ·have h1:wrd v j=0:=wrd_high hv (by omega)
    rw[h1,wrd_modhigh (by omega) (by omega)]
 ·rw[if_neg (by omega),List.getElem?_eq_none (by rw[wdC_len];omega),List.getElem?_eq_none (by rw[wdC_len];omega)]
theorem drawW_fst (i s:Nat):(drawW (i+1) s).1=(drawW i s).1+nxO (drawW i s).2*18446744073709551616 ^ i:=rfl
theorem wv_unb {P:Program} {f:FuncId} {a:Value} {h:IH} {K:Value→IH→Prop} (w:WV P (.func (.func f) #[a] #[]) [] h K):WV P (.func (.func f) #[] #[]) [a] h K:=by
 obtain⟨p,⟨N,hN⟩,hk⟩:=w
 refine⟨p,⟨N,fun n hn=>?_⟩,hk⟩
 have:=hN n hn
 cases n with
 | zero=>exact this
 | succ n=>exact this
theorem next_ok2 {h:IH} {k s:Nat} (g:h.ext.get k=some (.cells [K64 s] 0 none)) :
  WV Proofs.Tryz.prog (.func (.func 224) #[] #[]) [ptr (2*k) 0] h fun r h'=>h'=h.put k (.cells [K64 (nxS s)] 0 none)∧r=K64 (nxO s) :=
 wv_unb (next_ok g)
theorem wordsF_ok {h:IH} {b8 b2 ks k s:Nat} (k0:0<k) (k1:k≤512) (hb8:b8<h.n) (hb2:b2<h.n) (hks:ks<h.n) (d8:b8≠ks) (d2:b2≠ks)
  (g8:h.ext.get b8=some (.cells [KN k] 0 none)) (g2:h.ext.get b2=some (.cells [ptr (2*ks) 0] 0 none)) (gs:h.ext.get ks=some (.cells [K64 s] 0 none)) :
  WV Proofs.Tryz.prog (.func (.func 256) #[] #[ptr (2*b8) 0,ptr (2*b2) 0]) [] h fun r h'=>h.n≤h'.n∧(∀j,j<h.n→j≠ks→h'.ext.get j=h.ext.get j)∧(∀h0,Ext h0 h→h0.n≤ks→Ext h0 h')∧h'.ext.get ks=some (.cells [K64 (drawW ((k+63) / 64) s).2] 0 none)∧r=wdV ((drawW ((k+63) / 64) s).1 % 2 ^ k):=by
 obtain⟨m,hm⟩ : ∃m,m=(k+63) / 64:=⟨_,rfl⟩
 have em:((k:Int)+63) / 64=(m:Int):=by omega
 rw[←hm]
 obtain⟨H0,hH0⟩ : ∃H,H=(h.new (.cells (wdC 0) 0 none)).new (.cells (wdC 0) 0 none):=⟨_,rfl⟩
 have n0:H0.n=h.n+2:=by rw[hH0];rfl
 have E0:Ext h H0:=by rw[hH0];exact((Ext.refl h).new _).new _
 have c2:H0.ext.get h.n=some (.cells (wdC 0) 0 none):=by rw[hH0];simp (disch:=try exact dx) only[get_new_same,get_new_old]
 have c3:H0.ext.get (h.n+1)=some (.cells (wdC 0) 0 none):=by rw[hH0];simp (disch:=try exact dx) only[get_new_same]
 have z0:([.int .u64 0,.int .u64 0,.int .u64 0,.int .u64 0,.int .u64 0,.int .u64 0,.int .u64 0,.int .u64 0]:List Value)=wdC 0:=by rw[wdC_zero]
 have q8:=E0.kept hb8 g8
 have q2:=E0.kept hb2 g2
 have qs:=E0.kept hks gs
 refine enter (nt:=32) (rs:=[.cell 2 44]) Proofs.Tryz.func256 rfl rfl rfl (by simp) ?_
 simp -dsimp (maxSteps:=1000000) (disch:=try exact dx) only[wpS,reduceEqDiff,reduceAdd,zc44,ld3,row_of g8,em]
 rw[z0,←hH0]
 clear hH0
 refine loop (fun u fr hh => ∃i:Nat,i+u=m∧H0.n≤hh.n∧(∀j,j<H0.n→j≠ks→j≠h.n+1→hh.ext.get j=H0.ext.get j)∧(∀h0,Ext h0 h→h0.n≤ks→Ext h0 hh)∧hh.ext.get ks=some (.cells [K64 (drawW i s).2] 0 none)∧hh.ext.get (h.n+1)=some (.cells (wdC (drawW i s).1) 0 none)∧fget fr 0=some (ptr (2*b8) 0)∧fget fr 1=some (ptr (2*b2) 0)∧fget fr 2=some (ptr (2*h.n) 0)∧fget fr 3=some (ptr (2*(h.n+1)) 0)∧fget fr 7=some (KN m)∧fget fr 8=some (KN i)) m
  ⟨0,by omega,Nat.le_refl _,fun j _ _ _=>rfl,fun h0 e _=>e.trans E0,qs,c3,by simp,by simp,by simp,by simp,by simp,by simp⟩ ?_
 rintro u fr hh ⟨i,hiu,hn,hfr,hEx,gk,gw,f0,f1,f2,f3,f7,f8⟩
 simp -dsimp (maxSteps:=1000000) (disch:=try exact dx) only[wpS,f7,f8]
 refine bq_intro ?_ ?_<;>intro hc<;>simp only[decide_eq_true_eq,decide_eq_false_iff_not] at hc
 ·have hi:i<8:=by omega
  have p2:=(hfr b2 (by omega) d2 (by omega)).trans q2
  simp -dsimp (maxSteps:=1000000) (disch:=try exact dx) only[wpS,wpT,reduceEqDiff,ld226,fa233_0,f1,f8,row_of p2]
  refine call (next_ok2 gk) ?_
  rintro _ _ ⟨rfl,rfl⟩
  have gw2:(hh.put ks (.cells [K64 (nxS (drawW i s).2)] 0 none)).ext.get (h.n+1)=some (.cells (wdC (drawW i s).1) 0 none):=by rw[get_put_old _ _ (by omega)];exact gw
  have sp:=wdC_put hi (drawW_lt i s) (nxO_lt (drawW i s).2)
  rw[←drawW_fst] at sp
  simp -dsimp (maxSteps:=1000000) (disch:=try exact dx) only[wpS,wpT,reduceEqDiff,reduceLeDiff,ar44,st42,f3,f8,gw2,ar44,wdC_len,sp]
  refine⟨u - 1,by omega,i+1,by omega,hn,fun j h1 h2 h3=>?_,fun h0 e hk=>((hEx h0 e hk).put hk _).put (by have:=e.n;omega) _,?_,get_put_same _ _ rfl,by simp[f0],by simp[f1],by simp[f2],by simp[f3],by simp[f7],by simp⟩
  ·rw[get_put_old _ _ h3,get_put_old _ _ h2];exact hfr j h1 h2 h3
  ·rw[get_put_old _ _ (by omega)];exact get_put_same _ _ rfl
 ·have him:i=m:=by omega
  subst him
  have p8:=(hfr b8 (by omega) d8 (by omega)).trans q8
  have p2:=(hfr h.n (by omega) (by omega) (by omega)).trans c2
  have vl:=drawW_lt i s
  obtain⟨v,hv⟩ : ∃v,v=(drawW i s).1:=⟨_,rfl⟩
  rw[←hv] at gw vl ⊢
  obtain⟨q,hq⟩ : ∃q,q=k / 64:=⟨_,rfl⟩
  obtain⟨r,hr⟩ : ∃r,r=k % 64:=⟨_,rfl⟩
  have eq:(k:Int) / 64=(q:Int):=by omega
  have er:(k:Int) % 64=(r:Int):=by omega
  have ek:k=64*q+r:=by omega
  have fin : ∀h':IH,h'=hh.put h.n (.cells (wdC v) 0 none)→True:=fun _ _=>trivial
  by_cases r0:r=0
  ·have d0:decide ((0:Int)<(r:Int))=false:=decide_eq_false (by omega)
   have hvk:v % 2 ^ k=v:=Nat.mod_eq_of_lt (by
    rw[pow64] at vl
    rw[ek,r0,Nat.add_zero]
    have:i=q:=by omega
    rw[←this];exact vl)
   rw[hvk]
   simp -dsimp (maxSteps:=1000000) (disch:=try exact dx) only[wpS,wpT,reduceEqDiff,reduceLeDiff,ld3,ld44,st44,f0,f2,f3,row_of p8,er,d0,row_of gw,p2,wdC_len,wd_take0,wdC_all,wd_spl2]
   exact⟨by omega,fun j h1 h2=>by rw[get_put_old _ _ (by omega),hfr j (by omega) h2 (by omega)];exact E0.get j h1,fun h0 e hk=>(hEx h0 e hk).put (by have:=e.n;omega) _,gk,rfl⟩
  ·have d0:decide ((0:Int)<(r:Int))=true:=decide_eq_true (by omega)
   have hi:i=q+1:=by omega
   have hq8:q<8:=by omega
   rw[hi] at vl
   have sp:=wdC_mask hq8 (show r<64 by omega) vl
   rw[←ek] at sp
   have gq:=wdC_get v q hq8
   have wl:=wrd_lt v q
   have t1:=Nat.two_pow_pos r
   have t2:2 ^ r<18446744073709551616:=Nat.lt_of_lt_of_le (Nat.pow_lt_pow_right (by omega) (show r<64 by omega)) (by decide)
   have hand : ∀ox oy,binop Proofs.Tryz.prog .and 42 ox oy (K64 (wrd v q)) (K64 (2 ^ r - 1))=some (K64 (wrd v q % 2 ^ r)):=fun ox oy=>by
    rw[binop_and_u64 _ _ ox oy _ _ wl (by omega),Nat.and_two_pow_sub_one_eq_mod]
   obtain⟨e2,he2⟩ : ∃e,e=2 ^ r:=⟨_,rfl⟩
   have esub:((2 ^ r:Nat):Int) - 1=((2 ^ r - 1:Nat):Int):=by rw[←he2] at t1 ⊢;omega
   have wsub:IntKind.u64.wrap (((2 ^ r:Nat):Int) - 1)=((2 ^ r - 1:Nat):Int):=by
    rw[esub]
    exact wrap_nat_u64 (Nat.lt_of_le_of_lt (Nat.sub_le _ _) t2)
   clear he2
   simp -dsimp (maxSteps:=1000000) (disch:=try exact dx) only[wpS,wpT,reduceEqDiff,reduceLeDiff,ld3,ar44,st42,ld42,ld44,st44,f0,f2,f3,row_of p8,er,eq,d0,gw,row_of gw,p2,ar44,gq,wsub,hand,sp,wdC_len,wd_take0,wdC_all,wd_spl2]
   exact⟨by omega,fun j h1 h2=>by rw[get_put_old _ _ (by omega),get_put_old _ _ (by omega),hfr j (by omega) h2 (by omega)];exact E0.get j h1,fun h0 e hk=>((hEx h0 e hk).put (by have:=e.n;omega) _).put (by have:=e.n;omega) _,gk,rfl⟩
end Go.Id

namespace Go.Id
open Go
theorem candW_ok {h:IH} {F:Value} (cF:F.cells = #[F]) (cO:cellOK F=true):WV Proofs.Tryz.prog (.func (.func 257) #[] #[]) [F] h fun r h'=>h'=h.new (.cells [F] 0 none)∧r=.func (.func 268) #[] #[ptr (2*h.n) 0]:=by
 refine enter (nt:=4) (rs:=[.tmp 2]) Proofs.Tryz.func257 rfl rfl rfl (by simp) ?_
 simp -dsimp (maxSteps:=1000000) (disch:=first|omega|(simp only[new_n,put_n];omega)|decide +kernel|(repeat first|rw[new_n]|rw[put_n])) only[wpS,wpT,Nat.reduceEqDiff,cF]
set_option maxRecDepth 100000 in
set_option maxHeartbeats 1000000 in
theorem candWr_ok {h:IH} {b:Nat} {F y:Value} (J:Nat→IH→Prop) (Fin:IH→Prop) (j0:J 0 h) (jb : ∀i hh,J i hh→hh.ext.get b=some (.cells [F] 0 none))
  (st : ∀i hh,i<TR→J i hh→WV Proofs.Tryz.prog F [] hh fun x h1=>WV Proofs.Tryz.prog y [x] h1 fun r h2=>(r=.bool true∧J (i+1) h2)∨(r=.bool false∧Fin h2)) :
  WV Proofs.Tryz.prog (.func (.func 268) #[] #[ptr (2*b) 0]) [y] h fun _ h'=>J TR h'∨Fin h':=by
 refine enter (nt:=11) (rs:=[]) Proofs.Tryz.func268 rfl rfl rfl (by simp) ?_
 simp -dsimp (maxSteps:=1000000) (disch:=first|omega|(simp only[new_n,put_n];omega)|decide +kernel|(repeat first|rw[new_n]|rw[put_n])) only[wpS,Nat.reduceAdd]
 have hT:=TR_eq
 refine loop (fun m fr hh => ∃i:Nat,i+m=TR∧J i hh∧fget fr 0=some y∧fget fr 1=some (ptr (2*b) 0)∧fget fr 3=some (KN i)) TR
  ⟨0,by omega,j0,by simp,by simp,by simp⟩ ?_
 rintro m fr hh ⟨i,him,hj,f0,f1,f3⟩
 simp -dsimp (maxSteps:=1000000) (disch:=first|omega|(simp only[new_n,put_n];omega)|decide +kernel|(repeat first|rw[new_n]|rw[put_n])) only[wpS,f3]
 refine bq_intro ?_ ?_<;>intro hc<;>simp only[decide_eq_true_eq,decide_eq_false_iff_not] at hc
 ·have g:=jb i hh hj
  simp -dsimp (maxSteps:=1000000) (disch:=first|omega|(simp only[new_n,put_n];omega)|decide +kernel|(repeat first|rw[new_n]|rw[put_n])) only[wpS,wpT,Nat.reduceEqDiff,ld303,f0,f1,row_of g]
  refine call (st i hh (by omega) hj) ?_
  intro x h1 w1
  simp -dsimp (maxSteps:=1000000) (disch:=first|omega|(simp only[new_n,put_n];omega)|decide +kernel|(repeat first|rw[new_n]|rw[put_n])) only[wpS,Nat.reduceEqDiff]
  refine call w1 ?_
  rintro _ h2 (⟨rfl,w2⟩|⟨rfl,w2⟩)
  ·simp -dsimp (maxSteps:=1000000) (disch:=first|omega|(simp only[new_n,put_n];omega)|decide +kernel|(repeat first|rw[new_n]|rw[put_n])) only[wpS,wpT,Nat.reduceEqDiff,f3]
   exact⟨m - 1,by omega,i+1,by omega,w2,by simp[f0],by simp[f1],by simp⟩
  ·simp -dsimp (maxSteps:=1000000) (disch:=first|omega|(simp only[new_n,put_n];omega)|decide +kernel|(repeat first|rw[new_n]|rw[put_n])) only[wpS,wpT,Nat.reduceEqDiff]
   exact .inr w2
 ·obtain rfl:i=TR:=by omega
  simp -dsimp (maxSteps:=1000000) (disch:=first|omega|(simp only[new_n,put_n];omega)|decide +kernel|(repeat first|rw[new_n]|rw[put_n])) only[wpS,wpT]
  exact .inl hj
theorem bitL_le {n k:Nat} (h:n<2 ^ k):bitL n≤k:=by
 apply Classical.byContradiction
 intro hn
 have:=(bitL_iff n k).1 (by omega)
 omega
theorem H8_pow:H8=2 ^ 511:=by unfold H8;decide +kernel
theorem mod_H8 {x k m:Nat} (h:H8=2 ^ m) (hk:k≤m):x % 2 ^ k<H8:=by
 rw[h]
 exact Nat.lt_of_lt_of_le (Nat.mod_lt _ (Nat.two_pow_pos _)) (Nat.pow_le_pow_right (Nat.succ_pos 1) hk)
theorem wideV_one:wideV 1=wdV 1:=rfl
set_option maxHeartbeats 16000000 in
theorem swide_ok {h0 h:IH} {ks s n:Nat} (E:Ext h0 h) (hk:h0.n≤ks) (hk2:ks<h.n) (g:h.ext.get ks=some (.cells [K64 s] 0 none)) (n0:0<n) (hn:n<H8) (hs:s<18446744073709551616) :
  WV Proofs.Tryz.prog (.func (.func 226) #[] #[]) [ptr (2*ks) 0,wdV n] h fun r h'=>Ext h0 h'∧h.n≤h'.n∧((∃x t,drawN n s=some (x,t)∧r=.tuple #[wdV x,KI 0]∧h'.ext.get ks=some (.cells [K64 t] 0 none))∨(drawN n s=none∧r=.tuple #[wdV 0,KI 9])):=by
 have w8:n<W8:=by have:=H8_two;omega
 obtain⟨k,hkk⟩ : ∃k,k=bitL (n - 1):=⟨_,rfl⟩
 have k1:k≤511:=by rw[hkk];exact bitL_le (k:=511) (Nat.lt_of_lt_of_eq (by omega) H8_pow)
 obtain⟨H0,hH0⟩ : ∃H,H=(((h.new (.cells [ptr (2*ks) 0] 0 none)).new (.cells (wdC n) 0 none)).new (.cells [ZW,ZW,ZW,ZW,ZW,ZW,ZW,ZW] 0 none)).new (.cells [KI 0] 0 none):=⟨_,rfl⟩
 have nH0:H0.n=h.n+4:=by rw[hH0];rfl
 have E0:Ext h H0:=by rw[hH0];exact((((Ext.refl h).new _).new _).new _).new _
 have c2:H0.ext.get h.n=some (.cells [ptr (2*ks) 0] 0 none):=by rw[hH0];simp (disch:=first|omega|(simp only[new_n,put_n];omega)|(repeat first|rw[new_n]|rw[put_n])) only[get_new_same,get_new_old]
 have c3:H0.ext.get (h.n+1)=some (.cells (wdC n) 0 none):=by rw[hH0];simp (disch:=first|omega|(simp only[new_n,put_n];omega)|(repeat first|rw[new_n]|rw[put_n])) only[get_new_same,get_new_old]
 have c4:H0.ext.get (h.n+2)=some (.cells [ZW,ZW,ZW,ZW,ZW,ZW,ZW,ZW] 0 none):=by rw[hH0];simp (disch:=first|omega|(simp only[new_n,put_n];omega)|(repeat first|rw[new_n]|rw[put_n])) only[get_new_same,get_new_old]
 have c5:H0.ext.get (h.n+3)=some (.cells [KI 0] 0 none):=by rw[hH0];simp (disch:=first|omega|(simp only[new_n,put_n];omega)|(repeat first|rw[new_n]|rw[put_n])) only[get_new_same]
 have gs:=E0.kept hk2 g
 refine enter (nt:=37) (rs:=[.cell 4 44,.cell 5 33]) Proofs.Tryz.func226 rfl rfl rfl (by simp) ?_
 simp -dsimp (maxSteps:=1000000) (disch:=first|omega|(simp only[new_n,put_n];omega)|decide +kernel|(repeat first|rw[new_n]|rw[put_n])) only[wpS,Nat.reduceEqDiff,Nat.reduceAdd,zc44,zc33,cells8]
 rw[←hH0]
 clear hH0
 have X0:=Ext.refl H0
 have L3:load Proofs.Tryz.prog H0 44 (ptr (2*(h.n+1)) 0)=some (wdV n):=by
  have r:=row_of c3
  simp -dsimp (maxSteps:=1000000) (disch:=first|omega|(simp only[new_n,put_n];omega)|decide +kernel|(repeat first|rw[new_n]|rw[put_n])) only[wpS,Nat.reduceLeDiff,ld44,r,wdC_len,wd_take0]
  rfl
 refine drawn [(0,[2])] (by kernel_rfl) (by kernel_rfl) rfl ?_
 simp -dsimp (maxSteps:=1000000) (disch:=first|omega|(simp only[new_n,put_n];omega)|decide +kernel|(repeat first|rw[new_n]|rw[put_n])) only[wpS,Nat.reduceEqDiff,Nat.reduceLeDiff,ld44,row_of c3,wdC_len,wd_take0]
 refine call (wideOf_ok 1 ⟨by omega,by omega⟩) ?_
 rintro _ h1 ⟨X1,rfl⟩
 rw[wideV_one]
 have m1:=X1.n
 simp -dsimp (maxSteps:=1000000) (disch:=first|omega|(simp only[new_n,put_n];omega)|decide +kernel|(repeat first|rw[new_n]|rw[put_n])) only[wpS,Nat.reduceEqDiff]
 refine call (wsubN_ok n 1 hn (by omega) n0) ?_
 rintro _ h2 ⟨X2,rfl⟩
 have m2:=X2.n
 have X12:=X1.trans X2
 simp -dsimp (maxSteps:=1000000) (disch:=first|omega|(simp only[new_n,put_n];omega)|decide +kernel|(repeat first|rw[new_n]|rw[put_n])) only[wpS,wpT,Nat.reduceEqDiff,Nat.reduceLeDiff,Nat.reduceAdd,zc44,st44,cells8,wdC_len,wdC_all,wd_spl]
 refine⟨wpSteady_one rfl rfl rfl rfl (steady_ext (H0:=H0) rfl (by omega) X0 X1 L3),?_⟩
 have e3:Ext h2 ((h2.new (.cells [ZW,ZW,ZW,ZW,ZW,ZW,ZW,ZW] 0 none)).put h2.n (.cells (wdC (n - 1)) 0 none)):=((Ext.refl _).new _).put (Nat.le_refl _) _
 simp -dsimp (maxSteps:=1000000) (disch:=first|omega|(simp only[new_n,put_n];omega)|decide +kernel|(repeat first|rw[new_n]|rw[put_n])) only[wpS,wpT,Nat.reduceEqDiff,Nat.reduceLeDiff,Nat.reduceAdd,ld44,wdC_len,wd_take0]
 refine call (chlength_ok (n - 1) (by omega)) ?_
 rintro _ h4 ⟨X4,rfl⟩
 rw[←hkk]
 have m4:=X4.n
 simp only[new_n,put_n] at m4
 have X04:=(X12.trans e3).trans X4
 have p2:=X04.kept (by omega) c2
 have p3:=X04.kept (by omega) c3
 have p4:=X04.kept (by omega) c4
 have p5:=X04.kept (by omega) c5
 have ps:=X04.kept (by omega) gs
 have E4:=(E.trans E0).trans X04
 by_cases k0:k=0
 ·have d0:((k:Int) == 0)=true:=by simp[k0]
  simp -dsimp (maxSteps:=1000000) (disch:=first|omega|(simp only[new_n,put_n];omega)|decide +kernel|(repeat first|rw[new_n]|rw[put_n])) only[wpS,wpT,Nat.reduceEqDiff,Nat.reduceLeDiff,Nat.reduceAdd,ld44,st44,zc3,st3,ld3,bv44,st33,ld33,d0,p4,p5]
  refine⟨(((E4.new _).put (by omega) _).put (by omega) _).put (by omega) _,by omega,.inl ⟨0,s,by unfold drawN;rw[←hkk,if_pos k0],?_,ps⟩⟩
  rw[←wd_zero]
  rfl
 ·have d0:((k:Int) == 0)=false:=by simp[k0]
  obtain⟨H5,hH5⟩ : ∃H,H=(h4.new (.cells [.int .i64 0] 0 none)).put h4.n (.cells [KN k] 0 none):=⟨_,rfl⟩
  have n5:H5.n=h4.n+1:=by rw[hH5];rfl
  have E5:Ext h4 H5:=by rw[hH5];exact((Ext.refl _).new _).put (Nat.le_refl _) _
  have c8:H5.ext.get h4.n=some (.cells [KN k] 0 none):=by rw[hH5];simp (disch:=first|omega|(simp only[new_n,put_n];omega)|(repeat first|rw[new_n]|rw[put_n])) only[get_put_same]
  simp -dsimp (maxSteps:=1000000) (disch:=first|omega|(simp only[new_n,put_n];omega)|decide +kernel|(repeat first|rw[new_n]|rw[put_n])) only[wpS,wpT,Nat.reduceEqDiff,Nat.reduceLeDiff,zc3,st3,ld3,d0]
  rw[←hH5]
  clear hH5
  obtain⟨F,hF⟩ : ∃F,F=(.func (.func 256) #[] #[ptr (2*h4.n) 0,ptr (2*h.n) 0]:Value):=⟨_,rfl⟩
  rw[←hF]
  refine call (candW_ok (F:=F) (by rw[hF];rfl) (by rw[hF];rfl)) ?_
  rintro _ _ ⟨rfl,rfl⟩
  obtain⟨H6,hH6⟩ : ∃H,H=H5.new (.cells [F] 0 none):=⟨_,rfl⟩
  have n6:H6.n=h4.n+2:=by rw[hH6,new_n];omega
  have E6:Ext H5 H6:=by rw[hH6];exact(Ext.refl _).new _
  have cF:H6.ext.get H5.n=some (.cells [F] 0 none):=by rw[hH6];simp (disch:=first|omega|(simp only[new_n,put_n];omega)|(repeat first|rw[new_n]|rw[put_n])) only[get_new_same]
  rw[←hH6]
  clear hH6
  simp -dsimp (maxSteps:=1000000) (disch:=first|omega|(simp only[new_n,put_n];omega)|decide +kernel|(repeat first|rw[new_n]|rw[put_n])) only[wpS,wpT,Nat.reduceEqDiff,bv44]
  refine range2 (p:=25) (nt:=37) rfl rfl (by decide) (fun r y hfn hnt hbd hy=>?_)
  have hT:=TR_eq
  have E46:=E5.trans E6
  have EE:=E4.trans E46
  have en:=EE.n
  have eh:=E0.n
  have ek0:drawN n s=wideT n k TR s:=by unfold drawN;rw[←hkk,if_neg k0]
  let J:Nat→IH→Prop:=fun i hh => ∃si,si<18446744073709551616∧Ext h0 hh∧H6.n<hh.n∧hh.ext.get H6.n=some (.loop r)∧hh.ext.get H5.n=some (.cells [F] 0 none)∧hh.ext.get ks=some (.cells [K64 si] 0 none)∧hh.ext.get h.n=some (.cells [ptr (2*ks) 0] 0 none)∧hh.ext.get (h.n+1)=some (.cells (wdC n) 0 none)∧hh.ext.get (h.n+2)=some (.cells [ZW,ZW,ZW,ZW,ZW,ZW,ZW,ZW] 0 none)∧hh.ext.get (h.n+3)=some (.cells [KI 0] 0 none)∧hh.ext.get h4.n=some (.cells [KN k] 0 none)∧wideT n k TR s=wideT n k (TR - i) si
  let Fin:IH→Prop:=fun hh => ∃x t,wideT n k TR s=some (x,t)∧Ext h0 hh∧H6.n<hh.n∧hh.ext.get H6.n=some (.loop (doneL r .ret))∧hh.ext.get ks=some (.cells [K64 t] 0 none)∧hh.ext.get (h.n+2)=some (.cells (wdC x) 0 none)∧hh.ext.get (h.n+3)=some (.cells [KI 0] 0 none)
  have J0:J 0 (H6.new (.loop r)):=by
   refine⟨s,hs,EE.new _,by simp,get_new_same _ _ rfl,?_,?_,?_,?_,?_,?_,?_,rfl⟩
   ·rw[get_new_old _ _ (by omega)];exact cF
   ·rw[get_new_old _ _ (by omega)];exact E46.kept (by omega) ps
   ·rw[get_new_old _ _ (by omega)];exact E46.kept (by omega) p2
   ·rw[get_new_old _ _ (by omega)];exact E46.kept (by omega) p3
   ·rw[get_new_old _ _ (by omega)];exact E46.kept (by omega) p4
   ·rw[get_new_old _ _ (by omega)];exact E46.kept (by omega) p5
   ·rw[get_new_old _ _ (by omega)];exact E6.kept (by omega) c8
  refine WV.mono (candWr_ok (b:=H5.n) (F:=F) (y:=y) J Fin J0 (fun i hh hj=>by obtain⟨_,_,_,_,_,a,_⟩:=hj;exact a) ?_) ?_
  ·rintro i hh hi ⟨si,a0,a1,a2,a3,a4,a5,a6,a7,a8,a9,a10,a11⟩
   rw[hF]
   have an:=a1.n
   refine WV.mono (wordsF_ok (k:=k) (by omega) (by omega) (by omega) (by omega) (by omega) (by omega) (by omega) a10 a6 a5) ?_
   rintro _ H3 ⟨hn3,hfr,hEx,b5,rfl⟩
   have e3':=hEx h0 a1 hk
   have b3:=(hfr H6.n (by omega) (by omega)).trans a3
   have b4:=(hfr H5.n (by omega) (by omega)).trans a4
   have b6:=(hfr h.n (by omega) (by omega)).trans a6
   have b7:=(hfr (h.n+1) (by omega) (by omega)).trans a7
   have b8:=(hfr (h.n+2) (by omega) (by omega)).trans a8
   have b9:=(hfr (h.n+3) (by omega) (by omega)).trans a9
   have b10:=(hfr h4.n (by omega) (by omega)).trans a10
   obtain⟨x,hx⟩ : ∃x,x=(drawW ((k+63) / 64) si).1 % 2 ^ k:=⟨_,rfl⟩
   obtain⟨s',hs'⟩ : ∃x,x=(drawW ((k+63) / 64) si).2:=⟨_,rfl⟩
   have sb:s'<18446744073709551616:=by rw[hs'];exact drawW_st a0
   have xb:x<H8:=by
    rw[hx]
    exact mod_H8 (m:=511) H8_pow k1
   have xw:x<W8:=by have:=H8_two;omega
   obtain⟨q,hq⟩ : ∃q,TR - i=q+1:=⟨TR - i - 1,by omega⟩
   have a12:=a11
   rw[hq,wideT,←hx,←hs'] at a12
   rw[←hs'] at b5
   rw[←hx]
   clear hx hs'
   refine hy _ _ _ b3 ?_
   simp -dsimp (maxSteps:=1000000) (disch:=first|omega|(simp only[new_n,put_n];omega)|decide +kernel|(repeat first|rw[new_n]|rw[put_n])) only[wpS,wpT,Nat.reduceEqDiff,Nat.reduceLeDiff,Nat.reduceAdd,zc44,st44,cells8,wdC_len,wdC_all,wd_spl]
   obtain⟨H7,hH7⟩ : ∃H,H=(H3.new (.cells [ZW,ZW,ZW,ZW,ZW,ZW,ZW,ZW] 0 none)).put H3.n (.cells (wdC x) 0 none):=⟨_,rfl⟩
   have n7:H7.n=H3.n+1:=by rw[hH7];rfl
   have e7:Ext H3 H7:=by rw[hH7];exact((Ext.refl _).new _).put (Nat.le_refl _) _
   have cx:H7.ext.get H3.n=some (.cells (wdC x) 0 none):=by rw[hH7];simp (disch:=first|omega|(simp only[new_n,put_n];omega)|(repeat first|rw[new_n]|rw[put_n])) only[get_put_same]
   rw[←hH7]
   clear hH7
   refine⟨rfl,e7.kept (by omega) b3,?_⟩
   rw[hfn,hnt,hbd]
   obtain⟨H8',hH8⟩ : ∃H,H=H7.put H6.n (.loop (busyL r)):=⟨_,rfl⟩
   have e8:Ext h0 H8':=by rw[hH8];exact(e3'.trans e7).put (by omega) _
   have w0 : ∀j,j≠H6.n→H8'.ext.get j=H7.ext.get j:=fun j hj=>by rw[hH8];exact get_put_old _ _ hj
   have zl:H8'.ext.get H6.n=some (.loop (busyL r)):=by rw[hH8];exact get_put_same _ _ rfl
   have zn:H8'.n=H7.n:=by rw[hH8];rfl
   rw[←hH8]
   clear hH8
   have dx:=(w0 H3.n (by omega)).trans cx
   have d4:=(w0 H5.n (by omega)).trans (e7.kept (by omega) b4)
   have d5:=(w0 ks (by omega)).trans (e7.kept (by omega) b5)
   have d6:=(w0 h.n (by omega)).trans (e7.kept (by omega) b6)
   have d7:=(w0 (h.n+1) (by omega)).trans (e7.kept (by omega) b7)
   have d8:=(w0 (h.n+2) (by omega)).trans (e7.kept (by omega) b8)
   have d9:=(w0 (h.n+3) (by omega)).trans (e7.kept (by omega) b9)
   have d10:=(w0 h4.n (by omega)).trans (e7.kept (by omega) b10)
   simp -dsimp (maxSteps:=1000000) (disch:=first|omega|(simp only[new_n,put_n];omega)|decide +kernel|(repeat first|rw[new_n]|rw[put_n])) only[wpS,Nat.reduceEqDiff,Nat.reduceLeDiff,ld44,row_of dx,row_of d7,wdC_len,wd_take0]
   refine call (wcmpN_ok x n xb hn) ?_
   rintro _ g1 ⟨Y1,rfl⟩
   have gn1:=Y1.n
   have ix:wdI x=(x:Int):=by unfold wdI;rw[if_pos xb]
   by_cases cx':x<n
   ·rw[if_pos cx'] at a12 ⊢
    simp -dsimp (maxSteps:=1000000) (disch:=first|omega|(simp only[new_n,put_n];omega)|decide +kernel|(repeat first|rw[new_n]|rw[put_n])) only[wpS,wpT,Nat.reduceEqDiff,Nat.reduceLeDiff,ld44,row_of (Y1.kept (by omega) dx),wdC_len,wd_take0]
    refine call (wsign_ok x xw) ?_
    rintro _ g2 ⟨Y2,rfl⟩
    rw[ix,if_neg (by omega)]
    obtain⟨z,hz,hz0⟩ : ∃z:Int,(if (x:Int)=0 then (0:Int) else 1)=z∧0≤z:=⟨_,rfl,by split<;>omega⟩
    rw[hz]
    have gn2:=Y2.n
    have Y12:=Y1.trans Y2
    have f8':=Y12.kept (by omega) d8
    have f9':=Y12.kept (by omega) d9
    simp -dsimp (maxSteps:=1000000) (disch:=first|omega|(simp only[new_n,put_n];omega)|decide +kernel|(repeat first|rw[new_n]|rw[put_n])) only[wpS,wpT,Nat.reduceEqDiff,Nat.reduceLeDiff,Nat.reduceAdd,ld44,st44,st33,row_of (Y12.kept (by omega) dx),f8',f9',wdC_len,wdC_all,wd_spl,wd_take0]
    refine⟨?_,.inr ⟨rfl,x,s',a12,(((e8.trans Y12).put (by omega) _).put (by omega) _).put (by omega) _,by show H6.n<g2.n;omega,get_put_same _ _ rfl,?_,?_,?_⟩⟩
    ·rw[get_put_old _ _ (by omega),get_put_old _ _ (by omega)];exact Y12.kept (by omega) zl
    ·rw[get_put_old _ _ (by omega),get_put_old _ _ (by omega),get_put_old _ _ (by omega)];exact Y12.kept (by omega) d5
    ·rw[get_put_old _ _ (by omega),get_put_old _ _ (by omega)];exact get_put_same _ _ rfl
    ·rw[get_put_old _ _ (by omega)];exact get_put_same _ _ rfl
   ·rw[if_neg cx'] at a12 ⊢
    obtain⟨z,hz,hz0⟩ : ∃z:Int,(if x=n then (0:Int) else 1)=z∧0≤z:=⟨_,rfl,by split<;>omega⟩
    rw[hz]
    simp -dsimp (maxSteps:=1000000) (disch:=first|omega|(simp only[new_n,put_n];omega)|decide +kernel|(repeat first|rw[new_n]|rw[put_n])) only[wpS,wpT,Nat.reduceEqDiff]
    refine⟨Y1.kept (by omega) zl,.inl ⟨rfl,s',sb,(e8.trans Y1).put (by omega) _,by show H6.n<g1.n;omega,get_put_same _ _ rfl,?_,?_,?_,?_,?_,?_,?_,by rw[show TR - (i+1)=q by omega];exact a12⟩⟩
    ·rw[get_put_old _ _ (by omega)];exact Y1.kept (by omega) d4
    ·rw[get_put_old _ _ (by omega)];exact Y1.kept (by omega) d5
    ·rw[get_put_old _ _ (by omega)];exact Y1.kept (by omega) d6
    ·rw[get_put_old _ _ (by omega)];exact Y1.kept (by omega) d7
    ·rw[get_put_old _ _ (by omega)];exact Y1.kept (by omega) d8
    ·rw[get_put_old _ _ (by omega)];exact Y1.kept (by omega) d9
    ·rw[get_put_old _ _ (by omega)];exact Y1.kept (by omega) d10
  ·rintro _ hd (⟨si,x0,x1,x2,x3,x4,x5,x6,x7,x8,x9,x10,x11⟩|⟨x,t,x0,x1,x2,x3,x4,x5,x6⟩)
   ·rw[Nat.sub_self,wideT] at x11
    refine .inl ⟨x3,?_⟩
    have xn:=x1.n
    obtain⟨K0,hK0⟩ : ∃K0,K0=hd.put H6.n .dead:=⟨_,rfl⟩
    have ed:Ext h0 K0:=by rw[hK0];exact x1.put (by omega) _
    have kn:K0.n=hd.n:=by rw[hK0];rfl
    have z0 : ∀j,j≠H6.n→K0.ext.get j=hd.ext.get j:=fun j hj=>by rw[hK0];exact get_put_old _ _ hj
    have z7:=(z0 (h.n+2) (by omega)).trans x8
    have z8:=(z0 (h.n+3) (by omega)).trans x9
    rw[←hK0]
    clear hK0
    simp -dsimp (maxSteps:=1000000) (disch:=first|omega|(simp only[new_n,put_n];omega)|decide +kernel|(repeat first|rw[new_n]|rw[put_n])) only[wpS,wpT,Nat.reduceEqDiff,Nat.reduceLeDiff,Nat.reduceAdd,ld44,st44,bv44,st33,ld33,z7,z8]
    refine⟨(ed.put (by omega) _).put (by omega) _,by omega,.inr ⟨ek0.trans x11,?_⟩⟩
    rw[←wd_zero]
    rfl
   ·refine .inr (.inr ⟨x3,?_⟩)
    have xn:=x1.n
    obtain⟨K0,hK0⟩ : ∃K0,K0=hd.put H6.n .dead:=⟨_,rfl⟩
    have ed:Ext h0 K0:=by rw[hK0];exact x1.put (by omega) _
    have kn:K0.n=hd.n:=by rw[hK0];rfl
    have z0 : ∀j,j≠H6.n→K0.ext.get j=hd.ext.get j:=fun j hj=>by rw[hK0];exact get_put_old _ _ hj
    have z4:=(z0 ks (by omega)).trans x4
    have z7:=(z0 (h.n+2) (by omega)).trans x5
    have z8:=(z0 (h.n+3) (by omega)).trans x6
    rw[←hK0]
    clear hK0
    simp -dsimp (maxSteps:=1000000) (disch:=first|omega|(simp only[new_n,put_n];omega)|decide +kernel|(repeat first|rw[new_n]|rw[put_n])) only[wpS,wpT,Nat.reduceEqDiff,Nat.reduceLeDiff,ld44,bv44,ld33,row_of z7,row_of z8,wdC_len,wd_take0]
    exact⟨ed,by omega,.inl ⟨x,t,ek0.trans x0,rfl,z4⟩⟩
end Go.Id

namespace Go.Id
open Go
open Nat (reduceAdd reduceEqDiff reduceLeDiff)
set_option maxHeartbeats 16000000
noncomputable def wideR (s n:Nat):Value:=if wdI n<1 then .tuple #[wdV 0,chV 0,KI 2] else match drawN n s with
 | none=>.tuple #[wdV 0,chV 0,KI 9]
 | some p=>.tuple #[wdV p.1,chV p.2,KI 0]
theorem chWide_ok {h:IH} {s n:Nat} (hn:n<W8) (hs:s<18446744073709551616) :
  WV Proofs.Tryz.prog (.func (.func 177) #[] #[]) [chV s,wdV n] h fun r h'=>Ext h h'∧r=wideR s n:=by
 unfold wideR
 obtain⟨H0,hH0⟩ : ∃H,H=(((h.new (.cells [K64 s] 0 none)).new (.cells (wdC n) 0 none)).new (.cells [ZW,ZW,ZW,ZW,ZW,ZW,ZW,ZW] 0 none)).new (.cells [.int .u64 0] 0 none):=⟨_,rfl⟩
 have nH0:H0.n=h.n+4:=by rw[hH0];rfl
 have E0:Ext h H0:=by rw[hH0];exact((((Ext.refl h).new _).new _).new _).new _
 have c2:H0.ext.get h.n=some (.cells [K64 s] 0 none):=by rw[hH0];simp (disch:=try exact dx) only[get_new_same,get_new_old]
 have c3:H0.ext.get (h.n+1)=some (.cells (wdC n) 0 none):=by rw[hH0];simp (disch:=try exact dx) only[get_new_same,get_new_old]
 have c4:H0.ext.get (h.n+1+1)=some (.cells [ZW,ZW,ZW,ZW,ZW,ZW,ZW,ZW] 0 none):=by rw[hH0];simp (disch:=try exact dx) only[get_new_same,get_new_old]
 have c5:H0.ext.get (h.n+1+1+1)=some (.cells [.int .u64 0] 0 none):=by rw[hH0];simp (disch:=try exact dx) only[get_new_same]
 refine enter (nt:=34) (rs:=[.cell 4 44,.cell 5 63,.tmp 6]) Proofs.Tryz.func177 rfl rfl rfl (by simp) ?_
 simp -dsimp (maxSteps:=1000000) (disch:=try exact dx) only[wpS,reduceEqDiff,reduceLeDiff,reduceAdd,zc44,zc63,ld44,chV,cells8,wdC_len,wd_take0]
 rw[←hH0]
 clear hH0
 refine call (wsign_ok n hn) ?_
 rintro _ h1 ⟨X1,rfl⟩
 have m1:=X1.n
 have q4:=X1.kept (by omega) c4
 have q5:=X1.kept (by omega) c5
 by_cases cn:wdI n<1
 ·rw[if_pos cn]
  obtain⟨z,hz,hz0⟩ : ∃z:Int,(if wdI n<0 then (-1:Int) else if wdI n=0 then 0 else 1)=z∧z<1:=⟨_,rfl,by by_cases c:wdI n<0<;>simp[c]<;>by_cases c2:wdI n=0<;>simp[c2]<;>omega⟩
  rw[hz]
  have X:=E0.trans X1
  simp -dsimp (maxSteps:=1000000) (disch:=try exact dx) only[wpS,wpT,reduceEqDiff,reduceLeDiff,reduceAdd,ld44,bv44,bv63,st44,st63,ld63,q4,q5,tk1]
  refine⟨(X.put (by omega) _).put (by omega) _,?_⟩
  rw[←wd_zero]
  rfl
 rw[if_neg cn,if_neg (by omega),if_neg (by omega)]
 have nH:n<H8:=by
  apply Classical.byContradiction
  intro hh
  unfold wdI at cn
  rw[if_neg hh] at cn
  omega
 have n0:0<n:=by
  apply Classical.byContradiction
  intro hh
  have:n=0:=by omega
  subst this
  unfold wdI at cn
  rw[if_pos nH] at cn
  omega
 simp -dsimp (maxSteps:=1000000) (disch:=try exact dx) only[wpS,wpT,reduceEqDiff,reduceLeDiff,ld63,row_of (X1.kept (by omega) c2),tk1]
 refine call (chfrom_ok (s:=s)) ?_
 rintro _ _ ⟨rfl,rfl⟩
 obtain⟨H1,hH1⟩ : ∃H,H=(h1.new (.cells [K64 s] 0 none)).new (.cells [K64 s] 0 none):=⟨_,rfl⟩
 have n1:H1.n=h1.n+2:=by rw[hH1];rfl
 have E1:Ext h1 H1:=by rw[hH1];exact((Ext.refl _).new _).new _
 have gk:H1.ext.get (h1.n+1)=some (.cells [K64 s] 0 none):=by rw[hH1];simp (disch:=try exact dx) only[get_new_same]
 rw[←hH1]
 clear hH1
 simp -dsimp (maxSteps:=1000000) (disch:=try exact dx) only[wpS,reduceEqDiff,reduceLeDiff,ld44,row_of ((X1.trans E1).kept (by omega) c3),wdC_len,wd_take0]
 refine call (swide_ok E1 (Nat.le_succ _) (by omega) gk n0 nH hs) ?_
 rintro _ h2 ⟨X2,hn2,⟨x,t,ht,rfl,gt⟩|⟨ht,rfl⟩⟩
 ·rw[ht]
  have hx:=drawN_lt n0 hs ht
  have r4:=X2.kept (by omega) q4
  have r5:=X2.kept (by omega) q5
  obtain⟨H3,hH3⟩ : ∃H,H=(h2.new (.cells [ZW,ZW,ZW,ZW,ZW,ZW,ZW,ZW] 0 none)).put h2.n (.cells (wdC x) 0 none):=⟨_,rfl⟩
  have E3:Ext h2 H3:=by rw[hH3];exact((Ext.refl _).new _).put (Nat.le_refl _) _
  have n3:H3.n=h2.n+1:=by rw[hH3];rfl
  have g3:H3.ext.get h2.n=some (.cells (wdC x) 0 none):=by rw[hH3];simp (disch:=try exact dx) only[get_put_same]
  have s4:=E3.kept (by omega) r4
  have s5:=E3.kept (by omega) r5
  have st:=E3.kept (by omega) gt
  simp -dsimp (maxSteps:=1000000) (disch:=try exact dx) only[wpS,wpT,reduceEqDiff,reduceLeDiff,reduceAdd,zc44,st44,cells8,wdC_len,wdC_all,wd_spl]
  rw[←hH3]
  clear hH3
  have X:=(((E0.trans X1).trans X2).trans E3)
  refine drawn [(5,[7])] (by kernel_rfl) (by kernel_rfl) rfl ?_
  simp -dsimp (maxSteps:=1000000) (disch:=try exact dx) only[wpS,wpT,reduceEqDiff,reduceLeDiff,reduceAdd,ld44,st44,st63,ld63,fa233_0,fa231_0,row_of g3,row_of st,s4,s5,tk1,wdC_len,wdC_all,wd_spl,wd_take0]
  refine⟨wpSteady_one rfl rfl rfl rfl (steady_load (v:=.agg #[K64 t]) rfl ?_ ?_),?_⟩
  ·have r:=row_of st
   simp -dsimp (maxSteps:=1000000) (disch:=try exact dx) only[wpS,wpT,reduceLeDiff,ld63,r,tk1]
  ·have r:=row_of ((get_put_old (k:=h.n+1+1) H3 (.cells (wdC x) 0 none) (j:=h1.n+1) (by omega)).trans st)
   simp -dsimp (maxSteps:=1000000) (disch:=try exact dx) only[wpS,wpT,reduceLeDiff,ld63,r,tk1]
  simp -dsimp (maxSteps:=1000000) (disch:=try exact dx) only[wpS,wpT,reduceEqDiff,reduceLeDiff,reduceAdd,ld44,ld63,tk1,wdC_len,wd_take0]
  exact⟨(X.put (by omega) _).put (by omega) _,rfl⟩
 ·rw[ht]
  have r4:=X2.kept (by omega) q4
  have r5:=X2.kept (by omega) q5
  simp -dsimp (maxSteps:=1000000) (disch:=try exact dx) only[wpS,wpT,reduceEqDiff,reduceLeDiff,reduceAdd,zc44,ld44,bv44,bv63,st44,st63,ld63,r4,r5,cells8,wdC_len,wdC_all,wd_spl,tk1]
  refine⟨(((((E0.trans X1).trans X2).new _).put (by omega) _).put (by omega) _).put (by omega) _,?_⟩
  rw[←wd_zero]
  rfl
end Go.Id

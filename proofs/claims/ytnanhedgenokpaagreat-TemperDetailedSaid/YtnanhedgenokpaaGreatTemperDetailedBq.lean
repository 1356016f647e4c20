/-
  Contracts: package wide: Cmp, for all numbers; package kernel: negative, read, told. Contracts: package kernel: told; the filtered kernel as plain numbers.
-/
import Derived.Test.YtnanhedgenokpaaGreatTemperDetailedAt
import Derived.Test.YtnanhedgenokpaaGreatTemperDetailedBp
import Derived.Test.YtnanhedgenokpaaGreatTemperDetailedBk
import Derived.Test.YtnanhedgenokpaaGreatTemperDetailedBl
import Derived.Test.YtnanhedgenokpaaGreatTemperDetailedBe
import Derived.Test.YtnanhedgenokpaaGreatTemperDetailedBf
import Derived.Test.YtnanhedgenokpaaGreatTemperDetailedBd
import Derived.Test.YtnanhedgenokpaaGreatTemperDetailedAs
set_option linter.unusedVariables false
set_option linter.unusedSimpArgs false
set_option linter.defProp false
set_option linter.deprecated false
namespace Go.Id
open Go
open Go.Proofs.Tryz (prog)
open Nat renaming reduceAdd→zA,reduceEqDiff→zE,reduceLeDiff→zL
set_option maxHeartbeats 16000000
def topN (a:Nat):Nat:=if a<H8 then a+H8 else a - H8
theorem topN_lt {a:Nat} (ha:a<W8):topN a<W8:=by
 have:=H8_two;unfold topN;split<;>omega
theorem topN_wdI {a:Nat} (ha:a<W8):((topN a:Nat):Int)=wdI a+H8:=by
 have:=H8_two;unfold topN wdI;split<;>omega
theorem turn_top {a:Nat} (ha:a<W8) : ∃w:Nat,(∀ox oy,binop prog .xor 28 ox oy (K64 (wrd a 7)) (.int .u64 9223372036854775808)=some (K64 w))∧IH.splice (wdC a) 7 [K64 w]=wdC (topN a):=by
 by_cases c:a<H8
 ·refine⟨wrd a 7+9223372036854775808,fun ox oy=>?_,?_⟩
  ·rw[←xor_top (wrd_top c)];exact binop_xor_u64 _ _ ox oy _ 9223372036854775808 (wrd_lt a 7) (by decide)
  ·rw[topN,if_pos c];exact wdC_top c
 ·have h2:=H8_two
  obtain⟨b,hb⟩ : ∃b,b=a - H8:=⟨_,rfl⟩
  have hb8:b<H8:=by omega
  have ea:b+H8=a:=by omega
  have key:=wdC_top hb8
  rw[ea] at key
  have lt:=wrd_top hb8
  have e7:wrd a 7=wrd b 7+9223372036854775808:=by
   have g:=wdC_get a 7 (by omega)
   rw[←key,splice_set (by rw[wdC_len];omega),List.getElem?_set_self (by rw[wdC_len];omega)] at g
   injection g with g
   injection g with _ g
   omega
  refine⟨wrd b 7,fun ox oy=>?_,?_⟩
  ·have ex:(wrd b 7+9223372036854775808) ^^^ 9223372036854775808=wrd b 7:=by
    rw[←xor_top lt,Nat.xor_assoc,Nat.xor_self,Nat.xor_zero]
   have:=binop_xor_u64 prog 28 ox oy (wrd b 7+9223372036854775808) 9223372036854775808 (by omega) (by decide)
   rw[ex] at this
   rw[e7];exact this
  ·rw[←key,splice_set (n:=7) (cs:=wdC b) (by rw[wdC_len];omega),splice_set (by rw[List.length_set,wdC_len];omega),List.set_set,topN,if_neg c,←hb]
   apply List.ext_getElem?
   intro j
   by_cases hj:7=j
   ·subst hj
    rw[List.getElem?_set_self (by rw[wdC_len];omega),wdC_get b 7 (by omega)]
   ·rw[List.getElem?_set_ne hj]
theorem wcmpZ_ok {h:IH} (a b:Nat) (ha:a<W8) (hb:b<W8):WV prog (.func (.func 148) #[] #[]) [wdV a,wdV b] h fun r h'=>Ext h h'∧r=KI (if wdI a<wdI b then -1 else if wdI a=wdI b then 0 else 1):=by
 have j7:idxAt 7 8=some 7:=rfl
 have ga:=wdC_get a 7 (by omega)
 have gb:=wdC_get b 7 (by omega)
 obtain⟨wa,xa,sa⟩:=turn_top ha
 obtain⟨wb,xb,sb⟩:=turn_top hb
 obtain⟨H0,hH0,n0,E0,k0,k1⟩:=boxes2 h (wdC a) (wdC b)
 refine enter (nt:=16) (rs:=[.tmp 4]) Proofs.Tryz.func148 rfl rfl rfl (by simp) ?_
 simp -dsimp (disch:=try exact dx) only[wpS,zE,zA,ar30,cells8]
 rw[←hH0]
 clear hH0
 simp -dsimp (disch:=try exact dx) only[wpS,wpT,zE,zL,zA,ar30,ld28,st28,ld30,row_of k0,row_of k1,k0,k1,ar30,j7,ga,gb,xa,xb,wdC_len,sa,sb,wd_take0]
 refine call (sizeOrder_ok (topN a) (topN b) (topN_lt ha) (topN_lt hb)) ?_
 rintro _ h1 ⟨X1,rfl⟩
 have ta:=topN_wdI ha
 have tb:=topN_wdI hb
 have e:(if topN a<topN b then (-1:Int) else if topN a=topN b then 0 else 1)=if wdI a<wdI b then -1 else if wdI a=wdI b then 0 else 1:=by
  by_cases c1:wdI a<wdI b
  ·rw[if_pos c1,if_pos (by omega)]
  ·rw[if_neg c1,if_neg (by omega)]
   by_cases c2:wdI a=wdI b
   ·rw[if_pos c2,if_pos (by omega)]
   ·rw[if_neg c2,if_neg (by omega)]
 rw[e]
 have EE:Ext h ((H0.put h.n (.cells (wdC (topN a)) 0 none)).put (h.n+1) (.cells (wdC (topN b)) 0 none)):=(E0.put (Nat.le_refl _) _).put (by omega) _
 simp -dsimp (disch:=try exact dx) only[wpS,wpT,zE]
 exact EE.trans X1
theorem ld_wd {H:IH} {k n:Nat} (g:H.ext.get k=some (.cells (wdC n) 0 none)):load prog H 30 (ptr (2*k) 0)=some (wdV n):=by
 have r:=row_of g
 simp -dsimp (disch:=try exact dx) only[wpS,zL,ld30,r,wdC_len,wd_take0]
 rfl
theorem kneg1_ok {h:IH} {least:Int} {n b:Nat} (hn:n<W8) (hl:In64 least) (hb:b<h.n) (g:h.ext.get b=some (.cells [KI least] 0 none)) :
  WV prog (.func (.func 176) #[] #[ptr (2*b) 0]) [wdV n] h fun r h'=>Ext h h'∧r=.bool (decide (wdI n<least)):=by
 obtain⟨H0,hH0⟩ : ∃H,H=h.new (.cells (wdC n) 0 none):=⟨_,rfl⟩
 have E0:Ext h H0:=by rw[hH0];exact(Ext.refl h).new _
 have n0:H0.n=h.n+1:=by rw[hH0];rfl
 have k0:H0.ext.get h.n=some (.cells (wdC n) 0 none):=by rw[hH0];simp (disch:=try exact dx) only[get_new_same]
 have k1:=E0.kept hb g
 refine enter (nt:=9) (rs:=[.tmp 3]) Proofs.Tryz.func176 rfl rfl rfl (by simp) ?_
 simp -dsimp (disch:=try exact dx) only[wpS,zE,zA,cells8]
 rw[←hH0]
 clear hH0
 have X0:=Ext.refl H0
 have L1:=ld_wd k0
 have L2:=ld_int k1
 refine drawn [(0,[3])] (by kernel_rfl) (by kernel_rfl) rfl ?_
 simp -dsimp (disch:=try exact dx) only[wpS,zE,ld3,L1,row_of k1]
 refine call (wideOf_ok least hl) ?_
 rintro _ h1 ⟨X1,rfl⟩
 have m1:=X1.n
 simp -dsimp (disch:=try exact dx) only[wpS,zE]
 refine call (wcmpZ_ok n (wideN least) hn (wideN_lt (inW64 hl))) ?_
 rintro _ h2 ⟨X2,rfl⟩
 have X12:=X1.trans X2
 rw[wdI_wideN (inW64 hl)]
 by_cases c:wdI n<least
 ·rw[if_pos c,decide_eq_true c]
  simp -dsimp (disch:=try exact dx) only[wpS,wpT,zE]
  refine⟨by repeat' first|refine wpSteady_c2 ?_ ?_|refine wpSteady_t2 ?_ ?_|exact wpSteady_one rfl rfl rfl rfl (steady_ext (H0:=H0) rfl (by omega) (by assumption) (by assumption) (by with_reducible assumption)),?_⟩
  simp -dsimp (disch:=try exact dx) only[wpS,wpT,zE,zA]
  exact E0.trans X12
 ·rw[if_neg c,decide_eq_false c]
  obtain⟨z,hz,hz0⟩ : ∃z:Int,(if wdI n=least then (0:Int) else 1)=z∧0≤z:=⟨_,rfl,by split<;>omega⟩
  rw[hz]
  simp -dsimp (disch:=try exact dx) only[wpS,wpT,zE]
  refine⟨by repeat' first|refine wpSteady_c2 ?_ ?_|refine wpSteady_t2 ?_ ?_|exact wpSteady_one rfl rfl rfl rfl (steady_ext (H0:=H0) rfl (by omega) (by assumption) (by assumption) (by with_reducible assumption)),?_⟩
  simp -dsimp (disch:=try exact dx) only[wpS,wpT,zE,zA]
  exact E0.trans X12
open Classical in
theorem wicontainsF_ok {h:IH} {v F:Value} {l:List Nat} (hv:WiSl h v l) (B:Nat→Prop) (hF : ∀h1 p,Ext h h1→p∈l→WV prog F [wdV p] h1 fun r h2=>Ext h1 h2∧r=.bool (decide (B p))) :
  WV prog (.func (.func 78) #[] #[]) [v,F] h fun r h'=>Ext h h'∧r=.bool (decide (∃p∈l,B p)):=by
 have hlb:=hv.2.1
 have hidx:WV prog (.func (.func 171) #[] #[]) [v,F] h fun r h'=>Ext h h' ∧ ∃c:Int,r=KI c∧(0≤c ↔ ∃p∈l,B p):=by
  refine enter (nt:=19) (rs:=[.tmp 4]) Proofs.Tryz.func171 rfl rfl rfl (by simp) ?_
  simp -dsimp (disch:=try exact dx) only[wpS,zE,zA,hv.1.len sl42]
  refine loop (fun m fr h1 => ∃i:Nat,i+m=l.length∧Ext h h1∧(∀(j:Nat) p,j<i→l[j]?=some p → ¬B p)∧fget fr 0=some v∧fget fr 1=some F∧fget fr 7=some (KN l.length)∧fget fr 8=some (KN i)) l.length
   ⟨0,by omega,Ext.refl _,fun j p hj=>by omega,by simp,by simp,by simp,by simp⟩ ?_
  rintro m fr h1 ⟨i,him,hE,hno,f0,f1,f7,f8⟩
  simp -dsimp (disch:=try exact dx) only[wpS,f7,f8]
  refine bq_intro ?_ ?_<;>intro hc<;>simp only[decide_eq_true_eq,decide_eq_false_iff_not] at hc
  ·have hi:i<l.length:=by omega
   obtain⟨p,hp⟩ : ∃p,l[i]?=some p:=⟨_,List.getElem?_eq_getElem hi⟩
   have hpm:=List.mem_of_getElem? hp
   simp -dsimp (disch:=try exact dx) only[wpS,wpT,zE,f0,f1,f8,hv.1.idx es42 hi,hv.ld hE.keep hp]
   refine call (hF h1 p hE hpm) ?_
   rintro _ h2 ⟨hE2,rfl⟩
   have E2:=hE.trans hE2
   by_cases hk:B p
   ·rw[decide_eq_true hk]
    simp -dsimp (disch:=try exact dx) only[wpS,zE]
    exact⟨E2,(i:Int),rfl,fun _=>⟨p,hpm,hk⟩,fun _=>by omega⟩
   ·rw[decide_eq_false hk]
    simp -dsimp (disch:=try exact dx) only[wpS,zE,f8]
    refine⟨m - 1,by omega,i+1,by omega,E2,?_,by simp[f0],by simp[f1],by simp[f7],by simp⟩
    intro j q hj hq
    by_cases hji:j=i
    ·subst hji;rw[hp] at hq;cases hq;exact hk
    ·exact hno j q (by omega) hq
  ·simp -dsimp (disch:=try exact dx) only[wpS,wpT]
   refine⟨hE,-1,rfl,fun h=>by omega,fun⟨p,hp,hb⟩=>?_⟩
   obtain⟨j,hj⟩:=List.getElem?_of_mem hp
   have:=(List.getElem?_eq_some_iff.1 hj).1
   exact absurd hb (hno j p (by omega) hj)
 refine enter (nt:=9) (rs:=[.tmp 4]) Proofs.Tryz.func78 rfl rfl rfl (by simp) ?_
 simp -dsimp (disch:=try exact dx) only[wpS,zE,zA]
 refine call hidx ?_
 rintro _ h1 ⟨hE,c,rfl,hc⟩
 simp -dsimp (disch:=try exact dx) only[wpS,zE]
 exact⟨hE,by rw[decide_eq_decide.2 hc]⟩
open Classical in
theorem knegative_ok {h:IH} {v:Value} {l:List Nat} {least:Int} (hv:WiSl h v l) (hl:In64 least) :
  WV prog (.func (.func 89) #[] #[]) [v,KI least] h fun r h'=>Ext h h'∧r=.bool (decide (∃p∈l,wdI p<least)):=by
 have E1:Ext h (h.new (.cells [KI least] 0 none)):=(Ext.refl h).new _
 refine enter (nt:=8) (rs:=[.tmp 4]) Proofs.Tryz.func89 rfl rfl rfl (by simp) ?_
 simp -dsimp (disch:=try exact dx) only[wpS,zE,zA]
 refine call (wicontainsF_ok (hv.keep E1.keep) (fun p=>wdI p<least) (fun h1 p hE hp=>(kneg1_ok (b:=h.n) (hv.2.2 p hp) hl (by have:=hE.n;simp only[new_n] at this;omega) (hE.kept (by simp) (get_new_same _ _ rfl))).mono fun r h2 ⟨a,b⟩=>⟨a,by rw[b];congr⟩)) ?_
 rintro _ h1 ⟨X1,rfl⟩
 simp -dsimp (disch:=try exact dx) only[wpS,zE]
 exact⟨E1.trans X1,by congr⟩
def wrat (n:Nat):Rat:=((wdI n:Int):Rat)
theorem kread_ok {h:IH} {v:Value} {l:List Nat} (hv:WiSl h v l) (hl:l.length≤1000):WV prog (.func (.func 90) #[] #[]) [v] h fun r h'=>Ext h h'∧ElSl PRat h' r (l.map wrat):=by
 refine enter (nt:=20) (rs:=[.tmp 2]) Proofs.Tryz.func90 rfl rfl rfl (by simp) ?_
 simp -dsimp (disch:=try exact dx) only[wpS,zE,hv.1.len sl42]
 refine loop (fun m fr h1 => ∃(i:Nat) (out:Value) (cs:List Value),i+m=l.length∧Ext h h1∧Acc h1 h.n 4 out ((l.take i).map wrat).length cs∧ElCs PRat h1 ((l.take i).map wrat) cs∧fget fr 3=some out∧fget fr 6=some v∧fget fr 7=some (KN l.length)∧fget fr 8=some (KN i)) l.length
  ⟨0,.slice none 0 0,[],by omega,Ext.refl _,Acc.nil h _ (by omega),by simp[ElCs],by simp,by simp,by simp,by simp⟩ ?_
 rintro m fr h1 ⟨i,out,cs,him,hE,hA,hC,f3,f6,f7,f8⟩
 simp -dsimp (disch:=try exact dx) only[wpS,f7,f8]
 refine bq_intro ?_ ?_<;>intro hc<;>simp only[decide_eq_true_eq,decide_eq_false_iff_not] at hc
 ·have hi:i<l.length:=by omega
  obtain⟨p,hp⟩ : ∃p,l[i]?=some p:=⟨_,List.getElem?_eq_getElem hi⟩
  have wp:=hv.2.2 p (List.mem_of_getElem? hp)
  simp -dsimp (disch:=try exact dx) only[wpS,wpT,zE,zL,zA,ld30,zc30,st30,f3,f6,f8,hv.1.idx es42 hi,hv.ld hE.keep hp,cells8,wdC_len,wdC_all,wd_spl,wd_take0]
  have E1:Ext h1 ((h1.new (.cells [ZW,ZW,ZW,ZW,ZW,ZW,ZW,ZW] 0 none)).put h1.n (.cells (wdC p) 0 none)):=((Ext.refl h1).new _).put (Nat.le_refl _) _
  refine call (longer_ok p wp) ?_
  rintro r1 h2 ⟨X2,p2⟩
  simp -dsimp (disch:=try exact dx) only[wpS,zE]
  refine call (whole_ok p2) ?_
  rintro r h3 ⟨X3,p3⟩
  obtain⟨a3,s3,b3,t3,rfl,_,_,_,o1,_,o2,o3,o4⟩:=p3.parts
  have X13:=(E1.trans X2).trans X3
  have n1:=hE.n
  have n2:=X13.n
  obtain⟨out',h5,hap,hA5,hC5,hG5,hE5⟩:=read4 ap153 (by omega) kept_p (hA.ext X13) (hC.keep kept_p X13.keep) p3 (by simp[o1,o2,o3,o4]) (by simp;omega) (by omega) (hE.trans X13) (Nat.le_refl _)
  have eT:(l.take i).map wrat ++ [((wdI p:Int):Rat)]=(l.take (i+1)).map wrat:=by rw[take_snoc hp,List.map_append];rfl
  rw[eT] at hA5 hC5
  simp -dsimp (disch:=try exact dx) only[wpS,wpT,zE,zL,zA,bs153,ba153_153,f8,hap]
  exact⟨m - 1,by omega,i+1,out',_,by omega,hE5,hA5,hC5,by simp,by simp[f6],by simp[f7],by simp⟩
 ·obtain rfl:i=l.length:=by omega
  rw[List.take_length] at hA hC
  simp -dsimp (disch:=try exact dx) only[wpS,wpT,zE,f3]
  exact⟨hE,cs,hA.sl,hC,by simp;omega⟩
end Go.Id

namespace Go.Id
open Go
open Nat renaming reduceAdd→zA,reduceEqDiff→zE,reduceLeDiff→zL
set_option maxHeartbeats 16000000
theorem PRat.keepZ {h h':IH} {v:Value} {q:Rat} (p:PRat h v q) (e:KeepZ 1 h h'):PRat h' v q:=by
 obtain⟨a,s,b,t,h1,⟨s1,e1,ds,d1,d2⟩,⟨s2,e2,es,d3,d4⟩⟩:=p
 exact⟨a,s,b,t,h1,⟨s1,e1,ds,⟨d1.1.keepZ e,d1.2⟩,d2⟩,⟨s2,e2,es,⟨d3.1.keepZ e,d3.2⟩,d4⟩⟩
theorem RowB.ld {h:IH} {k:Nat} {v:Value} {n:Nat} {cs:List Value} (r:RowB h 4 k v n cs) {R:IH→Value→Rat→Prop} {j:Nat} {q:Rat} (x:RatAt R h cs j q) (hj:j<n) {P:Program} {t:TypeId} (hT:isAggT P t=some true) (hS:sizeT P t=some 4) :
  ∃a s b u,load P h t (elemAddr v (j*4))=some (.agg #[a,s,b,u])∧R h (.agg #[a,s,b,u]) q:=by
 obtain⟨a,s,b,u,h1,h2⟩:=x
 have hl:=r.len
 refine⟨a,s,b,u,?_,h2⟩
 rw[r.sl.ldAgg (Keep.refl h) (by omega) (by omega) hT hS,h1]
theorem repl_len (z:List Value) : ∀n,(repl n z).length=n*z.length
 | 0=>by rw[repl_zero];simp
 | n+1=>by rw[repl_succ,List.length_append,repl_len z n,Nat.add_mul];omega
open Classical in
theorem ktold_ok {h:IH} {v:Value} {l:List Rat} (hv:ElSl PRat h v l) (hl:l.length≤1000) :
  WV Proofs.Tryz.prog (.func (.func 97) #[] #[]) [v] h fun r h'=>Ext h h'∧((∀q∈l,QW q) → ∃w,r=.tuple #[w,KI 0]∧ShSl h' w (l.map shq))∧(¬(∀q∈l,QW q)→r=.tuple #[.slice none 0 0,KI 6]):=by
 obtain⟨cs0,hs0,_,_⟩:=id hv
 refine enter (nt:=29) (rs:=[.tmp 2,.tmp 3]) Proofs.Tryz.func97 rfl rfl rfl (by simp) ?_
 simp -dsimp (disch:=try exact dx) only[wpS,zE,hs0.len sl153]
 refine loop (fun m fr h1 => ∃(i:Nat) (out:Value),i+m=l.length∧Ext h h1∧Acc h1 h.n 16 out i (shL ((l.take i).map shq))∧(∀(j:Nat) q,j<i→l[j]?=some q→QW q)∧fget fr 4=some out∧fget fr 9=some v∧fget fr 10=some (KN l.length)∧fget fr 11=some (KN i)) l.length
  ⟨0,.slice none 0 0,by omega,Ext.refl _,Acc.nil h _ (by omega),fun j q hj=>by omega,by simp,by simp,by simp,by simp⟩ ?_
 rintro m fr h1 ⟨i,out,him,hE,hA,hW,f4,f9,f10,f11⟩
 simp -dsimp (disch:=try exact dx) only[wpS,f10,f11]
 refine bq_intro ?_ ?_<;>intro hc<;>simp only[decide_eq_true_eq,decide_eq_false_iff_not] at hc
 ·have hi:i<l.length:=by omega
  obtain⟨q,hq⟩ : ∃q,l[i]?=some q:=⟨_,List.getElem?_eq_getElem hi⟩
  obtain⟨a,s,b,u,ld,pq⟩:=hv.ld kept_p hE.keep hq ag139 sz139
  obtain⟨_,_,_,_,he,_,_,_,o1,_,o2,o3,o4⟩:=pq.parts
  cases he
  simp -dsimp (disch:=try exact dx) only[wpS,wpT,zE,zL,zA,ld139,zc139,st139,f9,f11,hs0.idx es153 hi,ld,o1,o2,o3,o4,tk4']
  have E1:Ext h1 ((h1.new (.cells ZR 0 none)).put h1.n (.cells [a,s,b,u] 0 none)):=((Ext.refl h1).new _).put (Nat.le_refl _) _
  refine call (rtold_ok (pq.keep E1.keep)) ?_
  rintro _ h2 ⟨X2,rfl⟩
  have E2:=E1.trans X2
  have n1:=hE.n
  have n2:=E2.n
  by_cases c:QW q
  ·rw[if_pos c,shareV_shq]
   simp -dsimp (disch:=try exact dx) only[wpS,wpT,zE,zL,zA,zc32,st32,shV_cells,shC_len,shC_all,sh_sp3]
   obtain⟨H3,hH3⟩ : ∃H,H=(h2.new (.cells Z16 0 none)).put h2.n (.cells (shC (shq q).1 (shq q).2) 0 none):=⟨_,rfl⟩
   have E3:Ext h2 H3:=by rw[hH3];exact((Ext.refl h2).new _).put (Nat.le_refl _) _
   have n3:=E3.n
   have g3:H3.ext.get h2.n=some (.cells (shC (shq q).1 (shq q).2) 0 none):=by rw[hH3];simp (disch:=try exact dx) only[get_put_same]
   rw[←hH3]
   clear hH3
   have E23:=E2.trans E3
   obtain⟨out',h5,hap,hA5,hG5,hE5⟩:=(hA.ext E23).appN (P:=Proofs.Tryz.prog) (t:=60) ap60 (m:=1) (new:=shC (shq q).1 (shq q).2) (by omega) (by rw[shC_len]) (shC_all _ _) (by omega) (by omega) (hE.trans E23) (Nat.le_refl _)
   have eT:shL ((l.take i).map shq) ++ shC (shq q).1 (shq q).2=shL ((l.take (i+1)).map shq):=by
    rw[take_snoc hq,List.map_append,List.map_cons,List.map_nil,shL,shL,List.flatMap_append];simp
   rw[eT] at hA5
   simp -dsimp (disch:=try exact dx) only[wpS,wpT,zE,zL,zA,ld32,bs60,ba60_60,f4,f11,row_of g3,shC_len,sh_sp3,sh_take,hap]
   refine⟨m - 1,by omega,i+1,out',by omega,hE5,hA5,fun j p hj hp=>?_,by simp,by simp[f9],by simp[f10],by simp⟩
   by_cases hji:j=i
   ·subst hji;rw[hq] at hp;cases hp;exact c
   ·exact hW j p (by omega) hp
  ·rw[if_neg c]
   simp -dsimp (disch:=try exact dx) only[wpS,wpT,zE,zL,zA,zc32,st32,shV_cells,shC_len,shC_all,sh_sp3]
   exact⟨(hE.trans E2).trans (((Ext.refl h2).new _).put (Nat.le_refl _) _),fun hall=>absurd (hall q (List.mem_of_getElem? hq)) c,fun _=>trivial⟩
 ·obtain rfl:i=l.length:=by omega
  rw[List.take_length] at hA
  have hall : ∀q∈l,QW q:=fun q hq=>by
   obtain⟨j,hj⟩:=List.getElem?_of_mem hq
   exact hW j q (List.getElem?_eq_some_iff.1 hj).1 hj
  simp -dsimp (disch:=try exact dx) only[wpS,wpT,zE,f4]
  refine⟨hE,fun _=>⟨out,rfl,?_⟩,fun hn=>absurd hall hn⟩
  refine⟨by rw[List.length_map];exact hA.sl,by rw[List.length_map];omega,fun p hp=>?_⟩
  obtain⟨q,hq,rfl⟩:=List.mem_map.1 hp
  exact shq_lt (hall q hq)
def kAt (ll:List (List (Nat×Nat))) (i j:Nat):Rat:=rOf ((ll.getD i []).getD j (0,0))
def goQ (ll:List (List (Nat×Nat))) (t:List Nat) (i j:Nat):Rat:=if kAt ll j i*wrat (t.getD j 0) / wrat (t.getD i 0)<kAt ll i j then kAt ll j i*wrat (t.getD j 0) / wrat (t.getD i 0) else kAt ll i j
def offS (g:Nat→Rat) (i:Nat):Nat→Rat
 | 0=>1
 | j+1=>if j=i then offS g i j else offS g i j - g j
def filtQ (ll:List (List (Nat×Nat))) (t:List Nat) (i j:Nat):Rat:=if j=i then offS (goQ ll t i) i ll.length else goQ ll t i j
def filtRow (ll:List (List (Nat×Nat))) (t:List Nat) (i:Nat):List Rat:=(List.range ll.length).map (filtQ ll t i)
def filtOk (ll:List (List (Nat×Nat))) (t:List Nat):Prop:=∀i,i<ll.length → ∀q∈filtRow ll t i,QW q
def filtLL (ll:List (List (Nat×Nat))) (t:List Nat):List (List (Nat×Nat)):=(List.range ll.length).map fun i=>(filtRow ll t i).map shq
open Classical in
noncomputable def filtE (ll:List (List (Nat×Nat))) (t:List Nat):Int:=if ¬kerOk ll then 330 else if t.length≠ll.length∨(∃p∈t,wdI p<1) then 2 else if filtOk ll t then 0 else 6
theorem filtRow_len (ll:List (List (Nat×Nat))) (t:List Nat) (i:Nat):(filtRow ll t i).length=ll.length:=by simp[filtRow]
theorem filtRow_at {ll:List (List (Nat×Nat))} {t:List Nat} {i j:Nat} (hj:j<ll.length):(filtRow ll t i)[j]?=some (filtQ ll t i j):=by
 rw[filtRow,List.getElem?_map,List.getElem?_range hj];rfl
theorem filtLL_at {ll:List (List (Nat×Nat))} {t:List Nat} {i:Nat} (hi:i<ll.length):(filtLL ll t)[i]?=some ((filtRow ll t i).map shq):=by
 rw[filtLL,List.getElem?_map,List.getElem?_range hi];rfl
theorem filtLL_len (ll:List (List (Nat×Nat))) (t:List Nat):(filtLL ll t).length=ll.length:=by simp[filtLL]
theorem wrat_qb {p:Nat} (hp:p<W8):QB 512 (wrat p):=by
 refine QB.int ?_
 have hw:W8=2 ^ 512:=by decide +kernel
 rw[←hw]
 unfold wdI
 have:=H8_two
 split<;>omega
theorem wrat_ne {p:Nat} (h:1≤wdI p):wrat p≠0:=fun e=>by
 have:wdI p=0:=Rat.intCast_inj.1 e
 omega
theorem goQ_qb {ll:List (List (Nat×Nat))} {t:List Nat} {i j:Nat} (h1:QB 512 (kAt ll i j)) (h2:QB 512 (kAt ll j i)) (h3:t.getD j 0<W8) (h4:t.getD i 0<W8) (h5:1≤wdI (t.getD i 0)):QB 1536 (goQ ll t i j):=by
 have q1:=h2.mul (wrat_qb h3)
 have q2:=q1.div (wrat_qb h4) (wrat_ne h5)
 have q3:=q2.mono (b:=1536) (by omega)
 unfold goQ
 split
 ·exact q3
 ·exact h1.mono (by omega)
theorem offS_qb {g:Nat→Rat} {i:Nat} {k:Nat} : ∀{n:Nat},(∀j,j<n→QB k (g j))→QB (1+n*(k+1)) (offS g i n)
 | 0,_=>⟨by rw[offS];show 1≤2 ^ (1+0*(k+1));rw[Nat.zero_mul];decide,by rw[offS];show 1≤2 ^ (1+0*(k+1));rw[Nat.zero_mul];decide⟩
 | n+1,h=>by
  have ih:=offS_qb (i:=i) (n:=n) fun j hj=>h j (by omega)
  have e:1+(n+1)*(k+1)=1+n*(k+1)+k+1:=by rw[Nat.add_mul];omega
  rw[offS,e]
  split
  ·exact ih.mono (by omega)
  ·exact ih.sub (h n (by omega))
theorem kerOk_at {ll:List (List (Nat×Nat))} (k:kerOk ll) {i j:Nat} (hi:i<ll.length) (hj:j<ll.length) : ∃row p,ll[i]?=some row∧row.length=ll.length∧row[j]?=some p∧okS p.1 p.2∧0≤wdI p.1∧kAt ll i j=rOf p:=by
 obtain⟨h1,h2⟩:=k.2.2 _ (List.getElem_mem hi)
 have hj':j<(ll[i]).length:=by omega
 refine⟨_,_,List.getElem?_eq_getElem hi,h1,List.getElem?_eq_getElem hj',(notBad (h2.1 _ (List.getElem_mem hj'))).1,(notBad (h2.1 _ (List.getElem_mem hj'))).2,?_⟩
 unfold kAt
 simp only[List.getD_eq_getElem?_getD,List.getElem?_eq_getElem hi,Option.getD_some,List.getElem?_eq_getElem hj']
end Go.Id

namespace Go.Id
open Go
end Go.Id

namespace Go.Id
open Go
end Go.Id

namespace Go.Id
open Go
theorem Acc.setN {h:IH} {n0 sz:Nat} {v:Value} {n:Nat} {cs:List Value} (a:Acc h n0 sz v n cs) {P:Program} {t:TypeId} (hT:sizeT P t=some sz) {i:Nat} (hi:i<n) {x:Value} {xs:List Value} (hx:x.cells.toList=xs) (hxl:xs.length=sz) (hc:xs.all cellOK=true) {h0':IH} (e0:Ext h0' h) (hn0:h0'.n≤n0) :
  ∃h',store P h t (elemAddr v (i*sz)) x=some h'∧Acc h' n0 sz v n (IH.splice cs (i*sz) xs)∧Ext h0' h'∧h'.n=h.n:=by
 obtain⟨hz,hl,⟨rfl,rfl⟩|⟨k,fam,rfl,hn,h1,h2,h3,h4⟩⟩:=a
 ·omega
 ·have hle:i*sz+sz≤cs.length:=by
   rw[hl,←Nat.succ_mul];exact Nat.mul_le_mul_right _ hi
  have hsl:(IH.splice cs (i*sz) xs).length=n*sz:=by
   simp only[IH.splice,List.length_append,List.length_take,List.length_drop]
   omega
  have k2:2*k / 2=k:=by omega
  have k1:(2*k % 2 == 1)=false:=by simp
  have hsx:x.cells.size=sz:=by rw[←Array.length_toList,hx,hxl]
  have hst:store P h t (elemAddr (.slice (some ⟨2*k,0,none⟩) n (2*n)) (i*sz)) x=h.wr (2*k) (i*sz) xs:=by
   simp only[elemAddr,Nat.zero_add,store,asAddr,ptr,hT,hx,hsx,hc,beq_self_eq_true,Bool.and_self,cond_true]
  have hle:Nat.ble (i*sz+xs.length) cs.length=true:=by rw[Nat.ble_eq,hxl];exact hle
  rw[hst]
  cases fam with
  | none =>
   refine⟨h.put k (.cells (IH.splice cs (i*sz) xs) sz none),?_,⟨hz,hsl,.inr ⟨k,none,rfl,hn,h1,h2,get_put_same _ _ rfl,trivial⟩⟩,e0.put (by omega) _,rfl⟩
   ·simp only[IH.wr,k1,k2,h3,hle,cond_true,cond_false];rfl
  | some f =>
   obtain⟨a1,a2,rest,a3,a4⟩:=h4
   refine⟨{ h with ext:=(IH.killAll h.ext (((k :: rest).filter (· != k)))).set k (.cells (IH.splice cs (i*sz) xs) sz none) },?_,⟨hz,hsl,.inr ⟨k,none,rfl,hn,h1,h2,?_,trivial⟩⟩,⟨e0.n,e0.base,fun j hj=>?_,e0.fams⟩,rfl⟩
   ·simp only[IH.wr,k1,k2,h3,hle,cond_true,cond_false,a3]
   ·simp[Tr.get_set]
   ·have hjk:j≠k:=by omega
    rw[Tr.get_set,if_neg hjk,get_killAll,if_neg]
    ·exact e0.get j hj
    ·intro hm
     simp only[List.mem_filter,List.mem_cons,bne_iff_ne,ne_eq] at hm
     rcases hm with⟨rfl|hm,hne⟩
     ·exact hne rfl
     ·have:=a4 j hm;omega
end Go.Id

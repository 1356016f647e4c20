/-
  Contracts: reference 34: within, Check, Targets, Chance. Contracts: reference 34: Chance; slices.Equal over wide numbers; law 34's drafts: lists, weights.
-/
import Derived.Test.YtjhnilfelokpcaaGreatTemperLevelsAt
import Derived.Test.YtjhnilfelokpcaaGreatTemperLevelsBm
import Derived.Test.YtjhnilfelokpcaaGreatTemperLevelsBh
set_option linter.unusedVariables false
set_option linter.unusedSimpArgs false
set_option linter.defProp false
set_option linter.deprecated false
namespace Go.Id
open Go
open Go.Proofs.Tryz (prog)
open Nat renaming reduceAdd→zA,reduceEqDiff→zE,reduceLeDiff→zL
set_option maxHeartbeats 16000000
theorem rwithin_ok {h:IH} {v:Value} {l:List Int} {most:Int} (hv:InSl h v l) :
  WV prog (.func (.func 56) #[] #[]) [v,KI most] h fun r h'=>h'=h∧r=.bool (!(l.any (outB most))):=by
 have el:=hv.1.len (P:=prog) sl25
 have lb:=hv.2.1
 refine enter (nt:=25) (rs:=[.tmp 4]) Proofs.Tryz.func56 rfl rfl rfl (by simp) ?_
 simp -dsimp (disch:=try exact dx) only[wpS,zA]
 refine loop (fun m fr hh => ∃i:Nat,i+m=l.length∧hh=h∧(∀(j:Nat) y,j<i→l[j]?=some y→outB most y=false)∧fget fr 0=some v∧fget fr 1=some (KI most)∧fget fr 5=some (KN i)) l.length
  ⟨0,by omega,rfl,fun j y hj=>by omega,by simp,by simp,by simp⟩ ?_
 rintro m fr hh ⟨i,him,rfl,hok,f0,f1,f5⟩
 simp -dsimp (disch:=try exact dx) only[wpS,zE,f0,f5,el]
 refine bq_intro ?_ ?_<;>intro hc<;>simp only[decide_eq_true_eq,decide_eq_false_iff_not] at hc
 ·have hi:i<l.length:=by omega
  obtain⟨x,hx⟩ : ∃x,l[i]?=some x:=⟨_,List.getElem?_eq_getElem hi⟩
  have xm:=List.mem_of_getElem? hx
  have ld:=inSl_ld hv (Keep.refl _) hx
  have ix:=hv.1.idx (P:=prog) (k:=.i64) es25 hi
  cases ho:outB most x with
  | true =>
   have ha:l.any (outB most)=true:=List.any_eq_true.2 ⟨x,xm,ho⟩
   rw[ha]
   unfold outB at ho
   by_cases c1:x<0
   ·have d1:decide (x<0)=true:=decide_eq_true c1
    simp -dsimp (disch:=try exact dx) only[wpS,wpT,zE,f0,f5,ix,ld,d1]
   ·have d1:decide (x<0)=false:=decide_eq_false c1
    have d2:decide (most<x)=true:=by simpa [d1] using ho
    simp -dsimp (disch:=try exact dx) only[wpS,wpT,zE,f0,f1,f5,ix,ld,d1,d2]
  | false =>
   have h2:=ho
   unfold outB at h2
   have d1:decide (x<0)=false:=by cases c:decide (x<0)<;>simp[c] at h2 ⊢
   have d2:decide (most<x)=false:=by simpa [d1] using h2
   simp -dsimp (disch:=try exact dx) only[wpS,wpT,zE,f0,f1,f5,ix,ld,d1,d2]
   refine⟨m - 1,by omega,i+1,by omega,rfl,?_,by simp[f0],by simp[f1],by simp⟩
   intro j y hj hy
   by_cases hji:j=i
   ·subst hji;rw[hx] at hy;cases hy;exact ho
   ·exact hok j y (by omega) hy
 ·have ha:l.any (outB most)=false:=by
   refine List.any_eq_false.2 fun y hy=>?_
   obtain⟨j,hj⟩:=List.getElem?_of_mem hy
   have:=(List.getElem?_eq_some_iff.1 hj).1
   rw[hok j y (by omega) hj];decide
  rw[ha]
  simp -dsimp (disch:=try exact dx) only[wpS,wpT]
theorem rfCheck34_ok {h:IH} {v w:Value} {s l:List Int} (hv:InSl h v s) (hw:InSl h w l) :
  WV prog (.func (.func 13) #[] #[]) [v,w] h fun r h'=>h'=h∧r=KI (ladErr s l):=by
 unfold ladErr
 have e1:=hv.1.len (P:=prog) sl25
 have e2:=hw.1.len (P:=prog) sl25
 have b1:=hv.2.1
 have b2:=hw.2.1
 refine enter (nt:=33) (rs:=[.tmp 4]) Proofs.Tryz.func13 rfl rfl rfl (by simp) ?_
 by_cases a1:s.length<1
 ·rw[if_pos (.inl a1)]
  simp -dsimp (disch:=try exact dx) only[wpS,wpT,zE,zA,e1]
 by_cases a2:60<s.length
 ·rw[if_pos (.inr (.inl a2))]
  simp -dsimp (disch:=try exact dx) only[wpS,wpT,zE,zA,e1]
 simp -dsimp (disch:=try exact dx) only[wpS,wpT,zE,zA,e1]
 refine call (rwithin_ok hv) ?_
 rintro _ _ ⟨rfl,rfl⟩
 cases c3:s.any (outB 30)
 case true =>
  rw[if_pos (.inr (.inr (.inl rfl)))]
  simp -dsimp (disch:=try exact dx) only[wpS,wpT,zE]
 by_cases a4:l.length<1
 ·rw[if_pos (.inr (.inr (.inr (.inl a4))))]
  simp -dsimp (disch:=try exact dx) only[wpS,wpT,zE,e2]
 by_cases a5:6<l.length
 ·rw[if_pos (.inr (.inr (.inr (.inr (.inl a5)))))]
  simp -dsimp (disch:=try exact dx) only[wpS,wpT,zE,e2]
 simp -dsimp (disch:=try exact dx) only[wpS,wpT,zE,e2]
 refine call (rwithin_ok hw) ?_
 rintro _ _ ⟨rfl,rfl⟩
 cases c6:l.any (outB 8)
 case true =>
  rw[if_pos (.inr (.inr (.inr (.inr (.inr rfl)))))]
  simp -dsimp (disch:=try exact dx) only[wpS,wpT,zE]
 rw[if_neg (by rintro(h|h|h|h|h|h)<;>first|omega|cases h)]
 simp -dsimp (disch:=try exact dx) only[wpS,wpT,zE]
theorem long_zero (h:IH):LongIs h (.agg #[.bool false,.slice none 0 0]) 0:=⟨.slice none 0 0,rfl,dig_none⟩
theorem small_zero:SmallI 0:=(half_bits (x:=(0:Int).natAbs) (k:=1) (by decide) (by omega):HalfI 0).small
theorem rsign_ok {h:IH} (n:Nat) (hn:n<W8):WV prog (.func (.func 69) #[] #[]) [wdV n] h fun r h'=>Ext h h'∧r=KI (if wdI n<0 then -1 else if 0<wdI n then 1 else 0):=by
 have E1:Ext h (h.new (.cells (wdC n) 0 none)):=(Ext.refl h).new _
 refine enter (nt:=7) (rs:=[.tmp 2]) Proofs.Tryz.func69 rfl rfl rfl (by simp) ?_
 simp -dsimp (disch:=try exact dx) only[wpS,zE,zL,ld44,cells8,wdC_len,wd_take0]
 refine call (in_ok n hn) ?_
 rintro r1 h1 ⟨X1,p1⟩
 simp -dsimp (disch:=try exact dx) only[wpS,wpT,zE,bv131]
 refine call (lorder_ok p1 (long_zero h1) (wdI_half hn).small small_zero) ?_
 rintro _ h2 ⟨X2,rfl⟩
 simp -dsimp (disch:=try exact dx) only[wpS,wpT,zE]
 exact(E1.trans X1).trans X2
theorem rraised_ok {h:IH} {v:Value} {k:Nat} (hv:LongIs h v 2) (hk:k≤4000) :
  WV prog (.func (.func 70) #[] #[]) [v,KN k] h fun r h'=>Ext h h'∧LongIs h' r ((2 ^ k:Nat):Int):=by
 obtain⟨s,n,rfl,c1,o1,_,_⟩:=hv.form
 obtain⟨b1,hb1⟩ : ∃b,b=decide ((2:Int)<0):=⟨_,rfl⟩
 rw[←hb1] at hv ⊢
 have E1:Ext h ((h.new (.cells [.bool b1,s] 0 none)).new (.cells [.bool false,.slice none 0 0] 0 none)):=((Ext.refl h).new _).new _
 refine enter (nt:=17) (rs:=[.cell 4 131]) Proofs.Tryz.func70 rfl rfl rfl (by simp) ?_
 simp -dsimp (disch:=try exact dx) only[wpS,zE,zA,zc131]
 refine call (long1_ok 1 ⟨by omega,by omega⟩) ?_
 rintro _ h1 ⟨X1,p1⟩
 obtain⟨s1,n1,rfl,c3,o3,_,_⟩:=p1.form
 have m1:=X1.n
 simp only[new_n] at m1
 have k0:h1.ext.get h.n=some (.cells [.bool b1,s] 0 none):=X1.kept (by simp;omega) (by simp (disch:=try exact dx) only[get_new_same,get_new_old])
 have k1:h1.ext.get (h.n+1)=some (.cells [.bool false,.slice none 0 0] 0 none):=X1.kept (by simp) (by simp (disch:=try exact dx) only[get_new_same])
 simp -dsimp (disch:=try exact dx) only[wpS,wpT,zE,zL,zA,zc131,st131,o3]
 have E2:Ext h1 ((h1.new (.cells [.bool false,.slice none 0 0] 0 none)).put h1.n (.cells [.bool false,s1] 0 none)):=((Ext.refl h1).new _).put (Nat.le_refl _) _
 have EE:=(E1.trans X1).trans E2
 refine loop (fun m fr hh => ∃(i:Nat) (b:Bool) (t:Value),i+m=k∧Ext h hh∧h1.n<hh.n∧hh.ext.get h.n=some (.cells [.bool b1,s] 0 none)∧hh.ext.get (h.n+1)=some (.cells [.bool false,.slice none 0 0] 0 none)∧hh.ext.get h1.n=some (.cells [.bool b,t] 0 none)∧LongIs hh (.agg #[.bool b,t]) ((2 ^ i:Nat):Int)∧fget fr 1=some (KN k)∧fget fr 2=some (ptr (2*h.n) 0)∧fget fr 4=some (ptr (2*(h.n+1)) 0)∧fget fr 5=some (ptr (2*h1.n) 0)∧fget fr 6=some (KN i)) k
  ⟨0,false,s1,by omega,EE,by simp,E2.kept (by omega) k0,E2.kept (by omega) k1,by simp (disch:=try exact dx) only[get_put_same],p1.keep E2.keep,by simp,by simp,by simp,by simp,by simp⟩ ?_
 rintro m fr hh ⟨i,b,t,him,hE,hn,g0,g1,g5,pt,f1,f2,f4,f5,f6⟩
 have hnn:=hE.n
 simp -dsimp (disch:=try exact dx) only[wpS,zE,f1,f6]
 refine bq_intro ?_ ?_<;>intro hc<;>simp only[decide_eq_true_eq,decide_eq_false_iff_not] at hc
 ·simp -dsimp (disch:=try exact dx) only[wpS,wpT,zE,zL,zA,ld131,f2,f5,row_of g0,row_of g5]
  refine call (times_ok pt (hv.keep hE.keep) (half_two (by omega)) (half_two (i:=1) (by omega))) ?_
  rintro _ h2 ⟨X2,p2⟩
  have m2:=X2.n
  have e2:((2 ^ i:Nat):Int)*2=((2 ^ (i+1):Nat):Int):=by rw[Nat.pow_succ];omega
  rw[e2] at p2
  obtain⟨t2,n2,rfl,c4,o4,_,_⟩:=p2.form
  have gk:=X2.kept (by omega) g5
  simp -dsimp (disch:=try exact dx) only[wpS,wpT,zE,zL,zA,st131,f5,f6,gk,o4]
  exact⟨m - 1,by omega,i+1,_,t2,by omega,(hE.trans X2).put (by omega) _,by simp;omega,by rw[get_put_old _ _ (by omega)];exact X2.kept (by omega) g0,by rw[get_put_old _ _ (by omega)];exact X2.kept (by omega) g1,by simp (disch:=try exact dx) only[get_put_same],p2.keep ((Keep.refl _).put gk _),by simp[f1],by simp[f2],by simp[f4],by simp[f5],by simp⟩
 ·obtain rfl:i=k:=by omega
  obtain⟨_,c5,o5⟩:=pt.co
  simp -dsimp (disch:=try exact dx) only[wpS,wpT,zE,zL,zA,st131,ld131,f4,f5,row_of g5,g1,o5,tk2a]
  exact⟨hE.put (by omega) _,pt.keep ((Keep.refl _).put g1 _)⟩
def mxI (s:List Int):Nat→Int
 | 0=>0
 | i+1=>if mxI s i<s.getD i 0 then s.getD i 0 else mxI s i
theorem mxI_max {s:List Int} (h0 : ∀x∈s,0≤x) (hn:s ≠ []):mxI s s.length=maxL s:=by
 have a : ∀i,i≤s.length→(mxI s i=0∨mxI s i∈s) ∧ ∀(j:Nat) x,j<i→s[j]?=some x→x≤mxI s i:=by
  intro i
  induction i with
  | zero=>exact fun _=>⟨.inl rfl,fun j x hj=>by omega⟩
  | succ i ih =>
   intro hi
   obtain⟨i1,i2⟩:=ih (by omega)
   obtain⟨y,hy⟩ : ∃y,s[i]?=some y:=⟨_,List.getElem?_eq_getElem (by omega)⟩
   have gy:s.getD i 0=y:=by rw[List.getD_eq_getElem?_getD,hy];rfl
   rw[mxI,gy]
   by_cases c:mxI s i<y
   ·rw[if_pos c]
    refine⟨.inr (List.mem_of_getElem? hy),fun j x hj hx=>?_⟩
    by_cases hji:j=i
    ·subst hji;rw[hy] at hx;cases hx;exact Int.le_refl _
    ·have:=i2 j x (by omega) hx;omega
   ·rw[if_neg c]
    refine⟨i1,fun j x hj hx=>?_⟩
    by_cases hji:j=i
    ·subst hji;rw[hy] at hx;cases hx;omega
    ·exact i2 j x (by omega) hx
 obtain⟨a1,a2⟩:=a s.length (Nat.le_refl _)
 have m:=maxL_mem s hn
 obtain⟨j,hj⟩:=List.getElem?_of_mem m
 have b1:=a2 j _ (List.getElem?_eq_some_iff.1 hj).1 hj
 have b2:=h0 _ m
 rcases a1 with a1|a1
 ·omega
 ·have:=le_maxL s _ a1;omega
open Classical in
theorem rfTargets_ok {h:IH} {v w:Value} {ws:List Nat} {s:List Int} {level:Int} (hw:WiSl h w ws) (hv:InSl h v s) (hl:In64 level) :
  WV prog (.func (.func 16) #[] #[]) [w,v,KI level] h fun r h'=>Ext h h' ∧ ∃out,r=.tuple #[out,KI (tgErr ws s level)]∧(tgErr ws s level=0→WiSl h' out (mapZ (tgtZ s level) ws ws.length))∧(tgErr ws s level≠0→out=.slice none 0 0):=by
 unfold tgErr
 have el:=hv.1.len (P:=prog) sl25
 have ew:=hw.1.len (P:=prog) sl28
 have lw:=hw.2.1
 refine enter (nt:=81) (rs:=[.tmp 6,.tmp 7]) Proofs.Tryz.func16 rfl rfl rfl (by simp) ?_
 simp -dsimp (disch:=try exact dx) only[wpS,wpT,zE,zL,zA,bs25]
 have E1:Ext h (h.new (.cells [KI level] 1 none)):=(Ext.refl h).new _
 refine call (rfCheck34_ok (hv.keep E1.keep) (one_sl h level hl)) ?_
 rintro _ _ ⟨rfl,rfl⟩
 obtain⟨H0,hH0⟩ : ∃H0,H0=h.new (.cells [KI level] 1 none):=⟨_,rfl⟩
 rw[←hH0] at E1 ⊢
 clear hH0
 rcases ladErr_or s [level] with c0|c0
 case inr =>
  rw[c0,if_pos (by decide)]
  simp -dsimp (disch:=try exact dx) only[wpS,wpT,zE]
  exact⟨E1,_,rfl,fun h=>absurd h (by decide),fun _=>rfl⟩
 obtain⟨⟨s1,s2,s3⟩,_,_,l3⟩:=ladErr_zero c0
 have lb:=l3 level (by simp)
 rw[c0,if_neg (by decide)]
 by_cases c1:ws.length≠s.length
 ·rw[if_pos (.inl c1)]
  have d:(((ws.length:Nat):Int) != ((s.length:Nat):Int))=true:=by simpa using fun h=>c1 (by omega)
  simp -dsimp (disch:=try exact dx) only[wpS,wpT,zE,el,ew,d]
  exact⟨E1,_,rfl,fun h=>absurd h (by decide),fun _=>rfl⟩
 have c1:ws.length=s.length:=by omega
 have d1:(((ws.length:Nat):Int) != ((s.length:Nat):Int))=false:=by simp[c1]
 simp -dsimp (disch:=try exact dx) only[wpS,wpT,zE,el,ew,d1]
 refine loop (fun m fr hh => ∃i:Nat,i+m=ws.length∧Ext h hh∧(∀(j:Nat) p,j<i→ws[j]?=some p→1≤wdI p)∧fget fr 0=some w∧fget fr 1=some v∧fget fr 2=some (KI level)∧fget fr 9=some (KI (mxI s i))∧fget fr 10=some (KN i)) ws.length
  ⟨0,by omega,E1,fun j p hj=>by omega,by simp,by simp,by simp,by simp[mxI],by simp⟩ ?_
 rintro m fr hh ⟨i,him,hE,hok,f0,f1,f2,f9,f10⟩
 simp -dsimp (disch:=try exact dx) only[wpS,zE,f0,f10,ew]
 refine bq_intro ?_ ?_<;>intro hc<;>simp only[decide_eq_true_eq,decide_eq_false_iff_not] at hc
 ·have hi:i<ws.length:=by omega
  obtain⟨p,hp⟩ : ∃p,ws[i]?=some p:=⟨_,List.getElem?_eq_getElem hi⟩
  have pm:=List.mem_of_getElem? hp
  have pw:=hw.2.2 p pm
  obtain⟨x,hx⟩ : ∃x,s[i]?=some x:=⟨_,List.getElem?_eq_getElem (by omega)⟩
  have gx:s.getD i 0=x:=by rw[List.getD_eq_getElem?_getD,hx];rfl
  have em:mxI s (i+1)=if mxI s i<x then x else mxI s i:=by rw[mxI,gx]
  simp -dsimp (disch:=try exact dx) only[wpS,wpT,zE,f0,f10,hw.1.idx es28 hi,hw.ld hE.keep hp]
  refine call (rsign_ok p pw) ?_
  rintro _ h2 ⟨X2,rfl⟩
  by_cases cp:wdI p<1
  ·have hnp : ¬allPos ws:=fun ha=>by have:=ha p pm;omega
   have E2:=hE.trans X2
   by_cases cn:wdI p<0
   ·rw[if_pos cn,if_pos (Or.inr hnp:ws.length≠s.length ∨ ¬allPos ws)]
    simp -dsimp (disch:=try exact dx) only[wpS,wpT,zE]
    exact⟨E2,_,rfl,fun h=>absurd h (by decide),fun _=>rfl⟩
   ·rw[if_neg cn,if_neg (show ¬0<wdI p by omega),if_pos (Or.inr hnp:ws.length≠s.length ∨ ¬allPos ws)]
    simp -dsimp (disch:=try exact dx) only[wpS,wpT,zE]
    exact⟨E2,_,rfl,fun h=>absurd h (by decide),fun _=>rfl⟩
  ·rw[if_neg (show ¬wdI p<0 by omega),if_pos (show 0<wdI p by omega)]
   simp -dsimp (disch:=try exact dx) only[wpS,wpT,zE,f1,f9,f10,hv.1.idx es25 (show i<s.length by omega),inSl_ld hv (hE.trans X2).keep hx,max_ii]
   refine⟨m - 1,by omega,i+1,by omega,hE.trans X2,?_,by simp[f0],by simp[f1],by simp[f2],by simp[em],by simp⟩
   intro j q hj hq
   by_cases hji:j=i
   ·subst hji;rw[hp] at hq;cases hq;omega
   ·exact hok j q (by omega) hq
 have hil:i=ws.length:=by omega
 have hpos:allPos ws:=fun p pm=>by
  obtain⟨j,hj⟩:=List.getElem?_of_mem pm
  exact hok j p (by have:=(List.getElem?_eq_some_iff.1 hj).1;omega) hj
 have f9:fget fr 9=some (KI (maxL s)):=by
  rw[f9,hil,c1,mxI_max (fun x hx=>(s3 x hx).1) (fun h=>by rw[h] at s1;simp at s1)]
 rw[if_neg (show ¬(ws.length≠s.length ∨ ¬allPos ws) by rintro(h|h);exact h c1;exact h hpos)]
 have mx:0≤maxL s∧maxL s≤30:=s3 _ (maxL_mem s fun h=>by rw[h] at s1;simp at s1)
 clear hok hc him hil f10
 simp -dsimp (disch:=try exact dx) only[wpS]
 obtain⟨z,hz⟩ : ∃z,z=tgtZ s level:=⟨_,rfl⟩
 rw[←hz]
 refine loop (fun m fr hh => ∃(i:Nat) (out:Value),i+m=ws.length∧Ext h hh∧Acc hh h.n 8 out (mapZ z ws i).length (wiL (mapZ z ws i))∧fitZ z ws i∧fget fr 0=some w∧fget fr 1=some v∧fget fr 2=some (KI level)∧fget fr 9=some (KI (maxL s))∧fget fr 11=some out∧fget fr 12=some (KN i)) ws.length
  ⟨0,.slice none 0 0,by omega,hE,Acc.nil _ _ (by have:=hE.n;omega),fun j hj=>by omega,by simp[f0],by simp[f1],by simp[f2],by simp[f9],by simp,by simp⟩ ?_
 rintro m fr hh ⟨i,out,him,hE,hA,hfit,f0,f1,f2,f9,f11,f12⟩
 have hnn:=hE.n
 simp -dsimp (disch:=try exact dx) only[wpS,zE,f0,f12,ew]
 refine bq_intro ?_ ?_<;>intro hc<;>simp only[decide_eq_true_eq,decide_eq_false_iff_not] at hc
 ·have hi:i<ws.length:=by omega
  obtain⟨p,hp⟩ : ∃p,ws[i]?=some p:=⟨_,List.getElem?_eq_getElem hi⟩
  have pw:=hw.2.2 p (List.mem_of_getElem? hp)
  have gp:ws.getD i 0=p:=by rw[List.getD_eq_getElem?_getD,hp];rfl
  have his:i<s.length:=by omega
  obtain⟨x,hx⟩ : ∃x,s[i]?=some x:=⟨_,List.getElem?_eq_getElem his⟩
  have gx:s.getD i 0=x:=by rw[List.getD_eq_getElem?_getD,hx];rfl
  have xm:=List.mem_of_getElem? hx
  have xb:=s3 x xm
  have xl:=le_maxL s x xm
  have y0:0≤maxL s - x∧maxL s - x≤30:=by omega
  have hp0:0≤(maxL s - x)*level:=Int.mul_nonneg y0.1 lb.1
  have hp1:(maxL s - x)*level≤30*8:=Int.mul_le_mul y0.2 lb.2 lb.1 (by omega)
  obtain⟨k,hk⟩ : ∃k:Nat,(maxL s - x)*level=(k:Int):=⟨((maxL s - x)*level).toNat,by omega⟩
  have et:z i p=wdI p*((2 ^ k:Nat):Int):=by rw[hz];unfold tgtZ tgt;rw[gx,hk,Int.toNat_natCast]
  have kb:k≤240:=by omega
  simp -dsimp (disch:=try exact dx) only[wpS,wpT]
  refine drawn [(5,[0])] (by kernel_rfl) (by kernel_rfl) rfl ?_
  simp -dsimp (disch:=try exact dx) only[wpS]
  refine call (long1_ok 2 ⟨by omega,by omega⟩) ?_
  rintro r1 h1 ⟨X1,p1⟩
  have m1:=X1.n
  simp -dsimp (disch:=try exact dx) only[wpS,zE,f1,f2,f9,f12,hv.1.idx es25 his,inSl_ld hv (hE.trans X1).keep hx,hk]
  refine call (rraised_ok (k:=k) p1 (by omega)) ?_
  rintro r2 h2 ⟨X2,p2⟩
  have m2:=X2.n
  have X12:=X1.trans X2
  obtain⟨s2,n2,rfl,c2,o2,_,_⟩:=p2.form
  have Y00:=Ext.refl hh
  simp -dsimp (disch:=try exact dx) only[wpS,wpT,zE,zL,zA,zc131,st131,o2]
  refine⟨by repeat' first|refine wpSteady_c2 ?_ ?_|refine wpSteady_t2 ?_ ?_|exact wpSteady_one rfl rfl rfl rfl (steady_load rfl (inSl_ld hv ((hE.trans (by assumption)).keep) hx) (inSl_ld hv ((hE.trans (by assumption)).keep) hx)),?_⟩
  simp -dsimp (disch:=try exact dx) only[wpS,wpT,zA]
  obtain⟨H2,hH2⟩ : ∃H,H=(h2.new (.cells [.bool false,.slice none 0 0] 0 none)).put h2.n (.cells [.bool (decide (((2 ^ k:Nat):Int)<0)),s2] 0 none):=⟨_,rfl⟩
  have e2:Ext h2 H2:=by rw[hH2];exact((Ext.refl h2).new _).put (Nat.le_refl _) _
  have n2:H2.n=h2.n+1:=by rw[hH2];rfl
  have q9:H2.ext.get h2.n=some (.cells [.bool (decide (((2 ^ k:Nat):Int)<0)),s2] 0 none):=by rw[hH2];simp (disch:=try exact dx) only[get_put_same]
  have X02:=X12.trans e2
  rw[←hH2]
  clear hH2
  have Y0:=Ext.refl H2
  have M1:load prog H2 131 (ptr (2*h2.n) 0)=some (.agg #[.bool (decide (((2 ^ k:Nat):Int)<0)),s2]):=by
   have r:=row_of q9
   simp -dsimp (disch:=try exact dx) only[wpS,wpT,zL,zA,ld131,r,tk2a]
  have E02:=hE.trans X02
  refine drawn [(5,[4])] (by kernel_rfl) (by kernel_rfl) rfl ?_
  simp -dsimp (disch:=try exact dx) only[wpS,zE,f0,f12,hw.1.idx es28 hi,hw.ld E02.keep hp]
  refine call (in_ok p pw) ?_
  rintro r3 h3 ⟨X3,p3⟩
  have m3:=X3.n
  simp -dsimp (disch:=try exact dx) only[wpS,wpT,zE,zL,zA,ld131,row_of (X3.kept (by omega) q9),tk2a]
  refine call (times_ok p3 (p2.keep (e2.trans X3).keep) (wdI_half pw) (half_two (by omega))) ?_
  rintro r4 h4 ⟨X4,p4⟩
  have m4:=X4.n
  have X34:=X3.trans X4
  simp -dsimp (disch:=try exact dx) only[wpS,zE]
  refine call (out_ok p4) ?_
  rintro _ h5 ⟨X5,rfl⟩
  have m5:=X5.n
  have X35:=X34.trans X5
  rw[←et]
  have EE:=E02.trans X35
  by_cases ci:InW (z i p)
  ·rw[if_pos ci]
   simp -dsimp (disch:=try exact dx) only[wpS,wpT,zE,zL,zA,zc44,st44,cells8,wdC_len,wdC_all,wd_spl]
   refine⟨by repeat' first|refine wpSteady_c2 ?_ ?_|refine wpSteady_t2 ?_ ?_|exact wpSteady_one rfl rfl rfl rfl (steady_ext (H0:=H2) rfl (by omega) (by assumption) (by assumption) (by with_reducible assumption)),?_⟩
   obtain⟨H3,hH3⟩ : ∃H,H=(h5.new (.cells [ZW,ZW,ZW,ZW,ZW,ZW,ZW,ZW] 0 none)).put h5.n (.cells (wdC (wideN (z i p))) 0 none):=⟨_,rfl⟩
   have E2:Ext h5 H3:=by rw[hH3];exact((Ext.refl h5).new _).put (Nat.le_refl _) _
   have n1:H3.n=h5.n+1:=by rw[hH3];rfl
   have k1:H3.ext.get h5.n=some (.cells (wdC (wideN (z i p))) 0 none):=by rw[hH3];simp (disch:=try exact dx) only[get_put_same]
   simp -dsimp (disch:=try exact dx) only[wpS,wpT,zE,zA]
   rw[←hH3]
   clear hH3
   have E12:=(X02.trans X35).trans E2
   obtain⟨out',h8,hap,hA8,hG8,hE8⟩:=(hA.ext E12).appN (P:=prog) (t:=28) ap28 (m:=1) (new:=wdC (wideN (z i p))) (by omega) (by rw[wdC_len]) (wdC_all _) (by rw[mapZ_len];omega) (by omega) (hE.trans E12) (Nat.le_refl _)
   have hap':append prog (H3.new (.cells (wdC (wideN (z i p))) 8 none)) 28 out (.slice (some ⟨2*H3.n,0,none⟩) 1 3)=some (out',h8):=hap
   simp -dsimp (disch:=try exact dx) only[wpS,wpT,zE,zL,zA,ld44,bs28,ba28_28,f11,f12,row_of k1,wdC_len,wd_spl,wd_take0,hap']
   refine⟨m - 1,by omega,i+1,out',by omega,hE8,?_,?_,by simp[f0],by simp[f1],by simp[f2],by simp[f9],by simp,by simp⟩
   ·rw[mapZ_snoc,wiL_snoc,List.length_append,gp]
    exact hA8
   ·intro j hj
    by_cases hji:j=i
    ·subst hji;rw[gp];exact ci
    ·exact hfit j (by omega)
  ·rw[if_neg ci]
   have hnf : ¬fitZ z ws ws.length:=fun hf=>by
    have:=hf i hi
    rw[gp] at this
    exact ci this
   rw[if_neg hnf]
   simp -dsimp (disch:=try exact dx) only[wpS,wpT,zE,zL,zA,zc44,st44,cells8,wdC_len,wdC_all,wd_spl]
   refine⟨by repeat' first|refine wpSteady_c2 ?_ ?_|refine wpSteady_t2 ?_ ?_|exact wpSteady_one rfl rfl rfl rfl (steady_ext (H0:=H2) rfl (by omega) (by assumption) (by assumption) (by with_reducible assumption)),?_⟩
   simp -dsimp (disch:=try exact dx) only[wpS,wpT,zE,zA]
   exact⟨((EE.new _).put (by omega) _),_,rfl,fun h=>absurd h (by decide),fun _=>rfl⟩
 ·obtain rfl:i=ws.length:=by omega
  rw[if_pos hfit]
  simp -dsimp (disch:=try exact dx) only[wpS,wpT,zE,f11]
  refine⟨hE,out,rfl,fun _=>⟨hA.sl,by rw[mapZ_len];omega,?_⟩,fun hn=>absurd rfl hn⟩
  intro n hn
  obtain⟨j,hj,rfl⟩:=List.mem_map.1 hn
  exact wideN_lt (hfit j (List.mem_range.1 hj))
end Go.Id

namespace Go.Id
open Go
end Go.Id

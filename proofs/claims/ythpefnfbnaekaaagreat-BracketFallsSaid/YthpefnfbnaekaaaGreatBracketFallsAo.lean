/-
  BracketFalls: for every input the law returns true, and each argument reads as it did. Conditions: none but the row's own.
-/
import Derived.Test.YthpefnfbnaekaaaGreatBracketFallsAn
import Derived.Test.YthpefnfbnaekaaaGreatBracketFallsAf
import Derived.Test.YthpefnfbnaekaaaGreatBracketFallsAm
set_option linter.unusedVariables false
set_option linter.unusedSimpArgs false
set_option linter.defProp false
set_option linter.deprecated false
/-! The statement BracketFalls, on the ideal machine. -/
namespace Go.Id
open Go
noncomputable def tbW:FuncId→Option (List Value→Option Value):=tbOf [(8,okT)]
noncomputable abbrev bodyFa:Code:=Proofs.Tryz.f4.body.getD .skip
theorem falls0 (base:Nat→Option (List Value)) (vp vl:Value) (u s:Int) (m n k:Int) :
  evC (E1 Proofs.Tryz.prog tbW) (callV (E1 Proofs.Tryz.prog tbW) 1) 4 185 none 1 (partAt bodyFa 0) (enterFr 0 [.agg #[vp,.int .u8 u,vl,.int .u16 s],.int .u8 m,.int .u16 n,.int .u16 k]) (IH.start base)=some (.normal,(8,.bool false) :: (4,ptr 0 0) :: enterFr 0 [.agg #[vp,.int .u8 u,vl,.int .u16 s],.int .u8 m,.int .u16 n,.int .u16 k],(IH.start base).new (.cells [vp,.int .u8 u,vl,.int .u16 s] 0 none)):=rfl
theorem falls1 (fr:Fr) (h:IH) :
  evC (E1 Proofs.Tryz.prog tbW) (callV (E1 Proofs.Tryz.prog tbW) 1) 4 185 none 1 (partAt bodyFa 1) fr h=some (.normal,(24,.bool false) :: (23,.bool true) :: fr,h):=rfl
structure CenOK (c:List Int):Prop where
 ne:c ≠ []
 b : ∀n∈c,0≤n∧n≤16711425
 len:c.length≤9
 sum:0<c.sum
theorem sum_nonneg : ∀(l:List Int),(∀n∈l,0≤n)→0≤l.sum
 | [],_=>by simp
 | a :: l,h=>by
  have:=sum_nonneg l fun n hn=>h n (List.mem_cons_of_mem _ hn)
  have:=h a List.mem_cons_self
  simp;omega
theorem census_cen {u:Nat} {ps:List Nat} (hu:u<256) (hp : ∀p∈ps,p<65536):CenOK (census u ps):=by
 have hb : ∀n∈cenL u ps,0≤n∧n≤16711425:=fun n hn=>by
  obtain⟨p,h1,rfl⟩:=List.mem_map.1 hn
  exact cenN_le hu (hp p (List.mem_of_mem_take h1))
 have hl:=(cenL_bound (u:=u) hu hp).2
 have h0:=sum_nonneg _ fun n hn=>(hb n hn).1
 unfold census
 split
 ·rename_i hz
  refine⟨by simp,fun n hn=>?_,by rw[List.length_append];simp;omega,by rw[List.sum_append,hz];decide⟩
  rcases List.mem_append.1 hn with h|h
  ·exact hb n h
  ·simp at h;omega
 ·rename_i hz
  exact⟨fun e=>hz (by rw[e];rfl),hb,by omega,by omega⟩
theorem pos_of_sum : ∀(l:List Int),0<l.sum → ∃n∈l,0<n
 | [],h=>absurd h (by decide)
 | a :: l,h=>by
  by_cases c:0<a
  ·exact⟨a,List.mem_cons_self,c⟩
  ·obtain⟨n,h1,h2⟩:=pos_of_sum l (by simp at h;omega)
   exact⟨n,List.mem_cons_of_mem _ h1,h2⟩
theorem CenOK.quota {c:List Int} (h:CenOK c):quotaOK c=true:=by
 have h1:=h.len
 have h2:=h.sum
 unfold quotaOK
 simp only[Bool.and_eq_true,decide_eq_true_eq]
 refine⟨by omega,inR_iff.2 fun n hn=>by have:=h.b n hn;omega,?_⟩
 simp;omega
theorem CenOK.max {c:List Int} (h:CenOK c):1≤maxL c∧maxL c≤16711425:=by
 obtain⟨n,h1,h2⟩:=pos_of_sum c h.sum
 have h3:=le_maxL c n h1
 have h4:=h.b _ (maxL_mem c h.ne)
 omega
theorem app_cons' {α:Type} (a:α) (l m:List α):List.append (a :: l) m=a :: List.append l m:=rfl
theorem app_nil' {α:Type} (m:List α):List.append [] m=m:=rfl
theorem boxes2p (h:IH) (a b c d:List Value) : ∃H,H=(((h.new (.cells a 0 none)).new (.cells b 0 none)).put h.n (.cells c 0 none)).put (h.n+1) (.cells d 0 none)∧H.n=h.n+2∧Ext h H∧H.ext.get h.n=some (.cells c 0 none)∧H.ext.get (h.n+1)=some (.cells d 0 none) :=
 ⟨_,rfl,rfl,((((Ext.refl h).new _).new _).put (by omega) _).put (by omega) _,by simp (disch:=first|omega|(simp only[new_n,put_n];omega)|(repeat first|rw[new_n]|rw[put_n])) only[get_put_same,get_put_old],by simp (disch:=first|omega|(simp only[new_n,put_n];omega)|(repeat first|rw[new_n]|rw[put_n])) only[get_put_same]⟩
theorem atErr_fine {c:List Int} {top d:Int} {x:Rat} {m:Nat} (C:CenOK c) (hm:11≤m∧m≤15) (D:Dvs top d x) (ht:top=maxL c):atErr c (shq x) (m:Int)=0:=by
 have hx:=shq_rOf D.qw
 unfold atErr
 rw[if_neg (by rw[C.quota];simp),if_neg (fun h=>h hx.2),if_neg (by
  rw[hx.1]
  intro h
  rcases h with h|h
  ·exact h D.pos
  ·rw[inR_iff.2 (by simp;omega)] at h;cases h),Int.toNat_natCast,hx.1]
 exact atE_none fun y hy=>by
  obtain⟨t,_,h⟩:=D.reg hm (n:=y) ⟨(C.b y hy).1,by rw[ht];exact le_maxL c y hy⟩
  rw[h]
theorem AtV.fine {h:IH} {r:Value} {c:List Int} {p:Nat×Nat} {m:Int} (a:AtV h r c p m) (e:atErr c p m=0) : ∃v w,r=.tuple #[v,w,KI 0]∧SlOf h 1 v c.length (atA m.toNat (rOf p) c)∧SlOf h 1 w c.length (atB m.toNat (rOf p) c):=by
 unfold AtV at a
 rwa [if_pos e] at a
theorem atA_get {m:Nat} {x:Rat} {l:List Int} {i:Nat} {n:Int} (h:l[i]?=some n):(atA m x l)[i]?=some (KI (atReg m x n).2.1)∧(atB m x l)[i]?=some (KI (atReg m x n).2.2):=by
 unfold atA atB
 rw[List.getElem?_map,List.getElem?_map,h]
 exact⟨rfl,rfl⟩
theorem atA_len {m:Nat} {x:Rat} {l:List Int}:(atA m x l).length=l.length∧(atB m x l).length=l.length:=by simp[atA,atB]
set_option maxHeartbeats 4000000 in
set_option maxRecDepth 100000 in
theorem falls_rest {h:IH} {fr:Fr} {vp vl:Value} {ps ls:List Nat} {u s b m n k:Nat} (d:Dr6 h (.agg #[vp,B8 u,vl,B16 s]) ps ls u s) (g:h.ext.get b=some (.cells [vp,B8 u,vl,B16 s] 0 none)) (hb:b<h.n) (hm:m<256) (hn:n<65536) (hk:k<65536)
  (f1:fget fr 1=some (B8 m)) (f2:fget fr 2=some (B16 n)) (f3:fget fr 3=some (B16 k)) (f4:fget fr 4=some (ptr (2*b) 0)) :
  Do (wpC Proofs.Tryz.prog 4 185 none (restAt bodyFa 2) fr h) (retK Proofs.Tryz.prog [.tmp 8] fun r _=>r=.bool true) nx:=by
 have e5:(m:Int) % 5=((m % 5:Nat):Int):=by omega
 have e11:IntKind.i64.wrap (11+((m % 5:Nat):Int))=((11+m % 5:Nat):Int):=by rw[wrap_i64 (by omega)];omega
 have tk:List.take 4 (List.drop 0 [vp,B8 u,vl,B16 s]) = [vp,B8 u,vl,B16 s]:=rfl
 show Do (wpC _ _ _ _ (.seq _ _) fr h) _ _
 simp -dsimp (maxSteps:=1000000) (disch:=first|omega|(simp only[new_n,put_n];omega)|decide +kernel|(repeat first|rw[new_n]|rw[put_n])) only[wpS,wpT,Nat.reduceLeDiff,Nat.reduceAdd,ld26,f4,row_of g,tk]
 refine call (census_ok d) ?_
 rintro v h1 ⟨X1,sc⟩
 obtain⟨c,hc⟩ : ∃c,c=census u ps:=⟨_,rfl⟩
 rw[←hc] at sc
 obtain⟨M,hM⟩ : ∃M,M=11+m % 5:=⟨_,rfl⟩
 simp -dsimp (maxSteps:=1000000) (disch:=first|omega|(simp only[new_n,put_n];omega)|decide +kernel|(repeat first|rw[new_n]|rw[put_n])) only[wpS,Nat.reduceEqDiff,cv5_3,f1,e5,e11]
 have C:CenOK c:=by rw[hc];exact census_cen d.bu d.bp
 refine call (maxI_ok sc (by have:=C.len;omega) C.ne) ?_
 rintro _ _ ⟨rfl,rfl⟩
 obtain⟨top,htop⟩ : ∃t,t=maxL c:=⟨_,rfl⟩
 have tb:=C.max
 rw[←htop] at tb ⊢
 have mn:(if (k:Int)<(n:Int) then (k:Int) else (n:Int))=((min n k:Nat):Int):=by split<;>omega
 have mx:(if (n:Int)<(k:Int) then (k:Int) else (n:Int))=((max n k:Nat):Int):=by split<;>omega
 have r1:((min n k:Nat):Int) % 500=((min n k % 500:Nat):Int):=by omega
 have r2:((max n k:Nat):Int) % 500=((max n k % 500:Nat):Int):=by omega
 have w1:IntKind.i64.wrap (1+((min n k % 500:Nat):Int))=((1+min n k % 500:Nat):Int):=by rw[wrap_i64 (by omega)];omega
 have w2:IntKind.i64.wrap (1+((max n k % 500:Nat):Int))=((1+max n k % 500:Nat):Int):=by rw[wrap_i64 (by omega)];omega
 simp -dsimp (maxSteps:=1000000) (disch:=first|omega|(simp only[new_n,put_n];omega)|decide +kernel|(repeat first|rw[new_n]|rw[put_n])) only[wpS,Nat.reduceEqDiff,cv24_3,f2,f3,min_kk,mn,r1,w1]
 refine call (lof_ok top ((1+min n k % 500:Nat):Int) ⟨by omega,by omega⟩ ⟨by omega,by omega⟩ (by omega)) ?_
 rintro _ h2 ⟨X2,rfl⟩
 simp -dsimp (maxSteps:=1000000) (disch:=first|omega|(simp only[new_n,put_n];omega)|decide +kernel|(repeat first|rw[new_n]|rw[put_n])) only[wpS,Nat.reduceEqDiff,cv24_3,f2,f3,max_kk,mx,r2,w2]
 refine call (lof_ok top ((1+max n k % 500:Nat):Int) ⟨by omega,by omega⟩ ⟨by omega,by omega⟩ (by omega)) ?_
 rintro _ h3 ⟨X3,rfl⟩
 have D1:Dvs top ((1+min n k % 500:Nat):Int) (Rat.divInt top ((1+min n k % 500:Nat):Int)):=⟨by omega,by omega,rfl⟩
 have D2:Dvs top ((1+max n k % 500:Nat):Int) (Rat.divInt top ((1+max n k % 500:Nat):Int)):=⟨by omega,by omega,rfl⟩
 obtain⟨d1,hd1⟩ : ∃d:Int,d=((1+min n k % 500:Nat):Int):=⟨_,rfl⟩
 obtain⟨d2,hd2⟩ : ∃d:Int,d=((1+max n k % 500:Nat):Int):=⟨_,rfl⟩
 rw[←hd1] at D1 ⊢
 rw[←hd2] at D2 ⊢
 obtain⟨x1,hx1⟩ : ∃x,x=Rat.divInt top d1:=⟨_,rfl⟩
 obtain⟨x2,hx2⟩ : ∃x,x=Rat.divInt top d2:=⟨_,rfl⟩
 rw[←hx1] at D1 ⊢
 rw[←hx2] at D2 ⊢
 have q1:=D1.qw
 have q2:=D2.qw
 rw[shareV_shq,shareV_shq]
 obtain⟨H4,hH4,n4,E4,g12,g13⟩:=boxes2p h3 Z16 Z16 (shC (shq x1).1 (shq x1).2) (shC (shq x2).1 (shq x2).2)
 simp -dsimp (maxSteps:=1000000) (disch:=first|omega|(simp only[new_n,put_n];omega)|decide +kernel|(repeat first|rw[new_n]|rw[put_n])) only[wpS,wpT,Nat.reduceEqDiff,Nat.reduceLeDiff,Nat.reduceAdd,zc47,st47,ld47,shV_cells,shC_len,shC_all,sh_sp3,sh_take]
 rw[←hH4]
 clear hH4
 refine call (shcmp_ok (p1:=shq x1) (p2:=shq x2) (shq_lt q1) (shq_lt q2) (shq_rOf q1).2 (shq_rOf q2).2) ?_
 rintro _ h5 ⟨X5,rfl⟩
 rw[cmpQ_rOf q1 q2]
 have k12:=X5.kept (by omega) g12
 have k13:=X5.kept (by omega) g13
 have m5:=X5.n
 simp -dsimp (maxSteps:=1000000) (disch:=first|omega|(simp only[new_n,put_n];omega)|decide +kernel|(repeat first|rw[new_n]|rw[put_n])) only[wpS,wpT,Nat.reduceEqDiff]
 refine bq_cut (fun fr2 h6 => ∃(X Y:Rat) (dx dy:Int),Dvs top dx X∧Dvs top dy Y∧Y≤X∧Ext h3 h6∧h3.n+2≤h6.n∧h6.ext.get h3.n=some (.cells (shC (shq X).1 (shq X).2) 0 none)∧h6.ext.get (h3.n+1)=some (.cells (shC (shq Y).1 (shq Y).2) 0 none)∧fget fr2 9=some v∧fget fr2 10=some (KN (11+m % 5))∧fget fr2 12=some (ptr (2*h3.n) 0)∧fget fr2 13=some (ptr (2*(h3.n+1)) 0)) (fun hc=>?_) (fun hc=>?_) ?_
 ·have lt:x1<x2:=by
   unfold cmpQ at hc
   split at hc
   ·assumption
   ·split at hc<;>simp at hc
  simp -dsimp (maxSteps:=1000000) (disch:=first|omega|(simp only[new_n,put_n];omega)|decide +kernel|(repeat first|rw[new_n]|rw[put_n])) only[wpS,wpT,Nat.reduceEqDiff,Nat.reduceLeDiff,st47,ld47,row_of k12,row_of k13,k12,k13,shC_len,shC_all,sh_take,sh_spA]
  exact⟨x2,x1,d2,d1,D2,D1,by grind,((E4.trans X5).put (by omega) _).put (by omega) _,by simp;omega,by simp (disch:=first|omega|(simp only[new_n,put_n];omega)|(repeat first|rw[new_n]|rw[put_n])) only[get_put_same,get_put_old],by simp (disch:=first|omega|(simp only[new_n,put_n];omega)|(repeat first|rw[new_n]|rw[put_n])) only[get_put_same],by simp,by simp,by simp,by simp⟩
 ·have ge:x2≤x1:=by
   unfold cmpQ at hc
   split at hc
   ·simp at hc
   ·grind
  simp -dsimp (maxSteps:=1000000) (disch:=first|omega|(simp only[new_n,put_n];omega)|decide +kernel|(repeat first|rw[new_n]|rw[put_n])) only[wpS]
  exact⟨x1,x2,d1,d2,D1,D2,ge,E4.trans X5,by omega,k12,k13,by simp,by simp,by simp,by simp⟩
 ·rintro fr2 h6 ⟨X,Y,dx,dy,DX,DY,hXY,E6,n6,k12,k13,f9,f10,f12,f13⟩
  have qX:=DX.qw
  have qY:=DY.qw
  have hm5:11≤11+m % 5∧11+m % 5≤15:=by omega
  have K6:=X2.trans (X3.trans E6)
  simp -dsimp (maxSteps:=1000000) (disch:=first|omega|(simp only[new_n,put_n];omega)|decide +kernel|(repeat first|rw[new_n]|rw[put_n])) only[wpS,Nat.reduceEqDiff,Nat.reduceLeDiff,ld47,f9,f10,f12,row_of k12,shC_len,sh_take]
  refine call (at_ok (p:=shq X) (sc.keep K6.keep) (by have:=C.len;omega) (shq_lt qX)) ?_
  rintro r7 h7 ⟨X7,av7⟩
  obtain⟨va,vb,rfl,sa,sb⟩:=av7.fine (atErr_fine C hm5 DX htop)
  have m7:=X7.n
  simp -dsimp (maxSteps:=1000000) (disch:=first|omega|(simp only[new_n,put_n];omega)|decide +kernel|(repeat first|rw[new_n]|rw[put_n])) only[wpS,Nat.reduceEqDiff,Nat.reduceLeDiff,ld47,f9,f10,f13,row_of (X7.kept (by omega) k13),shC_len,sh_take]
  refine call (at_ok (p:=shq Y) (sc.keep (K6.trans X7).keep) (by have:=C.len;omega) (shq_lt qY)) ?_
  rintro r8 h8 ⟨X8,av8⟩
  obtain⟨vp2,vq,rfl,sp,sq⟩:=av8.fine (atErr_fine C hm5 DY htop)
  rw[Int.toNat_natCast,(shq_rOf qX).1] at sa sb
  rw[Int.toNat_natCast,(shq_rOf qY).1] at sp sq
  have A0:=(sa.keep X8.keep).now
  have B0:=(sb.keep X8.keep).now
  have P0:=sp.now
  have Q0:=sq.now
  have C0:=(sc.keep (K6.trans (X7.trans X8)).keep).now
  have nl:((c.length:Int) != (c.length:Int))=false:=by simp
  simp -dsimp (maxSteps:=1000000) (disch:=first|omega|(simp only[new_n,put_n];omega)|decide +kernel|(repeat first|rw[new_n]|rw[put_n])) only[wpS,wpT,Nat.reduceEqDiff,f9,nl,A0.len sl29,B0.len sl29,P0.len sl29,Q0.len sl29,C0.len sl29]
  refine loop (fun mm fr hh => ∃i:Nat,i+mm=c.length∧hh=h8∧fget fr 16=some va∧fget fr 17=some vb∧fget fr 19=some vp2∧fget fr 20=some vq∧fget fr 114=some (KN c.length)∧fget fr 115=some (KN i)) c.length ⟨0,by omega,rfl,by simp,by simp,by simp,by simp,by simp,by simp⟩ ?_
  rintro mm fr9 _ ⟨i,him,rfl,f16,f17,f19,f20,f114,f115⟩
  by_cases ci:i<c.length
  ·obtain⟨n,hn⟩ : ∃n,c[i]?=some n:=⟨_,List.getElem?_eq_getElem ci⟩
   have hnm:=List.mem_of_getElem? hn
   obtain⟨a,b,p,q,ea,ep,l1,l2,l3,l4,l5,l6,l7⟩:=DX.falls DY hXY hm5 (n:=n) ⟨(C.b n hnm).1,by rw[htop];exact le_maxL c n hnm⟩
   have e2:IntKind.i64.wrap ((i:Int)+1)=((i+1:Nat):Int):=by have:=C.len;rw[wrap_i64 (by omega)];omega
   have lA:=A0.ld (P:=Proofs.Tryz.prog) (t:=3) (c:=i) (by rw[atA_len.1];omega) ag3
   have lB:=B0.ld (P:=Proofs.Tryz.prog) (t:=3) (c:=i) (by rw[atA_len.2];omega) ag3
   have lP:=P0.ld (P:=Proofs.Tryz.prog) (t:=3) (c:=i) (by rw[atA_len.1];omega) ag3
   have lQ:=Q0.ld (P:=Proofs.Tryz.prog) (t:=3) (c:=i) (by rw[atA_len.2];omega) ag3
   rw[(atA_get hn).1,ea] at lA
   rw[(atA_get hn).2,ea] at lB
   rw[(atA_get hn).1,ep] at lP
   rw[(atA_get hn).2,ep] at lQ
   have w1:IntKind.i64.wrap ((a:Int)+1)=((a+1:Nat):Int):=by rw[wrap_i64 (by omega)];omega
   have w2:IntKind.i64.wrap ((p:Int)+1)=((p+1:Nat):Int):=by rw[wrap_i64 (by omega)];omega
   simp -dsimp (maxSteps:=1000000) (disch:=first|omega|(simp only[new_n,put_n];omega)|decide +kernel|(repeat first|rw[new_n]|rw[put_n])) only[wpS,wpT,Nat.reduceEqDiff,f114,f115]
   simp only[app_cons',app_nil']
   simp -dsimp (maxSteps:=1000000) (disch:=first|omega|(simp only[new_n,put_n];omega)|decide +kernel|(repeat first|rw[new_n]|rw[put_n])) only[wpS,wpT,Nat.reduceEqDiff,f16,f17,f19,f20,f115,e2,w1,w2,A0.idx es29 ci,B0.idx es29 ci,P0.idx es29 ci,Q0.idx es29 ci,lA,lB,lP,lQ]
   exact⟨mm - 1,by omega,i+1,by omega,rfl,by simp[f16],by simp[f17],by simp[f19],by simp[f20],by simp[f114],by simp⟩
  ·simp -dsimp (maxSteps:=1000000) (disch:=first|omega|(simp only[new_n,put_n];omega)|decide +kernel|(repeat first|rw[new_n]|rw[put_n])) only[wpS,wpT,f114,f115]
end Go.Id

/-! The rows of package bracket, common part: the layer's check, drafts that came in. -/
namespace Go.Proofs.YthpefnfbnaekaaaGreat
open Go.ChangeShapes Go.WideShapes Go.ChangeAt Go.RowKit Go.Id
noncomputable def tb1:List (FuncId×(List Value→Option Value)):=[(101,make2),(52,of2),(46,of2),(50,check1),(27,sign1),(21,cmp2),(26,mul2),(53,quo2),(85,max2)]
theorem sound_1 : ∀p∈tb1,EntryOK Tryz.prog p.1 p.2:=by
 intro p hp
 simp only[tb1,List.mem_cons,List.not_mem_nil,or_false] at hp
 rcases hp with rfl|rfl|rfl|rfl|rfl|rfl|rfl|rfl|rfl
 ·exact entry_wv Tryz.sound Tryz.func101 rfl val_make
 ·exact entry_wv Tryz.sound Tryz.func52 rfl val_of
 ·exact entry_wv Tryz.sound Tryz.func46 rfl val_of02
 ·exact entry_wv Tryz.sound Tryz.func50 rfl val_check
 ·exact entry_wv Tryz.sound Tryz.func27 rfl val_sign
 ·exact entry_wv Tryz.sound Tryz.func21 rfl val_cmp
 ·exact entry_wv Tryz.sound Tryz.func26 rfl val_mul
 ·exact entry_wv Tryz.sound Tryz.func53 rfl val_div
 ·exact entry_wv Tryz.sound Tryz.func85 rfl val_max
theorem wakes_true:boolF (E1 Tryz.prog (tbOf tb1)) (4999+1) 8 (fun _=>none)=true:=by decide +kernel
theorem sound_W:Sound (E1 Tryz.prog tbW):=sound_tb Tryz.sound fun p hp=>by
 obtain rfl:=List.mem_singleton.1 hp
 exact entry_true (E:=E1 Tryz.prog (tbOf tb1)) (sound_tb Tryz.sound sound_1) Tryz.func8 rfl wakes_true
theorem u_draft6:Tryz.prog.underlying 26=some (.struct { toList:=[{ name := "People",type:=22,offset:=0,embedded:=false,tag := "",pkgPath := "",byteOffset:=0 },{ name := "Unit",type:=5,offset:=1,embedded:=false,tag := "",pkgPath := "",byteOffset:=24 },{ name := "Least",type:=23,offset:=2,embedded:=false,tag := "",pkgPath := "",byteOffset:=32 },{ name := "Seats",type:=24,offset:=3,embedded:=false,tag := "",pkgPath := "",byteOffset:=56 }] }):=by kernel_rfl
theorem u_u16s:Tryz.prog.underlying 22=some (.slice 24):=by kernel_rfl
theorem u_u8s:Tryz.prog.underlying 23=some (.slice 5):=by kernel_rfl
theorem u_u16:Tryz.prog.underlying 24=some (.int .u16):=by kernel_rfl
theorem u_u8:Tryz.prog.underlying 5=some (.int .u8):=by kernel_rfl
theorem c_draft6:Tryz.prog.cellsOf 26=4:=by kernel_rfl
theorem c_u16s:Tryz.prog.cellsOf 22=1:=by kernel_rfl
theorem c_u8s:Tryz.prog.cellsOf 23=1:=by kernel_rfl
theorem c_u16:Tryz.prog.cellsOf 24=1:=by kernel_rfl
theorem c_u8:Tryz.prog.cellsOf 5=1:=by kernel_rfl
theorem wf_u8 {x:Int} (h:(Lit.int .u8 x).wf=true):0≤x∧x<256:=by
 simp only[Lit.wf,Bool.and_eq_true,decide_eq_true_eq] at h
 have h1:(0:Int)≤x:=h.1
 have h2:x≤(255:Int):=h.2
 exact⟨h1,by omega⟩
theorem wf_u16 {x:Int} (h:(Lit.int .u16 x).wf=true):0≤x∧x<65536:=by
 simp only[Lit.wf,Bool.and_eq_true,decide_eq_true_eq] at h
 have h1:(0:Int)≤x:=h.1
 have h2:x≤(65535:Int):=h.2
 exact⟨h1,by omega⟩
theorem len4 {α:Type} : ∀{l:List α},l.length=4 → ∃a b c d,l = [a,b,c,d]
 | [a,b,c,d],_=>⟨a,b,c,d,rfl⟩
theorem nums_of {f:Nat→Value} {m:Nat} : ∀(n:Nat) (cs:List Value),cs.length=n*1→(∀i,i<n → ∃p,p<m∧(cs.drop (i*1)).take 1 = [f p]) → ∃ps:List Nat,ps.length=n∧cs=ps.map f ∧ ∀p∈ps,p<m
 | 0,cs,h,_=>⟨[],rfl,by simpa using h,fun p hp=>by cases hp⟩
 | n+1,[],h,_=>by simp at h
 | n+1,c :: cs,h,k=>by
  obtain⟨p,h1,h2⟩:=k 0 (by omega)
  obtain⟨ps,h3,h4,h5⟩:=nums_of n cs (by simp at h ⊢;omega) fun i hi=>by
   obtain⟨q,h6,h7⟩:=k (i+1) (by omega)
   exact⟨q,h6,by simpa using h7⟩
  refine⟨p :: ps,by simp[h3],?_,fun q hq=>?_⟩
  ·simp at h2;rw[List.map_cons,h2,h4]
  ·rcases List.mem_cons.1 hq with rfl|hq
   ·exact h1
   ·exact h5 q hq
section
variable {H:Type} {enc:TypeId×Value→H} {W:World} {held:Bool}
theorem tell_nums {t e:TypeId} {k:IntKind} {m:Nat} (hk:k.min=0) (hm:k.max=(m:Int)) (hs:Tryz.prog.underlying t=some (.slice e)) (he:Tryz.prog.underlying e=some (.int k)) (hc:Tryz.prog.cellsOf e=1) (G:Nat→Option (List Value)) {fuel:Nat} {cs0:List Value} {x:DataW H×List MemPlace} (h:DataW.trod enc Tryz.prog W 0 (fun _=>true) held fuel t cs0=some x) :
  ∃(v:Value) (ps:List Nat),cs0 = [v]∧tellable v=true∧ps.length≤maxLen∧SlOf (IH.start (tellB G W)) 1 (trV v) ps.length (ps.map fun n:Nat=>Value.int k (n:Int)) ∧ ∀p∈ps,p<m+1:=by
 obtain⟨v,n,cs,e1,ht,hn,hs,hR⟩:=tell_slice (R:=fun cs => ∃p:Nat,p<m+1∧cs.map trV = [.int k (p:Int)]) hs hc (by omega) (fun n cs x hx=>by
  obtain⟨i,rfl,hi⟩:=trod_nat hk hm he hx
  exact⟨⟨i,by omega,rfl⟩,fun y hy=>by rw[List.mem_singleton.1 hy];rfl⟩) G h
 obtain⟨ps,h1,h2,h3⟩:=nums_of (f:=fun n:Nat=>Value.int k (n:Int)) (m:=m+1) n (cs.map trV) hs.2.1 fun i hi=>by
  obtain⟨p,hp,e⟩:=hR i hi
  exact⟨p,hp,by rw[←List.map_drop,←List.map_take];exact e⟩
 subst h1
 exact⟨v,ps,e1,ht,hn,h2▸hs,h3⟩
theorem draft6_of (G:Nat→Option (List Value)) {fuel:Nat} {cs:List Value} {x:DataW H×List MemPlace} (h:DataW.trod enc Tryz.prog W 0 (fun _=>true) held fuel 26 cs=some x) :
  ∃y1 u y2 s ps ls,cs = [y1,B8 u,y2,B16 s]∧(tellable y1=true∧tellable y2=true)∧Dr6 (IH.start (tellB G W)) (.agg #[trV y1,B8 u,trV y2,B16 s]) ps ls u s:=by
 obtain⟨xs,m,_,_,hl,hn,hf⟩:=DataW.trod_struct u_draft6 h
 rw[c_draft6] at hl
 have hn2:xs.length=4:=hn
 obtain⟨x0,hx0⟩ : ∃y,xs[0]?=some y:=⟨_,List.getElem?_eq_getElem (by omega)⟩
 have f0:DataW.trod enc Tryz.prog W 0 (fun _=>true) held m 22 ((cs.drop 0).take (Tryz.prog.cellsOf 22))=some x0:=(hf 0 { name := "People",type:=22,offset:=0,embedded:=false,tag := "",pkgPath := "",byteOffset:=0 } rfl).trans hx0
 obtain⟨x1,hx1⟩ : ∃y,xs[1]?=some y:=⟨_,List.getElem?_eq_getElem (by omega)⟩
 have f1:DataW.trod enc Tryz.prog W 0 (fun _=>true) held m 5 ((cs.drop 1).take (Tryz.prog.cellsOf 5))=some x1:=(hf 1 { name := "Unit",type:=5,offset:=1,embedded:=false,tag := "",pkgPath := "",byteOffset:=24 } rfl).trans hx1
 obtain⟨x2,hx2⟩ : ∃y,xs[2]?=some y:=⟨_,List.getElem?_eq_getElem (by omega)⟩
 have f2:DataW.trod enc Tryz.prog W 0 (fun _=>true) held m 23 ((cs.drop 2).take (Tryz.prog.cellsOf 23))=some x2:=(hf 2 { name := "Least",type:=23,offset:=2,embedded:=false,tag := "",pkgPath := "",byteOffset:=32 } rfl).trans hx2
 obtain⟨x3,hx3⟩ : ∃y,xs[3]?=some y:=⟨_,List.getElem?_eq_getElem (by omega)⟩
 have f3:DataW.trod enc Tryz.prog W 0 (fun _=>true) held m 24 ((cs.drop 3).take (Tryz.prog.cellsOf 24))=some x3:=(hf 3 { name := "Seats",type:=24,offset:=3,embedded:=false,tag := "",pkgPath := "",byteOffset:=56 } rfl).trans hx3
 rw[c_u16s] at f0
 rw[c_u8] at f1
 rw[c_u8s] at f2
 rw[c_u16] at f3
 obtain⟨a,b,c,d,rfl⟩:=len4 hl
 obtain⟨v,ps,e0,t0,n0,s0,b0⟩:=tell_nums (k:=.u16) (m:=65535) rfl rfl u_u16s u_u16 c_u16 G f0
 obtain⟨u,e1,hu⟩:=trod_nat (m:=255) rfl rfl u_u8 f1
 obtain⟨w,ls,e2,t2,n2,s2,b2⟩:=tell_nums (k:=.u8) (m:=255) rfl rfl u_u8s u_u8 c_u8 G f2
 obtain⟨s,e3,hs⟩:=trod_nat (m:=65535) rfl rfl u_u16 f3
 cases e0;cases e1;cases e2;cases e3
 refine⟨_,u,_,s,ps,ls,rfl,⟨t0,t2⟩,⟨_,_,rfl,s0,s2⟩,b0,b2,by omega,by omega,?_,?_⟩
 ·exact Nat.lt_of_le_of_lt n0 (by decide)
 ·exact Nat.lt_of_le_of_lt n2 (by decide)
end
end Go.Proofs.YthpefnfbnaekaaaGreat

/-! BracketFalls: for every input the law returns true, and each argument reads as it did. Conditions: none but the row's own. -/
namespace Go.Proofs.YthpefnfbnaekaaaGreat
open Go.ChangeShapes Go.WideShapes Go.ChangeAt Go.RowKit Go.Id
set_option maxRecDepth 100000 in
theorem bracketFalls_lifted (os:Os) (started:os.Started) (H:Type) (enc:TypeId×Value→H) :
  ReturnsInHanded {} Tryz.checked os 4 .any (Rows.bracketFallsSpec.pre6 enc Tryz.prog Tryz.f4 Rows.bracketFallsRow.domain false) (Rows.bracketFallsSpec.post enc Tryz.prog Tryz.f4 false true false false):=by
 refine returnsInHanded_of_change (C:=Tryz.checked) Tryz.own started (by kernel_rfl) Tryz.func4
  (ChangeSpec.witness6 (enc:=enc) (C:=Tryz.checked) false ⟨#[],#[.agg #[.slice none 0 0,.int .u8 0,.slice none 0 0,.int .u16 0],.int .u8 0,.int .u16 0,.int .u16 0],[]⟩ 8 (by kernel_rfl) (by kernel_rfl) (by kernel_rfl) (by kernel_rfl)) ?_
 intro W base args ds gs before hval0 hW hcnd _
 have hval : ∀(j:Nat) t v,Tryz.f4.params[j]?=some t→args[j]?=some v→Value.okWide Tryz.prog W .any base t v:=hval0
 have hW':=hW
 obtain⟨p,q,hA0,hV,rfl,hfz,hnd⟩:=hW
 have hA:DataW.TrodAll enc Tryz.prog W 0 (fun _=>true) true Tryz.f4.params.toList args.toList ds p:=hA0
 have hA1:=hA
 rw[Tryz.params4] at hA hval
 obtain⟨a0,r0,d0,ds0,p0,q0,e0,rfl,rfl,t0,h0A⟩:=trodAll_cons hA
 obtain⟨a1,r1,d1,ds1,p1,q1,rfl,rfl,rfl,t1,h1A⟩:=trodAll_cons h0A
 obtain⟨a2,r2,d2,ds2,p2,q2,rfl,rfl,rfl,t2,h2A⟩:=trodAll_cons h1A
 obtain⟨a3,r3,d3,ds3,p3,q3,rfl,rfl,rfl,t3,h3A⟩:=trodAll_cons h2A
 obtain⟨rfl,rfl,rfl⟩:=trodAll_nil h3A
 obtain⟨rfl,rfl⟩:=trodVars_none hV
 obtain rfl:args = #[a0,a1,a2,a3]:=by cases args;simpa using e0
 obtain⟨z0,rfl,_⟩:=okWide_struct u_draft6 (hval 0 _ _ rfl rfl)
 obtain⟨fu0,t0⟩:=t0
 obtain⟨ya0,u0,yb0,s0,ps0,ls0,g0,m0,dr0⟩:=draft6_of (fun _=>none) t0
 obtain rfl:z0 = #[ya0,B8 u0,yb0,B16 s0]:=by cases z0;simpa using g0
 obtain⟨x1,rfl,_,_,w1⟩:=open_int u_u8 (hval 1 _ _ rfl rfl) t1
 have i1:0≤x1∧x1<256:=wf_u8 w1
 obtain⟨k1,rfl⟩ : ∃k:Nat,x1=k:=⟨x1.toNat,by omega⟩
 obtain⟨x2,rfl,_,_,w2⟩:=open_int u_u16 (hval 2 _ _ rfl rfl) t2
 have i2:0≤x2∧x2<65536:=wf_u16 w2
 obtain⟨k2,rfl⟩ : ∃k:Nat,x2=k:=⟨x2.toNat,by omega⟩
 obtain⟨x3,rfl,_,_,w3⟩:=open_int u_u16 (hval 3 _ _ rfl rfl) t3
 have i3:0≤x3∧x3<65536:=wf_u16 w3
 obtain⟨k3,rfl⟩ : ∃k:Nat,x3=k:=⟨x3.toNat,by omega⟩
 have hb:=tell_ok (W:=W) (G:=fun _=>none) (fun b cs h=>by cases h)
 refine(parts_true (tb:=tbW) (nt:=185) (rs:=[.tmp 8]) Tryz.sound sound_W Tryz.func4 rfl rfl rfl (by simp) (falls0 _ _ _ _ _ _ _ _) (falls1 _ _) (falls_rest (b:=0) (dr0.keep ((Ext.refl _).new _).keep) (get_new_same _ _ rfl) (by simp) (by omega) (by omega) (by omega) rfl rfl rfl rfl) hb (args':=#[.agg #[ya0,B8 u0,yb0,B16 s0],.int .u8 (k1:Int),.int .u16 (k2:Int),.int .u16 (k3:Int)]) (.cons (.agg_iff (.cons (trV_rel m0.1) (.cons (.scal rfl) (.cons (trV_rel m0.2) (.cons (.scal rfl) (.nil _)))))) (.cons (.scal rfl) (.cons (.scal rfl) (.cons (.scal rfl) (.nil _)))))).mono fun e W' ⟨he,hk⟩=>?_
 subst he
 refine⟨_,rfl,post_of_below (pa:=p0 ++ (p1 ++ (p2 ++ (p3 ++ [])))) (pv:=[]) hW' (fun _ _ _=>trodAll_mk1 (shut_bool Tryz.underlying4 _)) (fun sp hs=>?_) (fun _ _=>rfl) hk⟩
 exact trodAll_stays Tryz.kids Tryz.pos hk hA1 (fun t ht=>by
  rw[Tryz.params4] at ht
  simp at ht
  rcases ht with rfl|rfl|rfl|rfl<;>exact of_decide_eq_true (by kernel_rfl)) (fun x hx=>hs x (by simpa using hx))
theorem bracketFalls_row:Rows.BracketFallsSaid :=
 OpenClaim.holds_of_wide 4 Tryz.f4 rfl rfl rfl rfl rfl rfl rfl ⟨rfl,rfl,rfl,rfl,rfl⟩ rfl rfl rfl rfl rfl (by kernel_rfl) Tryz.func4 (by kernel_rfl)
  (of_decide_eq_true (by kernel_rfl)) (by unfold Func.isWrapper;first|(rw[if_pos (by decide +kernel)];kernel_rfl)|(rw[if_neg (by decide +kernel)];exact⟨rfl,rfl⟩))
  (fun os started H enc _=>bracketFalls_lifted os started H enc)
#print axioms bracketFalls_row
end Go.Proofs.YthpefnfbnaekaaaGreat

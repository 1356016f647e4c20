/-
  Contracts: package divisor: an award is made.
-/
import Derived.Test.YthpefnfbnaekaaaGreatBracketTwoAr
import Derived.Test.YthpefnfbnaekaaaGreatBracketTwoBs
set_option linter.unusedVariables false
set_option linter.unusedSimpArgs false
set_option linter.defProp false
set_option linter.deprecated false
namespace Go.Id
open Go
open Go.Proofs.Tryz (prog)
open Nat (reduceAdd reduceEqDiff reduceLeDiff)
set_option maxHeartbeats 16000000
theorem rankC_sp (m p s:Nat):IH.splice (.bool false :: Z16) 0 (rankC m p s)=rankC m p s:=splice_all (by rw[rankC_len];rfl)
theorem boxed1 (h:IH) (a:List Value) : ∃H,H=h.new (.cells a 0 none)∧H.n=h.n+1∧Ext h H∧H.ext.get h.n=some (.cells a 0 none):=⟨_,rfl,rfl,(Ext.refl h).new _,by simp (disch:=try exact dx) only[get_new_same]⟩
theorem ld_cellC {h:IH} {k o:Nat} {cs:List Value} {e:Nat} {f:Option Nat} {v:Value} (g:h.ext.get k=some (.cells cs e f)) (hv:cs[o]?=some v):load prog h 149 (ptr (2*k) o)=some v:=by
 rw[load_scal ag149,ld_of (row_of g),hv]
theorem sum_take_le : ∀(l:List Int),(∀x∈l,0≤x) → ∀i,0≤(l.take i).sum∧(l.take (i+1)).sum≤l.sum
 | [],_,i=>by simp
 | a :: l,h,i=>by
  have h1:=h a List.mem_cons_self
  have h2:=sum_nonneg l fun y hy=>h y (List.mem_cons_of_mem _ hy)
  cases i with
  | zero=>simp;omega
  | succ i =>
   have:=sum_take_le l (fun y hy=>h y (List.mem_cons_of_mem _ hy)) i
   rw[List.take_succ_cons,List.take_succ_cons,List.sum_cons,List.sum_cons,List.sum_cons]
   omega
theorem sum_replicate0 : ∀k:Nat,(List.replicate k (0:Int)).sum=0
 | 0=>rfl
 | k+1=>by rw[List.replicate_succ,List.sum_cons,sum_replicate0 k];rfl
def posR (people:List Int) (j:Nat):Bool:=decide (0<people.getD j 0)
structure ClS (H7 g:IH) (m kr:Nat) (people low:List Int) (i:Nat) (cs:List Claim) (av:Value) (left:Int):Prop where
 e:Mem kr H7 g
 gr:g.ext.get kr=some (.cells [KN m,av,KI left] 0 none)
 acc:Acc g H7.n 1 av cs.length (cs.map Claim.ptr)
 cl:Claims g m cs
 at_:cs.map Claim.at_=(List.range i).filter (posR people)
 num : ∀c∈cs,c.p=(people.getD c.at_ 0).toNat∧c.s=(low.getD c.at_ 0).toNat
 asc:(cs.map Claim.k).Pairwise (· < ·)
 lo : ∀c∈cs,H7.n≤c.k
theorem ClS.left {H7 g:IH} {m kr:Nat} {people low:List Int} {i:Nat} {cs:List Claim} {av:Value} {l:Int} (S:ClS H7 g m kr people low i cs av l) (hk:kr<H7.n) (l2:Int):ClS H7 (g.put kr (.cells [KN m,av,KI l2] 0 none)) m kr people low i cs av l2:=by
 obtain⟨e,gr,acc,cl,at_,num,asc,lo⟩:=S
 refine⟨e.put (.inr rfl) _,get_put_same _ _ rfl,acc.put gr _,fun c hc=>?_,at_,num,asc,lo⟩
 obtain⟨a,b⟩:=cl c hc
 have:=lo c hc
 exact⟨by rw[get_put_old _ _ (by omega)];exact a,b⟩
theorem ClS.skip {H7 g:IH} {m kr:Nat} {people low:List Int} {i:Nat} {cs:List Claim} {av:Value} {l:Int} (S:ClS H7 g m kr people low i cs av l) (hi:posR people i=false):ClS H7 g m kr people low (i+1) cs av l :=
 ⟨S.e,S.gr,S.acc,S.cl,by rw[List.range_succ,List.filter_append,List.filter_cons_of_neg (by simp[hi]),List.filter_nil,List.append_nil];exact S.at_,S.num,S.asc,S.lo⟩
theorem Mem.keep0 {m:Nat} {h h':IH} {c:List Value} {f:Option Nat} (e:Mem m h h') (hm:h.ext.get m=some (.cells c 0 f)):Keep h h':=⟨e.n,e.base,fun k c e1 f hk hg he=>by
 by_cases hkm:k=m
 ·subst hkm;rw[hm] at hg;cases hg;exact absurd rfl he
 ·exact⟨f,by rw[e.get k hk hkm];exact hg⟩⟩
theorem seatsF_ok {h:IH} {a b:Nat}:WV prog (.func (.func 105) #[] #[]) [ptr (2*a) 0,ptr (2*b) 0] h
  fun r h'=>r=.func (.func 136) #[] #[ptr (2*h.n) 0,ptr (2*(h.n+1)) 0]∧h'=(h.new (.cells [ptr (2*a) 0] 0 none)).new (.cells [ptr (2*b) 0] 0 none):=by
 refine enter (nt:=6) (rs:=[.tmp 4]) Proofs.Tryz.func105 rfl rfl rfl (by simp) ?_
 simp -dsimp (maxSteps:=1000000) (disch:=try exact dx) only[wpS,wpT,reduceEqDiff,reduceAdd]
theorem rangeEnd_two {k i:Nat} {r:ILoop} {fr:Fr} {Q:IExit→Fr→IH→Prop} {h1:IH} (hg:h1.ext.get k=some (.loop r)∨h1.ext.get k=some (.loop (doneL r (.exit i)))) (he:Q (.exit i) fr (h1.put k .dead)=Q .normal fr (h1.put k .dead)) (hq:Q .normal fr (h1.put k .dead)):RangeEnd k r fr Q h1:=by
 rcases hg with hg|hg
 ·exact .inl ⟨hg,hq⟩
 ·exact .inr (.inl ⟨i,hg,he▸hq⟩)
theorem claimC_0 (m a p s:Nat):(claimC m a p s)[0]?=some (KN a):=rfl
theorem ld_cellN {h:IH} {k o:Nat} {cs:List Value} {e:Nat} {f:Option Nat} {v:Value} (g:h.ext.get k=some (.cells cs e f)) (hv:cs[o]?=some v):load prog h 3 (ptr (2*k) o)=some v:=by
 rw[load_scal ag3,ld_of (row_of g),hv]
theorem getD_set_self {l:List Int} {i:Nat} {x:Int} (h:i<l.length):(l.set i x).getD i 0=x:=by
 rw[List.getD_eq_getElem?_getD,List.getElem?_set_self h];rfl
theorem getD_set_ne {l:List Int} {i j:Nat} {x:Int} (h:j≠i):(l.set i x).getD j 0=l.getD j 0:=by
 rw[List.getD_eq_getElem?_getD,List.getElem?_set_ne (Ne.symm h),←List.getD_eq_getElem?_getD]
theorem deadKeep {h:IH} {k:Nat} {r:ILoop} {o:IObj} (hk:h.ext.get k=some (.loop r)):Keep h (h.put k o):=⟨Nat.le_refl _,rfl,fun j c e f hj hg he=>by
 by_cases hjk:j=k
 ·subst hjk;rw[hk] at hg;cases hg
 ·exact⟨f,by rw[get_put_old _ _ hjk];exact hg⟩⟩
theorem tk3r (a b c:Value):List.take 3 (List.drop 0 [a,b,c]) = [a,b,c]:=rfl
theorem getD_nonneg {l:List Int} (h : ∀x∈l,0≤x) (j:Nat):0≤l.getD j 0:=by
 rw[List.getD_eq_getElem?_getD]
 cases hj:l[j]? with
 | none=>exact Int.le_refl _
 | some x=>exact h x (List.mem_of_getElem? hj)
theorem map_getD (cs:List Claim):cs.map Claim.ptr=(List.range cs.length).map fun i=>ptr (2*(cs.getD i noClaim).k) 0:=by
 refine List.ext_getElem? fun i=>?_
 rw[List.getElem?_map,List.getElem?_map]
 by_cases h:i<cs.length
 ·rw[List.getElem?_range h,List.getElem?_eq_getElem h]
  show some (cs[i].ptr)=some (ptr (2*(cs.getD i noClaim).k) 0)
  rw[List.getD_eq_getElem?_getD,List.getElem?_eq_getElem h];rfl
 ·rw[List.getElem?_eq_none (by omega),List.getElem?_eq_none (by rw[List.length_range];omega)];rfl
theorem Acc.own {R:RaceP} (O:R.OK) {h h':IH} {n0:Nat} {v:Value} {n:Nat} {cs:List Value} (a:Acc h n0 1 v n cs) (hb:R.kb2<n0) (o:Own R h h'):Acc h' n0 1 v n cs:=by
 have bx:=O.bx
 obtain⟨hz,hl,a|⟨k,fam,rfl,hn,h1,h2,h3,h4⟩⟩:=a
 ·exact⟨hz,hl,.inl a⟩
 ·refine⟨hz,hl,.inr ⟨k,fam,rfl,hn,h1,by have:=o.n;omega,?_,?_⟩⟩
  ·rw[o.get k h2 (by omega) (by omega) (fun i hi=>by have:=O.lo i hi;omega)];exact h3
  ·cases fam with
   | none=>trivial
   | some f =>
    obtain⟨a1,a2,rest,a3,a4⟩:=h4
    exact⟨a1,by have:=o.n;omega,rest,by rw[o.fams f a2];exact a3,a4⟩
def raceOf (cs:List Claim) (m kr g:Nat) (av:Value):RaceP:=⟨cs.length,m,kr,g,g+1,g+2,fun i=>(cs.getD i noClaim).k,fun i=>(cs.getD i noClaim).at_,fun i=>(cs.getD i noClaim).p,av⟩
theorem claim_mem {cs:List Claim} {i:Nat} (h:i<cs.length):cs.getD i noClaim∈cs:=by
 rw[List.getD_eq_getElem?_getD,List.getElem?_eq_getElem h];exact List.getElem_mem h
theorem ClS.len {H7 g:IH} {m kr:Nat} {people low:List Int} {i:Nat} {cs:List Claim} {av:Value} {l:Int} (S:ClS H7 g m kr people low i cs av l):cs.length≤i:=by
 have h1:=congrArg List.length S.at_
 rw[List.length_map] at h1
 have h2:=List.length_filter_le (posR people) (List.range i)
 rw[List.length_range] at h2
 omega
theorem ClS.pos {H7 g:IH} {m kr:Nat} {people low:List Int} {i:Nat} {cs:List Claim} {av:Value} {l:Int} (S:ClS H7 g m kr people low i cs av l) {c:Claim} (hc:c∈cs):c.at_<i∧0<people.getD c.at_ 0∧1≤c.p:=by
 have h1:c.at_∈(List.range i).filter (posR people):=by rw[←S.at_];exact List.mem_map.2 ⟨c,hc,rfl⟩
 rw[List.mem_filter,List.mem_range] at h1
 have h2:0<people.getD c.at_ 0:=by simpa [posR] using h1.2
 have:=(S.num c hc).1
 exact⟨h1.1,h2,by omega⟩
theorem ClS.race {H7 g:IH} {m kr:Nat} {people low:List Int} {cs:List Claim} {av:Value} {l:Int} (S:ClS H7 g m kr people low people.length cs av l) (hm:11≤m∧m≤15) (hk:kr<H7.n) (h6:people.length≤60) (h0 : ∀x∈people,0≤x) (hs:people.sum≠0):(raceOf cs m kr g.n av).OK where
 inc i j hij hj:=by
  have a:=List.pairwise_iff_getElem.1 S.asc i j (by rw[List.length_map];exact Nat.lt_trans hij hj) (by rw[List.length_map];exact hj) hij
  rw[List.getElem_map,List.getElem_map] at a
  show(cs.getD i noClaim).k<(cs.getD j noClaim).k
  have hj:j<cs.length:=hj
  rw[List.getD_eq_getElem?_getD,List.getD_eq_getElem?_getD,List.getElem?_eq_getElem (by omega),List.getElem?_eq_getElem hj]
  exact a
 lo i hi:=by
  have c:=claim_mem (cs:=cs) hi
  have h1:=S.lo _ c
  have h2:=(S.cl _ c).2.1
  exact⟨Nat.lt_of_lt_of_le hk h1,h2⟩
 bx:=⟨Nat.lt_of_lt_of_le hk S.e.n,Nat.lt_succ_self _,Nat.lt_succ_self _⟩
 pp i hi:=⟨(S.pos (claim_mem (cs:=cs) hi)).2.2,(S.cl _ (claim_mem (cs:=cs) hi)).2.2.1⟩
 mm:=hm
 nn:=by
  refine⟨?_,Nat.le_trans S.len h6⟩
  obtain⟨x,hx,hx0⟩:=pos_of_sum people (by have:=sum_nonneg people h0;omega)
  obtain⟨j,hj⟩:=List.getElem?_of_mem hx
  have jl:=(List.getElem?_eq_some_iff.1 hj).1
  have h1:j∈(List.range people.length).filter (posR people):=by
   rw[List.mem_filter,List.mem_range]
   have h9:=h0 x hx
   refine⟨jl,?_⟩
   unfold posR
   rw[List.getD_eq_getElem?_getD,hj,decide_eq_true_eq]
   show 0<x
   omega
  rw[←S.at_] at h1
  have:=List.length_pos_of_mem h1
  rw[List.length_map] at this
  exact this
theorem ClS.inj {H7 g:IH} {m kr:Nat} {people low:List Int} {i:Nat} {cs:List Claim} {av:Value} {l:Int} (S:ClS H7 g m kr people low i cs av l) {a b:Nat} (ha:a<cs.length) (hb:b<cs.length) (hab:b≠a):(cs.getD a noClaim).at_≠(cs.getD b noClaim).at_:=by
 have hp:(cs.map Claim.at_).Pairwise (· < ·):=by rw[S.at_];exact List.pairwise_lt_range.filter _
 have lt : ∀x y,x<y→y<cs.length→(cs.getD x noClaim).at_<(cs.getD y noClaim).at_:=by
  intro x y hxy hy
  have h:=List.pairwise_iff_getElem.1 hp x y (by rw[List.length_map];omega) (by rw[List.length_map];exact hy) hxy
  rw[List.getElem_map,List.getElem_map] at h
  rw[List.getD_eq_getElem?_getD,List.getD_eq_getElem?_getD,List.getElem?_eq_getElem (by omega),List.getElem?_eq_getElem hy]
  exact h
 rcases Nat.lt_or_gt_of_ne hab with h|h
 ·have:=lt b a h ha;omega
 ·have:=lt a b h hb;omega
set_option maxRecDepth 20000 in
theorem run_walk {h:IH} {vp vl:Value} {seats m:Nat} {people least:List Int} (hp:SlOf h 1 vp people.length (people.map KI)) (hl:SlOf h 1 vl least.length (least.map KI)) (c1:quotaOK people=true) (c2:1≤seats∧seats≤1000) (c3:11≤m∧m≤15)
  (c4:least = []∨(least.length=people.length∧(∀x∈least,0≤x)∧least.sum≤seats)) :
  WV prog (.func (.func 58) #[] #[]) [vp,KI seats,KN m,vl] h fun r h'=>Ext h h' ∧ ∃(cs:List Claim) (s:Nat→Nat) (c left:Nat) (A:List Int) (B:List Nat) (ks:Nat) (w ov:Value),r=.tuple #[.agg #[blkV ks people.length,w,KI left],ov,KI 0]∧SlOf h' 1 (blkV ks people.length) people.length (A.map KI)∧SlOf h' 1 w B.length (B.map fun i=>KN (cs.getD i noClaim).at_) ∧
   A.length=people.length∧A.sum=(leastOr people.length least).sum+c∧(∀i,i<cs.length→A.getD (cs.getD i noClaim).at_ 0=s i)∧(∀j,people.getD j 0≤0→A.getD j 0=(leastOr people.length least).getD j 0)∧cs.map Claim.at_=(List.range people.length).filter (posR people)∧(∀c∈cs,c.p=(people.getD c.at_ 0).toNat∧c.s=((leastOr people.length least).getD c.at_ 0).toNat) ∧
   Fair m cs.length (fun i=>(cs.getD i noClaim).p) (fun i=>(cs.getD i noClaim).s) s∧((left=0∧B = [])∨(0<left∧left<B.length∧B=bestN (fun i=>keyC m (cs.getD i noClaim).p (s i)) cs.length))∧(leastOr people.length least).sum+c+left=seats:=by
 obtain⟨q1,q2,q3⟩:=quotaOK_iff.1 c1
 refine enter (nt:=153) (rs:=[.cell 8 33,.cell 9 29,.tmp 10]) Proofs.Tryz.func58 rfl rfl rfl (by simp) ?_
 simp -dsimp (maxSteps:=1000000) (disch:=try exact dx) only[wpS,reduceEqDiff,reduceAdd,zc33,zc29]
 obtain⟨H0,hH0,n0,E0,g0,g1,g2⟩:=boxes3 h [KI seats] [.slice none 0 0,.slice none 0 0,KI 0] [.slice none 0 0]
 rw[←hH0]
 clear hH0
 have hp0:=hp.keep E0.keep
 have hl0:=hl.keep E0.keep
 refine call (qcheck_ok hp0 (by omega)) ?_
 rintro _ k0 ⟨hk,rfl⟩
 rw[hk,if_pos c1]
 clear hk k0
 simp -dsimp (maxSteps:=1000000) (disch:=try exact dx) only[wpS,wpT,reduceEqDiff,reduceLeDiff,reduceAdd,ld3,bs29,row_of g0]
 refine call (within_ok (l:=[(seats:Int)]) 1 1000 (built1 H0 seats) (by simp)) ?_
 rintro _ h1 ⟨X1,rfl⟩
 have i1:inR 1 1000 [(seats:Int)]=true:=inR_iff.2 fun n hn=>by simp at hn;omega
 rw[i1]
 simp -dsimp (maxSteps:=1000000) (disch:=try exact dx) only[wpS,wpT,reduceEqDiff]
 refine call (known_ok (l:=[]) m (SlOf.nil _ (by omega)) (by simp)) ?_
 rintro _ h2 ⟨X2,rfl⟩
 have i2:(inR 11 15 [(m:Int)] && inR 0 1000 [])=true:=by
  rw[Bool.and_eq_true]
  exact⟨inR_iff.2 fun n hn=>by simp at hn;omega,rfl⟩
 rw[i2]
 have E2:Ext H0 h2:=(((Ext.refl H0).new _).trans X1).trans X2
 clear X1 X2 h1
 have N2:=E2.n
 have hp2:=hp0.keep E2.keep
 have hl2:=hl0.keep E2.keep
 have g02:=E2.kept (by omega) g0
 have g12:=E2.kept (by omega) g1
 have g22:=E2.kept (by omega) g2
 have n1:0<people.length:=by
  cases people with
  | nil=>simp at q3
  | cons a l=>simp
 obtain⟨low,hlow⟩ : ∃low,low=leastOr people.length least:=⟨_,rfl⟩
 have ll:low.length=people.length:=by
  rw[hlow];unfold leastOr
  rcases c4 with c4|c4
  ·rw[if_pos c4,List.length_replicate]
  ·split
   ·rw[List.length_replicate]
   ·exact c4.1
 have lpos : ∀x∈low,0≤x:=by
  rw[hlow];unfold leastOr
  split
  ·intro x hx;have:=List.eq_of_mem_replicate hx;omega
  ·rcases c4 with c4|c4
   ·contradiction
   ·exact c4.2.1
 have lsum:low.sum≤seats:=by
  rw[hlow];unfold leastOr
  split
  ·rw[sum_replicate0];omega
  ·rcases c4 with c4|c4
   ·contradiction
   ·exact c4.2.2
 simp -dsimp (maxSteps:=1000000) (disch:=try exact dx) only[wpS,wpT,reduceEqDiff,hl2.now.len sl29]
 refine bq_cut (fun fr3 h3 => ∃sv,Ext h2 h3∧SlOf h3 1 sv low.length (low.map KI)∧fget fr3 0=some vp∧fget fr3 2=some (KN m)∧fget fr3 3=some sv∧fget fr3 5=some (ptr (2*h.n) 0)∧fget fr3 8=some (ptr (2*(h.n+1)) 0)∧fget fr3 9=some (ptr (2*(h.n+1+1)) 0)) (fun hc=>?_) (fun hc=>?_) ?_
 ·have e0:least = []:=by simpa using hc
  have mk:=makeSlice_eq (P:=prog) (t:=29) mk29 h2 .i64 .i64 (l:=(people.length:Int)) (c:=(people.length:Int)) (by omega) (by omega) (by omega)
  simp -dsimp (maxSteps:=1000000) (disch:=try exact dx) only[wpS,reduceEqDiff,hp2.now.len sl29,mk]
  have e1:low=List.replicate people.length 0:=by rw[hlow];unfold leastOr;rw[if_pos e0]
  refine⟨.slice (some ⟨2*h2.n,0,none⟩) people.length (2*people.length+1),(Ext.refl h2).new _,?_,by simp,by simp,by simp,by simp,by simp,by simp⟩
  rw[ll,e1,←replZ]
  exact built_sl h2 (by omega) (by rw[replZ];simp) n1
 ·have e0:least ≠ []:=by simpa using hc
  have e1:low=least:=by rw[hlow];unfold leastOr;rw[if_neg e0]
  simp -dsimp (maxSteps:=1000000) (disch:=try exact dx) only[wpS]
  exact⟨vl,Ext.refl _,by rw[e1];exact hl2,by simp,by simp,by simp,by simp,by simp,by simp⟩
 ·rintro fr3 h3 ⟨sv,E3,hs3,f0,f2,f3,f5,f8,f9⟩
  have N3:=E3.n
  have g03:=E3.kept (by omega) g02
  have g13:=E3.kept (by omega) g12
  have g23:=E3.kept (by omega) g22
  have S3:=hs3.now
  have hp3:=hp2.keep E3.keep
  simp -dsimp (maxSteps:=1000000) (disch:=try exact dx) only[wpS,wpT,reduceEqDiff,reduceLeDiff,reduceAdd,ld3,bv151,pl151_0,pl151_2,zc151,st151,f0,f2,f3,f5,row_of g03,hp3.now.len sl29,S3.len sl29,ll]
  obtain⟨H4,hH4,n4,E4,g4⟩:=boxed h3 [KI 0,.slice none 0 0,KI 0] [KI m,.slice none 0 0,KI seats]
  rw[←hH4]
  clear hH4
  have hs4:=hs3.keep E4.keep
  have g14:=E4.kept (by omega) g13
  refine call (within_ok 0 seats hs4 (by omega)) ?_
  rintro _ h5 ⟨X5,rfl⟩
  have i3:inR 0 (seats:Int) low=true:=inR_iff.2 fun x hx=>⟨lpos x hx,by have:=le_sum low lpos x hx;omega⟩
  rw[i3]
  simp -dsimp (maxSteps:=1000000) (disch:=try exact dx) only[wpS,wpT,reduceEqDiff,f3]
  have g15:=X5.kept (by omega) g14
  refine call (cloneI_ok (hs4.keep X5.keep) (by omega) (all_map low) (by omega)) ?_
  rintro _ h6 ⟨X6,ks,ks1,ks2,rfl,gS6⟩
  have N5:=X5.n
  have N6:=X6.n
  have g16:=X6.kept (by omega) g15
  have E6:Ext H0 h6:=(((E2.trans E3).trans E4).trans X5).trans X6
  simp -dsimp (maxSteps:=1000000) (disch:=try exact dx) only[wpS,wpT,reduceEqDiff,reduceLeDiff,reduceAdd,st29,fa33_0,f0,f8,g16,((hp3.keep E4.keep).keep (X5.trans X6).keep).now.len sl29]
  obtain⟨H7,hH7⟩ : ∃H,H=h6.put (h.n+1) (.cells [blkV ks people.length,.slice none 0 0,.int .i64 0] 0 none):=⟨_,rfl⟩
  rw[ll,←hH7]
  have N4:=E4.n
  have n7:H7.n=h6.n:=by rw[hH7];rfl
  have o7 : ∀k,k≠h.n+1→H7.ext.get k=h6.ext.get k:=fun k hk=>by rw[hH7];exact get_put_old _ _ hk
  have ga:H7.ext.get (h.n+1)=some (.cells [blkV ks people.length,.slice none 0 0,.int .i64 0] 0 none):=by rw[hH7];exact get_put_same _ _ rfl
  have gS7:H7.ext.get ks=some (.cells (low.map KI) 1 none):=by rw[o7 ks (by omega)];exact gS6
  have gk7:H7.ext.get h3.n=some (.cells [KI m,.slice none 0 0,KI seats] 0 none):=by rw[o7 h3.n (by omega)];exact(X5.trans X6).kept (by omega) g4
  have gp7:H7.ext.get h.n=some (.cells [KI seats] 0 none):=by rw[o7 h.n (by omega)];exact E6.kept (by omega) g0
  have go7:H7.ext.get (h.n+1+1)=some (.cells [.slice none 0 0] 0 none):=by rw[o7 _ (by omega)];exact E6.kept (by omega) g2
  have E7:Ext h H7:=by rw[hH7];exact(E0.trans E6).put (by omega) _
  have K7:Keep h3 H7:=by rw[hH7];exact((E4.trans X5).trans X6).keep.put g16 _
  have hp7:=hp3.keep K7
  have hs7:=hs3.keep K7
  clear hH7 o7 g15 g14 g16 g4 g1 g12 g13 hs4 hl0 hl2 hp0 hp2 g02 g03 g22 g23 g2 g0 gS6
  refine loop (fun mm fr g => ∃(i:Nat) (cs:List Claim) (av:Value),i+mm=people.length∧ClS H7 g m h3.n people low i cs av (seats - (low.take i).sum)∧fget fr 2=some (KN m)∧fget fr 3=some sv∧fget fr 5=some (ptr (2*h.n) 0)∧fget fr 8=some (ptr (2*(h.n+1)) 0)∧fget fr 9=some (ptr (2*(h.n+1+1)) 0)∧fget fr 12=some (ptr (2*h3.n) 0)∧fget fr 59=some vp∧fget fr 60=some (KN people.length)∧fget fr 61=some (KN i)) people.length
   ⟨0,[],.slice none 0 0,by omega,⟨Mem.refl _ _,by simpa using gk7,Acc.nil _ _ (by omega),(fun c hc=>by cases hc),rfl,(fun c hc=>by cases hc),List.Pairwise.nil,(fun c hc=>by cases hc)⟩,by simp[f2],by simp[f3],by simp[f5],by simp[f8],by simp[f9],by simp,by simp,by simp,by simp⟩ ?_
  clear f0 f2 f3 f5 f8 f9
  rintro mm fr g ⟨i,cs,av,him,S,f2,f3,f5,f8,f9,f12,f59,f60,f61⟩
  have KG:=S.e.keep0 gk7
  have gn:=S.e.n
  have P0:=(hp7.keep KG).now
  have L0:=(hs7.keep KG).now
  by_cases ci:i<people.length
  ·have lP:=P0.ld (P:=prog) (t:=3) (c:=i) (by simp<;>omega) ag3
   have lL:=L0.ld (P:=prog) (t:=3) (c:=i) (by simp<;>omega) ag3
   rw[map_get,at_getD ci] at lP
   rw[map_get,at_getD (by omega)] at lL
   have pb:=q2 _ (List.mem_of_getElem? (at_getD ci))
   have lb:=lpos _ (List.mem_of_getElem? (at_getD (l:=low) (i:=i) (by omega)))
   have ls:=le_sum low lpos _ (List.mem_of_getElem? (at_getD (l:=low) (i:=i) (by omega)))
   have ts:(low.take (i+1)).sum=(low.take i).sum+low.getD i 0:=sum_take_succ low (at_getD (by omega))
   have tb:0≤(low.take i).sum∧(low.take (i+1)).sum≤low.sum:=sum_take_le low lpos i
   have e2:IntKind.i64.wrap ((i:Int)+1)=((i+1:Nat):Int):=by rw[wrap_i64 (by omega)];omega
   have e3:IntKind.i64.wrap ((seats:Int) - (low.take i).sum - low.getD i 0)=(seats:Int) - (low.take (i+1)).sum:=by rw[wrap_i64 (by omega)];omega
   have gr:=S.gr
   have ac1:=S.acc.sl.cells
   have ac2:=S.acc.sl.cok
   by_cases cp:0<people.getD i 0
   ·have dp:decide (0<people.getD i 0)=true:=decide_eq_true cp
    simp -dsimp (maxSteps:=1000000) (disch:=try exact dx) only[wpS,wpT,reduceEqDiff,reduceLeDiff,reduceAdd,ld3,fa151_2,st3,f3,f12,f59,f60,f61,P0.idx es29 ci,L0.idx es29 (show i<low.length by omega),lP,lL,row_of gr,gr,e3]
    have S2:=S.left (l2:=(seats:Int) - (low.take (i+1)).sum) (by omega)
    obtain⟨g2,hg2⟩ : ∃g2,g2=g.put h3.n (.cells [KN m,av,KI ((seats:Int) - (low.take (i+1)).sum)] 0 none):=⟨_,rfl⟩
    rw[←hg2] at S2 ⊢
    have n2:g2.n=g.n:=by rw[hg2];rfl
    clear hg2
    have K2:=S2.e.keep0 gk7
    have L2:=(hs7.keep K2).now
    have lL2:=L2.ld (P:=prog) (t:=3) (c:=i) (by simp<;>omega) ag3
    rw[map_get,at_getD (by omega)] at lL2
    have gr2:=S2.gr
    refine drawn [(1,[19]),(8,[19])] (by kernel_rfl) (by kernel_rfl) rfl ?_
    simp -dsimp (maxSteps:=1000000) (disch:=try exact dx) only[wpS,wpT,reduceEqDiff,reduceLeDiff,reduceAdd,fa151_1,ld149,bv154,pl154_0,pl154_1,f2,f3,f12,L2.idx es29 (show i<low.length by omega),lL2,row_of gr2]
    obtain⟨p,hpn⟩ : ∃p,p=(people.getD i 0).toNat:=⟨_,rfl⟩
    obtain⟨l,hln⟩ : ∃l,l=(low.getD i 0).toNat:=⟨_,rfl⟩
    have hpi:people.getD i 0=(p:Int):=by omega
    have hli:low.getD i 0=(l:Int):=by omega
    rw[hpi,hli]
    refine call (ranked_ok (p:=p) (s:=l) c3 (by omega) (by omega)) ?_
    rintro _ g3 ⟨X3,rfl⟩
    unfold rankV
    have n3:=X3.n
    obtain⟨G,hG,nG,EG,gG⟩:=boxed1 g3 (claimC m i p l)
    have E3G:Ext g2 G:=X3.trans EG
    have cE:Ext (g2.upTo H7.n) G:=(ext_upTo (by omega)).trans E3G
    have hn1:cs.length≤60:=by
     have h1:=congrArg List.length S2.at_
     rw[List.length_map] at h1
     have h2:=List.length_filter_le (posR people) (List.range i)
     rw[List.length_range] at h2
     omega
    obtain⟨v',h5,hap,A5,G5,E5⟩:=(S2.acc.ext E3G).app1 (P:=prog) (t:=149) ap149 (x:=Id.ptr (2*g3.n) 0) rfl (by omega) (by omega) cE (Nat.le_refl _)
    rw[hG,show(g3.new (.cells (claimC m i p l) 0 none)).n=g3.n+1 from rfl] at hap
    have gr5:h5.ext.get h3.n=some (.cells [KN m,av,KI ((seats:Int) - (low.take (i+1)).sum)] 0 none):=(E5.get h3.n (show h3.n<H7.n by omega)).trans gr2
    have vc1:=A5.sl.cells
    have vc2:=A5.sl.cok
    have hap:append prog ((g3.new (.cells (Value.int IntKind.i64 i :: Value.int IntKind.i64 p :: Value.int IntKind.i64 l :: rankC m p l) 0 none)).new (.cells [ptr (2*g3.n) 0] 1 none)) 149 av (.slice (some ⟨2*(g3.n+1),0,none⟩) 1 3)=some (v',h5):=hap
    simp -dsimp (maxSteps:=1000000) (disch:=try exact dx) only[wpS,wpT,reduceEqDiff,reduceLeDiff,reduceAdd,fa151_1,bv156,pl156_0,pl156_1,pl156_2,bs149,st149,ba149_149,f12,rankC_len,rankC_sp,hap,gr5,vc1,vc2]
    have NG:Ext g2 (G.new (.cells [Id.ptr (2*g3.n) 0] 1 none)):=E3G.new _
    have lL9:=((hs7.keep K2).keep NG.keep).now.ld (P:=prog) (t:=3) (c:=i) (by simp<;>omega) ag3
    rw[map_get,at_getD (by omega),hli] at lL9
    rw[hli] at lL2
    rw[hG] at NG lL9
    refine⟨wpSteady_c2 (wpSteady_one rfl rfl rfl rfl (steady_load (av:=ptr (2*h3.n) 1) (v:=av) (by simp) (ld_cellC gr2 rfl) (ld_cellC (NG.kept (by omega) gr2) rfl))) (wpSteady_one rfl rfl rfl rfl (steady_load (av:=elemAddr sv i) (v:=KI l) (by simp) lL2 lL9)),?_⟩
    simp -dsimp (maxSteps:=1000000) (disch:=try exact dx) only[wpS,wpT,reduceEqDiff,reduceAdd,f61,e2]
    have gtag : ∀k c f,k<G.n→G.ext.get k=some (.cells c 0 f)→h5.ext.get k=some (.cells c 0 f):=fun k c f hk hg=>by
     rcases G5.get k hk with h9|⟨c1,e1,f1,f2,h9,h10,_⟩
     ·rw[h9,hg]
     ·rw[hg] at h10;cases h10;exact absurd rfl h9
    have G5n:=G5.n
    have S5:ClS H7 (h5.put h3.n (.cells [KN m,v',KI ((seats:Int) - (low.take (i+1)).sum)] 0 none)) m h3.n people low (i+1) (cs ++ [⟨g3.n,i,p,l⟩]) v' ((seats:Int) - (low.take (i+1)).sum):=by
     refine⟨Mem.put ⟨by omega,E5.base.trans S2.e.base,fun k hk hne=>(E5.get k hk).trans (S2.e.get k hk hne),fun f hf=>(E5.fams f hf).trans (S2.e.fams f hf)⟩ (.inr rfl) _,get_put_same _ _ rfl,?_,?_,?_,?_,?_,?_⟩
     ·rw[List.length_append,List.map_append]
      exact A5.put gr5 _
     ·intro c hc
      rcases List.mem_append.1 hc with hc|hc
      ·obtain⟨a1,a2,a3⟩:=S2.cl c hc
       have a4:=S2.lo c hc
       exact⟨by rw[get_put_old _ _ (by omega)];exact gtag _ _ _ (by have:=E3G.n;omega) (E3G.kept a2 a1),(show c.k<h5.n by have:=E3G.n;omega),a3⟩
      ·simp at hc;subst hc
       exact⟨by dsimp only;rw[get_put_old _ _ (by omega)];exact gtag _ _ _ (by omega) gG,(show g3.n<h5.n by omega),(show p≤1000000000 by omega),(show l≤1000 by omega)⟩
     ·rw[List.map_append,List.range_succ,List.filter_append,List.filter_cons_of_pos (show posR people i=true by unfold posR;rw[hpi] at dp ⊢;exact dp),List.filter_nil,S2.at_]
      rfl
     ·intro c hc
      rcases List.mem_append.1 hc with hc|hc
      ·exact S2.num c hc
      ·simp at hc;subst hc
       exact⟨hpn,hln⟩
     ·rw[List.map_append,List.pairwise_append]
      refine⟨S2.asc,by simp,fun x hx y hy=>?_⟩
      obtain⟨c,hc,rfl⟩:=List.mem_map.1 hx
      simp at hy;subst hy
      have:=(S2.cl c hc).2.1
      omega
     ·intro c hc
      rcases List.mem_append.1 hc with hc|hc
      ·exact S2.lo c hc
      ·simp at hc;subst hc
       show H7.n≤g3.n
       have:=S2.e.n
       omega
    exact⟨mm - 1,by omega,i+1,_,v',by omega,S5,by simp[f2],by simp[f3],by simp[f5],by simp[f8],by simp[f9],by simp[f12],by simp[f59],by simp[f60],by simp⟩
   ·have dp:decide (0<people.getD i 0)=false:=decide_eq_false cp
    simp -dsimp (maxSteps:=1000000) (disch:=try exact dx) only[wpS,wpT,reduceEqDiff,reduceLeDiff,reduceAdd,ld3,fa151_2,st3,f3,f12,f59,f60,f61,P0.idx es29 ci,L0.idx es29 (show i<low.length by omega),lP,lL,row_of gr,gr,e2,e3]
    exact⟨mm - 1,by omega,i+1,cs,av,by omega,(S.left (by omega) _).skip dp,by simp[f2],by simp[f3],by simp[f5],by simp[f8],by simp[f9],by simp[f12],by simp[f59],by simp[f60],by simp⟩
  ·obtain rfl:i=people.length:=by omega
   rw[List.take_of_length_le (by omega)] at S
   have gr:=S.gr
   simp -dsimp (maxSteps:=1000000) (disch:=try exact dx) only[wpS,wpT,reduceEqDiff,ld3,fa151_2,zc149,f12,f60,f61,row_of gr]
   refine call seatsF_ok ?_
   rintro _ H9' ⟨rfl,hH9'⟩
   obtain⟨H9,hH9⟩ : ∃H,H=(((g.new (.cells [.slice none 0 0] 0 none)).new (.cells [ptr (2*h3.n) 0] 0 none)).new (.cells [ptr (2*g.n) 0] 0 none)):=⟨_,rfl⟩
   rw[hH9',show(g.new (.cells [.slice none 0 0] 0 none)).n=g.n+1 from rfl,←hH9]
   clear hH9' H9'
   have E9:Ext g H9:=by rw[hH9];exact(((Ext.refl g).new _).new _).new _
   have n9:H9.n=g.n+3:=by rw[hH9];rfl
   have gt9:H9.ext.get g.n=some (.cells [.slice none 0 0] 0 none):=by rw[hH9];simp (disch:=try exact dx) only[get_new_same,get_new_old]
   have g19:H9.ext.get (g.n+1)=some (.cells [ptr (2*h3.n) 0] 0 none):=by rw[hH9];simp (disch:=try exact dx) only[get_new_same,get_new_old]
   have g29:H9.ext.get (g.n+2)=some (.cells [ptr (2*g.n) 0] 0 none):=by rw[hH9];simp (disch:=try exact dx) only[get_new_same]
   clear hH9
   have OK:=S.race c3 (by omega) q1 (fun x hx=>(q2 x hx).1) q3
   simp -dsimp (maxSteps:=1000000) (disch:=try exact dx) only[wpS]
   have Hlow:low.sum=(low.sum.toNat:Int):=by have:=sum_nonneg low lpos;omega
   have KG9:=KG.trans E9.keep
   have oth9 : ∀k,k<H7.n→k≠h3.n→H9.ext.get k=H7.ext.get k:=fun k hk hne=>(E9.get k (by omega)).trans (S.e.get k hk hne)
   have EH9:Ext h H9:=(Mem.ext E7 (by omega) S.e).trans E9
   obtain⟨kL,hkL⟩ : ∃k,k=H9.n:=⟨_,rfl⟩
   refine range2 (p:=103) (nt:=153) rfl rfl (by decide) (fun r y hfn hnt hbd hy=>?_)
   let J:(Nat→Nat)→Nat→IH→Prop:=fun s c hh => ∃(A:List Int) (ov:Value) (oc:List Value),Ext h hh∧kL<hh.n∧hh.ext.get kL=some (.loop (if c=seats then doneL r (.exit 2) else r))∧hh.ext.get (h.n+1)=some (.cells [blkV ks people.length,.slice none 0 0,.int .i64 0] 0 none)∧hh.ext.get ks=some (.cells (A.map KI) 1 none) ∧
    hh.ext.get h.n=some (.cells [KI seats] 0 none)∧hh.ext.get (h.n+1+1)=some (.cells [ov] 0 none)∧Acc hh (kL+1) 1 ov c oc∧A.length=people.length∧A.sum=low.sum+c∧(∀i,i<cs.length→A.getD (cs.getD i noClaim).at_ 0=s i)∧(∀j,people.getD j 0≤0→A.getD j 0=low.getD j 0)∧c≤seats
   have bav : ∀k,k<H7.n∨g.n≤k→blockOf av≠some (2*k):=by
    intro k hk
    obtain⟨_,_,⟨h9,_⟩|⟨k0,fam,h9,_,h10,h11,_⟩⟩:=S.acc
    ·rw[h9];simp[blockOf]
    ·rw[h9];simp[blockOf];omega
   have J0:J (fun i=>(cs.getD i noClaim).s) 0 (H9.new (.loop r)):=by
    refine⟨low,.slice none 0 0,[],EH9.new _,by rw[hkL];simp,?_,?_,?_,?_,?_,Acc.nil _ _ (by omega),ll,by omega,fun i hi=>?_,fun _ _=>rfl,by omega⟩
    ·rw[if_neg (by omega),hkL];exact get_new_same _ _ rfl
    ·rw[get_new_old _ _ (by omega),oth9 _ (by omega) (by omega)];exact ga
    ·rw[get_new_old _ _ (by omega),oth9 _ (by omega) (by omega)];exact gS7
    ·rw[get_new_old _ _ (by omega),oth9 _ (by omega) (by omega)];exact gp7
    ·rw[get_new_old _ _ (by omega),oth9 _ (by omega) (by omega)];exact go7
    ·have h1:=(S.num _ (claim_mem hi)).2
     have h2:=getD_nonneg lpos (cs.getD i noClaim).at_
     show low.getD (cs.getD i noClaim).at_ 0=((cs.getD i noClaim).s:Int)
     omega
   have JK : ∀s c a b,J s c a→Own (raceOf cs m h3.n g.n av) a b→J s c b:=by
    rintro s c a b ⟨A,ov,oc,JE,Jn,JL,J8,JS,J5,J9,Jacc,Jr⟩ o
    have bk : ∀k,k<a.n→(k<h3.n∨k=ks∨g.n+2<k)→b.ext.get k=a.ext.get k:=fun k hk hc=>by
     refine o.get k hk (fun h9=>?_) (fun h9=>?_) (fun i hi h9=>?_)
     ·have h9:k=h3.n:=h9
      omega
     ·have h9:k=g.n:=h9
      omega
     ·have h9:k=(cs.getD i noClaim).k:=h9
      have h10:=S.lo _ (claim_mem hi)
      have h11:=(S.cl _ (claim_mem hi)).2.1
      omega
    have on:=o.n
    have jn:=JE.n
    refine⟨A,ov,oc,⟨by omega,o.base.trans JE.base,fun k hk=>(bk k (by omega) (.inl (by omega))).trans (JE.get k hk),fun f hf=>(o.fams f (by omega)).trans (JE.fams f hf)⟩,by omega,?_,?_,?_,?_,?_,Acc.own (R:=raceOf cs m h3.n g.n av) OK Jacc (show g.n+2<kL+1 by omega) o,Jr⟩
    ·rw[bk kL Jn (by omega)];exact JL
    ·rw[bk _ (by omega) (by omega)];exact J8
    ·rw[bk _ (by omega) (by omega)];exact JS
    ·rw[bk _ (by omega) (by omega)];exact J5
    ·rw[bk _ (by omega) (by omega)];exact J9
   have R0:RaceAt (raceOf cs m h3.n g.n av) (H9.new (.loop r)) (fun i=>(cs.getD i noClaim).s) ((seats:Int) - low.sum) (.slice none 0 0):=by
    refine RaceAt.ext OK (h:=H9) ⟨E9.kept (show h3.n<g.n by omega) S.gr,fun i hi=>?_,gt9,g19,g29,?_,(show g.n+2<H9.n by omega)⟩ ((Ext.refl _).new _)
    ·obtain⟨a1,a2,_⟩:=S.cl _ (claim_mem (cs:=cs) hi)
     exact E9.kept a2 a1
    ·have h1:=S.acc.sl.keep E9.keep
     rw[map_getD cs] at h1
     exact h1
   refine WV.mono (seats_walk OK (seats:=seats) (low:=fun i=>(cs.getD i noClaim).s) (left0:=((seats:Int) - low.sum).toNat) J JK ?_ J0 (by rw[Int.toNat_of_nonneg (by omega)];exact R0) (fair_start _ _ _ _) ?_ (by omega)) ?_
   ·rintro s c i left hh hcs hi ⟨A,ov,oc,JE,Jn,JL,J8,JS,J5,J9,Jacc,Jla,Jsum,Jat,Jz,Jc⟩ r1
    rw[if_neg (by omega)] at JL
    have hi:i<cs.length:=hi
    have cm:=claim_mem hi
    have ck1:=S.lo _ cm
    have ck2:=(S.cl _ cm).2.1
    have cp:=S.pos cm
    have cg:=r1.gc i hi
    obtain⟨x,hxx⟩ : ∃x,x=cs.getD i noClaim:=⟨_,rfl⟩
    have cg:hh.ext.get x.k=some (.cells (claimC m x.at_ x.p (s i+1)) 0 none):=by
     have h1:given s [i] i=s i+1:=by simp[given]
     rw[h1] at cg
     rw[hxx];exact cg
    rw[←hxx] at ck1 ck2 cp
    have e1:(raceOf cs m h3.n g.n av).kk i=x.k:=by rw[hxx];rfl
    rw[e1]
    refine hy _ hh _ (by rw[←hkL];exact JL) ?_
    rw[←hkL]
    simp -dsimp (maxSteps:=1000000) (disch:=try exact dx) only[wpS,reduceEqDiff]
    refine⟨rfl,JL,?_⟩
    rw[hfn,hnt,hbd]
    obtain⟨HB,hHB⟩ : ∃H,H=hh.put kL (.loop (busyL r)):=⟨_,rfl⟩
    rw[←hHB]
    have bo : ∀j,j≠kL→HB.ext.get j=hh.ext.get j:=fun j hj=>by rw[hHB];exact get_put_old _ _ hj
    have bL:HB.ext.get kL=some (.loop (busyL r)):=by rw[hHB];exact get_put_same _ _ rfl
    have bn:HB.n=hh.n:=by rw[hHB];rfl
    have be:Ext h HB:=by rw[hHB];exact JE.put (by have:=EH9.n;omega) _
    have bA:Acc HB (kL+1) 1 ov c oc:=by rw[hHB];exact Jacc.put_below (by omega) _
    have bv:SlOf HB 1 av cs.length ((List.range cs.length).map fun i=>ptr (2*(cs.getD i noClaim).k) 0):=by rw[hHB];exact r1.sl.putAt (bav kL (by omega)) _
    clear hHB
    have b8:=(bo (h.n+1) (by omega)).trans J8
    have bS:=(bo ks (by omega)).trans JS
    have b5:=(bo h.n (by omega)).trans J5
    have b9:=(bo (h.n+1+1) (by omega)).trans J9
    have bx:=(bo x.k (by omega)).trans cg
    have S0:=blk_now (n:=people.length) bS (by rw[List.length_map];exact Jla)
    have ax:elemAddr (blkV ks people.length) x.at_=ptr (2*ks) x.at_:=by simp[elemAddr]
    have s1:IH.splice (A.map KI) x.at_ [.int .i64 ((s i+1:Nat):Int)]=(A.set x.at_ ((s i+1:Nat):Int)).map KI:=by rw[splice_set (by rw[List.length_map];omega),map_set']
    simp -dsimp (maxSteps:=1000000) (disch:=try exact dx) only[wpS,wpT,reduceEqDiff,ld3,fa33_0,st3,ld29,fa156_0,fa154_0,fa156_1,f8,row_of b8,row_of bx,claimC_2,claimC_0,S0.idx es29 cp.1,ax,bS,List.length_map,s1]
    obtain⟨H2,hH2⟩ : ∃H,H=HB.put ks (.cells ((A.set x.at_ ((s i+1:Nat):Int)).map KI) 1 none):=⟨_,rfl⟩
    rw[←hH2]
    have bo2 : ∀j,j≠ks→H2.ext.get j=HB.ext.get j:=fun j hj=>by rw[hH2];exact get_put_old _ _ hj
    have n2:H2.n=HB.n:=by rw[hH2];rfl
    have e2:Ext h H2:=by rw[hH2];exact be.put (by omega) _
    have A2:Acc H2 (kL+1) 1 ov c oc:=by rw[hH2];exact bA.put_below (by omega) _
    have cv:=(show SlOf H2 1 av cs.length ((List.range cs.length).map fun i=>ptr (2*(cs.getD i noClaim).k) 0) by rw[hH2];exact bv.putAt (bav ks (by omega)) _)
    have cS:=(show H2.ext.get ks=some (.cells ((A.set x.at_ ((s i+1:Nat):Int)).map KI) 1 none) by rw[hH2];exact get_put_same _ _ rfl)
    clear hH2
    have cL:=(bo2 kL (by omega)).trans bL
    have c8:=(bo2 (h.n+1) (by omega)).trans b8
    have c5:=(bo2 h.n (by omega)).trans b5
    have c9:=(bo2 (h.n+1+1) (by omega)).trans b9
    have cx:=(bo2 x.k (by omega)).trans bx
    have cE:Ext (H2.upTo (kL+1)) H2:=ext_upTo (by omega)
    obtain⟨v',h5,hap,A5,G5,E5⟩:=A2.app1 (P:=prog) (t:=29) ap29 (x:=KN x.at_) rfl (by omega) (by omega) cE (Nat.le_refl _)
    have G5n:=G5.n
    have up : ∀k,k<kL+1→h5.ext.get k=H2.ext.get k:=fun k hk=>E5.get k hk
    have dL:=(up kL (by omega)).trans cL
    have d8:=(up (h.n+1) (by omega)).trans c8
    have d5:=(up h.n (by omega)).trans c5
    have d9:=(up (h.n+1+1) (by omega)).trans c9
    have dS:=(up ks (by omega)).trans cS
    have vc1:=A5.sl.cells
    have vc2:=A5.sl.cok
    have NN:Ext H2 (H2.new (.cells [KN x.at_] 1 none)):=(Ext.refl H2).new _
    refine drawn [(0,[7]),(5,[7])] (by kernel_rfl) (by kernel_rfl) rfl ?_
    simp -dsimp (maxSteps:=1000000) (disch:=try exact dx) only[wpS,wpT,reduceEqDiff,reduceLeDiff,reduceAdd,st29,ld3,bs29,ld29,fa156_0,fa154_0,ba29_29,f9,row_of c9,row_of cx,claimC_0,hap,d9,vc1,vc2]
    refine⟨wpSteady_c2 (wpSteady_one rfl rfl rfl rfl (steady_load (av:=ptr (2*(h.n+1+1)) 0) (v:=ov) (by simp[f9]) (ld_cell c9 rfl) (ld_cell (NN.kept (by omega) c9) rfl))) (wpSteady_one rfl rfl rfl rfl (steady_load (av:=ptr (2*x.k) 0) (v:=KN x.at_) (by simp) (ld_cellN cx rfl) (ld_cellN (NN.kept (by omega) cx) rfl))),?_⟩
    have m1:=(A5.put d9 (.cells [v'] 0 none)).sl.now
    simp -dsimp (maxSteps:=1000000) (disch:=try exact dx) only[wpS,wpT,reduceEqDiff,reduceAdd,ld3,ld29,f5,f9,row_of d5,m1.len sl29]
    have fin : ∀o,o=(if c+1=seats then doneL r (.exit 2) else r)→J (given s [i]) (c+1) ((h5.put (h.n+1+1) (.cells [v'] 0 none)).put kL (.loop o))∧RaceAt (raceOf cs m h3.n g.n av) ((h5.put (h.n+1+1) (.cells [v'] 0 none)).put kL (.loop o)) (given s [i]) left (.slice none 0 0)∧KeepAbove (g.n+2) hh ((h5.put (h.n+1+1) (.cells [v'] 0 none)).put kL (.loop o)):=by
     intro o ho
     have tot : ∀k,k<kL→k≠ks→k≠h.n+1+1→((h5.put (h.n+1+1) (.cells [v'] 0 none)).put kL (.loop o)).ext.get k=hh.ext.get k:=fun k h1 h2 h3=>by
      rw[get_put_old _ _ (by omega),get_put_old _ _ h3,up k (by omega),bo2 k h2,bo k (by omega)]
     refine⟨⟨A.set x.at_ ((s i+1:Nat):Int),v',_,(((e2.upTo (by omega)).trans E5).put (by omega) _).put (by omega) _,by show kL<h5.n;omega,by rw[get_put_same _ _ rfl,ho],?_,?_,?_,?_,(A5.put d9 _).put_below (by omega) _,by rw[List.length_set];exact Jla,?_,?_,?_,by omega⟩,?_,?_⟩
     ·rw[get_put_old _ _ (by omega),get_put_old _ _ (by omega)];exact d8
     ·rw[get_put_old _ _ (by omega),get_put_old _ _ (by omega)];exact dS
     ·rw[get_put_old _ _ (by omega),get_put_old _ _ (by omega)];exact d5
     ·rw[get_put_old _ _ (by omega)];exact get_put_same _ _ rfl
     ·have h1:=sum_set A x.at_ 1 (by omega)
      have h2:=Jat i hi
      rw[←hxx] at h2
      rw[h2] at h1
      rw[show((s i+1:Nat):Int)=(s i:Int)+1 from by omega,h1]
      omega
     ·intro j hj
      by_cases hji:j=i
      ·subst hji
       rw[←hxx,getD_set_self (by omega)]
       simp[given]
      ·rw[getD_set_ne (by rw[hxx];exact fun h9=>S.inj hi hj hji h9.symm),Jat j hj]
       simp[given,hji]
     ·intro j hj
      rw[getD_set_ne (by intro h9;rw[h9] at hj;omega)]
      exact Jz j hj
     ·exact⟨(tot h3.n (by omega) (by omega) (by omega)).trans r1.gr,fun j hj=>(tot _ (by have:=(S.cl _ (claim_mem (cs:=cs) hj)).2.1;show(cs.getD j noClaim).k<kL;omega) (by have:=S.lo _ (claim_mem (cs:=cs) hj);show(cs.getD j noClaim).k≠ks;omega) (by have:=S.lo _ (claim_mem (cs:=cs) hj);show(cs.getD j noClaim).k≠h.n+1+1;omega)).trans (r1.gc j hj),(tot g.n (by omega) (by omega) (by omega)).trans r1.gt,(tot (g.n+1) (by omega) (by omega) (by omega)).trans r1.g1,(tot (g.n+2) (by omega) (by omega) (by omega)).trans r1.g2,
       ((cv.keep G5.keep).putAt (bav (h.n+1+1) (by omega)) _).putAt (bav kL (by omega)) _,show g.n+2<h5.n by omega⟩
     ·refine⟨show hh.n≤h5.n by omega,fun k c1 e f h1 h2 h3 h4=>?_⟩
      have k1:k≠kL:=by rintro rfl;rw[JL] at h3;cases h3
      rw[get_put_old _ _ k1,get_put_old _ _ (by omega)]
      exact G5.keep.get k c1 e f (by omega) (by rw[bo2 k (by omega),bo k k1];exact h3) h4
    refine bq_intro (fun hcc=>?_) (fun hcc=>?_)
    ·have hz:c+1=seats:=by simp at hcc;omega
     simp -dsimp (maxSteps:=1000000) (disch:=try exact dx) only[wpS,wpT]
     exact⟨by rw[get_put_old _ _ (by omega)];exact dL,by rw[decide_eq_false (by omega)],fin _ (if_pos hz).symm⟩
    ·have hz:c+1≠seats:=by simp at hcc;omega
     simp -dsimp (maxSteps:=1000000) (disch:=try exact dx) only[wpS,wpT]
     exact⟨by rw[get_put_old _ _ (by omega)];exact dL,by rw[decide_eq_true (by omega)],fin _ (if_neg hz).symm⟩
   ·intro i hi
    have h1:=(S.num _ (claim_mem hi)).2
    have h2:=getD_nonneg lpos (cs.getD i noClaim).at_
    have h3:low.getD (cs.getD i noClaim).at_ 0≤low.sum:=le_sum low lpos _ (List.mem_of_getElem? (at_getD (by have:=(S.pos (claim_mem hi)).1;omega)))
    show(cs.getD i noClaim).s+((seats:Int) - low.sum).toNat≤1000
    omega
   ·rintro _ h' ⟨s,c,left,⟨A,ov,oc,JE,Jn,JL,J8,JS,J5,J9,Jacc,Jla,Jsum,Jat,Jz,Jc⟩,RE,Jcl⟩
    refine rangeEnd_two (i:=2) ?_ rfl ?_
    ·rw[←hkL,JL]
     split
     ·exact .inr rfl
     ·exact .inl rfl
    ·have Rk:=OK.bx
     rw[←hkL]
     obtain⟨F,tv,nT,B,Rat,Tsl,TT⟩:Fair m cs.length (fun i=>(cs.getD i noClaim).p) (fun i=>(cs.getD i noClaim).s) s ∧ ∃(tv:Value) (nT:Nat) (B:List Nat),RaceAt (raceOf cs m h3.n g.n av) h' s (left:Int) tv∧SlOf h' 1 tv B.length (B.map fun i=>ptr (2*(cs.getD i noClaim).k) 0)∧((left=0∧B = [])∨(0<left∧left<B.length∧B=(raceOf cs m h3.n g.n av).best s)):=by
      obtain⟨F,⟨z,ra⟩|⟨z1,z2,tv,ra,sl⟩⟩:=RE
      ·exact⟨F,.slice none 0 0,0,[],by rw[z];exact ra,SlOf.nil _ (by omega),.inl ⟨z,rfl⟩⟩
      ·exact⟨F,tv,0,_,ra,sl,.inr ⟨z1,z2,rfl⟩⟩
     obtain⟨HF,hHF⟩ : ∃H,H=h'.put kL .dead:=⟨_,rfl⟩
     rw[←hHF]
     have gt:=(show HF.ext.get g.n=some (.cells [tv] 0 none) by rw[hHF,get_put_old _ _ (by omega)];exact Rat.gt)
     have FT:SlOf HF 1 tv B.length (B.map fun i=>ptr (2*(cs.getD i noClaim).k) 0):=by rw[hHF];exact Tsl.keep (deadKeep JL)
     have FN:=FT.now
     simp -dsimp (maxSteps:=1000000) (disch:=try exact dx) only[wpS,reduceEqDiff,ld149,row_of gt,FN.len sl149]
     have Blt : ∀b∈B,b<cs.length:=by
      rcases TT with⟨_,h1⟩|⟨_,_,h1⟩
      ·rw[h1];intro b hb;cases hb
      ·rw[h1];exact(best_ok _ _).lt
     have Bl:B.length≤60:=by
      rcases TT with⟨_,h1⟩|⟨_,_,h1⟩
      ·rw[h1];simp
      ·have h2:=S.len
       have h3:=asc_len B 0 cs.length (by rw[h1];exact(best_ok _ _).asc) fun y hy=>⟨by omega,Blt y hy⟩
       omega
     have F8:=(show HF.ext.get (h.n+1)=some (.cells [blkV ks people.length,.slice none 0 0,.int .i64 0] 0 none) by rw[hHF,get_put_old _ _ (by omega)];exact J8)
     have FC : ∀b,b<cs.length→HF.ext.get (cs.getD b noClaim).k=some (.cells (claimC m (cs.getD b noClaim).at_ (cs.getD b noClaim).p (s b)) 0 none)∧(cs.getD b noClaim).k<HF.n∧(cs.getD b noClaim).k≠h.n+1:=fun b hb=>by
      have h1:=S.lo _ (claim_mem hb)
      have h2:=(S.cl _ (claim_mem hb)).2.1
      refine⟨?_,?_,by omega⟩
      ·rw[hHF,get_put_old _ _ (by omega)];exact Rat.gc b hb
      ·rw[hHF];show _<h'.n;omega
     have Fn:kL<HF.n:=by rw[hHF];exact Jn
     refine loop (fun m3 fr gg => ∃(jx:Nat) (w:Value),jx+m3=B.length∧Mem (h.n+1) HF gg∧gg.ext.get (h.n+1)=some (.cells [blkV ks people.length,w,.int .i64 0] 0 none)∧Acc gg HF.n 1 w jx ((B.take jx).map fun i=>KN (cs.getD i noClaim).at_)∧fget fr 8=some (ptr (2*(h.n+1)) 0)∧fget fr 9=some (ptr (2*(h.n+1+1)) 0)∧fget fr 12=some (ptr (2*h3.n) 0)∧fget fr 15=some (ptr (2*g.n) 0)∧fget fr 128=some tv∧fget fr 129=some (KN B.length)∧fget fr 130=some (KN jx)) B.length
      ⟨0,.slice none 0 0,by omega,Mem.refl _ _,F8,Acc.nil _ _ (by omega),by simp[f8],by simp[f9],by simp[f12],by simp,by simp,by simp,by simp⟩ ?_
     clear f2 f3 f5 f8 f9 f12 f59 f60 f61
     rintro m3 fr gg ⟨jx,w,hjx,M,U8,UA,f8,f9,f12,f15,f128,f129,f130⟩
     have Mn:=M.n
     have UT:=FT.keep (M.keep0 F8)
     have UN:=UT.now
     have uc1:=UA.sl.cells
     have uc2:=UA.sl.cok
     by_cases cj:jx<B.length
     ·obtain⟨b,hb⟩ : ∃b,B[jx]?=some b:=⟨_,List.getElem?_eq_getElem cj⟩
      obtain⟨fc1,fc2,fc3⟩:=FC b (Blt b (List.mem_of_getElem? hb))
      have lB:=UN.ld (P:=prog) (t:=152) (c:=jx) (by rw[List.length_map];omega) ag152
      rw[List.getElem?_map,hb] at lB
      obtain⟨x,hxx⟩ : ∃x,x=cs.getD b noClaim:=⟨_,rfl⟩
      have lB:load prog gg 152 (elemAddr tv jx)=some (ptr (2*x.k) 0):=by rw[hxx];exact lB
      rw[←hxx] at fc1 fc2 fc3
      have cx:=(M.get x.k fc2 fc3).trans fc1
      have cE:Ext (gg.upTo HF.n) gg:=ext_upTo (by omega)
      obtain⟨v',h5,hap,A5,G5,E5⟩:=UA.app1 (P:=prog) (t:=29) ap29 (x:=KN x.at_) rfl (by omega) (by omega) cE (Nat.le_refl _)
      have G5n:=G5.n
      have d8:=(E5.get (h.n+1) (show h.n+1<HF.n by omega)).trans U8
      have vc1:=A5.sl.cells
      have vc2:=A5.sl.cok
      have NN:Ext gg (gg.new (.cells [KN x.at_] 1 none)):=(Ext.refl gg).new _
      have e2:IntKind.i64.wrap ((jx:Int)+1)=((jx+1:Nat):Int):=by rw[wrap_i64 (by omega)];omega
      simp -dsimp (maxSteps:=1000000) (disch:=try exact dx) only[wpS,wpT,reduceEqDiff,f128,f129,f130,UN.idx es149 cj,lB]
      refine drawn [(1,[8]),(6,[8])] (by kernel_rfl) (by kernel_rfl) rfl ?_
      simp -dsimp (maxSteps:=1000000) (disch:=try exact dx) only[wpS,wpT,reduceEqDiff,reduceLeDiff,reduceAdd,st29,ld3,bs29,ld29,fa156_0,fa154_0,fa33_1,ba29_29,f8,row_of U8,row_of cx,claimC_0,hap,d8,vc1,vc2]
      refine⟨wpSteady_c2 (wpSteady_one rfl rfl rfl rfl (steady_load (av:=ptr (2*(h.n+1)) 1) (v:=w) (by simp) (ld_cell U8 rfl) (ld_cell (NN.kept (by omega) U8) rfl))) (wpSteady_one rfl rfl rfl rfl (steady_load (av:=ptr (2*x.k) 0) (v:=KN x.at_) (by simp) (ld_cellN cx rfl) (ld_cellN (NN.kept (by omega) cx) rfl))),?_⟩
      simp -dsimp (maxSteps:=1000000) (disch:=try exact dx) only[wpS,wpT,reduceEqDiff,reduceAdd,f130,e2]
      refine⟨m3 - 1,by omega,jx+1,v',by omega,Mem.put ⟨by omega,E5.base.trans M.base,fun k hk hne=>(E5.get k hk).trans (M.get k hk hne),fun f hf=>(E5.fams f hf).trans (M.fams f hf)⟩ (.inr rfl) _,get_put_same _ _ rfl,?_,by simp[f8],by simp[f9],by simp[f12],by simp[f15],by simp[f128],by simp[f129],by simp⟩
      rw[take_one_more hb,List.map_append,List.map_cons,List.map_nil,←hxx]
      exact A5.put d8 _
     ·have U15:=(M.get g.n (by omega) (by omega)).trans gt
      simp -dsimp (maxSteps:=1000000) (disch:=try exact dx) only[wpS,wpT,reduceEqDiff,ld149,f129,f130,f15,row_of U15,UN.len sl149]
      obtain rfl:jx=B.length:=by omega
      rw[List.take_of_length_le (Nat.le_refl _)] at UA
      have Ur:=(M.get h3.n (by omega) (by omega)).trans (show HF.ext.get h3.n=some (.cells [KN m,av,KI left] 0 none) by rw[hHF,get_put_old _ _ (by omega)];exact Rat.gr)
      have US:=(M.get ks (by omega) (by omega)).trans (show HF.ext.get ks=some (.cells (A.map KI) 1 none) by rw[hHF,get_put_old _ _ (by omega)];exact JS)
      have U9:=(M.get (h.n+1+1) (by omega) (by omega)).trans (show HF.ext.get (h.n+1+1)=some (.cells [ov] 0 none) by rw[hHF,get_put_old _ _ (by omega)];exact J9)
      have EF:Ext h HF:=by rw[hHF];exact JE.put (by omega) _
      have Eg:Ext h gg:=Mem.ext EF (by omega) M
      have oc1:=Jacc.sl.cells
      have oc2:=Jacc.sl.cok
      refine bq_cut (fun fr2 g2=>Ext h g2∧g2.n=gg.n∧g2.ext.get (h.n+1)=some (.cells [blkV ks people.length,w,KI left] 0 none)∧g2.ext.get (h.n+1+1)=some (.cells [ov] 0 none)∧g2.ext.get ks=some (.cells (A.map KI) 1 none)∧SlOf g2 1 w B.length (B.map fun i=>KN (cs.getD i noClaim).at_)∧fget fr2 8=some (ptr (2*(h.n+1)) 0)∧fget fr2 9=some (ptr (2*(h.n+1+1)) 0)) (fun hc=>?_) (fun hc=>?_) ?_
      ·simp -dsimp (maxSteps:=1000000) (disch:=try exact dx) only[wpS,wpT,reduceEqDiff,reduceLeDiff,reduceAdd,ld3,fa151_2,st3,fa33_2,f8,f12,row_of Ur,U8]
       exact⟨Eg.put (by omega) _,rfl,get_put_same _ _ rfl,by rw[get_put_old _ _ (by omega)];exact U9,by rw[get_put_old _ _ (by omega)];exact US,UA.sl.keep ((Ext.refl gg).keep.put U8 _),by simp[f8],by simp[f9]⟩
      ·have hB:B = []:=by
        have h1 : ¬(0:Int)<(B.length:Int):=by simpa using hc
        exact List.length_eq_zero_iff.1 (by omega)
       have h0:left=0:=by
        rcases TT with⟨h1,_⟩|⟨h1,h2,_⟩
        ·exact h1
        ·rw[hB] at h2;simp at h2
       simp -dsimp (maxSteps:=1000000) (disch:=try exact dx) only[wpS]
       exact⟨Eg,rfl,by rw[h0];exact U8,U9,US,UA.sl,by simp[f8],by simp[f9]⟩
      ·rintro fr2 g2 ⟨V0,Vn,V8,V9,VS,VT,f8,f9⟩
       simp -dsimp (maxSteps:=1000000) (disch:=try exact dx) only[wpS]
       refine drawn [(1,[3])] (by kernel_rfl) (by kernel_rfl) rfl ?_
       simp -dsimp (maxSteps:=1000000) (disch:=try exact dx) only[wpS,wpT,reduceEqDiff,reduceLeDiff,reduceAdd,st33,st29,ld29,ld33,f8,f9,row_of V8,row_of V9,V8,V9,uc2,oc1,oc2,tk3r]
       refine⟨wpSteady_one rfl rfl rfl rfl (steady_load (av:=ptr (2*(h.n+1+1)) 0) (v:=ov) (by simp[f9]) (ld_cell V9 rfl) (ld_cell (by rw[get_put_old _ _ (by omega)];exact V9) rfl)),?_⟩
       simp -dsimp (maxSteps:=1000000) (disch:=try exact dx) only[wpS,wpT,reduceEqDiff,reduceLeDiff,reduceAdd,ld29,ld33,f8,f9]
       rw[←hlow]
       exact⟨(V0.put (by omega) _).put (by omega) _,cs,s,c,left,A,B,ks,w,ov,rfl,((blk_sl VS (by omega) (by rw[List.length_map];exact Jla) n1).put_ne (by omega) _).put_ne (by omega) _,VT.keep (((Ext.refl g2).keep.put V8 _).put (by rw[get_put_old _ _ (by omega)];exact V9) _),Jla,Jsum,Jat,Jz,S.at_,S.num,F,TT,by omega⟩
end Go.Id

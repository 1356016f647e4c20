/-
  Contracts: package kernel: told; the filtered kernel as plain numbers. Words of a number put one by one; the lowest binary digits: plain numbers.
-/
import Derived.Test.YtjhnilfelokpcaaGreatTemperLevelsAt
import Derived.Test.YtjhnilfelokpcaaGreatTemperLevelsBp
import Derived.Test.YtjhnilfelokpcaaGreatTemperLevelsBo
import Derived.Test.YtjhnilfelokpcaaGreatTemperLevelsBh
import Derived.Test.YtjhnilfelokpcaaGreatTemperLevelsBf
import Derived.Test.YtjhnilfelokpcaaGreatTemperLevelsAs
set_option linter.unusedVariables false
set_option linter.unusedSimpArgs false
set_option linter.defProp false
set_option linter.deprecated false
namespace Go.Id
open Go
open Nat renaming reduceAdd→zA,reduceEqDiff→zE,reduceLeDiff→zL
set_option maxHeartbeats 16000000
theorem PRat.keepZ {h h':IH} {v:Value} {q:Rat} (p:PRat h v q) (e:KeepZ 1 h h'):PRat h' v q:=by
 obtain⟨a,s,b,t,h1,⟨s1,e1,ds,d1,d2⟩,⟨s2,e2,es,d3,d4⟩⟩:=p
 exact⟨a,s,b,t,h1,⟨s1,e1,ds,⟨d1.1.keepZ e,d1.2⟩,d2⟩,⟨s2,e2,es,⟨d3.1.keepZ e,d3.2⟩,d4⟩⟩
theorem RowB.ld {h:IH} {k:Nat} {v:Value} {n:Nat} {cs:List Value} (r:RowB h 4 k v n cs) {R:IH→Value→Rat→Prop} {j:Nat} {q:Rat} (x:RatAt R h cs j q) (hj:j<n) {P:Program} {t:TypeId} (hT:isAggT P t=some true) (hS:sizeT P t=some 4) :
  ∃a s b u,load P h t (elemAddr v (j*4))=some (.agg #[a,s,b,u])∧R h (.agg #[a,s,b,u]) q:=by
 obtain⟨a,s,b,u,h1,h2⟩:=x
 have hl:=r.len
 refine⟨a,s,b,u,?_,h2⟩
 rw[r.sl.ldAgg (Keep.refl h) (by omega) (by omega) hT hS,h1]
theorem repl_len (z:List Value) : ∀n,(repl n z).length=n*z.length
 | 0=>by rw[repl_zero];simp
 | n+1=>by rw[repl_succ,List.length_append,repl_len z n,Nat.add_mul];omega
open Classical in
theorem ktold_ok {h:IH} {v:Value} {l:List Rat} (hv:ElSl PRat h v l) (hl:l.length≤1000) :
  WV Proofs.Tryz.prog (.func (.func 161) #[] #[]) [v] h fun r h'=>Ext h h'∧((∀q∈l,QW q) → ∃w,r=.tuple #[w,KI 0]∧ShSl h' w (l.map shq))∧(¬(∀q∈l,QW q)→r=.tuple #[.slice none 0 0,KI 6]):=by
 obtain⟨cs0,hs0,_,_⟩:=id hv
 refine enter (nt:=29) (rs:=[.tmp 2,.tmp 3]) Proofs.Tryz.func161 rfl rfl rfl (by simp) ?_
 simp -dsimp (disch:=try exact dx) only[wpS,zE,hs0.len sl217]
 refine loop (fun m fr h1 => ∃(i:Nat) (out:Value),i+m=l.length∧Ext h h1∧Acc h1 h.n 16 out i (shL ((l.take i).map shq))∧(∀(j:Nat) q,j<i→l[j]?=some q→QW q)∧fget fr 4=some out∧fget fr 9=some v∧fget fr 10=some (KN l.length)∧fget fr 11=some (KN i)) l.length
  ⟨0,.slice none 0 0,by omega,Ext.refl _,Acc.nil h _ (by omega),fun j q hj=>by omega,by simp,by simp,by simp,by simp⟩ ?_
 rintro m fr h1 ⟨i,out,him,hE,hA,hW,f4,f9,f10,f11⟩
 simp -dsimp (disch:=try exact dx) only[wpS,f10,f11]
 refine bq_intro ?_ ?_<;>intro hc<;>simp only[decide_eq_true_eq,decide_eq_false_iff_not] at hc
 ·have hi:i<l.length:=by omega
  obtain⟨q,hq⟩ : ∃q,l[i]?=some q:=⟨_,List.getElem?_eq_getElem hi⟩
  obtain⟨a,s,b,u,ld,pq⟩:=hv.ld kept_p hE.keep hq ag169 sz169
  obtain⟨_,_,_,_,he,_,_,_,o1,_,o2,o3,o4⟩:=pq.parts
  cases he
  simp -dsimp (disch:=try exact dx) only[wpS,wpT,zE,zL,zA,ld169,zc169,st169,f9,f11,hs0.idx es217 hi,ld,o1,o2,o3,o4,tk4']
  have E1:Ext h1 ((h1.new (.cells ZR 0 none)).put h1.n (.cells [a,s,b,u] 0 none)):=((Ext.refl h1).new _).put (Nat.le_refl _) _
  refine call (rtold_ok (pq.keep E1.keep)) ?_
  rintro _ h2 ⟨X2,rfl⟩
  have E2:=E1.trans X2
  have n1:=hE.n
  have n2:=E2.n
  by_cases c:QW q
  ·rw[if_pos c,shareV_shq]
   simp -dsimp (disch:=try exact dx) only[wpS,wpT,zE,zL,zA,zc48,st48,shV_cells,shC_len,shC_all,sh_sp3]
   obtain⟨H3,hH3⟩ : ∃H,H=(h2.new (.cells Z16 0 none)).put h2.n (.cells (shC (shq q).1 (shq q).2) 0 none):=⟨_,rfl⟩
   have E3:Ext h2 H3:=by rw[hH3];exact((Ext.refl h2).new _).put (Nat.le_refl _) _
   have n3:=E3.n
   have g3:H3.ext.get h2.n=some (.cells (shC (shq q).1 (shq q).2) 0 none):=by rw[hH3];simp (disch:=try exact dx) only[get_put_same]
   rw[←hH3]
   clear hH3
   have E23:=E2.trans E3
   obtain⟨out',h5,hap,hA5,hG5,hE5⟩:=(hA.ext E23).appN (P:=Proofs.Tryz.prog) (t:=82) ap82 (m:=1) (new:=shC (shq q).1 (shq q).2) (by omega) (by rw[shC_len]) (shC_all _ _) (by omega) (by omega) (hE.trans E23) (Nat.le_refl _)
   have eT:shL ((l.take i).map shq) ++ shC (shq q).1 (shq q).2=shL ((l.take (i+1)).map shq):=by
    rw[take_snoc hq,List.map_append,List.map_cons,List.map_nil,shL,shL,List.flatMap_append];simp
   rw[eT] at hA5
   simp -dsimp (disch:=try exact dx) only[wpS,wpT,zE,zL,zA,ld48,bs82,ba82_82,f4,f11,row_of g3,shC_len,sh_sp3,sh_take,hap]
   refine⟨m - 1,by omega,i+1,out',by omega,hE5,hA5,fun j p hj hp=>?_,by simp,by simp[f9],by simp[f10],by simp⟩
   by_cases hji:j=i
   ·subst hji;rw[hq] at hp;cases hp;exact c
   ·exact hW j p (by omega) hp
  ·rw[if_neg c]
   simp -dsimp (disch:=try exact dx) only[wpS,wpT,zE,zL,zA,zc48,st48,shV_cells,shC_len,shC_all,sh_sp3]
   exact⟨(hE.trans E2).trans (((Ext.refl h2).new _).put (Nat.le_refl _) _),fun hall=>absurd (hall q (List.mem_of_getElem? hq)) c,fun _=>trivial⟩
 ·obtain rfl:i=l.length:=by omega
  rw[List.take_length] at hA
  have hall : ∀q∈l,QW q:=fun q hq=>by
   obtain⟨j,hj⟩:=List.getElem?_of_mem hq
   exact hW j q (List.getElem?_eq_some_iff.1 hj).1 hj
  simp -dsimp (disch:=try exact dx) only[wpS,wpT,zE,f4]
  refine⟨hE,fun _=>⟨out,rfl,?_⟩,fun hn=>absurd hall hn⟩
  refine⟨by rw[List.length_map];exact hA.sl,by rw[List.length_map];omega,fun p hp=>?_⟩
  obtain⟨q,hq,rfl⟩:=List.mem_map.1 hp
  exact shq_lt (hall q hq)
def kAt (ll:List (List (Nat×Nat))) (i j:Nat):Rat:=rOf ((ll.getD i []).getD j (0,0))
def goQ (ll:List (List (Nat×Nat))) (t:List Nat) (i j:Nat):Rat:=if kAt ll j i*wrat (t.getD j 0) / wrat (t.getD i 0)<kAt ll i j then kAt ll j i*wrat (t.getD j 0) / wrat (t.getD i 0) else kAt ll i j
def offS (g:Nat→Rat) (i:Nat):Nat→Rat
 | 0=>1
 | j+1=>if j=i then offS g i j else offS g i j - g j
def filtQ (ll:List (List (Nat×Nat))) (t:List Nat) (i j:Nat):Rat:=if j=i then offS (goQ ll t i) i ll.length else goQ ll t i j
def filtRow (ll:List (List (Nat×Nat))) (t:List Nat) (i:Nat):List Rat:=(List.range ll.length).map (filtQ ll t i)
def filtOk (ll:List (List (Nat×Nat))) (t:List Nat):Prop:=∀i,i<ll.length → ∀q∈filtRow ll t i,QW q
def filtLL (ll:List (List (Nat×Nat))) (t:List Nat):List (List (Nat×Nat)):=(List.range ll.length).map fun i=>(filtRow ll t i).map shq
open Classical in
noncomputable def filtE (ll:List (List (Nat×Nat))) (t:List Nat):Int:=if ¬kerOk ll then 330 else if t.length≠ll.length∨(∃p∈t,wdI p<1) then 2 else if filtOk ll t then 0 else 6
theorem filtRow_len (ll:List (List (Nat×Nat))) (t:List Nat) (i:Nat):(filtRow ll t i).length=ll.length:=by simp[filtRow]
theorem filtRow_at {ll:List (List (Nat×Nat))} {t:List Nat} {i j:Nat} (hj:j<ll.length):(filtRow ll t i)[j]?=some (filtQ ll t i j):=by
 rw[filtRow,List.getElem?_map,List.getElem?_range hj];rfl
theorem filtLL_at {ll:List (List (Nat×Nat))} {t:List Nat} {i:Nat} (hi:i<ll.length):(filtLL ll t)[i]?=some ((filtRow ll t i).map shq):=by
 rw[filtLL,List.getElem?_map,List.getElem?_range hi];rfl
theorem filtLL_len (ll:List (List (Nat×Nat))) (t:List Nat):(filtLL ll t).length=ll.length:=by simp[filtLL]
theorem wrat_qb {p:Nat} (hp:p<W8):QB 512 (wrat p):=by
 refine QB.int ?_
 have hw:W8=2 ^ 512:=by decide +kernel
 rw[←hw]
 unfold wdI
 have:=H8_two
 split<;>omega
theorem wrat_ne {p:Nat} (h:1≤wdI p):wrat p≠0:=fun e=>by
 have:wdI p=0:=Rat.intCast_inj.1 e
 omega
theorem goQ_qb {ll:List (List (Nat×Nat))} {t:List Nat} {i j:Nat} (h1:QB 512 (kAt ll i j)) (h2:QB 512 (kAt ll j i)) (h3:t.getD j 0<W8) (h4:t.getD i 0<W8) (h5:1≤wdI (t.getD i 0)):QB 1536 (goQ ll t i j):=by
 have q1:=h2.mul (wrat_qb h3)
 have q2:=q1.div (wrat_qb h4) (wrat_ne h5)
 have q3:=q2.mono (b:=1536) (by omega)
 unfold goQ
 split
 ·exact q3
 ·exact h1.mono (by omega)
theorem offS_qb {g:Nat→Rat} {i:Nat} {k:Nat} : ∀{n:Nat},(∀j,j<n→QB k (g j))→QB (1+n*(k+1)) (offS g i n)
 | 0,_=>⟨by rw[offS];show 1≤2 ^ (1+0*(k+1));rw[Nat.zero_mul];decide,by rw[offS];show 1≤2 ^ (1+0*(k+1));rw[Nat.zero_mul];decide⟩
 | n+1,h=>by
  have ih:=offS_qb (i:=i) (n:=n) fun j hj=>h j (by omega)
  have e:1+(n+1)*(k+1)=1+n*(k+1)+k+1:=by rw[Nat.add_mul];omega
  rw[offS,e]
  split
  ·exact ih.mono (by omega)
  ·exact ih.sub (h n (by omega))
theorem kerOk_at {ll:List (List (Nat×Nat))} (k:kerOk ll) {i j:Nat} (hi:i<ll.length) (hj:j<ll.length) : ∃row p,ll[i]?=some row∧row.length=ll.length∧row[j]?=some p∧okS p.1 p.2∧0≤wdI p.1∧kAt ll i j=rOf p:=by
 obtain⟨h1,h2⟩:=k.2.2 _ (List.getElem_mem hi)
 have hj':j<(ll[i]).length:=by omega
 refine⟨_,_,List.getElem?_eq_getElem hi,h1,List.getElem?_eq_getElem hj',(notBad (h2.1 _ (List.getElem_mem hj'))).1,(notBad (h2.1 _ (List.getElem_mem hj'))).2,?_⟩
 unfold kAt
 simp only[List.getD_eq_getElem?_getD,List.getElem?_eq_getElem hi,Option.getD_some,List.getElem?_eq_getElem hj']
end Go.Id

namespace Go.Id
end Go.Id

namespace Go.Id
open Go
end Go.Id

namespace Go.Id
open Go
end Go.Id

namespace Go.Id
open Go
end Go.Id

namespace Go.Id
open Go
end Go.Id

namespace Go.Id
open Go
end Go.Id

namespace Go.Id
open Go
theorem RPair.rat {h:IH} {v:Value} {n d:Nat} (p:RPair h v (wdI n) (wdI d)) (ok:okS n d):RRat h v (rOf (n,d)):=by
 obtain⟨e1,e2⟩:=rOf_parts (p:=(n,d)) ok
 unfold RRat
 rw[e1,e2];exact p
end Go.Id

namespace Go.Id
open Go
open Go.Proofs.Tryz (prog)
open Nat renaming reduceAdd→zA,reduceEqDiff→zE,reduceLeDiff→zL
set_option maxHeartbeats 16000000
theorem kzero_ok {h:IH}:WV prog (.func (.func 166) #[] #[]) [] h fun r h'=>Ext h h'∧RRat h' r 0:=by
 have E1:Ext h (h.new (.cells ZR 0 none)):=(Ext.refl h).new _
 have g1:(h.new (.cells ZR 0 none)).ext.get h.n=some (.cells ZR 0 none):=by simp (disch:=try exact dx) only[get_new_same]
 refine enter (nt:=2) (rs:=[.cell 0 186]) Proofs.Tryz.func166 rfl rfl rfl (by simp) ?_
 simp -dsimp (disch:=try exact dx) only[wpS,zc186]
 refine call (quick_ok 0 1 ⟨by omega,by omega⟩ ⟨by omega,by omega⟩ (by omega)) ?_
 rintro r h1 ⟨X1,p1⟩
 rw[Rat.zero_divInt] at p1
 obtain⟨a3,s3,b3,t3,rfl,_,_,d1,o1,d2,o2,o3,o4⟩:=p1.parts
 have k1:=X1.kept (by simp) g1
 have m1:=X1.n
 simp only[new_n] at m1
 simp -dsimp (disch:=try exact dx) only[wpS,wpT,zE,zL,zA,st186,ld186,k1,o1,o2,o3,o4,tk4']
 exact⟨(E1.trans X1).put (by omega) _,p1.keep ((Keep.refl _).put k1 _)⟩
open Classical in
theorem kvalid_ok {h:IH} {v:Value} {l:List (Nat×Nat)} (hv:ShSl h v l) :
  WV prog (.func (.func 162) #[] #[]) [v] h fun r h'=>Ext h h'∧r=.bool (decide (∀p∈l,okS p.1 p.2)):=by
 have hlb:=hv.2.1
 refine enter (nt:=16) (rs:=[.tmp 2]) Proofs.Tryz.func162 rfl rfl rfl (by simp) ?_
 simp -dsimp (disch:=try exact dx) only[wpS]
 refine loop (fun m fr h1 => ∃i:Nat,i+m=l.length∧Ext h h1∧(∀(j:Nat) p,j<i→l[j]?=some p→okS p.1 p.2)∧fget fr 0=some v∧fget fr 3=some (KN i)) l.length
  ⟨0,by omega,Ext.refl _,fun j p hj=>by omega,by simp,by simp⟩ ?_
 rintro m fr h1 ⟨i,him,hE,hok,f0,f3⟩
 simp -dsimp (disch:=try exact dx) only[wpS,zE,f0,f3,hv.1.len sl82]
 refine bq_intro ?_ ?_<;>intro hc<;>simp only[decide_eq_true_eq,decide_eq_false_iff_not] at hc
 ·have hi:i<l.length:=by omega
  obtain⟨p,hp⟩ : ∃p,l[i]?=some p:=⟨_,List.getElem?_eq_getElem hi⟩
  have hpm:=List.mem_of_getElem? hp
  obtain⟨w1,w2⟩:=hv.2.2 p hpm
  simp -dsimp (disch:=try exact dx) only[wpS,wpT,zE,f0,f3,hv.1.idx es82 hi,hv.ld hE.keep hp]
  refine call (refright_ok p.1 p.2 w1 w2) ?_
  rintro _ h3 ⟨hE2,rfl⟩
  have E2:=hE.trans hE2
  by_cases hk:okS p.1 p.2
  ·rw[decide_eq_true hk]
   simp -dsimp (disch:=try exact dx) only[wpS,wpT,zE,f3]
   refine⟨m - 1,by omega,i+1,by omega,E2,?_,by simp[f0],by simp⟩
   intro j q hj hq
   by_cases hji:j=i
   ·subst hji;rw[hp] at hq;cases hq;exact hk
   ·exact hok j q (by omega) hq
  ·rw[decide_eq_false hk,decide_eq_false (show ¬∀p∈l,okS p.1 p.2 from fun hall=>hk (hall p hpm))]
   simp -dsimp (disch:=try exact dx) only[wpS,wpT,zE]
   exact E2
 ·rw[decide_eq_true (show ∀p∈l,okS p.1 p.2 from fun p hp=>by
   obtain⟨j,hj⟩:=List.getElem?_of_mem hp
   exact hok j p (by have:=(List.getElem?_eq_some_iff.1 hj).1;omega) hj)]
  simp -dsimp (disch:=try exact dx) only[wpS,wpT]
  exact hE
open Classical in
theorem keven1_ok {h:IH} {v:Value} {l:List (Nat×Nat)} (hv:ShSl h v l) (ho : ∀p∈l,okS p.1 p.2) (hl:l.length≤1000) :
  WV prog (.func (.func 163) #[] #[]) [v] h fun r h'=>Ext h h'∧r=.bool (decide (rowOk l)):=by
 have hq0 : ∀q∈l.map rOf,QB 512 q:=by
  intro q hq
  obtain⟨p,hp,rfl⟩:=List.mem_map.1 hq
  exact qb512 (hv.2.2 p hp).1 (hv.2.2 p hp).2 (ho p hp)
 have hQ : ∀i,i≤l.length→QB (i*(512+1)) (qsum ((l.take i).map rOf)):=by
  intro i hi
  have:=QB.qsum (k:=512) hq0 i (by simpa using hi)
  rwa [←List.map_take] at this
 refine enter (nt:=28) (rs:=[.tmp 2]) Proofs.Tryz.func163 rfl rfl rfl (by simp) ?_
 simp -dsimp (disch:=try exact dx) only[wpS]
 refine call kzero_ok ?_
 rintro z h1 ⟨X1,p1⟩
 have m1:=X1.n
 obtain⟨a3,s3,b3,t3,rfl,_,_,d1,o1,d2,o2,o3,o4⟩:=p1.parts
 simp -dsimp (disch:=try exact dx) only[wpS,wpT,zE,zL,zA,zc186,st186,o1,o2,o3,o4]
 have Ex2:Ext h1 ((h1.new (.cells ZR 0 none)).put h1.n (.cells [a3,s3,b3,t3] 0 none)):=((Ext.refl h1).new _).put (Nat.le_refl _) _
 refine loop (fun m fr hh => ∃(i:Nat) (a s b t:Value),i+m=l.length∧Ext h hh∧h1.n<hh.n∧hh.ext.get h1.n=some (.cells [a,s,b,t] 0 none)∧RRat hh (.agg #[a,s,b,t]) (qsum ((l.take i).map rOf))∧(∀(j:Nat) p,j<i→l[j]?=some p → ¬badS p) ∧
   fget fr 0=some v∧fget fr 3=some (ptr (2*h1.n) 0)∧fget fr 4=some (KN i)) l.length
  ⟨0,a3,s3,b3,t3,by omega,X1.trans Ex2,by simp,by simp (disch:=try exact dx) only[get_put_same],p1.keep Ex2.keep,fun j p hj=>by omega,by simp,by simp,by simp⟩ ?_
 clear p1 Ex2
 rintro m fr hh ⟨i,a,s,b,t,him,hE,hn,hg5,hp,hno,f0,f3,f4⟩
 simp -dsimp (disch:=try exact dx) only[wpS,zE,f0,f4,hv.1.len sl82]
 refine bq_intro ?_ ?_<;>intro hc<;>simp only[decide_eq_true_eq,decide_eq_false_iff_not] at hc
 ·have hi:i<l.length:=by omega
  obtain⟨q,hq⟩ : ∃q,l[i]?=some q:=⟨_,List.getElem?_eq_getElem hi⟩
  have hqm:=List.mem_of_getElem? hq
  obtain⟨w1,w2⟩:=hv.2.2 q hqm
  have hoq:=ho q hqm
  simp -dsimp (disch:=try exact dx) only[wpS,wpT,zE,f0,f4,hv.1.idx es82 hi,hv.ld hE.keep hq]
  refine call (refin_ok q.1 q.2 w1 w2) ?_
  rintro _ h2 ⟨X2,pp⟩
  have m2:=X2.n
  have p2:=pp.rat hoq
  obtain⟨a2,s2,b2,t2,rfl,l1,_,d1,o1,d2,o2,o3,o4⟩:=p2.parts
  have ea2:=l1.co.1
  rw[show(rOf (q.1,q.2)).num=wdI q.1 from(rOf_parts hoq).1] at ea2
  have gs:=X2.kept hn hg5
  obtain⟨H3,hH3⟩ : ∃H,H=(h2.new (.cells ZR 0 none)).put h2.n (.cells [a2,s2,b2,t2] 0 none):=⟨_,rfl⟩
  have e3:Ext h2 H3:=by rw[hH3];exact((Ext.refl h2).new _).put (Nat.le_refl _) _
  have n3:H3.n=h2.n+1:=by rw[hH3];rfl
  have g3:H3.ext.get h2.n=some (.cells [a2,s2,b2,t2] 0 none):=by rw[hH3];simp (disch:=try exact dx) only[get_put_same]
  have gs3:=e3.kept (by omega) gs
  have hX:=hE.trans (X2.trans e3)
  by_cases cn:wdI q.1<0
  ·have hr : ¬rowOk l:=fun hr=>hr.1 q hqm (.inr cn)
   rw[decide_eq_true cn] at ea2
   subst ea2
   rw[decide_eq_false hr]
   have row3 : ∀X,((h2.new (.cells ZR 0 none)).put h2.n (.cells [.bool true,s2,b2,t2] 0 none)).row X=H3.row X:=fun X=>by rw[hH3]
   simp -dsimp (disch:=try exact dx) only[wpS,wpT,zE,zL,zA,zc186,st186,fa186_0,fa131_0,ld4,o1,o2,o3,o4]
   rw[←hH3]
   exact hX
  ·rw[decide_eq_false cn] at ea2
   subst ea2
   simp -dsimp (disch:=try exact dx) only[wpS,wpT,zE,zL,zA,zc186,st186,fa186_0,fa131_0,ld4,o1,o2,o3,o4]
   rw[←hH3]
   clear hH3
   simp -dsimp (disch:=try exact dx) only[wpS,wpT,zE,zL,zA,ld186,f3,row_of gs3,row_of g3,tk4']
   have hkb:i*(512+1)+512+1<16000000:=by omega
   refine call (qplus_ok (hp.keep (X2.trans e3).keep) (p2.keep e3.keep) (hQ i (by omega)) (qb512 w1 w2 hoq) hkb) ?_
   rintro r3 h5 ⟨X5,p5⟩
   have m5:=X5.n
   have eT:qsum ((l.take i).map rOf)+rOf (q.1,q.2)=qsum ((l.take (i+1)).map rOf):=by rw[take_snoc hq,List.map_append,List.map_cons,List.map_nil,qsum_snoc]
   rw[eT] at p5
   obtain⟨a4,s4,b4,t4,rfl,_,_,_,o1,_,o2,o3,o4⟩:=p5.parts
   have k5:=X5.kept (by omega) gs3
   simp -dsimp (disch:=try exact dx) only[wpS,wpT,zE,zL,zA,st186,f3,f4,k5,o1,o2,o3,o4]
   refine⟨m - 1,by omega,i+1,a4,s4,b4,t4,by omega,(hX.trans X5).put (by omega) _,by simp only[put_n];omega,get_put_same _ _ rfl,p5.keep ((Keep.refl _).put k5 _),?_,by simp[f0],by simp[f3],by simp⟩
   intro j x hj hx
   by_cases hji:j=i
   ·subst hji;rw[hq] at hx;cases hx;exact fun h=>h.elim (fun h=>h hoq) cn
   ·exact hno j x (by omega) hx
 ·obtain rfl:i=l.length:=by omega
  have hQl:=hQ l.length (Nat.le_refl _)
  rw[List.take_length] at hp hQl
  have hno' : ∀p∈l,¬badS p:=fun p hp=>by
   obtain⟨j,hj⟩:=List.getElem?_of_mem hp
   exact hno j p (by have:=(List.getElem?_eq_some_iff.1 hj).1;omega) hj
  obtain⟨_,_,L1⟩:=ql4 hg5
  have X0:=Ext.refl hh
  simp -dsimp (disch:=try exact dx) only[wpS,wpT]
  refine drawn [(0,[2])] (by kernel_rfl) (by kernel_rfl) rfl ?_
  simp -dsimp (disch:=try exact dx) only[wpS,wpT,zE,zL,zA,ld186,f3,row_of hg5,tk4']
  refine call (quick_ok 1 1 ⟨by omega,by omega⟩ ⟨by omega,by omega⟩ (by omega)) ?_
  rintro r6 h6 ⟨X6,p6⟩
  rw[show Rat.divInt 1 1=(1:Rat) from rfl] at p6
  simp -dsimp (disch:=try exact dx) only[wpS,zE]
  refine call (qorder_ok (hp.keep X6.keep) p6 hQl (QB.int (k:=64) (n:=1) (by decide)) (by omega)) ?_
  rintro _ h7 ⟨X7,rfl⟩
  have XX:=(hE.trans X6).trans X7
  by_cases c1:qsum (l.map rOf)=1
  ·rw[decide_eq_true (show rowOk l from⟨hno',c1⟩),c1,if_neg (by exact Rat.lt_irrefl),if_pos rfl]
   simp -dsimp (disch:=try exact dx) only[wpS,wpT,zE]
   refine⟨wpSteady_one rfl rfl rfl rfl (steady_ext (H0:=hh) f3 (by omega) X0 X6 L1),?_⟩
   simp -dsimp (disch:=try exact dx) only[wpS,wpT,zE,zA]
   exact XX
  ·rw[decide_eq_false (show ¬rowOk l from fun h=>c1 h.2)]
   obtain⟨z,hz,hz0⟩ : ∃z:Int,(if qsum (l.map rOf)<1 then (-1:Int) else if qsum (l.map rOf)=1 then 0 else 1)=z∧z≠0:=⟨_,rfl,by split<;>simp[]⟩
   rw[hz]
   have d:(z == 0)=false:=by simpa using hz0
   simp -dsimp (disch:=try exact dx) only[wpS,zE,d]
   refine⟨wpSteady_one rfl rfl rfl rfl (steady_ext (H0:=hh) f3 (by omega) X0 X6 L1),?_⟩
   simp -dsimp (disch:=try exact dx) only[wpS,wpT,zE,zA]
   exact XX
open Classical in
theorem kright_ok {h:IH} {v:Value} {ll:List (List (Nat×Nat))} (hv:ShLs h v ll) :
  WV prog (.func (.func 80) #[] #[]) [v] h fun r h'=>Ext h h'∧r=.bool (decide (kerOk ll)):=by
 obtain⟨_,_,hlen⟩:=hv.co
 have hlb:=hv.choose_spec.2.1
 refine enter (nt:=42) (rs:=[.tmp 2]) Proofs.Tryz.func80 rfl rfl rfl (by simp) ?_
 by_cases a1:ll.length<1
 ·rw[decide_eq_false (show ¬kerOk ll from fun hk=>by have:=hk.1;omega)]
  simp -dsimp (disch:=try exact dx) only[wpS,wpT,zE,hlen]
  exact Ext.refl _
 by_cases a2:60<ll.length
 ·rw[decide_eq_false (show ¬kerOk ll from fun hk=>by have:=hk.2.1;omega)]
  simp -dsimp (disch:=try exact dx) only[wpS,wpT,zE,hlen]
  exact Ext.refl _
 simp -dsimp (disch:=try exact dx) only[wpS,wpT,zE,hlen]
 refine loop (fun m fr h1 => ∃i:Nat,i+m=ll.length∧Ext h h1∧(∀(j:Nat) x,j<i→ll[j]?=some x→x.length=ll.length∧rowOk x)∧fget fr 0=some v∧fget fr 3=some (KN i)) ll.length
  ⟨0,by omega,Ext.refl _,fun j p hj=>by omega,by simp,by simp⟩ ?_
 rintro m fr h1 ⟨i,him,hE,hok,f0,f3⟩
 simp -dsimp (disch:=try exact dx) only[wpS,zE,f0,f3,hlen]
 refine bq_intro ?_ ?_<;>intro hc<;>simp only[decide_eq_true_eq,decide_eq_false_iff_not] at hc
 ·have hi:i<ll.length:=by omega
  obtain⟨x,hx⟩ : ∃x,ll[i]?=some x:=⟨_,List.getElem?_eq_getElem hi⟩
  have hxm:=List.mem_of_getElem? hx
  obtain⟨w,l1,l2,l3⟩:=hv.at hE.keep hx
  have lx:=l2.2.1
  by_cases cl:x.length=ll.length
  case neg =>
   rw[decide_eq_false (show ¬kerOk ll from fun hk=>cl (hk.2.2 x hxm).1)]
   have d:(((x.length:Nat):Int) != ((ll.length:Nat):Int))=true:=by simpa using fun h=>cl (by omega)
   simp -dsimp (disch:=try exact dx) only[wpS,wpT,zE,f0,f3,l1,l3,l2.1.len sl82,hlen,d]
   exact hE
  have d:(((x.length:Nat):Int) != ((ll.length:Nat):Int))=false:=by simp[cl]
  simp -dsimp (disch:=try exact dx) only[wpS,wpT,zE,f0,f3,l1,l3,l2.1.len sl82,hlen,d]
  refine call (kvalid_ok l2) ?_
  rintro _ h2 ⟨X2,rfl⟩
  have E2:=hE.trans X2
  by_cases ca : ∀p∈x,okS p.1 p.2
  case neg =>
   rw[decide_eq_false ca,decide_eq_false (show ¬kerOk ll from fun hk=>ca fun p hp=>(notBad ((hk.2.2 x hxm).2.1 p hp)).1)]
   simp -dsimp (disch:=try exact dx) only[wpS,wpT,zE]
   exact E2
  rw[decide_eq_true ca]
  obtain⟨w',l1',l2',l3'⟩:=hv.at E2.keep hx
  simp -dsimp (disch:=try exact dx) only[wpS,wpT,zE,f0,f3,l1',l3']
  refine call (keven1_ok l2' ca (by omega)) ?_
  rintro _ h4 ⟨X4,rfl⟩
  have E4:=E2.trans X4
  by_cases cr:rowOk x
  ·rw[decide_eq_true cr]
   simp -dsimp (disch:=try exact dx) only[wpS,wpT,zE,f3]
   refine⟨m - 1,by omega,i+1,by omega,E4,?_,by simp[f0],by simp⟩
   intro j q hj hq
   by_cases hji:j=i
   ·subst hji;rw[hx] at hq;cases hq;exact⟨cl,cr⟩
   ·exact hok j q (by omega) hq
  ·rw[decide_eq_false cr,decide_eq_false (show ¬kerOk ll from fun hk=>cr (hk.2.2 x hxm).2)]
   simp -dsimp (disch:=try exact dx) only[wpS,wpT,zE]
   exact E4
 ·rw[decide_eq_true (show kerOk ll from⟨by omega,by omega,fun x hx=>by
   obtain⟨j,hj⟩:=List.getElem?_of_mem hx
   exact hok j x (by have:=(List.getElem?_eq_some_iff.1 hj).1;omega) hj⟩)]
  simp -dsimp (disch:=try exact dx) only[wpS,wpT]
  exact hE
end Go.Id

namespace Go.Id
open Go
theorem Acc.setN {h:IH} {n0 sz:Nat} {v:Value} {n:Nat} {cs:List Value} (a:Acc h n0 sz v n cs) {P:Program} {t:TypeId} (hT:sizeT P t=some sz) {i:Nat} (hi:i<n) {x:Value} {xs:List Value} (hx:x.cells.toList=xs) (hxl:xs.length=sz) (hc:xs.all cellOK=true) {h0':IH} (e0:Ext h0' h) (hn0:h0'.n≤n0) :
  ∃h',store P h t (elemAddr v (i*sz)) x=some h'∧Acc h' n0 sz v n (IH.splice cs (i*sz) xs)∧Ext h0' h'∧h'.n=h.n:=by
 obtain⟨hz,hl,⟨rfl,rfl⟩|⟨k,fam,rfl,hn,h1,h2,h3,h4⟩⟩:=a
 ·omega
 ·have hle:i*sz+sz≤cs.length:=by
   rw[hl,←Nat.succ_mul];exact Nat.mul_le_mul_right _ hi
  have hsl:(IH.splice cs (i*sz) xs).length=n*sz:=by
   simp only[IH.splice,List.length_append,List.length_take,List.length_drop]
   omega
  have k2:2*k / 2=k:=by omega
  have k1:(2*k % 2 == 1)=false:=by simp
  have hsx:x.cells.size=sz:=by rw[←Array.length_toList,hx,hxl]
  have hst:store P h t (elemAddr (.slice (some ⟨2*k,0,none⟩) n (2*n)) (i*sz)) x=h.wr (2*k) (i*sz) xs:=by
   simp only[elemAddr,Nat.zero_add,store,asAddr,ptr,hT,hx,hsx,hc,beq_self_eq_true,Bool.and_self,cond_true]
  have hle:Nat.ble (i*sz+xs.length) cs.length=true:=by rw[Nat.ble_eq,hxl];exact hle
  rw[hst]
  cases fam with
  | none =>
   refine⟨h.put k (.cells (IH.splice cs (i*sz) xs) sz none),?_,⟨hz,hsl,.inr ⟨k,none,rfl,hn,h1,h2,get_put_same _ _ rfl,trivial⟩⟩,e0.put (by omega) _,rfl⟩
   ·simp only[IH.wr,k1,k2,h3,hle,cond_true,cond_false];rfl
  | some f =>
   obtain⟨a1,a2,rest,a3,a4⟩:=h4
   refine⟨{ h with ext:=(IH.killAll h.ext (((k :: rest).filter (· != k)))).set k (.cells (IH.splice cs (i*sz) xs) sz none) },?_,⟨hz,hsl,.inr ⟨k,none,rfl,hn,h1,h2,?_,trivial⟩⟩,⟨e0.n,e0.base,fun j hj=>?_,e0.fams⟩,rfl⟩
   ·simp only[IH.wr,k1,k2,h3,hle,cond_true,cond_false,a3]
   ·simp[Tr.get_set]
   ·have hjk:j≠k:=by omega
    rw[Tr.get_set,if_neg hjk,get_killAll,if_neg]
    ·exact e0.get j hj
    ·intro hm
     simp only[List.mem_filter,List.mem_cons,bne_iff_ne,ne_eq] at hm
     rcases hm with⟨rfl|hm,hne⟩
     ·exact hne rfl
     ·have:=a4 j hm;omega
theorem shL_set : ∀(l:List (Nat×Nat)) (i:Nat) (p:Nat×Nat),i<l.length→IH.splice (shL l) (i*16) (shC p.1 p.2)=shL (l.set i p)
 | [],i,p,h=>by simp at h
 | a :: l,0,p,_=>by
  show IH.splice (shC a.1 a.2 ++ shL l) (0*16) (shC p.1 p.2)=shC p.1 p.2 ++ shL l
  simp only[IH.splice,Nat.zero_mul,List.take_zero,List.nil_append,Nat.zero_add]
  rw[List.drop_append_of_le_length (by rw[shC_len,shC_len];omega),List.drop_of_length_le (by rw[shC_len,shC_len];omega),List.nil_append]
 | a :: l,i+1,p,h=>by
  have ih:=shL_set l i p (by simpa using h)
  show IH.splice (shC a.1 a.2 ++ shL l) ((i+1)*16) (shC p.1 p.2)=shC a.1 a.2 ++ shL (l.set i p)
  rw[←ih]
  have e1:(i+1)*16=(shC a.1 a.2).length+i*16:=by rw[shC_len];omega
  simp only[IH.splice]
  rw[e1,List.take_length_add_append,Nat.add_assoc,List.drop_length_add_append,List.append_assoc]
end Go.Id

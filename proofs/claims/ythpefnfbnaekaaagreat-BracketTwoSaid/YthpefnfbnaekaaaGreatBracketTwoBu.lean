/-
  An award in numbers: what has been given stands above all that may be given next; such an allocation is certified. The bounds of a bracket; a divisor between them gives every region its seats.
-/
import Derived.Test.YthpefnfbnaekaaaGreatBracketTwoBt
import Derived.Test.YthpefnfbnaekaaaGreatBracketTwoAr
import Derived.Test.YthpefnfbnaekaaaGreatBracketTwoBn
set_option linter.unusedVariables false
set_option linter.unusedSimpArgs false
set_option linter.defProp false
set_option linter.deprecated false
namespace Go.Id
open Go
structure ClaimsOf (people low:List Int) (cs:List Claim):Prop where
 at_:cs.map Claim.at_=(List.range people.length).filter (posR people)
 num : ∀c∈cs,c.p=(people.getD c.at_ 0).toNat∧c.s=(low.getD c.at_ 0).toNat
structure Seats (people low W:List Int) (cs:List Claim) (s:Nat→Nat):Prop where
 at_ : ∀i,i<cs.length→W.getD (cs.getD i noClaim).at_ 0=s i
 z : ∀j,people.getD j 0≤0→W.getD j 0=low.getD j 0
theorem ClaimsOf.find {people low:List Int} {cs:List Claim} (C:ClaimsOf people low cs) {j:Nat} (hj:j<people.length) (hp:0<people.getD j 0) : ∃i,i<cs.length∧(cs.getD i noClaim).at_=j:=by
 have h:j∈cs.map Claim.at_:=by
  rw[C.at_,List.mem_filter,List.mem_range]
  exact⟨hj,decide_eq_true hp⟩
 obtain⟨c,hc,rfl⟩:=List.mem_map.1 h
 obtain⟨i,hi⟩:=List.getElem?_of_mem hc
 exact⟨i,(List.getElem?_eq_some_iff.1 hi).1,by rw[List.getD_eq_getElem?_getD,hi];rfl⟩
theorem last_claim {m:Nat} {people low W:List Int} {cs:List Claim} {s:Nat→Nat} (C:ClaimsOf people low cs) (S:Seats people low W cs s) (l0 : ∀x∈low,0≤x) {x:Seat} (hx:x∈lastS (regsOf people W low people.length)) :
  ∃i,i<cs.length∧(cs.getD i noClaim).s<s i∧keyS m x=keyC m (cs.getD i noClaim).p (s i - 1):=by
 obtain⟨r,hr,⟨r1,r2⟩,rfl⟩:=lastS_mem.1 hx
 obtain⟨j,hj,rfl⟩:=List.mem_map.1 hr
 obtain⟨i,hi,rfl⟩:=C.find (List.mem_range.1 hj) r1
 obtain⟨n1,n2⟩:=C.num _ (claim_mem hi)
 have a:=S.at_ i hi
 have g:=getD_nonneg l0 (cs.getD i noClaim).at_
 dsimp only at r1 r2
 rw[a] at r2
 refine⟨i,hi,by omega,?_⟩
 unfold keyS keyC
 dsimp only
 rw[a,←n1,show((s i:Int) - 1).toNat=s i - 1 from by omega,Int.toNat_natCast]
theorem next_claim {m:Nat} {people low W:List Int} {cs:List Claim} {s:Nat→Nat} (C:ClaimsOf people low cs) (S:Seats people low W cs s) {x:Seat} (hx:x∈nextS (regsOf people W low people.length)) :
  ∃i,i<cs.length∧keyS m x=keyC m (cs.getD i noClaim).p (s i):=by
 obtain⟨r,hr,r1,rfl⟩:=nextS_mem.1 hx
 obtain⟨j,hj,rfl⟩:=List.mem_map.1 hr
 obtain⟨i,hi,rfl⟩:=C.find (List.mem_range.1 hj) r1
 obtain⟨n1,n2⟩:=C.num _ (claim_mem hi)
 have a:=S.at_ i hi
 refine⟨i,hi,?_⟩
 unfold keyS keyC
 dsimp only
 rw[a,←n1,Int.toNat_natCast,Int.toNat_natCast]
theorem seats_settled {people low W:List Int} {cs:List Claim} {s:Nat→Nat} (S:Seats people low W cs s) : ∀r∈regsOf people W low people.length,0<r.1∨r.2.1=r.2.2:=by
 intro r hr
 obtain⟨j,hj,rfl⟩:=List.mem_map.1 hr
 by_cases c:0<people.getD j 0
 ·exact .inl c
 ·exact .inr (S.z j (by omega))
theorem some_cert {m:Nat} {people low W:List Int} {cs:List Claim} {s:Nat→Nat} (R:RegsOK (regsOf people W low people.length)) (hm:11≤m∧m≤15) (C:ClaimsOf people low cs) (S:Seats people low W cs s) (l0 : ∀x∈low,0≤x)
  (F : ∀i j,i<cs.length→j<cs.length→(cs.getD i noClaim).s<s i → ¬ltK (keyC m (cs.getD i noClaim).p (s i - 1)) (keyC m (cs.getD j noClaim).p (s j))):certB m (regsOf people W low people.length)=true :=
 (certB_iff R (by omega)).2 ⟨seats_settled S,fun _ hx _ hy=>by
  obtain⟨i,hi,h1,e1⟩:=last_claim (m:=m) C S l0 hx
  obtain⟨j,hj,e2⟩:=next_claim (m:=m) C S hy
  rw[e1,e2]
  exact F i j hi hj h1⟩
theorem pos_low {n:Nat} {least:List Int} (h : ∀x∈least,0≤x) : ∀x∈leastOr n least,0≤x:=by
 unfold leastOr
 split
 ·intro x hx;have:=List.eq_of_mem_replicate hx;omega
 ·exact h
theorem low_len {n:Nat} {least:List Int} (h:least = []∨least.length=n):(leastOr n least).length=n:=by
 unfold leastOr
 split
 ·exact List.length_replicate
 ·rcases h with h|h
  ·contradiction
  ·exact h
theorem openErr_fine {people won least:List Int} {m:Nat} (q:quotaOK people=true) (lw:won.length=people.length) (rw' : ∀x∈won,0≤x∧x≤1000) (hm:11≤m∧m≤15) (ll:(leastOr people.length least).length=people.length)
  (lo:lowOK won (leastOr people.length least) people.length) (sm:1≤won.sum∧won.sum≤1000):openErr people won m least=0:=by
 unfold openErr
 have r1:inR 0 1000 won=true:=inR_iff.2 rw'
 have r2:inR 11 15 [(m:Int)]=true:=inR_iff.2 fun n hn=>by simp at hn;omega
 have r3:inR 1 1000 [won.sum]=true:=inR_iff.2 fun n hn=>by simp at hn;omega
 rw[if_neg (by simp[q]),if_neg (by simp[lw,r1]),if_neg (by simp[r2,ll]),if_neg (by simpa using lo),if_neg (by simp[r3])]
end Go.Id

namespace Go.Id
open Go
end Go.Id

namespace Go.Id
open Go
structure BrIn (m:Nat) (rs:List Reg):Prop where
 R:RegsOK rs
 m1:11≤m∧m≤15
 m3:m≠13
 z : ∀r∈rs,r.2.2=0
 st : ∀x∈lastS rs,∀y∈nextS rs,ltK (keyS m y) (keyS m x)
end Go.Id

namespace Go.Id
open Go
set_option maxHeartbeats 16000000
structure Award (m seats:Nat) (people low:List Int) (cs:List Claim) (s:Nat→Nat) (A:List Int) (B:List Nat) (left:Nat):Prop where
 C:ClaimsOf people low cs
 S:Seats people low A cs s
 len:A.length=people.length
 F:Fair m cs.length (fun i=>(cs.getD i noClaim).p) (fun i=>(cs.getD i noClaim).s) s
 T:(left=0∧B = [])∨(0<left∧left<B.length∧B=bestN (fun i=>keyC m (cs.getD i noClaim).p (s i)) cs.length)
 sum:A.sum+left=seats
def tiedL (cs:List Claim) (B:List Nat):List Int:=B.map fun i=>((cs.getD i noClaim).at_:Int)
theorem award_ok {h:IH} {vp vl:Value} {seats m:Nat} {people least:List Int} (hp:SlOf h 1 vp people.length (people.map KI)) (hl:SlOf h 1 vl least.length (least.map KI)) (c1:quotaOK people=true) (c2:1≤seats∧seats≤1000) (c3:11≤m∧m≤15)
  (c4:least = []∨(least.length=people.length∧(∀x∈least,0≤x)∧least.sum≤seats)) :
  WV Proofs.Tryz.prog (.func (.func 23) #[] #[]) [vp,KI seats,KN m,vl] h fun r h'=>Ext h h' ∧ ∃(cs:List Claim) (s:Nat→Nat) (A:List Int) (B:List Nat) (left:Nat) (v w:Value),r=.tuple #[.agg #[v,w,KI left],KI 0]∧SlOf h' 1 v people.length (A.map KI)∧SlOf h' 1 w B.length ((tiedL cs B).map KI) ∧
   Award m seats people (leastOr people.length least) cs s A B left:=by
 refine enter (nt:=24) (rs:=[.cell 8 33,.tmp 9]) Proofs.Tryz.func23 rfl rfl rfl (by simp) ?_
 simp -dsimp (maxSteps:=1000000) (disch:=try exact dx) only[wpS,Nat.reduceEqDiff,Nat.reduceAdd,zc33]
 obtain⟨H0,hH0,n0,E0,g0⟩:=boxed1 h [.slice none 0 0,.slice none 0 0,KI 0]
 rw[←hH0]
 clear hH0
 refine call (run_walk (hp.keep E0.keep) (hl.keep E0.keep) c1 c2 c3 c4) ?_
 rintro _ h1 ⟨X1,cs,s,c,left,A,B,ks,w,ov,rfl,s1,s2,q1,q2,q3,q4,q5,q6,q7,q8,q9⟩
 have m1:=X1.n
 have kg:=X1.kept (by omega) g0
 have b1:=s1.cells
 have b2:=s1.cok
 have b3:=s2.cells
 have b4:=s2.cok
 obtain⟨H2,hH2,n2,E2,g2⟩:=boxed h1 [.slice none 0 0,.slice none 0 0,KI 0] [blkV ks people.length,w,KI left]
 simp -dsimp (maxSteps:=1000000) (disch:=try exact dx) only[wpS,wpT,Nat.reduceEqDiff,Nat.reduceLeDiff,Nat.reduceAdd,zc33,st33,ld33,b2,b4]
 rw[←hH2]
 clear hH2
 have kg2:=E2.kept (by omega) kg
 simp -dsimp (maxSteps:=1000000) (disch:=try exact dx) only[wpS,wpT,Nat.reduceEqDiff,Nat.reduceLeDiff,Nat.reduceAdd,ld33,b2,b4,kg,tk3r]
 refine⟨(E0.trans (X1.trans E2)).put (by omega) _,cs,s,A,B,left,_,_,rfl,(s1.keep E2.keep).keep ((Ext.refl H2).keep.put kg2 _),?_,⟨⟨q5,q6⟩,⟨q3,q4⟩,q1,q7,q8,by omega⟩⟩
 have e:(tiedL cs B).map KI=B.map fun i=>KN (cs.getD i noClaim).at_:=by unfold tiedL;rw[List.map_map];rfl
 rw[e]
 exact(s2.keep E2.keep).keep ((Ext.refl H2).keep.put kg2 _)
theorem sum_getD_le : ∀(l:List Int),(∀x∈l,0≤x) → ∀i,l.getD i 0≤l.sum
 | [],_,i=>by simp
 | a :: l,h,i=>by
  have h1:=h a List.mem_cons_self
  have h2:=sum_nonneg l fun y hy=>h y (List.mem_cons_of_mem _ hy)
  cases i with
  | zero=>rw[List.getD_cons_zero,List.sum_cons];omega
  | succ i =>
   have:=sum_getD_le l (fun y hy=>h y (List.mem_cons_of_mem _ hy)) i
   rw[List.getD_cons_succ,List.sum_cons];omega
theorem Award.get {m seats:Nat} {people low:List Int} {cs:List Claim} {s:Nat→Nat} {A:List Int} {B:List Nat} {left:Nat} (a:Award m seats people low cs s A B left) (l0 : ∀x∈low,0≤x) {j:Nat} (hj:j<people.length):0≤low.getD j 0∧low.getD j 0≤A.getD j 0:=by
 have g:=getD_nonneg l0 j
 by_cases c:0<people.getD j 0
 ·obtain⟨i,hi,rfl⟩:=a.C.find hj c
  have h1:=(a.C.num _ (claim_mem hi)).2
  have h2:=a.S.at_ i hi
  have h3:=a.F.1 i hi
  dsimp only at h3
  omega
 ·rw[a.S.z j (by omega)];omega
theorem Award.pos {m seats:Nat} {people low:List Int} {cs:List Claim} {s:Nat→Nat} {A:List Int} {B:List Nat} {left:Nat} (a:Award m seats people low cs s A B left) (l0 : ∀x∈low,0≤x) : ∀x∈A,0≤x:=by
 intro x hx
 obtain⟨i,hi⟩:=List.getElem?_of_mem hx
 have il:=(List.getElem?_eq_some_iff.1 hi).1
 have:=a.get l0 (j:=i) (by rw[←a.len];exact il)
 rw[show A.getD i 0=x from by rw[List.getD_eq_getElem?_getD,hi];rfl] at this
 omega
theorem Award.le {m seats:Nat} {people low:List Int} {cs:List Claim} {s:Nat→Nat} {A:List Int} {B:List Nat} {left:Nat} (a:Award m seats people low cs s A B left) (l0 : ∀x∈low,0≤x) : ∀x∈A,0≤x∧x≤seats:=by
 intro x hx
 have p:=a.pos l0
 obtain⟨i,hi⟩:=List.getElem?_of_mem hx
 have h1:=sum_getD_le A p i
 rw[show A.getD i 0=x from by rw[List.getD_eq_getElem?_getD,hi];rfl] at h1
 have:=a.sum
 exact⟨p x hx,by omega⟩
end Go.Id

namespace Go.Id
open Go
theorem keyC_lt {m p:Nat} (hm:11≤m∧m≤15) (hp:1≤p) {s t:Nat} (h:s<t):ltK (keyC m p t) (keyC m p s):=by
 induction h with
 | refl=>exact keyC_falls hm hp s
 | step _ ih=>exact ltK_trans (keyC_falls hm hp _) ih
theorem keyC_le {m p:Nat} (hm:11≤m∧m≤15) (hp:1≤p) {s t:Nat} (h:s≤t) : ¬ltK (keyC m p s) (keyC m p t):=by
 rcases Nat.lt_or_ge s t with h1|h1
 ·exact ltK_asymm (keyC_lt hm hp h1)
 ·rw[show s=t from by omega];exact ltK_irr _
theorem claim_pos {people low:List Int} {cs:List Claim} (C:ClaimsOf people low cs) {i:Nat} (hi:i<cs.length):(cs.getD i noClaim).at_<people.length∧0<people.getD (cs.getD i noClaim).at_ 0∧1≤(cs.getD i noClaim).p:=by
 have h1:(cs.getD i noClaim).at_∈(List.range people.length).filter (posR people):=by rw[←C.at_];exact List.mem_map.2 ⟨_,claim_mem hi,rfl⟩
 rw[List.mem_filter,List.mem_range] at h1
 have h2:0<people.getD (cs.getD i noClaim).at_ 0:=by simpa [posR] using h1.2
 have:=(C.num _ (claim_mem hi)).1
 exact⟨h1.1,h2,by omega⟩
def Weak (m:Nat) (cs:List Claim) (s:Nat→Nat):Prop:=∀i j,i<cs.length→j<cs.length→(cs.getD i noClaim).s<s i → ¬ltK (keyC m (cs.getD i noClaim).p (s i - 1)) (keyC m (cs.getD j noClaim).p (s j))
theorem Award.weak {m seats:Nat} {people low:List Int} {cs:List Claim} {s:Nat→Nat} {A:List Int} {B:List Nat} {left:Nat} (a:Award m seats people low cs s A B left) (hm:11≤m∧m≤15) {C:List Nat} (hC : ∀x∈C,x∈B):Weak m cs (given s C):=by
 rcases a.T with⟨_,hB⟩|⟨_,_,hB⟩
 ·obtain rfl:C = []:=by
   cases C with
   | nil=>rfl
   | cons x l=>have:=hC x List.mem_cons_self;rw[hB] at this;cases this
  rw[given_nil]
  exact fun i j hi hj h=>ltK_asymm (a.F.2 i j hi hj h)
 ·exact fair_some hm (fun i hi=>(claim_pos a.C hi).2.2) a.F (hB▸best_ok _ _) hC
theorem two_certs {m:Nat} {people low W O:List Int} (hm:11≤m∧m≤15) (RW:RegsOK (regsOf people W low people.length)) (RO:RegsOK (regsOf people O low people.length)) (cW:certB m (regsOf people W low people.length)=true) (cO:certB m (regsOf people O low people.length)=true)
  {i j:Nat} (hi:i<people.length) (hj:j<people.length) (gi:W.getD i 0<O.getD i 0) (gj:O.getD j 0<W.getD j 0) :
  (0<people.getD i 0∧0<people.getD j 0)∧O.getD i 0=W.getD i 0+1∧O.getD j 0=W.getD j 0 - 1∧cmpRank m (people.getD i 0).toNat (O.getD i 0 - 1).toNat (people.getD j 0).toNat (O.getD j 0).toNat=0:=by
 obtain⟨w1,w2⟩:=(certB_iff RW (by omega)).1 cW
 obtain⟨o1,o2⟩:=(certB_iff RO (by omega)).1 cO
 have rWi:(people.getD i 0,W.getD i 0,low.getD i 0)∈regsOf people W low people.length:=List.mem_map.2 ⟨i,List.mem_range.2 hi,rfl⟩
 have rWj:(people.getD j 0,W.getD j 0,low.getD j 0)∈regsOf people W low people.length:=List.mem_map.2 ⟨j,List.mem_range.2 hj,rfl⟩
 have rOi:(people.getD i 0,O.getD i 0,low.getD i 0)∈regsOf people O low people.length:=List.mem_map.2 ⟨i,List.mem_range.2 hi,rfl⟩
 have rOj:(people.getD j 0,O.getD j 0,low.getD j 0)∈regsOf people O low people.length:=List.mem_map.2 ⟨j,List.mem_range.2 hj,rfl⟩
 have bWi:=RW.b _ rWi
 have bWj:=RW.b _ rWj
 have bOi:=RO.b _ rOi
 have bOj:=RO.b _ rOj
 dsimp only at bWi bWj bOi bOj
 have pi:0<people.getD i 0:=by
  rcases o1 _ rOi with h|h
  ·exact h
  ·dsimp only at h;omega
 have pj:0<people.getD j 0:=by
  rcases w1 _ rWj with h|h
  ·exact h
  ·dsimp only at h;omega
 have a1:=o2 _ (lastS_mem.2 ⟨_,rOi,⟨pi,by dsimp only;omega⟩,rfl⟩) _ (nextS_mem.2 ⟨_,rOj,pj,rfl⟩)
 have a2:=w2 _ (lastS_mem.2 ⟨_,rWj,⟨pj,by dsimp only;omega⟩,rfl⟩) _ (nextS_mem.2 ⟨_,rWi,pi,rfl⟩)
 unfold keyS at a1 a2
 dsimp only at a1 a2
 rw[Int.toNat_natCast] at a1 a2
 have a1 : ¬ltK (keyC m (people.getD i 0).toNat (O.getD i 0 - 1).toNat) (keyC m (people.getD j 0).toNat (O.getD j 0).toNat):=a1
 have a2 : ¬ltK (keyC m (people.getD j 0).toNat (W.getD j 0 - 1).toNat) (keyC m (people.getD i 0).toNat (W.getD i 0).toNat):=a2
 have ki:=fun {s t:Nat} (h:s≤t)=>keyC_le (m:=m) (p:=(people.getD i 0).toNat) hm (by omega) h
 have kj:=fun {s t:Nat} (h:s≤t)=>keyC_le (m:=m) (p:=(people.getD j 0).toNat) hm (by omega) h
 have li:=fun {s t:Nat} (h:s<t)=>keyC_lt (m:=m) (p:=(people.getD i 0).toNat) hm (by omega) h
 have lj:=fun {s t:Nat} (h:s<t)=>keyC_lt (m:=m) (p:=(people.getD j 0).toNat) hm (by omega) h
 have e1:O.getD i 0=W.getD i 0+1:=by
  refine Classical.byContradiction fun hne=>a1 ?_
  have h1:=li (s:=(W.getD i 0).toNat) (t:=(O.getD i 0 - 1).toNat) (by omega)
  have h2:=ltK_of_lt_not h1 a2
  exact ltK_of_lt_not h2 (kj (by omega))
 have e2:O.getD j 0=W.getD j 0 - 1:=by
  refine Classical.byContradiction fun hne=>a1 ?_
  have h1:=lj (s:=(O.getD j 0).toNat) (t:=(W.getD j 0 - 1).toNat) (by omega)
  have h2:=ltK_of_not_lt a2 h1
  exact ltK_of_not_lt (ki (by omega)) h2
 refine⟨⟨pi,pj⟩,e1,e2,?_⟩
 have a3 : ¬ltK (keyC m (people.getD j 0).toNat (O.getD j 0).toNat) (keyC m (people.getD i 0).toNat (O.getD i 0 - 1).toNat):=by
  rw[show(O.getD j 0).toNat=(W.getD j 0 - 1).toNat from by omega,show(O.getD i 0 - 1).toNat=(W.getD i 0).toNat from by omega]
  exact a2
 rw[←cmpRank_neg] at a1
 rw[←cmpRank_pos] at a3
 omega
end Go.Id

namespace Go.Id
open Go
abbrev roomV (k n N:Nat):Value:=.slice (some ⟨2*k,0,none⟩) n (2*N)
theorem roomV_roomy {h:IH} {k n N:Nat} {cs:List Value} {f:Option Nat} (g:h.ext.get k=some (.cells cs 1 f)):roomy h 1 (roomV k n N)=true:=by simp[roomy,g]
theorem two_half (N:Nat):2*N / 2=N:=by omega
theorem room_hi {P:Program} {t e:TypeId} (hu:P.underlying t=some (.slice e)) (hT:sizeT P e=some 1) {h:IH} {k n N i:Nat} {cs:List Value} {f:Option Nat} {kd:IntKind} (g:h.ext.get k=some (.cells cs 1 f)) (hi:i≤N) (hN:0<N) :
  sliceOp P h t (roomV k n N) none (some (.int kd (i:Int))) none=some (roomV k i N):=by
 have b0:hiOf (some (.int kd (i:Int))) n (2*N / 2)=some i:=natOf_nat (k:=kd) (by omega)
 have c1:(2*N == 0)=false:=by simp;omega
 have c2:((0:Nat) == 2*N / 2)=false:=by rw[two_half];simp;omega
 have hr:=roomV_roomy (n:=n) (N:=N) g
 simp only[sliceOp,hu,hT,resliced,boundsOf,b0,loOf,hr,c1,c2,cond_true,cond_false,Bool.or_true,Nat.zero_mul,Nat.mul_zero,Nat.sub_zero,Nat.zero_add]
theorem room_lo {P:Program} {t e:TypeId} (hu:P.underlying t=some (.slice e)) (hT:sizeT P e=some 1) {h:IH} {k n N j:Nat} {cs:List Value} {f:Option Nat} {kd:IntKind} (g:h.ext.get k=some (.cells cs 1 f)) (hj:j≤n) (hn:n≤N) (hN:0<N) :
  sliceOp P h t (roomV k n N) (some (.int kd (j:Int))) none none=some (if j=N then .slice (some ⟨2*k,0,none⟩) 0 0 else .slice (some ⟨2*k,j,none⟩) (n - j) (2*N - 2*j)):=by
 have b0:loOf (some (.int kd (j:Int))) n=some j:=natOf_nat (k:=kd) (by omega)
 have c1:(2*N == 0)=false:=by simp;omega
 have c3:(2*N % 2 == 1)=false:=by simp
 have hr:=roomV_roomy (n:=n) (N:=N) g
 by_cases c:j=N
 ·have c2:(j == 2*N / 2)=true:=by rw[two_half];simp[c]
  simp only[sliceOp,hu,hT,resliced,boundsOf,b0,hiOf,c1,c2,c3,cond_true,cond_false,if_pos c]
 ·have c2:(j == 2*N / 2)=false:=by rw[two_half];simpa using c
  simp only[sliceOp,hu,hT,resliced,boundsOf,b0,hiOf,hr,c1,c2,cond_true,cond_false,Bool.or_true,if_neg c,Nat.mul_one,Nat.zero_add]
theorem room_lohi {P:Program} {t e:TypeId} (hu:P.underlying t=some (.slice e)) (hT:sizeT P e=some 1) {h:IH} {k n N j m:Nat} {cs:List Value} {f:Option Nat} {kd kd2:IntKind} (g:h.ext.get k=some (.cells cs 1 f)) (hj:j<m) (hm:m≤N) :
  sliceOp P h t (roomV k n N) (some (.int kd (j:Int))) (some (.int kd2 (m:Int))) none=some (.slice (some ⟨2*k,j,none⟩) (m - j) (2*N - 2*j)):=by
 have b0:loOf (some (.int kd (j:Int))) m=some j:=natOf_nat (k:=kd) (by omega)
 have b1:hiOf (some (.int kd2 (m:Int))) n (2*N / 2)=some m:=natOf_nat (k:=kd2) (by omega)
 have c1:(2*N == 0)=false:=by simp;omega
 have hr:=roomV_roomy (n:=n) (N:=N) g
 have c2:(j == 2*N / 2)=false:=by rw[two_half];simp;omega
 simp only[sliceOp,hu,hT,resliced,boundsOf,b0,b1,hr,c1,c2,cond_true,cond_false,Bool.or_true,Nat.mul_one,Nat.zero_add]
theorem room_three {P:Program} {t e:TypeId} (hu:P.underlying t=some (.slice e)) (hT:sizeT P e=some 1) {h:IH} {k n N i j:Nat} {k1 k2 k3:IntKind} (hi:i≤j) (hj:j≤n) (hn:n≤N) (hN:0<N) :
  ∃v,sliceOp P h t (roomV k n N) (some (.int k1 (i:Int))) (some (.int k2 (j:Int))) (some (.int k3 (n:Int)))=some v:=by
 have b0:loOf (some (.int k1 (i:Int))) j=some i:=natOf_nat (k:=k1) (by omega)
 have b1:natOf (.int k2 (j:Int)) n=some j:=natOf_nat (by omega)
 have b2:natOf (.int k3 (n:Int)) (2*N / 2)=some n:=natOf_nat (by omega)
 have c1:(2*N == 0)=false:=by simp;omega
 simp only[sliceOp,hu,hT,resliced,boundsOf,b0,b1,b2,c1,cond_false]
 by_cases c:i=n
 ·have:(i == n)=true:=by simpa using c
  simp only[this,cond_true];exact⟨_,rfl⟩
 ·have:(i == n)=false:=by simpa using c
  simp only[this,cond_false];exact⟨_,rfl⟩
theorem room_del {P:Program} {t:TypeId} {bytes:Nat} (hT:appT P t=some (1,bytes)) {h:IH} {k n N i:Nat} {cs tl:List Value} (g:h.ext.get k=some (.cells (cs ++ tl) 1 none)) (hl:cs.length=n) (hN:n+tl.length=N) (hi:i<n) (hc:cs.all cellOK=true) (hsz:n*(bytes+1)≤1099511627776) :
  append P h t (roomV k i N) (if i+1=N then .slice (some ⟨2*k,0,none⟩) 0 0 else .slice (some ⟨2*k,i+1,none⟩) (n - (i+1)) (2*N - 2*(i+1)))=some (roomV k (n - 1) N,if i+1=n then h else h.put k (.cells (cs.eraseIdx i ++ cs.drop (n - 1) ++ tl) 1 none)):=by
 unfold appT at hT
 split at hT
 case h_2=>cases hT
 rename_i e hu
 split at hT
 case h_2=>cases hT
 rename_i zs z1 z2 z3
 simp only[cond_eq_ite] at hT
 split at hT
 case isTrue=>cases hT
 rename_i hbad
 cases hT
 have hbad':((1:Nat) == 0 || (!(Nat.ble bytes 65536) || !(zs.length == 1)))=false:=by simpa using hbad
 by_cases c:i+1=n
 ·rw[if_pos c]
  have e1:n - 1=i:=by omega
  by_cases d:i+1=N
  ·rw[if_pos d]
   simp only[append,hu,z1,z2,z3,lenOf,beq_self_eq_true,cond_true,e1]
  ·rw[if_neg d]
   have e0:n - (i+1)=0:=by omega
   simp only[append,hu,z1,z2,z3,lenOf,e0,beq_self_eq_true,cond_true,e1]
 ·rw[if_neg c,if_neg (by omega)]
  have k1:(2*k % 2 == 1)=false:=by simp
  have k2:2*k / 2=k:=by omega
  have q0:(n - (i+1) == 0)=false:=by simp;omega
  have q1:Nat.ble (n - (i+1)) (n - (i+1))=true:=Nat.ble_eq_true_of_le (Nat.le_refl _)
  have q2:((n - (i+1))*1 == 0)=false:=by simp;omega
  have hrow:h.row (2*k)=some (cs ++ tl):=by rw[row_even];simp[IH.cells,g]
  have q3:Nat.ble (i+1+(n - (i+1))) (cs ++ tl).length=true:=Nat.ble_eq_true_of_le (by rw[List.length_append];omega)
  have hd:((cs ++ tl).drop (i+1)).take (n - (i+1))=cs.drop (i+1):=by
   rw[List.drop_append_of_le_length (by omega),List.take_append_of_le_length (by rw[List.length_drop];omega),List.take_of_length_le (by rw[List.length_drop];omega)]
  have hrd:h.rd (2*k) (i+1) ((n - (i+1))*1)=some (cs.drop (i+1)):=by
   simp only[IH.rd,hrow,Nat.mul_one,q3,cond_true,hd]
  have q4:(cs.drop (i+1)).all cellOK=true:=List.all_eq_true.2 fun x hx=>List.all_eq_true.1 hc x (List.mem_of_mem_drop hx)
  have q5:Nat.ble ((i+(n - (i+1)))*(bytes+1)) sizeMost=true:=Nat.ble_eq_true_of_le (Nat.le_trans (Nat.mul_le_mul_right _ (by omega)) hsz)
  have q6:Nat.ble (i+(n - (i+1))) (2*N / 2)=true:=Nat.ble_eq_true_of_le (by omega)
  have q7:Nat.ble (0+i*1+(cs.drop (i+1)).length) (cs ++ tl).length=true:=Nat.ble_eq_true_of_le (by rw[List.length_append,List.length_drop];omega)
  have sp:IH.splice (cs ++ tl) (0+i*1) (cs.drop (i+1))=cs.eraseIdx i ++ cs.drop (n - 1) ++ tl:=by
   unfold IH.splice
   rw[Nat.zero_add,Nat.mul_one,List.take_append_of_le_length (by omega),List.length_drop,show i+(cs.length - (i+1))=n - 1 from by omega,List.drop_append_of_le_length (by omega),List.eraseIdx_eq_take_drop_succ,List.append_assoc,List.append_assoc]
  have hw:h.wr (2*k) (0+i*1) (cs.drop (i+1))=some (h.put k (.cells (cs.eraseIdx i ++ cs.drop (n - 1) ++ tl) 1 none)):=by
   simp only[IH.wr,k1,k2,g,q7,sp,cond_true,cond_false];rfl
  simp only[append,hu,z1,z2,z3,lenOf,q0,hbad',firstOf,q1,q2,hrd,q4,q5,q6,hw,cond_true,cond_false,Bool.not_true,Option.map_some]
  rw[show i+(n - (i+1))=n - 1 from by omega]
theorem clear_one {P:Program} {t e:TypeId} (hu:P.underlying t=some (.slice e)) {z:Value} (hz:zeroCellsT P e=some [z]) (oz:cellOK z=true) {h:IH} {k o c:Nat} {cs:List Value} {ts:Array TypeId} (ht:ts[0]?=some t) (g:h.ext.get k=some (.cells cs 1 none)) (ho:o<cs.length) :
  builtin P h .clear ts [.slice (some ⟨2*k,o,none⟩) 1 c]=some (.tuple #[],h.put k (.cells (cs.set o z) 1 none)):=by
 have k1:(2*k % 2 == 1)=false:=by simp
 have k2:2*k / 2=k:=by omega
 have q1:((1:Nat) == 0)=false:=rfl
 have q2:([z].isEmpty || !([z].all cellOK))=false:=by simp[oz]
 have q3:Nat.ble (o+(repl 1 [z]).length) cs.length=true:=Nat.ble_eq_true_of_le (by simp[repl];omega)
 have sp:IH.splice cs o (repl 1 [z])=cs.set o z:=by
  rw[show repl 1 [z] = [z] from rfl]
  unfold IH.splice
  rw[List.set_eq_take_append_cons_drop,if_pos ho];rfl
 simp only[builtin,ht,clearOp,hu,hz,q1,q2,IH.wr,k1,k2,g,q3,sp,cond_true,cond_false,Option.map_some]
 rfl
end Go.Id

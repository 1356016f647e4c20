/-
  Contracts: slices.Delete of one element; package quota: sound, Settle. The statement BracketDivides, on the ideal machine.
-/
import Derived.Test.YthpefnfbnaekaaaGreatBracketTwoAr
import Derived.Test.YthpefnfbnaekaaaGreatBracketTwoBq
import Derived.Test.YthpefnfbnaekaaaGreatBracketTwoBu
import Derived.Test.YthpefnfbnaekaaaGreatBracketTwoBo
set_option linter.unusedVariables false
set_option linter.unusedSimpArgs false
set_option linter.defProp false
set_option linter.deprecated false
namespace Go.Id
open Go
open Go.Proofs.Tryz (prog)
open Nat (reduceAdd reduceEqDiff reduceLeDiff reduceMul)
set_option maxHeartbeats 16000000
theorem set_at_len (a:List Value) (x y:Value) (b:List Value):(a ++ x :: b).set a.length y=a ++ y :: b:=by simp
theorem deleteI_ok {h:IH} {k n N i:Nat} {cs tl:List Value} (g:h.ext.get k=some (.cells (cs ++ tl) 1 none)) (hl:cs.length=n) (hN:n+tl.length=N) (hi:i<n) (hc:cs.all cellOK=true) (hn:n≤1000000) :
  WV prog (.func (.func 70) #[] #[]) [roomV k n N,KN i,KN (i+1)] h fun r h'=>r=roomV k (n - 1) N∧Mem k h h'∧h'.n=h.n∧h'.ext.get k=some (.cells (cs.eraseIdx i ++ KI 0 :: tl) 1 none):=by
 obtain⟨v3,h3⟩:=room_three (P:=prog) (t:=29) u29 sz3 (h:=h) (k:=k) (n:=n) (N:=N) (i:=i) (j:=i+1) (k1:=.i64) (k2:=.i64) (k3:=.i64) (by omega) (by omega) (by omega) (by omega)
 have s1:=room_hi (P:=prog) (t:=29) u29 sz3 (n:=n) (N:=N) (i:=i) (kd:=.i64) g (by omega) (by omega)
 have s2:=room_lo (P:=prog) (t:=29) u29 sz3 (n:=n) (N:=N) (j:=i+1) (kd:=.i64) g (by omega) (by omega) (by omega)
 have ap:=room_del (P:=prog) (t:=29) ap29 g hl hN hi hc (by omega)
 have ne:((i:Int) == ((i+1:Nat):Int))=false:=by simp;omega
 refine enter (nt:=33) (rs:=[.tmp 6]) Proofs.Tryz.func70 rfl rfl rfl (by simp) ?_
 simp -dsimp (maxSteps:=1000000) (disch:=try exact dx) only[wpS,reduceEqDiff,reduceAdd,ln29,ba29_29,h3,s1,s2,ap,ne]
 obtain⟨H1,hH1⟩ : ∃H,H=(if i+1=n then h else h.put k (.cells (cs.eraseIdx i ++ cs.drop (n - 1) ++ tl) 1 none)):=⟨_,rfl⟩
 obtain⟨last,hlast⟩ : ∃x,cs.drop (n - 1) = [x]:=by
  have:(cs.drop (n - 1)).length=1:=by rw[List.length_drop];omega
  exact List.length_eq_one_iff.1 this
 have le:(cs.eraseIdx i).length=n - 1:=by rw[List.length_eraseIdx,if_pos (by omega)];omega
 have g1:H1.ext.get k=some (.cells (cs.eraseIdx i ++ last :: tl) 1 none):=by
  have e:cs.eraseIdx i ++ cs.drop (n - 1) ++ tl=cs.eraseIdx i ++ last :: tl:=by rw[hlast,List.append_assoc];rfl
  rw[hH1,←e]
  by_cases c:i+1=n
  ·rw[if_pos c,g]
   have e2:cs.eraseIdx i=cs.take (n - 1):=by
    rw[List.eraseIdx_eq_take_drop_succ,show i+1=n from c,List.drop_of_length_le (by omega),List.append_nil,show i=n - 1 from by omega]
   rw[e2,List.take_append_drop]
  ·rw[if_neg c]
   exact get_put_same _ _ rfl
 have M1:Mem k h H1∧H1.n=h.n:=by
  rw[hH1]
  by_cases c:i+1=n
  ·rw[if_pos c];exact⟨Mem.refl k h,rfl⟩
  ·rw[if_neg c];exact⟨(Mem.refl k h).put (.inr rfl) _,rfl⟩
 rw[←hH1]
 clear hH1
 have s3:=room_lohi (P:=prog) (t:=29) u29 sz3 (n:=n - 1) (N:=N) (j:=n - 1) (m:=n) (kd:=.i64) (kd2:=.i64) g1 (by omega) (by omega)
 rw[show n - (n - 1)=1 from by omega] at s3
 have cl:=clear_one (P:=prog) (t:=29) u29 (show zeroCellsT prog 3=some [KI 0] by kernel_rfl) rfl (o:=n - 1) (c:=2*N - 2*(n - 1)) (ts:=#[29]) rfl g1 (by rw[List.length_append,List.length_cons];omega)
 simp -dsimp (maxSteps:=1000000) (disch:=try exact dx) only[wpS,wpT,reduceEqDiff,s3,cl]
 refine⟨M1.1.put (.inr rfl) _,M1.2,?_⟩
 rw[←le,set_at_len]
structure SoundA (A T:List Int) (o:Nat):Prop where
 n:0<A.length∧A.length≤60
 b : ∀x∈A,0≤x∧x≤1000
 t : ∀x∈T,0≤x∧x<A.length
 asc:T.Pairwise (· < ·)
 o:(o=0∧T = [])∨(1≤o∧o<T.length)
theorem soundOut_ok {h:IH} (n:Int):WV prog (.func (.func 110) #[] #[]) [KI n] h fun r h'=>h'=h∧r=.bool (outR 0 1000 n):=by
 refine enter (nt:=9) (rs:=[.tmp 2]) Proofs.Tryz.func110 rfl rfl rfl (by simp) ?_
 by_cases c:n<0
 ·have d:decide (n<0)=true:=decide_eq_true c
  simp -dsimp (maxSteps:=1000000) (disch:=try exact dx) only[wpS,wpT,reduceEqDiff,d]
  simp[outR,d]
 ·have d:decide (n<0)=false:=decide_eq_false c
  simp -dsimp (maxSteps:=1000000) (disch:=try exact dx) only[wpS,wpT,reduceEqDiff,d]
  simp[outR,d]
theorem asc_at {T:List Int} (h:T.Pairwise (· < ·)) {i j:Nat} {x y:Int} (hx:T[i]?=some x) (hy:T[j]?=some y) (hij:i<j):x<y:=by
 have a:=List.getElem?_eq_some_iff.1 hx
 have b:=List.getElem?_eq_some_iff.1 hy
 have:=List.pairwise_iff_getElem.1 h i j a.1 b.1 hij
 rw[a.2,b.2] at this;exact this
theorem sound_ok {h:IH} {v w:Value} {A T:List Int} {o:Nat} (hv:SlOf h 1 v A.length (A.map KI)) (hw:SlOf h 1 w T.length (T.map KI)) (s:SoundA A T o) (lt:T.length≤60) :
  WV prog (.func (.func 66) #[] #[]) [.agg #[v,w,KI o]] h fun r h'=>Ext h h'∧r=.bool true:=by
 obtain⟨sn,sb,st,sa,so⟩:=s
 refine enter (nt:=58) (rs:=[.tmp 2]) Proofs.Tryz.func66 rfl rfl rfl (by simp) ?_
 simp -dsimp (maxSteps:=1000000) (disch:=try exact dx) only[wpS,reduceEqDiff,fa33_0,ld29]
 obtain⟨H0,hH0,n0,E0,g0⟩:=boxed1 h [v,w,KI o]
 rw[←hH0]
 clear hH0
 have V0:=(hv.keep E0.keep).now
 have W0:=(hw.keep E0.keep).now
 have c0:((A.length:Int) == 0)=false:=by rw[beq_eq_false_iff_ne];omega
 simp -dsimp (maxSteps:=1000000) (disch:=try exact dx) only[wpS,wpT,reduceEqDiff,fa33_0,ld29,row_of g0,V0.len sl29,c0]
 refine call (containsFunc_ok (outR 0 1000) V0 (by omega) (fun x hx=>soundOut_ok x)) ?_
 rintro _ h1 ⟨rfl,rfl⟩
 have ia:A.any (outR 0 1000)=false:=by
  have:=(inR_iff (lo:=0) (hi:=1000)).2 sb
  unfold inR at this
  rwa [Bool.not_eq_true'] at this
 rw[ia]
 simp -dsimp (maxSteps:=1000000) (disch:=try exact dx) only[wpS,reduceEqDiff,ld29,fa33_1,row_of g0,W0.len sl29]
 refine loop (fun mm fr g=>g=h1 ∧ ∃(i:Nat) (la:Int),i+mm=T.length ∧ -1≤la∧(∀j x,i≤j→T[j]?=some x→la<x)∧fget fr 1=some (ptr (2*h.n) 0)∧fget fr 3=some (KI la)∧fget fr 22=some w∧fget fr 23=some (KN T.length)∧fget fr 24=some (KN i)) T.length
  ⟨rfl,0,-1,by omega,by omega,fun j x _ hx=>by have:=st x (List.mem_of_getElem? hx);omega,by simp,by simp,by simp,by simp,by simp⟩ ?_
 rintro mm fr _ ⟨rfl,i,la,him,hla,hlt,f1,f3,f22,f23,f24⟩
 by_cases ci:i<T.length
 ·obtain⟨x,hx⟩ : ∃x,T[i]?=some x:=⟨_,List.getElem?_eq_getElem ci⟩
  have xb:=st x (List.mem_of_getElem? hx)
  have xl:=hlt i x (Nat.le_refl _) hx
  have lX:=W0.ld (P:=prog) (t:=3) (c:=i) (by rw[List.length_map];omega) ag3
  rw[List.getElem?_map,hx,Option.map_some] at lX
  have d1:decide (x≤la)=false:=decide_eq_false (by omega)
  have d2:decide ((A.length:Int)≤x)=false:=decide_eq_false (by omega)
  have e2:IntKind.i64.wrap ((i:Int)+1)=((i+1:Nat):Int):=by rw[wrap_i64 (by omega)];omega
  simp -dsimp (maxSteps:=1000000) (disch:=try exact dx) only[wpS,wpT,reduceEqDiff,fa33_0,ld29,f1,f3,f22,f23,f24,W0.idx es29 ci,lX,row_of g0,V0.len sl29,d1,d2,e2]
  exact⟨mm - 1,by omega,rfl,i+1,x,by omega,by omega,fun j y hj hy=>asc_at sa hx hy (by omega),by simp[f1],by simp,by simp[f22],by simp[f23],by simp⟩
 ·simp -dsimp (maxSteps:=1000000) (disch:=try exact dx) only[wpS,wpT,reduceEqDiff,ld29,fa33_1,f1,f23,f24,row_of g0,W0.len sl29]
  rcases so with⟨rfl,rfl⟩|⟨o1,o2⟩
  ·simp -dsimp (maxSteps:=1000000) (disch:=try exact dx) only[wpS,wpT,reduceEqDiff,ld3,fa33_2,f1,row_of g0]
   exact E0
  ·have c1:((T.length:Int) == 0)=false:=by rw[beq_eq_false_iff_ne];omega
   have d1:decide ((1:Int)≤(o:Int))=true:=decide_eq_true (by omega)
   have d2:decide ((o:Int)<(T.length:Int))=true:=decide_eq_true (by omega)
   simp -dsimp (maxSteps:=1000000) (disch:=try exact dx) only[wpS,wpT,reduceEqDiff,ld29,fa33_1,ld3,fa33_2,f1,row_of g0,W0.len sl29,c1,d1,d2]
   exact E0
theorem append_zero0 {P:Program} {t:TypeId} {sz bytes:Nat} (hT:appT P t=some (sz,bytes)) (h:IH) {x:Value} (hx:lenOf x=some 0) (b o n c:Nat):append P h t (.slice (some ⟨b,o,none⟩) n c) x=some (.slice (some ⟨b,o,none⟩) n c,h):=by
 unfold appT at hT
 split at hT
 case h_2=>cases hT
 rename_i e hu
 split at hT
 case h_2=>cases hT
 rename_i zs z1 z2 z3
 simp only[append,hu,z1,z2,z3,hx,beq_self_eq_true,cond_true]
theorem cloneI0_ok {h:IH} {v:Value} (hs:SlOf h 1 v 0 []):WV prog (.func (.func 31) #[] #[]) [v] h fun r h'=>Ext h h'∧SlOf h' 1 r 0 []:=by
 obtain⟨hz,hl,⟨rfl,_⟩|⟨b,o,k,rfl,hh⟩⟩:=hs
 ·refine enter (nt:=8) (rs:=[.tmp 2]) Proofs.Tryz.func31 rfl rfl rfl (by simp) ?_
  simp -dsimp (maxSteps:=1000000) (disch:=try exact dx) only[wpS,wpT,reduceEqDiff,reduceMul,bs29,nil_eq_none u29]
  exact⟨Ext.refl _,SlOf.nil _ (by omega)⟩
 ·have hk:Ext h (h.new (.cells [] 1 none)):=(Ext.refl h).new _
  have ap:=append_zero0 (P:=prog) (t:=29) ap29 (h.new (.cells [] 1 none)) (x:=.slice (some ⟨b,o,none⟩) 0 k) rfl (2*h.n) 0 0 1
  refine enter (nt:=8) (rs:=[.tmp 2]) Proofs.Tryz.func31 rfl rfl rfl (by simp) ?_
  simp -dsimp (maxSteps:=1000000) (disch:=try exact dx) only[wpS,wpT,reduceEqDiff,reduceMul,bs29,ba29_29,nil_eq_some u29,ap]
  exact⟨hk,sl_block (get_new_same _ _ rfl) (by simp) (by omega) rfl (by omega) (by omega)⟩
def LeftAt (g:IH) (kt:Nat) (tv:Value) (L:List Int) (N:Nat):Prop :=
 (N=0∧L = []∧SlOf g 1 tv 0 [])∨(0<N∧kt<g.n ∧ ∃tl,tv=roomV kt L.length N∧g.ext.get kt=some (.cells (L.map KI ++ tl) 1 none)∧L.length+tl.length=N)
theorem LeftAt.sl {g:IH} {kt:Nat} {tv:Value} {L:List Int} {N:Nat} (l:LeftAt g kt tv L N):SlOf g 1 tv L.length (L.map KI):=by
 rcases l with⟨_,rfl,s⟩|⟨hN,hk,tl,rfl,g1,hl⟩
 ·exact s
 ·refine⟨by omega,by simp,.inr ⟨2*kt,0,2*N,rfl,.inr ⟨by omega,by omega,L.map KI ++ tl,.inr ⟨by omega,by omega,none,?_⟩,?_,?_,?_⟩⟩⟩
  ·rw[show 2*kt / 2=kt from by omega,g1]
  ·rw[row_even];simp[IH.cells,g1]
  ·rw[List.drop_zero,Nat.mul_one,List.take_append_of_le_length (by simp),List.take_of_length_le (by simp)]
  ·rw[List.length_append,List.length_map];omega
theorem tied_idx {cs:List Claim} {B:List Nat} (h : ∀x∈B,∀y∈B,(cs.getD x noClaim).at_=(cs.getD y noClaim).at_→x=y) {p:Nat→Bool} {n:Int} {i:Nat} (hi:idxI n (tiedL cs (B.filter p))=some i) (nd:B.Nodup) :
  ∃b,b∈B∧p b=true∧n=(cs.getD b noClaim).at_∧(tiedL cs (B.filter p)).eraseIdx i=tiedL cs (B.filter fun x=>p x && !(x == b)):=by
 obtain⟨F,hF⟩ : ∃F,F=B.filter p:=⟨_,rfl⟩
 have g:=idxI_get hi
 rw[←hF] at g ⊢
 unfold tiedL at g
 rw[List.getElem?_map] at g
 obtain⟨b,hb,rfl⟩:=Option.map_eq_some_iff.1 g
 have bm:b∈F:=List.mem_of_getElem? hb
 rw[hF,List.mem_filter] at bm
 refine⟨b,bm.1,bm.2,rfl,?_⟩
 have e:B.filter (fun x=>p x && !(x == b))=F.filter (fun x => !(x == b)):=by
  rw[hF,List.filter_filter]
  refine List.filter_congr fun x _=>?_
  rw[Bool.and_comm]
 rw[e]
 unfold tiedL
 have nF:F.Nodup:=by rw[hF];exact nd.filter _
 clear hF e bm g hi
 induction F generalizing i with
 | nil=>simp at hb
 | cons a F ih =>
  obtain⟨n1,n2⟩:=List.nodup_cons.1 nF
  cases i with
  | zero =>
   simp at hb;subst hb
   rw[List.map_cons,List.eraseIdx_cons_zero,List.filter_cons_of_neg (by simp),List.filter_eq_self.2 fun x hx=>by simp;rintro rfl;exact n1 hx]
  | succ i =>
   have hb:F[i]?=some b:=by simpa using hb
   have hne:a≠b:=by rintro rfl;exact n1 (List.mem_of_getElem? hb)
   rw[List.map_cons,List.eraseIdx_cons_succ,List.filter_cons_of_pos (by simpa using hne),List.map_cons,ih hb n2]
theorem settleOut_ok {h:IH} {b:Nat} {v w:Value} {A:List Int} {o:Nat} (g:h.ext.get b=some (.cells [v,w,KI o] 0 none)) (hv:SlOf h 1 v A.length (A.map KI)) (n:Int) :
  WV prog (.func (.func 68) #[] #[ptr (2*b) 0]) [KI n] h fun r h'=>h'=h∧r=.bool (decide (n<0) || decide ((A.length:Int)≤n)):=by
 refine enter (nt:=13) (rs:=[.tmp 3]) Proofs.Tryz.func68 rfl rfl rfl (by simp) ?_
 by_cases c:n<0
 ·have d:decide (n<0)=true:=decide_eq_true c
  simp -dsimp (maxSteps:=1000000) (disch:=try exact dx) only[wpS,wpT,reduceEqDiff,reduceAdd,d]
  simp
 ·have d:decide (n<0)=false:=decide_eq_false c
  simp -dsimp (maxSteps:=1000000) (disch:=try exact dx) only[wpS,wpT,reduceEqDiff,reduceAdd,fa33_0,ld29,d,row_of g,hv.now.len sl29]
  simp
theorem map_erase : ∀(L:List Int) (i:Nat),(L.map KI).eraseIdx i=(L.eraseIdx i).map KI
 | [],_=>rfl
 | a :: L,0=>rfl
 | a :: L,i+1=>by rw[List.map_cons,List.eraseIdx_cons_succ,List.eraseIdx_cons_succ,List.map_cons,map_erase L i]
theorem nodup_le : ∀{B C:List Nat},B.Nodup→(∀x∈B,x∈C)→B.length≤C.length
 | [],_,_,_=>Nat.zero_le _
 | b :: B,C,h,hs=>by
  obtain⟨n1,n2⟩:=List.nodup_cons.1 h
  have hb:=hs b List.mem_cons_self
  have ih:=nodup_le (C:=C.erase b) n2 fun x hx=>(List.mem_erase_of_ne (by rintro rfl;exact n1 hx)).2 (hs x (List.mem_cons_of_mem _ hx))
  rw[List.length_erase_of_mem hb] at ih
  have:=List.length_pos_of_mem hb
  rw[List.length_cons];omega
structure StX (H g:IH) (m:Nat) (people low:List Int) (cs:List Claim) (s:Nat→Nat) (A:List Int) (B:List Nat) (left:Nat) (ks kt:Nat) (order:List Int) (i:Nat) (W:List Int) (C:List Nat):Prop where
 n:H.n≤g.n
 gs:g.ext.get ks=some (.cells (W.map KI) 1 none)
 len:W.length=people.length
 st:Seats people low W cs (given s C)
 sub : ∀x∈C,x∈B
 nod:C.Nodup
 few:C.length≤left
 all:C.length<left → ∀b∈B,((cs.getD b noClaim).at_:Int)∈order.take i→b∈C
 sum:W.sum=A.sum+C.length
set_option maxRecDepth 20000 in
theorem settle_ok {h:IH} {v w vo:Value} {m seats:Nat} {people low:List Int} {cs:List Claim} {s:Nat→Nat} {A:List Int} {B:List Nat} {left:Nat} {order:List Int} (a:Award m seats people low cs s A B left) (l0 : ∀x∈low,0≤x) (hs:seats≤1000) (np:0<people.length∧people.length≤60)
  (hv:SlOf h 1 v people.length (A.map KI)) (hw:SlOf h 1 w B.length ((tiedL cs B).map KI)) (ho:SlOf h 1 vo order.length (order.map KI)) (lo:order.length≤60) (hr : ∀x∈order,0≤x∧x<people.length) (hc:left=0 ∨ ∀j,j<people.length→(j:Int)∈order) :
  WV prog (.func (.func 30) #[] #[]) [.agg #[v,w,KI left],vo] h fun r h'=>Ext h h' ∧ ∃(v':Value) (W:List Int) (C:List Nat),r=.tuple #[v',KI 0]∧SlOf h' 1 v' people.length (W.map KI)∧W.length=people.length∧Seats people low W cs (given s C)∧(∀x∈C,x∈B)∧W.sum=seats:=by
 have la:=a.len
 have ab:=a.le l0
 have Blt : ∀b∈B,b<cs.length:=by
  rcases a.T with⟨_,h1⟩|⟨_,_,h1⟩
  ·rw[h1];intro b hb;cases hb
  ·rw[h1];exact(best_ok _ _).lt
 have Basc:B.Pairwise (· < ·):=by
  rcases a.T with⟨_,h1⟩|⟨_,_,h1⟩
  ·rw[h1];exact List.Pairwise.nil
  ·rw[h1];exact(best_ok _ _).asc
 have lB:(tiedL cs B).length=B.length:=by unfold tiedL;rw[List.length_map]
 have csl:cs.length≤people.length:=by
  have h1:=congrArg List.length a.C.at_
  rw[List.length_map] at h1
  have h2:=List.length_filter_le (posR people) (List.range people.length)
  rw[List.length_range] at h2
  omega
 have Bl:B.length≤60:=by
  have:=asc_len B 0 cs.length Basc fun y hy=>⟨by omega,Blt y hy⟩
  omega
 have cat : ∀x y,x<y→y<cs.length→(cs.getD x noClaim).at_<(cs.getD y noClaim).at_:=by
  intro x y hxy hy
  have hp:(cs.map Claim.at_).Pairwise (· < ·):=by rw[a.C.at_];exact List.pairwise_lt_range.filter _
  have h:=List.pairwise_iff_getElem.1 hp x y (by rw[List.length_map];omega) (by rw[List.length_map];exact hy) hxy
  rw[List.getElem_map,List.getElem_map] at h
  rw[List.getD_eq_getElem?_getD,List.getD_eq_getElem?_getD,List.getElem?_eq_getElem hy,List.getElem?_eq_getElem (by omega)]
  exact h
 have SA:SoundA A (tiedL cs B) left:=by
  refine⟨by omega,fun x hx=>by have:=ab x hx;omega,fun x hx=>?_,?_,?_⟩
  ·obtain⟨b,hb,rfl⟩:=List.mem_map.1 hx
   have:=(claim_pos a.C (Blt b hb)).1
   omega
  ·unfold tiedL
   rw[List.pairwise_map]
   refine Basc.imp_of_mem fun {x y} hx hy hxy=>?_
   have:=cat x y hxy (Blt y hy)
   omega
  ·rw[lB]
   rcases a.T with⟨h1,h2⟩|⟨h1,h2,_⟩
   ·exact .inl ⟨h1,by rw[h2];rfl⟩
   ·exact .inr ⟨h1,h2⟩
 have lft:left≤1000:=by
  have h1:=sum_nonneg A fun x hx=>(ab x hx).1
  have h2:=a.sum
  omega
 rw[←la] at hv
 rw[←lB] at hw
 refine enter (nt:=60) (rs:=[.tmp 4,.tmp 5]) Proofs.Tryz.func30 rfl rfl rfl (by simp) ?_
 simp -dsimp (maxSteps:=1000000) (disch:=try exact dx) only[wpS,wpT,reduceEqDiff,reduceLeDiff,reduceAdd,ld33]
 obtain⟨H0,hH0,n0,E0,g0⟩:=boxed1 h [v,w,KI left]
 rw[←hH0]
 clear hH0
 have V0:=hv.keep E0.keep
 have W0:=hw.keep E0.keep
 have O0:=ho.keep E0.keep
 refine call (sound_ok V0 W0 SA (by omega)) ?_
 rintro _ h1 ⟨X1,rfl⟩
 have g1:=X1.kept (by omega) g0
 simp -dsimp (maxSteps:=1000000) (disch:=try exact dx) only[wpS,wpT,reduceEqDiff]
 refine call (containsFunc_ok (fun n=>decide (n<0) || decide ((A.length:Int)≤n)) (O0.keep X1.keep).now (by omega) (fun x hx=>settleOut_ok g1 (V0.keep X1.keep) x)) ?_
 rintro _ h2 ⟨e2,rfl⟩
 have io:order.any (fun n=>decide (n<0) || decide ((A.length:Int)≤n))=false:=by
  rw[List.any_eq_false]
  intro x hx
  have:=hr x hx
  simp;omega
 rw[io,e2]
 clear e2 h2
 simp -dsimp (maxSteps:=1000000) (disch:=try exact dx) only[wpS,reduceEqDiff]
 have g1r:=row_of g1
 have l1:load prog h1 29 (ptr (2*h.n) 1)=some w:=ld_cell g1 rfl
 have XX:=Ext.refl h1
 have z1:=X1.n
 refine drawn [(4,[2])] (by kernel_rfl) (by kernel_rfl) rfl ?_
 simp -dsimp (maxSteps:=1000000) (disch:=try exact dx) only[wpS,reduceEqDiff,fa33_0,ld29,g1r]
 refine call (cloneI_ok (V0.keep X1.keep) (by omega) (all_map A) (by omega)) ?_
 rintro _ h2 ⟨X2,ks,ks1,ks2,rfl,gs⟩
 have g2:=X2.kept (by omega) g1
 have z2:=X2.n
 simp -dsimp (maxSteps:=1000000) (disch:=try exact dx) only[wpS,reduceEqDiff,ld29,fa33_1,row_of g2]
 have cl2:WV prog (.func (.func 31) #[] #[]) [w] h2 fun r h'=>Ext h2 h' ∧ ∃kt,h2.n≤kt∧LeftAt h' kt r (tiedL cs B) B.length:=by
  have WW:=(W0.keep X1.keep).keep X2.keep
  rw[lB] at WW
  by_cases c:B.length=0
  ·have e:B = []:=List.length_eq_zero_iff.1 c
   rw[e] at WW ⊢
   refine WV.mono (cloneI0_ok WW) ?_
   rintro r h' ⟨X,s⟩
   exact⟨X,h2.n,Nat.le_refl _,.inl ⟨rfl,rfl,s⟩⟩
  ·refine WV.mono (cloneI_ok WW (by omega) (all_map _) (by omega)) ?_
   rintro r h' ⟨X,j,j1,j2,rfl,gj⟩
   exact⟨X,j,j1,.inr ⟨by omega,j2,[],by rw[lB],by rw[List.append_nil];exact gj,by rw[lB];rfl⟩⟩
 refine call cl2 ?_
 rintro tv h3 ⟨X3,kt,kt1,LA⟩
 clear cl2
 have z3:=X3.n
 have g3:=X3.kept (by omega) g2
 have gs3:=X3.kept (by omega) gs
 simp -dsimp (maxSteps:=1000000) (disch:=try exact dx) only[wpS,reduceEqDiff]
 refine⟨by repeat' first|refine wpSteady_c2 ?_ ?_|refine wpSteady_t2 ?_ ?_|exact wpSteady_one rfl rfl rfl rfl (steady_ext (H0:=h1) rfl (by omega) (by assumption) (by assumption) (by with_reducible assumption)),?_⟩
 have O3:=(O0.keep X1.keep).keep (X2.trans X3).keep
 have ON:=O3.now
 simp -dsimp (maxSteps:=1000000) (disch:=try exact dx) only[wpS,wpT,reduceEqDiff,reduceAdd,fa33_2,ld3,row_of g3,ON.len sl29]
 have Y3:=E0.trans (X1.trans (X2.trans X3))
 have ks0:h.n<ks:=by omega
 have kt0:ks<kt:=by omega
 have f0:B.filter (fun x => !(([]:List Nat).contains x))=B:=List.filter_eq_self.2 fun x _=>by simp
 refine loop (fun mm fr g => ∃(i:Nat) (W:List Int) (C:List Nat) (tv:Value),i+mm=order.length∧Ext h g∧StX h3 g m people low cs s A B left ks kt order i W C∧LeftAt g kt tv (tiedL cs (B.filter fun x => !(C.contains x))) B.length∧fget fr 6=some (blkV ks A.length)∧fget fr 7=some tv∧fget fr 8=some (KN (left - C.length))∧fget fr 28=some vo∧fget fr 29=some (KN order.length)∧fget fr 30=some (KN i)) order.length
  ⟨0,A,[],tv,by omega,Y3,⟨Nat.le_refl _,gs3,la,by rw[given_nil];exact a.S,(fun x hx=>by cases hx),List.nodup_nil,by simp,(fun _ b _ hm=>by simp at hm),by simp⟩,by rw[f0];exact LA,by simp,by simp,by simp,by simp,by simp,by simp⟩ ?_
 clear LA gs3 gs ON O3 g3
 rintro mm fr g ⟨i,W,C,tv,him,E,SX,LA,f6,f7,f8,f28,f29,f30⟩
 obtain⟨sn,gs,lW,sS,sub,nod,few,all,sumW⟩:=SX
 have Bnod:B.Nodup:=Basc.imp fun h=>by omega
 have inj : ∀x∈B,∀y∈B,(cs.getD x noClaim).at_=(cs.getD y noClaim).at_→x=y:=by
  intro x hx y hy e
  rcases Nat.lt_trichotomy x y with h|h|h
  ·have:=cat x y h (Blt y hy);omega
  ·exact h
  ·have:=cat y x h (Blt x hx);omega
 have OE:=ho.keep E.keep
 have ON:=OE.now
 by_cases ci:i<order.length
 ·obtain⟨x,hx⟩ : ∃x,order[i]?=some x:=⟨_,List.getElem?_eq_getElem ci⟩
  have xb:=hr x (List.mem_of_getElem? hx)
  have tk1:=take_one_more hx
  have lX:=ON.ld (P:=prog) (t:=3) (c:=i) (by rw[List.length_map];omega) ag3
  rw[List.getElem?_map,hx,Option.map_some] at lX
  have e2:IntKind.i64.wrap ((i:Int)+1)=((i+1:Nat):Int):=by rw[wrap_i64 (by omega)];omega
  obtain⟨L,hL⟩ : ∃L,L=tiedL cs (B.filter fun x => !(C.contains x)):=⟨_,rfl⟩
  rw[←hL] at LA
  have Ll:L.length≤60:=by
   rw[hL];unfold tiedL;rw[List.length_map]
   have:=List.length_filter_le (fun x => !(C.contains x)) B
   omega
  simp -dsimp (maxSteps:=1000000) (disch:=try exact dx) only[wpS,wpT,reduceEqDiff,f28,f29,f30,f7,ON.idx es29 ci,lX]
  refine call (indexI_ok LA.sl.now (by omega)) ?_
  rintro _ h4 ⟨e4,rfl⟩
  rw[e4]
  clear e4 h4
  by_cases act:(∃j,idxI x L=some j)∧0<left - C.length
  ·obtain⟨⟨j,hj⟩,op⟩:=act
   have d:decide ((0:Int)≤idxV x L)=true:=by unfold idxV;rw[hj];exact decide_eq_true (Int.natCast_nonneg j)
   have d2:decide ((0:Int)<((left - C.length:Nat):Int))=true:=decide_eq_true (by omega)
   have iv:idxV x L=(j:Int):=by unfold idxV;rw[hj]
   have w1:IntKind.i64.wrap ((j:Int)+1)=((j+1:Nat):Int):=by
    have:=(List.getElem?_eq_some_iff.1 (idxI_get hj)).1
    rw[wrap_i64 (by omega)];omega
   rw[iv] at d ⊢
   obtain⟨b,bB,bp,bx,be⟩:=tied_idx inj (hL▸hj) Bnod
   have jl:=(List.getElem?_eq_some_iff.1 (idxI_get hj)).1
   have bC:b∉C:=by simpa using bp
   have bl:=Blt b bB
   obtain⟨y,hy⟩ : ∃y,y=(cs.getD b noClaim).at_:=⟨_,rfl⟩
   rw[←hy] at bx
   subst bx
   have yl:y<people.length:=by omega
   simp -dsimp (maxSteps:=1000000) (disch:=try exact dx) only[wpS,wpT,reduceEqDiff,f7,f8,d,d2,w1]
   rcases LA with⟨_,L0,_⟩|⟨hN,hk,tl,rfl,gl,hlen⟩
   ·rw[L0] at jl;simp at jl
   refine call (deleteI_ok gl (List.length_map _) hlen jl (all_map L) (by omega)) ?_
   rintro _ g5 ⟨rfl,M5,n5,gl5⟩
   have gs5:=(M5.get ks (by omega) (by omega)).trans gs
   have N1:=blk_now (n:=A.length) gs5 (by rw[List.length_map];omega)
   have ax:elemAddr (blkV ks A.length) y=ptr (2*ks) y:=by simp[elemAddr]
   have lY:=N1.ld (P:=prog) (t:=3) (c:=y) (by rw[List.length_map];omega) ag3
   rw[ax,map_get,at_getD (by omega),Option.map_some] at lY
   have wy:=sS.at_ b bl
   rw[←hy] at wy
   have wle:W.getD y 0≤1000:=by
    have h1 : ∀x∈W,0≤x:=by
     intro z hz
     obtain⟨q,hq⟩:=List.getElem?_of_mem hz
     have ql:=(List.getElem?_eq_some_iff.1 hq).1
     have e:W.getD q 0=z:=by rw[List.getD_eq_getElem?_getD,hq];rfl
     by_cases c:0<people.getD q 0
     ·obtain⟨i2,hi2,rfl⟩:=a.C.find (by omega) c
      have:=sS.at_ i2 hi2
      omega
     ·have h2:=sS.z q (by omega)
      have h3:=getD_nonneg l0 q
      omega
    have h2:=sum_getD_le W h1 y
    have h3:=a.sum
    omega
   have w2:IntKind.i64.wrap (W.getD y 0+1)=W.getD y 0+1:=by rw[wrap_i64 (by omega)]
   have s1:IH.splice (W.map KI) y [.int .i64 (W.getD y 0+1)]=(W.set y (W.getD y 0+1)).map KI:=by rw[splice_set (by rw[List.length_map];omega),map_set']
   have w3:IntKind.i64.wrap (((left - C.length:Nat):Int) - 1)=((left - (C ++ [b]).length:Nat):Int):=by
    rw[List.length_append,List.length_singleton,wrap_i64 (by omega)];omega
   simp -dsimp (maxSteps:=1000000) (disch:=try exact dx) only[wpS,wpT,reduceEqDiff,st3,f6,f8,f30,N1.idx es29 (show y<A.length by omega),ax,lY,w2,gs5,List.length_map,s1,w3,e2]
   have inj2 : ∀x,x<cs.length→x≠b→(cs.getD x noClaim).at_≠y:=by
    intro x hx hne e
    rcases Nat.lt_trichotomy x b with h|h|h
    ·have:=cat x b h bl;omega
    ·exact hne h
    ·have:=cat b x h hx;omega
   have pf:(fun x => !((C ++ [b]).contains x))=(fun x => !(C.contains x) && !(x == b)):=by
    funext x
    simp[Bool.not_or]
    rfl
   have bp2:=(claim_pos a.C bl).2.1
   refine⟨mm - 1,by omega,i+1,W.set y (W.getD y 0+1),C ++ [b],roomV kt (L.length - 1) B.length,by omega,(Mem.ext E (by omega) M5).put (by omega) _,⟨?_,get_put_same _ _ rfl,by rw[List.length_set];exact lW,⟨?_,?_⟩,?_,?_,?_,?_,?_⟩,?_,by simp[f6],by simp,by simp,by simp[f28],by simp[f29],by simp⟩
   ·simp;omega
   ·intro i2 hi2
    rw[←given_snoc s C b bC]
    by_cases e:i2=b
    ·subst e
     rw[←hy,getD_set_self (by omega),wy]
     simp[given]
    ·rw[getD_set_ne (inj2 i2 hi2 e),sS.at_ i2 hi2]
     simp[given,e]
   ·intro j2 hj2
    rw[getD_set_ne (by rintro rfl;rw[hy] at hj2;omega),sS.z j2 hj2]
   ·intro z hz
    rcases List.mem_append.1 hz with hz|hz
    ·exact sub z hz
    ·simp at hz;subst hz;exact bB
   ·rw[List.nodup_append]
    refine⟨nod,by simp,?_⟩
    intro z hz z2 hz2
    simp at hz2;subst hz2
    rintro rfl;exact bC hz
   ·rw[List.length_append,List.length_singleton];omega
   ·intro hl b2 hb2 hm
    rw[List.length_append,List.length_singleton] at hl
    rw[tk1,List.mem_append] at hm
    rw[List.mem_append]
    rcases hm with hm|hm
    ·exact .inl (all (by omega) b2 hb2 hm)
    ·have hm:((cs.getD b2 noClaim).at_:Int)=y:=by simpa using hm
     right
     rw[List.mem_singleton]
     exact inj b2 hb2 b bB (by omega)
   ·rw[sum_set W y 1 (by omega),sumW,List.length_append,List.length_singleton];omega
   ·rw[pf,←be,←hL]
    have ll:(L.eraseIdx j).length=L.length - 1:=by rw[List.length_eraseIdx,if_pos jl]
    refine .inr ⟨hN,by simp;omega,KI 0 :: tl,by rw[ll],?_,by rw[ll,List.length_cons];omega⟩
    rw[get_put_old _ _ (by omega),gl5,map_erase]
  ·have stay:StX h3 g m people low cs s A B left ks kt order (i+1) W C:=by
    refine⟨sn,gs,lW,sS,sub,nod,few,fun hl b hb hm=>?_,sumW⟩
    rw[tk1,List.mem_append] at hm
    rcases hm with hm|hm
    ·exact all hl b hb hm
    ·have hm:((cs.getD b noClaim).at_:Int)=x:=by simpa using hm
     by_cases hbc:b∈C
     ·exact hbc
     ·have hin:x∈L:=by
       rw[hL]
       exact List.mem_map.2 ⟨b,List.mem_filter.2 ⟨hb,by simpa using hbc⟩,hm⟩
      exfalso
      refine act ⟨?_,by omega⟩
      cases hi:idxI x L with
      | none=>exact absurd hin (idxI_not hi)
      | some j=>exact⟨j,rfl⟩
   have fin : ∀fr2:Fr,fget fr2 6=some (blkV ks A.length)→fget fr2 7=some tv→fget fr2 8=some (KN (left - C.length))→fget fr2 28=some vo→fget fr2 29=some (KN order.length)→fget fr2 30=some (KN (i+1)) → ∃m',m'<mm ∧ ∃(i:Nat) (W:List Int) (C:List Nat) (tv:Value),i+m'=order.length∧Ext h g∧StX h3 g m people low cs s A B left ks kt order i W C∧LeftAt g kt tv (tiedL cs (B.filter fun x => !(C.contains x))) B.length∧fget fr2 6=some (blkV ks A.length)∧fget fr2 7=some tv∧fget fr2 8=some (KN (left - C.length))∧fget fr2 28=some vo∧fget fr2 29=some (KN order.length)∧fget fr2 30=some (KN i) :=
    fun fr2 a6 a7 a8 a28 a29 a30=>⟨mm - 1,by omega,i+1,W,C,tv,by omega,E,stay,hL▸LA,a6,a7,a8,a28,a29,a30⟩
   cases hi:idxI x L with
   | none =>
    have d:decide ((0:Int)≤idxV x L)=false:=by unfold idxV;rw[hi];rfl
    simp -dsimp (maxSteps:=1000000) (disch:=try exact dx) only[wpS,wpT,reduceEqDiff,f30,d,e2]
    exact fin _ (by simp[f6]) (by simp[f7]) (by simp[f8]) (by simp[f28]) (by simp[f29]) (by simp)
   | some j =>
    have d:decide ((0:Int)≤idxV x L)=true:=by unfold idxV;rw[hi];exact decide_eq_true (Int.natCast_nonneg j)
    have d2:decide ((0:Int)<((left - C.length:Nat):Int))=false:=decide_eq_false fun h0=>act ⟨⟨j,hi⟩,by omega⟩
    simp -dsimp (maxSteps:=1000000) (disch:=try exact dx) only[wpS,wpT,reduceEqDiff,f30,f8,d,d2,e2]
    exact fin _ (by simp[f6]) (by simp[f7]) (by simp[f8]) (by simp[f28]) (by simp[f29]) (by simp)
 ·have op:left - C.length=0:=by
   refine Classical.byContradiction fun hop=>?_
   have hlt:C.length<left:=by omega
   have cov:=hc.resolve_left (by omega)
   have ei:i=order.length:=by omega
   have h1:=nodup_le Bnod fun b hb=>all hlt b hb (by
    rw[ei,List.take_of_length_le (Nat.le_refl _)]
    exact cov _ (claim_pos a.C (Blt b hb)).1)
   rcases a.T with⟨h2,_⟩|⟨_,h2,_⟩<;>omega
  have d:decide ((0:Int)<((left - C.length:Nat):Int))=false:=decide_eq_false (by omega)
  simp -dsimp (maxSteps:=1000000) (disch:=try exact dx) only[wpS,wpT,reduceEqDiff,f29,f30,f8,f6,d]
  refine⟨E,_,W,C,rfl,?_,lW,sS,sub,by have:=a.sum;omega⟩
  rw[←la]
  exact blk_sl gs (by omega) (by rw[List.length_map];omega) (by omega)
end Go.Id

namespace Go.Id
open Go

noncomputable abbrev bodyDi:Code:=Proofs.Tryz.f5.body.getD .skip
end Go.Id

namespace Go.Id
open Go
theorem given_ge (s:Nat→Nat) (C:List Nat) (i:Nat):s i≤given s C i:=by unfold given;split<;>omega
theorem settled_fine {m seats:Nat} {people low W:List Int} {cs:List Claim} {s:Nat→Nat} {A:List Int} {B C:List Nat} {left:Nat} (a:Award m seats people low cs s A B left) (l0 : ∀x∈low,0≤x) (S:Seats people low W cs (given s C)) (lW:W.length=people.length) :
  (∀j,j<people.length→0≤low.getD j 0∧low.getD j 0≤W.getD j 0) ∧ ∀x∈W,0≤x:=by
 have h : ∀j,j<people.length→0≤low.getD j 0∧low.getD j 0≤W.getD j 0:=by
  intro j hj
  have g:=getD_nonneg l0 j
  by_cases c:0<people.getD j 0
  ·obtain⟨i,hi,rfl⟩:=a.C.find hj c
   have h1:=(a.C.num _ (claim_mem hi)).2
   have h2:=S.at_ i hi
   have h3:=a.F.1 i hi
   have h4:=given_ge s C i
   dsimp only at h3
   omega
  ·rw[S.z j (by omega)];omega
 refine⟨h,fun x hx=>?_⟩
 obtain⟨i,hi⟩:=List.getElem?_of_mem hx
 have il:=(List.getElem?_eq_some_iff.1 hi).1
 have:=h i (by omega)
 rw[show W.getD i 0=x from by rw[List.getD_eq_getElem?_getD,hi];rfl] at this
 omega
def orderL (n T i:Nat):List Int:=(List.range i).map fun j=>(((j+T) % n:Nat):Int)
theorem orderL_len (n T i:Nat):(orderL n T i).length=i:=by simp[orderL]
theorem orderL_succ (n T i:Nat):orderL n T (i+1)=orderL n T i ++ [(((i+T) % n:Nat):Int)]:=by
 unfold orderL
 rw[List.range_succ,List.map_append];rfl
theorem orderL_in {n T i:Nat} (hn:0<n) : ∀x∈orderL n T i,0≤x∧x<n:=by
 intro x hx
 obtain⟨j,_,rfl⟩:=List.mem_map.1 hx
 have:=Nat.mod_lt (j+T) hn
 omega
theorem orderL_all {n T:Nat} (j:Nat) (hj:j<n):(j:Int)∈orderL n T n:=by
 have e:((j+n - T % n) % n+T) % n=j:=by
  have h1:T % n<n:=Nat.mod_lt _ (by omega)
  rw[Nat.add_mod,Nat.mod_mod,←Nat.add_mod]
  have h2:=Nat.div_add_mod T n
  have h3:j+n - T % n+T=j+n*(T / n+1):=by rw[Nat.mul_add];omega
  rw[h3,Nat.add_mul_mod_self_left,Nat.mod_eq_of_lt hj]
 exact List.mem_map.2 ⟨(j+n - T % n) % n,List.mem_range.2 (Nat.mod_lt _ (by omega)),by rw[e]⟩
noncomputable abbrev bodyAw:Code:=Proofs.Tryz.f6.body.getD .skip
end Go.Id

/-
  Contracts: package bracket: within, open. The greater and the lesser of two integers. Loops over functions, whose rounds may lay their variable into memory and may end early. Weakest preconditions over the ideal machine: appends to slices without room; lengths and parts of slices in regions whose order is open. Weakest preconditions over the ideal machine: two lists that grow side by side. Contracts: bracket.At. The greatest and the least of two numbers. Contracts: drafted censuses; the greatest of a list. Contracts: the reference's valid shares. Contracts: the greatest of a list; fractions of whole numbers. What a divisor gives: numbers that fall with it. Tables of functions whose values are known; what a closed function gives. The ideal machine: a function's body in parts, each under a machine of its own. The ideal machine: a law whose first parts are carried out with functions whose values are known, and whose rest is shown step by step. The statement BracketFalls, on the ideal machine. The rows of package bracket, common part: the layer's check, drafts that came in. Contracts: package bracket: the next and the last seats, one after the other.
-/
import Derived.Test.YthpefnfbnaekaaaGreatBracketFindsAn
import Derived.Test.YthpefnfbnaekaaaGreatBracketFindsAg
import Derived.Test.YthpefnfbnaekaaaGreatBracketFindsAf
import Derived.Test.YthpefnfbnaekaaaGreatBracketFindsAm
set_option linter.unusedVariables false
set_option linter.unusedSimpArgs false
set_option linter.defProp false
set_option linter.deprecated false
/-! Contracts: package bracket: within, open. -/
namespace Go.Id
open Go
theorem bwithin1_ok {h:IH} {b b2:Nat} {lo hi n:Int} (g:h.ext.get b=some (.cells [KI lo] 0 none)) (g2:h.ext.get b2=some (.cells [KI hi] 0 none)) :
  WV Proofs.Tryz.prog (.func (.func 100) #[] #[ptr (2*b) 0,ptr (2*b2) 0]) [KI n] h fun r h'=>h'=h∧r=.bool (outR lo hi n):=by
 refine enter (nt:=13) (rs:=[.tmp 4]) Proofs.Tryz.func100 rfl rfl rfl (by simp) ?_
 by_cases c:n<lo
 ·have d:decide (n<lo)=true:=decide_eq_true c
  simp -dsimp (disch:=omega) only[wpS,wpT,Nat.reduceEqDiff,Nat.reduceAdd,ld3,row_of g,d]
  simp[outR,d]
 ·have d:decide (n<lo)=false:=decide_eq_false c
  simp -dsimp (disch:=omega) only[wpS,wpT,Nat.reduceEqDiff,Nat.reduceAdd,ld3,row_of g,row_of g2,d]
  simp[outR,d]
theorem bwithin_ok {h:IH} {v:Value} {l:List Int} (lo hi:Int) (hv:SlOf h 1 v l.length (l.map KI)) (hl:l.length≤1000000000) :
  WV Proofs.Tryz.prog (.func (.func 51) #[] #[]) [KI lo,KI hi,v] h fun r h'=>Ext h h'∧r=.bool (inR lo hi l):=by
 refine enter (nt:=11) (rs:=[.tmp 6]) Proofs.Tryz.func51 rfl rfl rfl (by simp) ?_
 simp -dsimp (disch:=omega) only[wpS,Nat.reduceEqDiff,Nat.reduceAdd]
 obtain⟨H0,hH0,n0,E0,g0,g1⟩:=boxes2 h [KI lo] [KI hi]
 rw[←hH0]
 clear hH0
 refine call (containsFunc_ok (outR lo hi) (hv.keep E0.keep).now hl (fun x hx=>bwithin1_ok g0 g1)) ?_
 rintro _ _ ⟨rfl,rfl⟩
 simp -dsimp (disch:=omega) only[wpS,wpT,Nat.reduceEqDiff]
 exact E0
abbrev Reg:=Int×Int×Int
def regC (r:Reg):List Value:=[KI r.1,KI r.2.1,KI r.2.2]
def regL (l:List Reg):List Value:=l.flatMap regC
theorem regL_len (l:List Reg):(regL l).length=l.length*3:=by
 induction l with
 | nil=>rfl
 | cons a l ih=>rw[regL,List.flatMap_cons,List.length_append];show 3+(regL l).length=_;rw[ih,List.length_cons];omega
theorem regL_at {l:List Reg} {i:Nat} {r:Reg} (h:l[i]?=some r):((regL l).drop (i*3)).take 3=regC r:=by
 induction l generalizing i with
 | nil=>simp at h
 | cons a l ih =>
  cases i with
  | zero =>
   simp at h;subst h
   rw[regL,List.flatMap_cons];rfl
  | succ i =>
   simp at h
   rw[regL,List.flatMap_cons,show(i+1)*3=3+i*3 from by omega,←List.drop_drop]
   exact ih h
def leastOr (n:Nat) (least:List Int):List Int:=if least = [] then List.replicate n 0 else least
def lowOK (won low:List Int) (n:Nat):Prop:=∀i,i<n→0≤low.getD i 0∧low.getD i 0≤won.getD i 0
instance (won low:List Int) (n:Nat):Decidable (lowOK won low n):=inferInstanceAs (Decidable (∀i,i<n→_))
def openErr (people won:List Int) (m:Int) (least:List Int):Int :=
 if quotaOK people=false then 60 else if won.length≠people.length∨inR 0 1000 won=false then 2
 else if inR 11 15 [m]=false∨(leastOr people.length least).length≠people.length then 2
 else if ¬lowOK won (leastOr people.length least) people.length then 2 else if inR 1 1000 [won.sum]=false then 2 else 0
def regsOf (people won low:List Int) (n:Nat):List Reg:=(List.range n).map fun i=>(people.getD i 0,won.getD i 0,low.getD i 0)
theorem regsOf_succ (people won low:List Int) (n:Nat):regsOf people won low (n+1)=regsOf people won low n ++ [(people.getD n 0,won.getD n 0,low.getD n 0)]:=by
 unfold regsOf
 rw[List.range_succ,List.map_append];rfl
theorem regsOf_len (people won low:List Int) (n:Nat):(regsOf people won low n).length=n:=by simp[regsOf]
abbrev hallV (m:Int) (s:Value):Value:=.agg #[KI m,s]
structure OX (h H1 hh:IH) (fr:Fr) (vp vw vl:Value) (m:Int) (people won low:List Int) (b:Nat) (i:Nat) (out:Value):Prop where
 e:Ext h hh
 k:Keep H1 hh
 sp:SlOf H1 1 vp people.length (people.map KI)
 sw:SlOf H1 1 vw won.length (won.map KI)
 sl:SlOf H1 1 vl low.length (low.map KI)
 bn:h.n<b∧b<hh.n
 g8:hh.ext.get h.n=some (.cells [KI 0,.slice none 0 0] 0 none)
 g11:hh.ext.get b=some (.cells [KI m,out] 0 none)
 acc:Acc hh h.n 3 out i (regL (regsOf people won low i))
 lw:lowOK won low i
 f1:fget fr 1=some vw
 f3:fget fr 3=some vl
 f8:fget fr 8=some (ptr (2*h.n) 0)
 f11:fget fr 11=some (ptr (2*b) 0)
 f12:fget fr 12=some (KI (won.take i).sum)
 f52:fget fr 52=some vp
 f53:fget fr 53=some (KI people.length)
 f54:fget fr 54=some (KI i)
theorem at_getD {l:List Int} {i:Nat} (h:i<l.length):l[i]?=some (l.getD i 0):=by
 rw[List.getD_eq_getElem?_getD,List.getElem?_eq_getElem h];rfl
def OpenV (h':IH) (r:Value) (people won:List Int) (m:Int) (least:List Int):Prop :=
 if openErr people won m least=0 then ∃s,r=.tuple #[hallV m s,KI 0]∧SlOf h' 3 s people.length (regL (regsOf people won (leastOr people.length least) people.length))
 else r=.tuple #[hallV 0 (.slice none 0 0),KI (openErr people won m least)]
theorem OpenV.err {h':IH} {people won:List Int} {m:Int} {least:List Int} {e:Int} (h:openErr people won m least=e) (h0:e≠0):OpenV h' (.tuple #[hallV 0 (.slice none 0 0),KI e]) people won m least:=by
 unfold OpenV
 rw[h,if_neg h0]
theorem replZ : ∀n:Nat,repl n [KI 0]=(List.replicate n (0:Int)).map KI
 | 0=>rfl
 | n+1=>by rw[repl,replZ n,List.replicate_succ];rfl
set_option maxHeartbeats 4000000 in
theorem open_ok {h:IH} {vp vw vl:Value} {m:Int} {people won least:List Int} (hp:SlOf h 1 vp people.length (people.map KI)) (hw:SlOf h 1 vw won.length (won.map KI)) (hl:SlOf h 1 vl least.length (least.map KI)) (lp:people.length≤1000000000) (lw:won.length≤1000000000) (ll:least.length≤1000000000) :
  WV Proofs.Tryz.prog (.func (.func 36) #[] #[]) [vp,vw,KI m,vl] h fun r h'=>Ext h h'∧OpenV h' r people won m least:=by
 have z0 : ∀(n:Nat),((n:Nat):Int)=0↔n=0:=fun n=>by omega
 refine enter (nt:=99) (rs:=[.cell 8 80,.tmp 9]) Proofs.Tryz.func36 rfl rfl rfl (by simp) ?_
 simp -dsimp (maxSteps:=1000000) (disch:=first|omega|(simp only[new_n,put_n];omega)|decide +kernel|(repeat first|rw[new_n]|rw[put_n])) only[wpS,Nat.reduceEqDiff,Nat.reduceAdd,zc80]
 obtain⟨H0,hH0⟩ : ∃H,H=h.new (.cells [KI 0,.slice none 0 0] 0 none):=⟨_,rfl⟩
 have E0:Ext h H0:=by rw[hH0];exact(Ext.refl h).new _
 have g0:H0.ext.get h.n=some (.cells [KI 0,.slice none 0 0] 0 none):=by rw[hH0];simp (disch:=first|omega|(simp only[new_n,put_n];omega)|(repeat first|rw[new_n]|rw[put_n])) only[get_new_same]
 have n0:H0.n=h.n+1:=by rw[hH0];simp
 rw[←hH0]
 clear hH0
 refine call (qcheck_ok (hp.keep E0.keep) lp) ?_
 rintro _ _ ⟨rfl,rfl⟩
 cases c1:quotaOK people
 ·simp -dsimp (maxSteps:=1000000) (disch:=first|omega|(simp only[new_n,put_n];omega)|decide +kernel|(repeat first|rw[new_n]|rw[put_n])) only[wpS,wpT,Nat.reduceEqDiff,Nat.reduceLeDiff,Nat.reduceAdd,bv80,st80,ld80,g0]
  refine⟨E0.put (by omega) _,OpenV.err (e:=60) (by unfold openErr;rw[if_pos c1]) (by omega)⟩
 ·have sp:=(hp.keep E0.keep).now
  have sw:=(hw.keep E0.keep).now
  have sl:=(hl.keep E0.keep).now
  have c1' : ¬quotaOK people=false:=by rw[c1];simp
  by_cases c2:won.length=people.length
  ·simp -dsimp (maxSteps:=1000000) (disch:=first|omega|(simp only[new_n,put_n];omega)|decide +kernel|(repeat first|rw[new_n]|rw[put_n])) only[wpS,wpT,Nat.reduceEqDiff,sp.len sl29,sw.len sl29]
   refine call (bwithin_ok (l:=won) 0 1000 (hw.keep E0.keep) lw) ?_
   rintro _ h1 ⟨X1,rfl⟩
   have m1:=X1.n
   have kg1:=X1.kept (by omega) g0
   cases c3:inR 0 1000 won
   ·simp -dsimp (maxSteps:=1000000) (disch:=first|omega|(simp only[new_n,put_n];omega)|decide +kernel|(repeat first|rw[new_n]|rw[put_n])) only[wpS,wpT,Nat.reduceEqDiff,Nat.reduceLeDiff,Nat.reduceAdd,bv80,st80,ld80,kg1]
    exact⟨(E0.trans X1).put (by omega) _,OpenV.err (e:=2) (by unfold openErr;rw[if_neg c1',if_pos (.inr c3)]) (by omega)⟩
   ·simp -dsimp (maxSteps:=1000000) (disch:=first|omega|(simp only[new_n,put_n];omega)|decide +kernel|(repeat first|rw[new_n]|rw[put_n])) only[wpS,wpT,Nat.reduceEqDiff,(hl.keep (E0.trans X1).keep).now.len sl29]
    have hq:people.length≤60∧0<people.length:=by
     unfold quotaOK at c1
     simp only[Bool.and_eq_true,decide_eq_true_eq] at c1
     refine⟨c1.1,?_⟩
     cases people with
     | nil=>simp at c1
     | cons a l=>simp
    refine bq_cut (fun fr2 h2 => ∃vl2,Ext h1 h2∧SlOf h2 1 vl2 (leastOr people.length least).length ((leastOr people.length least).map KI)∧fget fr2 0=some vp∧fget fr2 1=some vw∧fget fr2 2=some (KI m)∧fget fr2 3=some vl2∧fget fr2 8=some (ptr (2*h.n) 0)) (fun hc=>?_) (fun hc=>?_) ?_
    ·have e0:least = []:=by
      simp at hc
      exact hc
     simp -dsimp (maxSteps:=1000000) (disch:=first|omega|(simp only[new_n,put_n];omega)|decide +kernel|(repeat first|rw[new_n]|rw[put_n])) only[wpS,Nat.reduceEqDiff,ms29,(hp.keep (E0.trans X1).keep).now.len sl29]
     exact⟨_,(Ext.refl h1).new _,by
      have e1:leastOr people.length least=List.replicate people.length 0:=by unfold leastOr;rw[if_pos e0]
      rw[e1,List.length_replicate,←replZ]
      exact built_sl h1 (by omega) (by rw[replZ];simp) hq.2,by simp,by simp,by simp,by simp,by simp⟩
    ·have e0:least ≠ []:=by
      simp at hc
      exact hc
     have e1:leastOr people.length least=least:=by unfold leastOr;rw[if_neg e0]
     simp -dsimp (maxSteps:=1000000) (disch:=first|omega|(simp only[new_n,put_n];omega)|decide +kernel|(repeat first|rw[new_n]|rw[put_n])) only[wpS]
     exact⟨vl,Ext.refl h1,by rw[e1];exact hl.keep (E0.trans X1).keep,by simp,by simp,by simp,by simp,by simp⟩
    ·rintro fr2 h2 ⟨vl2,X2,sl2,f0,f1,f2,f3,f8⟩
     have E2:=X1.trans X2
     have F2:=E0.trans E2
     obtain⟨low,hlow⟩ : ∃l,l=leastOr people.length least:=⟨_,rfl⟩
     rw[←hlow] at sl2
     simp -dsimp (maxSteps:=1000000) (disch:=first|omega|(simp only[new_n,put_n];omega)|decide +kernel|(repeat first|rw[new_n]|rw[put_n])) only[wpS,wpT,Nat.reduceEqDiff,Nat.reduceLeDiff,Nat.reduceAdd,bs29,f2]
     refine call (bwithin_ok (l:=[m]) 11 15 (built1 h2 m) (by simp)) ?_
     rintro _ h3 ⟨X3,rfl⟩
     have F3:Ext h2 h3:=((Ext.refl h2).new _).trans X3
     have G3:=E2.trans F3
     have kg3:=G3.kept (by omega) g0
     have m3:=G3.n
     cases c4:inR 11 15 [m]
     ·simp -dsimp (maxSteps:=1000000) (disch:=first|omega|(simp only[new_n,put_n];omega)|decide +kernel|(repeat first|rw[new_n]|rw[put_n])) only[wpS,wpT,Nat.reduceEqDiff,Nat.reduceLeDiff,Nat.reduceAdd,bv80,st80,ld80,f8,kg3]
      exact⟨(F2.trans F3).put (by omega) _,OpenV.err (e:=2) (by unfold openErr;rw[if_neg c1',if_neg (by rw[c3];simp[c2]),if_pos (.inl c4)]) (by omega)⟩
     ·by_cases c5:low.length=people.length
      ·simp -dsimp (maxSteps:=1000000) (disch:=first|omega|(simp only[new_n,put_n];omega)|decide +kernel|(repeat first|rw[new_n]|rw[put_n])) only[wpS,wpT,Nat.reduceEqDiff,Nat.reduceLeDiff,Nat.reduceAdd,zc80,bv80,st80,pl80_0,f0,f2,f3,sl2.now.len sl29,(hp.keep (F2.trans F3).keep).now.len sl29]
       obtain⟨H1,hH1,n1,E4,g11⟩:=boxed h3 [KI 0,.slice none 0 0] [KI m,.slice none 0 0]
       rw[←hH1]
       clear hH1
       have F4:=(F2.trans F3).trans E4
       have m2:=F2.n
       have m0:=E0.n
       have wr:=inR_iff.1 c3
       refine loop (fun mm fr hh => ∃i out,i+mm=people.length∧OX h H1 hh fr vp vw vl2 m people won low h3.n i out) people.length ⟨0,.slice none 0 0,by omega,⟨F4,Keep.refl _,hp.keep F4.keep,hw.keep F4.keep,sl2.keep (F3.trans E4).keep,by omega,(G3.trans E4).kept (by omega) g0,g11,Acc.nil _ _ (by omega),fun i hi=>absurd hi (by omega),by simp[f1],by simp[f3],by simp[f8],by simp,by simp,by simp[],by simp,by simp⟩⟩ ?_
       rintro mm fr hh ⟨i,out,him,s⟩
       have P0:=(s.sp.keep s.k).now
       have W0:=(s.sw.keep s.k).now
       have L0:=(s.sl.keep s.k).now
       by_cases c:i<people.length
       ·have iw:i<won.length:=by omega
        have il:i<low.length:=by omega
        obtain⟨f1,f3,f8,f11,f12,f52,f53,f54⟩:=And.intro s.f1 (And.intro s.f3 (And.intro s.f8 (And.intro s.f11 (And.intro s.f12 (And.intro s.f52 (And.intro s.f53 s.f54))))))
        have b1:=sum_bound (won.take i) fun n hn=>by have:=wr n (List.mem_of_mem_take hn);omega
        have b3:(won.take i).length≤60:=by rw[List.length_take];omega
        have b2:=wr (won.getD i 0) (List.mem_of_getElem? (at_getD iw))
        have e1:IntKind.i64.wrap ((won.take i).sum+won.getD i 0)=(won.take (i+1)).sum:=by rw[sum_take_succ won (at_getD iw),wrap_i64 (by omega)]
        have lP:=P0.ld (P:=Proofs.Tryz.prog) (t:=3) (c:=i) (by simp<;>omega) ag3
        have lW:=W0.ld (P:=Proofs.Tryz.prog) (t:=3) (c:=i) (by simp<;>omega) ag3
        have lL:=L0.ld (P:=Proofs.Tryz.prog) (t:=3) (c:=i) (by simp<;>omega) ag3
        rw[map_get,at_getD c] at lP
        rw[map_get,at_getD iw] at lW
        rw[map_get,at_getD il] at lL
        simp -dsimp (maxSteps:=1000000) (disch:=first|omega|(simp only[new_n,put_n];omega)|decide +kernel|(repeat first|rw[new_n]|rw[put_n])) only[wpS,wpT,Nat.reduceEqDiff,f1,f12,f52,f53,f54,P0.idx es29 c,W0.idx es29 iw,lP,lW,e1]
        refine drawn [(3,[9]),(7,[9])] (by kernel_rfl) (by kernel_rfl) rfl ?_
        simp -dsimp (maxSteps:=1000000) (disch:=first|omega|(simp only[new_n,put_n];omega)|decide +kernel|(repeat first|rw[new_n]|rw[put_n])) only[wpS,wpT,Nat.reduceEqDiff,Nat.reduceLeDiff,Nat.reduceAdd,bs29,f1,f3,W0.idx es29 iw,L0.idx es29 il,lW,lL]
        refine call (bwithin_ok (l:=[low.getD i 0]) 0 (won.getD i 0) (built1 hh (low.getD i 0)) (by simp)) ?_
        rintro _ h5 ⟨X5,rfl⟩
        have N5:Ext hh (hh.new (.cells [KI (low.getD i 0)] 1 none)):=(Ext.refl hh).new _
        have W1:=((s.sw.keep s.k).keep N5.keep).now.ld (P:=Proofs.Tryz.prog) (t:=3) (c:=i) (by simp<;>omega) ag3
        have L1:=((s.sl.keep s.k).keep N5.keep).now.ld (P:=Proofs.Tryz.prog) (t:=3) (c:=i) (by simp<;>omega) ag3
        rw[map_get,at_getD iw] at W1
        rw[map_get,at_getD il] at L1
        have G5:=N5.trans X5
        have m5:=G5.n
        have bn:=s.bn
        have k8:=G5.kept (by omega) s.g8
        have k11:=G5.kept (by omega) s.g11
        have A5:=s.acc.ext G5
        have P2:=((s.sp.keep s.k).keep G5.keep).now
        have W2:=((s.sw.keep s.k).keep G5.keep).now
        have L2:=((s.sl.keep s.k).keep G5.keep).now
        cases c6:inR 0 (won.getD i 0) [low.getD i 0]
        ·simp -dsimp (maxSteps:=1000000) (disch:=first|omega|(simp only[new_n,put_n];omega)|decide +kernel|(repeat first|rw[new_n]|rw[put_n])) only[wpS,wpT,Nat.reduceEqDiff]
         refine⟨wpSteady_cons (wpSteady_one rfl rfl rfl rfl (steady_load (av:=elemAddr vw i) (v:=KI (won.getD i 0)) (by simp) lW W1)) (wpSteady_one rfl rfl rfl rfl (steady_load (av:=elemAddr vl2 i) (v:=KI (low.getD i 0)) (by simp) lL L1)),?_⟩
         simp -dsimp (maxSteps:=1000000) (disch:=first|omega|(simp only[new_n,put_n];omega)|decide +kernel|(repeat first|rw[new_n]|rw[put_n])) only[wpS,wpT,Nat.reduceEqDiff,Nat.reduceLeDiff,Nat.reduceAdd,bv80,st80,ld80,f8,k8]
         have bad : ¬lowOK won low people.length:=fun hb=>by
          have h7:=hb i c
          have h8:inR 0 (won.getD i 0) [low.getD i 0]=true:=inR_iff.2 (by simpa using h7)
          rw[c6] at h8;cases h8
         exact⟨(s.e.trans G5).put (by omega) _,OpenV.err (e:=2) (by unfold openErr;rw[if_neg c1',if_neg (by rw[c3];simp[c2]),if_neg (by rw[c4,←hlow];simp[c5]),if_pos (by rw[←hlow];exact bad)]) (by omega)⟩
        ·simp -dsimp (maxSteps:=1000000) (disch:=first|omega|(simp only[new_n,put_n];omega)|decide +kernel|(repeat first|rw[new_n]|rw[put_n])) only[wpS,wpT,Nat.reduceEqDiff]
         refine⟨wpSteady_cons (wpSteady_one rfl rfl rfl rfl (steady_load (av:=elemAddr vw i) (v:=KI (won.getD i 0)) (by simp) lW W1)) (wpSteady_one rfl rfl rfl rfl (steady_load (av:=elemAddr vl2 i) (v:=KI (low.getD i 0)) (by simp) lL L1)),?_⟩
         simp -dsimp (maxSteps:=1000000) (disch:=first|omega|(simp only[new_n,put_n];omega)|decide +kernel|(repeat first|rw[new_n]|rw[put_n])) only[wpS,wpT,Nat.reduceEqDiff,Nat.reduceAdd]
         refine drawn [(1,[13]),(6,[13]),(10,[13])] (by kernel_rfl) (by kernel_rfl) rfl ?_
         have hrow:inR 0 (won.getD i 0) [low.getD i 0]=true:=c6
         have hlo:=inR_iff.1 hrow (low.getD i 0) (by simp)
         obtain⟨out',h6,hap,A6,gr6,ex6⟩:=A5.appN (P:=Proofs.Tryz.prog) (t:=78) ap78 (m:=1) (new:=[KI (people.getD i 0),KI (won.getD i 0),KI (low.getD i 0)]) (by omega) rfl rfl (by omega) (by omega) (s.e.trans G5) (Nat.le_refl _)
         have lW2:=W2.ld (P:=Proofs.Tryz.prog) (t:=3) (c:=i) (by simp<;>omega) ag3
         have lL2:=L2.ld (P:=Proofs.Tryz.prog) (t:=3) (c:=i) (by simp<;>omega) ag3
         rw[map_get,at_getD iw] at lW2
         rw[map_get,at_getD il] at lL2
         have k6:=gr6.var (by omega) k11
         have co:=A6.sl.cells
         have cO:cellOK out'=true:=by obtain⟨oa,ok,ho⟩:=A6.sl.form;rw[ho];rfl
         simp -dsimp (maxSteps:=1000000) (disch:=first|omega|(simp only[new_n,put_n];omega)|decide +kernel|(repeat first|rw[new_n]|rw[put_n])) only[wpS,wpT,Nat.reduceEqDiff,Nat.reduceLeDiff,Nat.reduceAdd,fa80_1,ld78,bv121,pl121_0,pl121_1,pl121_2,bs78,st78,ba78_78,f1,f3,f11,W2.idx es29 iw,L2.idx es29 il,lW2,lL2,row_of k11,hap,k6,co,cO]
         have N6:Ext h5 (h5.new (.cells [KI (people.getD i 0),KI (won.getD i 0),KI (low.getD i 0)] 3 none)):=(Ext.refl h5).new _
         have W3:=((s.sw.keep s.k).keep (G5.trans N6).keep).now.ld (P:=Proofs.Tryz.prog) (t:=3) (c:=i) (by simp<;>omega) ag3
         have L3:=((s.sl.keep s.k).keep (G5.trans N6).keep).now.ld (P:=Proofs.Tryz.prog) (t:=3) (c:=i) (by simp<;>omega) ag3
         rw[map_get,at_getD iw] at W3
         rw[map_get,at_getD il] at L3
         have kn:=N6.kept (by omega) k11
         refine⟨wpSteady_cons (wpSteady_one rfl rfl rfl rfl (steady_load (av:=ptr (2*h3.n) 1) (v:=out) (by simp) ?_ ?_)) (wpSteady_cons (wpSteady_one rfl rfl rfl rfl (steady_load (av:=elemAddr vw i) (v:=KI (won.getD i 0)) (by simp) lW2 W3)) (wpSteady_one rfl rfl rfl rfl (steady_load (av:=elemAddr vl2 i) (v:=KI (low.getD i 0)) (by simp) lL2 L3))),?_⟩
         ·simp -dsimp (maxSteps:=1000000) (disch:=first|omega|(simp only[new_n,put_n];omega)|decide +kernel|(repeat first|rw[new_n]|rw[put_n])) only[wpS,ld78,row_of k11]
         ·simp -dsimp (maxSteps:=1000000) (disch:=first|omega|(simp only[new_n,put_n];omega)|decide +kernel|(repeat first|rw[new_n]|rw[put_n])) only[wpS,ld78,row_of kn]
         have kk6:=(s.k.trans (G5.keep)).trans ((N6.keep).trans (Keep.refl _))
         have e2:IntKind.i64.wrap ((i:Int)+1)=((i+1:Nat):Int):=by rw[wrap_i64 (by omega)];omega
         simp -dsimp (maxSteps:=1000000) (disch:=first|omega|(simp only[new_n,put_n];omega)|decide +kernel|(repeat first|rw[new_n]|rw[put_n])) only[wpS,wpT,Nat.reduceEqDiff,Nat.reduceAdd,f54,e2]
         have m6:=ex6.n
         have g6:=gr6.n
         refine⟨mm - 1,by omega,i+1,out',by omega,⟨ex6.put (by omega) _,((s.k.trans G5.keep).trans gr6.keep).put k6 _,s.sp,s.sw,s.sl,by simp;omega,?_,by simp (disch:=first|omega|(simp only[new_n,put_n];omega)|(repeat first|rw[new_n]|rw[put_n])) only[get_put_same],?_,?_,by simp[f1],by simp[f3],by simp[f8],by simp[f11],by simp,by simp[f52],by simp[f53],by simp⟩⟩
         ·rw[get_put_old _ _ (by omega)];exact gr6.var (by omega) k8
         ·rw[regsOf_succ,regL,List.flatMap_append]
          have:=A6.put k6 (.cells [KI m,out'] 0 none)
          exact this
         ·intro j hj
          by_cases hji:j<i
          ·exact s.lw j hji
          ·obtain rfl:j=i:=by omega
           exact⟨hlo.1,hlo.2⟩
       ·obtain⟨f1,f3,f8,f11,f12,f52,f53,f54⟩:=And.intro s.f1 (And.intro s.f3 (And.intro s.f8 (And.intro s.f11 (And.intro s.f12 (And.intro s.f52 (And.intro s.f53 s.f54))))))
        have hin:i=people.length:=by omega
        simp -dsimp (maxSteps:=1000000) (disch:=first|omega|(simp only[new_n,put_n];omega)|decide +kernel|(repeat first|rw[new_n]|rw[put_n])) only[wpS,wpT,Nat.reduceEqDiff,Nat.reduceLeDiff,Nat.reduceAdd,bs29,f12,f53,f54]
        have hs:(won.take i).sum=won.sum:=by rw[List.take_of_length_le (by omega)]
        have hlw:lowOK won low people.length:=by rw[←hin];exact s.lw
        rw[hs]
        refine call (bwithin_ok (l:=[won.sum]) 1 1000 (built1 hh won.sum) (by simp)) ?_
        rintro _ h5 ⟨X5,rfl⟩
        have G5:=((Ext.refl hh).new (.cells [KI won.sum] 1 none)).trans X5
        have m5:=G5.n
        have bn:=s.bn
        have k8:=G5.kept (by omega) s.g8
        have k11:=G5.kept (by omega) s.g11
        cases c7:inR 1 1000 [won.sum]
        ·simp -dsimp (maxSteps:=1000000) (disch:=first|omega|(simp only[new_n,put_n];omega)|decide +kernel|(repeat first|rw[new_n]|rw[put_n])) only[wpS,wpT,Nat.reduceEqDiff,Nat.reduceLeDiff,Nat.reduceAdd,bv80,st80,ld80,f8,k8]
         exact⟨(s.e.trans G5).put (by omega) _,OpenV.err (e:=2) (by unfold openErr;rw[if_neg c1',if_neg (by rw[c3];simp[c2]),if_neg (by rw[c4,←hlow];simp[c5]),if_neg (by rw[←hlow];simpa using hlw),if_pos c7]) (by omega)⟩
        ·have so:=(s.acc.ext G5).sl
         have co:=so.cells
         have cO:cellOK out=true:=by obtain⟨oa,ok,ho⟩:=so.form;rw[ho];rfl
         simp -dsimp (maxSteps:=1000000) (disch:=first|omega|(simp only[new_n,put_n];omega)|decide +kernel|(repeat first|rw[new_n]|rw[put_n])) only[wpS,wpT,Nat.reduceEqDiff,Nat.reduceLeDiff,Nat.reduceAdd,st80,ld80,f8,f11,k8,row_of k11,cO,tk2']
         refine⟨(s.e.trans G5).put (by omega) _,?_⟩
         unfold OpenV
         rw[if_pos (by unfold openErr;rw[if_neg c1',if_neg (by rw[c3];simp[c2]),if_neg (by rw[c4,←hlow];simp[c5]),if_neg (by rw[←hlow];simpa using hlw),if_neg (by rw[c7];simp)])]
         refine⟨out,rfl,?_⟩
         rw[←hlow,←hin]
         exact((s.acc.ext G5).put k8 _).sl
      ·simp -dsimp (maxSteps:=1000000) (disch:=first|omega|(simp only[new_n,put_n];omega)|decide +kernel|(repeat first|rw[new_n]|rw[put_n])) only[wpS,wpT,Nat.reduceEqDiff,Nat.reduceLeDiff,Nat.reduceAdd,bv80,st80,ld80,f0,f3,f8,kg3,sl2.now.len sl29,(hp.keep (F2.trans F3).keep).now.len sl29]
       exact⟨(F2.trans F3).put (by omega) _,OpenV.err (e:=2) (by unfold openErr;rw[if_neg c1',if_neg (by rw[c3];simp[c2]),if_pos (.inr (by rw[←hlow];exact c5))]) (by omega)⟩
  ·simp -dsimp (maxSteps:=1000000) (disch:=first|omega|(simp only[new_n,put_n];omega)|decide +kernel|(repeat first|rw[new_n]|rw[put_n])) only[wpS,wpT,Nat.reduceEqDiff,Nat.reduceLeDiff,Nat.reduceAdd,bv80,st80,ld80,g0,sp.len sl29,sw.len sl29]
   exact⟨E0.put (by omega) _,OpenV.err (e:=2) (by unfold openErr;rw[if_neg c1',if_pos (.inl c2)]) (by omega)⟩
end Go.Id

/-! The greater and the lesser of two integers. -/
namespace Go.Id
open Go
end Go.Id

/-! Loops over functions, whose rounds may lay their variable into memory and may end early. -/
namespace Go.Id
open Go
def doneL (r:ILoop) (c:Code):ILoop:={ r with state:=.done,pending:=some c }
@[reducible] def bodyE (k:Nat) (r:ILoop) (K:Value→IH→Prop) (e:IExit) (_:Fr) (h:IH):Prop :=
 h.ext.get k=some (.loop (busyL r))∧match e with
  | .normal=>K (.bool true) (h.put k (.loop r))
  | .exit i=>K (.bool false) (h.put k (.loop (doneL r (.exit i))))
  | .ret=>K (.bool false) (h.put k (.loop (doneL r .ret)))
@[reducible] def asgK (P:Program) (k:Nat) (r:ILoop) (K:Value→IH→Prop) (e:IExit) (fr:Fr) (h:IH):Prop :=
 e=.normal∧h.ext.get k=some (.loop r)∧Do (wpC P r.fn r.nt (some k) r.body fr (h.put k (.loop (busyL r)))) (bodyE k r K) nx
theorem wv_yield2 {P:Program} {k:Nat} {r:ILoop} {p:Tmp} (hst:r.state=.ready) (hpe:r.pending=none) (hps:r.params = [p]) (hp:p<r.nt) (v:Value) (h:IH) (K:Value→IH→Prop) (hg:h.ext.get k=some (.loop r))
  (w:wpC P r.fn r.nt (some k) r.assign ((p,v) :: r.fr) h (asgK P k r K)):WV P (.func (.yield (2*k)) #[] #[]) [v] h K:=by
 obtain⟨⟨e0,fr0,h0⟩,⟨N0,hN0⟩,he0,hg0,w⟩:=wpC_sound w
 simp only at he0 hg0 w hN0
 subst he0
 obtain⟨⟨e,fr,h1⟩,⟨N,hN⟩,hb,hk⟩:=wpC_sound w
 simp only at hb hk hN
 have hp':Nat.blt p r.nt=true:=by simp only[Nat.blt,Nat.ble_eq];exact hp
 have e1:(2*k % 2 == 0)=true:=by simp
 have e2:2*k / 2=k:=by omega
 have e3:putParams r.nt r.params [v] r.fr=some ((p,v) :: r.fr):=by
  rw[hps];simp[putParams,fput,hp']
 have e5:(r.state == LoopState.ready)=true:=by rw[hst];rfl
 have e6:({ h0 with ext:=h0.ext.set k (.loop { r with state:=.busy }) }:IH)=h0.put k (.loop (busyL r)):=rfl
 have e7:({ busyL r with state:=.ready,pending:=none }:ILoop)=r:=by
  cases r;simp only at hst hpe;subst hst;subst hpe;rfl
 cases e with
 | normal =>
  refine⟨(.bool true,h1.put k (.loop r)),⟨N0+N+1,fun n hn=>?_⟩,hk⟩
  obtain⟨n,rfl⟩ : ∃m,n=m+1:=⟨n - 1,by omega⟩
  have h2:=hN n (by omega)
  have h3:=hN0 n (by omega)
  show(bif 2*k % 2 == 0 then callYield (E0 P) (callV (E0 P) n) n (2*k / 2) ((#[]:Array Value).toList ++ [v]) h else none)=_
  rw[e1,cond_true,e2]
  simp only[callYield,get_loop hg,e3,h3,get_loop hg0,e5,cond_true,e6,h2,get_loop hb,List.nil_append]
  rw[e7];rfl
 | exit i =>
  refine⟨(.bool false,h1.put k (.loop (doneL r (.exit i)))),⟨N0+N+1,fun n hn=>?_⟩,hk⟩
  obtain⟨n,rfl⟩ : ∃m,n=m+1:=⟨n - 1,by omega⟩
  have h2:=hN n (by omega)
  have h3:=hN0 n (by omega)
  show(bif 2*k % 2 == 0 then callYield (E0 P) (callV (E0 P) n) n (2*k / 2) ((#[]:Array Value).toList ++ [v]) h else none)=_
  rw[e1,cond_true,e2]
  simp only[callYield,get_loop hg,e3,h3,get_loop hg0,e5,cond_true,e6,h2,get_loop hb,List.nil_append]
  rfl
 | ret =>
  refine⟨(.bool false,h1.put k (.loop (doneL r .ret))),⟨N0+N+1,fun n hn=>?_⟩,hk⟩
  obtain⟨n,rfl⟩ : ∃m,n=m+1:=⟨n - 1,by omega⟩
  have h2:=hN n (by omega)
  have h3:=hN0 n (by omega)
  show(bif 2*k % 2 == 0 then callYield (E0 P) (callV (E0 P) n) n (2*k / 2) ((#[]:Array Value).toList ++ [v]) h else none)=_
  rw[e1,cond_true,e2]
  simp only[callYield,get_loop hg,e3,h3,get_loop hg0,e5,cond_true,e6,h2,get_loop hb,List.nil_append]
  rfl
def RangeEnd (k:Nat) (r:ILoop) (fr:Fr) (Q:IExit→Fr→IH→Prop) (h1:IH):Prop :=
 (h1.ext.get k=some (.loop r)∧Q .normal fr (h1.put k .dead))∨(∃i,h1.ext.get k=some (.loop (doneL r (.exit i)))∧Q (.exit i) fr (h1.put k .dead))∨(h1.ext.get k=some (.loop (doneL r .ret))∧Q .ret fr (h1.put k .dead))
theorem range2 {P:Program} {fn:FuncId} {nt:Nat} {rd:Option Nat} {f:Operand} {p:Tmp} {assign body:Code} {fr:Fr} {h:IH} {Q:IExit→Fr→IH→Prop} {fv:Value} (hf:opd fr f=some fv) (hrd:roundOK h rd=true) (hp:p<nt)
  (w : ∀(r:ILoop) (y:Value),r.fn=fn→r.nt=nt→r.body=body→(∀v h1 K,h1.ext.get h.n=some (.loop r)→Do (wpC P fn nt (some h.n) assign ((p,v) :: fr) h1) (asgK P h.n r K) nx→WV P y [v] h1 K) →
   WV P fv [y] (h.new (.loop r)) fun _ h1=>RangeEnd h.n r fr Q h1) :
  Do (WRange P fn nt rd f #[p] assign body fr h) Q nx:=by
 have w1:=w { state:=.ready,pending:=none,fn,nt,fr,params:=[p],assign:=assign,body } (.func (.yield (2*h.n)) #[] #[]) rfl rfl rfl
  fun v h1 K hg w=>wv_yield2 (r:={ state:=.ready,pending:=none,fn,nt,fr,params:=[p],assign:=assign,body }) rfl rfl rfl hp v h1 K hg w
 obtain⟨⟨v,h1⟩,⟨N,hN⟩,hq⟩:=w1
 have st : ∀(r:ILoop) (e:IExit),loopOf h1 h.n=some r→(r.state == LoopState.busy)=false→exitOf r.pending=some e → ∀n,N≤n→rangeFn (E0 P) (callV (E0 P) n) fn nt rd f [p] assign body fr h=some (e,fr,h1.put h.n .dead):=by
  intro r e h3 h4 h5 n hn
  have h2:=hN n hn
  simp only at h2
  simp only[rangeFn,hrd,cond_true,hf]
  show(match callV (E0 P) n fv [_] _ with|none=>none|some (_,h1)=>_)=_
  rw[h2]
  simp only[h3,h4,cond_false,h5]
  rfl
 rcases hq with⟨hg,hq⟩|⟨i,hg,hq⟩|⟨hg,hq⟩
 ·exact⟨(.normal,fr,h1.put h.n .dead),⟨N,fun n hn=>st _ _ (get_loop hg) rfl rfl n hn⟩,hq⟩
 ·exact⟨(.exit i,fr,h1.put h.n .dead),⟨N,fun n hn=>st _ _ (get_loop hg) rfl rfl n hn⟩,hq⟩
 ·exact⟨(.ret,fr,h1.put h.n .dead),⟨N,fun n hn=>st _ _ (get_loop hg) rfl rfl n hn⟩,hq⟩
end Go.Id

/-! Weakest preconditions over the ideal machine: appends to slices without room; lengths and parts of slices in regions whose order is open. -/
namespace Go.Id
open Go
theorem append_full {P:Program} {t:TypeId} {sz bytes:Nat} (hT:appT P t=some (sz,bytes)) {h:IH} {b o n:Nat} {cs:List Value} (sv:SlNow h sz (.slice (some ⟨b,o,none⟩) n (2*n+1)) n cs) {x:Value} {m:Nat} {new:List Value} (sx:SlNow h sz x m new) (hm:0<m) (hn:0<n) (hc:new.all cellOK=true) (hsz:(n+m)*(bytes+1)≤1099511627776) :
  append P h t (.slice (some ⟨b,o,none⟩) n (2*n+1)) x=some (.slice (some ⟨2*h.n,0,none⟩) (n+m) (2*(n+m)),h.new (.cells (cs ++ new) sz none)):=by
 unfold appT at hT
 split at hT
 case h_2=>cases hT
 rename_i e hu
 split at hT
 case h_2=>cases hT
 rename_i zs h1 h2 h3
 simp only[cond_eq_ite] at hT
 split at hT
 case isTrue=>cases hT
 rename_i hbad
 cases hT
 have hbad':(sz == 0 || (!(Nat.ble bytes 65536) || !(zs.length == sz)))=false:=by simpa using hbad
 have first : ∀{y:Value} {k:Nat} {l:List Value},0<k→SlNow h sz y k l→firstOf h sz k y=some l∧lenOf y=some k:=by
  intro y k l hk s
  obtain⟨hz,hl,⟨rfl,rfl⟩|⟨b2,o2,k2,rfl,rfl|⟨row,a1,a2,a3⟩⟩⟩:=s
  ·omega
  ·omega
  have hms : ¬k*sz=0:=by
   have:0<k*sz:=Nat.mul_pos hk hz
   omega
  refine⟨?_,rfl⟩
  simp only[firstOf,cond_eq_ite,Nat.ble_eq,Nat.le_refl,if_true,beq_iff_eq,if_neg hms]
  rw[rd_of a1,if_pos a3,a2]
 have hmne:(m == 0)=false:=by simp;omega
 obtain⟨hfx,hlx⟩:=first hm sx
 obtain⟨hfv,_⟩:=first hn sv
 have hble:Nat.ble ((n+m)*(bytes+1)) sizeMost=true:=by rw[Nat.ble_eq];exact hsz
 have hcap:Nat.ble (n+m) ((2*n+1) / 2)=false:=by
  rw[Bool.eq_false_iff];intro hh;rw[Nat.ble_eq] at hh;omega
 have hodd:((2*n+1) % 2 == 1)=true:=by simp
 simp only[Id.append,hu,h1,h2,h3,hlx,hmne,hbad',hfx,hc,hble,hcap,hodd,hfv,cond_true,cond_false,Bool.not_true]
theorem SlOf.slice_same {h h1 h2:IH} {sz:Nat} {v:Value} {n:Nat} {cs:List Value} (s:SlOf h sz v n cs) (k1:Keep h h1) (k2:Keep h h2) {P:Program} {t e:TypeId} (hu:P.underlying t=some (.slice e)) (hT:sizeT P e=some sz) {lo hi mx:Option Value}:sliceOp P h1 t v lo hi mx=sliceOp P h2 t v lo hi mx:=by
 simp only[sliceOp,hu,hT]
 obtain⟨hz,hl,⟨rfl,rfl⟩|⟨b,o,k,rfl,⟨rfl,rfl⟩|⟨a1,a2,row,a3,h3,h4⟩⟩⟩:=s
 ·rfl
 ·simp[resliced]
 ·rcases a3 with a3|⟨a4,a5,f,a6⟩
  ·simp[resliced,a3.2]
  ·obtain⟨f1,g1⟩:=k1.get (b / 2) row sz f (by omega) a6 (by omega)
   obtain⟨f2,g2⟩:=k2.get (b / 2) row sz f (by omega) a6 (by omega)
   have r1:roomy h1 sz (.slice (some ⟨b,o,none⟩) n k)=true:=by simp[roomy,a4,g1]
   have r2:roomy h2 sz (.slice (some ⟨b,o,none⟩) n k)=true:=by simp[roomy,a4,g2]
   rw[r1,r2]
end Go.Id

/-! Weakest preconditions over the ideal machine: two lists that grow side by side. -/
namespace Go.Id
open Go
def AccK (h:IH) (n0 sz:Nat) (v:Value) (n:Nat) (cs:List Value) (k:Nat) (fam:Option Nat):Prop :=
 0<sz∧cs.length=n*sz∧v=.slice (some ⟨2*k,0,none⟩) n (2*n)∧0<n∧n0≤k∧k<h.n∧h.ext.get k=some (.cells cs sz fam)∧TopFam h n0 k fam
theorem AccK.acc {h:IH} {n0 sz:Nat} {v:Value} {n:Nat} {cs:List Value} {k:Nat} {fam:Option Nat} (a:AccK h n0 sz v n cs k fam):Acc h n0 sz v n cs:=⟨a.1,a.2.1,.inr ⟨k,fam,a.2.2⟩⟩
theorem AccK.other {h h':IH} {n0 sz:Nat} {v:Value} {n:Nat} {cs:List Value} {k:Nat} {fam:Option Nat} (a:AccK h n0 sz v n cs k fam) (hn:h.n≤h'.n) (he:h'.ext.get k=h.ext.get k) (hf : ∀f,fam=some f→h'.fams.get f=h.fams.get f):AccK h' n0 sz v n cs k fam:=by
 obtain⟨h1,h2,h3,h4,h5,h6,h7,h8⟩:=a
 refine⟨h1,h2,h3,h4,h5,by omega,by rw[he];exact h7,?_⟩
 cases fam with
 | none=>trivial
 | some f =>
  obtain⟨a1,a2,rest,a3,a4⟩:=h8
  exact⟨a1,by omega,rest,by rw[hf f rfl];exact a3,a4⟩
theorem AccK.app {h:IH} {n0 sz:Nat} {v:Value} {n:Nat} {cs:List Value} {kk:Nat} {fam:Option Nat} (a:AccK h n0 sz v n cs kk fam) {P:Program} {t:TypeId} {bytes:Nat} (hT:appT P t=some (sz,bytes)) {x:Value} {m:Nat} {new:List Value} (sx:SlNow h sz x m new) (hm:0<m)
  (hc:new.all cellOK=true) (hsz:(n+m)*(bytes+1)≤1099511627776) :
  ∃h' f,append P h t v x=some (.slice (some ⟨2*h.n,0,none⟩) (n+m) (2*(n+m)),h')∧AccK h' n0 sz (.slice (some ⟨2*h.n,0,none⟩) (n+m) (2*(n+m))) (n+m) (cs ++ new) h.n (some f)∧(fam=some f∨(fam=none∧f=h.n))∧h'.n=h.n+1∧h'.base=h.base ∧
   (∀j,j<h.n→j≠kk→h'.ext.get j=h.ext.get j)∧h'.ext.get kk=some (.cells cs sz (some f))∧(∀g,g<h.n→fam≠some g→h'.fams.get g=h.fams.get g):=by
 unfold appT at hT
 split at hT
 case h_2=>cases hT
 rename_i e hu
 split at hT
 case h_2=>cases hT
 rename_i zs h1 h2 h3
 simp only[cond_eq_ite] at hT
 split at hT
 case isTrue=>cases hT
 rename_i hbad
 cases hT
 have hbad':(sz == 0 || (!(Nat.ble bytes 65536) || !(zs.length == sz)))=false:=by simpa using hbad
 have hmne:(m == 0)=false:=by simp;omega
 have hln:new.length=m*sz∧firstOf h sz m x=some new∧lenOf x=some m:=by
  obtain⟨hz,hl,⟨rfl,rfl⟩|⟨b2,o2,k2,rfl,rfl|⟨row,a1,a2,a3⟩⟩⟩:=sx
  ·omega
  ·omega
  have hms : ¬m*sz=0:=by
   have:0<m*sz:=Nat.mul_pos hm hz
   omega
  refine⟨hl,?_,rfl⟩
  simp only[firstOf,cond_eq_ite,Nat.ble_eq,Nat.le_refl,if_true,beq_iff_eq,if_neg hms]
  rw[rd_of a1,if_pos a3,a2]
 obtain⟨hln,hfirst,hlx⟩:=hln
 obtain⟨hz,hl,rfl,hn,g1,g2,g3,g4⟩:=a
 have hble:Nat.ble ((n+m)*(bytes+1)) sizeMost=true:=by rw[Nat.ble_eq];exact hsz
 have hcap:Nat.ble (n+m) (2*n / 2)=false:=by
  rw[Bool.eq_false_iff];intro hh;rw[Nat.ble_eq] at hh;omega
 have hodd:(2*n % 2 == 1)=false:=by simp
 have hlen:(n == 2*n / 2 && Nat.blt 0 n && (2*kk) % 2 == 0)=true:=by
  have:2*n / 2=n:=by omega
  simp[this,Nat.blt,Nat.ble_eq];omega
 have hend:(0+n*sz == cs.length && sz == sz)=true:=by simp[hl]
 have hk2:2*kk / 2=kk:=by omega
 have body : ∀f below,(∀j∈below,n0≤j)→(n0≤f)→f<h.n+1→(∀g,g<h.n→fam≠some g→g≠f) →
   AccK (grown h kk f cs sz [] below (cs.drop 0 ++ new) sz) n0 sz (.slice (some ⟨2*h.n,0,none⟩) (n+m) (2*(n+m))) (n+m) (cs ++ new) h.n (some f)∧(grown h kk f cs sz [] below (cs.drop 0 ++ new) sz).n=h.n+1∧(grown h kk f cs sz [] below (cs.drop 0 ++ new) sz).base=h.base ∧
   (∀j,j<h.n→j≠kk→(grown h kk f cs sz [] below (cs.drop 0 ++ new) sz).ext.get j=h.ext.get j)∧(grown h kk f cs sz [] below (cs.drop 0 ++ new) sz).ext.get kk=some (.cells cs sz (some f))∧(∀g,g<h.n→fam≠some g→(grown h kk f cs sz [] below (cs.drop 0 ++ new) sz).fams.get g=h.fams.get g):=by
  intro f below hbl hf1 hf2 hf3
  have hget : ∀j,(grown h kk f cs sz [] below (cs.drop 0 ++ new) sz).ext.get j=if j=h.n then some (.cells (cs ++ new) sz (some f)) else if j=kk then some (.cells cs sz (some f)) else h.ext.get j:=by
   intro j
   simp[grown,IH.killAll,Tr.get_set]
  refine⟨⟨hz,by simp[hl,hln,Nat.add_mul],rfl,by omega,by omega,by simp[grown],by rw[hget,if_pos rfl],hf1,by simp[grown];omega,kk :: below,?_,fun j hj=>?_⟩,by simp[grown],rfl,fun j hj hne=>?_,?_,fun g hg hgf=>?_⟩
  ·simp[grown,Tr.get_set]
  ·rcases List.mem_cons.1 hj with rfl|hj
   ·exact g1
   ·exact hbl j hj
  ·rw[hget,if_neg (by omega),if_neg hne]
  ·rw[hget,if_neg (by omega),if_pos rfl]
  ·simp only[grown,Tr.get_set]
   rw[if_neg (hf3 g hg hgf)]
 cases fam with
 | none =>
  obtain⟨b1,b2,b3,b4,b5,b6⟩:=body h.n [] (fun _ h=>by cases h) (by omega) (by omega) (fun g hg _=>by omega)
  refine⟨_,h.n,?_,b1,.inr ⟨rfl,rfl⟩,b2,b3,b4,b5,b6⟩
  simp only[Id.append,hu,h1,h2,h3,hlx,hmne,hbad',hfirst,hc,hble,hcap,hodd,hlen,hk2,g3,hend,cond_true,cond_false,Bool.not_true]
 | some f =>
  obtain⟨f1,f2,rest,f3,f4⟩:=g4
  obtain⟨b1,b2,b3,b4,b5,b6⟩:=body f rest f4 f1 (by omega) (fun g hg hne e=>hne (by rw[e]))
  refine⟨_,f,?_,b1,.inl rfl,b2,b3,b4,b5,b6⟩
  have t1:(kk :: rest).takeWhile (· != kk) = []:=by simp
  have t2:((kk :: rest).dropWhile (· != kk)).drop 1=rest:=by simp
  simp only[Id.append,hu,h1,h2,h3,hlx,hmne,hbad',hfirst,hc,hble,hcap,hodd,hlen,hk2,g3,hend,f3,t1,t2,cond_true,cond_false,Bool.not_true]
def Acc2 (h:IH) (n0 sz:Nat) (v w:Value) (n:Nat) (cs ds:List Value):Prop :=
 (v=.slice none 0 0∧w=.slice none 0 0∧n=0∧cs = []∧ds = []) ∨
 ∃k fam j gam,AccK h n0 sz v n cs k fam∧AccK h n0 sz w n ds j gam∧k≠j ∧ ∀f,fam=some f→gam≠some f
theorem Acc2.sl {h:IH} {n0 sz:Nat} {v w:Value} {n:Nat} {cs ds:List Value} (hz:0<sz) (a:Acc2 h n0 sz v w n cs ds):SlOf h sz v n cs∧SlOf h sz w n ds:=by
 rcases a with⟨rfl,rfl,rfl,rfl,rfl⟩|⟨k,fam,j,gam,a,b,_⟩
 ·exact⟨SlOf.nil _ hz,SlOf.nil _ hz⟩
 ·exact⟨a.acc.sl,b.acc.sl⟩
theorem Acc2.ext {h h':IH} {n0 sz:Nat} {v w:Value} {n:Nat} {cs ds:List Value} (a:Acc2 h n0 sz v w n cs ds) (e:Ext h h'):Acc2 h' n0 sz v w n cs ds:=by
 rcases a with a|⟨k,fam,j,gam,a,b,c⟩
 ·exact .inl a
 ·have hf : ∀{k:Nat} {fam:Option Nat} {v:Value} {cs:List Value},AccK h n0 sz v n cs k fam→AccK h' n0 sz v n cs k fam:=fun a=>a.other e.n (e.get _ a.2.2.2.2.2.1) fun f hf=>e.fams f (by
   obtain⟨_,_,_,_,_,_,_,t⟩:=a
   subst hf
   exact t.2.1)
  exact .inr ⟨k,fam,j,gam,hf a,hf b,c⟩
end Go.Id

/-! Contracts: bracket.At. -/
namespace Go.Id
open Go
end Go.Id

/-! The greatest and the least of two numbers. -/
namespace Go.Id
open Go
theorem min_kk (P:Program) (h:IH) (ts:Array TypeId) (k:IntKind) (a b:Int):builtin P h .min ts [.int k a,.int k b]=some (.int k (if b<a then b else a),h):=by
 have h1:pureRun P (Builtin.min_ ts 0 #[.int k a,.int k b])=some (.int k (if b<a then b else a)):=by
  unfold Builtin.min_
  simp
  rfl
 show(bif [Value.int k a,Value.int k b].all plain then (pureVal P (Builtin.min_ ts 0 #[.int k a,.int k b])).map (·,h) else none)=_
 simp only[pureVal,h1]
 rfl
end Go.Id

/-! Contracts: drafted censuses; the greatest of a list. -/
namespace Go.Id
open Go
abbrev B8 (n:Nat):Value:=.int .u8 (n:Int)
abbrev B16 (n:Nat):Value:=.int .u16 (n:Int)
def cenN (u p:Nat):Int:=if u % 3=0 then ((p % 12:Nat):Int) else ((p*u:Nat):Int)
def cenL (u:Nat) (ps:List Nat):List Int:=(ps.take 8).map (cenN u)
def census (u:Nat) (ps:List Nat):List Int:=if (cenL u ps).sum=0 then cenL u ps ++ [1] else cenL u ps
theorem cenN_le {u p:Nat} (hu:u<256) (hp:p<65536):0≤cenN u p∧cenN u p≤16711425:=by
 have:p*u≤65535*255:=Nat.mul_le_mul (by omega) (by omega)
 unfold cenN
 split<;>omega
structure Dr6 (h:IH) (x:Value) (ps ls:List Nat) (u s:Nat):Prop where
 ex : ∃vp vl,x=.agg #[vp,B8 u,vl,B16 s]∧SlOf h 1 vp ps.length (ps.map B16)∧SlOf h 1 vl ls.length (ls.map B8)
 bp : ∀p∈ps,p<65536
 bl : ∀p∈ls,p<256
 bu:u<256
 bs:s<65536
 lp:ps.length<9223372036854775808
 ll:ls.length<9223372036854775808
theorem Dr6.keep {h h':IH} {x:Value} {ps ls:List Nat} {u s:Nat} (d:Dr6 h x ps ls u s) (e:Keep h h'):Dr6 h' x ps ls u s:=by
 obtain⟨⟨vp,vl,a,b,c⟩,d1,d2,d3,d4,d5,d6⟩:=d
 exact⟨⟨vp,vl,a,b.keep e,c.keep e⟩,d1,d2,d3,d4,d5,d6⟩
theorem map_getN {f:Nat→Value} {l:List Nat} {i:Nat} {p:Nat} (h:l[i]?=some p):(l.map f)[i]?=some (f p):=by rw[List.getElem?_map,h];rfl
theorem cenL_succ {u:Nat} {ps:List Nat} {i p:Nat} (h:ps[i]?=some p) (h8:i<8):cenL u (ps.take (i+1))=cenL u (ps.take i) ++ [cenN u p]:=by
 unfold cenL
 rw[List.take_take,List.take_take,show min 8 (i+1)=i+1 from by omega,show min 8 i=i from by omega,List.take_add_one,h]
 simp
theorem cenL_all {u:Nat} {ps:List Nat}:cenL u (ps.take (min ps.length 8))=cenL u ps:=by
 unfold cenL
 rw[List.take_take]
 rcases Nat.lt_or_ge ps.length 8 with h|h
 ·rw[List.take_of_length_le (by omega),List.take_of_length_le (by omega)]
 ·rw[show min 8 (min ps.length 8)=8 from by omega]
theorem cenL_bound {u:Nat} {ps:List Nat} (hu:u<256) (hp : ∀p∈ps,p<65536):(∀n∈cenL u ps,0≤n∧n≤1000000000)∧(cenL u ps).length≤8:=by
 refine⟨fun n hn=>?_,by unfold cenL;rw[List.length_map,List.length_take];omega⟩
 obtain⟨p,h1,rfl⟩:=List.mem_map.1 hn
 have:=cenN_le hu (hp p (List.mem_of_mem_take h1))
 omega
set_option maxHeartbeats 2000000 in
theorem census_ok {h:IH} {x:Value} {ps ls:List Nat} {u s:Nat} (hx:Dr6 h x ps ls u s) :
  WV Proofs.Tryz.prog (.func (.func 9) #[] #[]) [x] h fun r h'=>Ext h h'∧SlOf h' 1 r (census u ps).length ((census u ps).map KI):=by
 obtain⟨⟨vp,vl,rfl,sp,sl⟩,bp,bl,hu,hs,lp,ll⟩:=hx
 refine enter (nt:=48) (rs:=[.tmp 2]) Proofs.Tryz.func9 rfl rfl rfl (by simp) ?_
 simp -dsimp (disch:=omega) only[wpS]
 obtain⟨H0,hH0⟩ : ∃H,H=h.new (.cells [vp,B8 u,vl,B16 s] 0 none):=⟨_,rfl⟩
 have E0:Ext h H0:=by rw[hH0];exact(Ext.refl h).new _
 have g0:H0.ext.get h.n=some (.cells [vp,B8 u,vl,B16 s] 0 none):=by rw[hH0];simp (disch:=first|omega|(simp only[new_n,put_n];omega)|(repeat first|rw[new_n]|rw[put_n])) only[get_new_same]
 have n0:H0.n=h.n+1:=by rw[hH0];simp
 rw[←hH0]
 clear hH0
 refine loop (fun m fr hh => ∃(i:Nat) (v:Value),i+m=min ps.length 8∧Ext H0 hh∧Acc hh H0.n 1 v i ((cenL u (ps.take i)).map KI)∧fget fr 1=some (ptr (2*h.n) 0)∧fget fr 3=some v∧fget fr 4=some (KI (cenL u (ps.take i)).sum)∧fget fr 5=some (KN i)) (min ps.length 8)
  ⟨0,.slice none 0 0,by omega,Ext.refl _,Acc.nil _ _ (sz:=1) (by decide),by simp,by simp,by simp[cenL],by simp⟩ ?_
 rintro m fr hh ⟨i,v,him,E,A,f1,f3,f4,f5⟩
 have g1:=E.kept (by omega) g0
 have P0:=(sp.keep (E0.trans E).keep).now
 have bt:=cenL_bound (u:=u) (ps:=ps.take i) hu (fun p hp=>bp p (List.mem_of_mem_take hp))
 have bsum:=sum_bound _ bt.1
 have hcl:(cenL u (ps.take i)).length≤8:=bt.2
 by_cases c:i<ps.length
 ·by_cases c8:i<8
  ·obtain⟨p,hp⟩ : ∃p,ps[i]?=some p:=⟨_,List.getElem?_eq_getElem c⟩
   have hpb:=bp p (List.mem_of_getElem? hp)
   have hN:=cenN_le hu hpb
   have lP:=P0.ld (P:=Proofs.Tryz.prog) (t:=24) (c:=i) (by simp<;>omega) ag24
   rw[map_getN hp] at lP
   have e3:(u:Int) % 3=((u % 3:Nat):Int):=by omega
   have e12:(p:Int) % 12=((p % 12:Nat):Int):=by omega
   simp -dsimp (disch:=omega) only[wpS,wpT,Nat.reduceEqDiff,fa26_0,ld22,cv24_3,fa26_1,ld5,f1,f5,row_of g1,P0.len sl22,P0.idx es22 c,lP,e3]

   refine bq_cut (fun fr2 h2=>h2=hh∧fget fr2 1=some (ptr (2*h.n) 0)∧fget fr2 3=some v∧fget fr2 4=some (KI (cenL u (ps.take i)).sum)∧fget fr2 5=some (KN i)∧fget fr2 6=some (KI (cenN u p))) (fun hc=>?_) (fun hc=>?_) ?_
   ·have hz:u % 3=0:=by simp at hc;omega
    simp -dsimp (disch:=omega) only[wpS,wpT,Nat.reduceEqDiff,e12]
    exact⟨rfl,by simp[f1],by simp[f3],by simp[f4],by simp[f5],by rw[cenN,if_pos hz];simp⟩
   ·have hz : ¬u % 3=0:=by simp at hc;omega
    have em:IntKind.i64.wrap ((p:Int)*(u:Int))=((p*u:Nat):Int):=by
     have:p*u≤65535*255:=Nat.mul_le_mul (by omega) (by omega)
     rw[←Int.natCast_mul,wrap_i64 (by omega)]
    simp -dsimp (disch:=omega) only[wpS,wpT,Nat.reduceEqDiff,fa26_1,ld5,cv5_3,f1,row_of g1,em]
    exact⟨rfl,by simp[f1],by simp[f3],by simp[f4],by simp[f5],by rw[cenN,if_neg hz];simp⟩
   ·rintro fr2 _ ⟨rfl,f1,f3,f4,f5,f6⟩
    have En:=E.n
    obtain⟨v',h5,hap,A5,G5,E5⟩:=A.app1 (P:=Proofs.Tryz.prog) (t:=29) ap29 (x:=KI (cenN u p)) rfl (by omega) (by omega) E (Nat.le_refl _)
    have e2:IntKind.i64.wrap ((i:Int)+1)=((i+1:Nat):Int):=by rw[wrap_i64 (by omega)];omega
    have es:IntKind.i64.wrap ((cenL u (ps.take i)).sum+cenN u p)=(cenL u (ps.take (i+1))).sum:=by
     rw[cenL_succ hp c8,List.sum_append,wrap_i64 (by omega)];simp
    simp -dsimp (disch:=omega) only[wpS,wpT,Nat.reduceEqDiff,Nat.reduceLeDiff,Nat.reduceAdd,bs29,ba29_29,f3,f4,f5,f6,hap,e2,es]
    refine⟨m - 1,by omega,i+1,v',by omega,E5,?_,by simp[f1],by simp,by simp,by simp⟩
    rw[cenL_succ hp c8,List.map_append]
    exact A5
  ·have him2:i=min ps.length 8:=by omega
   have e0:cenL u (ps.take i)=cenL u ps:=by rw[him2];exact cenL_all
   have hli:(cenL u ps).length=i:=by unfold cenL;rw[List.length_map,List.length_take];omega
   have En:=E.n
   rw[e0] at A bsum f4
   simp -dsimp (disch:=omega) only[wpS,wpT,Nat.reduceEqDiff,fa26_0,ld22,f1,f4,f5,row_of g1,P0.len sl22]
   refine bq_intro (fun hc=>?_) (fun hc=>?_)
   ·have hz:(cenL u ps).sum=0:=by simpa using hc
    obtain⟨v',h5,hap,A5,G5,E5⟩:=A.app1 (P:=Proofs.Tryz.prog) (t:=29) ap29 (x:=KI 1) rfl (by omega) (by omega) E (Nat.le_refl _)
    simp -dsimp (disch:=omega) only[wpS,wpT,Nat.reduceEqDiff,Nat.reduceLeDiff,Nat.reduceAdd,bs29,ba29_29,f3,hap]
    refine⟨E0.trans E5,?_⟩
    have e9:census u ps=cenL u ps ++ [1]:=by unfold census;rw[if_pos hz]
    rw[e9,List.map_append,List.length_append,hli]
    exact A5.sl
   ·have hz : ¬(cenL u ps).sum=0:=by simpa using hc
    simp -dsimp (disch:=omega) only[wpS,wpT,Nat.reduceEqDiff,f3]
    refine⟨E0.trans E,?_⟩
    have e9:census u ps=cenL u ps:=by unfold census;rw[if_neg hz]
    rw[e9,hli]
    exact A.sl
 ·have him2:i=min ps.length 8:=by omega
  have e0:cenL u (ps.take i)=cenL u ps:=by rw[him2];exact cenL_all
  have hli:(cenL u ps).length=i:=by unfold cenL;rw[List.length_map,List.length_take];omega
  have En:=E.n
  rw[e0] at A bsum f4
  simp -dsimp (disch:=omega) only[wpS,wpT,Nat.reduceEqDiff,fa26_0,ld22,f1,f4,f5,row_of g1,P0.len sl22]
  refine bq_intro (fun hc=>?_) (fun hc=>?_)
  ·have hz:(cenL u ps).sum=0:=by simpa using hc
   obtain⟨v',h5,hap,A5,G5,E5⟩:=A.app1 (P:=Proofs.Tryz.prog) (t:=29) ap29 (x:=KI 1) rfl (by omega) (by omega) E (Nat.le_refl _)
   simp -dsimp (disch:=omega) only[wpS,wpT,Nat.reduceEqDiff,Nat.reduceLeDiff,Nat.reduceAdd,bs29,ba29_29,f3,hap]
   refine⟨E0.trans E5,?_⟩
   have e9:census u ps=cenL u ps ++ [1]:=by unfold census;rw[if_pos hz]
   rw[e9,List.map_append,List.length_append,hli]
   exact A5.sl
  ·have hz : ¬(cenL u ps).sum=0:=by simpa using hc
   simp -dsimp (disch:=omega) only[wpS,wpT,Nat.reduceEqDiff,f3]
   refine⟨E0.trans E,?_⟩
   have e9:census u ps=cenL u ps:=by unfold census;rw[if_neg hz]
   rw[e9,hli]
   exact A.sl
end Go.Id

/-! Contracts: the reference's valid shares. -/
namespace Go.Id
open Go
theorem one_ok {h:IH} {v:Value} {z:Int} (hv:LongIs h v z):WV Proofs.Tryz.prog (.func (.func 148) #[] #[]) [v] h fun r h'=>Ext h h'∧r=.bool (decide (z=1)):=by
 obtain⟨s,rfl,ds,hD,hN,hx⟩:=hv
 have E1:Ext h (h.new (.cells [.bool (decide (z<0)),s] 0 none)):=(Ext.refl h).new _
 refine enter (nt:=19) (rs:=[.tmp 2]) Proofs.Tryz.func148 rfl rfl rfl (by simp) ?_
 by_cases h1:ds.length=1
 ·obtain⟨x,rfl⟩:=List.length_eq_one_iff.1 h1
  have hv:valD [x]=x:=by simp[valD,valT]
  rw[hv] at hx
  have ib:indexAddr Proofs.Tryz.prog 29 s (.int .i64 0)=some (elemAddr s 0):=by
   simpa using hD.1.idxI (P:=Proofs.Tryz.prog) (t:=29) es29 (k:=.i64) (i:=0) (by omega) (by simp)
  have l0:load Proofs.Tryz.prog (h.new (.cells [.bool (decide (z<0)),s] 0 none)) 3 (elemAddr s 0)=some (KN x):=hD.1.ld E1.keep (P:=Proofs.Tryz.prog) (t:=3) (c:=0) (by simp) ag3
  have hl:=fun h'=>hD.1.len (P:=Proofs.Tryz.prog) sl29 h'
  have hl' : ∀h',lenB Proofs.Tryz.prog h' 29 s=some (.int .i64 1):=fun h'=>hl h'
  by_cases hx1:x=1
  ·subst hx1
   have l0':load Proofs.Tryz.prog (h.new (.cells [.bool (decide (z<0)),s] 0 none)) 3 (elemAddr s 0)=some (KI 1):=l0
   simp -dsimp (disch:=omega) only[wpS,wpT,Nat.reduceEqDiff,fa133_1,ld29,fa133_0,ld4,hl',ib,l0']
   refine⟨E1,congrArg Value.bool ?_⟩
   by_cases h0:z<0
   ·rw[decide_eq_true h0,decide_eq_false (by omega)];rfl
   ·rw[decide_eq_false h0,decide_eq_true (by omega)];rfl
  ·have c1:((x:Int) == 1)=false:=by simp;omega
   simp -dsimp (disch:=omega) only[wpS,wpT,Nat.reduceEqDiff,fa133_1,ld29,hl',ib,l0,c1]
   exact⟨E1,by rw[decide_eq_false (by omega)]⟩
 ·have c1:((ds.length:Int) == 1)=false:=by simp;omega
  simp -dsimp (disch:=omega) only[wpS,wpT,Nat.reduceEqDiff,fa133_1,ld29,hD.1.len sl29,c1]
  refine⟨E1,?_⟩
  rw[decide_eq_false]
  rintro rfl
  have h2:valD ds=1:=hx
  have h3:=hN.len_le (b:=[1]) (by intro d hd;simp at hd;omega) (by rw[h2];simp[valD,valT])
  have h4:=hN.nil_iff
  rcases Nat.lt_or_ge 0 ds.length with h5|h5
  ·simp at h3;omega
  ·have:ds = []:=List.length_eq_zero_iff.1 (by omega)
   rw[this] at h2;simp[valD,valT] at h2
set_option maxHeartbeats 2000000 in
theorem refright_ok {h:IH} (n d:Nat) (hn:n<W8) (hd:d<W8):WV Proofs.Tryz.prog (.func (.func 116) #[] #[]) [shV n d] h fun r h'=>Ext h h'∧r=.bool (decide (okS n d)):=by
 refine enter (nt:=26) (rs:=[.tmp 2]) Proofs.Tryz.func116 rfl rfl rfl (by simp) ?_
 simp -dsimp (maxSteps:=1000000) (disch:=first|omega|(simp only[new_n,put_n];omega)|decide +kernel|(repeat first|rw[new_n]|rw[put_n])) only[wpS,shV_cells]
 obtain⟨H0,hH0⟩ : ∃H0,H0=h.new (.cells (shC n d) 0 none):=⟨_,rfl⟩
 have E0:Ext h H0:=by rw[hH0];exact(Ext.refl h).new _
 have n0:H0.n=h.n+1:=by rw[hH0];rfl
 have g0:H0.ext.get h.n=some (.cells (shC n d) 0 none):=by rw[hH0];simp (disch:=first|omega|(simp only[new_n,put_n];omega)|(repeat first|rw[new_n]|rw[put_n])) only[get_new_same]
 rw[←hH0]
 clear hH0
 have X0:=Ext.refl H0
 obtain⟨L1,L2,_⟩:=psh g0
 refine drawn [(4,[2])] (by kernel_rfl) (by kernel_rfl) rfl ?_
 simp -dsimp (maxSteps:=1000000) (disch:=first|omega|(simp only[new_n,put_n];omega)|decide +kernel|(repeat first|rw[new_n]|rw[put_n])) only[wpS,Nat.reduceEqDiff,Nat.reduceLeDiff,fa47_0,ld45,row_of g0,shC_len,sh_take1]
 refine call (in_ok n hn) ?_
 rintro _ h1 ⟨X1,p1⟩
 have m1:=X1.n
 simp -dsimp (maxSteps:=1000000) (disch:=first|omega|(simp only[new_n,put_n];omega)|decide +kernel|(repeat first|rw[new_n]|rw[put_n])) only[wpS,Nat.reduceEqDiff,Nat.reduceLeDiff,Nat.reduceAdd,ld45,fa47_1,row_of (X1.kept (by omega) g0),shC_len,sh_take2]
 refine call (in_ok d hd) ?_
 rintro _ h2 ⟨X2,p2⟩
 have m2:=X2.n
 have X12:=X1.trans X2
 obtain⟨s1,n1',rfl,c1,o1,_,_⟩:=p1.form
 obtain⟨s2,n2',rfl,c2,o2,lenD,zD⟩:=p2.form
 simp -dsimp (maxSteps:=1000000) (disch:=first|omega|(simp only[new_n,put_n];omega)|decide +kernel|(repeat first|rw[new_n]|rw[put_n])) only[wpS,wpT,Nat.reduceEqDiff,Nat.reduceLeDiff,Nat.reduceAdd,zc133,st133,o1,o2]
 refine⟨by repeat' first|refine wpSteady_c2 ?_ ?_|refine wpSteady_t2 ?_ ?_|exact wpSteady_one rfl rfl rfl rfl (steady_ext (H0:=H0) rfl (by omega) (by assumption) (by assumption) (by with_reducible assumption)),?_⟩
 obtain⟨K0,hK0⟩ : ∃K0,K0=((((h2.new (.cells ZL 0 none)).new (.cells ZL 0 none)).put h2.n (.cells [.bool (decide (wdI n<0)),s1] 0 none)).put (h2.n+1) (.cells [.bool (decide (wdI d<0)),s2] 0 none)):=⟨_,rfl⟩
 have e3:Ext h2 K0:=by rw[hK0];exact((((Ext.refl _).new _).new _).put (Nat.le_refl _) _).put (by omega) _
 have n3:K0.n=h2.n+2:=by rw[hK0];rfl
 have ga:K0.ext.get h2.n=some (.cells [.bool (decide (wdI n<0)),s1] 0 none):=by rw[hK0];simp (disch:=first|omega|(simp only[new_n,put_n];omega)|(repeat first|rw[new_n]|rw[put_n])) only[get_put_same,get_put_old]
 have gb:K0.ext.get (h2.n+1)=some (.cells [.bool (decide (wdI d<0)),s2] 0 none):=by rw[hK0];simp (disch:=first|omega|(simp only[new_n,put_n];omega)|(repeat first|rw[new_n]|rw[put_n])) only[get_put_same]
 simp -dsimp (maxSteps:=1000000) (disch:=first|omega|(simp only[new_n,put_n];omega)|decide +kernel|(repeat first|rw[new_n]|rw[put_n])) only[wpS,wpT,Nat.reduceEqDiff,Nat.reduceAdd,fa133_0,ld4]
 rw[←hK0]
 clear hK0
 have q1:=p1.keep (X2.trans e3).keep
 have q2:=p2.keep e3.keep
 have E3:=(E0.trans X12).trans e3
 by_cases hneg:wdI d<0
 ·have cn:decide (wdI d<0)=true:=decide_eq_true hneg
  rw[cn] at gb
  simp -dsimp (maxSteps:=1000000) (disch:=first|omega|(simp only[new_n,put_n];omega)|decide +kernel|(repeat first|rw[new_n]|rw[put_n])) only[wpS,wpT,Nat.reduceEqDiff]
  exact⟨E3,by rw[decide_eq_false (fun h=>by have:=h.1;omega)]⟩
 ·have cn:decide (wdI d<0)=false:=decide_eq_false hneg
  rw[cn] at gb q2
  by_cases hz:wdI d=0
  ·have c0:decide ((0:Int)<(n2':Int))=false:=decide_eq_false (by have:=zD.2 hz;omega)
   simp -dsimp (maxSteps:=1000000) (disch:=first|omega|(simp only[new_n,put_n];omega)|decide +kernel|(repeat first|rw[new_n]|rw[put_n])) only[wpS,wpT,Nat.reduceEqDiff,fa133_1,ld29,row_of gb,lenD sl29,c0]
   exact⟨E3,by rw[decide_eq_false (fun h=>by have:=h.1;omega)]⟩
  ·have c0:decide ((0:Int)<(n2':Int))=true:=decide_eq_true (by
    have:n2'≠0:=fun h=>hz (zD.1 h)
    omega)
   simp -dsimp (maxSteps:=1000000) (disch:=first|omega|(simp only[new_n,put_n];omega)|decide +kernel|(repeat first|rw[new_n]|rw[put_n])) only[wpS,wpT,Nat.reduceEqDiff,Nat.reduceLeDiff,Nat.reduceAdd,fa133_1,ld29,ld133,row_of ga,row_of gb,lenD sl29,c0,tk2']
   refine call (divisor_ok q1 q2 (wdI_small hn) (wdI_small hd)) ?_
   rintro g h4 ⟨X4,hg⟩
   simp -dsimp (maxSteps:=1000000) (disch:=first|omega|(simp only[new_n,put_n];omega)|decide +kernel|(repeat first|rw[new_n]|rw[put_n])) only[wpS,wpT,Nat.reduceEqDiff]
   refine call (one_ok hg) ?_
   rintro _ h5 ⟨X5,rfl⟩
   simp -dsimp (maxSteps:=1000000) (disch:=first|omega|(simp only[new_n,put_n];omega)|decide +kernel|(repeat first|rw[new_n]|rw[put_n])) only[wpS,Nat.reduceEqDiff]
   refine⟨(E3.trans X4).trans X5,congrArg Value.bool ?_⟩
   rw[decide_eq_decide]
   unfold okS
   constructor
   ·intro h;exact⟨by omega,by omega⟩
   ·rintro⟨_,h⟩;omega
end Go.Id

/-! Contracts: the greatest of a list; fractions of whole numbers. -/
namespace Go.Id
open Go
def maxL:List Int→Int
 | []=>0
 | a :: l=>l.foldl max a
theorem le_maxL : ∀(l:List Int) (x:Int),x∈l→x≤maxL l
 | [],x,h=>by cases h
 | a :: l,x,h=>by
  have g : ∀(l:List Int) (b x:Int),(x=b∨x∈l)→x≤l.foldl max b:=by
   intro l
   induction l with
   | nil=>intro b x h;simp at h;simp[h]
   | cons c l ih =>
    intro b x h
    rw[List.foldl_cons]
    rcases h with rfl|h
    ·have:=ih (max x c) (max x c) (.inl rfl);omega
    ·rcases List.mem_cons.1 h with rfl|h
     ·have:=ih (max b x) (max b x) (.inl rfl);omega
     ·exact ih _ _ (.inr h)
  exact g l a x (by simpa using h)
theorem maxL_mem : ∀(l:List Int),l ≠ []→maxL l∈l
 | [],h=>absurd rfl h
 | a :: l,_=>by
  have g : ∀(l:List Int) (b:Int),l.foldl max b=b∨l.foldl max b∈l:=by
   intro l
   induction l with
   | nil=>intro b;exact .inl rfl
   | cons c l ih =>
    intro b
    rw[List.foldl_cons]
    rcases ih (max b c) with h|h
    ·rcases(by omega:max b c=b∨max b c=c) with h2|h2
     ·exact .inl (h.trans h2)
     ·exact .inr (by rw[h,h2];exact List.mem_cons_self)
    ·exact .inr (List.mem_cons_of_mem _ h)
  rcases g l a with h|h
  ·show l.foldl max a∈_;rw[h];exact List.mem_cons_self
  ·exact List.mem_cons_of_mem _ h
end Go.Id

/-! What a divisor gives: numbers that fall with it. -/
namespace Go.Id
open Go
structure Dvs (top d:Int) (x:Rat):Prop where
 bt:1≤top∧top≤1000000000
 bd:1≤d∧d≤500
 eq:x=Rat.divInt top d
theorem Dvs.pos {top d:Int} {x:Rat} (v:Dvs top d x):0<x:=by
 have h1:(0:Rat)<(top:Rat):=by exact_mod_cast (by have:=v.bt;omega:(0:Int)<top)
 have h2:(0:Rat)<(d:Rat):=by exact_mod_cast (by have:=v.bd;omega:(0:Int)<d)
 rw[v.eq,Rat.divInt_eq_div,Rat.lt_div_iff h2]
 grind
end Go.Id

/-! Tables of functions whose values are known; what a closed function gives. -/
namespace Go.Id
open Go
noncomputable section
def tbOf (l:List (FuncId×(List Value→Option Value))) (f:FuncId):Option (List Value→Option Value):=List.rec (motive:=fun _=>Option (List Value→Option Value)) none (fun p _ ih=>iB (Nat.beq f p.1) (some p.2) ih) l
def EntryOK (P:Program) (f:FuncId) (g:List Value→Option Value):Prop :=
 (∃fn,P.funcs[f]?=some fn∧fn.body.isSome=true) ∧ ∀args v,args.all plain=true→g args=some v→plainT v=true∧Gives P f args v
theorem tbOf_mem : ∀{l:List (FuncId×(List Value→Option Value))} {f:FuncId} {g:List Value→Option Value},tbOf l f=some g→(f,g)∈l
 | [],_,_,h=>by cases h
 | p :: l,f,g,h=>by
  change iB (Nat.beq f p.1) (some p.2) (tbOf l f)=some g at h
  rw[iB_eq] at h
  cases hb:Nat.beq f p.1 with
  | true =>
   rw[hb] at h;cases h
   have:=Nat.beq_eq.mp hb
   subst this
   exact List.mem_cons_self
  | false =>
   rw[hb] at h
   exact List.mem_cons_of_mem _ (tbOf_mem h)
theorem sound_tb {P:Program} (S:Sound (E0 P)) {l:List (FuncId×(List Value→Option Value))} (h : ∀p∈l,EntryOK P p.1 p.2):Sound (E1 P (tbOf l)) :=
 sound1 S (fun f g hg=>(h _ (tbOf_mem hg)).1) (fun f g hg=>(h _ (tbOf_mem hg)).2)
theorem entry_wv {P:Program} (S:Sound (E0 P)) {f:FuncId} {fn:Func} (hf:P.funcs[f]?=some fn) (hb:fn.body.isSome=true) {g:List Value→Option Value}
  (h : ∀args v,args.all plain=true→g args=some v→plainT v=true∧WV P (.func (.func f) #[] #[]) args (IH.start fun _=>none) fun r _=>r=v):EntryOK P f g :=
 ⟨⟨fn,hf,hb⟩,fun args v hp e=>⟨(h args v hp e).1,gives_wv S ⟨fn,hf,hb⟩ hp (h args v hp e).2⟩⟩
def okT (args:List Value):Option Value:=match args with
 | []=>some (.bool true)
 | _=>none
theorem entry_true {E:Env} (S:Sound E) {n:Nat} {f:FuncId} {fn:Func} (hf:E.P.funcs[f]?=some fn) (hb:fn.body.isSome=true) (h:boolF E (n+1) f (fun _=>none)=true):EntryOK E.P f okT:=by
 refine⟨⟨fn,hf,hb⟩,fun args v hp e=>?_⟩
 unfold okT at e
 split at e
 ·cases e
  obtain⟨h',hr⟩:=boolF_true h
  exact⟨rfl,gives_run S hr ⟨fn,hf,hb⟩ hp⟩
 ·cases e
end
end Go.Id

/-! The ideal machine: a function's body in parts, each under a machine of its own. -/
namespace Go.Id
open Go
def Follows (P:Program) (f:FuncId) (nt:Nat) (run:Fr→IH→Out) (c:Code):Prop :=
 (∀fr h e fr' h',run fr h=some (e,fr',h')→h.n≤h'.n) ∧ ∀(b:Frame) (z B:Nat) (w0:World) (cs:List Frame),b.fn=f→SimCode (E0 P) run b none B w0 z nt cs c
theorem follows_code {E:Env} (S:Sound E) (n:Nat) (f:FuncId) (nt:Nat) (c:Code):Follows E.P f nt (evC E (callV E n) f nt none n c) c:=by
 refine⟨fun fr h e fr' h' hr=>evC_n (callV_mono S n) _ _ _ _ _ _ hr,fun b z B w0 cs hb=>?_⟩
 subst hb
 exact sim_code (E:=E) (callV_sim S n) (callV_mono S n) S.mixed n c
def seqR (ra rb:Fr→IH→Out):Fr→IH→Out:=fun fr h=>match ra fr h with
 | some (.normal,fr,h)=>rb fr h
 | o=>o
theorem follows_seq {P:Program} {f:FuncId} {nt:Nat} {ra rb:Fr→IH→Out} {x y:Code} (hx:Follows P f nt ra x) (hy:Follows P f nt rb y):Follows P f nt (seqR ra rb) (.seq x y):=by
 refine⟨fun fr h e fr' h' hr=>?_,fun b z B w0 cs hb=>?_⟩
 ·unfold seqR at hr
  split at hr
  ·rename_i hx1
   exact Nat.le_trans (hx.1 _ _ _ _ _ hx1) (hy.1 _ _ _ _ _ hr)
  ·exact hx.1 _ _ _ _ _ hr
 ·intro fr h e fr' h' hr m w tmps k ds R hf ht hfr hfo hd hz
  unfold seqR at hr
  split at hr
  ·rename_i fr1 h1 hx1
   have n1:=hx.1 _ _ _ _ _ hx1
   have n2:=hy.1 _ _ _ _ _ hr
   obtain⟨m1,w1,tmps1,ds1,k1,a1,a2,a3,a4,a5,a6,a7⟩:=hx.2 b z B w0 cs hb fr h .normal fr1 h1 hx1 m w tmps (.code y :: k) ds R hf ht (hfr.sub (Nat.le_refl _) n2) hfo hd hz
   obtain rfl:k1=_:=a2
   refine .first (.head st_seq a1) (.step a6 ?_)
   exact hy.2 b z B w0 cs hb fr1 h1 e fr' h' hr m1 w1 tmps1 k ds1 a5 a3 a4 (a6.fresh hfr) (hfo.mono a6.le) a7 (Nat.le_trans hz a6.size)
  ·rename_i hne
   cases e with
   | normal=>exact absurd hr (hne _ _)
   | exit i=>exact .first (.one st_seq) ((hx.2 b z B w0 cs hb fr h _ _ _ hr m w tmps (.code y :: k) ds R hf ht hfr hfo hd hz).out (by simp) (fun i _=>rfl))
   | ret=>exact .first (.one st_seq) ((hx.2 b z B w0 cs hb fr h _ _ _ hr m w tmps (.code y :: k) ds R hf ht hfr hfo hd hz).out (by simp) (fun i hi=>by cases hi))
theorem follows_calls {P:Program} {f:FuncId} {fn:Func} {c:Code} {run:Fr→IH→Out} (hfn:P.funcs[f]?=some fn) (hc:fn.body=some c) (F:Follows P f fn.ntmps run c) {args:List Value} {h h1:IH} {e:IExit} {fr1:Fr} {vs:List Value}
  (hlen':args.length≤fn.ntmps) (hx:run (enterFr 0 args) h=some (e,fr1,h1)) (hne : ∀i,e≠.exit i) (hvs:resultsOf P fr1 h1 fn.results.toList=some vs)
  {B:Nat} {w0:World} {m:Mp} {w:World} {args':Array Value} (R:Rel B w0 m h w) (hargs:LRel m args args'.toList) (hfr:Fresh m h.n h1.n):CallsTo P f args' B w0 m h w (single vs) h1:=by
 have hsz:args'.size=args.length:=by rw[hargs.1];simp
 intro cs
 let b:Frame:={ fn:=f,tmps:=#[],todo:=[],defers:=[],mode:=.run,kind:=.normal,roundOf:=none }
 let tmps:Array Value:=args' ++ Array.replicate (fn.ntmps - args'.size) undef
 have hen:Frame.enter P f args' .normal=on b tmps [.code c] []:=by
  simp[Frame.enter,hfn,hc,on,b,tmps]
 have htmps:FrRel m (enterFr 0 args) tmps:=by
  intro t u hu
  rw[fget_enterFr] at hu
  simp only[Nat.zero_le,if_true,Nat.sub_zero] at hu
  obtain⟨u',h2,h3⟩:=hargs.get hu
  have h4:args'[t]?=some u':=by simpa using h2
  refine⟨u',?_,h3⟩
  have:=(Array.getElem?_eq_some_iff.1 h4).1
  rw[Array.getElem?_append_left this,h4]
 have htsz:fn.ntmps≤tmps.size:=by simp[tmps];omega
 obtain⟨m1,w1,tmps1,ds1,k1,a1,a2,a3,a4,a5,a6,a7⟩:=F.2 b w.heap.size B w0 cs rfl _ _ _ _ _ hx m w tmps [] [] R htmps htsz hfr (.inl ⟨rfl,rfl⟩) (DefOK.nil _ _ _ _) (Nat.le_refl _)
 obtain⟨rs,d1,d2,d3⟩:=a7
 have hleave : ∃todo,step P (lone (on b tmps1 k1 ds1) cs w1)=.next (lone { on b tmps1 todo ds1 with mode:=.returning } cs w1):=by
  cases e with
  | normal=>obtain rfl:k1=_:=a2;exact⟨_,stepR_end (b:=b) (a:=⟨tmps1,ds1⟩) rfl⟩
  | exit i=>exact absurd rfl (hne i)
  | ret=>obtain⟨k2,rfl⟩:=a2;exact⟨_,stepR_ret (b:=b) (a:=⟨tmps1,ds1⟩) rfl⟩
 obtain⟨todo,hleave⟩:=hleave
 obtain⟨w2,b1,b2,b3,b4⟩:=unwind_marks (P:=P) R.size rs { on b tmps1 todo ds1 with mode:=.returning } cs w1 rfl d1 d2 d3 a5
 obtain⟨v',r1,r2⟩:=results_run b2 a3 hvs
 refine⟨.returned v',w2,{ on b tmps1 todo ds1 with mode:=.returning,defers:=[] },⟨v',m1,rfl,r2,b2,?_⟩,?_,?_,?_⟩
 ·refine⟨a6.le,a6.new,a6.n,a6.base,fun r hr hk=>?_,a6.idle,by rw[b3];exact a6.size,a6.img,a6.idleF⟩
  rw[b4 r (fun hm=>by have:=(d3 r hm).1;omega)]
  exact a6.frame r hr hk
 ·exact(by rw[hen];exact a1.trans (.head hleave b1):Steps P (lone (Frame.enter P f args' .normal) cs w) _)
 ·rfl
 ·exact⟨rfl,rfl,rfl,fn,hfn,r1⟩
end Go.Id

/-! The ideal machine: a law whose first parts are carried out with functions whose values are known, and whose rest is shown step by step. -/
namespace Go.Id
open Go Go.RowKit
def partAt:Code→Nat→Code
 | .seq a _,0=>a
 | .seq _ b,n+1=>partAt b n
 | c,_=>c
def restAt:Code→Nat→Code
 | c,0=>c
 | .seq _ b,n+1=>restAt b n
 | c,_=>c
theorem parts_true {P:Program} {tb:FuncId→Option (List Value→Option Value)} (S0:Sound (E0 P)) (S1:Sound (E1 P tb)) {f:FuncId} {fn:Func} {a b rest:Code} {rs:List ResultVar} {nt:Nat} (hfn:P.funcs[f]?=some fn) (hc:fn.body=some (.seq a (.seq b rest))) (hrs:fn.results.toList=rs) (hnt:fn.ntmps=nt)
  {args:List Value} {base:Nat→Option (List Value)} {A:Nat→Nat×Nat} (hlen:args.length≤nt) {fra fr1:Fr} {ha h1:IH} {n:Nat}
  (ea:evC (E1 P tb) (callV (E1 P tb) n) f nt none n a (enterFr 0 args) (IH.start base)=some (.normal,fra,ha))
  (eb:evC (E1 P tb) (callV (E1 P tb) n) f nt none n b fra ha=some (.normal,fr1,h1))
  (w:Do (wpC P f nt none rest fr1 h1) (retK P rs fun r _=>r=.bool true) nx)
  {W:World} {args':Array Value} (hb:BaseOK A base W) (hargs:LRel (Mp.startOf A) args args'.toList):Calls P f args' W fun e W'=>e=.returned (.bool true)∧Below W.heap.size W W':=by
 subst hrs hnt
 obtain⟨⟨e,fr2,h2⟩,⟨N,hN⟩,hq⟩:=wpC_sound w
 have hn:=hN N (Nat.le_refl _)
 have key : ∀(K:Prop),retK P fn.results.toList (fun r _=>r=.bool true) e fr2 h2→(∀vs,(∀i,e≠.exit i)→resultsOf P fr2 h2 fn.results.toList=some vs→single vs=.bool true→K)→K:=by
  intro K hr k
  cases e with
  | exit i=>exact hr.elim
  | normal=>obtain⟨l,h3,h4⟩:=(hr:Ex _ _);exact k l (fun i h=>by cases h) h3 h4
  | ret=>obtain⟨l,h3,h4⟩:=(hr:Ex _ _);exact k l (fun i h=>by cases h) h3 h4
 refine key _ hq fun vs hne hvs hs=>?_
 have F:=follows_seq (follows_code S1 n f fn.ntmps a) (follows_seq (follows_code S1 n f fn.ntmps b) (follows_code S0 N f fn.ntmps rest))
 have hx:seqR (evC (E1 P tb) (callV (E1 P tb) n) f fn.ntmps none n a) (seqR (evC (E1 P tb) (callV (E1 P tb) n) f fn.ntmps none n b) (evC (E0 P) (callV (E0 P) N) f fn.ntmps none N rest)) (enterFr 0 args) (IH.start base)=some (e,fr2,h2):=by
  unfold seqR
  rw[ea]
  show(match evC (E1 P tb) (callV (E1 P tb) n) f fn.ntmps none n b fra ha with|some (.normal,fr,h)=>_|o=>o)=_
  rw[eb]
  exact hn
 refine(follows_calls hfn hc F hlen hx hne hvs (Rel.start hb) hargs (fun k _ _=>Mp.startOf_even A k)).mono fun e w' ⟨v',m',he,hv,R,_⟩=>?_
 rw[hs] at hv
 rw[he,hv.scal_eq rfl]
 exact⟨rfl,R.below⟩
end Go.Id

/-! The statement BracketFalls, on the ideal machine. -/
namespace Go.Id
open Go
noncomputable def tbW:FuncId→Option (List Value→Option Value):=tbOf [(8,okT)]
noncomputable abbrev bodyFa:Code:=Proofs.Tryz.f4.body.getD .skip
structure CenOK (c:List Int):Prop where
 ne:c ≠ []
 b : ∀n∈c,0≤n∧n≤16711425
 len:c.length≤9
 sum:0<c.sum
theorem sum_nonneg : ∀(l:List Int),(∀n∈l,0≤n)→0≤l.sum
 | [],_=>by simp
 | a :: l,h=>by
  have:=sum_nonneg l fun n hn=>h n (List.mem_cons_of_mem _ hn)
  have:=h a List.mem_cons_self
  simp;omega
theorem census_cen {u:Nat} {ps:List Nat} (hu:u<256) (hp : ∀p∈ps,p<65536):CenOK (census u ps):=by
 have hb : ∀n∈cenL u ps,0≤n∧n≤16711425:=fun n hn=>by
  obtain⟨p,h1,rfl⟩:=List.mem_map.1 hn
  exact cenN_le hu (hp p (List.mem_of_mem_take h1))
 have hl:=(cenL_bound (u:=u) hu hp).2
 have h0:=sum_nonneg _ fun n hn=>(hb n hn).1
 unfold census
 split
 ·rename_i hz
  refine⟨by simp,fun n hn=>?_,by rw[List.length_append];simp;omega,by rw[List.sum_append,hz];decide⟩
  rcases List.mem_append.1 hn with h|h
  ·exact hb n h
  ·simp at h;omega
 ·rename_i hz
  exact⟨fun e=>hz (by rw[e];rfl),hb,by omega,by omega⟩
theorem pos_of_sum : ∀(l:List Int),0<l.sum → ∃n∈l,0<n
 | [],h=>absurd h (by decide)
 | a :: l,h=>by
  by_cases c:0<a
  ·exact⟨a,List.mem_cons_self,c⟩
  ·obtain⟨n,h1,h2⟩:=pos_of_sum l (by simp at h;omega)
   exact⟨n,List.mem_cons_of_mem _ h1,h2⟩
theorem CenOK.max {c:List Int} (h:CenOK c):1≤maxL c∧maxL c≤16711425:=by
 obtain⟨n,h1,h2⟩:=pos_of_sum c h.sum
 have h3:=le_maxL c n h1
 have h4:=h.b _ (maxL_mem c h.ne)
 omega
end Go.Id

/-! The rows of package bracket, common part: the layer's check, drafts that came in. -/
namespace Go.Proofs.YthpefnfbnaekaaaGreat
open Go.ChangeShapes Go.WideShapes Go.ChangeAt Go.RowKit Go.Id
noncomputable def tb1:List (FuncId×(List Value→Option Value)):=[(101,make2),(52,of2),(46,of2),(50,check1),(27,sign1),(21,cmp2),(26,mul2),(53,quo2),(85,max2)]
theorem sound_1 : ∀p∈tb1,EntryOK Tryz.prog p.1 p.2:=by
 intro p hp
 simp only[tb1,List.mem_cons,List.not_mem_nil,or_false] at hp
 rcases hp with rfl|rfl|rfl|rfl|rfl|rfl|rfl|rfl|rfl
 ·exact entry_wv Tryz.sound Tryz.func101 rfl val_make
 ·exact entry_wv Tryz.sound Tryz.func52 rfl val_of
 ·exact entry_wv Tryz.sound Tryz.func46 rfl val_of02
 ·exact entry_wv Tryz.sound Tryz.func50 rfl val_check
 ·exact entry_wv Tryz.sound Tryz.func27 rfl val_sign
 ·exact entry_wv Tryz.sound Tryz.func21 rfl val_cmp
 ·exact entry_wv Tryz.sound Tryz.func26 rfl val_mul
 ·exact entry_wv Tryz.sound Tryz.func53 rfl val_div
 ·exact entry_wv Tryz.sound Tryz.func85 rfl val_max
theorem wakes_true:boolF (E1 Tryz.prog (tbOf tb1)) (4999+1) 8 (fun _=>none)=true:=by decide +kernel
theorem sound_W:Sound (E1 Tryz.prog tbW):=sound_tb Tryz.sound fun p hp=>by
 obtain rfl:=List.mem_singleton.1 hp
 exact entry_true (E:=E1 Tryz.prog (tbOf tb1)) (sound_tb Tryz.sound sound_1) Tryz.func8 rfl wakes_true
theorem u_draft6:Tryz.prog.underlying 26=some (.struct { toList:=[{ name := "People",type:=22,offset:=0,embedded:=false,tag := "",pkgPath := "",byteOffset:=0 },{ name := "Unit",type:=5,offset:=1,embedded:=false,tag := "",pkgPath := "",byteOffset:=24 },{ name := "Least",type:=23,offset:=2,embedded:=false,tag := "",pkgPath := "",byteOffset:=32 },{ name := "Seats",type:=24,offset:=3,embedded:=false,tag := "",pkgPath := "",byteOffset:=56 }] }):=by kernel_rfl
theorem u_u16s:Tryz.prog.underlying 22=some (.slice 24):=by kernel_rfl
theorem u_u8s:Tryz.prog.underlying 23=some (.slice 5):=by kernel_rfl
theorem u_u16:Tryz.prog.underlying 24=some (.int .u16):=by kernel_rfl
theorem u_u8:Tryz.prog.underlying 5=some (.int .u8):=by kernel_rfl
theorem c_draft6:Tryz.prog.cellsOf 26=4:=by kernel_rfl
theorem c_u16s:Tryz.prog.cellsOf 22=1:=by kernel_rfl
theorem c_u8s:Tryz.prog.cellsOf 23=1:=by kernel_rfl
theorem c_u16:Tryz.prog.cellsOf 24=1:=by kernel_rfl
theorem c_u8:Tryz.prog.cellsOf 5=1:=by kernel_rfl
theorem wf_u8 {x:Int} (h:(Lit.int .u8 x).wf=true):0≤x∧x<256:=by
 simp only[Lit.wf,Bool.and_eq_true,decide_eq_true_eq] at h
 have h1:(0:Int)≤x:=h.1
 have h2:x≤(255:Int):=h.2
 exact⟨h1,by omega⟩
theorem len4 {α:Type} : ∀{l:List α},l.length=4 → ∃a b c d,l = [a,b,c,d]
 | [a,b,c,d],_=>⟨a,b,c,d,rfl⟩
theorem nums_of {f:Nat→Value} {m:Nat} : ∀(n:Nat) (cs:List Value),cs.length=n*1→(∀i,i<n → ∃p,p<m∧(cs.drop (i*1)).take 1 = [f p]) → ∃ps:List Nat,ps.length=n∧cs=ps.map f ∧ ∀p∈ps,p<m
 | 0,cs,h,_=>⟨[],rfl,by simpa using h,fun p hp=>by cases hp⟩
 | n+1,[],h,_=>by simp at h
 | n+1,c :: cs,h,k=>by
  obtain⟨p,h1,h2⟩:=k 0 (by omega)
  obtain⟨ps,h3,h4,h5⟩:=nums_of n cs (by simp at h ⊢;omega) fun i hi=>by
   obtain⟨q,h6,h7⟩:=k (i+1) (by omega)
   exact⟨q,h6,by simpa using h7⟩
  refine⟨p :: ps,by simp[h3],?_,fun q hq=>?_⟩
  ·simp at h2;rw[List.map_cons,h2,h4]
  ·rcases List.mem_cons.1 hq with rfl|hq
   ·exact h1
   ·exact h5 q hq
section
variable {H:Type} {enc:TypeId×Value→H} {W:World} {held:Bool}
theorem tell_nums {t e:TypeId} {k:IntKind} {m:Nat} (hk:k.min=0) (hm:k.max=(m:Int)) (hs:Tryz.prog.underlying t=some (.slice e)) (he:Tryz.prog.underlying e=some (.int k)) (hc:Tryz.prog.cellsOf e=1) (G:Nat→Option (List Value)) {fuel:Nat} {cs0:List Value} {x:DataW H×List MemPlace} (h:DataW.trod enc Tryz.prog W 0 (fun _=>true) held fuel t cs0=some x) :
  ∃(v:Value) (ps:List Nat),cs0 = [v]∧tellable v=true∧ps.length≤maxLen∧SlOf (IH.start (tellB G W)) 1 (trV v) ps.length (ps.map fun n:Nat=>Value.int k (n:Int)) ∧ ∀p∈ps,p<m+1:=by
 obtain⟨v,n,cs,e1,ht,hn,hs,hR⟩:=tell_slice (R:=fun cs => ∃p:Nat,p<m+1∧cs.map trV = [.int k (p:Int)]) hs hc (by omega) (fun n cs x hx=>by
  obtain⟨i,rfl,hi⟩:=trod_nat hk hm he hx
  exact⟨⟨i,by omega,rfl⟩,fun y hy=>by rw[List.mem_singleton.1 hy];rfl⟩) G h
 obtain⟨ps,h1,h2,h3⟩:=nums_of (f:=fun n:Nat=>Value.int k (n:Int)) (m:=m+1) n (cs.map trV) hs.2.1 fun i hi=>by
  obtain⟨p,hp,e⟩:=hR i hi
  exact⟨p,hp,by rw[←List.map_drop,←List.map_take];exact e⟩
 subst h1
 exact⟨v,ps,e1,ht,hn,h2▸hs,h3⟩
theorem draft6_of (G:Nat→Option (List Value)) {fuel:Nat} {cs:List Value} {x:DataW H×List MemPlace} (h:DataW.trod enc Tryz.prog W 0 (fun _=>true) held fuel 26 cs=some x) :
  ∃y1 u y2 s ps ls,cs = [y1,B8 u,y2,B16 s]∧(tellable y1=true∧tellable y2=true)∧Dr6 (IH.start (tellB G W)) (.agg #[trV y1,B8 u,trV y2,B16 s]) ps ls u s:=by
 obtain⟨xs,m,_,_,hl,hn,hf⟩:=DataW.trod_struct u_draft6 h
 rw[c_draft6] at hl
 have hn2:xs.length=4:=hn
 obtain⟨x0,hx0⟩ : ∃y,xs[0]?=some y:=⟨_,List.getElem?_eq_getElem (by omega)⟩
 have f0:DataW.trod enc Tryz.prog W 0 (fun _=>true) held m 22 ((cs.drop 0).take (Tryz.prog.cellsOf 22))=some x0:=(hf 0 { name := "People",type:=22,offset:=0,embedded:=false,tag := "",pkgPath := "",byteOffset:=0 } rfl).trans hx0
 obtain⟨x1,hx1⟩ : ∃y,xs[1]?=some y:=⟨_,List.getElem?_eq_getElem (by omega)⟩
 have f1:DataW.trod enc Tryz.prog W 0 (fun _=>true) held m 5 ((cs.drop 1).take (Tryz.prog.cellsOf 5))=some x1:=(hf 1 { name := "Unit",type:=5,offset:=1,embedded:=false,tag := "",pkgPath := "",byteOffset:=24 } rfl).trans hx1
 obtain⟨x2,hx2⟩ : ∃y,xs[2]?=some y:=⟨_,List.getElem?_eq_getElem (by omega)⟩
 have f2:DataW.trod enc Tryz.prog W 0 (fun _=>true) held m 23 ((cs.drop 2).take (Tryz.prog.cellsOf 23))=some x2:=(hf 2 { name := "Least",type:=23,offset:=2,embedded:=false,tag := "",pkgPath := "",byteOffset:=32 } rfl).trans hx2
 obtain⟨x3,hx3⟩ : ∃y,xs[3]?=some y:=⟨_,List.getElem?_eq_getElem (by omega)⟩
 have f3:DataW.trod enc Tryz.prog W 0 (fun _=>true) held m 24 ((cs.drop 3).take (Tryz.prog.cellsOf 24))=some x3:=(hf 3 { name := "Seats",type:=24,offset:=3,embedded:=false,tag := "",pkgPath := "",byteOffset:=56 } rfl).trans hx3
 rw[c_u16s] at f0
 rw[c_u8] at f1
 rw[c_u8s] at f2
 rw[c_u16] at f3
 obtain⟨a,b,c,d,rfl⟩:=len4 hl
 obtain⟨v,ps,e0,t0,n0,s0,b0⟩:=tell_nums (k:=.u16) (m:=65535) rfl rfl u_u16s u_u16 c_u16 G f0
 obtain⟨u,e1,hu⟩:=trod_nat (m:=255) rfl rfl u_u8 f1
 obtain⟨w,ls,e2,t2,n2,s2,b2⟩:=tell_nums (k:=.u8) (m:=255) rfl rfl u_u8s u_u8 c_u8 G f2
 obtain⟨s,e3,hs⟩:=trod_nat (m:=65535) rfl rfl u_u16 f3
 cases e0;cases e1;cases e2;cases e3
 refine⟨_,u,_,s,ps,ls,rfl,⟨t0,t2⟩,⟨_,_,rfl,s0,s2⟩,b0,b2,by omega,by omega,?_,?_⟩
 ·exact Nat.lt_of_le_of_lt n0 (by decide)
 ·exact Nat.lt_of_le_of_lt n2 (by decide)
end
end Go.Proofs.YthpefnfbnaekaaaGreat

/-! Contracts: package bracket: the next and the last seats, one after the other. -/
namespace Go.Id
open Go
abbrev seatV (r:Reg) (s:Int):Value:=.agg #[KI r.1,KI r.2.1,KI r.2.2,KI s]
theorem tk3' (a b c:Value):List.take 3 (List.drop 0 [a,b,c]) = [a,b,c]:=rfl
abbrev RegSl (h:IH) (v:Value) (rs:List Reg):Prop:=SlOf h 3 v rs.length (regL rs)
theorem RegSl.ld {h h':IH} {v:Value} {rs:List Reg} (s:RegSl h v rs) (e:Keep h h') {i:Nat} {r:Reg} (hr:rs[i]?=some r):load Proofs.Tryz.prog h' 121 (elemAddr v (i*3))=some (.agg #[KI r.1,KI r.2.1,KI r.2.2]):=by
 have hi:=(List.getElem?_eq_some_iff.1 hr).1
 have:=SlOf.ldAgg s e (c:=i*3) (m:=3) (by rw[regL_len];omega) (by omega) ag121 sz121
 rw[regL_at hr] at this
 exact this
set_option maxHeartbeats 2000000 in
theorem next_ok {h:IH} {y sv:Value} {m:Int} {rs:List Reg} (J:Nat→IH→Prop) (hJ : ∀i h,J i h→RegSl h sv rs) (hE : ∀i h h',J i h→Ext h h'→J i h') (h0:J 0 h) (hl:rs.length≤1000)
  (skip : ∀i r h,rs[i]?=some r → ¬0<r.1→J i h→J (i+1) h)
  (step : ∀i r h,rs[i]?=some r→0<r.1→J i h→WV Proofs.Tryz.prog y [seatV r r.2.1] h fun v h'=>v=.bool true∧J (i+1) h') :
  WV Proofs.Tryz.prog (.func (.func 82) #[hallV m sv] #[]) [y] h fun _ h'=>J rs.length h':=by
 have s0:=hJ 0 h h0
 have cs:=s0.cells
 have cO:cellOK sv=true:=by obtain⟨oa,ok,ho⟩:=s0.form;rw[ho];rfl
 refine enter (nt:=26) (rs:=[]) Proofs.Tryz.func82 rfl rfl rfl (by simp) ?_
 simp -dsimp (disch:=omega) only[wpS,Nat.reduceEqDiff,Nat.reduceAdd,fa80_1,ld78]
 obtain⟨H0,hH0⟩ : ∃H,H=h.new (.cells [KI m,sv] 0 none):=⟨_,rfl⟩
 have E0:Ext h H0:=by rw[hH0];exact(Ext.refl h).new _
 have g0:H0.ext.get h.n=some (.cells [KI m,sv] 0 none):=by rw[hH0];simp (disch:=first|omega|(simp only[new_n,put_n];omega)|(repeat first|rw[new_n]|rw[put_n])) only[get_new_same]
 rw[←hH0]
 clear hH0
 simp -dsimp (disch:=omega) only[wpS,s0.now.len sl78]
 refine loop (fun mm fr hh => ∃i:Nat,i+mm=rs.length∧J i hh∧fget fr 1=some y∧fget fr 7=some sv∧fget fr 8=some (KI rs.length)∧fget fr 9=some (KI i)) rs.length ⟨0,by omega,hE _ _ _ h0 E0,by simp,by simp,by simp,by simp⟩ ?_
 rintro mm fr hh ⟨i,him,hj,f1,f7,f8,f9⟩
 have s1:=hJ i hh hj
 by_cases c:i<rs.length
 ·obtain⟨r,hr⟩ : ∃r,rs[i]?=some r:=⟨rs[i],List.getElem?_eq_getElem c⟩
  have e2:IntKind.i64.wrap ((i:Int)+1)=((i+1:Nat):Int):=by rw[wrap_i64 (by omega)];omega
  have ld:=RegSl.ld s1 (Keep.refl hh) hr
  simp -dsimp (disch:=omega) only[wpS,wpT,Nat.reduceEqDiff,Nat.reduceLeDiff,Nat.reduceAdd,zc121,st121,fa121_0,ld3,f7,f8,f9,s1.now.idx es78 c,ld]
  obtain⟨H1,hH1,n1,E1,g1⟩:=boxed hh [KI 0,KI 0,KI 0] [KI r.1,KI r.2.1,KI r.2.2]
  rw[←hH1]
  clear hH1
  have hj1:=hE _ _ _ hj E1
  by_cases c2:0<r.1
  ·simp -dsimp (disch:=omega) only[wpS,wpT,Nat.reduceEqDiff,Nat.reduceLeDiff,Nat.reduceAdd,ld121,ld3,fa121_1,bv123,pl123_0,pl123_1,f1,row_of g1,tk3']
   refine call (step i r H1 hr c2 hj1) ?_
   rintro _ h2 ⟨rfl,hj2⟩
   simp -dsimp (disch:=omega) only[wpS,wpT,Nat.reduceEqDiff,f9,e2]
   exact⟨mm - 1,by omega,i+1,by omega,hj2,by simp[f1],by simp[f7],by simp[f8],by simp⟩
  ·simp -dsimp (disch:=omega) only[wpS,wpT,Nat.reduceEqDiff,f9,e2]
   exact⟨mm - 1,by omega,i+1,by omega,skip i r _ hr c2 hj1,by simp[f1],by simp[f7],by simp[f8],by simp⟩
 ·simp -dsimp (disch:=omega) only[wpS,wpT,f8,f9]
  have:i=rs.length:=by omega
  rw[←this];exact hj
set_option maxHeartbeats 2000000 in
theorem last_ok {h:IH} {y sv:Value} {m:Int} {rs:List Reg} (J:Nat→IH→Prop) (hJ : ∀i h,J i h→RegSl h sv rs) (hE : ∀i h h',J i h→Ext h h'→J i h') (h0:J 0 h) (hl:rs.length≤1000)
  (hb : ∀r∈rs,0≤r.2.1∧r.2.1≤1000)
  (skip : ∀i r h,rs[i]?=some r → ¬(0<r.1∧r.2.2<r.2.1)→J i h→J (i+1) h)
  (step : ∀i r h,rs[i]?=some r→0<r.1∧r.2.2<r.2.1→J i h→WV Proofs.Tryz.prog y [seatV r (r.2.1 - 1)] h fun v h'=>v=.bool true∧J (i+1) h') :
  WV Proofs.Tryz.prog (.func (.func 80) #[hallV m sv] #[]) [y] h fun _ h'=>J rs.length h':=by
 have s0:=hJ 0 h h0
 have cs:=s0.cells
 have cO:cellOK sv=true:=by obtain⟨oa,ok,ho⟩:=s0.form;rw[ho];rfl
 refine enter (nt:=34) (rs:=[]) Proofs.Tryz.func80 rfl rfl rfl (by simp) ?_
 simp -dsimp (disch:=omega) only[wpS,Nat.reduceEqDiff,Nat.reduceAdd,fa80_1,ld78]
 obtain⟨H0,hH0⟩ : ∃H,H=h.new (.cells [KI m,sv] 0 none):=⟨_,rfl⟩
 have E0:Ext h H0:=by rw[hH0];exact(Ext.refl h).new _
 have g0:H0.ext.get h.n=some (.cells [KI m,sv] 0 none):=by rw[hH0];simp (disch:=first|omega|(simp only[new_n,put_n];omega)|(repeat first|rw[new_n]|rw[put_n])) only[get_new_same]
 rw[←hH0]
 clear hH0
 simp -dsimp (disch:=omega) only[wpS,s0.now.len sl78]
 refine loop (fun mm fr hh => ∃i:Nat,i+mm=rs.length∧J i hh∧fget fr 1=some y∧fget fr 7=some sv∧fget fr 8=some (KI rs.length)∧fget fr 9=some (KI i)) rs.length ⟨0,by omega,hE _ _ _ h0 E0,by simp,by simp,by simp,by simp⟩ ?_
 rintro mm fr hh ⟨i,him,hj,f1,f7,f8,f9⟩
 have s1:=hJ i hh hj
 by_cases c:i<rs.length
 ·obtain⟨r,hr⟩ : ∃r,rs[i]?=some r:=⟨rs[i],List.getElem?_eq_getElem c⟩
  have rb:=hb r (List.mem_of_getElem? hr)
  have e2:IntKind.i64.wrap ((i:Int)+1)=((i+1:Nat):Int):=by rw[wrap_i64 (by omega)];omega
  have e3:IntKind.i64.wrap (r.2.1 - 1)=r.2.1 - 1:=by rw[wrap_i64 (by omega)]
  have ld:=RegSl.ld s1 (Keep.refl hh) hr
  simp -dsimp (disch:=omega) only[wpS,wpT,Nat.reduceEqDiff,Nat.reduceLeDiff,Nat.reduceAdd,zc121,st121,fa121_0,ld3,f7,f8,f9,s1.now.idx es78 c,ld]
  obtain⟨H1,hH1,n1,E1,g1⟩:=boxed hh [KI 0,KI 0,KI 0] [KI r.1,KI r.2.1,KI r.2.2]
  rw[←hH1]
  clear hH1
  have hj1:=hE _ _ _ hj E1
  by_cases c2:0<r.1
  ·by_cases c3:r.2.2<r.2.1
   ·simp -dsimp (disch:=omega) only[wpS,wpT,Nat.reduceEqDiff,Nat.reduceLeDiff,Nat.reduceAdd,ld121,ld3,fa121_1,fa121_2,bv123,pl123_0,pl123_1,f1,row_of g1,e3,tk3']
    refine call (step i r H1 hr ⟨c2,c3⟩ hj1) ?_
    rintro _ h2 ⟨rfl,hj2⟩
    simp -dsimp (disch:=omega) only[wpS,wpT,Nat.reduceEqDiff,f9,e2]
    exact⟨mm - 1,by omega,i+1,by omega,hj2,by simp[f1],by simp[f7],by simp[f8],by simp⟩
   ·simp -dsimp (disch:=omega) only[wpS,wpT,Nat.reduceEqDiff,ld3,fa121_1,fa121_2,f9,row_of g1,e2]
    exact⟨mm - 1,by omega,i+1,by omega,skip i r _ hr (fun h=>c3 h.2) hj1,by simp[f1],by simp[f7],by simp[f8],by simp⟩
  ·simp -dsimp (disch:=omega) only[wpS,wpT,Nat.reduceEqDiff,f9,e2]
   exact⟨mm - 1,by omega,i+1,by omega,skip i r _ hr (fun h=>c2 h.1) hj1,by simp[f1],by simp[f7],by simp[f8],by simp⟩
 ·simp -dsimp (disch:=omega) only[wpS,wpT,f8,f9]
  have:i=rs.length:=by omega
  rw[←this];exact hj
end Go.Id

/-
  Contracts: package bracket: within, open. The greater and the lesser of two integers.
-/
import Derived.Test.YthpefnfbnaekaaaGreatBracketTwoAr
import Derived.Test.YthpefnfbnaekaaaGreatBracketTwoBm
import Derived.Test.YthpefnfbnaekaaaGreatBracketTwoAs
import Derived.Test.YthpefnfbnaekaaaGreatBracketTwoAp
set_option linter.unusedVariables false
set_option linter.unusedSimpArgs false
set_option linter.defProp false
set_option linter.deprecated false
namespace Go.Id
open Go
open Go.Proofs.Tryz (prog)
open Nat (reduceAdd reduceEqDiff reduceLeDiff)
set_option maxHeartbeats 16000000
theorem bwithin1_ok {h:IH} {b b2:Nat} {lo hi n:Int} (g:h.ext.get b=some (.cells [KI lo] 0 none)) (g2:h.ext.get b2=some (.cells [KI hi] 0 none)) :
  WV prog (.func (.func 100) #[] #[ptr (2*b) 0,ptr (2*b2) 0]) [KI n] h fun r h'=>h'=h∧r=.bool (outR lo hi n):=by
 refine enter (nt:=13) (rs:=[.tmp 4]) Proofs.Tryz.func100 rfl rfl rfl (by simp) ?_
 by_cases c:n<lo
 ·have d:decide (n<lo)=true:=decide_eq_true c
  simp -dsimp (maxSteps:=1000000) (disch:=try exact dx) only[wpS,wpT,reduceEqDiff,reduceAdd,ld3,row_of g,d]
  simp[outR,d]
 ·have d:decide (n<lo)=false:=decide_eq_false c
  simp -dsimp (maxSteps:=1000000) (disch:=try exact dx) only[wpS,wpT,reduceEqDiff,reduceAdd,ld3,row_of g,row_of g2,d]
  simp[outR,d]
theorem bwithin_ok {h:IH} {v:Value} {l:List Int} (lo hi:Int) (hv:SlOf h 1 v l.length (l.map KI)) (hl:l.length≤1000000000) :
  WV prog (.func (.func 51) #[] #[]) [KI lo,KI hi,v] h fun r h'=>Ext h h'∧r=.bool (inR lo hi l):=by
 refine enter (nt:=11) (rs:=[.tmp 6]) Proofs.Tryz.func51 rfl rfl rfl (by simp) ?_
 simp -dsimp (maxSteps:=1000000) (disch:=try exact dx) only[wpS,reduceEqDiff,reduceAdd]
 obtain⟨H0,hH0,n0,E0,g0,g1⟩:=boxes2 h [KI lo] [KI hi]
 rw[←hH0]
 clear hH0
 refine call (containsFunc_ok (outR lo hi) (hv.keep E0.keep).now hl (fun x hx=>bwithin1_ok g0 g1)) ?_
 rintro _ _ ⟨rfl,rfl⟩
 simp -dsimp (maxSteps:=1000000) (disch:=try exact dx) only[wpS,wpT,reduceEqDiff]
 exact E0
abbrev Reg:=Int×Int×Int
def regC (r:Reg):List Value:=[KI r.1,KI r.2.1,KI r.2.2]
def regL (l:List Reg):List Value:=l.flatMap regC
theorem regL_len (l:List Reg):(regL l).length=l.length*3:=by
 induction l with
 | nil=>rfl
 | cons a l ih=>rw[regL,List.flatMap_cons,List.length_append];show 3+(regL l).length=_;rw[ih,List.length_cons];omega
theorem regL_at {l:List Reg} {i:Nat} {r:Reg} (h:l[i]?=some r):((regL l).drop (i*3)).take 3=regC r:=by
 induction l generalizing i with
 | nil=>simp at h
 | cons a l ih =>
  cases i with
  | zero =>
   simp at h;subst h
   rw[regL,List.flatMap_cons];rfl
  | succ i =>
   simp at h
   rw[regL,List.flatMap_cons,show(i+1)*3=3+i*3 from by omega,←List.drop_drop]
   exact ih h
def leastOr (n:Nat) (least:List Int):List Int:=if least = [] then List.replicate n 0 else least
def lowOK (won low:List Int) (n:Nat):Prop:=∀i,i<n→0≤low.getD i 0∧low.getD i 0≤won.getD i 0
instance (won low:List Int) (n:Nat):Decidable (lowOK won low n):=inferInstanceAs (Decidable (∀i,i<n→_))
def openErr (people won:List Int) (m:Int) (least:List Int):Int :=
 if quotaOK people=false then 60 else if won.length≠people.length∨inR 0 1000 won=false then 2
 else if inR 11 15 [m]=false∨(leastOr people.length least).length≠people.length then 2
 else if ¬lowOK won (leastOr people.length least) people.length then 2 else if inR 1 1000 [won.sum]=false then 2 else 0
def regsOf (people won low:List Int) (n:Nat):List Reg:=(List.range n).map fun i=>(people.getD i 0,won.getD i 0,low.getD i 0)
theorem regsOf_succ (people won low:List Int) (n:Nat):regsOf people won low (n+1)=regsOf people won low n ++ [(people.getD n 0,won.getD n 0,low.getD n 0)]:=by
 unfold regsOf
 rw[List.range_succ,List.map_append];rfl
theorem regsOf_len (people won low:List Int) (n:Nat):(regsOf people won low n).length=n:=by simp[regsOf]
abbrev hallV (m:Int) (s:Value):Value:=.agg #[KI m,s]
structure OX (h H1 hh:IH) (fr:Fr) (vp vw vl:Value) (m:Int) (people won low:List Int) (b:Nat) (i:Nat) (out:Value):Prop where
 e:Ext h hh
 k:Keep H1 hh
 sp:SlOf H1 1 vp people.length (people.map KI)
 sw:SlOf H1 1 vw won.length (won.map KI)
 sl:SlOf H1 1 vl low.length (low.map KI)
 bn:h.n<b∧b<hh.n
 g8:hh.ext.get h.n=some (.cells [KI 0,.slice none 0 0] 0 none)
 g11:hh.ext.get b=some (.cells [KI m,out] 0 none)
 acc:Acc hh h.n 3 out i (regL (regsOf people won low i))
 lw:lowOK won low i
 f1:fget fr 1=some vw
 f3:fget fr 3=some vl
 f8:fget fr 8=some (ptr (2*h.n) 0)
 f11:fget fr 11=some (ptr (2*b) 0)
 f12:fget fr 12=some (KI (won.take i).sum)
 f52:fget fr 52=some vp
 f53:fget fr 53=some (KI people.length)
 f54:fget fr 54=some (KI i)
theorem at_getD {l:List Int} {i:Nat} (h:i<l.length):l[i]?=some (l.getD i 0):=by
 rw[List.getD_eq_getElem?_getD,List.getElem?_eq_getElem h];rfl
def OpenV (h':IH) (r:Value) (people won:List Int) (m:Int) (least:List Int):Prop :=
 if openErr people won m least=0 then ∃s,r=.tuple #[hallV m s,KI 0]∧SlOf h' 3 s people.length (regL (regsOf people won (leastOr people.length least) people.length))
 else r=.tuple #[hallV 0 (.slice none 0 0),KI (openErr people won m least)]
theorem OpenV.err {h':IH} {people won:List Int} {m:Int} {least:List Int} {e:Int} (h:openErr people won m least=e) (h0:e≠0):OpenV h' (.tuple #[hallV 0 (.slice none 0 0),KI e]) people won m least:=by
 unfold OpenV
 rw[h,if_neg h0]
theorem replZ : ∀n:Nat,repl n [KI 0]=(List.replicate n (0:Int)).map KI
 | 0=>rfl
 | n+1=>by rw[repl,replZ n,List.replicate_succ];rfl
theorem open_ok {h:IH} {vp vw vl:Value} {m:Int} {people won least:List Int} (hp:SlOf h 1 vp people.length (people.map KI)) (hw:SlOf h 1 vw won.length (won.map KI)) (hl:SlOf h 1 vl least.length (least.map KI)) (lp:people.length≤1000000000) (lw:won.length≤1000000000) (ll:least.length≤1000000000) :
  WV prog (.func (.func 36) #[] #[]) [vp,vw,KI m,vl] h fun r h'=>Ext h h'∧OpenV h' r people won m least:=by
 have z0 : ∀(n:Nat),((n:Nat):Int)=0↔n=0:=fun n=>by omega
 refine enter (nt:=99) (rs:=[.cell 8 80,.tmp 9]) Proofs.Tryz.func36 rfl rfl rfl (by simp) ?_
 simp -dsimp (maxSteps:=1000000) (disch:=try exact dx) only[wpS,reduceEqDiff,reduceAdd,zc80]
 obtain⟨H0,hH0⟩ : ∃H,H=h.new (.cells [KI 0,.slice none 0 0] 0 none):=⟨_,rfl⟩
 have E0:Ext h H0:=by rw[hH0];exact(Ext.refl h).new _
 have g0:H0.ext.get h.n=some (.cells [KI 0,.slice none 0 0] 0 none):=by rw[hH0];simp (disch:=try exact dx) only[get_new_same]
 have n0:H0.n=h.n+1:=by rw[hH0];simp
 rw[←hH0]
 clear hH0
 refine call (qcheck_ok (hp.keep E0.keep) lp) ?_
 rintro _ _ ⟨rfl,rfl⟩
 cases c1:quotaOK people
 ·simp -dsimp (maxSteps:=1000000) (disch:=try exact dx) only[wpS,wpT,reduceEqDiff,reduceLeDiff,reduceAdd,bv80,st80,ld80,g0]
  refine⟨E0.put (by omega) _,OpenV.err (e:=60) (by unfold openErr;rw[if_pos c1]) (by omega)⟩
 ·have sp:=(hp.keep E0.keep).now
  have sw:=(hw.keep E0.keep).now
  have sl:=(hl.keep E0.keep).now
  have c1' : ¬quotaOK people=false:=by rw[c1];simp
  by_cases c2:won.length=people.length
  ·simp -dsimp (maxSteps:=1000000) (disch:=try exact dx) only[wpS,wpT,reduceEqDiff,sp.len sl29,sw.len sl29]
   refine call (bwithin_ok (l:=won) 0 1000 (hw.keep E0.keep) lw) ?_
   rintro _ h1 ⟨X1,rfl⟩
   have m1:=X1.n
   have kg1:=X1.kept (by omega) g0
   cases c3:inR 0 1000 won
   ·simp -dsimp (maxSteps:=1000000) (disch:=try exact dx) only[wpS,wpT,reduceEqDiff,reduceLeDiff,reduceAdd,bv80,st80,ld80,kg1]
    exact⟨(E0.trans X1).put (by omega) _,OpenV.err (e:=2) (by unfold openErr;rw[if_neg c1',if_pos (.inr c3)]) (by omega)⟩
   ·simp -dsimp (maxSteps:=1000000) (disch:=try exact dx) only[wpS,wpT,reduceEqDiff,(hl.keep (E0.trans X1).keep).now.len sl29]
    have hq:people.length≤60∧0<people.length:=by
     unfold quotaOK at c1
     simp only[Bool.and_eq_true,decide_eq_true_eq] at c1
     refine⟨c1.1,?_⟩
     cases people with
     | nil=>simp at c1
     | cons a l=>simp
    refine bq_cut (fun fr2 h2 => ∃vl2,Ext h1 h2∧SlOf h2 1 vl2 (leastOr people.length least).length ((leastOr people.length least).map KI)∧fget fr2 0=some vp∧fget fr2 1=some vw∧fget fr2 2=some (KI m)∧fget fr2 3=some vl2∧fget fr2 8=some (ptr (2*h.n) 0)) (fun hc=>?_) (fun hc=>?_) ?_
    ·have e0:least = []:=by
      simp at hc
      exact hc
     simp -dsimp (maxSteps:=1000000) (disch:=try exact dx) only[wpS,reduceEqDiff,ms29,(hp.keep (E0.trans X1).keep).now.len sl29]
     exact⟨_,(Ext.refl h1).new _,by
      have e1:leastOr people.length least=List.replicate people.length 0:=by unfold leastOr;rw[if_pos e0]
      rw[e1,List.length_replicate,←replZ]
      exact built_sl h1 (by omega) (by rw[replZ];simp) hq.2,by simp,by simp,by simp,by simp,by simp⟩
    ·have e0:least ≠ []:=by
      simp at hc
      exact hc
     have e1:leastOr people.length least=least:=by unfold leastOr;rw[if_neg e0]
     simp -dsimp (maxSteps:=1000000) (disch:=try exact dx) only[wpS]
     exact⟨vl,Ext.refl h1,by rw[e1];exact hl.keep (E0.trans X1).keep,by simp,by simp,by simp,by simp,by simp⟩
    ·rintro fr2 h2 ⟨vl2,X2,sl2,f0,f1,f2,f3,f8⟩
     have E2:=X1.trans X2
     have F2:=E0.trans E2
     obtain⟨low,hlow⟩ : ∃l,l=leastOr people.length least:=⟨_,rfl⟩
     rw[←hlow] at sl2
     simp -dsimp (maxSteps:=1000000) (disch:=try exact dx) only[wpS,wpT,reduceEqDiff,reduceLeDiff,reduceAdd,bs29,f2]
     refine call (bwithin_ok (l:=[m]) 11 15 (built1 h2 m) (by simp)) ?_
     rintro _ h3 ⟨X3,rfl⟩
     have F3:Ext h2 h3:=((Ext.refl h2).new _).trans X3
     have G3:=E2.trans F3
     have kg3:=G3.kept (by omega) g0
     have m3:=G3.n
     cases c4:inR 11 15 [m]
     ·simp -dsimp (maxSteps:=1000000) (disch:=try exact dx) only[wpS,wpT,reduceEqDiff,reduceLeDiff,reduceAdd,bv80,st80,ld80,f8,kg3]
      exact⟨(F2.trans F3).put (by omega) _,OpenV.err (e:=2) (by unfold openErr;rw[if_neg c1',if_neg (by rw[c3];simp[c2]),if_pos (.inl c4)]) (by omega)⟩
     ·by_cases c5:low.length=people.length
      ·simp -dsimp (maxSteps:=1000000) (disch:=try exact dx) only[wpS,wpT,reduceEqDiff,reduceLeDiff,reduceAdd,zc80,bv80,st80,pl80_0,f0,f2,f3,sl2.now.len sl29,(hp.keep (F2.trans F3).keep).now.len sl29]
       obtain⟨H1,hH1,n1,E4,g11⟩:=boxed h3 [KI 0,.slice none 0 0] [KI m,.slice none 0 0]
       rw[←hH1]
       clear hH1
       have F4:=(F2.trans F3).trans E4
       have m2:=F2.n
       have m0:=E0.n
       have wr:=inR_iff.1 c3
       refine loop (fun mm fr hh => ∃i out,i+mm=people.length∧OX h H1 hh fr vp vw vl2 m people won low h3.n i out) people.length ⟨0,.slice none 0 0,by omega,⟨F4,Keep.refl _,hp.keep F4.keep,hw.keep F4.keep,sl2.keep (F3.trans E4).keep,by omega,(G3.trans E4).kept (by omega) g0,g11,Acc.nil _ _ (by omega),fun i hi=>absurd hi (by omega),by simp[f1],by simp[f3],by simp[f8],by simp,by simp,by simp[],by simp,by simp⟩⟩ ?_
       rintro mm fr hh ⟨i,out,him,s⟩
       have P0:=(s.sp.keep s.k).now
       have W0:=(s.sw.keep s.k).now
       have L0:=(s.sl.keep s.k).now
       by_cases c:i<people.length
       ·have iw:i<won.length:=by omega
        have il:i<low.length:=by omega
        obtain⟨f1,f3,f8,f11,f12,f52,f53,f54⟩:=And.intro s.f1 (And.intro s.f3 (And.intro s.f8 (And.intro s.f11 (And.intro s.f12 (And.intro s.f52 (And.intro s.f53 s.f54))))))
        have b1:=sum_bound (won.take i) fun n hn=>by have:=wr n (List.mem_of_mem_take hn);omega
        have b3:(won.take i).length≤60:=by rw[List.length_take];omega
        have b2:=wr (won.getD i 0) (List.mem_of_getElem? (at_getD iw))
        have e1:IntKind.i64.wrap ((won.take i).sum+won.getD i 0)=(won.take (i+1)).sum:=by rw[sum_take_succ won (at_getD iw),wrap_i64 (by omega)]
        have lP:=P0.ld (P:=prog) (t:=3) (c:=i) (by simp<;>omega) ag3
        have lW:=W0.ld (P:=prog) (t:=3) (c:=i) (by simp<;>omega) ag3
        have lL:=L0.ld (P:=prog) (t:=3) (c:=i) (by simp<;>omega) ag3
        rw[map_get,at_getD c] at lP
        rw[map_get,at_getD iw] at lW
        rw[map_get,at_getD il] at lL
        simp -dsimp (maxSteps:=1000000) (disch:=try exact dx) only[wpS,wpT,reduceEqDiff,f1,f12,f52,f53,f54,P0.idx es29 c,W0.idx es29 iw,lP,lW,e1]
        refine drawn [(3,[9]),(7,[9])] (by kernel_rfl) (by kernel_rfl) rfl ?_
        simp -dsimp (maxSteps:=1000000) (disch:=try exact dx) only[wpS,wpT,reduceEqDiff,reduceLeDiff,reduceAdd,bs29,f1,f3,W0.idx es29 iw,L0.idx es29 il,lW,lL]
        refine call (bwithin_ok (l:=[low.getD i 0]) 0 (won.getD i 0) (built1 hh (low.getD i 0)) (by simp)) ?_
        rintro _ h5 ⟨X5,rfl⟩
        have N5:Ext hh (hh.new (.cells [KI (low.getD i 0)] 1 none)):=(Ext.refl hh).new _
        have W1:=((s.sw.keep s.k).keep N5.keep).now.ld (P:=prog) (t:=3) (c:=i) (by simp<;>omega) ag3
        have L1:=((s.sl.keep s.k).keep N5.keep).now.ld (P:=prog) (t:=3) (c:=i) (by simp<;>omega) ag3
        rw[map_get,at_getD iw] at W1
        rw[map_get,at_getD il] at L1
        have G5:=N5.trans X5
        have m5:=G5.n
        have bn:=s.bn
        have k8:=G5.kept (by omega) s.g8
        have k11:=G5.kept (by omega) s.g11
        have A5:=s.acc.ext G5
        have P2:=((s.sp.keep s.k).keep G5.keep).now
        have W2:=((s.sw.keep s.k).keep G5.keep).now
        have L2:=((s.sl.keep s.k).keep G5.keep).now
        cases c6:inR 0 (won.getD i 0) [low.getD i 0]
        ·simp -dsimp (maxSteps:=1000000) (disch:=try exact dx) only[wpS,wpT,reduceEqDiff]
         refine⟨wpSteady_cons (wpSteady_one rfl rfl rfl rfl (steady_load (av:=elemAddr vw i) (v:=KI (won.getD i 0)) (by simp) lW W1)) (wpSteady_one rfl rfl rfl rfl (steady_load (av:=elemAddr vl2 i) (v:=KI (low.getD i 0)) (by simp) lL L1)),?_⟩
         simp -dsimp (maxSteps:=1000000) (disch:=try exact dx) only[wpS,wpT,reduceEqDiff,reduceLeDiff,reduceAdd,bv80,st80,ld80,f8,k8]
         have bad : ¬lowOK won low people.length:=fun hb=>by
          have h7:=hb i c
          have h8:inR 0 (won.getD i 0) [low.getD i 0]=true:=inR_iff.2 (by simpa using h7)
          rw[c6] at h8;cases h8
         exact⟨(s.e.trans G5).put (by omega) _,OpenV.err (e:=2) (by unfold openErr;rw[if_neg c1',if_neg (by rw[c3];simp[c2]),if_neg (by rw[c4,←hlow];simp[c5]),if_pos (by rw[←hlow];exact bad)]) (by omega)⟩
        ·simp -dsimp (maxSteps:=1000000) (disch:=try exact dx) only[wpS,wpT,reduceEqDiff]
         refine⟨wpSteady_cons (wpSteady_one rfl rfl rfl rfl (steady_load (av:=elemAddr vw i) (v:=KI (won.getD i 0)) (by simp) lW W1)) (wpSteady_one rfl rfl rfl rfl (steady_load (av:=elemAddr vl2 i) (v:=KI (low.getD i 0)) (by simp) lL L1)),?_⟩
         simp -dsimp (maxSteps:=1000000) (disch:=try exact dx) only[wpS,wpT,reduceEqDiff,reduceAdd]
         refine drawn [(1,[13]),(6,[13]),(10,[13])] (by kernel_rfl) (by kernel_rfl) rfl ?_
         have hrow:inR 0 (won.getD i 0) [low.getD i 0]=true:=c6
         have hlo:=inR_iff.1 hrow (low.getD i 0) (by simp)
         obtain⟨out',h6,hap,A6,gr6,ex6⟩:=A5.appN (P:=prog) (t:=78) ap78 (m:=1) (new:=[KI (people.getD i 0),KI (won.getD i 0),KI (low.getD i 0)]) (by omega) rfl rfl (by omega) (by omega) (s.e.trans G5) (Nat.le_refl _)
         have lW2:=W2.ld (P:=prog) (t:=3) (c:=i) (by simp<;>omega) ag3
         have lL2:=L2.ld (P:=prog) (t:=3) (c:=i) (by simp<;>omega) ag3
         rw[map_get,at_getD iw] at lW2
         rw[map_get,at_getD il] at lL2
         have k6:=gr6.var (by omega) k11
         have co:=A6.sl.cells
         have cO:cellOK out'=true:=by obtain⟨oa,ok,ho⟩:=A6.sl.form;rw[ho];rfl
         simp -dsimp (maxSteps:=1000000) (disch:=try exact dx) only[wpS,wpT,reduceEqDiff,reduceLeDiff,reduceAdd,fa80_1,ld78,bv121,pl121_0,pl121_1,pl121_2,bs78,st78,ba78_78,f1,f3,f11,W2.idx es29 iw,L2.idx es29 il,lW2,lL2,row_of k11,hap,k6,co,cO]
         have N6:Ext h5 (h5.new (.cells [KI (people.getD i 0),KI (won.getD i 0),KI (low.getD i 0)] 3 none)):=(Ext.refl h5).new _
         have W3:=((s.sw.keep s.k).keep (G5.trans N6).keep).now.ld (P:=prog) (t:=3) (c:=i) (by simp<;>omega) ag3
         have L3:=((s.sl.keep s.k).keep (G5.trans N6).keep).now.ld (P:=prog) (t:=3) (c:=i) (by simp<;>omega) ag3
         rw[map_get,at_getD iw] at W3
         rw[map_get,at_getD il] at L3
         have kn:=N6.kept (by omega) k11
         refine⟨wpSteady_cons (wpSteady_one rfl rfl rfl rfl (steady_load (av:=ptr (2*h3.n) 1) (v:=out) (by simp) ?_ ?_)) (wpSteady_cons (wpSteady_one rfl rfl rfl rfl (steady_load (av:=elemAddr vw i) (v:=KI (won.getD i 0)) (by simp) lW2 W3)) (wpSteady_one rfl rfl rfl rfl (steady_load (av:=elemAddr vl2 i) (v:=KI (low.getD i 0)) (by simp) lL2 L3))),?_⟩
         ·simp -dsimp (maxSteps:=1000000) (disch:=try exact dx) only[wpS,ld78,row_of k11]
         ·simp -dsimp (maxSteps:=1000000) (disch:=try exact dx) only[wpS,ld78,row_of kn]
         have kk6:=(s.k.trans (G5.keep)).trans ((N6.keep).trans (Keep.refl _))
         have e2:IntKind.i64.wrap ((i:Int)+1)=((i+1:Nat):Int):=by rw[wrap_i64 (by omega)];omega
         simp -dsimp (maxSteps:=1000000) (disch:=try exact dx) only[wpS,wpT,reduceEqDiff,reduceAdd,f54,e2]
         have m6:=ex6.n
         have g6:=gr6.n
         refine⟨mm - 1,by omega,i+1,out',by omega,⟨ex6.put (by omega) _,((s.k.trans G5.keep).trans gr6.keep).put k6 _,s.sp,s.sw,s.sl,by simp;omega,?_,by simp (disch:=try exact dx) only[get_put_same],?_,?_,by simp[f1],by simp[f3],by simp[f8],by simp[f11],by simp,by simp[f52],by simp[f53],by simp⟩⟩
         ·rw[get_put_old _ _ (by omega)];exact gr6.var (by omega) k8
         ·rw[regsOf_succ,regL,List.flatMap_append]
          have:=A6.put k6 (.cells [KI m,out'] 0 none)
          exact this
         ·intro j hj
          by_cases hji:j<i
          ·exact s.lw j hji
          ·obtain rfl:j=i:=by omega
           exact⟨hlo.1,hlo.2⟩
       ·obtain⟨f1,f3,f8,f11,f12,f52,f53,f54⟩:=And.intro s.f1 (And.intro s.f3 (And.intro s.f8 (And.intro s.f11 (And.intro s.f12 (And.intro s.f52 (And.intro s.f53 s.f54))))))
        have hin:i=people.length:=by omega
        simp -dsimp (maxSteps:=1000000) (disch:=try exact dx) only[wpS,wpT,reduceEqDiff,reduceLeDiff,reduceAdd,bs29,f12,f53,f54]
        have hs:(won.take i).sum=won.sum:=by rw[List.take_of_length_le (by omega)]
        have hlw:lowOK won low people.length:=by rw[←hin];exact s.lw
        rw[hs]
        refine call (bwithin_ok (l:=[won.sum]) 1 1000 (built1 hh won.sum) (by simp)) ?_
        rintro _ h5 ⟨X5,rfl⟩
        have G5:=((Ext.refl hh).new (.cells [KI won.sum] 1 none)).trans X5
        have m5:=G5.n
        have bn:=s.bn
        have k8:=G5.kept (by omega) s.g8
        have k11:=G5.kept (by omega) s.g11
        cases c7:inR 1 1000 [won.sum]
        ·simp -dsimp (maxSteps:=1000000) (disch:=try exact dx) only[wpS,wpT,reduceEqDiff,reduceLeDiff,reduceAdd,bv80,st80,ld80,f8,k8]
         exact⟨(s.e.trans G5).put (by omega) _,OpenV.err (e:=2) (by unfold openErr;rw[if_neg c1',if_neg (by rw[c3];simp[c2]),if_neg (by rw[c4,←hlow];simp[c5]),if_neg (by rw[←hlow];simpa using hlw),if_pos c7]) (by omega)⟩
        ·have so:=(s.acc.ext G5).sl
         have co:=so.cells
         have cO:cellOK out=true:=by obtain⟨oa,ok,ho⟩:=so.form;rw[ho];rfl
         simp -dsimp (maxSteps:=1000000) (disch:=try exact dx) only[wpS,wpT,reduceEqDiff,reduceLeDiff,reduceAdd,st80,ld80,f8,f11,k8,row_of k11,cO,tk2']
         refine⟨(s.e.trans G5).put (by omega) _,?_⟩
         unfold OpenV
         rw[if_pos (by unfold openErr;rw[if_neg c1',if_neg (by rw[c3];simp[c2]),if_neg (by rw[c4,←hlow];simp[c5]),if_neg (by rw[←hlow];simpa using hlw),if_neg (by rw[c7];simp)])]
         refine⟨out,rfl,?_⟩
         rw[←hlow,←hin]
         exact((s.acc.ext G5).put k8 _).sl
      ·simp -dsimp (maxSteps:=1000000) (disch:=try exact dx) only[wpS,wpT,reduceEqDiff,reduceLeDiff,reduceAdd,bv80,st80,ld80,f0,f3,f8,kg3,sl2.now.len sl29,(hp.keep (F2.trans F3).keep).now.len sl29]
       exact⟨(F2.trans F3).put (by omega) _,OpenV.err (e:=2) (by unfold openErr;rw[if_neg c1',if_neg (by rw[c3];simp[c2]),if_pos (.inr (by rw[←hlow];exact c5))]) (by omega)⟩
  ·simp -dsimp (maxSteps:=1000000) (disch:=try exact dx) only[wpS,wpT,reduceEqDiff,reduceLeDiff,reduceAdd,bv80,st80,ld80,g0,sp.len sl29,sw.len sl29]
   exact⟨E0.put (by omega) _,OpenV.err (e:=2) (by unfold openErr;rw[if_neg c1',if_pos (.inl c2)]) (by omega)⟩
end Go.Id

namespace Go.Id
open Go
end Go.Id

namespace Go.Id
open Go
def doneL (r:ILoop) (c:Code):ILoop:={ r with state:=.done,pending:=some c }
@[reducible] def bodyE (k:Nat) (r:ILoop) (K:Value→IH→Prop) (e:IExit) (_:Fr) (h:IH):Prop :=
 h.ext.get k=some (.loop (busyL r))∧match e with
  | .normal=>K (.bool true) (h.put k (.loop r))
  | .exit i=>K (.bool false) (h.put k (.loop (doneL r (.exit i))))
  | .ret=>K (.bool false) (h.put k (.loop (doneL r .ret)))
@[reducible] def asgK (P:Program) (k:Nat) (r:ILoop) (K:Value→IH→Prop) (e:IExit) (fr:Fr) (h:IH):Prop :=
 e=.normal∧h.ext.get k=some (.loop r)∧Do (wpC P r.fn r.nt (some k) r.body fr (h.put k (.loop (busyL r)))) (bodyE k r K) nx
theorem wv_yield2 {P:Program} {k:Nat} {r:ILoop} {p:Tmp} (hst:r.state=.ready) (hpe:r.pending=none) (hps:r.params = [p]) (hp:p<r.nt) (v:Value) (h:IH) (K:Value→IH→Prop) (hg:h.ext.get k=some (.loop r))
  (w:wpC P r.fn r.nt (some k) r.assign ((p,v) :: r.fr) h (asgK P k r K)):WV P (.func (.yield (2*k)) #[] #[]) [v] h K:=by
 obtain⟨⟨e0,fr0,h0⟩,⟨N0,hN0⟩,he0,hg0,w⟩:=wpC_sound w
 simp only at he0 hg0 w hN0
 subst he0
 obtain⟨⟨e,fr,h1⟩,⟨N,hN⟩,hb,hk⟩:=wpC_sound w
 simp only at hb hk hN
 have hp':Nat.blt p r.nt=true:=by simp only[Nat.blt,Nat.ble_eq];exact hp
 have e1:(2*k % 2 == 0)=true:=by simp
 have e2:2*k / 2=k:=by omega
 have e3:putParams r.nt r.params [v] r.fr=some ((p,v) :: r.fr):=by
  rw[hps];simp[putParams,fput,hp']
 have e5:(r.state == LoopState.ready)=true:=by rw[hst];rfl
 have e6:({ h0 with ext:=h0.ext.set k (.loop { r with state:=.busy }) }:IH)=h0.put k (.loop (busyL r)):=rfl
 have e7:({ busyL r with state:=.ready,pending:=none }:ILoop)=r:=by
  cases r;simp only at hst hpe;subst hst;subst hpe;rfl
 cases e with
 | normal =>
  refine⟨(.bool true,h1.put k (.loop r)),⟨N0+N+1,fun n hn=>?_⟩,hk⟩
  obtain⟨n,rfl⟩ : ∃m,n=m+1:=⟨n - 1,by omega⟩
  have h2:=hN n (by omega)
  have h3:=hN0 n (by omega)
  show(bif 2*k % 2 == 0 then callYield (E0 P) (callV (E0 P) n) n (2*k / 2) ((#[]:Array Value).toList ++ [v]) h else none)=_
  rw[e1,cond_true,e2]
  simp only[callYield,get_loop hg,e3,h3,get_loop hg0,e5,cond_true,e6,h2,get_loop hb,List.nil_append]
  rw[e7];rfl
 | exit i =>
  refine⟨(.bool false,h1.put k (.loop (doneL r (.exit i)))),⟨N0+N+1,fun n hn=>?_⟩,hk⟩
  obtain⟨n,rfl⟩ : ∃m,n=m+1:=⟨n - 1,by omega⟩
  have h2:=hN n (by omega)
  have h3:=hN0 n (by omega)
  show(bif 2*k % 2 == 0 then callYield (E0 P) (callV (E0 P) n) n (2*k / 2) ((#[]:Array Value).toList ++ [v]) h else none)=_
  rw[e1,cond_true,e2]
  simp only[callYield,get_loop hg,e3,h3,get_loop hg0,e5,cond_true,e6,h2,get_loop hb,List.nil_append]
  rfl
 | ret =>
  refine⟨(.bool false,h1.put k (.loop (doneL r .ret))),⟨N0+N+1,fun n hn=>?_⟩,hk⟩
  obtain⟨n,rfl⟩ : ∃m,n=m+1:=⟨n - 1,by omega⟩
  have h2:=hN n (by omega)
  have h3:=hN0 n (by omega)
  show(bif 2*k % 2 == 0 then callYield (E0 P) (callV (E0 P) n) n (2*k / 2) ((#[]:Array Value).toList ++ [v]) h else none)=_
  rw[e1,cond_true,e2]
  simp only[callYield,get_loop hg,e3,h3,get_loop hg0,e5,cond_true,e6,h2,get_loop hb,List.nil_append]
  rfl
def RangeEnd (k:Nat) (r:ILoop) (fr:Fr) (Q:IExit→Fr→IH→Prop) (h1:IH):Prop :=
 (h1.ext.get k=some (.loop r)∧Q .normal fr (h1.put k .dead))∨(∃i,h1.ext.get k=some (.loop (doneL r (.exit i)))∧Q (.exit i) fr (h1.put k .dead))∨(h1.ext.get k=some (.loop (doneL r .ret))∧Q .ret fr (h1.put k .dead))
theorem range2 {P:Program} {fn:FuncId} {nt:Nat} {rd:Option Nat} {f:Operand} {p:Tmp} {assign body:Code} {fr:Fr} {h:IH} {Q:IExit→Fr→IH→Prop} {fv:Value} (hf:opd fr f=some fv) (hrd:roundOK h rd=true) (hp:p<nt)
  (w : ∀(r:ILoop) (y:Value),r.fn=fn→r.nt=nt→r.body=body→(∀v h1 K,h1.ext.get h.n=some (.loop r)→Do (wpC P fn nt (some h.n) assign ((p,v) :: fr) h1) (asgK P h.n r K) nx→WV P y [v] h1 K) →
   WV P fv [y] (h.new (.loop r)) fun _ h1=>RangeEnd h.n r fr Q h1) :
  Do (WRange P fn nt rd f #[p] assign body fr h) Q nx:=by
 have w1:=w { state:=.ready,pending:=none,fn,nt,fr,params:=[p],assign:=assign,body } (.func (.yield (2*h.n)) #[] #[]) rfl rfl rfl
  fun v h1 K hg w=>wv_yield2 (r:={ state:=.ready,pending:=none,fn,nt,fr,params:=[p],assign:=assign,body }) rfl rfl rfl hp v h1 K hg w
 obtain⟨⟨v,h1⟩,⟨N,hN⟩,hq⟩:=w1
 have st : ∀(r:ILoop) (e:IExit),loopOf h1 h.n=some r→(r.state == LoopState.busy)=false→exitOf r.pending=some e → ∀n,N≤n→rangeFn (E0 P) (callV (E0 P) n) fn nt rd f [p] assign body fr h=some (e,fr,h1.put h.n .dead):=by
  intro r e h3 h4 h5 n hn
  have h2:=hN n hn
  simp only at h2
  simp only[rangeFn,hrd,cond_true,hf]
  show(match callV (E0 P) n fv [_] _ with|none=>none|some (_,h1)=>_)=_
  rw[h2]
  simp only[h3,h4,cond_false,h5]
  rfl
 rcases hq with⟨hg,hq⟩|⟨i,hg,hq⟩|⟨hg,hq⟩
 ·exact⟨(.normal,fr,h1.put h.n .dead),⟨N,fun n hn=>st _ _ (get_loop hg) rfl rfl n hn⟩,hq⟩
 ·exact⟨(.exit i,fr,h1.put h.n .dead),⟨N,fun n hn=>st _ _ (get_loop hg) rfl rfl n hn⟩,hq⟩
 ·exact⟨(.ret,fr,h1.put h.n .dead),⟨N,fun n hn=>st _ _ (get_loop hg) rfl rfl n hn⟩,hq⟩
end Go.Id

namespace Go.Id
open Go
end Go.Id

namespace Go.Id
open Go
def AccK (h:IH) (n0 sz:Nat) (v:Value) (n:Nat) (cs:List Value) (k:Nat) (fam:Option Nat):Prop :=
 0<sz∧cs.length=n*sz∧v=.slice (some ⟨2*k,0,none⟩) n (2*n)∧0<n∧n0≤k∧k<h.n∧h.ext.get k=some (.cells cs sz fam)∧TopFam h n0 k fam
theorem AccK.acc {h:IH} {n0 sz:Nat} {v:Value} {n:Nat} {cs:List Value} {k:Nat} {fam:Option Nat} (a:AccK h n0 sz v n cs k fam):Acc h n0 sz v n cs:=⟨a.1,a.2.1,.inr ⟨k,fam,a.2.2⟩⟩
theorem AccK.other {h h':IH} {n0 sz:Nat} {v:Value} {n:Nat} {cs:List Value} {k:Nat} {fam:Option Nat} (a:AccK h n0 sz v n cs k fam) (hn:h.n≤h'.n) (he:h'.ext.get k=h.ext.get k) (hf : ∀f,fam=some f→h'.fams.get f=h.fams.get f):AccK h' n0 sz v n cs k fam:=by
 obtain⟨h1,h2,h3,h4,h5,h6,h7,h8⟩:=a
 refine⟨h1,h2,h3,h4,h5,by omega,by rw[he];exact h7,?_⟩
 cases fam with
 | none=>trivial
 | some f =>
  obtain⟨a1,a2,rest,a3,a4⟩:=h8
  exact⟨a1,by omega,rest,by rw[hf f rfl];exact a3,a4⟩
def Acc2 (h:IH) (n0 sz:Nat) (v w:Value) (n:Nat) (cs ds:List Value):Prop :=
 (v=.slice none 0 0∧w=.slice none 0 0∧n=0∧cs = []∧ds = []) ∨
 ∃k fam j gam,AccK h n0 sz v n cs k fam∧AccK h n0 sz w n ds j gam∧k≠j ∧ ∀f,fam=some f→gam≠some f
theorem Acc2.sl {h:IH} {n0 sz:Nat} {v w:Value} {n:Nat} {cs ds:List Value} (hz:0<sz) (a:Acc2 h n0 sz v w n cs ds):SlOf h sz v n cs∧SlOf h sz w n ds:=by
 rcases a with⟨rfl,rfl,rfl,rfl,rfl⟩|⟨k,fam,j,gam,a,b,_⟩
 ·exact⟨SlOf.nil _ hz,SlOf.nil _ hz⟩
 ·exact⟨a.acc.sl,b.acc.sl⟩
theorem Acc2.ext {h h':IH} {n0 sz:Nat} {v w:Value} {n:Nat} {cs ds:List Value} (a:Acc2 h n0 sz v w n cs ds) (e:Ext h h'):Acc2 h' n0 sz v w n cs ds:=by
 rcases a with a|⟨k,fam,j,gam,a,b,c⟩
 ·exact .inl a
 ·have hf : ∀{k:Nat} {fam:Option Nat} {v:Value} {cs:List Value},AccK h n0 sz v n cs k fam→AccK h' n0 sz v n cs k fam:=fun a=>a.other e.n (e.get _ a.2.2.2.2.2.1) fun f hf=>e.fams f (by
   obtain⟨_,_,_,_,_,_,_,t⟩:=a
   subst hf
   exact t.2.1)
  exact .inr ⟨k,fam,j,gam,hf a,hf b,c⟩
end Go.Id

namespace Go.Id
open Go
end Go.Id

namespace Go.Id
open Go
theorem min_kk (P:Program) (h:IH) (ts:Array TypeId) (k:IntKind) (a b:Int):builtin P h .min ts [.int k a,.int k b]=some (.int k (if b<a then b else a),h):=by
 have h1:pureRun P (Builtin.min_ ts 0 #[.int k a,.int k b])=some (.int k (if b<a then b else a)):=by
  unfold Builtin.min_
  simp
  rfl
 show(bif [Value.int k a,Value.int k b].all plain then (pureVal P (Builtin.min_ ts 0 #[.int k a,.int k b])).map (·,h) else none)=_
 simp only[pureVal,h1]
 rfl
end Go.Id

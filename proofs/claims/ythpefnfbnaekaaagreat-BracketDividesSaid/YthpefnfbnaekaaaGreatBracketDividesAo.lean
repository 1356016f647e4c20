/-
  Contracts: bracket.At. The greatest and the least of two numbers.
-/
import Derived.Test.YthpefnfbnaekaaaGreatBracketDividesAg
import Derived.Test.YthpefnfbnaekaaaGreatBracketDividesAn
import Derived.Test.YthpefnfbnaekaaaGreatBracketDividesAf
import Derived.Test.YthpefnfbnaekaaaGreatBracketDividesAl
import Derived.Test.YthpefnfbnaekaaaGreatBracketDividesAm
set_option linter.unusedVariables false
set_option linter.unusedSimpArgs false
set_option linter.defProp false
set_option linter.deprecated false
namespace Go.Id
open Go
open Go.Proofs.Tryz (prog)
open Nat (reduceAdd reduceEqDiff reduceLeDiff)
set_option maxHeartbeats 16000000
theorem postErr_in {m s:Nat} (hm:11≤m∧m≤15) (hs:s≤1000):postErr m s=false:=by
 unfold postErr
 rw[Bool.not_eq_false',Bool.and_eq_true,inR_iff,inR_iff]
 exact⟨by simp;omega,by simp;omega⟩
theorem atGeq_ok {h:IH} {km kt kl m s:Nat} {t:Rat} {k:Int} (hm:11≤m∧m≤15) (hs:s≤1000) (ht:QW t) (gm:h.ext.get km=some (.cells [KN m] 0 none)) (gt:h.ext.get kt=some (.cells (shC (shq t).1 (shq t).2) 0 none)) (gl:h.ext.get kl=some (.cells [KI k] 0 none))
  (bt:kt<h.n) (bl:kl<h.n) :
  WV prog (.func (.func 56) #[] #[ptr (2*km) 0,ptr (2*kt) 0,ptr (2*kl) 0]) [KN s] h fun r h'=>Ext h h'∧r=.bool (stepP k m t s):=by
 refine enter (nt:=25) (rs:=[.tmp 5]) Proofs.Tryz.func56 rfl rfl rfl (by simp) ?_
 simp -dsimp (maxSteps:=1000000) (disch:=try exact dx) only[wpS,reduceEqDiff,reduceAdd,ld3,row_of gm]
 refine call (dPost_ok m s) ?_
 rintro _ h1 ⟨X1,hr⟩
 rw[if_neg (by rw[postErr_in hm hs];simp),Int.toNat_natCast,Int.toNat_natCast] at hr
 subst hr
 have m1:=X1.n
 obtain⟨H1,hH1,n1,E1,g1⟩:=boxed h1 Z16 (shC (shq (postQ m s)).1 (shq (postQ m s)).2)
 simp -dsimp (maxSteps:=1000000) (disch:=try exact dx) only[wpS,wpT,reduceEqDiff,reduceLeDiff,reduceAdd,zc47,st47,ld47,shV_cells,shC_len,shC_all,sh_sp3,row_of (X1.kept bt gt),sh_take]
 rw[←hH1]
 clear hH1
 have X2:=X1.trans E1
 refine call (shcmp_ok (p1:=shq (postQ m s)) (p2:=shq t) (shq_lt (postQ_qw hs)) (shq_lt ht) (shq_rOf (postQ_qw hs)).2 (shq_rOf ht).2) ?_
 rintro _ h2 ⟨X3,rfl⟩
 rw[cmpQ_rOf (postQ_qw hs) ht]
 simp -dsimp (maxSteps:=1000000) (disch:=try exact dx) only[wpS,reduceEqDiff,ld3,row_of ((X2.trans X3).kept bl gl)]
 exact⟨X2.trans X3,rfl⟩
theorem atFirst_ok {h:IH} {km kt m:Nat} {t:Rat} (k:Int) (hm:11≤m∧m≤15) (ht:QW t) (gm:h.ext.get km=some (.cells [KN m] 0 none)) (gt:h.ext.get kt=some (.cells (shC (shq t).1 (shq t).2) 0 none)) (bm:km<h.n) (bt:kt<h.n) :
  WV prog (.func (.func 54) #[] #[ptr (2*km) 0,ptr (2*kt) 0]) [KI k] h fun r h'=>Ext h h'∧r=KN (firstT (stepP k m t) 1001):=by
 refine enter (nt:=7) (rs:=[.tmp 4]) Proofs.Tryz.func54 rfl rfl rfl (by simp) ?_
 simp -dsimp (maxSteps:=1000000) (disch:=try exact dx) only[wpS,reduceEqDiff,reduceAdd]
 obtain⟨H1,hH1⟩ : ∃H,H=h.new (.cells [KI k] 0 none):=⟨_,rfl⟩
 have E1:Ext h H1:=by rw[hH1];exact(Ext.refl h).new _
 have g1:H1.ext.get h.n=some (.cells [KI k] 0 none):=by rw[hH1];simp (disch:=try exact dx) only[get_new_same]
 have n1:H1.n=h.n+1:=by rw[hH1];simp
 rw[←hH1]
 clear hH1
 refine call (search_ok (h0:=H1) (n:=1001) (stepP k m t) (by omega) (fun s u=>stepP_mono hm) (Ext.refl _) (fun hh i hi E=>atGeq_ok hm (by omega) ht ((E1.trans E).kept bm gm) ((E1.trans E).kept bt gt) (E.kept (by omega) g1) (by have:=(E1.trans E).n;omega) (by have:=E.n;omega))) ?_
 rintro _ h2 ⟨X2,rfl⟩
 simp -dsimp (maxSteps:=1000000) (disch:=try exact dx) only[wpS,wpT,reduceEqDiff]
 exact E1.trans X2
theorem sh_spA (a b c d:Nat):IH.splice (shC a b) 0 (shC c d)=shC c d:=splice_all (by rw[shC_len,shC_len])
theorem AtV.err {h':IH} {people:List Int} {p:Nat×Nat} {m e:Int} (h:atErr people p m=e) (h0:e≠0):AtV h' (.tuple #[.slice none 0 0,.slice none 0 0,KI e]) people p m:=by
 unfold AtV
 rw[h,if_neg h0]
theorem rOf_num0 {p:Nat×Nat} (h:0<rOf p):p.1≠0:=by
 intro e
 unfold rOf at h
 rw[e,show wdI 0=0 from by decide +kernel,Rat.zero_divInt] at h
 exact absurd h (by decide)
theorem divInt_one (n:Int):Rat.divInt n 1=(n:Rat):=by
 rw[Rat.divInt_eq_div]
 have:((1:Int):Rat)=1:=rfl
 rw[this]
 grind
theorem at_ok {h:IH} {vp:Value} {m:Int} {people:List Int} {p:Nat×Nat} (hp:SlOf h 1 vp people.length (people.map KI)) (lp:people.length≤1000000000) (h1:p.1<W8∧p.2<W8) :
  WV prog (.func (.func 22) #[] #[]) [vp,shV p.1 p.2,KI m] h fun r h'=>Ext h h'∧AtV h' r people p m:=by
 have z0 : ∀(n:Nat),((n:Nat):Int)=0↔n=0:=fun n=>by omega
 refine enter (nt:=97) (rs:=[.tmp 6,.tmp 7,.tmp 8]) Proofs.Tryz.func22 rfl rfl rfl (by simp) ?_
 simp -dsimp (maxSteps:=1000000) (disch:=try exact dx) only[wpS,reduceEqDiff,reduceAdd,shV_cells]
 obtain⟨H0,hH0,n0,E0,g0,g1⟩:=boxes2 h (shC p.1 p.2) [KI m]
 rw[←hH0]
 clear hH0
 refine call (qcheck_ok (hp.keep E0.keep) lp) ?_
 rintro _ _ ⟨rfl,rfl⟩
 cases c1:quotaOK people
 ·simp -dsimp (maxSteps:=1000000) (disch:=try exact dx) only[wpS,wpT,reduceEqDiff]
  exact⟨E0,AtV.err (e:=60) (by unfold atErr;rw[if_pos c1]) (by omega)⟩
 ·have c1' : ¬quotaOK people=false:=by rw[c1];simp
  simp -dsimp (maxSteps:=1000000) (disch:=try exact dx) only[wpS,wpT,reduceEqDiff,reduceLeDiff,ld47,row_of g0,shC_len,sh_take]
  refine call (shcheck_ok p.1 p.2 h1.1 h1.2) ?_
  rintro _ h2 ⟨X2,rfl⟩
  have m2:=X2.n
  by_cases c2:okS p.1 p.2
  ·rw[if_pos c2]
   have c2' : ¬¬okS p.1 p.2:=fun h=>h c2
   simp -dsimp (maxSteps:=1000000) (disch:=try exact dx) only[wpS,wpT,reduceEqDiff,reduceLeDiff,ld47,row_of (X2.kept (by omega) g0),shC_len,sh_take]
   refine call (shsign_ok (p1:=p) h1 c2) ?_
   rintro _ h3 ⟨X3,rfl⟩
   have Y3:=X2.trans X3
   have m3:=Y3.n
   by_cases c3:0<rOf p
   ·have sg:(if rOf p<0 then (-1:Int) else if rOf p=0 then 0 else 1)=1:=by
     rw[if_neg (fun h=>by grind),if_neg (fun h=>by rw[h] at c3;exact absurd c3 (by decide))]
    rw[sg]
    simp -dsimp (maxSteps:=1000000) (disch:=try exact dx) only[wpS,wpT,reduceEqDiff,reduceLeDiff,reduceAdd,ld3,bs29,row_of (Y3.kept (by omega) g1)]
    refine call (bwithin_ok (l:=[m]) 11 15 (built1 h3 m) (by simp)) ?_
    rintro _ h4 ⟨X4,rfl⟩
    have Y4:=(Y3.trans ((Ext.refl h3).new _)).trans X4
    have m4:=Y4.n
    cases c4:inR 11 15 [m]
    ·simp -dsimp (maxSteps:=1000000) (disch:=try exact dx) only[wpS,wpT,reduceEqDiff]
     exact⟨E0.trans Y4,AtV.err (e:=2) (by unfold atErr;rw[if_neg c1',if_neg c2',if_pos (.inr c4)]) (by omega)⟩
    ·have er:atErr people p m=atE m.toNat (rOf p) people:=by unfold atErr;rw[if_neg c1',if_neg c2',if_neg (by rw[c4];simp[c3])]
     have hm:=inR_iff.1 c4 m (by simp)
     obtain⟨a,rfl⟩ : ∃a:Nat,m=a:=⟨m.toNat,by omega⟩
     have ha:11≤a∧a≤15:=by omega
     rw[Int.toNat_natCast] at er
     obtain⟨x,hx⟩ : ∃x,x=rOf p:=⟨_,rfl⟩
     have G4:=E0.trans Y4
     have hq:people.length≤60 ∧ ∀n∈people,0≤n∧n≤1000000000:=by
      unfold quotaOK at c1
      simp only[Bool.and_eq_true,decide_eq_true_eq] at c1
      exact⟨c1.1,inR_iff.1 c1.2.1⟩
     have k0:=Y4.kept (by omega) g0
     have k1:=Y4.kept (by omega) g1
     simp -dsimp (maxSteps:=1000000) (disch:=try exact dx) only[wpS,wpT,reduceEqDiff,(hp.keep G4.keep).now.len sl29]
     refine loop (fun mm fr hh => ∃(i:Nat) (v w:Value),i+mm=people.length∧Ext h4 hh∧Acc2 hh h4.n 1 v w i (atA a x (people.take i)) (atB a x (people.take i))∧(∀y∈people.take i,(atReg a x y).1=0)∧fget fr 4=some (ptr (2*h.n) 0)∧fget fr 5=some (ptr (2*(h.n+1)) 0)∧fget fr 6=some v∧fget fr 7=some w∧fget fr 45=some vp∧fget fr 46=some (KN people.length)∧fget fr 47=some (KN i)) people.length
      ⟨0,.slice none 0 0,.slice none 0 0,by omega,Ext.refl _,.inl ⟨rfl,rfl,rfl,by simp[atA],by simp[atB]⟩,fun y hy=>by simp at hy,by simp,by simp,by simp,by simp,by simp,by simp,by simp⟩ ?_
     rintro mm fr hh ⟨i,v,w,him,E,A,hz,f4,f5,f6,f7,f45,f46,f47⟩
     have EN:=E.n
     have k0':=E.kept (by omega) k0
     have k1':=E.kept (by omega) k1
     have P0:=(hp.keep (G4.trans E).keep).now
     by_cases c:i<people.length
     ·obtain⟨n,hn⟩ : ∃n,people[i]?=some n:=⟨_,List.getElem?_eq_getElem c⟩
      have hnm:=hq.2 n (List.mem_of_getElem? hn)
      have lP:=P0.ld (P:=prog) (t:=3) (c:=i) (by simp<;>omega) ag3
      rw[map_get,hn] at lP
      have e2:IntKind.i64.wrap ((i:Int)+1)=((i+1:Nat):Int):=by rw[wrap_i64 (by omega)];omega
      simp -dsimp (maxSteps:=1000000) (disch:=try exact dx) only[wpS,wpT,reduceEqDiff,f45,f46,f47,P0.idx es29 c,lP]
      refine call (shof_ok n 1 ⟨by omega,by omega⟩ ⟨by omega,by omega⟩ (by omega)) ?_
      rintro _ h5 ⟨X5,rfl⟩
      have qn:QW (n:Rat):=by rw[←divInt_one];exact qw_small (by omega) (by omega) (by omega)
      rw[divInt_one,shareV_shq]
      obtain⟨H6,hH6,n6,E6,g6⟩:=boxed h5 Z16 (shC (shq (n:Rat)).1 (shq (n:Rat)).2)
      have m5:=X5.n
      simp -dsimp (maxSteps:=1000000) (disch:=try exact dx) only[wpS,wpT,reduceEqDiff,reduceLeDiff,reduceAdd,ld47,zc47,st47,f4,shV_cells,shC_len,shC_all,sh_sp3,row_of (X5.kept (by omega) k0'),sh_take]
      rw[←hH6]
      clear hH6
      have Y6:=X5.trans E6
      refine call (shdiv_ok (p1:=shq (n:Rat)) (p2:=p) (shq_lt qn) h1 (shq_rOf qn).2 c2 (rOf_num0 c3)) ?_
      rintro _ h7 ⟨X7,rfl⟩
      rw[(shq_rOf qn).1,←hx]
      have Y7:=Y6.trans X7
      have m7:=Y7.n
      by_cases w1:QW ((n:Rat) / x)
      ·rw[toldV_qw w1]
       obtain⟨H8,hH8,n8,E8,g8⟩:=boxed h7 Z16 (shC (shq ((n:Rat) / x)).1 (shq ((n:Rat) / x)).2)
       simp -dsimp (maxSteps:=1000000) (disch:=try exact dx) only[wpS,wpT,reduceEqDiff,reduceLeDiff,reduceAdd,ld3,zc47,st47,f5,shV_cells,shC_len,shC_all,sh_sp3,row_of (Y7.kept (by omega) k1')]
       rw[←hH8]
       clear hH8
       refine bq_cut (fun fr2 h2 => ∃(s:Nat×Nat) (er:Int),Ext h7 h2∧h7.n<h2.n∧h2.ext.get h7.n=some (.cells (shC s.1 s.2) 0 none)∧((er=0 ∧ ∃t,atT a x n=some t∧s=shq t∧QW t)∨(er=6∧atT a x n=none))∧fget fr2 4=some (ptr (2*h.n) 0)∧fget fr2 5=some (ptr (2*(h.n+1)) 0)∧fget fr2 6=some v∧fget fr2 7=some w∧fget fr2 14=some (KI n)∧fget fr2 17=some (ptr (2*h7.n) 0)∧fget fr2 18=some (KI er)∧fget fr2 45=some vp∧fget fr2 46=some (KN people.length)∧fget fr2 47=some (KN i)) (fun hc=>?_) (fun hc=>?_) ?_
       ·have a13:a=13:=by simp at hc;omega
        simp -dsimp (maxSteps:=1000000) (disch:=try exact dx) only[wpS,wpT,reduceEqDiff,reduceLeDiff,ld47,row_of g8,shC_len,sh_take]
        refine call (shmul_ok (p1:=shq ((n:Rat) / x)) (p2:=shq ((n:Rat) / x)) (shq_lt w1) (shq_lt w1) (shq_rOf w1).2 (shq_rOf w1).2) ?_
        rintro _ h9 ⟨X9,rfl⟩
        have g9:=X9.kept (by omega) g8
        have m9:=X9.n
        rw[(shq_rOf w1).1]
        by_cases w2:QW ((n:Rat) / x*((n:Rat) / x))
        ·rw[toldV_qw w2]
         simp -dsimp (maxSteps:=1000000) (disch:=try exact dx) only[wpS,wpT,reduceEqDiff,reduceLeDiff,st47,g9,shV_cells,shC_len,shC_all,sh_spA]
         exact⟨shq ((n:Rat) / x*((n:Rat) / x)),0,(E8.trans X9).put (by omega) _,by simp;omega,by simp (disch:=try exact dx) only[get_put_same],.inl ⟨rfl,_,by unfold atT;rw[if_pos w1,if_pos a13,if_pos w2],rfl,w2⟩,by simp[f4],by simp[f5],by simp[f6],by simp[f7],by simp,by simp,by simp,by simp[f45],by simp[f46],by simp[f47]⟩
        ·have tz:toldV ((n:Rat) / x*((n:Rat) / x))=.tuple #[shV 0 0,KI 6]:=by unfold toldV;rw[if_neg w2]
         rw[tz]
         simp -dsimp (maxSteps:=1000000) (disch:=try exact dx) only[wpS,wpT,reduceEqDiff,reduceLeDiff,st47,g9,shV_cells,shC_len,shC_all,sh_spA]
         exact⟨(0,0),6,(E8.trans X9).put (by omega) _,by simp;omega,by simp (disch:=try exact dx) only[get_put_same],.inr ⟨rfl,by unfold atT;rw[if_pos w1,if_pos a13,if_neg w2]⟩,by simp[f4],by simp[f5],by simp[f6],by simp[f7],by simp,by simp,by simp,by simp[f45],by simp[f46],by simp[f47]⟩
       ·have a13 : ¬a=13:=by simp at hc;omega
        simp -dsimp (maxSteps:=1000000) (disch:=try exact dx) only[wpS,wpT]
        exact⟨shq ((n:Rat) / x),0,E8,by omega,g8,.inl ⟨rfl,_,by unfold atT;rw[if_pos w1,if_neg a13],rfl,w1⟩,by simp[f4],by simp[f5],by simp[f6],by simp[f7],by simp,by simp,by simp,by simp[f45],by simp[f46],by simp[f47]⟩
       ·rintro fr2 h9 ⟨s,er9,X9,hn9,g9,hcase,f4,f5,f6,f7,f14,f17,f18,f45,f46,f47⟩
        have Y9:=Y7.trans X9
        have m9:=Y9.n
        rcases hcase with⟨rfl,t,ht,rfl,qt⟩|⟨rfl,ht⟩
        ·simp -dsimp (maxSteps:=1000000) (disch:=try exact dx) only[wpS,wpT,reduceEqDiff,f18,f5,f17]
         refine call (atFirst_ok 0 ha qt (Y9.kept (by omega) k1') g9 (by omega) (by omega)) ?_
         rintro _ h10 ⟨X10,rfl⟩
         simp -dsimp (maxSteps:=1000000) (disch:=try exact dx) only[wpS,reduceEqDiff]
         have m10:=X10.n
         refine call (atFirst_ok 1 ha qt ((Y9.trans X10).kept (by omega) k1') (X10.kept (by omega) g9) (by omega) (by omega)) ?_
         rintro _ h11 ⟨X11,rfl⟩
         have Y11:=Y9.trans (X10.trans X11)
         have m11:=Y11.n
         simp -dsimp (maxSteps:=1000000) (disch:=try exact dx) only[wpS,reduceEqDiff,f14]
         refine bq_cut (fun fr3 h12 => ∃(lo hi:Nat),h12=h11∧(lo=if n=0 then 0 else atLow a t)∧(hi=if n=0 then 0 else atHigh a t)∧fget fr3 4=some (ptr (2*h.n) 0)∧fget fr3 5=some (ptr (2*(h.n+1)) 0)∧fget fr3 6=some v∧fget fr3 7=some w∧fget fr3 20=some (KN lo)∧fget fr3 21=some (KN hi)∧fget fr3 45=some vp∧fget fr3 46=some (KN people.length)∧fget fr3 47=some (KN i)) (fun hc=>?_) (fun hc=>?_) ?_
         ·have n0:n=0:=by simpa using hc
          simp -dsimp (maxSteps:=1000000) (disch:=try exact dx) only[wpS,wpT]
          exact⟨0,0,rfl,by rw[if_pos n0],by rw[if_pos n0],by simp[f4],by simp[f5],by simp[f6],by simp[f7],by simp,by simp,by simp[f45],by simp[f46],by simp[f47]⟩
         ·have n0 : ¬n=0:=by simpa using hc
          simp -dsimp (maxSteps:=1000000) (disch:=try exact dx) only[wpS,wpT]
          exact⟨atLow a t,atHigh a t,rfl,by rw[if_neg n0],by rw[if_neg n0],by simp[f4],by simp[f5],by simp[f6],by simp[f7],by simp[atLow],by simp[atHigh],by simp[f45],by simp[f46],by simp[f47]⟩
         ·rintro fr3 _ ⟨lo,hi,rfl,hlo,hhi,f4,f5,f6,f7,f20,f21,f45,f46,f47⟩
          by_cases w3:1000<hi
          ·simp -dsimp (maxSteps:=1000000) (disch:=try exact dx) only[wpS,wpT,reduceEqDiff,f21]
           have n0 : ¬n=0:=fun h=>by rw[if_pos h] at hhi;omega
           rw[if_neg n0] at hhi
           refine⟨G4.trans (E.trans Y11),AtV.err (e:=2) ?_ (by omega)⟩
           rw[er,←hx]
           have hr:atReg a x n=(2,0,0):=by unfold atReg;rw[ht];show(if n=0 then _ else _)=_;rw[if_neg n0,if_pos (by omega)]
           rw[atE_first hn hz (by rw[hr];simp),hr]
          ·have hr:atReg a x n=(0,(lo:Int),(hi:Int)):=by
            unfold atReg;rw[ht];show(if n=0 then _ else _)=_
            by_cases n0:n=0
            ·rw[if_pos n0] at hlo hhi ⊢;rw[hlo,hhi];rfl
            ·rw[if_neg n0] at hlo hhi ⊢;rw[if_neg (by omega),hlo,hhi]
           obtain⟨v',q1,w',q2,a1,a2,A',Gr1,Gr2,E3⟩:=(A.ext Y11).round (P:=prog) (t:=29) ap29 (by omega) (new1:=[KN lo]) (new2:=[KN hi]) rfl rfl rfl rfl (by omega) (by omega) (E.trans Y11) (Nat.le_refl _)
           simp -dsimp (maxSteps:=1000000) (disch:=try exact dx) only[wpS,wpT,reduceEqDiff,reduceLeDiff,reduceAdd,bs29,ba29_29,f6,f7,f20,f21,f47,a1,a2,e2]
           refine⟨mm - 1,by omega,i+1,v',w',by omega,E3,?_,?_,by simp[f4],by simp[f5],by simp,by simp,by simp[f45],by simp[f46],by simp⟩
           ·have ea:atA a x (people.take (i+1))=atA a x (people.take i) ++ [KN lo]:=by unfold atA;rw[List.take_add_one,hn];simp[hr]
            have eb:atB a x (people.take (i+1))=atB a x (people.take i) ++ [KN hi]:=by unfold atB;rw[List.take_add_one,hn];simp[hr]
            rw[ea,eb]
            exact A'
           ·intro y hy
            rw[List.take_add_one,hn] at hy
            simp at hy
            rcases hy with hy|rfl
            ·exact hz y hy
            ·rw[hr]
        ·simp -dsimp (maxSteps:=1000000) (disch:=try exact dx) only[wpS,wpT,reduceEqDiff,f18]
         refine⟨G4.trans (E.trans Y9),AtV.err (e:=6) ?_ (by omega)⟩
         rw[er,←hx]
         have hr:atReg a x n=(6,0,0):=by unfold atReg;rw[ht]
         rw[atE_first hn hz (by rw[hr];simp),hr]
      ·have tz:toldV ((n:Rat) / x)=.tuple #[shV 0 0,KI 6]:=by unfold toldV;rw[if_neg w1]
       have at0:atT a x n=none:=by unfold atT;rw[if_neg w1]
       rw[tz]
       simp -dsimp (maxSteps:=1000000) (disch:=try exact dx) only[wpS,wpT,reduceEqDiff,reduceLeDiff,reduceAdd,zc47,st47,shV_cells,shC_len,shC_all,sh_sp3]
       refine⟨G4.trans (E.trans ((Y7.new _).put (by omega) _)),AtV.err (e:=6) ?_ (by omega)⟩
       rw[er,←hx]
       have hr:atReg a x n=(6,0,0):=by unfold atReg;rw[at0]
       rw[atE_first hn hz (by rw[hr];simp),hr]
     ·have hin:i=people.length:=by omega
      subst hin
      rw[List.take_of_length_le (Nat.le_refl _)] at A hz
      simp -dsimp (maxSteps:=1000000) (disch:=try exact dx) only[wpS,wpT,reduceEqDiff,f6,f7,f46,f47]
      refine⟨G4.trans E,?_⟩
      unfold AtV
      rw[er,←hx,atE_none hz,if_pos rfl]
      obtain⟨s1,s2⟩:=A.sl (by omega)
      exact⟨v,w,rfl,s1,s2⟩
   ·have sg : ∃z:Int,(if rOf p<0 then (-1:Int) else if rOf p=0 then 0 else 1)=z∧decide (z≤0)=true:=by
     by_cases c5:rOf p<0
     ·exact⟨-1,by rw[if_pos c5],rfl⟩
     ·exact⟨0,by rw[if_neg c5,if_pos (by grind)],rfl⟩
    obtain⟨z,hz,hz0⟩:=sg
    rw[hz]
    simp -dsimp (maxSteps:=1000000) (disch:=try exact dx) only[wpS,wpT,reduceEqDiff,hz0]
    exact⟨E0.trans Y3,AtV.err (e:=2) (by unfold atErr;rw[if_neg c1',if_neg c2',if_pos (.inl c3)]) (by omega)⟩
  ·rw[if_neg c2]
   simp -dsimp (maxSteps:=1000000) (disch:=try exact dx) only[wpS,wpT,reduceEqDiff]
   exact⟨E0.trans X2,AtV.err (e:=20) (by unfold atErr;rw[if_neg c1',if_pos c2]) (by omega)⟩
end Go.Id

namespace Go.Id
open Go
theorem min_kk (P:Program) (h:IH) (ts:Array TypeId) (k:IntKind) (a b:Int):builtin P h .min ts [.int k a,.int k b]=some (.int k (if b<a then b else a),h):=by
 have h1:pureRun P (Builtin.min_ ts 0 #[.int k a,.int k b])=some (.int k (if b<a then b else a)):=by
  unfold Builtin.min_
  simp
  rfl
 show(bif [Value.int k a,Value.int k b].all plain then (pureVal P (Builtin.min_ ts 0 #[.int k a,.int k b])).map (·,h) else none)=_
 simp only[pureVal,h1]
 rfl
end Go.Id

namespace Go.Id
open Go
open Go.Proofs.Tryz (prog)
open Nat (reduceAdd reduceEqDiff reduceLeDiff)
set_option maxHeartbeats 16000000
abbrev B8 (n:Nat):Value:=.int .u8 (n:Int)
abbrev B16 (n:Nat):Value:=.int .u16 (n:Int)
def cenN (u p:Nat):Int:=if u % 3=0 then ((p % 12:Nat):Int) else ((p*u:Nat):Int)
def cenL (u:Nat) (ps:List Nat):List Int:=(ps.take 8).map (cenN u)
def census (u:Nat) (ps:List Nat):List Int:=if (cenL u ps).sum=0 then cenL u ps ++ [1] else cenL u ps
theorem cenN_le {u p:Nat} (hu:u<256) (hp:p<65536):0≤cenN u p∧cenN u p≤16711425:=by
 have:p*u≤65535*255:=Nat.mul_le_mul (by omega) (by omega)
 unfold cenN
 split<;>omega
structure Dr6 (h:IH) (x:Value) (ps ls:List Nat) (u s:Nat):Prop where
 ex : ∃vp vl,x=.agg #[vp,B8 u,vl,B16 s]∧SlOf h 1 vp ps.length (ps.map B16)∧SlOf h 1 vl ls.length (ls.map B8)
 bp : ∀p∈ps,p<65536
 bl : ∀p∈ls,p<256
 bu:u<256
 bs:s<65536
 lp:ps.length<9223372036854775808
 ll:ls.length<9223372036854775808
theorem Dr6.keep {h h':IH} {x:Value} {ps ls:List Nat} {u s:Nat} (d:Dr6 h x ps ls u s) (e:Keep h h'):Dr6 h' x ps ls u s:=by
 obtain⟨⟨vp,vl,a,b,c⟩,d1,d2,d3,d4,d5,d6⟩:=d
 exact⟨⟨vp,vl,a,b.keep e,c.keep e⟩,d1,d2,d3,d4,d5,d6⟩
theorem map_getN {f:Nat→Value} {l:List Nat} {i:Nat} {p:Nat} (h:l[i]?=some p):(l.map f)[i]?=some (f p):=by rw[List.getElem?_map,h];rfl
theorem cenL_succ {u:Nat} {ps:List Nat} {i p:Nat} (h:ps[i]?=some p) (h8:i<8):cenL u (ps.take (i+1))=cenL u (ps.take i) ++ [cenN u p]:=by
 unfold cenL
 rw[List.take_take,List.take_take,show min 8 (i+1)=i+1 from by omega,show min 8 i=i from by omega,List.take_add_one,h]
 simp
theorem cenL_all {u:Nat} {ps:List Nat}:cenL u (ps.take (min ps.length 8))=cenL u ps:=by
 unfold cenL
 rw[List.take_take]
 rcases Nat.lt_or_ge ps.length 8 with h|h
 ·rw[List.take_of_length_le (by omega),List.take_of_length_le (by omega)]
 ·rw[show min 8 (min ps.length 8)=8 from by omega]
theorem cenL_bound {u:Nat} {ps:List Nat} (hu:u<256) (hp : ∀p∈ps,p<65536):(∀n∈cenL u ps,0≤n∧n≤1000000000)∧(cenL u ps).length≤8:=by
 refine⟨fun n hn=>?_,by unfold cenL;rw[List.length_map,List.length_take];omega⟩
 obtain⟨p,h1,rfl⟩:=List.mem_map.1 hn
 have:=cenN_le hu (hp p (List.mem_of_mem_take h1))
 omega
theorem census_ok {h:IH} {x:Value} {ps ls:List Nat} {u s:Nat} (hx:Dr6 h x ps ls u s) :
  WV prog (.func (.func 9) #[] #[]) [x] h fun r h'=>Ext h h'∧SlOf h' 1 r (census u ps).length ((census u ps).map KI):=by
 obtain⟨⟨vp,vl,rfl,sp,sl⟩,bp,bl,hu,hs,lp,ll⟩:=hx
 refine enter (nt:=48) (rs:=[.tmp 2]) Proofs.Tryz.func9 rfl rfl rfl (by simp) ?_
 simp -dsimp (maxSteps:=1000000) (disch:=try exact dx) only[wpS]
 obtain⟨H0,hH0⟩ : ∃H,H=h.new (.cells [vp,B8 u,vl,B16 s] 0 none):=⟨_,rfl⟩
 have E0:Ext h H0:=by rw[hH0];exact(Ext.refl h).new _
 have g0:H0.ext.get h.n=some (.cells [vp,B8 u,vl,B16 s] 0 none):=by rw[hH0];simp (disch:=try exact dx) only[get_new_same]
 have n0:H0.n=h.n+1:=by rw[hH0];simp
 rw[←hH0]
 clear hH0
 refine loop (fun m fr hh => ∃(i:Nat) (v:Value),i+m=min ps.length 8∧Ext H0 hh∧Acc hh H0.n 1 v i ((cenL u (ps.take i)).map KI)∧fget fr 1=some (ptr (2*h.n) 0)∧fget fr 3=some v∧fget fr 4=some (KI (cenL u (ps.take i)).sum)∧fget fr 5=some (KN i)) (min ps.length 8)
  ⟨0,.slice none 0 0,by omega,Ext.refl _,Acc.nil _ _ (sz:=1) (by decide),by simp,by simp,by simp[cenL],by simp⟩ ?_
 rintro m fr hh ⟨i,v,him,E,A,f1,f3,f4,f5⟩
 have g1:=E.kept (by omega) g0
 have P0:=(sp.keep (E0.trans E).keep).now
 have bt:=cenL_bound (u:=u) (ps:=ps.take i) hu (fun p hp=>bp p (List.mem_of_mem_take hp))
 have bsum:=sum_bound _ bt.1
 have hcl:(cenL u (ps.take i)).length≤8:=bt.2
 by_cases c:i<ps.length
 ·by_cases c8:i<8
  ·obtain⟨p,hp⟩ : ∃p,ps[i]?=some p:=⟨_,List.getElem?_eq_getElem c⟩
   have hpb:=bp p (List.mem_of_getElem? hp)
   have hN:=cenN_le hu hpb
   have lP:=P0.ld (P:=prog) (t:=24) (c:=i) (by simp<;>omega) ag24
   rw[map_getN hp] at lP
   have e3:(u:Int) % 3=((u % 3:Nat):Int):=by omega
   have e12:(p:Int) % 12=((p % 12:Nat):Int):=by omega
   simp -dsimp (maxSteps:=1000000) (disch:=try exact dx) only[wpS,wpT,reduceEqDiff,fa26_0,ld22,cv24_3,fa26_1,ld5,f1,f5,row_of g1,P0.len sl22,P0.idx es22 c,lP,e3]

   refine bq_cut (fun fr2 h2=>h2=hh∧fget fr2 1=some (ptr (2*h.n) 0)∧fget fr2 3=some v∧fget fr2 4=some (KI (cenL u (ps.take i)).sum)∧fget fr2 5=some (KN i)∧fget fr2 6=some (KI (cenN u p))) (fun hc=>?_) (fun hc=>?_) ?_
   ·have hz:u % 3=0:=by simp at hc;omega
    simp -dsimp (maxSteps:=1000000) (disch:=try exact dx) only[wpS,wpT,reduceEqDiff,e12]
    exact⟨rfl,by simp[f1],by simp[f3],by simp[f4],by simp[f5],by rw[cenN,if_pos hz];simp⟩
   ·have hz : ¬u % 3=0:=by simp at hc;omega
    have em:IntKind.i64.wrap ((p:Int)*(u:Int))=((p*u:Nat):Int):=by
     have:p*u≤65535*255:=Nat.mul_le_mul (by omega) (by omega)
     rw[←Int.natCast_mul,wrap_i64 (by omega)]
    simp -dsimp (maxSteps:=1000000) (disch:=try exact dx) only[wpS,wpT,reduceEqDiff,fa26_1,ld5,cv5_3,f1,row_of g1,em]
    exact⟨rfl,by simp[f1],by simp[f3],by simp[f4],by simp[f5],by rw[cenN,if_neg hz];simp⟩
   ·rintro fr2 _ ⟨rfl,f1,f3,f4,f5,f6⟩
    have En:=E.n
    obtain⟨v',h5,hap,A5,G5,E5⟩:=A.app1 (P:=prog) (t:=29) ap29 (x:=KI (cenN u p)) rfl (by omega) (by omega) E (Nat.le_refl _)
    have e2:IntKind.i64.wrap ((i:Int)+1)=((i+1:Nat):Int):=by rw[wrap_i64 (by omega)];omega
    have es:IntKind.i64.wrap ((cenL u (ps.take i)).sum+cenN u p)=(cenL u (ps.take (i+1))).sum:=by
     rw[cenL_succ hp c8,List.sum_append,wrap_i64 (by omega)];simp
    simp -dsimp (maxSteps:=1000000) (disch:=try exact dx) only[wpS,wpT,reduceEqDiff,reduceLeDiff,reduceAdd,bs29,ba29_29,f3,f4,f5,f6,hap,e2,es]
    refine⟨m - 1,by omega,i+1,v',by omega,E5,?_,by simp[f1],by simp,by simp,by simp⟩
    rw[cenL_succ hp c8,List.map_append]
    exact A5
  ·have him2:i=min ps.length 8:=by omega
   have e0:cenL u (ps.take i)=cenL u ps:=by rw[him2];exact cenL_all
   have hli:(cenL u ps).length=i:=by unfold cenL;rw[List.length_map,List.length_take];omega
   have En:=E.n
   rw[e0] at A bsum f4
   simp -dsimp (maxSteps:=1000000) (disch:=try exact dx) only[wpS,wpT,reduceEqDiff,fa26_0,ld22,f1,f4,f5,row_of g1,P0.len sl22]
   refine bq_intro (fun hc=>?_) (fun hc=>?_)
   ·have hz:(cenL u ps).sum=0:=by simpa using hc
    obtain⟨v',h5,hap,A5,G5,E5⟩:=A.app1 (P:=prog) (t:=29) ap29 (x:=KI 1) rfl (by omega) (by omega) E (Nat.le_refl _)
    simp -dsimp (maxSteps:=1000000) (disch:=try exact dx) only[wpS,wpT,reduceEqDiff,reduceLeDiff,reduceAdd,bs29,ba29_29,f3,hap]
    refine⟨E0.trans E5,?_⟩
    have e9:census u ps=cenL u ps ++ [1]:=by unfold census;rw[if_pos hz]
    rw[e9,List.map_append,List.length_append,hli]
    exact A5.sl
   ·have hz : ¬(cenL u ps).sum=0:=by simpa using hc
    simp -dsimp (maxSteps:=1000000) (disch:=try exact dx) only[wpS,wpT,reduceEqDiff,f3]
    refine⟨E0.trans E,?_⟩
    have e9:census u ps=cenL u ps:=by unfold census;rw[if_neg hz]
    rw[e9,hli]
    exact A.sl
 ·have him2:i=min ps.length 8:=by omega
  have e0:cenL u (ps.take i)=cenL u ps:=by rw[him2];exact cenL_all
  have hli:(cenL u ps).length=i:=by unfold cenL;rw[List.length_map,List.length_take];omega
  have En:=E.n
  rw[e0] at A bsum f4
  simp -dsimp (maxSteps:=1000000) (disch:=try exact dx) only[wpS,wpT,reduceEqDiff,fa26_0,ld22,f1,f4,f5,row_of g1,P0.len sl22]
  refine bq_intro (fun hc=>?_) (fun hc=>?_)
  ·have hz:(cenL u ps).sum=0:=by simpa using hc
   obtain⟨v',h5,hap,A5,G5,E5⟩:=A.app1 (P:=prog) (t:=29) ap29 (x:=KI 1) rfl (by omega) (by omega) E (Nat.le_refl _)
   simp -dsimp (maxSteps:=1000000) (disch:=try exact dx) only[wpS,wpT,reduceEqDiff,reduceLeDiff,reduceAdd,bs29,ba29_29,f3,hap]
   refine⟨E0.trans E5,?_⟩
   have e9:census u ps=cenL u ps ++ [1]:=by unfold census;rw[if_pos hz]
   rw[e9,List.map_append,List.length_append,hli]
   exact A5.sl
  ·have hz : ¬(cenL u ps).sum=0:=by simpa using hc
   simp -dsimp (maxSteps:=1000000) (disch:=try exact dx) only[wpS,wpT,reduceEqDiff,f3]
   refine⟨E0.trans E,?_⟩
   have e9:census u ps=cenL u ps:=by unfold census;rw[if_neg hz]
   rw[e9,hli]
   exact A.sl
end Go.Id

namespace Go.Id
open Go
end Go.Id

namespace Go.Id
open Go
def maxL:List Int→Int
 | []=>0
 | a :: l=>l.foldl max a
theorem le_maxL : ∀(l:List Int) (x:Int),x∈l→x≤maxL l
 | [],x,h=>by cases h
 | a :: l,x,h=>by
  have g : ∀(l:List Int) (b x:Int),(x=b∨x∈l)→x≤l.foldl max b:=by
   intro l
   induction l with
   | nil=>intro b x h;simp at h;simp[h]
   | cons c l ih =>
    intro b x h
    rw[List.foldl_cons]
    rcases h with rfl|h
    ·have:=ih (max x c) (max x c) (.inl rfl);omega
    ·rcases List.mem_cons.1 h with rfl|h
     ·have:=ih (max b x) (max b x) (.inl rfl);omega
     ·exact ih _ _ (.inr h)
  exact g l a x (by simpa using h)
theorem maxL_mem : ∀(l:List Int),l ≠ []→maxL l∈l
 | [],h=>absurd rfl h
 | a :: l,_=>by
  have g : ∀(l:List Int) (b:Int),l.foldl max b=b∨l.foldl max b∈l:=by
   intro l
   induction l with
   | nil=>intro b;exact .inl rfl
   | cons c l ih =>
    intro b
    rw[List.foldl_cons]
    rcases ih (max b c) with h|h
    ·rcases(by omega:max b c=b∨max b c=c) with h2|h2
     ·exact .inl (h.trans h2)
     ·exact .inr (by rw[h,h2];exact List.mem_cons_self)
    ·exact .inr (List.mem_cons_of_mem _ h)
  rcases g l a with h|h
  ·show l.foldl max a∈_;rw[h];exact List.mem_cons_self
  ·exact List.mem_cons_of_mem _ h
theorem lof_ok {h:IH} (n d:Int) (hn:In64 n) (hd:In64 d) (d0:d≠0):WV Proofs.Tryz.prog (.func (.func 20) #[] #[]) [KI n,KI d] h fun r h'=>Ext h h'∧r=shareV (Rat.divInt n d):=by
 refine enter (nt:=14) (rs:=[.cell 4 47]) Proofs.Tryz.func20 rfl rfl rfl (by simp) ?_
 simp -dsimp (maxSteps:=1000000) (disch:=try exact dx) only[wpS,Nat.reduceEqDiff,Nat.reduceAdd,zc47]
 obtain⟨H0,hH0⟩ : ∃H,H=h.new (.cells Z16 0 none):=⟨_,rfl⟩
 have E0:Ext h H0:=by rw[hH0];exact(Ext.refl h).new _
 have g0:H0.ext.get h.n=some (.cells Z16 0 none):=by rw[hH0];simp (disch:=try exact dx) only[get_new_same]
 have n0:H0.n=h.n+1:=by rw[hH0];simp
 rw[←hH0]
 clear hH0
 refine call (ref02Of_ok n d hn hd d0) ?_
 rintro _ h1 ⟨X1,rfl⟩
 have m1:=X1.n
 rw[shareV_shq]
 simp -dsimp (maxSteps:=1000000) (disch:=try exact dx) only[wpS,wpT,Nat.reduceEqDiff,Nat.reduceLeDiff,Nat.reduceAdd,zc47,st47,ld47,shV_cells,shC_len,shC_all,sh_sp3,sh_take,X1.kept (by omega) g0]
 exact⟨((E0.trans X1).new _).put (by omega) _ |>.put (by omega) _,rfl⟩
end Go.Id

namespace Go.Id
open Go
theorem firstT_le_of {p:Nat→Bool} {n a:Nat} (h:p a=true):firstT p n≤a∨n≤a:=by
 rcases Nat.lt_or_ge a (firstT p n) with h1|h1
 ·rw[firstT_below p n a h1] at h;cases h
 ·exact .inl h1
theorem step_zero {m:Nat} {t:Rat} {s:Nat}:stepP 0 m t s=true↔t≤postQ m s:=by
 unfold stepP cmpQ
 rw[decide_eq_true_eq]
 split
 ·rename_i h;exact⟨fun h=>absurd h (by omega),fun h2=>by grind⟩
 ·rename_i h;exact⟨fun _=>by grind,fun h2=>by split<;>omega⟩
theorem step_one {m:Nat} {t:Rat} {s:Nat}:stepP 1 m t s=true↔t<postQ m s:=by
 unfold stepP cmpQ
 rw[decide_eq_true_eq]
 split
 ·rename_i h;exact⟨fun h=>absurd h (by omega),fun h2=>by grind⟩
 ·split
  ·rename_i h1 h2;exact⟨fun h=>absurd h (by omega),fun h3=>by grind⟩
  ·exact⟨fun _=>by grind,fun _=>by omega⟩
theorem atHigh_le {m:Nat} (hm:11≤m∧m≤15) {t:Rat} (h:t≤if m=13 then 250000 else 500):atHigh m t≤501:=by
 have h2:t<postQ m 501:=by
  rcases(by omega:m=11∨m=12∨m=13∨m=14∨m=15) with rfl|rfl|rfl|rfl|rfl
  ·have:(500:Rat)<postQ 11 501:=by decide +kernel
   simp at h;grind
  ·have:(500:Rat)<postQ 12 501:=by decide +kernel
   simp at h;grind
  ·have:(250000:Rat)<postQ 13 501:=by decide +kernel
   simp at h;grind
  ·have:(500:Rat)<postQ 14 501:=by decide +kernel
   simp at h;grind
  ·have:(500:Rat)<postQ 15 501:=by decide +kernel
   simp at h;grind
 rcases firstT_le_of (p:=stepP 1 m t) (n:=1001) (a:=501) (step_one.2 h2) with h3|h3
 ·exact h3
 ·omega
theorem rdiv_le {a b c:Rat} (hb:0<b) (h:a≤c*b):a / b≤c:=by
 rcases Classical.em (c<a / b) with h1|h1
 ·have:=(Rat.lt_div_iff hb).1 h1
  grind
 ·grind
structure Dvs (top d:Int) (x:Rat):Prop where
 bt:1≤top∧top≤1000000000
 bd:1≤d∧d≤500
 eq:x=Rat.divInt top d
theorem Dvs.pos {top d:Int} {x:Rat} (v:Dvs top d x):0<x:=by
 have h1:(0:Rat)<(top:Rat):=by exact_mod_cast (by have:=v.bt;omega:(0:Int)<top)
 have h2:(0:Rat)<(d:Rat):=by exact_mod_cast (by have:=v.bd;omega:(0:Int)<d)
 rw[v.eq,Rat.divInt_eq_div,Rat.lt_div_iff h2]
 grind
theorem Dvs.quo {top d n:Int} {x:Rat} (v:Dvs top d x) (hn:0≤n∧n≤top):QB 40 ((n:Rat) / x)∧0≤(n:Rat) / x∧(n:Rat) / x≤500:=by
 have hx:=v.pos
 have h1:(0:Rat)<(top:Rat):=by exact_mod_cast (by have:=v.bt;omega:(0:Int)<top)
 have h2:(0:Rat)<(d:Rat):=by exact_mod_cast (by have:=v.bd;omega:(0:Int)<d)
 have h3:(0:Rat)≤(n:Rat):=by exact_mod_cast hn.1
 have h4:(n:Rat)≤(top:Rat):=by exact_mod_cast hn.2
 have h5:((d:Int):Rat)≤((500:Int):Rat):=Rat.intCast_le_intCast.2 v.bd.2
 have h6:((500:Int):Rat)=500:=rfl
 have e:(n:Rat) / x=Rat.divInt (n*d) top:=by
  rw[v.eq,Rat.divInt_eq_div,Rat.divInt_eq_div,Rat.intCast_mul]
  grind
 refine⟨?_,?_,?_⟩
 ·rw[e]
  have b1:=v.bt
  have b2:=v.bd
  have b3:(n*d).natAbs≤1000000000*500:=by
   rw[Int.natAbs_mul]
   exact Nat.mul_le_mul (by omega) (by omega)
  exact QB.divInt (by omega) (Nat.le_trans b3 (by decide)) (Nat.le_trans (by omega:top.natAbs≤1000000000) (by decide))
 ·rw[e]
  exact Rat.divInt_nonneg (Int.mul_nonneg hn.1 (by have:=v.bd;omega)) (by have:=v.bt;omega)
 ·have e2:(n:Rat) / x=(n:Rat)*(d:Rat) / (top:Rat):=by
   rw[e,Rat.divInt_eq_div,Rat.intCast_mul]
  rw[e2]
  have h7:(n:Rat)*(d:Rat)≤500*(top:Rat):=by
   have a1:(n:Rat)*(d:Rat)≤(top:Rat)*(d:Rat):=Rat.mul_le_mul_of_nonneg_right h4 (by grind)
   have a2:(top:Rat)*(d:Rat)≤(top:Rat)*500:=Rat.mul_le_mul_of_nonneg_left (by grind) (by grind)
   grind
  exact rdiv_le h1 h7
theorem Dvs.fine {top d n:Int} {x:Rat} {m:Nat} (v:Dvs top d x) (hm:11≤m∧m≤15) (hn:0≤n∧n≤top) : ∃t,atT m x n=some t∧t=(if m=13 then (n:Rat) / x*((n:Rat) / x) else (n:Rat) / x)∧atHigh m t≤501:=by
 obtain⟨q,q0,q1⟩:=v.quo hn
 have w1:QW ((n:Rat) / x):=qw_bits q (by omega)
 have w2:QW ((n:Rat) / x*((n:Rat) / x)):=qw_bits (QB.mul q q) (by omega)
 by_cases c:m=13
 ·refine⟨_,by unfold atT;rw[if_pos w1,if_pos c,if_pos w2],by rw[if_pos c],atHigh_le hm ?_⟩
  rw[if_pos c]
  generalize (n:Rat) / x=y at *
  have a1:y*y≤500*y:=Rat.mul_le_mul_of_nonneg_right q1 q0
  grind
 ·refine⟨_,by unfold atT;rw[if_pos w1,if_neg c],by rw[if_neg c],atHigh_le hm ?_⟩
  rw[if_neg c]
  exact q1
theorem Dvs.reg {top d n:Int} {x:Rat} {m:Nat} (v:Dvs top d x) (hm:11≤m∧m≤15) (hn:0≤n∧n≤top) :
  ∃t,t=(if m=13 then (n:Rat) / x*((n:Rat) / x) else (n:Rat) / x)∧atReg m x n=(0,((if n=0 then 0 else atLow m t:Nat):Int),((if n=0 then 0 else atHigh m t:Nat):Int)):=by
 obtain⟨t,h1,h2,h3⟩:=v.fine hm hn
 refine⟨t,h2,?_⟩
 unfold atReg
 rw[h1]
 show(if n=0 then _ else _)=_
 by_cases c:n=0
 ·rw[if_pos c,if_pos c,if_pos c];rfl
 ·rw[if_neg c,if_neg c,if_neg c,if_neg (by omega)]
end Go.Id

namespace Go.Id
open Go
noncomputable section
def tbOf (l:List (FuncId×(List Value→Option Value))) (f:FuncId):Option (List Value→Option Value):=List.rec (motive:=fun _=>Option (List Value→Option Value)) none (fun p _ ih=>iB (Nat.beq f p.1) (some p.2) ih) l
def EntryOK (P:Program) (f:FuncId) (g:List Value→Option Value):Prop :=
 (∃fn,P.funcs[f]?=some fn∧fn.body.isSome=true) ∧ ∀args v,args.all plain=true→g args=some v→plainT v=true∧Gives P f args v
theorem tbOf_mem : ∀{l:List (FuncId×(List Value→Option Value))} {f:FuncId} {g:List Value→Option Value},tbOf l f=some g→(f,g)∈l
 | [],_,_,h=>by cases h
 | p :: l,f,g,h=>by
  change iB (Nat.beq f p.1) (some p.2) (tbOf l f)=some g at h
  rw[iB_eq] at h
  cases hb:Nat.beq f p.1 with
  | true =>
   rw[hb] at h;cases h
   have:=Nat.beq_eq.mp hb
   subst this
   exact List.mem_cons_self
  | false =>
   rw[hb] at h
   exact List.mem_cons_of_mem _ (tbOf_mem h)
theorem sound_tb {P:Program} (S:Sound (E0 P)) {l:List (FuncId×(List Value→Option Value))} (h : ∀p∈l,EntryOK P p.1 p.2):Sound (E1 P (tbOf l)) :=
 sound1 S (fun f g hg=>(h _ (tbOf_mem hg)).1) (fun f g hg=>(h _ (tbOf_mem hg)).2)
theorem entry_wv {P:Program} (S:Sound (E0 P)) {f:FuncId} {fn:Func} (hf:P.funcs[f]?=some fn) (hb:fn.body.isSome=true) {g:List Value→Option Value}
  (h : ∀args v,args.all plain=true→g args=some v→plainT v=true∧WV P (.func (.func f) #[] #[]) args (IH.start fun _=>none) fun r _=>r=v):EntryOK P f g :=
 ⟨⟨fn,hf,hb⟩,fun args v hp e=>⟨(h args v hp e).1,gives_wv S ⟨fn,hf,hb⟩ hp (h args v hp e).2⟩⟩
def okT (args:List Value):Option Value:=match args with
 | []=>some (.bool true)
 | _=>none
theorem entry_true {E:Env} (S:Sound E) {n:Nat} {f:FuncId} {fn:Func} (hf:E.P.funcs[f]?=some fn) (hb:fn.body.isSome=true) (h:boolF E (n+1) f (fun _=>none)=true):EntryOK E.P f okT:=by
 refine⟨⟨fn,hf,hb⟩,fun args v hp e=>?_⟩
 unfold okT at e
 split at e
 ·cases e
  obtain⟨h',hr⟩:=boolF_true h
  exact⟨rfl,gives_run S hr ⟨fn,hf,hb⟩ hp⟩
 ·cases e
end
end Go.Id

namespace Go.Id
open Go
def Follows (P:Program) (f:FuncId) (nt:Nat) (run:Fr→IH→Out) (c:Code):Prop :=
 (∀fr h e fr' h',run fr h=some (e,fr',h')→h.n≤h'.n) ∧ ∀(b:Frame) (z B:Nat) (w0:World) (cs:List Frame),b.fn=f→SimCode (E0 P) run b none B w0 z nt cs c
theorem follows_code {E:Env} (S:Sound E) (n:Nat) (f:FuncId) (nt:Nat) (c:Code):Follows E.P f nt (evC E (callV E n) f nt none n c) c:=by
 refine⟨fun fr h e fr' h' hr=>evC_n (callV_mono S n) _ _ _ _ _ _ hr,fun b z B w0 cs hb=>?_⟩
 subst hb
 exact sim_code (E:=E) (callV_sim S n) (callV_mono S n) S.mixed n c
def seqR (ra rb:Fr→IH→Out):Fr→IH→Out:=fun fr h=>match ra fr h with
 | some (.normal,fr,h)=>rb fr h
 | o=>o
theorem follows_seq {P:Program} {f:FuncId} {nt:Nat} {ra rb:Fr→IH→Out} {x y:Code} (hx:Follows P f nt ra x) (hy:Follows P f nt rb y):Follows P f nt (seqR ra rb) (.seq x y):=by
 refine⟨fun fr h e fr' h' hr=>?_,fun b z B w0 cs hb=>?_⟩
 ·unfold seqR at hr
  split at hr
  ·rename_i hx1
   exact Nat.le_trans (hx.1 _ _ _ _ _ hx1) (hy.1 _ _ _ _ _ hr)
  ·exact hx.1 _ _ _ _ _ hr
 ·intro fr h e fr' h' hr m w tmps k ds R hf ht hfr hfo hd hz
  unfold seqR at hr
  split at hr
  ·rename_i fr1 h1 hx1
   have n1:=hx.1 _ _ _ _ _ hx1
   have n2:=hy.1 _ _ _ _ _ hr
   obtain⟨m1,w1,tmps1,ds1,k1,a1,a2,a3,a4,a5,a6,a7⟩:=hx.2 b z B w0 cs hb fr h .normal fr1 h1 hx1 m w tmps (.code y :: k) ds R hf ht (hfr.sub (Nat.le_refl _) n2) hfo hd hz
   obtain rfl:k1=_:=a2
   refine .first (.head st_seq a1) (.step a6 ?_)
   exact hy.2 b z B w0 cs hb fr1 h1 e fr' h' hr m1 w1 tmps1 k ds1 a5 a3 a4 (a6.fresh hfr) (hfo.mono a6.le) a7 (Nat.le_trans hz a6.size)
  ·rename_i hne
   cases e with
   | normal=>exact absurd hr (hne _ _)
   | exit i=>exact .first (.one st_seq) ((hx.2 b z B w0 cs hb fr h _ _ _ hr m w tmps (.code y :: k) ds R hf ht hfr hfo hd hz).out (by simp) (fun i _=>rfl))
   | ret=>exact .first (.one st_seq) ((hx.2 b z B w0 cs hb fr h _ _ _ hr m w tmps (.code y :: k) ds R hf ht hfr hfo hd hz).out (by simp) (fun i hi=>by cases hi))
theorem follows_calls {P:Program} {f:FuncId} {fn:Func} {c:Code} {run:Fr→IH→Out} (hfn:P.funcs[f]?=some fn) (hc:fn.body=some c) (F:Follows P f fn.ntmps run c) {args:List Value} {h h1:IH} {e:IExit} {fr1:Fr} {vs:List Value}
  (hlen':args.length≤fn.ntmps) (hx:run (enterFr 0 args) h=some (e,fr1,h1)) (hne : ∀i,e≠.exit i) (hvs:resultsOf P fr1 h1 fn.results.toList=some vs)
  {B:Nat} {w0:World} {m:Mp} {w:World} {args':Array Value} (R:Rel B w0 m h w) (hargs:LRel m args args'.toList) (hfr:Fresh m h.n h1.n):CallsTo P f args' B w0 m h w (single vs) h1:=by
 have hsz:args'.size=args.length:=by rw[hargs.1];simp
 intro cs
 let b:Frame:={ fn:=f,tmps:=#[],todo:=[],defers:=[],mode:=.run,kind:=.normal,roundOf:=none }
 let tmps:Array Value:=args' ++ Array.replicate (fn.ntmps - args'.size) undef
 have hen:Frame.enter P f args' .normal=on b tmps [.code c] []:=by
  simp[Frame.enter,hfn,hc,on,b,tmps]
 have htmps:FrRel m (enterFr 0 args) tmps:=by
  intro t u hu
  rw[fget_enterFr] at hu
  simp only[Nat.zero_le,if_true,Nat.sub_zero] at hu
  obtain⟨u',h2,h3⟩:=hargs.get hu
  have h4:args'[t]?=some u':=by simpa using h2
  refine⟨u',?_,h3⟩
  have:=(Array.getElem?_eq_some_iff.1 h4).1
  rw[Array.getElem?_append_left this,h4]
 have htsz:fn.ntmps≤tmps.size:=by simp[tmps];omega
 obtain⟨m1,w1,tmps1,ds1,k1,a1,a2,a3,a4,a5,a6,a7⟩:=F.2 b w.heap.size B w0 cs rfl _ _ _ _ _ hx m w tmps [] [] R htmps htsz hfr (.inl ⟨rfl,rfl⟩) (DefOK.nil _ _ _ _) (Nat.le_refl _)
 obtain⟨rs,d1,d2,d3⟩:=a7
 have hleave : ∃todo,step P (lone (on b tmps1 k1 ds1) cs w1)=.next (lone { on b tmps1 todo ds1 with mode:=.returning } cs w1):=by
  cases e with
  | normal=>obtain rfl:k1=_:=a2;exact⟨_,stepR_end (b:=b) (a:=⟨tmps1,ds1⟩) rfl⟩
  | exit i=>exact absurd rfl (hne i)
  | ret=>obtain⟨k2,rfl⟩:=a2;exact⟨_,stepR_ret (b:=b) (a:=⟨tmps1,ds1⟩) rfl⟩
 obtain⟨todo,hleave⟩:=hleave
 obtain⟨w2,b1,b2,b3,b4⟩:=unwind_marks (P:=P) R.size rs { on b tmps1 todo ds1 with mode:=.returning } cs w1 rfl d1 d2 d3 a5
 obtain⟨v',r1,r2⟩:=results_run b2 a3 hvs
 refine⟨.returned v',w2,{ on b tmps1 todo ds1 with mode:=.returning,defers:=[] },⟨v',m1,rfl,r2,b2,?_⟩,?_,?_,?_⟩
 ·refine⟨a6.le,a6.new,a6.n,a6.base,fun r hr hk=>?_,a6.idle,by rw[b3];exact a6.size,a6.img,a6.idleF⟩
  rw[b4 r (fun hm=>by have:=(d3 r hm).1;omega)]
  exact a6.frame r hr hk
 ·exact(by rw[hen];exact a1.trans (.head hleave b1):Steps P (lone (Frame.enter P f args' .normal) cs w) _)
 ·rfl
 ·exact⟨rfl,rfl,rfl,fn,hfn,r1⟩
end Go.Id

namespace Go.Id
open Go Go.RowKit
def partAt:Code→Nat→Code
 | .seq a _,0=>a
 | .seq _ b,n+1=>partAt b n
 | c,_=>c
def restAt:Code→Nat→Code
 | c,0=>c
 | .seq _ b,n+1=>restAt b n
 | c,_=>c
theorem parts_true {P:Program} {tb:FuncId→Option (List Value→Option Value)} (S0:Sound (E0 P)) (S1:Sound (E1 P tb)) {f:FuncId} {fn:Func} {a b rest:Code} {rs:List ResultVar} {nt:Nat} (hfn:P.funcs[f]?=some fn) (hc:fn.body=some (.seq a (.seq b rest))) (hrs:fn.results.toList=rs) (hnt:fn.ntmps=nt)
  {args:List Value} {base:Nat→Option (List Value)} {A:Nat→Nat×Nat} (hlen:args.length≤nt) {fra fr1:Fr} {ha h1:IH} {n:Nat}
  (ea:evC (E1 P tb) (callV (E1 P tb) n) f nt none n a (enterFr 0 args) (IH.start base)=some (.normal,fra,ha))
  (eb:evC (E1 P tb) (callV (E1 P tb) n) f nt none n b fra ha=some (.normal,fr1,h1))
  (w:Do (wpC P f nt none rest fr1 h1) (retK P rs fun r _=>r=.bool true) nx)
  {W:World} {args':Array Value} (hb:BaseOK A base W) (hargs:LRel (Mp.startOf A) args args'.toList):Calls P f args' W fun e W'=>e=.returned (.bool true)∧Below W.heap.size W W':=by
 subst hrs hnt
 obtain⟨⟨e,fr2,h2⟩,⟨N,hN⟩,hq⟩:=wpC_sound w
 have hn:=hN N (Nat.le_refl _)
 have key : ∀(K:Prop),retK P fn.results.toList (fun r _=>r=.bool true) e fr2 h2→(∀vs,(∀i,e≠.exit i)→resultsOf P fr2 h2 fn.results.toList=some vs→single vs=.bool true→K)→K:=by
  intro K hr k
  cases e with
  | exit i=>exact hr.elim
  | normal=>obtain⟨l,h3,h4⟩:=(hr:Ex _ _);exact k l (fun i h=>by cases h) h3 h4
  | ret=>obtain⟨l,h3,h4⟩:=(hr:Ex _ _);exact k l (fun i h=>by cases h) h3 h4
 refine key _ hq fun vs hne hvs hs=>?_
 have F:=follows_seq (follows_code S1 n f fn.ntmps a) (follows_seq (follows_code S1 n f fn.ntmps b) (follows_code S0 N f fn.ntmps rest))
 have hx:seqR (evC (E1 P tb) (callV (E1 P tb) n) f fn.ntmps none n a) (seqR (evC (E1 P tb) (callV (E1 P tb) n) f fn.ntmps none n b) (evC (E0 P) (callV (E0 P) N) f fn.ntmps none N rest)) (enterFr 0 args) (IH.start base)=some (e,fr2,h2):=by
  unfold seqR
  rw[ea]
  show(match evC (E1 P tb) (callV (E1 P tb) n) f fn.ntmps none n b fra ha with|some (.normal,fr,h)=>_|o=>o)=_
  rw[eb]
  exact hn
 refine(follows_calls hfn hc F hlen hx hne hvs (Rel.start hb) hargs (fun k _ _=>Mp.startOf_even A k)).mono fun e w' ⟨v',m',he,hv,R,_⟩=>?_
 rw[hs] at hv
 rw[he,hv.scal_eq rfl]
 exact⟨rfl,R.below⟩
end Go.Id

namespace Go.Id
open Go
noncomputable def tbW:FuncId→Option (List Value→Option Value):=tbOf [(8,okT)]
noncomputable abbrev bodyFa:Code:=Proofs.Tryz.f4.body.getD .skip
structure CenOK (c:List Int):Prop where
 ne:c ≠ []
 b : ∀n∈c,0≤n∧n≤16711425
 len:c.length≤9
 sum:0<c.sum
theorem sum_nonneg : ∀(l:List Int),(∀n∈l,0≤n)→0≤l.sum
 | [],_=>by simp
 | a :: l,h=>by
  have:=sum_nonneg l fun n hn=>h n (List.mem_cons_of_mem _ hn)
  have:=h a List.mem_cons_self
  simp;omega
theorem census_cen {u:Nat} {ps:List Nat} (hu:u<256) (hp : ∀p∈ps,p<65536):CenOK (census u ps):=by
 have hb : ∀n∈cenL u ps,0≤n∧n≤16711425:=fun n hn=>by
  obtain⟨p,h1,rfl⟩:=List.mem_map.1 hn
  exact cenN_le hu (hp p (List.mem_of_mem_take h1))
 have hl:=(cenL_bound (u:=u) hu hp).2
 have h0:=sum_nonneg _ fun n hn=>(hb n hn).1
 unfold census
 split
 ·rename_i hz
  refine⟨by simp,fun n hn=>?_,by rw[List.length_append];simp;omega,by rw[List.sum_append,hz];decide⟩
  rcases List.mem_append.1 hn with h|h
  ·exact hb n h
  ·simp at h;omega
 ·rename_i hz
  exact⟨fun e=>hz (by rw[e];rfl),hb,by omega,by omega⟩
theorem pos_of_sum : ∀(l:List Int),0<l.sum → ∃n∈l,0<n
 | [],h=>absurd h (by decide)
 | a :: l,h=>by
  by_cases c:0<a
  ·exact⟨a,List.mem_cons_self,c⟩
  ·obtain⟨n,h1,h2⟩:=pos_of_sum l (by simp at h;omega)
   exact⟨n,List.mem_cons_of_mem _ h1,h2⟩
theorem CenOK.quota {c:List Int} (h:CenOK c):quotaOK c=true:=by
 have h1:=h.len
 have h2:=h.sum
 unfold quotaOK
 simp only[Bool.and_eq_true,decide_eq_true_eq]
 refine⟨by omega,inR_iff.2 fun n hn=>by have:=h.b n hn;omega,?_⟩
 simp;omega
theorem CenOK.max {c:List Int} (h:CenOK c):1≤maxL c∧maxL c≤16711425:=by
 obtain⟨n,h1,h2⟩:=pos_of_sum c h.sum
 have h3:=le_maxL c n h1
 have h4:=h.b _ (maxL_mem c h.ne)
 omega
theorem AtV.fine {h:IH} {r:Value} {c:List Int} {p:Nat×Nat} {m:Int} (a:AtV h r c p m) (e:atErr c p m=0) : ∃v w,r=.tuple #[v,w,KI 0]∧SlOf h 1 v c.length (atA m.toNat (rOf p) c)∧SlOf h 1 w c.length (atB m.toNat (rOf p) c):=by
 unfold AtV at a
 rwa [if_pos e] at a
end Go.Id

namespace Go.Proofs.YthpefnfbnaekaaaGreat
open Go.ChangeShapes Go.WideShapes Go.ChangeAt Go.RowKit Go.Id
noncomputable def tb1:List (FuncId×(List Value→Option Value)):=[(101,make2),(52,of2),(46,of2),(50,check1),(27,sign1),(21,cmp2),(26,mul2),(53,quo2),(85,max2)]
theorem sound_1 : ∀p∈tb1,EntryOK Tryz.prog p.1 p.2:=by
 intro p hp
 simp only[tb1,List.mem_cons,List.not_mem_nil,or_false] at hp
 rcases hp with rfl|rfl|rfl|rfl|rfl|rfl|rfl|rfl|rfl
 ·exact entry_wv Tryz.sound Tryz.func101 rfl val_make
 ·exact entry_wv Tryz.sound Tryz.func52 rfl val_of
 ·exact entry_wv Tryz.sound Tryz.func46 rfl val_of02
 ·exact entry_wv Tryz.sound Tryz.func50 rfl val_check
 ·exact entry_wv Tryz.sound Tryz.func27 rfl val_sign
 ·exact entry_wv Tryz.sound Tryz.func21 rfl val_cmp
 ·exact entry_wv Tryz.sound Tryz.func26 rfl val_mul
 ·exact entry_wv Tryz.sound Tryz.func53 rfl val_div
 ·exact entry_wv Tryz.sound Tryz.func85 rfl val_max
theorem wakes_true:boolF (E1 Tryz.prog (tbOf tb1)) (4999+1) 8 (fun _=>none)=true:=by decide +kernel
theorem sound_W:Sound (E1 Tryz.prog tbW):=sound_tb Tryz.sound fun p hp=>by
 obtain rfl:=List.mem_singleton.1 hp
 exact entry_true (E:=E1 Tryz.prog (tbOf tb1)) (sound_tb Tryz.sound sound_1) Tryz.func8 rfl wakes_true
theorem u_draft6:Tryz.prog.underlying 26=some (.struct { toList:=[{ name := "People",type:=22,offset:=0,embedded:=false,tag := "",pkgPath := "",byteOffset:=0 },{ name := "Unit",type:=5,offset:=1,embedded:=false,tag := "",pkgPath := "",byteOffset:=24 },{ name := "Least",type:=23,offset:=2,embedded:=false,tag := "",pkgPath := "",byteOffset:=32 },{ name := "Seats",type:=24,offset:=3,embedded:=false,tag := "",pkgPath := "",byteOffset:=56 }] }):=by kernel_rfl
theorem u_u16s:Tryz.prog.underlying 22=some (.slice 24):=by kernel_rfl
theorem u_u8s:Tryz.prog.underlying 23=some (.slice 5):=by kernel_rfl
theorem u_u16:Tryz.prog.underlying 24=some (.int .u16):=by kernel_rfl
theorem u_u8:Tryz.prog.underlying 5=some (.int .u8):=by kernel_rfl
theorem c_draft6:Tryz.prog.cellsOf 26=4:=by kernel_rfl
theorem c_u16s:Tryz.prog.cellsOf 22=1:=by kernel_rfl
theorem c_u8s:Tryz.prog.cellsOf 23=1:=by kernel_rfl
theorem c_u16:Tryz.prog.cellsOf 24=1:=by kernel_rfl
theorem c_u8:Tryz.prog.cellsOf 5=1:=by kernel_rfl
theorem wf_u8 {x:Int} (h:(Lit.int .u8 x).wf=true):0≤x∧x<256:=by
 simp only[Lit.wf,Bool.and_eq_true,decide_eq_true_eq] at h
 have h1:(0:Int)≤x:=h.1
 have h2:x≤(255:Int):=h.2
 exact⟨h1,by omega⟩
theorem len4 {α:Type} : ∀{l:List α},l.length=4 → ∃a b c d,l = [a,b,c,d]
 | [a,b,c,d],_=>⟨a,b,c,d,rfl⟩
theorem nums_of {f:Nat→Value} {m:Nat} : ∀(n:Nat) (cs:List Value),cs.length=n*1→(∀i,i<n → ∃p,p<m∧(cs.drop (i*1)).take 1 = [f p]) → ∃ps:List Nat,ps.length=n∧cs=ps.map f ∧ ∀p∈ps,p<m
 | 0,cs,h,_=>⟨[],rfl,by simpa using h,fun p hp=>by cases hp⟩
 | n+1,[],h,_=>by simp at h
 | n+1,c :: cs,h,k=>by
  obtain⟨p,h1,h2⟩:=k 0 (by omega)
  obtain⟨ps,h3,h4,h5⟩:=nums_of n cs (by simp at h ⊢;omega) fun i hi=>by
   obtain⟨q,h6,h7⟩:=k (i+1) (by omega)
   exact⟨q,h6,by simpa using h7⟩
  refine⟨p :: ps,by simp[h3],?_,fun q hq=>?_⟩
  ·simp at h2;rw[List.map_cons,h2,h4]
  ·rcases List.mem_cons.1 hq with rfl|hq
   ·exact h1
   ·exact h5 q hq
section
variable {H:Type} {enc:TypeId×Value→H} {W:World} {held:Bool}
theorem tell_nums {t e:TypeId} {k:IntKind} {m:Nat} (hk:k.min=0) (hm:k.max=(m:Int)) (hs:Tryz.prog.underlying t=some (.slice e)) (he:Tryz.prog.underlying e=some (.int k)) (hc:Tryz.prog.cellsOf e=1) (G:Nat→Option (List Value)) {fuel:Nat} {cs0:List Value} {x:DataW H×List MemPlace} (h:DataW.trod enc Tryz.prog W 0 (fun _=>true) held fuel t cs0=some x) :
  ∃(v:Value) (ps:List Nat),cs0 = [v]∧tellable v=true∧ps.length≤maxLen∧SlOf (IH.start (tellB G W)) 1 (trV v) ps.length (ps.map fun n:Nat=>Value.int k (n:Int)) ∧ ∀p∈ps,p<m+1:=by
 obtain⟨v,n,cs,e1,ht,hn,hs,hR⟩:=tell_slice (R:=fun cs => ∃p:Nat,p<m+1∧cs.map trV = [.int k (p:Int)]) hs hc (by omega) (fun n cs x hx=>by
  obtain⟨i,rfl,hi⟩:=trod_nat hk hm he hx
  exact⟨⟨i,by omega,rfl⟩,fun y hy=>by rw[List.mem_singleton.1 hy];rfl⟩) G h
 obtain⟨ps,h1,h2,h3⟩:=nums_of (f:=fun n:Nat=>Value.int k (n:Int)) (m:=m+1) n (cs.map trV) hs.2.1 fun i hi=>by
  obtain⟨p,hp,e⟩:=hR i hi
  exact⟨p,hp,by rw[←List.map_drop,←List.map_take];exact e⟩
 subst h1
 exact⟨v,ps,e1,ht,hn,h2▸hs,h3⟩
theorem draft6_of (G:Nat→Option (List Value)) {fuel:Nat} {cs:List Value} {x:DataW H×List MemPlace} (h:DataW.trod enc Tryz.prog W 0 (fun _=>true) held fuel 26 cs=some x) :
  ∃y1 u y2 s ps ls,cs = [y1,B8 u,y2,B16 s]∧(tellable y1=true∧tellable y2=true)∧Dr6 (IH.start (tellB G W)) (.agg #[trV y1,B8 u,trV y2,B16 s]) ps ls u s:=by
 obtain⟨xs,m,_,_,hl,hn,hf⟩:=DataW.trod_struct u_draft6 h
 rw[c_draft6] at hl
 have hn2:xs.length=4:=hn
 obtain⟨x0,hx0⟩ : ∃y,xs[0]?=some y:=⟨_,List.getElem?_eq_getElem (by omega)⟩
 have f0:DataW.trod enc Tryz.prog W 0 (fun _=>true) held m 22 ((cs.drop 0).take (Tryz.prog.cellsOf 22))=some x0:=(hf 0 { name := "People",type:=22,offset:=0,embedded:=false,tag := "",pkgPath := "",byteOffset:=0 } rfl).trans hx0
 obtain⟨x1,hx1⟩ : ∃y,xs[1]?=some y:=⟨_,List.getElem?_eq_getElem (by omega)⟩
 have f1:DataW.trod enc Tryz.prog W 0 (fun _=>true) held m 5 ((cs.drop 1).take (Tryz.prog.cellsOf 5))=some x1:=(hf 1 { name := "Unit",type:=5,offset:=1,embedded:=false,tag := "",pkgPath := "",byteOffset:=24 } rfl).trans hx1
 obtain⟨x2,hx2⟩ : ∃y,xs[2]?=some y:=⟨_,List.getElem?_eq_getElem (by omega)⟩
 have f2:DataW.trod enc Tryz.prog W 0 (fun _=>true) held m 23 ((cs.drop 2).take (Tryz.prog.cellsOf 23))=some x2:=(hf 2 { name := "Least",type:=23,offset:=2,embedded:=false,tag := "",pkgPath := "",byteOffset:=32 } rfl).trans hx2
 obtain⟨x3,hx3⟩ : ∃y,xs[3]?=some y:=⟨_,List.getElem?_eq_getElem (by omega)⟩
 have f3:DataW.trod enc Tryz.prog W 0 (fun _=>true) held m 24 ((cs.drop 3).take (Tryz.prog.cellsOf 24))=some x3:=(hf 3 { name := "Seats",type:=24,offset:=3,embedded:=false,tag := "",pkgPath := "",byteOffset:=56 } rfl).trans hx3
 rw[c_u16s] at f0
 rw[c_u8] at f1
 rw[c_u8s] at f2
 rw[c_u16] at f3
 obtain⟨a,b,c,d,rfl⟩:=len4 hl
 obtain⟨v,ps,e0,t0,n0,s0,b0⟩:=tell_nums (k:=.u16) (m:=65535) rfl rfl u_u16s u_u16 c_u16 G f0
 obtain⟨u,e1,hu⟩:=trod_nat (m:=255) rfl rfl u_u8 f1
 obtain⟨w,ls,e2,t2,n2,s2,b2⟩:=tell_nums (k:=.u8) (m:=255) rfl rfl u_u8s u_u8 c_u8 G f2
 obtain⟨s,e3,hs⟩:=trod_nat (m:=65535) rfl rfl u_u16 f3
 cases e0;cases e1;cases e2;cases e3
 refine⟨_,u,_,s,ps,ls,rfl,⟨t0,t2⟩,⟨_,_,rfl,s0,s2⟩,b0,b2,by omega,by omega,?_,?_⟩
 ·exact Nat.lt_of_le_of_lt n0 (by decide)
 ·exact Nat.lt_of_le_of_lt n2 (by decide)
end
end Go.Proofs.YthpefnfbnaekaaaGreat

namespace Go.Id
open Go
open Go.Proofs.Tryz (prog)
open Nat (reduceAdd reduceEqDiff reduceLeDiff)
set_option maxHeartbeats 16000000
abbrev seatV (r:Reg) (s:Int):Value:=.agg #[KI r.1,KI r.2.1,KI r.2.2,KI s]
theorem tk3' (a b c:Value):List.take 3 (List.drop 0 [a,b,c]) = [a,b,c]:=rfl
abbrev RegSl (h:IH) (v:Value) (rs:List Reg):Prop:=SlOf h 3 v rs.length (regL rs)
theorem RegSl.ld {h h':IH} {v:Value} {rs:List Reg} (s:RegSl h v rs) (e:Keep h h') {i:Nat} {r:Reg} (hr:rs[i]?=some r):load prog h' 121 (elemAddr v (i*3))=some (.agg #[KI r.1,KI r.2.1,KI r.2.2]):=by
 have hi:=(List.getElem?_eq_some_iff.1 hr).1
 have:=SlOf.ldAgg s e (c:=i*3) (m:=3) (by rw[regL_len];omega) (by omega) ag121 sz121
 rw[regL_at hr] at this
 exact this
theorem next_ok {h:IH} {y sv:Value} {m:Int} {rs:List Reg} (J:Nat→IH→Prop) (hJ : ∀i h,J i h→RegSl h sv rs) (hE : ∀i h h',J i h→Ext h h'→J i h') (h0:J 0 h) (hl:rs.length≤1000)
  (skip : ∀i r h,rs[i]?=some r → ¬0<r.1→J i h→J (i+1) h)
  (step : ∀i r h,rs[i]?=some r→0<r.1→J i h→WV prog y [seatV r r.2.1] h fun v h'=>v=.bool true∧J (i+1) h') :
  WV prog (.func (.func 82) #[hallV m sv] #[]) [y] h fun _ h'=>J rs.length h':=by
 have s0:=hJ 0 h h0
 have cs:=s0.cells
 have cO:cellOK sv=true:=by obtain⟨oa,ok,ho⟩:=s0.form;rw[ho];rfl
 refine enter (nt:=26) (rs:=[]) Proofs.Tryz.func82 rfl rfl rfl (by simp) ?_
 simp -dsimp (maxSteps:=1000000) (disch:=try exact dx) only[wpS,reduceEqDiff,reduceAdd,fa80_1,ld78]
 obtain⟨H0,hH0⟩ : ∃H,H=h.new (.cells [KI m,sv] 0 none):=⟨_,rfl⟩
 have E0:Ext h H0:=by rw[hH0];exact(Ext.refl h).new _
 have g0:H0.ext.get h.n=some (.cells [KI m,sv] 0 none):=by rw[hH0];simp (disch:=try exact dx) only[get_new_same]
 rw[←hH0]
 clear hH0
 simp -dsimp (maxSteps:=1000000) (disch:=try exact dx) only[wpS,s0.now.len sl78]
 refine loop (fun mm fr hh => ∃i:Nat,i+mm=rs.length∧J i hh∧fget fr 1=some y∧fget fr 7=some sv∧fget fr 8=some (KI rs.length)∧fget fr 9=some (KI i)) rs.length ⟨0,by omega,hE _ _ _ h0 E0,by simp,by simp,by simp,by simp⟩ ?_
 rintro mm fr hh ⟨i,him,hj,f1,f7,f8,f9⟩
 have s1:=hJ i hh hj
 by_cases c:i<rs.length
 ·obtain⟨r,hr⟩ : ∃r,rs[i]?=some r:=⟨rs[i],List.getElem?_eq_getElem c⟩
  have e2:IntKind.i64.wrap ((i:Int)+1)=((i+1:Nat):Int):=by rw[wrap_i64 (by omega)];omega
  have ld:=RegSl.ld s1 (Keep.refl hh) hr
  simp -dsimp (maxSteps:=1000000) (disch:=try exact dx) only[wpS,wpT,reduceEqDiff,reduceLeDiff,reduceAdd,zc121,st121,fa121_0,ld3,f7,f8,f9,s1.now.idx es78 c,ld]
  obtain⟨H1,hH1,n1,E1,g1⟩:=boxed hh [KI 0,KI 0,KI 0] [KI r.1,KI r.2.1,KI r.2.2]
  rw[←hH1]
  clear hH1
  have hj1:=hE _ _ _ hj E1
  by_cases c2:0<r.1
  ·simp -dsimp (maxSteps:=1000000) (disch:=try exact dx) only[wpS,wpT,reduceEqDiff,reduceLeDiff,reduceAdd,ld121,ld3,fa121_1,bv123,pl123_0,pl123_1,f1,row_of g1,tk3']
   refine call (step i r H1 hr c2 hj1) ?_
   rintro _ h2 ⟨rfl,hj2⟩
   simp -dsimp (maxSteps:=1000000) (disch:=try exact dx) only[wpS,wpT,reduceEqDiff,f9,e2]
   exact⟨mm - 1,by omega,i+1,by omega,hj2,by simp[f1],by simp[f7],by simp[f8],by simp⟩
  ·simp -dsimp (maxSteps:=1000000) (disch:=try exact dx) only[wpS,wpT,reduceEqDiff,f9,e2]
   exact⟨mm - 1,by omega,i+1,by omega,skip i r _ hr c2 hj1,by simp[f1],by simp[f7],by simp[f8],by simp⟩
 ·simp -dsimp (maxSteps:=1000000) (disch:=try exact dx) only[wpS,wpT,f8,f9]
  have:i=rs.length:=by omega
  rw[←this];exact hj
theorem last_ok {h:IH} {y sv:Value} {m:Int} {rs:List Reg} (J:Nat→IH→Prop) (hJ : ∀i h,J i h→RegSl h sv rs) (hE : ∀i h h',J i h→Ext h h'→J i h') (h0:J 0 h) (hl:rs.length≤1000)
  (hb : ∀r∈rs,0≤r.2.1∧r.2.1≤1000)
  (skip : ∀i r h,rs[i]?=some r → ¬(0<r.1∧r.2.2<r.2.1)→J i h→J (i+1) h)
  (step : ∀i r h,rs[i]?=some r→0<r.1∧r.2.2<r.2.1→J i h→WV prog y [seatV r (r.2.1 - 1)] h fun v h'=>v=.bool true∧J (i+1) h') :
  WV prog (.func (.func 80) #[hallV m sv] #[]) [y] h fun _ h'=>J rs.length h':=by
 have s0:=hJ 0 h h0
 have cs:=s0.cells
 have cO:cellOK sv=true:=by obtain⟨oa,ok,ho⟩:=s0.form;rw[ho];rfl
 refine enter (nt:=34) (rs:=[]) Proofs.Tryz.func80 rfl rfl rfl (by simp) ?_
 simp -dsimp (maxSteps:=1000000) (disch:=try exact dx) only[wpS,reduceEqDiff,reduceAdd,fa80_1,ld78]
 obtain⟨H0,hH0⟩ : ∃H,H=h.new (.cells [KI m,sv] 0 none):=⟨_,rfl⟩
 have E0:Ext h H0:=by rw[hH0];exact(Ext.refl h).new _
 have g0:H0.ext.get h.n=some (.cells [KI m,sv] 0 none):=by rw[hH0];simp (disch:=try exact dx) only[get_new_same]
 rw[←hH0]
 clear hH0
 simp -dsimp (maxSteps:=1000000) (disch:=try exact dx) only[wpS,s0.now.len sl78]
 refine loop (fun mm fr hh => ∃i:Nat,i+mm=rs.length∧J i hh∧fget fr 1=some y∧fget fr 7=some sv∧fget fr 8=some (KI rs.length)∧fget fr 9=some (KI i)) rs.length ⟨0,by omega,hE _ _ _ h0 E0,by simp,by simp,by simp,by simp⟩ ?_
 rintro mm fr hh ⟨i,him,hj,f1,f7,f8,f9⟩
 have s1:=hJ i hh hj
 by_cases c:i<rs.length
 ·obtain⟨r,hr⟩ : ∃r,rs[i]?=some r:=⟨rs[i],List.getElem?_eq_getElem c⟩
  have rb:=hb r (List.mem_of_getElem? hr)
  have e2:IntKind.i64.wrap ((i:Int)+1)=((i+1:Nat):Int):=by rw[wrap_i64 (by omega)];omega
  have e3:IntKind.i64.wrap (r.2.1 - 1)=r.2.1 - 1:=by rw[wrap_i64 (by omega)]
  have ld:=RegSl.ld s1 (Keep.refl hh) hr
  simp -dsimp (maxSteps:=1000000) (disch:=try exact dx) only[wpS,wpT,reduceEqDiff,reduceLeDiff,reduceAdd,zc121,st121,fa121_0,ld3,f7,f8,f9,s1.now.idx es78 c,ld]
  obtain⟨H1,hH1,n1,E1,g1⟩:=boxed hh [KI 0,KI 0,KI 0] [KI r.1,KI r.2.1,KI r.2.2]
  rw[←hH1]
  clear hH1
  have hj1:=hE _ _ _ hj E1
  by_cases c2:0<r.1
  ·by_cases c3:r.2.2<r.2.1
   ·simp -dsimp (maxSteps:=1000000) (disch:=try exact dx) only[wpS,wpT,reduceEqDiff,reduceLeDiff,reduceAdd,ld121,ld3,fa121_1,fa121_2,bv123,pl123_0,pl123_1,f1,row_of g1,e3,tk3']
    refine call (step i r H1 hr ⟨c2,c3⟩ hj1) ?_
    rintro _ h2 ⟨rfl,hj2⟩
    simp -dsimp (maxSteps:=1000000) (disch:=try exact dx) only[wpS,wpT,reduceEqDiff,f9,e2]
    exact⟨mm - 1,by omega,i+1,by omega,hj2,by simp[f1],by simp[f7],by simp[f8],by simp⟩
   ·simp -dsimp (maxSteps:=1000000) (disch:=try exact dx) only[wpS,wpT,reduceEqDiff,ld3,fa121_1,fa121_2,f9,row_of g1,e2]
    exact⟨mm - 1,by omega,i+1,by omega,skip i r _ hr (fun h=>c3 h.2) hj1,by simp[f1],by simp[f7],by simp[f8],by simp⟩
  ·simp -dsimp (maxSteps:=1000000) (disch:=try exact dx) only[wpS,wpT,reduceEqDiff,f9,e2]
   exact⟨mm - 1,by omega,i+1,by omega,skip i r _ hr (fun h=>c2 h.1) hj1,by simp[f1],by simp[f7],by simp[f8],by simp⟩
 ·simp -dsimp (maxSteps:=1000000) (disch:=try exact dx) only[wpS,wpT,f8,f9]
  have:i=rs.length:=by omega
  rw[←this];exact hj
end Go.Id

namespace Go.Id
open Go
open Go.Proofs.Tryz (prog)
open Nat (reduceAdd reduceEqDiff reduceLeDiff)
set_option maxHeartbeats 16000000
abbrev Seat:=Reg×Int
abbrev stV (x:Seat):Value:=seatV x.1 x.2
def aboveN (m p s q t:Int):Int:=if aboveErr m p s q t=true then 0 else cmpRank m.toNat p.toNat s.toNat q.toNat t.toNat
def stBelow (m:Int) (a b:Seat):Bool:=decide (aboveN m a.1.1 a.2 b.1.1 b.2<0)
theorem below_ok {h:IH} {m:Int} {sv:Value} (a b:Seat) (cs:sv.cells = #[sv]) (cO:cellOK sv=true) :
  WV prog (.func (.func 81) #[] #[]) [hallV m sv,stV a,stV b] h fun r h'=>Ext h h'∧r=.bool (stBelow m a b):=by
 refine enter (nt:=27) (rs:=[.tmp 6]) Proofs.Tryz.func81 rfl rfl rfl (by simp) ?_
 simp -dsimp (maxSteps:=1000000) (disch:=try exact dx) only[wpS,reduceEqDiff,reduceAdd,fa80_0,ld3,fa123_0,fa121_0,fa123_1]
 obtain⟨H0,hH0,n0,E0,g0,g1,g2⟩:=boxes3 h [KI m,sv] [KI a.1.1,KI a.1.2.1,KI a.1.2.2,KI a.2] [KI b.1.1,KI b.1.2.1,KI b.1.2.2,KI b.2]
 rw[←hH0]
 clear hH0
 refine call (above_ok m a.1.1 a.2 b.1.1 b.2) ?_
 rintro _ h1 ⟨X1,rfl⟩
 obtain⟨e,ht⟩ : ∃e,(if aboveErr m a.1.1 a.2 b.1.1 b.2=true then Value.tuple #[KI 0,KI 2] else .tuple #[KI (cmpRank m.toNat a.1.1.toNat a.2.toNat b.1.1.toNat b.2.toNat),KI 0])=.tuple #[KI (aboveN m a.1.1 a.2 b.1.1 b.2),KI e]:=by
  unfold aboveN
  by_cases c:aboveErr m a.1.1 a.2 b.1.1 b.2=true
  ·exact⟨2,by rw[if_pos c,if_pos c]⟩
  ·exact⟨0,by rw[if_neg c,if_neg c]⟩
 rw[ht]
 simp -dsimp (maxSteps:=1000000) (disch:=try exact dx) only[wpS,reduceEqDiff]
 exact⟨E0.trans X1,rfl⟩
theorem above1_ok {h:IH} {m:Int} {sv:Value} {k:Nat} (a b:Seat) (cs:sv.cells = #[sv]) (cO:cellOK sv=true) (g:h.ext.get k=some (.cells [KI m,sv] 0 none)) (hk:k<h.n) :
  WV prog (.func (.func 83) #[] #[ptr (2*k) 0]) [stV a,stV b] h fun r h'=>Ext h h'∧r=.bool (stBelow m b a):=by
 have gr:=row_of g
 refine enter (nt:=10) (rs:=[.tmp 5]) Proofs.Tryz.func83 rfl rfl rfl (by simp) ?_
 simp -dsimp (maxSteps:=1000000) (disch:=try exact dx) only[wpS,wpT,reduceEqDiff,reduceLeDiff,reduceAdd,ld80,ld123,gr,tk2',tk4']
 obtain⟨H0,hH0,n0,E0,g0,g1⟩:=boxes2 h [KI a.1.1,KI a.1.2.1,KI a.1.2.2,KI a.2] [KI b.1.1,KI b.1.2.1,KI b.1.2.2,KI b.2]
 rw[←hH0]
 clear hH0
 refine call (below_ok b a cs cO) ?_
 rintro _ h1 ⟨X1,rfl⟩
 simp -dsimp (maxSteps:=1000000) (disch:=try exact dx) only[wpS,wpT,reduceEqDiff]
 exact E0.trans X1
def leastBy (lt:Seat→Seat→Bool) (o:Option Seat):List Seat→Option Seat
 | []=>o
 | x :: l=>leastBy lt (match o with|none=>some x|some y=>if lt x y=true then some x else some y) l
def pick1 (lt:Seat→Seat→Bool) (o:Option Seat) (x:Seat):Option Seat:=match o with|none=>some x|some y=>if lt x y=true then some x else some y
theorem pick1_some (lt:Seat→Seat→Bool) (o x:Seat):pick1 lt (some o) x=if lt x o=true then some x else some o:=rfl
theorem leastBy_snoc (lt:Seat→Seat→Bool) : ∀(l:List Seat) (o:Option Seat) (x:Seat),leastBy lt o (l ++ [x])=pick1 lt (leastBy lt o l) x
 | [],o,x=>rfl
 | a :: l,o,x=>leastBy_snoc lt l _ x
theorem leastBy_take (lt:Seat→Seat→Bool) (l:List Seat) {i:Nat} {x:Seat} (h:l[i]?=some x):leastBy lt none (l.take (i+1))=pick1 lt (leastBy lt none (l.take i)) x:=by
 rw[List.take_succ,h]
 exact leastBy_snoc lt (l.take i) none x
abbrev seatOr (o:Option Seat):List Value:=match o with|none => [KI 0,KI 0,KI 0,KI 0]|some x => [KI x.1.1,KI x.1.2.1,KI x.1.2.2,KI x.2]
def Iter (lv:Value) (Hb:IH) (xs:List Seat):Prop :=
 ∀(y:Value) (h:IH) (J:Nat→IH→Prop),(∀i h,J i h→Ext Hb h)→(∀i h h',J i h→Ext h h'→J i h')→J 0 h →
  (∀i x h,xs[i]?=some x→J i h→WV prog y [stV x] h fun v h'=>v=.bool true∧J (i+1) h')→WV prog lv [y] h fun _ h'=>J xs.length h'
theorem boxesL (h:IH) (a b c d e:List Value) : ∃H,H=((((h.new (.cells a 0 none)).new (.cells b 0 none)).new (.cells c 0 none)).new (.cells d 0 none)).put (h.n+1+1+1) (.cells e 0 none)∧H.n=h.n+4∧Ext h H∧H.ext.get h.n=some (.cells a 0 none)∧H.ext.get (h.n+1)=some (.cells b 0 none)∧H.ext.get (h.n+2)=some (.cells c 0 none)∧H.ext.get (h.n+3)=some (.cells e 0 none) :=
 ⟨_,rfl,rfl,((((Ext.refl h).new _).new _).new _).new _ |>.put (by omega) _,by simp (disch:=try exact dx) only[get_new_same,get_new_old,get_put_old],by simp (disch:=try exact dx) only[get_new_same,get_new_old,get_put_old],by simp (disch:=try exact dx) only[get_new_same,get_new_old,get_put_old],by simp (disch:=try exact dx) only[get_put_same]⟩
theorem seatOr_some (x:Seat):seatOr (some x) = [KI x.1.1,KI x.1.2.1,KI x.1.2.2,KI x.2]:=rfl
theorem seatOr_len (o:Option Seat):(seatOr o).length=4:=by cases o<;>rfl
theorem seatOr_all (o:Option Seat):(seatOr o).all cellOK=true:=by cases o<;>rfl
theorem seatOr_take (o:Option Seat):List.take 4 (List.drop 0 (seatOr o))=seatOr o:=by cases o<;>rfl
theorem seatOr_sp (o:Option Seat) (w x y z:Value):IH.splice [w,x,y,z] 0 (seatOr o)=seatOr o:=by cases o<;>rfl
theorem leastOf_ok {h Hb:IH} {lv fv:Value} {xs:List Seat} {lt:Seat→Seat→Bool} (cF:fv.cells = #[fv]) (cO:cellOK fv=true) (hx:Iter lv Hb xs) (hb:Ext Hb h) (hf : ∀(hh:IH) (a b:Seat),Ext Hb hh→WV prog fv [stV a,stV b] hh fun r h'=>Ext hh h'∧r=.bool (lt a b)) :
  WV prog (.func (.func 79) #[] #[]) [lv,fv] h fun r h'=>Ext h h'∧r=.tuple #[.agg (seatOr (leastBy lt none xs)).toArray,.bool (leastBy lt none xs).isSome]:=by
 refine enter (nt:=22) (rs:=[.cell 4 123,.tmp 5]) Proofs.Tryz.func79 rfl rfl rfl (by simp) ?_
 simp -dsimp (maxSteps:=1000000) (disch:=try exact dx) only[wpS,wpT,reduceEqDiff,reduceLeDiff,reduceAdd,zc123,zc4,st4,cF]
 obtain⟨H1,hH1,n1,E1,g0,g1,g2,g3⟩:=boxesL h [fv] [KI 0,KI 0,KI 0,KI 0] [KI 0,KI 0,KI 0,KI 0] [.bool false] [.bool false]
 rw[←hH1]
 clear hH1
 refine range2 (p:=10) (nt:=22) rfl rfl (by decide) (fun r y hfn hnt hbd hy=>?_)
 let J:Nat→IH→Prop:=fun i hh=>Ext h hh∧H1.n<hh.n∧hh.ext.get H1.n=some (.loop r)∧hh.ext.get h.n=some (.cells [fv] 0 none)∧hh.ext.get (h.n+1)=some (.cells [KI 0,KI 0,KI 0,KI 0] 0 none) ∧
  hh.ext.get (h.n+2)=some (.cells (seatOr (leastBy lt none (xs.take i))) 0 none)∧hh.ext.get (h.n+3)=some (.cells [.bool (leastBy lt none (xs.take i)).isSome] 0 none)
 have J0:J 0 (H1.new (.loop r)):=by
  refine⟨E1.new _,by simp,get_new_same _ _ rfl,?_,?_,?_,?_⟩
  ·rw[get_new_old _ _ (by omega)];exact g0
  ·rw[get_new_old _ _ (by omega)];exact g1
  ·rw[get_new_old _ _ (by omega)];exact g2
  ·rw[get_new_old _ _ (by omega)];exact g3
 have Je : ∀i h h',J i h→Ext h h'→J i h':=by
  rintro i x x' ⟨a1,a2,a3,a4,a5,a6,a7⟩ e
  have en:=e.n
  exact⟨a1.trans e,by omega,e.kept a2 a3,e.kept (by omega) a4,e.kept (by omega) a5,e.kept (by omega) a6,e.kept (by omega) a7⟩
 refine WV.mono (hx y (H1.new (.loop r)) J (fun i hh hj=>hb.trans hj.1) Je J0 ?_) ?_
 ·rintro i x hh hi ⟨x1,x2,x3,x4,x5,x6,x7⟩
  refine hy _ hh _ x3 ?_
  simp -dsimp (maxSteps:=1000000) (disch:=try exact dx) only[wpS,wpT,reduceEqDiff,reduceLeDiff,reduceAdd,zc123,st123]
  obtain⟨H5,hH5,n5,e5,gw⟩:=boxed hh [KI 0,KI 0,KI 0,KI 0] [KI x.1.1,KI x.1.2.1,KI x.1.2.2,KI x.2]
  rw[←hH5]
  clear hH5
  obtain⟨y1,y2,y3,y4,y5,y6,y7⟩:=Je i hh H5 ⟨x1,x2,x3,x4,x5,x6,x7⟩ e5
  refine⟨rfl,y3,?_⟩
  rw[hfn,hnt,hbd]
  have eb:Ext h (H5.put H1.n (.loop (busyL r))):=y1.put (by omega) _
  obtain⟨H6,hH6⟩ : ∃H,H=H5.put H1.n (.loop (busyL r)):=⟨_,rfl⟩
  have z0 : ∀j,j≠H1.n→H6.ext.get j=H5.ext.get j:=fun j hj=>by rw[hH6];exact get_put_old _ _ hj
  have zl:H6.ext.get H1.n=some (.loop (busyL r)):=by rw[hH6];exact get_put_same _ _ rfl
  have zn:H6.n=H5.n:=by rw[hH6];rfl
  rw[←hH6] at eb ⊢
  clear hH6
  have z4:=(z0 h.n (by omega)).trans y4
  have z5:=(z0 (h.n+1) (by omega)).trans y5
  have z6:=(z0 (h.n+2) (by omega)).trans y6
  have z7:=(z0 (h.n+3) (by omega)).trans y7
  have zw:=(z0 hh.n (by omega)).trans gw
  have zt:xs.take (i+1)=xs.take i ++ [x]:=by rw[List.take_succ,hi];rfl
  have ht:=leastBy_take lt xs hi
  have fin : ∀(hf':IH) (o:Option Seat),leastBy lt none (xs.take (i+1))=o→Ext h hf'→H1.n<hf'.n→hf'.ext.get H1.n=some (.loop (busyL r))→hf'.ext.get h.n=some (.cells [fv] 0 none)→hf'.ext.get (h.n+1)=some (.cells [KI 0,KI 0,KI 0,KI 0] 0 none) →
    hf'.ext.get (h.n+2)=some (.cells (seatOr o) 0 none)→hf'.ext.get (h.n+3)=some (.cells [.bool o.isSome] 0 none)→Value.bool true=.bool true∧J (i+1) (hf'.put H1.n (.loop r)):=by
   intro hf' o ho w1 w2 w3 w4 w5 w6 w7
   refine⟨rfl,w1.put (by omega) _,w2,get_put_same _ _ rfl,?_,?_,?_,?_⟩
   ·rw[get_put_old _ _ (by omega)];exact w4
   ·rw[get_put_old _ _ (by omega)];exact w5
   ·rw[get_put_old _ _ (by omega),ho];exact w6
   ·rw[get_put_old _ _ (by omega),ho];exact w7
  cases hl:leastBy lt none (xs.take i) with
  | none =>
   rw[hl] at z6 z7 ht
   have z7:H6.ext.get (h.n+3)=some (.cells [.bool false] 0 none):=z7
   have m1:=e5.n
   simp -dsimp (maxSteps:=1000000) (disch:=try exact dx) only[wpS,wpT,reduceEqDiff,reduceLeDiff,reduceAdd,st4,st123,ld4,ld123,row_of z7,row_of zw,z6,z7,tk4']
   refine⟨by rw[get_put_old _ _ (by omega),get_put_old _ _ (by omega)];exact zl,fin _ (some x) (ht.trans rfl) ((eb.put (by omega) _).put (by omega) _) (by show H1.n<H6.n;omega) ?_ ?_ ?_ ?_ ?_⟩
   ·rw[get_put_old _ _ (by omega),get_put_old _ _ (by omega)];exact zl
   ·rw[get_put_old _ _ (by omega),get_put_old _ _ (by omega)];exact z4
   ·rw[get_put_old _ _ (by omega),get_put_old _ _ (by omega)];exact z5
   ·rw[get_put_old _ _ (by omega)];exact get_put_same _ _ rfl
   ·exact get_put_same _ _ rfl
  | some o =>
   rw[hl] at z6 z7 ht
   rw[seatOr_some] at z6
   have z7:H6.ext.get (h.n+3)=some (.cells [.bool true] 0 none):=z7
   simp -dsimp (maxSteps:=1000000) (disch:=try exact dx) only[wpS,wpT,reduceEqDiff,reduceLeDiff,reduceAdd,ld4,ld127,ld123,row_of z7,row_of zw,row_of z6,row_of z4,tk4']
   have ebb:Ext Hb H6:=hb.trans eb
   refine call (hf H6 x o ebb) ?_
   rintro _ h7 ⟨X7,rfl⟩
   have m7:=X7.n
   cases hc:lt x o
   ·simp -dsimp (maxSteps:=1000000) (disch:=try exact dx) only[wpS,reduceEqDiff]
    refine⟨X7.kept (by omega) zl,fin h7 (some o) (ht.trans (by rw[pick1_some,hc];rfl)) (eb.trans X7) (by omega) (X7.kept (by omega) zl) (X7.kept (by omega) z4) (X7.kept (by omega) z5) (X7.kept (by omega) z6) (X7.kept (by omega) z7)⟩
   ·have q6:=X7.kept (by omega) z6
    have q7:=X7.kept (by omega) z7
    simp -dsimp (maxSteps:=1000000) (disch:=try exact dx) only[wpS,wpT,reduceEqDiff,reduceLeDiff,reduceAdd,st4,st123,ld123,row_of (X7.kept (by omega) zw),q6,q7,tk4']
    refine⟨by rw[get_put_old _ _ (by omega),get_put_old _ _ (by omega)];exact X7.kept (by omega) zl,fin _ (some x) (ht.trans (by rw[pick1_some,hc];rfl)) (((eb.trans X7).put (by omega) _).put (by omega) _) (by show H1.n<h7.n;omega) ?_ ?_ ?_ ?_ ?_⟩
    ·rw[get_put_old _ _ (by omega),get_put_old _ _ (by omega)];exact X7.kept (by omega) zl
    ·rw[get_put_old _ _ (by omega),get_put_old _ _ (by omega)];exact X7.kept (by omega) z4
    ·rw[get_put_old _ _ (by omega),get_put_old _ _ (by omega)];exact X7.kept (by omega) z5
    ·rw[get_put_old _ _ (by omega)];exact get_put_same _ _ rfl
    ·exact get_put_same _ _ rfl
 ·rintro _ hd ⟨x1,x2,x3,x4,x5,x6,x7⟩
  rw[List.take_of_length_le (Nat.le_refl _)] at x6 x7
  refine .inl ⟨x3,?_⟩
  have ed:Ext h (hd.put H1.n .dead):=x1.put (by omega) _
  obtain⟨K0,hK0⟩ : ∃K0,K0=hd.put H1.n .dead:=⟨_,rfl⟩
  have z0 : ∀j,j≠H1.n→K0.ext.get j=hd.ext.get j:=fun j hj=>by rw[hK0];exact get_put_old _ _ hj
  have z5:=(z0 (h.n+1) (by omega)).trans x5
  have z6:=(z0 (h.n+2) (by omega)).trans x6
  have z7:=(z0 (h.n+3) (by omega)).trans x7
  rw[←hK0] at ed ⊢
  clear hK0
  simp -dsimp (maxSteps:=1000000) (disch:=try exact dx) only[wpS]
  refine drawn [(1,[4])] (by kernel_rfl) (by kernel_rfl) rfl ?_
  simp -dsimp (maxSteps:=1000000) (disch:=try exact dx) only[wpS,wpT,reduceEqDiff,reduceLeDiff,reduceAdd,st123,ld4,ld123,row_of z6,row_of z7,z5,seatOr_len,seatOr_all,seatOr_take,seatOr_sp]
  refine⟨wpSteady_one rfl rfl rfl rfl (steady_load (av:=ptr (2*(h.n+1+1+1)) 0) (v:=.bool (leastBy lt none xs).isSome) (by simp) ?_ ?_),?_⟩
  ·simp -dsimp (maxSteps:=1000000) (disch:=try exact dx) only[wpS,ld4,row_of z7]
  ·simp -dsimp (maxSteps:=1000000) (disch:=try exact dx) only[wpS,ld4,row_of z7]
  ·simp -dsimp (maxSteps:=1000000) (disch:=try exact dx) only[wpS,wpT,reduceEqDiff,reduceLeDiff,reduceAdd,ld123,seatOr_take,seatOr_len]
   exact ed.put (by omega) _
end Go.Id

namespace Go.Id
open Go
open Nat (reduceAdd reduceEqDiff reduceLeDiff)
set_option maxHeartbeats 16000000
theorem wv_bound {P:Program} {f:FuncId} {first cap:Array Value} {vs:List Value} {h:IH} {K:Value→IH→Prop} (w:WV P (.func (.func f) #[] #[]) (first.toList ++ (vs ++ cap.toList)) h K):WV P (.func (.func f) first cap) vs h K:=by
 obtain⟨a,⟨N,hN⟩,k⟩:=w
 refine⟨a,⟨N+1,fun n hn=>?_⟩,k⟩
 obtain⟨n,rfl⟩ : ∃m,n=m+1:=⟨n - 1,by omega⟩
 have:=hN (n+1) (by omega)
 unfold callV at this ⊢
 simpa using this
def lastS:List Reg→List Seat
 | [] => []
 | r :: l=>if 0<r.1∧r.2.2<r.2.1 then (r,r.2.1 - 1) :: lastS l else lastS l
def nextS:List Reg→List Seat
 | [] => []
 | r :: l=>if 0<r.1 then (r,r.2.1) :: nextS l else nextS l
theorem lastS_app : ∀(a b:List Reg),lastS (a ++ b)=lastS a ++ lastS b
 | [],b=>rfl
 | r :: a,b=>by rw[List.cons_append,lastS,lastS,lastS_app a b];split<;>rfl
theorem nextS_app : ∀(a b:List Reg),nextS (a ++ b)=nextS a ++ nextS b
 | [],b=>rfl
 | r :: a,b=>by rw[List.cons_append,nextS,nextS,nextS_app a b];split<;>rfl
theorem take_split {α:Type} {l:List α} {i:Nat} {r:α} (h:l[i]?=some r):l=l.take i ++ r :: l.drop (i+1):=by
 conv=>lhs;rw[←List.take_append_drop i l]
 rw[List.drop_eq_getElem?_toList_append,h];rfl
theorem last_iter {Hb:IH} {sv:Value} {m:Int} {rs:List Reg} (s:RegSl Hb sv rs) (hl:rs.length≤1000) (hb : ∀r∈rs,0≤r.2.1∧r.2.1≤1000):Iter (.func (.func 80) #[hallV m sv] #[]) Hb (lastS rs):=by
 intro y h J hJ hE h0 step
 have key:=last_ok (h:=h) (y:=y) (sv:=sv) (m:=m) (rs:=rs) (fun i h=>J (lastS (rs.take i)).length h) (fun i h hj=>s.keep (hJ _ _ hj).keep) (fun i a b hj e=>hE _ _ _ hj e) (by simpa [lastS] using h0) hl hb ?_ ?_
 ·rw[List.take_of_length_le (Nat.le_refl _)] at key
  exact key
 ·intro i r h hr hc hj
  rw[List.take_add_one,hr,lastS_app]
  simpa [lastS,hc] using hj
 ·intro i r h hr hc hj
  have e:lastS (rs.take (i+1))=lastS (rs.take i) ++ [(r,r.2.1 - 1)]:=by
   rw[List.take_add_one,hr,lastS_app];simp[lastS,hc]
  have g:(lastS rs)[(lastS (rs.take i)).length]?=some (r,r.2.1 - 1):=by
   have e9:lastS rs=lastS (rs.take i) ++ lastS (r :: rs.drop (i+1)):=by rw[←lastS_app];exact congrArg lastS (take_split hr)
   rw[e9,List.getElem?_append_right (Nat.le_refl _),Nat.sub_self,lastS,if_pos hc];rfl
  refine(step _ _ h g hj).mono fun v h' hv=>⟨hv.1,?_⟩
  rw[e,List.length_append]
  exact hv.2
theorem next_iter {Hb:IH} {sv:Value} {m:Int} {rs:List Reg} (s:RegSl Hb sv rs) (hl:rs.length≤1000):Iter (.func (.func 82) #[hallV m sv] #[]) Hb (nextS rs):=by
 intro y h J hJ hE h0 step
 have key:=next_ok (h:=h) (y:=y) (sv:=sv) (m:=m) (rs:=rs) (fun i h=>J (nextS (rs.take i)).length h) (fun i h hj=>s.keep (hJ _ _ hj).keep) (fun i a b hj e=>hE _ _ _ hj e) (by simpa [nextS] using h0) hl ?_ ?_
 ·rw[List.take_of_length_le (Nat.le_refl _)] at key
  exact key
 ·intro i r h hr hc hj
  rw[List.take_add_one,hr,nextS_app]
  simpa [nextS,hc] using hj
 ·intro i r h hr hc hj
  have e:nextS (rs.take (i+1))=nextS (rs.take i) ++ [(r,r.2.1)]:=by
   rw[List.take_add_one,hr,nextS_app];simp[nextS,hc]
  have g:(nextS rs)[(nextS (rs.take i)).length]?=some (r,r.2.1):=by
   have e9:nextS rs=nextS (rs.take i) ++ nextS (r :: rs.drop (i+1)):=by rw[←nextS_app];exact congrArg nextS (take_split hr)
   rw[e9,List.getElem?_append_right (Nat.le_refl _),Nat.sub_self,nextS,if_pos hc];rfl
  refine(step _ _ h g hj).mono fun v h' hv=>⟨hv.1,?_⟩
  rw[e,List.length_append]
  exact hv.2
theorem all_snoc {p:Reg→Bool} {rs:List Reg} {i:Nat} {r:Reg} (hr:rs[i]?=some r) (h : ∀x∈rs.take i,p x=true) (hp:p r=true) : ∀x∈rs.take (i+1),p x=true:=by
 intro x hx
 rw[List.take_add_one,hr] at hx
 simp at hx
 rcases hx with hx|rfl
 ·exact h x hx
 ·exact hp
def zeroSeat:Seat:=((0,0,0),0)
def settled (rs:List Reg):Bool:=rs.all fun r=>decide (0<r.1) || r.2.1 == r.2.2
def certB (m:Int) (rs:List Reg):Bool:=settled rs && match leastBy (stBelow m) none (lastS rs) with
 | none=>true
 | some lo => !(stBelow m lo ((leastBy (fun a b=>stBelow m b a) none (nextS rs)).getD zeroSeat))
theorem seatOr_get (o:Option Seat):Value.agg (seatOr o).toArray=stV (o.getD zeroSeat):=by cases o<;>rfl
theorem certified_ok {h:IH} {sv:Value} {m:Int} {rs:List Reg} (s:RegSl h sv rs) (hl:rs.length≤1000) (hb : ∀r∈rs,0≤r.2.1∧r.2.1≤1000) :
  WV Proofs.Tryz.prog (.func (.func 37) #[] #[]) [hallV m sv] h fun r h'=>Ext h h'∧r=.bool (certB m rs):=by
 have cs:=s.cells
 have cO:cellOK sv=true:=by obtain⟨oa,ok,ho⟩:=s.form;rw[ho];rfl
 refine enter (nt:=51) (rs:=[.tmp 2]) Proofs.Tryz.func37 rfl rfl rfl (by simp) ?_
 simp -dsimp (maxSteps:=1000000) (disch:=try exact dx) only[wpS,reduceEqDiff,fa80_1,ld78]
 obtain⟨H0,hH0⟩ : ∃H,H=h.new (.cells [KI m,sv] 0 none):=⟨_,rfl⟩
 have E0:Ext h H0:=by rw[hH0];exact(Ext.refl h).new _
 have g0:H0.ext.get h.n=some (.cells [KI m,sv] 0 none):=by rw[hH0];simp (disch:=try exact dx) only[get_new_same]
 have n0:H0.n=h.n+1:=by rw[hH0];simp
 rw[←hH0]
 clear hH0
 simp -dsimp (maxSteps:=1000000) (disch:=try exact dx) only[wpS,(s.keep E0.keep).now.len sl78]
 refine loop (fun mm fr hh => ∃i:Nat,i+mm=rs.length∧Ext H0 hh∧(∀r∈rs.take i,(decide (0<r.1) || r.2.1 == r.2.2)=true)∧fget fr 1=some (ptr (2*h.n) 0)∧fget fr 10=some sv∧fget fr 11=some (KI rs.length)∧fget fr 12=some (KI i)) rs.length ⟨0,by omega,Ext.refl _,fun r hr=>by simp at hr,by simp,by simp,by simp,by simp⟩ ?_
 rintro mm fr hh ⟨i,him,E,hz,f1,f10,f11,f12⟩
 have s1:=s.keep (E0.trans E).keep
 by_cases c:i<rs.length
 ·obtain⟨r,hr⟩ : ∃r,rs[i]?=some r:=⟨rs[i],List.getElem?_eq_getElem c⟩
  have e2:IntKind.i64.wrap ((i:Int)+1)=((i+1:Nat):Int):=by rw[wrap_i64 (by omega)];omega
  have ld:=RegSl.ld s1 (Keep.refl hh) hr
  obtain⟨H1,hH1,n1,E1,g1⟩:=boxed hh [KI 0,KI 0,KI 0] [KI r.1,KI r.2.1,KI r.2.2]
  by_cases c2:0<r.1
  ·simp -dsimp (maxSteps:=1000000) (disch:=try exact dx) only[wpS,wpT,reduceEqDiff,reduceLeDiff,reduceAdd,zc121,st121,fa121_0,ld3,f10,f11,f12,s1.now.idx es78 c,ld,e2]
   rw[←hH1]
   exact⟨mm - 1,by omega,i+1,by omega,E.trans E1,all_snoc hr hz (by simp[c2]),by simp[f1],by simp[f10],by simp[f11],by simp⟩
  ·by_cases c3:r.2.1=r.2.2
   ·have d3:(r.2.1 == r.2.2)=true:=by simpa using c3
    simp -dsimp (maxSteps:=1000000) (disch:=try exact dx) only[wpS,wpT,reduceEqDiff,reduceLeDiff,reduceAdd,zc121,st121,fa121_0,ld3,fa121_1,fa121_2,f10,f11,f12,s1.now.idx es78 c,ld,e2,d3]
    rw[←hH1]
    exact⟨mm - 1,by omega,i+1,by omega,E.trans E1,all_snoc hr hz (by simp[c3]),by simp[f1],by simp[f10],by simp[f11],by simp⟩
   ·have d3:(r.2.1 == r.2.2)=false:=by simpa using c3
    simp -dsimp (maxSteps:=1000000) (disch:=try exact dx) only[wpS,wpT,reduceEqDiff,reduceLeDiff,reduceAdd,zc121,st121,fa121_0,ld3,fa121_1,fa121_2,f10,f11,f12,s1.now.idx es78 c,ld,d3]
    rw[←hH1]
    refine⟨E0.trans (E.trans E1),?_⟩
    have hst:settled rs=false:=by
     cases hs:settled rs
     ·rfl
     ·have:=List.all_eq_true.1 hs r (List.mem_of_getElem? hr)
      rw[d3] at this;simp[c2] at this
    unfold certB
    rw[hst];rfl
 ·have hin:i=rs.length:=by omega
  have hst:settled rs=true:=by
   rw[hin,List.take_of_length_le (Nat.le_refl _)] at hz
   exact List.all_eq_true.2 hz
  have g1:=E.kept (by omega) g0
  have En:=E.n
  simp -dsimp (maxSteps:=1000000) (disch:=try exact dx) only[wpS,wpT,reduceEqDiff,reduceLeDiff,reduceAdd,ld80,f1,f11,f12,row_of g1,tk2']
  refine call (leastOf_ok (Hb:=hh) (xs:=lastS rs) (lt:=stBelow m) rfl rfl (last_iter s1 hl hb) (Ext.refl _) (fun h9 a b _=>wv_bound (below_ok a b cs cO))) ?_
  rintro _ h2 ⟨X2,rfl⟩
  have m2:=X2.n
  have g2:=X2.kept (by omega) g1
  rw[seatOr_get]
  obtain⟨lo,hlo⟩ : ∃o,o=leastBy (stBelow m) none (lastS rs):=⟨_,rfl⟩
  rw[←hlo]
  obtain⟨fb,hfb⟩ : ∃b,b=lo.isSome:=⟨_,rfl⟩
  rw[←hfb]
  obtain⟨H3,hH3,n3,E3,g3⟩:=boxed h2 [KI 0,KI 0,KI 0,KI 0] [KI (lo.getD zeroSeat).1.1,KI (lo.getD zeroSeat).1.2.1,KI (lo.getD zeroSeat).1.2.2,KI (lo.getD zeroSeat).2]
  simp -dsimp (maxSteps:=1000000) (disch:=try exact dx) only[wpS,wpT,reduceEqDiff,reduceLeDiff,reduceAdd,ld80,zc123,st123,f1,row_of g2,tk2']
  rw[←hH3]
  clear hH3
  have Y3:=X2.trans E3
  refine call (leastOf_ok (Hb:=H3) (xs:=nextS rs) (lt:=fun a b=>stBelow m b a) rfl rfl (next_iter (s1.keep Y3.keep) hl) (Ext.refl _) (fun h9 a b e9=>above1_ok a b cs cO (e9.kept (by have:=E3.n;omega) (E3.kept (by omega) g2)) (by have:=e9.n;have:=E3.n;omega))) ?_
  rintro _ h4 ⟨X4,rfl⟩
  have m4:=X4.n
  rw[seatOr_get]
  obtain⟨hi,hhi⟩ : ∃o,o=leastBy (fun a b=>stBelow m b a) none (nextS rs):=⟨_,rfl⟩
  rw[←hhi]
  obtain⟨H5,hH5,n5,E5,g5⟩:=boxed h4 [KI 0,KI 0,KI 0,KI 0] [KI (hi.getD zeroSeat).1.1,KI (hi.getD zeroSeat).1.2.1,KI (hi.getD zeroSeat).1.2.2,KI (hi.getD zeroSeat).2]
  have k1:=(Y3.trans X4).kept (by omega) g1
  have k3:=X4.kept (by omega) g3
  cases fb with
  | false =>
   simp -dsimp (maxSteps:=1000000) (disch:=try exact dx) only[wpS,wpT,reduceEqDiff,reduceLeDiff,reduceAdd,zc123,st123]
   rw[←hH5]
   refine⟨E0.trans (E.trans (Y3.trans (X4.trans E5))),?_⟩
   have hl0:lo=none:=by cases lo with
    | none=>rfl
    | some x=>cases hfb
   unfold certB
   rw[hst,←hlo,hl0];rfl
  | true =>
   obtain⟨x,hx⟩ : ∃x,lo=some x:=by cases lo with
    | none=>cases hfb
    | some x=>exact⟨x,rfl⟩
   simp -dsimp (maxSteps:=1000000) (disch:=try exact dx) only[wpS,wpT,reduceEqDiff,reduceLeDiff,reduceAdd,ld80,zc123,st123,ld123,f1,row_of k1,row_of k3,tk2',tk4']
   rw[←hH5]
   refine call (below_ok (lo.getD zeroSeat) (hi.getD zeroSeat) cs cO) ?_
   rintro _ h6 ⟨X6,rfl⟩
   simp -dsimp (maxSteps:=1000000) (disch:=try exact dx) only[wpS,wpT,reduceEqDiff]
   refine⟨E0.trans (E.trans (Y3.trans (X4.trans (E5.trans X6)))),?_⟩
   unfold certB
   rw[hst,←hlo,hx,←hhi];rfl
end Go.Id

namespace Go.Id
open Go
theorem openErr_ok {people won least:List Int} {m:Int} (h:openErr people won m least=0):(people.length≤60 ∧ ∀n∈people,0≤n∧n≤1000000000)∧won.length=people.length∧(∀n∈won,0≤n∧n≤1000)∧(11≤m∧m≤15)∧(leastOr people.length least).length=people.length∧lowOK won (leastOr people.length least) people.length:=by
 unfold openErr at h
 by_cases c1:quotaOK people=false
 ·rw[if_pos c1] at h;omega
 ·rw[if_neg c1] at h
  by_cases c2:won.length≠people.length∨inR 0 1000 won=false
  ·rw[if_pos c2] at h;omega
  ·rw[if_neg c2] at h
   by_cases c3:inR 11 15 [m]=false∨(leastOr people.length least).length≠people.length
   ·rw[if_pos c3] at h;omega
   ·rw[if_neg c3] at h
    by_cases c4 : ¬lowOK won (leastOr people.length least) people.length
    ·rw[if_pos c4] at h;omega
    ·have d1:quotaOK people=true:=by simpa using c1
     have d2:inR 0 1000 won=true:=by
      cases hh:inR 0 1000 won
      ·exact absurd (.inr hh) c2
      ·rfl
     have d3:inR 11 15 [m]=true:=by
      cases hh:inR 11 15 [m]
      ·exact absurd (.inl hh) c3
      ·rfl
     unfold quotaOK at d1
     simp only[Bool.and_eq_true,decide_eq_true_eq] at d1
     refine⟨⟨d1.1,inR_iff.1 d1.2.1⟩,?_,inR_iff.1 d2,inR_iff.1 d3 m (by simp),?_,Classical.not_not.1 c4⟩
     ·exact Classical.not_not.1 fun e=>c2 (.inl e)
     ·exact Classical.not_not.1 fun e=>c3 (.inr e)
structure RegsOK (rs:List Reg):Prop where
 len:rs.length≤60
 b : ∀r∈rs,(0≤r.1∧r.1≤1000000000)∧(0≤r.2.1∧r.2.1≤1000)∧0≤r.2.2∧r.2.2≤r.2.1
abbrev regsV (people won least:List Int):List Reg:=regsOf people won (leastOr people.length least) people.length
theorem regs_ok {people won least:List Int} {m:Int} (h:openErr people won m least=0):RegsOK (regsV people won least):=by
 obtain⟨h1,h2,h3,h4,h5,h6⟩:=openErr_ok h
 refine⟨by rw[regsOf_len];exact h1.1,fun r hr=>?_⟩
 obtain⟨i,hi,rfl⟩:=List.mem_map.1 hr
 rw[List.mem_range] at hi
 exact⟨h1.2 _ (List.mem_of_getElem? (at_getD hi)),h3 _ (List.mem_of_getElem? (at_getD (by omega))),h6 i hi⟩
theorem OpenV.ok {h':IH} {r:Value} {people won least:List Int} {m:Int} (o:OpenV h' r people won m least) (h:openErr people won m least=0) : ∃s,r=.tuple #[hallV m s,KI 0]∧RegSl h' s (regsV people won least):=by
 unfold OpenV at o
 rw[if_pos h] at o
 obtain⟨s,e,hs⟩:=o
 refine⟨s,e,?_⟩
 unfold RegSl regsV
 rw[regsOf_len]
 exact hs
theorem OpenV.no {h':IH} {r:Value} {people won least:List Int} {m:Int} (o:OpenV h' r people won m least) (h:openErr people won m least≠0):r=.tuple #[hallV 0 (.slice none 0 0),KI (openErr people won m least)]:=by
 unfold OpenV at o
 rwa [if_neg h] at o
abbrev rkE (m:Int) (x:Seat):Int:=rankErr m x.1.1 x.2
abbrev rkQ (m:Int) (x:Seat):Rat:=rankQ m.toNat x.1.1.toNat x.2.toNat
def rkV2 (m:Int) (x:Seat):Value:=if rkE m x=0 then shV (shq (rkQ m x)).1 (shq (rkQ m x)).2 else shV 0 0
theorem rank_ok {h:IH} {sv:Value} {m:Int} (x:Seat) (cs:sv.cells = #[sv]) (cO:cellOK sv=true) :
  WV Proofs.Tryz.prog (.func (.func 84) #[] #[]) [hallV m sv,stV x] h fun r h'=>Ext h h'∧r=.tuple #[rkV2 m x,.bool (decide (rkE m x=0))]:=by
 refine enter (nt:=22) (rs:=[.cell 4 47,.tmp 5]) Proofs.Tryz.func84 rfl rfl rfl (by simp) ?_
 simp -dsimp (maxSteps:=1000000) (disch:=try exact dx) only[wpS,Nat.reduceEqDiff,Nat.reduceAdd,zc47,fa80_0,ld3,fa123_0,fa121_0,fa123_1]
 obtain⟨H0,hH0,n0,E0,g0,g1,g2⟩:=boxes3 h [KI m,sv] [KI x.1.1,KI x.1.2.1,KI x.1.2.2,KI x.2] Z16
 rw[←hH0]
 clear hH0
 refine call (dRank_ok m x.1.1 x.2) ?_
 rintro r h1 ⟨X1,hr⟩
 have hr2 : ∃n d e,r=.tuple #[shV n d,KI e]∧shV n d=rkV2 m x∧(e == 0)=decide (rkE m x=0):=by
  unfold rkV2
  by_cases c:rkE m x=0
  ·rw[if_pos c] at hr ⊢
   exact⟨_,_,0,hr,rfl,by rw[decide_eq_true c];rfl⟩
  ·rw[if_neg c] at hr ⊢
   exact⟨_,_,_,hr,rfl,by rw[decide_eq_false c];simpa using c⟩
 obtain⟨n,d,e,rfl,e1,e2⟩:=hr2
 have m1:=X1.n
 have k2:=X1.kept (by omega) g2
 simp -dsimp (maxSteps:=1000000) (disch:=try exact dx) only[wpS,wpT,Nat.reduceEqDiff,Nat.reduceLeDiff,Nat.reduceAdd,zc47,st47,ld47,shV_cells,shC_len,shC_all,sh_sp3,sh_take,k2]
 refine⟨(((E0.trans X1).new _).put (by omega) _).put (by omega) _,?_⟩
 rw[e2,←e1];rfl
end Go.Id

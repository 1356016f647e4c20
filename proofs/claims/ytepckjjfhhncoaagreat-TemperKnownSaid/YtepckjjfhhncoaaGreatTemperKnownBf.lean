/-
  Contracts: the program's fractions of integers; shares made. Fractions of shares: what is used by all packages.
-/
import Derived.Test.YtepckjjfhhncoaaGreatTemperKnownBe
import Derived.Test.YtepckjjfhhncoaaGreatTemperKnownBd
import Derived.Test.YtepckjjfhhncoaaGreatTemperKnownBc
import Derived.Test.YtepckjjfhhncoaaGreatTemperKnownAz
import Derived.Test.YtepckjjfhhncoaaGreatTemperKnownAw
set_option linter.unusedVariables false
set_option linter.unusedSimpArgs false
set_option linter.defProp false
set_option linter.deprecated false
namespace Go.Id
open Go
theorem whole_ok {h:IH} {v:Value} {n:Int} (hv:PLong h v n):WV Proofs.Tryz.prog (.func (.func 64) #[] #[]) [v] h fun r h'=>Ext h h'∧PRat h' r (n:Rat):=by
 obtain⟨s,rfl,c1,o1⟩:=hv.cells2
 refine enter (nt:=6) (rs:=[.cell 2 117]) Proofs.Tryz.func64 rfl rfl rfl (by simp) ?_
 simp -dsimp (maxSteps:=1000000) (disch:=first|omega|(simp only[new_n,put_n];omega)|decide +kernel|(repeat first|rw[new_n]|rw[put_n])) only[wpS,zc117]
 obtain⟨H0,hH0,n0,E0,g0,g1⟩:=boxes2 h [.bool (decide (n<0)),s] ZR
 rw[←hH0]
 clear hH0
 have X0:=Ext.refl H0
 have L1:=pl2 g0
 refine drawn [(0,[3])] (by kernel_rfl) (by kernel_rfl) rfl ?_
 simp -dsimp (maxSteps:=1000000) (disch:=first|omega|(simp only[new_n,put_n];omega)|decide +kernel|(repeat first|rw[new_n]|rw[put_n])) only[wpS,wpT,Nat.reduceEqDiff,Nat.reduceLeDiff,Nat.reduceAdd,ld87,row_of g0,tk2']
 refine call (pfrom_ok 1 ⟨by omega,by omega⟩) ?_
 rintro _ h1 ⟨X1,p1⟩
 have m1:=X1.n
 obtain⟨s1,rfl,c2,o2⟩:=p1.cells2
 have kg:=X1.kept (by omega) g1
 simp -dsimp (maxSteps:=1000000) (disch:=first|omega|(simp only[new_n,put_n];omega)|decide +kernel|(repeat first|rw[new_n]|rw[put_n])) only[wpS,wpT,Nat.reduceEqDiff,Nat.reduceLeDiff,Nat.reduceAdd,bv117,pl117_0,pl117_1,st117,kg,o1,o2]
 refine⟨by repeat' first|refine wpSteady_c2 ?_ ?_|refine wpSteady_t2 ?_ ?_|exact wpSteady_one rfl rfl rfl rfl (steady_ext (H0:=H0) rfl (by omega) (by assumption) (by assumption) (by with_reducible assumption)),?_⟩
 simp -dsimp (maxSteps:=1000000) (disch:=first|omega|(simp only[new_n,put_n];omega)|decide +kernel|(repeat first|rw[new_n]|rw[put_n])) only[wpS,wpT,Nat.reduceEqDiff,Nat.reduceLeDiff,Nat.reduceAdd,ld117,tk4']
 have kp:=(Keep.refl h1).put kg (.cells [.bool (decide (n<0)),s,.bool false,s1] 0 none)
 exact⟨(E0.trans X1).put (by omega) _,_,_,_,_,rfl,hv.keep ((E0.trans X1).keep.trans kp),p1.keep kp⟩
theorem rfrom_ok {h:IH} (n:Int) (hn:In64 n):WV Proofs.Tryz.prog (.func (.func 62) #[] #[]) [KI n] h fun r h'=>Ext h h'∧PRat h' r (n:Rat):=by
 refine enter (nt:=6) (rs:=[.cell 2 117]) Proofs.Tryz.func62 rfl rfl rfl (by simp) ?_
 simp -dsimp (maxSteps:=1000000) (disch:=first|omega|(simp only[new_n,put_n];omega)|decide +kernel|(repeat first|rw[new_n]|rw[put_n])) only[wpS,Nat.reduceEqDiff,zc117]
 have E1:Ext h (h.new (.cells ZR 0 none)):=(Ext.refl h).new _
 have g1:(h.new (.cells ZR 0 none)).ext.get h.n=some (.cells ZR 0 none):=by simp (disch:=first|omega|(simp only[new_n,put_n];omega)|(repeat first|rw[new_n]|rw[put_n])) only[get_new_same]
 refine call (pfrom_ok n hn) ?_
 rintro _ h1 ⟨X1,p1⟩
 simp -dsimp (maxSteps:=1000000) (disch:=first|omega|(simp only[new_n,put_n];omega)|decide +kernel|(repeat first|rw[new_n]|rw[put_n])) only[wpS,Nat.reduceEqDiff]
 refine call (whole_ok p1) ?_
 rintro _ h2 ⟨X2,p2⟩
 have m1:=X1.n
 have m2:=X2.n
 simp only[new_n] at m1
 obtain⟨a3,s3,b3,t3,rfl,_,_,d1,o1,d2,o2,o3,o4⟩:=p2.parts
 have kg:=X2.kept (by omega) (X1.kept (by simp) g1)
 simp -dsimp (maxSteps:=1000000) (disch:=first|omega|(simp only[new_n,put_n];omega)|decide +kernel|(repeat first|rw[new_n]|rw[put_n])) only[wpS,wpT,Nat.reduceEqDiff,Nat.reduceLeDiff,Nat.reduceAdd,st117,ld117,kg,o1,o2,o3,o4,tk4']
 exact⟨((E1.trans X1).trans X2).put (by omega) _,p2.keep ((Keep.refl _).put kg _)⟩
theorem wdI_zero_iff {d:Nat} (hd:d<W8):wdI d=0↔d=0:=by
 have h2:=H8_two
 have h3:=H8_pos
 unfold wdI
 split<;>omega
set_option maxHeartbeats 2000000 in
theorem shmake_ok {h:IH} (n d:Nat) (hn:n<W8) (hd:d<W8) (d0:d≠0):WV Proofs.Tryz.prog (.func (.func 100) #[] #[]) [wdV n,wdV d] h fun r h'=>Ext h h'∧r=(open Classical in if QW (Rat.divInt (wdI n) (wdI d)) then .tuple #[shareV (Rat.divInt (wdI n) (wdI d)),KI 0] else .tuple #[shV 0 0,KI 6]):=by
 refine enter (nt:=18) (rs:=[.cell 4 56,.tmp 5]) Proofs.Tryz.func100 rfl rfl rfl (by simp) ?_
 simp -dsimp (maxSteps:=1000000) (disch:=first|omega|(simp only[new_n,put_n];omega)|decide +kernel|(repeat first|rw[new_n]|rw[put_n])) only[wpS,wpT,Nat.reduceEqDiff,Nat.reduceLeDiff,Nat.reduceAdd,zc56,ld38,bv38,cells8,wdC_len]
 obtain⟨H0,hH0,n0,E0,g0,g1,g2⟩:=boxes3 h (wdC n) (wdC d) Z16
 rw[←hH0]
 clear hH0
 have X0:=Ext.refl H0
 have L2:load Proofs.Tryz.prog H0 38 (ptr (2*(h.n+1)) 0)=some (wdV d):=by
  simp -dsimp (maxSteps:=1000000) (disch:=first|omega|(simp only[new_n,put_n];omega)|decide +kernel|(repeat first|rw[new_n]|rw[put_n])) only[wpS,Nat.reduceLeDiff,ld38,row_of g1,wdC_len,wd_take]
  rfl
 have hz:binop Proofs.Tryz.prog .eql 38 (.tmp 6) (.tmp 7) (.agg (wdC d).toArray) (.agg #[ZW,ZW,ZW,ZW,ZW,ZW,ZW,ZW])=some (.bool false):=by
  rw[wd_zero,wdV,wd_eql hd (by have:=H8_two;have:=H8_pos;omega)]
  rw[decide_eq_false d0]
 have hdI:wdI d≠0:=fun h=>d0 ((wdI_zero_iff hd).1 h)
 simp -dsimp (maxSteps:=1000000) (disch:=first|omega|(simp only[new_n,put_n];omega)|decide +kernel|(repeat first|rw[new_n]|rw[put_n])) only[wpS,Nat.reduceEqDiff,wd_take,hz]
 refine drawn [(2,[1])] (by kernel_rfl) (by kernel_rfl) rfl ?_
 simp -dsimp (maxSteps:=1000000) (disch:=first|omega|(simp only[new_n,put_n];omega)|decide +kernel|(repeat first|rw[new_n]|rw[put_n])) only[wpS,Nat.reduceEqDiff,Nat.reduceLeDiff,ld38,row_of g0,wdC_len,wd_take]
 refine call (longer_ok n hn) ?_
 rintro r1 h1 ⟨X1,p1⟩
 have m1:=X1.n
 simp -dsimp (maxSteps:=1000000) (disch:=first|omega|(simp only[new_n,put_n];omega)|decide +kernel|(repeat first|rw[new_n]|rw[put_n])) only[wpS,Nat.reduceEqDiff,Nat.reduceLeDiff,ld38,row_of (X1.kept (by omega) g1),wdC_len,wd_take]
 refine call (longer_ok d hd) ?_
 rintro r2 h2 ⟨hE2,p2⟩
 have X2:=X1.trans hE2
 have m2:=hE2.n
 simp -dsimp (maxSteps:=1000000) (disch:=first|omega|(simp only[new_n,put_n];omega)|decide +kernel|(repeat first|rw[new_n]|rw[put_n])) only[wpS,Nat.reduceEqDiff]
 refine call (lowest_ok (p1.keep hE2.keep) p2 (wdI_small hn) (wdI_small hd) hdI) ?_
 rintro r3 h3 ⟨hE3,p3⟩
 have X3:=X2.trans hE3
 have m3:=hE3.n
 simp -dsimp (maxSteps:=1000000) (disch:=first|omega|(simp only[new_n,put_n];omega)|decide +kernel|(repeat first|rw[new_n]|rw[put_n])) only[wpS,Nat.reduceEqDiff]
 refine call (rtold_ok p3) ?_
 rintro _ h4 ⟨hE4,rfl⟩
 have X4:=X3.trans hE4
 have m4:=hE4.n
 have kg:=X4.kept (by omega) g2
 by_cases hq:QW (Rat.divInt (wdI n) (wdI d))
 ·rw[if_pos hq]
  simp -dsimp (maxSteps:=1000000) (disch:=first|omega|(simp only[new_n,put_n];omega)|decide +kernel|(repeat first|rw[new_n]|rw[put_n])) only[wpS,wpT,Nat.reduceEqDiff,Nat.reduceLeDiff,Nat.reduceAdd,st56,kg,shV_cells,shC_len,shC_all,sh_sp3]
  refine⟨by repeat' first|refine wpSteady_c2 ?_ ?_|refine wpSteady_t2 ?_ ?_|exact wpSteady_one rfl rfl rfl rfl (steady_ext (H0:=H0) rfl (by omega) (by assumption) (by assumption) (by with_reducible assumption)),?_⟩
  simp -dsimp (maxSteps:=1000000) (disch:=first|omega|(simp only[new_n,put_n];omega)|decide +kernel|(repeat first|rw[new_n]|rw[put_n])) only[wpS,wpT,Nat.reduceEqDiff,Nat.reduceLeDiff,Nat.reduceAdd,ld56,shC_len,sh_take]
  exact⟨(E0.trans X4).put (by omega) _,rfl⟩
 ·rw[if_neg hq]
  simp -dsimp (maxSteps:=1000000) (disch:=first|omega|(simp only[new_n,put_n];omega)|decide +kernel|(repeat first|rw[new_n]|rw[put_n])) only[wpS,wpT,Nat.reduceEqDiff,Nat.reduceLeDiff,Nat.reduceAdd,st56,kg,shV_cells,shC_len,shC_all,sh_sp3]
  refine⟨by repeat' first|refine wpSteady_c2 ?_ ?_|refine wpSteady_t2 ?_ ?_|exact wpSteady_one rfl rfl rfl rfl (steady_ext (H0:=H0) rfl (by omega) (by assumption) (by assumption) (by with_reducible assumption)),?_⟩
  simp -dsimp (maxSteps:=1000000) (disch:=first|omega|(simp only[new_n,put_n];omega)|decide +kernel|(repeat first|rw[new_n]|rw[put_n])) only[wpS,wpT,Nat.reduceEqDiff,Nat.reduceLeDiff,Nat.reduceAdd,ld56,shC_len,sh_take]
  exact⟨(E0.trans X4).put (by omega) _,rfl⟩
theorem qw_div {n d:Int} (hn:In64 n) (hd:In64 d) (d0:d≠0):QW (Rat.divInt n d):=by
 have h3:=H8_big
 have q:=QB.divInt (k:=63) d0 (n:=n) (by have:=hn.1;have:=hn.2;omega) (by have:=hd.1;have:=hd.2;omega)
 obtain⟨q1,q2⟩:=q
 have e:2 ^ 63=9223372036854775808:=by decide
 rw[e] at q1 q2
 exact⟨⟨by omega,by omega⟩,⟨by omega,by omega⟩⟩
theorem inW64 {n:Int} (hn:In64 n):InW n:=by
 have h3:=H8_big
 exact⟨by have:=hn.1;omega,by have:=hn.2;omega⟩
theorem wideN0 {n:Int} (hn:In64 n) (h0:n≠0):wideN n≠0:=by
 have hw:=inW64 hn
 have:=wdI_wideN hw
 intro h
 rw[h] at this
 have h2:=H8_pos
 unfold wdI at this
 rw[if_pos h2] at this
 omega
theorem shof_ok {h:IH} (n d:Int) (hn:In64 n) (hd:In64 d) (d0:d≠0):WV Proofs.Tryz.prog (.func (.func 71) #[] #[]) [KI n,KI d] h fun r h'=>Ext h h'∧r=.tuple #[shareV (Rat.divInt n d),KI 0]:=by
 refine enter (nt:=13) (rs:=[.cell 4 56,.tmp 5]) Proofs.Tryz.func71 rfl rfl rfl (by simp) ?_
 simp -dsimp (maxSteps:=1000000) (disch:=first|omega|(simp only[new_n,put_n];omega)|decide +kernel|(repeat first|rw[new_n]|rw[put_n])) only[wpS,Nat.reduceEqDiff,Nat.reduceAdd,zc56]
 have E1:Ext h (h.new (.cells Z16 0 none)):=(Ext.refl h).new _
 have g1:(h.new (.cells Z16 0 none)).ext.get h.n=some (.cells Z16 0 none):=by simp (disch:=first|omega|(simp only[new_n,put_n];omega)|(repeat first|rw[new_n]|rw[put_n])) only[get_new_same]
 refine call (wideOf_ok n hn) ?_
 rintro _ h1 ⟨X1,rfl⟩
 simp -dsimp (maxSteps:=1000000) (disch:=first|omega|(simp only[new_n,put_n];omega)|decide +kernel|(repeat first|rw[new_n]|rw[put_n])) only[wpS,Nat.reduceEqDiff]
 refine call (wideOf_ok d hd) ?_
 rintro _ h2 ⟨X2,rfl⟩
 simp -dsimp (maxSteps:=1000000) (disch:=first|omega|(simp only[new_n,put_n];omega)|decide +kernel|(repeat first|rw[new_n]|rw[put_n])) only[wpS,Nat.reduceEqDiff]
 refine call (shmake_ok (wideN n) (wideN d) (wideN_lt (inW64 hn)) (wideN_lt (inW64 hd)) (wideN0 hd d0)) ?_
 rintro _ h3 ⟨X3,rfl⟩
 rw[wdI_wideN (inW64 hn),wdI_wideN (inW64 hd),if_pos (qw_div hn hd d0)]
 have m1:=X1.n
 have m2:=X2.n
 have m3:=X3.n
 simp only[new_n] at m1
 have kg:=X3.kept (by omega) (X2.kept (by omega) (X1.kept (by simp) g1))
 simp -dsimp (maxSteps:=1000000) (disch:=first|omega|(simp only[new_n,put_n];omega)|decide +kernel|(repeat first|rw[new_n]|rw[put_n])) only[wpS,wpT,Nat.reduceEqDiff,Nat.reduceLeDiff,Nat.reduceAdd,st56,ld56,kg,shV_cells,shC_len,shC_all,sh_sp3,sh_take]
 exact⟨(((E1.trans X1).trans X2).trans X3).put (by omega) _,rfl⟩
end Go.Id

namespace Go.Id
open Go
def rOf (p:Nat×Nat):Rat:=Rat.divInt (wdI p.1) (wdI p.2)
theorem rOf_parts {p:Nat×Nat} (h:okS p.1 p.2):(rOf p).num=wdI p.1∧((rOf p).den:Int)=wdI p.2:=by
 obtain⟨h1,h2⟩:=h
 obtain⟨a,b⟩:=low_pos (n:=wdI p.1) h1
 rw[h2] at a b
 simp only[Int.natCast_one,Int.ediv_one] at a b
 exact⟨a.symm,b.symm⟩
noncomputable def toldV (q:Rat):Value:=open Classical in if QW q then .tuple #[shareV q,KI 0] else .tuple #[shV 0 0,KI 6]
theorem toldV_form (q:Rat) : ∃n d e,toldV q=.tuple #[shV n d,KI e]:=by
 unfold toldV
 by_cases h:QW q
 ·exact⟨_,_,0,by rw[if_pos h]⟩
 ·exact⟨0,0,6,by rw[if_neg h]⟩
end Go.Id

namespace Go.Id
open Go
theorem PPair.rat {h:IH} {v:Value} {n d:Nat} (p:PPair h v (wdI n) (wdI d)) (ok:okS n d):PRat h v (rOf (n,d)):=by
 obtain⟨e1,e2⟩:=rOf_parts (p:=(n,d)) ok
 unfold PRat
 rw[e1,e2]
 exact p
end Go.Id

namespace Go.Id
open Go
end Go.Id

namespace Go.Id
open Go
end Go.Id

namespace Go.Id
open Go
end Go.Id

namespace Go.Id
open Go
end Go.Id

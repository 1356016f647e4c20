/-
  Contracts: wardmoteref07: signposts, ranks. Contracts: wardmoteref07: ranks compared. Contracts: wardmoteref08: asked, minimum. Contracts: wardmoteref08: asked. Contracts: wardmoteref08: certified, Certify. Contracts: wardmoteref08: Certify. Both ways to certify are the same. Contracts: wardmoteref08: Certify, Find. Contracts: drafts of layer 6: the house, the minimums; a changed allocation.
-/
import Derived.Test.YthpefnfbnaekaaaGreatBracketFindsAp
import Derived.Test.YthpefnfbnaekaaaGreatBracketFindsAn
import Derived.Test.YthpefnfbnaekaaaGreatBracketFindsAo
set_option linter.unusedVariables false
set_option linter.unusedSimpArgs false
set_option linter.defProp false
set_option linter.deprecated false
/-! Contracts: wardmoteref07: signposts, ranks. -/
namespace Go.Id
open Go
set_option maxHeartbeats 4000000 in
theorem post7_ok {h:IH} (m s:Int):WV Proofs.Tryz.prog (.func (.func 86) #[] #[]) [KI m,KI s] h fun r h'=>Ext h h'∧r=if postErr m s=true then .tuple #[shV 0 0,KI 2] else .tuple #[shV (shq (postQ m.toNat s.toNat)).1 (shq (postQ m.toNat s.toNat)).2,KI 0]:=by
 refine enter (nt:=60) (rs:=[.cell 4 47,.tmp 5]) Proofs.Tryz.func86 rfl rfl rfl (by simp) ?_
 simp -dsimp (disch:=omega) only[wpS,Nat.reduceEqDiff,Nat.reduceAdd,zc47]
 obtain⟨H0,hH0⟩ : ∃H,H=h.new (.cells Z16 0 none):=⟨_,rfl⟩
 have E0:Ext h H0:=by rw[hH0];exact(Ext.refl h).new _
 have g0:H0.ext.get h.n=some (.cells Z16 0 none):=by rw[hH0];simp (disch:=first|omega|(simp only[new_n,put_n];omega)|(repeat first|rw[new_n]|rw[put_n])) only[get_new_same]
 have n0:H0.n=h.n+1:=by rw[hH0];simp
 rw[←hH0]
 clear hH0
 refine call (known7_ok m) ?_
 rintro _ k0 ⟨hk,rfl⟩
 rw[hk]
 clear hk k0
 have pe:postErr m s = !(inR 11 15 [m] && inR 0 1000 [s]):=rfl
 rw[inR1] at pe ⊢
 rw[inR1] at pe
 have bad:postErr m s=true→Ext h (H0.put h.n (.cells Z16 0 none))∧Value.tuple #[.agg Z16.toArray,KI 2]=if postErr m s=true then .tuple #[shV 0 0,KI 2] else .tuple #[shV (shq (postQ m.toNat s.toNat)).1 (shq (postQ m.toNat s.toNat)).2,KI 0]:=fun e=>by
  refine⟨E0.put (by omega) _,?_⟩
  rw[if_pos e,←sh_zeroV]
 by_cases c1:11≤m∧m≤15
 ·rw[decide_eq_true c1] at pe ⊢
  by_cases c2:s<0
  ·have e:postErr m s=true:=by rw[pe,decide_eq_false (by omega)];rfl
   simp -dsimp (disch:=omega) only[wpS,wpT,Nat.reduceEqDiff,Nat.reduceLeDiff,Nat.reduceAdd,bv47,st47,ld47,g0,sh_tz]
   exact bad e
  ·by_cases c3:1000<s
   ·have e:postErr m s=true:=by rw[pe,decide_eq_false (by omega)];rfl
    simp -dsimp (disch:=omega) only[wpS,wpT,Nat.reduceEqDiff,Nat.reduceLeDiff,Nat.reduceAdd,bv47,st47,ld47,g0,sh_tz]
    exact bad e
   ·have e:postErr m s=false:=by rw[pe,decide_eq_true (by omega)];rfl
    obtain⟨a,rfl⟩ : ∃a:Nat,m=a:=⟨m.toNat,by omega⟩
    obtain⟨b,rfl⟩ : ∃b:Nat,s=b:=⟨s.toNat,by omega⟩
    have hb:b≤1000:=by omega
    have h1:b*(b+1)≤1000*1001:=Nat.mul_le_mul hb (by omega)
    have h2:2*b*(b+1)=2*(b*(b+1)):=Nat.mul_assoc _ _ _
    have e1:IntKind.i64.wrap (2*(b:Int))=((2*b:Nat):Int):=by rw[wrap_i64 (by omega)];omega
    have e2:IntKind.i64.wrap ((b:Int)+1)=((b+1:Nat):Int):=by rw[wrap_i64 (by omega)];omega
    have e3:IntKind.i64.wrap (((2*b:Nat):Int)*((b+1:Nat):Int))=((2*b*(b+1):Nat):Int):=by rw[←Int.natCast_mul,wrap_i64 (by omega)]
    have e4:IntKind.i64.wrap (((2*b:Nat):Int)+1)=((2*b+1:Nat):Int):=by rw[wrap_i64 (by omega)];omega
    have e5:IntKind.i64.wrap ((b:Int)*((b+1:Nat):Int))=((b*(b+1):Nat):Int):=by rw[←Int.natCast_mul,wrap_i64 (by omega)]
    rw[e,if_neg (by simp),Int.toNat_natCast,Int.toNat_natCast]
    have fin : ∀(n d:Int),n.natAbs≤9223372036854775807→d.natAbs≤9223372036854775807→d≠0→Rat.divInt n d=postQ a b→WV Proofs.Tryz.prog (.func (.func 46) #[] #[]) [KI n,KI d] H0 fun r h'=>Ext H0 h'∧r=.tuple #[shV (shq (postQ a b)).1 (shq (postQ a b)).2,KI 0]:=fun n d i1 i2 i3 i4 =>
     (ref02Of_ok n d ⟨by omega,by omega⟩ ⟨by omega,by omega⟩ i3).mono fun r h' k=>⟨k.1,by rw[k.2,i4,shareV_shq]⟩
    rcases(by omega:a=11∨a=12∨a=13∨a=14∨a=15) with rfl|rfl|rfl|rfl|rfl
    ·simp -dsimp (disch:=omega) only[wpS,wpT,Nat.reduceEqDiff]
     refine call (fin (b:Int) 1 (by omega) (by omega) (by omega) rfl) ?_
     rintro _ k1 ⟨X1,rfl⟩
     have m1:=X1.n
     simp -dsimp (disch:=omega) only[wpS,wpT,Nat.reduceEqDiff,Nat.reduceLeDiff,Nat.reduceAdd,st47,ld47,shV_cells,shC_len,shC_all,sh_sp3,sh_take,X1.kept (by omega) g0]
     exact⟨(E0.trans X1).put (by omega) _,rfl⟩
    ·simp -dsimp (disch:=omega) only[wpS,wpT,Nat.reduceEqDiff,e1,e2,e3,e4]
     refine call (fin ((2*b*(b+1):Nat):Int) ((2*b+1:Nat):Int) (by omega) (by omega) (by omega) rfl) ?_
     rintro _ k1 ⟨X1,rfl⟩
     have m1:=X1.n
     simp -dsimp (disch:=omega) only[wpS,wpT,Nat.reduceEqDiff,Nat.reduceLeDiff,Nat.reduceAdd,st47,ld47,shV_cells,shC_len,shC_all,sh_sp3,sh_take,X1.kept (by omega) g0]
     exact⟨(E0.trans X1).put (by omega) _,rfl⟩
    ·simp -dsimp (disch:=omega) only[wpS,wpT,Nat.reduceEqDiff,e2,e5]
     refine call (fin ((b*(b+1):Nat):Int) 1 (by omega) (by omega) (by omega) rfl) ?_
     rintro _ k1 ⟨X1,rfl⟩
     have m1:=X1.n
     simp -dsimp (disch:=omega) only[wpS,wpT,Nat.reduceEqDiff,Nat.reduceLeDiff,Nat.reduceAdd,st47,ld47,shV_cells,shC_len,shC_all,sh_sp3,sh_take,X1.kept (by omega) g0]
     exact⟨(E0.trans X1).put (by omega) _,rfl⟩
    ·simp -dsimp (disch:=omega) only[wpS,wpT,Nat.reduceEqDiff,e1,e4]
     refine call (fin ((2*b+1:Nat):Int) 2 (by omega) (by omega) (by omega) rfl) ?_
     rintro _ k1 ⟨X1,rfl⟩
     have m1:=X1.n
     simp -dsimp (disch:=omega) only[wpS,wpT,Nat.reduceEqDiff,Nat.reduceLeDiff,Nat.reduceAdd,st47,ld47,shV_cells,shC_len,shC_all,sh_sp3,sh_take,X1.kept (by omega) g0]
     exact⟨(E0.trans X1).put (by omega) _,rfl⟩
    ·simp -dsimp (disch:=omega) only[wpS,wpT,Nat.reduceEqDiff,e2]
     refine call (fin ((b+1:Nat):Int) 1 (by omega) (by omega) (by omega) rfl) ?_
     rintro _ k1 ⟨X1,rfl⟩
     have m1:=X1.n
     simp -dsimp (disch:=omega) only[wpS,wpT,Nat.reduceEqDiff,Nat.reduceLeDiff,Nat.reduceAdd,st47,ld47,shV_cells,shC_len,shC_all,sh_sp3,sh_take,X1.kept (by omega) g0]
     exact⟨(E0.trans X1).put (by omega) _,rfl⟩
 ·rw[decide_eq_false c1] at pe ⊢
  have e:postErr m s=true:=by rw[pe];rfl
  simp -dsimp (disch:=omega) only[wpS,wpT,Nat.reduceEqDiff,Nat.reduceLeDiff,Nat.reduceAdd,bv47,st47,ld47,g0,sh_tz]
  exact bad e
theorem postQ_pos {m s:Nat} (h:postN m s≠0):0<postQ m s:=by
 have:=divInt_lt (a:=0) (b:=1) (c:=postN m s) (d:=postD m s) (by omega) (postD_pos m s) (by omega)
 rwa [show((0:Nat):Int)=0 from rfl,Rat.zero_divInt] at this
theorem divInt_unit (n:Int):Rat.divInt n 1=(n:Rat):=by
 rw[Rat.divInt_eq_div]
 have:((1:Int):Rat)=1:=rfl
 rw[this]
 grind
theorem rankQ_div {m p s:Nat} (h:postN m s≠0):(((if m=13 then p*p else p:Nat):Int):Rat) / postQ m s=rankQ m p s:=by
 have h1:((postN m s:Nat):Rat)≠0:=by simpa using h
 have h2:((postD m s:Nat):Rat)≠0:=by have:=postD_pos m s;simp;omega
 unfold postQ rankQ
 rw[Rat.divInt_eq_div,Rat.divInt_eq_div,Rat.divInt_eq_div]
 generalize (((if m=13 then p*p else p:Nat):Int):Rat)=t
 have e1:(((postN m s:Nat):Int):Rat)=((postN m s:Nat):Rat):=rfl
 have e2:(((postD m s:Nat):Int):Rat)=((postD m s:Nat):Rat):=rfl
 have e3:((1:Int):Rat)=1:=rfl
 rw[e1,e2,e3]
 generalize ((postN m s:Nat):Rat)=a at *
 generalize ((postD m s:Nat):Rat)=b at *
 grind
set_option maxHeartbeats 4000000 in
theorem rank7_ok {h:IH} (m p s:Int):WV Proofs.Tryz.prog (.func (.func 42) #[] #[]) [KI m,KI p,KI s] h fun r h'=>Ext h h'∧r=if rankErr m p s=0 then .tuple #[rankW m.toNat p.toNat s.toNat,KI 0] else .tuple #[shV 0 0,KI (rankErr m p s)]:=by
 have re:rankErr m p s=if (postErr m s || !(inR 0 1000000000 [p]))=true then 2 else if postZ m.toNat s.toNat=true then 7 else 0:=rfl
 refine enter (nt:=48) (rs:=[.cell 6 47,.tmp 7]) Proofs.Tryz.func42 rfl rfl rfl (by simp) ?_
 simp -dsimp (disch:=omega) only[wpS,Nat.reduceEqDiff,Nat.reduceAdd,zc47]
 obtain⟨H0,hH0⟩ : ∃H,H=h.new (.cells Z16 0 none):=⟨_,rfl⟩
 have E0:Ext h H0:=by rw[hH0];exact(Ext.refl h).new _
 have g0:H0.ext.get h.n=some (.cells Z16 0 none):=by rw[hH0];simp (disch:=first|omega|(simp only[new_n,put_n];omega)|(repeat first|rw[new_n]|rw[put_n])) only[get_new_same]
 have n0:H0.n=h.n+1:=by rw[hH0];simp
 rw[←hH0]
 clear hH0
 refine call (post7_ok m s) ?_
 rintro r h1 ⟨X1,hr⟩
 have m1:=X1.n
 have k0:=X1.kept (by omega) g0
 have bad : ∀(hx:IH) (e:Int),Ext h hx→rankErr m p s=e→e≠0→Ext h (hx.put h.n (.cells Z16 0 none))∧Value.tuple #[.agg Z16.toArray,KI e]=if rankErr m p s=0 then .tuple #[rankW m.toNat p.toNat s.toNat,KI 0] else .tuple #[shV 0 0,KI (rankErr m p s)]:=fun hx e hE h2 h3=>by
  refine⟨hE.put (by omega) _,?_⟩
  rw[h2,if_neg h3,←sh_zeroV]
 cases c:postErr m s
 ·obtain⟨a,b,rfl,rfl,ha,hb⟩:=postErr_no c
  rw[c,if_neg (by simp),Int.toNat_natCast,Int.toNat_natCast] at hr
  subst hr
  rw[c] at re
  obtain⟨H2,hH2,n2,E2,g2⟩:=boxed h1 Z16 (shC (shq (postQ a b)).1 (shq (postQ a b)).2)
  by_cases c1:p<0
  ·have e:rankErr (a:Int) p (b:Int)=2:=by rw[re,inR1,decide_eq_false (by omega)];rfl
   simp -dsimp (disch:=omega) only[wpS,wpT,Nat.reduceEqDiff,Nat.reduceLeDiff,Nat.reduceAdd,zc47,st47,bv47,ld47,shV_cells,shC_len,shC_all,sh_sp3,k0,sh_tz]
   rw[←hH2]
   exact bad H2 2 (E0.trans (X1.trans E2)) e (by omega)
  ·by_cases c2:1000000000<p
   ·have e:rankErr (a:Int) p (b:Int)=2:=by rw[re,inR1,decide_eq_false (by omega)];rfl
    simp -dsimp (disch:=omega) only[wpS,wpT,Nat.reduceEqDiff,Nat.reduceLeDiff,Nat.reduceAdd,zc47,st47,bv47,ld47,shV_cells,shC_len,shC_all,sh_sp3,k0,sh_tz]
    rw[←hH2]
    exact bad H2 2 (E0.trans (X1.trans E2)) e (by omega)
   ·obtain⟨q,rfl⟩ : ∃q:Nat,p=q:=⟨p.toNat,by omega⟩
    have hq:q≤1000000000:=by omega
    rw[inR1,decide_eq_true (by omega:(0:Int)≤(q:Int)∧(q:Int)≤1000000000)] at re
    simp -dsimp (disch:=omega) only[wpS,wpT,Nat.reduceEqDiff,Nat.reduceLeDiff,Nat.reduceAdd,zc47,st47,shV_cells,shC_len,shC_all,sh_sp3]
    rw[←hH2]
    clear hH2
    refine call (zero7_ok (a:Int) (b:Int)) ?_
    rintro _ k2 ⟨hk,rfl⟩
    rw[hk]
    clear hk k2
    rw[zeroB_eq ha]
    have k2:=E2.kept (by omega) k0
    have z0:postZ a b=false→rankErr (a:Int) (q:Int) (b:Int)=0:=fun h=>by rw[re];simp[h]
    have z1:postZ a b=true→rankErr (a:Int) (q:Int) (b:Int)=7:=fun h=>by rw[re];simp[h]
    simp only[Int.toNat_natCast]
    cases cz:postZ a b
    ·have e:=z0 cz
     have pn:postN a b≠0:=fun h=>by unfold postZ at cz;rw[h] at cz;cases cz
     have qr:=rankQ_qw (m:=a) hq hb pn
     have qq:=mulSelf_le hq
     obtain⟨t,hte⟩ : ∃t,t=(if a=13 then q*q else q:Nat):=⟨_,rfl⟩
     have ht:t≤1000000000000000000:=by rw[hte];split<;>omega
     have em:IntKind.i64.wrap ((q:Int)*(q:Int))=((q*q:Nat):Int):=by rw[←Int.natCast_mul,wrap_i64 (by omega)]
     simp -dsimp (disch:=omega) only[wpS,Nat.reduceEqDiff]
     refine bq_cut (fun fr2 h2=>h2=H2∧fget fr2 1=some (KN t)∧fget fr2 6=some (ptr (2*h.n) 0)∧fget fr2 8=some (ptr (2*h1.n) 0)) (fun hc=>?_) (fun hc=>?_) ?_
     ·have a13:a=13:=by simp at hc;omega
      simp -dsimp (disch:=omega) only[wpS,wpT,Nat.reduceEqDiff,em]
      exact⟨rfl,by simp[hte,a13],by simp,by simp⟩
     ·have a13 : ¬a=13:=by simp at hc;omega
      simp -dsimp (disch:=omega) only[wpS,wpT]
      exact⟨rfl,by simp[hte,a13],by simp,by simp⟩
     ·rintro fr2 _ ⟨rfl,f1,f6,f8⟩
      simp -dsimp (disch:=omega) only[wpS,f1]
      refine call (ref02Of_ok t 1 ⟨by omega,by omega⟩ ⟨by omega,by omega⟩ (by omega)) ?_
      rintro _ h3 ⟨X3,rfl⟩
      have m3:=X3.n
      have qt:QW ((t:Int):Rat):=by rw[←divInt_unit];exact qw_small (by omega) (by omega) (by omega)
      rw[divInt_unit,shareV_shq]
      have r2:=X3.kept (by omega) g2
      have r0:=X3.kept (by omega) k2
      obtain⟨H4,hH4,n4,E4,g4⟩:=boxed h3 Z16 (shC (shq ((t:Int):Rat)).1 (shq ((t:Int):Rat)).2)
      simp -dsimp (disch:=omega) only[wpS,wpT,Nat.reduceEqDiff,Nat.reduceLeDiff,Nat.reduceAdd,zc47,st47,ld47,f8,shV_cells,shC_len,shC_all,sh_sp3,sh_take,row_of r2]
      rw[←hH4]
      clear hH4
      have pq:=postQ_qw (m:=a) hb
      have p0:postQ a b≠0:=fun h=>by have h5:=postQ_pos pn;rw[h] at h5;exact absurd h5 (by decide)
      refine call (refdiv_ok (p1:=shq ((t:Int):Rat)) (p2:=shq (postQ a b)) (shq_lt qt) (shq_lt pq) (shq_rOf qt).2 (shq_rOf pq).2 (by rw[(shq_rOf pq).1];exact p0)) ?_
      rintro _ h5 ⟨X5,rfl⟩
      rw[(shq_rOf qt).1,(shq_rOf pq).1,show((t:Int):Rat) / postQ a b=rankQ a q b from by rw[hte];exact rankQ_div pn,toldV_qw qr]
      have m5:=X5.n
      have m4:=E4.n
      simp -dsimp (disch:=omega) only[wpS,wpT,Nat.reduceEqDiff,Nat.reduceLeDiff,Nat.reduceAdd,st47,ld47,f6,shV_cells,shC_len,shC_all,sh_sp3,sh_take,(E4.trans X5).kept (by omega) r0]
      refine⟨(E0.trans (X1.trans (E2.trans (X3.trans (E4.trans X5))))).put (by omega) _,?_⟩
      rw[e,if_pos rfl];rfl
    ·have e:=z1 cz
     simp -dsimp (disch:=omega) only[wpS,wpT,Nat.reduceEqDiff,Nat.reduceLeDiff,Nat.reduceAdd,st47,bv47,ld47,k2,sh_tz]
     exact bad H2 7 (E0.trans (X1.trans E2)) e (by omega)
 ·rw[c,if_pos rfl] at hr
  subst hr
  rw[c] at re
  have e:rankErr m p s=2:=re
  obtain⟨H2,hH2,n2,E2,g2⟩:=boxed h1 Z16 (shC 0 0)
  simp -dsimp (disch:=omega) only[wpS,wpT,Nat.reduceEqDiff,Nat.reduceLeDiff,Nat.reduceAdd,zc47,st47,bv47,ld47,shV_cells,shC_len,shC_all,sh_sp3,k0,sh_tz]
  rw[←hH2]
  exact bad H2 2 (E0.trans (X1.trans E2)) e (by omega)
end Go.Id

/-! Contracts: wardmoteref07: ranks compared. -/
namespace Go.Id
open Go
theorem aboveErr_eq (m p s q t:Int):aboveErr m p s q t = !(decide ((11≤m∧m≤15)∧(0≤s∧s≤1000)∧(0≤t∧t≤1000)∧(1≤p∧p≤1000000000)∧(1≤q∧q≤1000000000))):=by
 have e1:inR 0 1000 [s,t]=decide ((0≤s∧s≤1000)∧(0≤t∧t≤1000)):=by rw[Bool.eq_iff_iff,inR_iff];simp
 have e2:inR 1 1000000000 [p,q]=decide ((1≤p∧p≤1000000000)∧(1≤q∧q≤1000000000)):=by rw[Bool.eq_iff_iff,inR_iff];simp
 unfold aboveErr
 rw[inR1,e1,e2,Bool.eq_iff_iff]
 simp
 omega
theorem rankX_cmp {a b c d e:Nat} (h1:postZ a c=false) (h2:postZ a e=false):cmpRank a b c d e=cmpQ (rankQ a b c) (rankQ a d e):=by
 unfold cmpRank rankX cmpR
 rw[h1,h2];rfl
theorem rankErr_ok {m p s:Nat} (hm:11≤m∧m≤15) (hp:p≤1000000000) (hs:s≤1000) (hz:postZ m s=false):rankErr (m:Int) (p:Int) (s:Int)=0:=by
 unfold rankErr
 have e1:inR 0 1000 [(s:Int)]=true:=by rw[inR1,decide_eq_true (by omega)]
 have e2:inR 0 1000000000 [(p:Int)]=true:=by rw[inR1,decide_eq_true (by omega)]
 have e3:inR 11 15 [(m:Int)]=true:=by rw[inR1,decide_eq_true (by omega)]
 rw[e1,e2,e3]
 simp[hz]
set_option maxHeartbeats 4000000 in
set_option maxRecDepth 20000 in
theorem above7_ok {h:IH} (m p s q t:Int):WV Proofs.Tryz.prog (.func (.func 78) #[] #[]) [KI m,KI p,KI s,KI q,KI t] h fun r h'=>Ext h h'∧r=if aboveErr m p s q t=true then .tuple #[KI 0,KI 2] else .tuple #[KI (cmpRank m.toNat p.toNat s.toNat q.toNat t.toNat),KI 0]:=by
 have ae:=aboveErr_eq m p s q t
 refine enter (nt:=96) (rs:=[.tmp 10,.tmp 11]) Proofs.Tryz.func78 rfl rfl rfl (by simp) ?_
 simp -dsimp (maxSteps:=1000000) (disch:=first|omega|(simp only[new_n,put_n];omega)|decide +kernel|(repeat first|rw[new_n]|rw[put_n])) only[wpS,Nat.reduceEqDiff,Nat.reduceAdd]
 refine call (known7_ok m) ?_
 rintro _ k0 ⟨hk,rfl⟩
 rw[hk]
 clear hk k0
 rw[inR1]
 by_cases c0:11≤m∧m≤15
 ·rw[decide_eq_true c0]
  by_cases c1:s<0
  ·have e:aboveErr m p s q t=true:=by rw[ae,decide_eq_false (by omega)];rfl
   simp -dsimp (maxSteps:=1000000) (disch:=first|omega|(simp only[new_n,put_n];omega)|decide +kernel|(repeat first|rw[new_n]|rw[put_n])) only[wpS,wpT,Nat.reduceEqDiff]
   exact⟨Ext.refl _,by rw[if_pos e]⟩
  ·by_cases c2:1000<s
   ·have e:aboveErr m p s q t=true:=by rw[ae,decide_eq_false (by omega)];rfl
    simp -dsimp (maxSteps:=1000000) (disch:=first|omega|(simp only[new_n,put_n];omega)|decide +kernel|(repeat first|rw[new_n]|rw[put_n])) only[wpS,wpT,Nat.reduceEqDiff]
    exact⟨Ext.refl _,by rw[if_pos e]⟩
   ·by_cases c3:t<0
    ·have e:aboveErr m p s q t=true:=by rw[ae,decide_eq_false (by omega)];rfl
     simp -dsimp (maxSteps:=1000000) (disch:=first|omega|(simp only[new_n,put_n];omega)|decide +kernel|(repeat first|rw[new_n]|rw[put_n])) only[wpS,wpT,Nat.reduceEqDiff]
     exact⟨Ext.refl _,by rw[if_pos e]⟩
    ·by_cases c4:1000<t
     ·have e:aboveErr m p s q t=true:=by rw[ae,decide_eq_false (by omega)];rfl
      simp -dsimp (maxSteps:=1000000) (disch:=first|omega|(simp only[new_n,put_n];omega)|decide +kernel|(repeat first|rw[new_n]|rw[put_n])) only[wpS,wpT,Nat.reduceEqDiff]
      exact⟨Ext.refl _,by rw[if_pos e]⟩
     ·by_cases c5:p<1
      ·have e:aboveErr m p s q t=true:=by rw[ae,decide_eq_false (by omega)];rfl
       simp -dsimp (maxSteps:=1000000) (disch:=first|omega|(simp only[new_n,put_n];omega)|decide +kernel|(repeat first|rw[new_n]|rw[put_n])) only[wpS,wpT,Nat.reduceEqDiff]
       exact⟨Ext.refl _,by rw[if_pos e]⟩
      ·by_cases c6:1000000000<p
       ·have e:aboveErr m p s q t=true:=by rw[ae,decide_eq_false (by omega)];rfl
        simp -dsimp (maxSteps:=1000000) (disch:=first|omega|(simp only[new_n,put_n];omega)|decide +kernel|(repeat first|rw[new_n]|rw[put_n])) only[wpS,wpT,Nat.reduceEqDiff]
        exact⟨Ext.refl _,by rw[if_pos e]⟩
       ·by_cases c7:q<1
        ·have e:aboveErr m p s q t=true:=by rw[ae,decide_eq_false (by omega)];rfl
         simp -dsimp (maxSteps:=1000000) (disch:=first|omega|(simp only[new_n,put_n];omega)|decide +kernel|(repeat first|rw[new_n]|rw[put_n])) only[wpS,wpT,Nat.reduceEqDiff]
         exact⟨Ext.refl _,by rw[if_pos e]⟩
        ·by_cases c8:1000000000<q
         ·have e:aboveErr m p s q t=true:=by rw[ae,decide_eq_false (by omega)];rfl
          simp -dsimp (maxSteps:=1000000) (disch:=first|omega|(simp only[new_n,put_n];omega)|decide +kernel|(repeat first|rw[new_n]|rw[put_n])) only[wpS,wpT,Nat.reduceEqDiff]
          exact⟨Ext.refl _,by rw[if_pos e]⟩
         ·have e:aboveErr m p s q t=false:=by rw[ae,decide_eq_true (by omega)];rfl
          obtain⟨a,rfl⟩ : ∃a:Nat,m=a:=⟨m.toNat,by omega⟩
          obtain⟨b,rfl⟩ : ∃b:Nat,p=b:=⟨p.toNat,by omega⟩
          obtain⟨c,rfl⟩ : ∃c:Nat,s=c:=⟨s.toNat,by omega⟩
          obtain⟨d,rfl⟩ : ∃d:Nat,q=d:=⟨q.toNat,by omega⟩
          obtain⟨f,rfl⟩ : ∃f:Nat,t=f:=⟨t.toNat,by omega⟩
          have ha:11≤a∧a≤15:=by omega
          rw[e,if_neg (by simp)]
          simp only[Int.toNat_natCast]
          simp -dsimp (maxSteps:=1000000) (disch:=first|omega|(simp only[new_n,put_n];omega)|decide +kernel|(repeat first|rw[new_n]|rw[put_n])) only[wpS,wpT,Nat.reduceEqDiff]
          refine call (zero7_ok (a:Int) (c:Int)) ?_
          rintro _ k0 ⟨hk,rfl⟩
          rw[hk]
          clear hk k0
          rw[zeroB_eq ha]
          have dq : ∀(x y:Nat),cmpQ (Rat.divInt x 1) (Rat.divInt y 1)=if (y:Int)<(x:Int) then 1 else if (x:Int)<(y:Int) then -1 else 0:=by
           intro x y
           rw[divInt_unit,divInt_unit]
           unfold cmpQ
           by_cases h1:(x:Int)<(y:Int)
           ·rw[if_pos (Rat.intCast_lt_intCast.2 h1),if_neg (by omega),if_pos h1]
           ·rw[if_neg (fun h=>h1 (Rat.intCast_lt_intCast.1 h))]
            by_cases h2:(x:Int)=(y:Int)
            ·rw[if_pos (by rw[h2]),if_neg (by omega),if_neg (by omega)]
            ·rw[if_neg (fun h=>h2 (Rat.intCast_inj.1 h)),if_pos (by omega)]
          cases z1:postZ a c
          ·simp -dsimp (maxSteps:=1000000) (disch:=first|omega|(simp only[new_n,put_n];omega)|decide +kernel|(repeat first|rw[new_n]|rw[put_n])) only[wpS,wpT,Nat.reduceEqDiff]
           refine call (zero7_ok (a:Int) (f:Int)) ?_
           rintro _ k0 ⟨hk,rfl⟩
           rw[hk]
           clear hk k0
           rw[zeroB_eq ha]
           cases z2:postZ a f
           ·have w1:rankErr (a:Int) (b:Int) (c:Int)=0:=rankErr_ok ha (by omega) (by omega) z1
            have w2:rankErr (a:Int) (d:Int) (f:Int)=0:=rankErr_ok ha (by omega) (by omega) z2
            have q1:=rankQ_qw (m:=a) (p:=b) (s:=c) (by omega) (by omega) (fun h=>by unfold postZ at z1;rw[h] at z1;cases z1)
            have q2:=rankQ_qw (m:=a) (p:=d) (s:=f) (by omega) (by omega) (fun h=>by unfold postZ at z2;rw[h] at z2;cases z2)
            simp -dsimp (maxSteps:=1000000) (disch:=first|omega|(simp only[new_n,put_n];omega)|decide +kernel|(repeat first|rw[new_n]|rw[put_n])) only[wpS,Nat.reduceEqDiff]
            refine call (rank7_ok (a:Int) (b:Int) (c:Int)) ?_
            rintro r h1 ⟨X1,hr⟩
            rw[w1,if_pos rfl] at hr
            simp only[Int.toNat_natCast] at hr
            subst hr
            unfold rankW
            obtain⟨H2,hH2,n2,E2,g2⟩:=boxed h1 Z16 (shC (shq (rankQ a b c)).1 (shq (rankQ a b c)).2)
            simp -dsimp (maxSteps:=1000000) (disch:=first|omega|(simp only[new_n,put_n];omega)|decide +kernel|(repeat first|rw[new_n]|rw[put_n])) only[wpS,wpT,Nat.reduceEqDiff,Nat.reduceLeDiff,Nat.reduceAdd,zc47,st47,shV_cells,shC_len,shC_all,sh_sp3]
            rw[←hH2]
            clear hH2
            refine call (rank7_ok (a:Int) (d:Int) (f:Int)) ?_
            rintro r h3 ⟨X3,hr⟩
            rw[w2,if_pos rfl] at hr
            simp only[Int.toNat_natCast] at hr
            subst hr
            unfold rankW
            have m1:=X1.n
            have m3:=X3.n
            have u2:=X3.kept (by omega) g2
            obtain⟨H4,hH4,n4,E4,g4⟩:=boxed h3 Z16 (shC (shq (rankQ a d f)).1 (shq (rankQ a d f)).2)
            simp -dsimp (maxSteps:=1000000) (disch:=first|omega|(simp only[new_n,put_n];omega)|decide +kernel|(repeat first|rw[new_n]|rw[put_n])) only[wpS,wpT,Nat.reduceEqDiff,Nat.reduceLeDiff,Nat.reduceAdd,zc47,st47,ld47,shV_cells,shC_len,shC_all,sh_sp3,sh_take,row_of u2]
            rw[←hH4]
            clear hH4
            refine call (refcmp_ok (p1:=shq (rankQ a b c)) (p2:=shq (rankQ a d f)) (shq_lt q1) (shq_lt q2) (shq_rOf q1).2 (shq_rOf q2).2) ?_
            rintro _ h5 ⟨X5,rfl⟩
            rw[cmpQ_rOf q1 q2]
            simp -dsimp (maxSteps:=1000000) (disch:=first|omega|(simp only[new_n,put_n];omega)|decide +kernel|(repeat first|rw[new_n]|rw[put_n])) only[wpS,Nat.reduceEqDiff]
            refine⟨X1.trans (E2.trans (X3.trans (E4.trans X5))),?_⟩
            rw[rankX_cmp z1 z2]
           ·simp -dsimp (maxSteps:=1000000) (disch:=first|omega|(simp only[new_n,put_n];omega)|decide +kernel|(repeat first|rw[new_n]|rw[put_n])) only[wpS,Nat.reduceEqDiff]
            refine call (zero7_ok (a:Int) (c:Int)) ?_
            rintro _ k0 ⟨hk,rfl⟩
            rw[hk]
            clear hk k0
            rw[zeroB_eq ha,z1]
            simp -dsimp (maxSteps:=1000000) (disch:=first|omega|(simp only[new_n,put_n];omega)|decide +kernel|(repeat first|rw[new_n]|rw[put_n])) only[wpS,wpT,Nat.reduceEqDiff]
            refine⟨Ext.refl _,?_⟩
            unfold cmpRank cmpR
            rw[z1,z2];rfl
          ·simp -dsimp (maxSteps:=1000000) (disch:=first|omega|(simp only[new_n,put_n];omega)|decide +kernel|(repeat first|rw[new_n]|rw[put_n])) only[wpS,wpT,Nat.reduceEqDiff]
           refine call (zero7_ok (a:Int) (c:Int)) ?_
           rintro _ k0 ⟨hk,rfl⟩
           rw[hk]
           clear hk k0
           rw[zeroB_eq ha,z1]
           simp -dsimp (maxSteps:=1000000) (disch:=first|omega|(simp only[new_n,put_n];omega)|decide +kernel|(repeat first|rw[new_n]|rw[put_n])) only[wpS,wpT,Nat.reduceEqDiff]
           refine call (zero7_ok (a:Int) (f:Int)) ?_
           rintro _ k0 ⟨hk,rfl⟩
           rw[hk]
           clear hk k0
           rw[zeroB_eq ha]
           cases z2:postZ a f
           ·simp -dsimp (maxSteps:=1000000) (disch:=first|omega|(simp only[new_n,put_n];omega)|decide +kernel|(repeat first|rw[new_n]|rw[put_n])) only[wpS,wpT,Nat.reduceEqDiff]
            refine⟨Ext.refl _,?_⟩
            unfold cmpRank cmpR
            rw[z1,z2];rfl
           ·have cr:cmpRank a b c d f=if (d:Int)<(b:Int) then 1 else if (b:Int)<(d:Int) then -1 else 0:=by
             rw[←dq b d]
             unfold cmpRank cmpR rankX
             rw[z1,z2];rfl
            by_cases g1:(d:Int)<(b:Int)
            ·simp -dsimp (maxSteps:=1000000) (disch:=first|omega|(simp only[new_n,put_n];omega)|decide +kernel|(repeat first|rw[new_n]|rw[put_n])) only[wpS,wpT,Nat.reduceEqDiff]
             exact⟨Ext.refl _,by rw[cr,if_pos g1]⟩
            ·by_cases g2:(b:Int)<(d:Int)
             ·simp -dsimp (maxSteps:=1000000) (disch:=first|omega|(simp only[new_n,put_n];omega)|decide +kernel|(repeat first|rw[new_n]|rw[put_n])) only[wpS,wpT,Nat.reduceEqDiff]
              exact⟨Ext.refl _,by rw[cr,if_neg g1,if_pos g2]⟩
             ·simp -dsimp (maxSteps:=1000000) (disch:=first|omega|(simp only[new_n,put_n];omega)|decide +kernel|(repeat first|rw[new_n]|rw[put_n])) only[wpS,wpT,Nat.reduceEqDiff]
              exact⟨Ext.refl _,by rw[cr,if_neg g1,if_neg g2]⟩
 ·rw[decide_eq_false c0]
  have e:aboveErr m p s q t=true:=by rw[ae,decide_eq_false (by omega)];rfl
  simp -dsimp (maxSteps:=1000000) (disch:=first|omega|(simp only[new_n,put_n];omega)|decide +kernel|(repeat first|rw[new_n]|rw[put_n])) only[wpS,wpT,Nat.reduceEqDiff]
  exact⟨Ext.refl _,by rw[if_pos e]⟩
end Go.Id

/-! Contracts: wardmoteref08: asked, minimum. -/
namespace Go.Id
open Go
theorem openErr_zero {people won least:List Int} {m:Int} (h1:quotaOK people=true) (h2:won.length=people.length) (h3 : ∀n∈won,0≤n∧n≤1000) (h4:11≤m∧m≤15) (h5:(leastOr people.length least).length=people.length) (h6:lowOK won (leastOr people.length least) people.length) (h7:1≤won.sum∧won.sum≤1000):openErr people won m least=0:=by
 unfold openErr
 rw[if_neg (by rw[h1];simp),if_neg (by
  intro h
  rcases h with h|h
  ·exact h h2
  ·rw[inR_iff.2 h3] at h;cases h),if_neg (by
  intro h
  rcases h with h|h
  ·rw[inR1,decide_eq_true h4] at h;cases h
  ·exact h h5),if_neg (fun h=>h h6),if_neg (by rw[inR1,decide_eq_true h7];simp)]
theorem openErr_two {people won least:List Int} {m:Int} (h1:quotaOK people=true) (h : ¬(won.length=people.length∧(∀n∈won,0≤n∧n≤1000)∧(11≤m∧m≤15)∧(leastOr people.length least).length=people.length∧lowOK won (leastOr people.length least) people.length∧(1≤won.sum∧won.sum≤1000))):openErr people won m least=2:=by
 unfold openErr
 rw[if_neg (by rw[h1];simp)]
 by_cases c2:won.length≠people.length∨inR 0 1000 won=false
 ·rw[if_pos c2]
 ·rw[if_neg c2]
  by_cases c3:inR 11 15 [m]=false∨(leastOr people.length least).length≠people.length
  ·rw[if_pos c3]
  ·rw[if_neg c3]
   by_cases c4 : ¬lowOK won (leastOr people.length least) people.length
   ·rw[if_pos c4]
   ·rw[if_neg c4]
    by_cases c5:inR 1 1000 [won.sum]=false
    ·rw[if_pos c5]
    ·exfalso
     apply h
     have d2:inR 0 1000 won=true:=by
      cases hh:inR 0 1000 won
      ·exact absurd (.inr hh) c2
      ·rfl
     have d3:inR 11 15 [m]=true:=by
      cases hh:inR 11 15 [m]
      ·exact absurd (.inl hh) c3
      ·rfl
     have d5:inR 1 1000 [won.sum]=true:=by
      cases hh:inR 1 1000 [won.sum]
      ·exact absurd hh c5
      ·rfl
     exact⟨Classical.not_not.1 fun e=>c2 (.inl e),inR_iff.1 d2,inR_iff.1 d3 m (by simp),Classical.not_not.1 fun e=>c3 (.inr e),Classical.not_not.1 c4,inR_iff.1 d5 _ (by simp)⟩
theorem leastOr_cons {n:Nat} {least:List Int} (h:least ≠ []):leastOr n least=least:=by unfold leastOr;rw[if_neg h]
theorem leastOr_nil (n:Nat):leastOr n []=List.replicate n 0:=by unfold leastOr;rw[if_pos rfl]
theorem lowOK_zero {won:List Int} {n:Nat} (h : ∀x∈won,0≤x∧x≤1000) (hl:won.length=n):lowOK won (List.replicate n 0) n:=by
 intro i hi
 have e:(List.replicate n (0:Int)).getD i 0=0:=by rw[List.getD_eq_getElem?_getD,List.getElem?_replicate];split<;>rfl
 rw[e]
 have:=h _ (List.mem_of_getElem? (at_getD (l:=won) (i:=i) (by omega)))
 omega
theorem minimum_ok {h:IH} {vl:Value} {least:List Int} {n i:Nat} (hl:SlOf h 1 vl least.length (least.map KI)) (hi:i<n) (hn:(leastOr n least).length=n) (hb:n≤1000) :
  WV Proofs.Tryz.prog (.func (.func 44) #[] #[]) [vl,KN i] h fun r h'=>h'=h∧r=KI ((leastOr n least).getD i 0):=by
 have L0:=hl.now
 refine enter (nt:=12) (rs:=[.tmp 4]) Proofs.Tryz.func44 rfl rfl rfl (by simp) ?_
 by_cases c:least = []
 ·subst c
  have e:((0:Nat):Int) == 0:=rfl
  simp -dsimp (disch:=omega) only[wpS,wpT,Nat.reduceEqDiff,Nat.reduceAdd,L0.len sl29,Int.ofNat_zero]
  rw[leastOr_nil,List.getD_eq_getElem?_getD,List.getElem?_replicate,if_pos hi];rfl
 ·rw[leastOr_cons c] at hn ⊢
  have il:i<least.length:=by omega
  have e:((least.length:Int) == 0)=false:=by simpa using c
  have lL:=L0.ld (P:=Proofs.Tryz.prog) (t:=3) (c:=i) (by simp<;>omega) ag3
  rw[map_get,at_getD il] at lL
  simp -dsimp (disch:=omega) only[wpS,wpT,Nat.reduceEqDiff,Nat.reduceAdd,L0.len sl29,e,L0.idx es29 il,lL]
end Go.Id

/-! Contracts: wardmoteref08: asked. -/
namespace Go.Id
open Go
set_option maxHeartbeats 4000000 in
theorem asked8_ok {h:IH} {vp vw vl:Value} {m:Int} {people won least:List Int} (hp:SlOf h 1 vp people.length (people.map KI)) (hw:SlOf h 1 vw won.length (won.map KI)) (hl:SlOf h 1 vl least.length (least.map KI)) (lp:people.length≤1000000) (lw:won.length≤1000000) (ll:least.length≤1000000) :
  WV Proofs.Tryz.prog (.func (.func 39) #[] #[]) [vp,vw,KI m,vl] h fun r h'=>h'=h∧r=KI (openErr people won m least):=by
 have P0:=hp.now
 have W0:=hw.now
 have L0:=hl.now
 refine enter (nt:=90) (rs:=[.tmp 8]) Proofs.Tryz.func39 rfl rfl rfl (by simp) ?_
 simp -dsimp (maxSteps:=1000000) (disch:=first|omega|(simp only[new_n,put_n];omega)|decide +kernel|(repeat first|rw[new_n]|rw[put_n])) only[wpS,Nat.reduceEqDiff,Nat.reduceAdd]
 refine call (check6_ok hp lp) ?_
 rintro _ k0 ⟨hk,rfl⟩
 rw[hk]
 clear hk k0
 by_cases c1:quotaOK people=true
 ·rw[if_pos c1]
  by_cases c2:won.length=people.length
  ·have d2:((won.length:Int) != (people.length:Int))=false:=by rw[c2];simp
   simp -dsimp (maxSteps:=1000000) (disch:=first|omega|(simp only[new_n,put_n];omega)|decide +kernel|(repeat first|rw[new_n]|rw[put_n])) only[wpS,wpT,Nat.reduceEqDiff,W0.len sl29,P0.len sl29,d2]
   refine loop (fun mm fr hh => ∃i:Nat,i+mm=won.length∧hh=h∧(∀n∈won.take i,0≤n∧n≤1000)∧fget fr 0=some vp∧fget fr 1=some vw∧fget fr 2=some (KI m)∧fget fr 3=some vl∧fget fr 10=some (KI (won.take i).sum)∧fget fr 11=some (KN i)) won.length ⟨0,by omega,rfl,fun n hn=>by simp at hn,by simp,by simp,by simp,by simp,by simp,by simp⟩ ?_
   rintro mm fr gg ⟨i,him,rfl,hz,f0,f1,f2,f3,f10,f11⟩
   have sb:=sum_bound (won.take i) fun n hn=>by have:=hz n hn;omega
   have tl:(won.take i).length≤1000000:=by rw[List.length_take];omega
   by_cases c:i<won.length
   ·obtain⟨n,hn⟩ : ∃n,won[i]?=some n:=⟨_,List.getElem?_eq_getElem c⟩
    have lP:=W0.ld (P:=Proofs.Tryz.prog) (t:=3) (c:=i) (by simp<;>omega) ag3
    rw[map_get,hn] at lP
    have bad : ¬(0≤n∧n≤1000)→openErr people won m least=2:=fun h=>openErr_two c1 fun k=>h (k.2.1 n (List.mem_of_getElem? hn))
    by_cases d3:n<0
    ·simp -dsimp (maxSteps:=1000000) (disch:=first|omega|(simp only[new_n,put_n];omega)|decide +kernel|(repeat first|rw[new_n]|rw[put_n])) only[wpS,wpT,Nat.reduceEqDiff,f1,f11,W0.len sl29,W0.idx es29 c,lP]
     rw[bad (by omega)]
    ·by_cases d4:1000<n
     ·simp -dsimp (maxSteps:=1000000) (disch:=first|omega|(simp only[new_n,put_n];omega)|decide +kernel|(repeat first|rw[new_n]|rw[put_n])) only[wpS,wpT,Nat.reduceEqDiff,f1,f11,W0.len sl29,W0.idx es29 c,lP]
      rw[bad (by omega)]
     ·have e2:IntKind.i64.wrap ((i:Int)+1)=((i+1:Nat):Int):=by rw[wrap_i64 (by omega)];omega
      have e3:IntKind.i64.wrap ((won.take i).sum+n)=(won.take (i+1)).sum:=by rw[sum_take_succ won hn,wrap_i64 (by omega)]
      simp -dsimp (maxSteps:=1000000) (disch:=first|omega|(simp only[new_n,put_n];omega)|decide +kernel|(repeat first|rw[new_n]|rw[put_n])) only[wpS,wpT,Nat.reduceEqDiff,f1,f10,f11,W0.len sl29,W0.idx es29 c,lP,e2,e3]
      refine⟨mm - 1,by omega,i+1,by omega,rfl,fun x hx=>?_,by simp[f0],by simp[f1],by simp[f2],by simp[f3],by simp,by simp⟩
      rw[List.take_add_one,hn] at hx
      simp at hx
      rcases hx with hx|rfl
      ·exact hz x hx
      ·omega
   ·have hin:won.take i=won:=List.take_of_length_le (by omega)
    rw[hin] at hz sb f10
    by_cases d1:won.sum<1
    ·have e:openErr people won m least=2:=openErr_two c1 fun k=>by omega
     simp -dsimp (maxSteps:=1000000) (disch:=first|omega|(simp only[new_n,put_n];omega)|decide +kernel|(repeat first|rw[new_n]|rw[put_n])) only[wpS,wpT,Nat.reduceEqDiff,f1,f10,f11,W0.len sl29]
     rw[e]
    ·by_cases d3:1000<won.sum
     ·have e:openErr people won m least=2:=openErr_two c1 fun k=>by omega
      simp -dsimp (maxSteps:=1000000) (disch:=first|omega|(simp only[new_n,put_n];omega)|decide +kernel|(repeat first|rw[new_n]|rw[put_n])) only[wpS,wpT,Nat.reduceEqDiff,f1,f10,f11,W0.len sl29]
      rw[e]
     ·simp -dsimp (maxSteps:=1000000) (disch:=first|omega|(simp only[new_n,put_n];omega)|decide +kernel|(repeat first|rw[new_n]|rw[put_n])) only[wpS,wpT,Nat.reduceEqDiff,f1,f2,f10,f11,W0.len sl29]
      refine call (known7_ok m) ?_
      rintro _ k0 ⟨hk,rfl⟩
      rw[hk]
      clear hk k0
      rw[inR1]
      by_cases d4:11≤m∧m≤15
      ·rw[decide_eq_true d4]
       by_cases d5:least = []
       ·subst d5
        have e:openErr people won m []=0:=openErr_zero c1 c2 hz d4 (by rw[leastOr_nil];simp) (by rw[leastOr_nil];exact lowOK_zero hz c2) (by omega)
        simp -dsimp (maxSteps:=1000000) (disch:=first|omega|(simp only[new_n,put_n];omega)|decide +kernel|(repeat first|rw[new_n]|rw[put_n])) only[wpS,wpT,Nat.reduceEqDiff,f3,L0.len sl29,Int.ofNat_zero]
        refine loop (fun mm fr hh=>hh=gg∧fget fr 3=some vl∧fget fr 12=some (KI 0)) 0 ⟨rfl,by simp[f3],by simp⟩ ?_
        rintro mm fr _ ⟨rfl,f3,f12⟩
        simp -dsimp (maxSteps:=1000000) (disch:=first|omega|(simp only[new_n,put_n];omega)|decide +kernel|(repeat first|rw[new_n]|rw[put_n])) only[wpS,wpT,Nat.reduceEqDiff,f3,f12,L0.len sl29,Int.ofNat_zero]
        rw[e]
       ·have l0:0<least.length:=List.length_pos_iff.2 d5
        have lo:=leastOr_cons (n:=people.length) d5
        by_cases d6:least.length=people.length
        ·have d7:((least.length:Int) != (people.length:Int))=false:=by rw[d6];simp
         simp -dsimp (maxSteps:=1000000) (disch:=first|omega|(simp only[new_n,put_n];omega)|decide +kernel|(repeat first|rw[new_n]|rw[put_n])) only[wpS,wpT,Nat.reduceEqDiff,f0,f3,L0.len sl29,P0.len sl29,d7]
         refine loop (fun mm fr hh => ∃i:Nat,i+mm=least.length∧hh=gg∧(∀j,j<i→0≤least.getD j 0∧least.getD j 0≤won.getD j 0)∧fget fr 1=some vw∧fget fr 3=some vl∧fget fr 12=some (KN i)) least.length ⟨0,by omega,rfl,fun j hj=>absurd hj (by omega),by simp[f1],by simp[f3],by simp⟩ ?_
         rintro mm fr _ ⟨i,him,rfl,hj,f1,f3,f12⟩
         by_cases c:i<least.length
         ·have iw:i<won.length:=by omega
          have lL:=L0.ld (P:=Proofs.Tryz.prog) (t:=3) (c:=i) (by simp<;>omega) ag3
          have lW:=W0.ld (P:=Proofs.Tryz.prog) (t:=3) (c:=i) (by simp<;>omega) ag3
          rw[map_get,at_getD c] at lL
          rw[map_get,at_getD iw] at lW
          have bad : ¬(0≤least.getD i 0∧least.getD i 0≤won.getD i 0)→openErr people won m least=2:=fun h=>openErr_two c1 fun k=>h (by have:=k.2.2.2.2.1 i (by omega);rwa [lo] at this)
          by_cases q1:least.getD i 0<0
          ·simp -dsimp (maxSteps:=1000000) (disch:=first|omega|(simp only[new_n,put_n];omega)|decide +kernel|(repeat first|rw[new_n]|rw[put_n])) only[wpS,wpT,Nat.reduceEqDiff,f3,f12,L0.len sl29,L0.idx es29 c,lL]
           rw[bad (by omega)]
          ·by_cases q2:won.getD i 0<least.getD i 0
           ·simp -dsimp (maxSteps:=1000000) (disch:=first|omega|(simp only[new_n,put_n];omega)|decide +kernel|(repeat first|rw[new_n]|rw[put_n])) only[wpS,wpT,Nat.reduceEqDiff,f1,f3,f12,L0.len sl29,L0.idx es29 c,lL,W0.idx es29 iw,lW]
            rw[bad (by omega)]
           ·have e2:IntKind.i64.wrap ((i:Int)+1)=((i+1:Nat):Int):=by rw[wrap_i64 (by omega)];omega
            simp -dsimp (maxSteps:=1000000) (disch:=first|omega|(simp only[new_n,put_n];omega)|decide +kernel|(repeat first|rw[new_n]|rw[put_n])) only[wpS,wpT,Nat.reduceEqDiff,f1,f3,f12,L0.len sl29,L0.idx es29 c,lL,W0.idx es29 iw,lW,e2]
            refine⟨mm - 1,by omega,i+1,by omega,rfl,fun j hj2=>?_,by simp[f1],by simp[f3],by simp⟩
            by_cases hji:j<i
            ·exact hj j hji
            ·obtain rfl:j=i:=by omega
             omega
         ·have e:openErr people won m least=0:=openErr_zero c1 c2 hz d4 (by rw[lo];exact d6) (by rw[lo];intro j hj2;exact hj j (by omega)) (by omega)
          simp -dsimp (maxSteps:=1000000) (disch:=first|omega|(simp only[new_n,put_n];omega)|decide +kernel|(repeat first|rw[new_n]|rw[put_n])) only[wpS,wpT,Nat.reduceEqDiff,f3,f12,L0.len sl29]
          rw[e]
        ·have d7:((least.length:Int) != (people.length:Int))=true:=by simp;omega
         have e:openErr people won m least=2:=openErr_two c1 fun k=>d6 (by have:=k.2.2.2.1;rwa [lo] at this)
         simp -dsimp (maxSteps:=1000000) (disch:=first|omega|(simp only[new_n,put_n];omega)|decide +kernel|(repeat first|rw[new_n]|rw[put_n])) only[wpS,wpT,Nat.reduceEqDiff,f0,f3,L0.len sl29,P0.len sl29,d7]
         rw[e]
      ·rw[decide_eq_false d4]
       have e:openErr people won m least=2:=openErr_two c1 fun k=>d4 k.2.2.1
       simp -dsimp (maxSteps:=1000000) (disch:=first|omega|(simp only[new_n,put_n];omega)|decide +kernel|(repeat first|rw[new_n]|rw[put_n])) only[wpS,wpT,Nat.reduceEqDiff]
       rw[e]
  ·have d2:((won.length:Int) != (people.length:Int))=true:=by simp;omega
   have e:openErr people won m least=2:=openErr_two c1 fun k=>c2 k.1
   simp -dsimp (maxSteps:=1000000) (disch:=first|omega|(simp only[new_n,put_n];omega)|decide +kernel|(repeat first|rw[new_n]|rw[put_n])) only[wpS,wpT,Nat.reduceEqDiff,W0.len sl29,P0.len sl29,d2]
   rw[e]
 ·rw[if_neg c1]
  have e:openErr people won m least=60:=by unfold openErr;rw[if_pos (by simpa using c1)]
  simp -dsimp (maxSteps:=1000000) (disch:=first|omega|(simp only[new_n,put_n];omega)|decide +kernel|(repeat first|rw[new_n]|rw[put_n])) only[wpS,wpT,Nat.reduceEqDiff]
  rw[e]
end Go.Id

/-! Contracts: wardmoteref08: certified, Certify. -/
namespace Go.Id
open Go
def pairOK (m:Int) (r y:Reg):Bool:=!(decide (0<y.1) && decide (aboveN m r.1 (r.2.1 - 1) y.1 y.2.1<0))
def oneOK (m:Int) (rs:List Reg) (r:Reg):Bool:=if r.1=0 then r.2.1 == r.2.2 else (r.2.1 == r.2.2 || rs.all (pairOK m r))
def refCert (m:Int) (rs:List Reg):Bool:=rs.all (oneOK m rs)
theorem regs_get {people won least:List Int} {i:Nat} (h:i<people.length):(regsV people won least)[i]?=some (people.getD i 0,won.getD i 0,(leastOr people.length least).getD i 0):=by
 unfold regsV regsOf
 rw[List.getElem?_map,List.getElem?_range h];rfl
theorem above_val (m p s q t:Int):(if aboveErr m p s q t=true then Value.tuple #[KI 0,KI 2] else .tuple #[KI (cmpRank m.toNat p.toNat s.toNat q.toNat t.toNat),KI 0])=.tuple #[KI (aboveN m p s q t),KI (if aboveErr m p s q t=true then 2 else 0)]:=by
 unfold aboveN
 by_cases c:aboveErr m p s q t=true
 ·rw[if_pos c,if_pos c,if_pos c]
 ·rw[if_neg c,if_neg c,if_neg c]
set_option maxHeartbeats 8000000 in
set_option maxRecDepth 20000 in
theorem certified8_ok {h:IH} {vp vw vl:Value} {m:Int} {people won least:List Int} (hp:SlOf h 1 vp people.length (people.map KI)) (hw:SlOf h 1 vw won.length (won.map KI)) (hl:SlOf h 1 vl least.length (least.map KI)) (ok:openErr people won m least=0) :
  WV Proofs.Tryz.prog (.func (.func 40) #[] #[]) [vp,vw,KI m,vl] h fun r h'=>Ext h h'∧r=.bool (refCert m (regsV people won least)):=by
 obtain⟨⟨k1,k2⟩,k3,k4,k5,k6,k7⟩:=openErr_ok ok
 obtain⟨rs,hrs⟩ : ∃rs,rs=regsV people won least:=⟨_,rfl⟩
 obtain⟨low,hlow⟩ : ∃l,l=leastOr people.length least:=⟨_,rfl⟩
 have rg : ∀i,i<people.length→rs[i]?=some (people.getD i 0,won.getD i 0,low.getD i 0):=fun i hi=>by rw[hrs,hlow];exact regs_get hi
 have rl:rs.length=people.length:=by rw[hrs];exact regsOf_len _ _ _ _
 rw[←hrs]
 rw[←hlow] at k6 k7
 refine enter (nt:=84) (rs:=[.tmp 8]) Proofs.Tryz.func40 rfl rfl rfl (by simp) ?_
 simp -dsimp (maxSteps:=1000000) (disch:=first|omega|(simp only[new_n,put_n];omega)|decide +kernel|(repeat first|rw[new_n]|rw[put_n])) only[wpS,Nat.reduceAdd]
 refine loop (fun mm fr hh => ∃i:Nat,i+mm=people.length∧Ext h hh∧(∀r∈rs.take i,oneOK m rs r=true)∧fget fr 0=some vp∧fget fr 1=some vw∧fget fr 2=some (KI m)∧fget fr 3=some vl∧fget fr 9=some (KN i)) people.length ⟨0,by omega,Ext.refl _,fun n hn=>by simp at hn,by simp,by simp,by simp,by simp,by simp⟩ ?_
 rintro mm fr hh ⟨i,him,E,hz,f0,f1,f2,f3,f9⟩
 have P0:=(hp.keep E.keep).now
 have W0:=(hw.keep E.keep).now
 by_cases c:i<people.length
 ·have iw:i<won.length:=by omega
  have lP:=P0.ld (P:=Proofs.Tryz.prog) (t:=3) (c:=i) (by simp<;>omega) ag3
  have lW:=W0.ld (P:=Proofs.Tryz.prog) (t:=3) (c:=i) (by simp<;>omega) ag3
  rw[map_get,at_getD c] at lP
  rw[map_get,at_getD iw] at lW
  have ri:=rg i c
  have hi9:=k7 i c
  obtain⟨p,hpp⟩ : ∃p,p=people.getD i 0:=⟨_,rfl⟩
  obtain⟨w,hww⟩ : ∃p,p=won.getD i 0:=⟨_,rfl⟩
  obtain⟨l,hll⟩ : ∃p,p=low.getD i 0:=⟨_,rfl⟩
  rw[←hpp,←hww,←hll] at ri
  rw[←hww,←hll] at hi9
  rw[←hpp] at lP
  rw[←hww] at lW
  have pb:0≤p∧p≤1000000000:=by rw[hpp];exact k2 _ (List.mem_of_getElem? (at_getD c))
  have wb:0≤w∧w≤1000:=by rw[hww];exact k4 _ (List.mem_of_getElem? (at_getD iw))
  have hm:=List.mem_of_getElem? ri
  have e2:IntKind.i64.wrap ((i:Int)+1)=((i+1:Nat):Int):=by rw[wrap_i64 (by omega)];omega
  have mini:=fun(g:IH) (x:Ext h g)=>minimum_ok (n:=people.length) (hl.keep x.keep) c (by rw[←hlow];exact k6) (by omega)
  rw[←hlow,←hll] at mini
  have no:oneOK m rs (p,w,l)=false→refCert m rs=false:=fun h=>by
   cases hc:refCert m rs
   ·rfl
   ·rw[List.all_eq_true.1 hc _ hm] at h;cases h
  have steadyW : ∀g:IH,Ext hh g→load Proofs.Tryz.prog g 3 (elemAddr vw i)=some (KI w):=fun g x=>by
   have:=((hw.keep E.keep).keep x.keep).now.ld (P:=Proofs.Tryz.prog) (t:=3) (c:=i) (by simp<;>omega) ag3
   rw[map_get,at_getD iw,←hww] at this
   exact this
  by_cases c1:p=0
  ·have d1:(p == 0)=true:=by simpa using c1
   simp -dsimp (maxSteps:=1000000) (disch:=first|omega|(simp only[new_n,put_n];omega)|decide +kernel|(repeat first|rw[new_n]|rw[put_n])) only[wpS,wpT,Nat.reduceEqDiff,f0,f9,P0.len sl29]
   refine drawn [(9,[15])] (by kernel_rfl) (by kernel_rfl) rfl ?_
   simp -dsimp (maxSteps:=1000000) (disch:=first|omega|(simp only[new_n,put_n];omega)|decide +kernel|(repeat first|rw[new_n]|rw[put_n])) only[wpS,wpT,Nat.reduceEqDiff,f0,f1,f3,f9,d1,P0.idx es29 c,W0.idx es29 iw,lP,lW]
   refine call (mini hh E) ?_
   rintro _ g0 ⟨hk,rfl⟩
   rw[hk]
   clear hk g0
   have st:=fun(ox:Operand)=>True
   by_cases c2:w=l
   ·have d2:(w != l)=false:=by simpa using c2
    simp -dsimp (maxSteps:=1000000) (disch:=first|omega|(simp only[new_n,put_n];omega)|decide +kernel|(repeat first|rw[new_n]|rw[put_n])) only[wpS,wpT,Nat.reduceEqDiff,d2]
    refine⟨wpSteady_one rfl rfl rfl rfl (steady_load (av:=elemAddr vw i) (v:=KI w) (by simp) lW lW),?_⟩
    simp -dsimp (maxSteps:=1000000) (disch:=first|omega|(simp only[new_n,put_n];omega)|decide +kernel|(repeat first|rw[new_n]|rw[put_n])) only[wpS,wpT,Nat.reduceEqDiff,Nat.reduceAdd]
    refine drawn [(9,[15])] (by kernel_rfl) (by kernel_rfl) rfl ?_
    simp -dsimp (maxSteps:=1000000) (disch:=first|omega|(simp only[new_n,put_n];omega)|decide +kernel|(repeat first|rw[new_n]|rw[put_n])) only[wpS,wpT,Nat.reduceEqDiff,f0,f9,d1,P0.idx es29 c,lP]
    refine⟨wpSteady_not rfl rfl rfl,?_⟩
    simp -dsimp (maxSteps:=1000000) (disch:=first|omega|(simp only[new_n,put_n];omega)|decide +kernel|(repeat first|rw[new_n]|rw[put_n])) only[wpS,wpT,Nat.reduceEqDiff,Nat.reduceAdd,f9,e2]
    refine⟨mm - 1,by omega,i+1,by omega,E,all_snoc ri hz (by unfold oneOK;rw[if_pos c1];simpa using c2),by simp[f0],by simp[f1],by simp[f2],by simp[f3],by simp⟩
   ·have d2:(w != l)=true:=by simpa using c2
    simp -dsimp (maxSteps:=1000000) (disch:=first|omega|(simp only[new_n,put_n];omega)|decide +kernel|(repeat first|rw[new_n]|rw[put_n])) only[wpS,wpT,Nat.reduceEqDiff,d2]
    refine⟨wpSteady_one rfl rfl rfl rfl (steady_load (av:=elemAddr vw i) (v:=KI w) (by simp) lW lW),?_⟩
    simp -dsimp (maxSteps:=1000000) (disch:=first|omega|(simp only[new_n,put_n];omega)|decide +kernel|(repeat first|rw[new_n]|rw[put_n])) only[wpS,wpT,Nat.reduceEqDiff,Nat.reduceAdd]
    refine⟨E,?_⟩
    rw[no (by unfold oneOK;rw[if_pos c1];simpa using c2)]
  ·have d1:(p == 0)=false:=by simpa using c1
   simp -dsimp (maxSteps:=1000000) (disch:=first|omega|(simp only[new_n,put_n];omega)|decide +kernel|(repeat first|rw[new_n]|rw[put_n])) only[wpS,wpT,Nat.reduceEqDiff,f0,f9,P0.len sl29]
   refine drawn [(9,[15])] (by kernel_rfl) (by kernel_rfl) rfl ?_
   simp -dsimp (maxSteps:=1000000) (disch:=first|omega|(simp only[new_n,put_n];omega)|decide +kernel|(repeat first|rw[new_n]|rw[put_n])) only[wpS,wpT,Nat.reduceEqDiff,f0,f9,d1,P0.idx es29 c,lP]
   refine⟨wpSteady_not rfl rfl rfl,?_⟩
   simp -dsimp (maxSteps:=1000000) (disch:=first|omega|(simp only[new_n,put_n];omega)|decide +kernel|(repeat first|rw[new_n]|rw[put_n])) only[wpS,wpT,Nat.reduceEqDiff,Nat.reduceAdd]
   refine drawn [(9,[15])] (by kernel_rfl) (by kernel_rfl) rfl ?_
   simp -dsimp (maxSteps:=1000000) (disch:=first|omega|(simp only[new_n,put_n];omega)|decide +kernel|(repeat first|rw[new_n]|rw[put_n])) only[wpS,wpT,Nat.reduceEqDiff,f0,f1,f3,f9,d1,P0.idx es29 c,W0.idx es29 iw,lP,lW]
   refine call (mini hh E) ?_
   rintro _ g0 ⟨hk,rfl⟩
   rw[hk]
   clear hk g0
   by_cases c2:w=l
   ·have d2:(w == l)=true:=by simpa using c2
    simp -dsimp (maxSteps:=1000000) (disch:=first|omega|(simp only[new_n,put_n];omega)|decide +kernel|(repeat first|rw[new_n]|rw[put_n])) only[wpS,wpT,Nat.reduceEqDiff,d2]
    refine⟨wpSteady_one rfl rfl rfl rfl (steady_load (av:=elemAddr vw i) (v:=KI w) (by simp) lW lW),?_⟩
    simp -dsimp (maxSteps:=1000000) (disch:=first|omega|(simp only[new_n,put_n];omega)|decide +kernel|(repeat first|rw[new_n]|rw[put_n])) only[wpS,wpT,Nat.reduceEqDiff,Nat.reduceAdd,f9,e2]
    refine⟨mm - 1,by omega,i+1,by omega,E,all_snoc ri hz (by unfold oneOK;rw[if_neg c1];simp[c2]),by simp[f0],by simp[f1],by simp[f2],by simp[f3],by simp⟩
   ·have d2:(w == l)=false:=by simpa using c2
    simp -dsimp (maxSteps:=1000000) (disch:=first|omega|(simp only[new_n,put_n];omega)|decide +kernel|(repeat first|rw[new_n]|rw[put_n])) only[wpS,wpT,Nat.reduceEqDiff,d2]
    refine⟨wpSteady_one rfl rfl rfl rfl (steady_load (av:=elemAddr vw i) (v:=KI w) (by simp) lW lW),?_⟩
    simp -dsimp (maxSteps:=1000000) (disch:=first|omega|(simp only[new_n,put_n];omega)|decide +kernel|(repeat first|rw[new_n]|rw[put_n])) only[wpS,wpT,Nat.reduceEqDiff,Nat.reduceAdd]
    refine loop (fun m2 fr g => ∃j:Nat,j+m2=people.length∧Ext hh g∧(∀y∈rs.take j,pairOK m (p,w,l) y=true)∧fget fr 0=some vp∧fget fr 1=some vw∧fget fr 2=some (KI m)∧fget fr 3=some vl∧fget fr 9=some (KN i)∧fget fr 10=some (KN j)) people.length ⟨0,by omega,Ext.refl _,fun n hn=>by simp at hn,by simp[f0],by simp[f1],by simp[f2],by simp[f3],by simp[f9],by simp⟩ ?_
    rintro m2 fr g ⟨j,hjm,Eg,hy,f0,f1,f2,f3,f9,f10⟩
    have P1:=(hp.keep (E.trans Eg).keep).now
    have W1:=(hw.keep (E.trans Eg).keep).now
    by_cases cj:j<people.length
    ·have jw:j<won.length:=by omega
     have lPj:=P1.ld (P:=Proofs.Tryz.prog) (t:=3) (c:=j) (by simp<;>omega) ag3
     have lWj:=W1.ld (P:=Proofs.Tryz.prog) (t:=3) (c:=j) (by simp<;>omega) ag3
     have lPi:=P1.ld (P:=Proofs.Tryz.prog) (t:=3) (c:=i) (by simp<;>omega) ag3
     rw[map_get,at_getD cj] at lPj
     rw[map_get,at_getD jw] at lWj
     rw[map_get,at_getD c,←hpp] at lPi
     have lWi:=steadyW g Eg
     have rj:=rg j cj
     have e3:IntKind.i64.wrap ((j:Int)+1)=((j+1:Nat):Int):=by rw[wrap_i64 (by omega)];omega
     have e4:IntKind.i64.wrap (w - 1)=w - 1:=by rw[wrap_i64 (by omega)]
     by_cases c3:0<people.getD j 0
     ·simp -dsimp (maxSteps:=1000000) (disch:=first|omega|(simp only[new_n,put_n];omega)|decide +kernel|(repeat first|rw[new_n]|rw[put_n])) only[wpS,wpT,Nat.reduceEqDiff,f0,f1,f2,f9,f10,P1.len sl29,P1.idx es29 cj,P1.idx es29 c,W1.idx es29 iw,W1.idx es29 jw,lPj,lPi,lWi,lWj,e4]
      refine call (above7_ok m p (w - 1) (people.getD j 0) (won.getD j 0)) ?_
      rintro _ g1 ⟨X1,rfl⟩
      rw[above_val]
      simp -dsimp (maxSteps:=1000000) (disch:=first|omega|(simp only[new_n,put_n];omega)|decide +kernel|(repeat first|rw[new_n]|rw[put_n])) only[wpS,Nat.reduceEqDiff]
      by_cases c4:aboveN m p (w - 1) (people.getD j 0) (won.getD j 0)<0
      ·simp -dsimp (maxSteps:=1000000) (disch:=first|omega|(simp only[new_n,put_n];omega)|decide +kernel|(repeat first|rw[new_n]|rw[put_n])) only[wpS,wpT,Nat.reduceEqDiff]
       refine⟨E.trans (Eg.trans X1),?_⟩
       rw[no ?_]
       unfold oneOK
       rw[if_neg c1,d2,Bool.false_or,Bool.eq_false_iff]
       intro ha
       have h9:=List.all_eq_true.1 ha _ (List.mem_of_getElem? rj)
       unfold pairOK at h9
       rw[decide_eq_true c3,decide_eq_true c4] at h9
       cases h9
      ·simp -dsimp (maxSteps:=1000000) (disch:=first|omega|(simp only[new_n,put_n];omega)|decide +kernel|(repeat first|rw[new_n]|rw[put_n])) only[wpS,wpT,Nat.reduceEqDiff,f10,e3]
       refine⟨m2 - 1,by omega,j+1,by omega,Eg.trans X1,all_snoc rj hy (by unfold pairOK;rw[decide_eq_false c4];simp),by simp[f0],by simp[f1],by simp[f2],by simp[f3],by simp[f9],by simp⟩
     ·simp -dsimp (maxSteps:=1000000) (disch:=first|omega|(simp only[new_n,put_n];omega)|decide +kernel|(repeat first|rw[new_n]|rw[put_n])) only[wpS,wpT,Nat.reduceEqDiff,f0,f10,P1.len sl29,P1.idx es29 cj,lPj,e3]
      refine⟨m2 - 1,by omega,j+1,by omega,Eg,all_snoc rj hy (by unfold pairOK;rw[decide_eq_false c3];simp),by simp[f0],by simp[f1],by simp[f2],by simp[f3],by simp[f9],by simp⟩
    ·have rt:rs.take j=rs:=List.take_of_length_le (by omega)
     rw[rt] at hy
     simp -dsimp (maxSteps:=1000000) (disch:=first|omega|(simp only[new_n,put_n];omega)|decide +kernel|(repeat first|rw[new_n]|rw[put_n])) only[wpS,wpT,Nat.reduceEqDiff,f0,f9,f10,P1.len sl29,e2]
     refine⟨mm - 1,by omega,i+1,by omega,E.trans Eg,all_snoc ri hz (by unfold oneOK;rw[if_neg c1,List.all_eq_true.2 hy];simp),by simp[f0],by simp[f1],by simp[f2],by simp[f3],by simp⟩
 ·have rt:rs.take i=rs:=List.take_of_length_le (by omega)
  rw[rt] at hz
  simp -dsimp (maxSteps:=1000000) (disch:=first|omega|(simp only[new_n,put_n];omega)|decide +kernel|(repeat first|rw[new_n]|rw[put_n])) only[wpS,wpT,Nat.reduceEqDiff,f0,f9,P0.len sl29]
  refine⟨E,?_⟩
  rw[show refCert m rs=true from List.all_eq_true.2 hz]
end Go.Id

/-! Contracts: wardmoteref08: Certify. Both ways to certify are the same. -/
namespace Go.Id
open Go
def keyS (m:Int) (x:Seat):Bool×Rat:=(postZ m.toNat x.2.toNat,rankX m.toNat x.1.1.toNat x.2.toNat)
def ltK (a b:Bool×Rat):Prop:=(a.1=false∧b.1=true)∨(a.1=b.1∧a.2<b.2)
theorem cmpR_lt (b1:Bool) (x:Rat) (b2:Bool) (y:Rat):cmpR b1 x b2 y<0↔ltK (b1,x) (b2,y):=by
 have hc:cmpQ x y<0↔x<y:=by
  unfold cmpQ
  split
  ·rename_i h;exact⟨fun _=>h,fun _=>by omega⟩
  ·rename_i h
   split
   ·exact⟨fun h=>absurd h (by omega),fun h2=>absurd h2 h⟩
   ·exact⟨fun h=>absurd h (by omega),fun h2=>absurd h2 h⟩
 unfold cmpR ltK
 cases b1<;>cases b2<;>simp[hc]
def SeatOK (x:Seat):Prop:=(1≤x.1.1∧x.1.1≤1000000000)∧0≤x.2∧x.2≤1000
theorem below_key {m:Int} (hm:11≤m∧m≤15) {a b:Seat} (ha:SeatOK a) (hb:SeatOK b):stBelow m a b=true↔ltK (keyS m a) (keyS m b):=by
 unfold stBelow aboveN
 rw[if_neg (by rw[aboveErr_eq,decide_eq_true ⟨hm,ha.2,hb.2,ha.1,hb.1⟩];simp),decide_eq_true_eq]
 exact cmpR_lt _ _ _ _
theorem ltK_trans {a b c:Bool×Rat} (h1:ltK a b) (h2:ltK b c):ltK a c:=by
 obtain⟨a1,a2⟩:=a
 obtain⟨b1,b2⟩:=b
 obtain⟨c1,c2⟩:=c
 unfold ltK at *
 cases a1<;>cases b1<;>cases c1<;>simp_all<;>grind
theorem ltK_neg {a b c:Bool×Rat} (h1 : ¬ltK a b) (h2 : ¬ltK b c) : ¬ltK a c:=by
 obtain⟨a1,a2⟩:=a
 obtain⟨b1,b2⟩:=b
 obtain⟨c1,c2⟩:=c
 unfold ltK at *
 cases a1<;>cases b1<;>cases c1<;>simp_all<;>grind
theorem leastBy_some {lt:Seat→Seat→Bool} {L:List Seat} (tr : ∀a∈L,∀b∈L,∀c∈L,lt a b=true→lt b c=true→lt a c=true) (ng : ∀a∈L,∀b∈L,∀c∈L,lt a b=false→lt b c=false→lt a c=false) (ir : ∀a∈L,lt a a=false) :
  ∀(l:List Seat) (o:Seat),(∀x∈l,x∈L)→o∈L → ∃y,leastBy lt (some o) l=some y∧y∈L∧(y=o∨y∈l)∧lt o y=false ∧ ∀x∈l,lt x y=false
 | [],o,_,ho=>⟨o,rfl,ho,.inl rfl,ir o ho,fun x hx=>by cases hx⟩
 | a :: l,o,hl,ho=>by
  have ha:=hl a List.mem_cons_self
  have hl' : ∀x∈l,x∈L:=fun x hx=>hl x (List.mem_cons_of_mem _ hx)
  by_cases c:lt a o=true
  ·obtain⟨y,h1,h2,h3,h4,h5⟩:=leastBy_some tr ng ir l a hl' ha
   refine⟨y,by rw[leastBy];show leastBy lt (if lt a o=true then some a else some o) l=_;rw[if_pos c];exact h1,h2,.inr (by rcases h3 with rfl|h3;exact List.mem_cons_self;exact List.mem_cons_of_mem _ h3),?_,fun x hx=>?_⟩
   ·cases h:lt o y
    ·rfl
    ·rw[tr a ha o ho y h2 c h] at h4;cases h4
   ·rcases List.mem_cons.1 hx with rfl|hx
    ·exact h4
    ·exact h5 x hx
  ·obtain⟨y,h1,h2,h3,h4,h5⟩:=leastBy_some tr ng ir l o hl' ho
   refine⟨y,by rw[leastBy];show leastBy lt (if lt a o=true then some a else some o) l=_;rw[if_neg c];exact h1,h2,(by rcases h3 with rfl|h3;exact .inl rfl;exact .inr (List.mem_cons_of_mem _ h3)),h4,fun x hx=>?_⟩
   rcases List.mem_cons.1 hx with rfl|hx
   ·exact ng x ha o ho y h2 (by simpa using c) h4
   ·exact h5 x hx
theorem lastS_mem : ∀{rs:List Reg} {x:Seat},x∈lastS rs ↔ ∃r∈rs,(0<r.1∧r.2.2<r.2.1)∧x=(r,r.2.1 - 1)
 | [],x=>by simp[lastS]
 | r :: l,x=>by
  unfold lastS
  have ih:=lastS_mem (rs:=l) (x:=x)
  split
  ·rename_i h
   rw[List.mem_cons,ih]
   constructor
   ·rintro(rfl|⟨y,h1,h2⟩)
    ·exact⟨r,List.mem_cons_self,h,rfl⟩
    ·exact⟨y,List.mem_cons_of_mem _ h1,h2⟩
   ·rintro⟨y,h1,h2,rfl⟩
    rcases List.mem_cons.1 h1 with rfl|h1
    ·exact .inl rfl
    ·exact .inr ⟨y,h1,h2,rfl⟩
  ·rename_i h
   rw[ih]
   constructor
   ·rintro⟨y,h1,h2⟩
    exact⟨y,List.mem_cons_of_mem _ h1,h2⟩
   ·rintro⟨y,h1,h2,rfl⟩
    rcases List.mem_cons.1 h1 with rfl|h1
    ·exact absurd h2 h
    ·exact⟨y,h1,h2,rfl⟩
theorem nextS_mem : ∀{rs:List Reg} {x:Seat},x∈nextS rs ↔ ∃r∈rs,0<r.1∧x=(r,r.2.1)
 | [],x=>by simp[nextS]
 | r :: l,x=>by
  unfold nextS
  have ih:=nextS_mem (rs:=l) (x:=x)
  split
  ·rename_i h
   rw[List.mem_cons,ih]
   constructor
   ·rintro(rfl|⟨y,h1,h2⟩)
    ·exact⟨r,List.mem_cons_self,h,rfl⟩
    ·exact⟨y,List.mem_cons_of_mem _ h1,h2⟩
   ·rintro⟨y,h1,h2,rfl⟩
    rcases List.mem_cons.1 h1 with rfl|h1
    ·exact .inl rfl
    ·exact .inr ⟨y,h1,h2,rfl⟩
  ·rename_i h
   rw[ih]
   constructor
   ·rintro⟨y,h1,h2⟩
    exact⟨y,List.mem_cons_of_mem _ h1,h2⟩
   ·rintro⟨y,h1,h2,rfl⟩
    rcases List.mem_cons.1 h1 with rfl|h1
    ·exact absurd h2 h
    ·exact⟨y,h1,h2,rfl⟩
theorem last_seat {rs:List Reg} (R:RegsOK rs) {x:Seat} (h:x∈lastS rs):SeatOK x:=by
 obtain⟨r,h1,h2,rfl⟩:=lastS_mem.1 h
 have:=R.b r h1
 exact⟨⟨by dsimp only;omega,by dsimp only;omega⟩,by dsimp only;omega,by dsimp only;omega⟩
theorem next_seat {rs:List Reg} (R:RegsOK rs) {x:Seat} (h:x∈nextS rs):SeatOK x:=by
 obtain⟨r,h1,h2,rfl⟩:=nextS_mem.1 h
 have:=R.b r h1
 exact⟨⟨by dsimp only;omega,by dsimp only;omega⟩,by dsimp only;omega,by dsimp only;omega⟩
theorem certB_iff {m:Int} {rs:List Reg} (R:RegsOK rs) (hm:11≤m∧m≤15):certB m rs=true↔(∀r∈rs,0<r.1∨r.2.1=r.2.2) ∧ ∀x∈lastS rs,∀y∈nextS rs,¬ltK (keyS m x) (keyS m y):=by
 have st:settled rs=true ↔ ∀r∈rs,0<r.1∨r.2.1=r.2.2:=by
  unfold settled
  rw[List.all_eq_true]
  simp
 unfold certB
 rw[Bool.and_eq_true,st]
 refine and_congr_right fun _=>?_
 cases hl:lastS rs with
 | nil=>simp[leastBy]
 | cons a l =>
  obtain⟨r0,hr0,h0,rfl⟩:=lastS_mem.1 (show a∈lastS rs by rw[hl];exact List.mem_cons_self)
  obtain⟨b,l2,hn⟩ : ∃b l2,nextS rs=b :: l2:=by
   cases hn:nextS rs with
   | nil=>have:=nextS_mem.2 ⟨r0,hr0,h0.1,rfl⟩;rw[hn] at this;cases this
   | cons b l2=>exact⟨b,l2,rfl⟩
  have sl : ∀x∈(r0,r0.2.1 - 1) :: l,SeatOK x:=fun x hx=>last_seat R (by rw[hl];exact hx)
  have sn : ∀x∈b :: l2,SeatOK x:=fun x hx=>next_seat R (by rw[hn];exact hx)
  have k : ∀{x y:Seat},SeatOK x→SeatOK y→(stBelow m x y=true↔ltK (keyS m x) (keyS m y)):=fun hx hy=>below_key hm hx hy
  have kf : ∀{x y:Seat},SeatOK x→SeatOK y→(stBelow m x y=false ↔ ¬ltK (keyS m x) (keyS m y)):=fun hx hy=>by rw[←k hx hy];simp
  have irr : ∀z,¬ltK z z:=fun z=>by unfold ltK;cases z.1<;>simp<;>grind
  obtain⟨lo,e1,m1,_,f1,f2⟩:=leastBy_some (lt:=stBelow m) (L:=(r0,r0.2.1 - 1) :: l) (fun a ha b hb c hc h1 h2=>(k (sl a ha) (sl c hc)).2 (ltK_trans ((k (sl a ha) (sl b hb)).1 h1) ((k (sl b hb) (sl c hc)).1 h2)))
   (fun a ha b hb c hc h1 h2=>(kf (sl a ha) (sl c hc)).2 (ltK_neg ((kf (sl a ha) (sl b hb)).1 h1) ((kf (sl b hb) (sl c hc)).1 h2))) (fun a ha=>(kf (sl a ha) (sl a ha)).2 (irr _)) l _ (fun x hx=>List.mem_cons_of_mem _ hx) List.mem_cons_self
  obtain⟨hi,e2,m2,_,g1,g2⟩:=leastBy_some (lt:=fun a b=>stBelow m b a) (L:=b :: l2) (fun a ha b hb c hc h1 h2=>(k (sn c hc) (sn a ha)).2 (ltK_trans ((k (sn c hc) (sn b hb)).1 h2) ((k (sn b hb) (sn a ha)).1 h1)))
   (fun a ha b hb c hc h1 h2=>(kf (sn c hc) (sn a ha)).2 (ltK_neg ((kf (sn c hc) (sn b hb)).1 h2) ((kf (sn b hb) (sn a ha)).1 h1))) (fun a ha=>(kf (sn a ha) (sn a ha)).2 (irr _)) l2 _ (fun x hx=>List.mem_cons_of_mem _ hx) List.mem_cons_self
  rw[hn]
  have e1':leastBy (stBelow m) none ((r0,r0.2.1 - 1) :: l)=some lo:=e1
  have e2':leastBy (fun a b=>stBelow m b a) none (b :: l2)=some hi:=e2
  rw[e1',e2']
  show(!(stBelow m lo hi))=true↔_
  rw[Bool.not_eq_true',kf (sl lo m1) (sn hi m2)]
  constructor
  ·intro h x hx y hy hxy
   have hlo : ¬ltK (keyS m x) (keyS m lo):=by
    rcases List.mem_cons.1 hx with rfl|hx2
    ·exact(kf (sl _ hx) (sl lo m1)).1 f1
    ·exact(kf (sl _ hx) (sl lo m1)).1 (f2 x hx2)
   have hhi : ¬ltK (keyS m hi) (keyS m y):=by
    rcases List.mem_cons.1 hy with rfl|hy2
    ·exact(kf (sn hi m2) (sn _ hy)).1 g1
    ·exact(kf (sn hi m2) (sn _ hy)).1 (g2 y hy2)
   exact ltK_neg (ltK_neg hlo h) hhi hxy
  ·intro h
   exact h lo m1 hi m2
theorem refCert_iff {m:Int} {rs:List Reg} (R:RegsOK rs) (hm:11≤m∧m≤15):refCert m rs=true↔(∀r∈rs,0<r.1∨r.2.1=r.2.2) ∧ ∀x∈lastS rs,∀y∈nextS rs,¬ltK (keyS m x) (keyS m y):=by
 have k : ∀{x y:Seat},SeatOK x→SeatOK y→(stBelow m x y=true↔ltK (keyS m x) (keyS m y)):=fun hx hy=>below_key hm hx hy
 unfold refCert
 rw[List.all_eq_true]
 constructor
 ·intro h
  refine⟨fun r hr=>?_,fun x hx y hy=>?_⟩
  ·have h1:=h r hr
   have h2:=R.b r hr
   unfold oneOK at h1
   split at h1
   ·exact .inr (by simpa using h1)
   ·exact .inl (by omega)
  ·have sx:=last_seat R hx
   have sy:=next_seat R hy
   obtain⟨r,hr,hc,rfl⟩:=lastS_mem.1 hx
   obtain⟨y,hyr,hd,rfl⟩:=nextS_mem.1 hy
   have h1:=h r hr
   unfold oneOK at h1
   rw[if_neg (by omega),Bool.or_eq_true] at h1
   rcases h1 with h1|h1
   ·simp at h1;omega
   ·have h2:=List.all_eq_true.1 h1 y hyr
    unfold pairOK at h2
    rw[decide_eq_true hd,Bool.true_and,Bool.not_eq_true'] at h2
    rw[←k sx sy]
    unfold stBelow
    rw[h2];simp
 ·rintro⟨h1,h2⟩ r hr
  unfold oneOK
  have hb:=R.b r hr
  split
  ·rename_i c
   rcases h1 r hr with h|h
   ·omega
   ·simpa using h
  ·rename_i c
   by_cases e:r.2.1=r.2.2
   ·simp[e]
   ·have hx:((r,r.2.1 - 1):Seat)∈lastS rs:=lastS_mem.2 ⟨r,hr,⟨by omega,by omega⟩,rfl⟩
    rw[Bool.or_eq_true]
    refine .inr (List.all_eq_true.2 fun y hy=>?_)
    unfold pairOK
    by_cases d:0<y.1
    ·have hyn:((y,y.2.1):Seat)∈nextS rs:=nextS_mem.2 ⟨y,hy,d,rfl⟩
     have h3:=h2 _ hx _ hyn
     rw[←k (last_seat R hx) (next_seat R hyn)] at h3
     unfold stBelow at h3
     rw[decide_eq_true d,Bool.true_and,Bool.not_eq_true']
     simpa using h3
    ·rw[decide_eq_false d];rfl
theorem refCert_eq {m:Int} {rs:List Reg} (R:RegsOK rs) (hm:11≤m∧m≤15):refCert m rs=certB m rs:=by
 rw[Bool.eq_iff_iff,refCert_iff R hm,certB_iff R hm]
end Go.Id

/-! Contracts: wardmoteref08: Certify, Find. -/
namespace Go.Id
open Go
set_option maxHeartbeats 2000000 in
theorem certify8_ok {h:IH} {vp vw vl:Value} {m:Int} {people won least:List Int} (hp:SlOf h 1 vp people.length (people.map KI)) (hw:SlOf h 1 vw won.length (won.map KI)) (hl:SlOf h 1 vl least.length (least.map KI)) (lp:people.length≤1000000) (lw:won.length≤1000000) (ll:least.length≤1000000) :
  WV Proofs.Tryz.prog (.func (.func 18) #[] #[]) [vp,vw,KI m,vl] h fun r h'=>Ext h h'∧r=.tuple #[.bool (certifyB people won m least),KI (openErr people won m least)]:=by
 refine enter (nt:=24) (rs:=[.tmp 8,.tmp 9]) Proofs.Tryz.func18 rfl rfl rfl (by simp) ?_
 simp -dsimp (disch:=omega) only[wpS,Nat.reduceEqDiff,Nat.reduceAdd]
 refine call (asked8_ok hp hw hl lp lw ll) ?_
 rintro _ k0 ⟨hk,rfl⟩
 rw[hk]
 clear hk k0
 by_cases c:openErr people won m least=0
 ·rw[c]
  simp -dsimp (disch:=omega) only[wpS,wpT,Nat.reduceEqDiff]
  refine call (certified8_ok hp hw hl c) ?_
  rintro _ h1 ⟨X1,rfl⟩
  simp -dsimp (disch:=omega) only[wpS,Nat.reduceEqDiff]
  refine⟨X1,?_⟩
  unfold certifyB
  rw[decide_eq_true c,refCert_eq (regs_ok c) (openErr_ok c).2.2.2.1];rfl
 ·have d:((openErr people won m least) != 0)=true:=by simpa using c
  simp -dsimp (disch:=omega) only[wpS,Nat.reduceEqDiff,d]
  refine⟨Ext.refl _,?_⟩
  unfold certifyB
  rw[decide_eq_false c];rfl
theorem zero8_ok {h:IH}:WV Proofs.Tryz.prog (.func (.func 41) #[] #[]) [] h fun r h'=>Ext h h'∧r=shV (shq 0).1 (shq 0).2:=by
 refine enter (nt:=8) (rs:=[.cell 0 47]) Proofs.Tryz.func41 rfl rfl rfl (by simp) ?_
 simp -dsimp (disch:=omega) only[wpS,zc47]
 obtain⟨H0,hH0⟩ : ∃H,H=h.new (.cells Z16 0 none):=⟨_,rfl⟩
 have E0:Ext h H0:=by rw[hH0];exact(Ext.refl h).new _
 have g0:H0.ext.get h.n=some (.cells Z16 0 none):=by rw[hH0];simp (disch:=first|omega|(simp only[new_n,put_n];omega)|(repeat first|rw[new_n]|rw[put_n])) only[get_new_same]
 have n0:H0.n=h.n+1:=by rw[hH0];simp
 rw[←hH0]
 clear hH0
 refine call (ref02Of_ok 0 1 ⟨by omega,by omega⟩ ⟨by omega,by omega⟩ (by omega)) ?_
 rintro _ h1 ⟨X1,rfl⟩
 have m1:=X1.n
 rw[Rat.zero_divInt,shareV_shq]
 simp -dsimp (disch:=omega) only[wpS,wpT,Nat.reduceEqDiff,Nat.reduceLeDiff,Nat.reduceAdd,zc47,st47,ld47,shV_cells,shC_len,shC_all,sh_sp3,sh_take,X1.kept (by omega) g0]
 exact⟨((E0.trans X1).new _).put (by omega) _ |>.put (by omega) _,rfl⟩
theorem rank_val (m:Int) (x:Seat):(if rankErr m x.1.1 x.2=0 then Value.tuple #[rankW m.toNat x.1.1.toNat x.2.toNat,KI 0] else .tuple #[shV 0 0,KI (rankErr m x.1.1 x.2)])=.tuple #[rkV2 m x,KI (rkE m x)]:=by
 unfold rkV2
 by_cases c:rkE m x=0
 ·rw[if_pos c,if_pos c,c];rfl
 ·rw[if_neg c,if_neg c]
theorem nextS_step {rs:List Reg} {i:Nat} {r:Reg} (h:rs[i]?=some r):nextS (rs.take (i+1))=nextS (rs.take i) ++ (if 0<r.1 then [(r,r.2.1)] else []):=by
 rw[List.take_add_one,h,nextS_app]
 show _ ++ nextS [r]=_
 unfold nextS nextS;rfl
theorem lastS_step {rs:List Reg} {i:Nat} {r:Reg} (h:rs[i]?=some r):lastS (rs.take (i+1))=lastS (rs.take i) ++ (if 0<r.1∧r.2.2<r.2.1 then [(r,r.2.1 - 1)] else []):=by
 rw[List.take_add_one,h,lastS_app]
 show _ ++ lastS [r]=_
 unfold lastS lastS;rfl
def stN (m:Int) (rs:List Reg) (i:Nat):Rat×Bool:=(nextS (rs.take i)).foldl (nextF m) (0,false)
def stL (m:Int) (rs:List Reg) (i:Nat):Rat×Bool:=(lastS (rs.take i)).foldl (lastF m) (0,true)
theorem stN_qw (m:Int) (rs:List Reg) (i:Nat):QW (stN m rs i).1:=brN_qw m (rs.take i)
theorem stL_qw (m:Int) (rs:List Reg) (i:Nat):QW (stL m rs i).1:=brL_qw m (rs.take i)
theorem stN_step {m:Int} {rs:List Reg} {i:Nat} {r:Reg} (h:rs[i]?=some r):stN m rs (i+1)=if 0<r.1 then nextF m (stN m rs i) (r,r.2.1) else stN m rs i:=by
 unfold stN
 rw[nextS_step h,List.foldl_append]
 split<;>rfl
theorem stL_step {m:Int} {rs:List Reg} {i:Nat} {r:Reg} (h:rs[i]?=some r):stL m rs (i+1)=if 0<r.1∧r.2.2<r.2.1 then lastF m (stL m rs i) (r,r.2.1 - 1) else stL m rs i:=by
 unfold stL
 rw[lastS_step h,List.foldl_append]
 split<;>rfl
def rkP (m:Int) (x:Seat):Nat×Nat:=if rkE m x=0 then shq (rkQ m x) else (0,0)
theorem rkV2_form (m:Int) (x:Seat):rkV2 m x=shV (rkP m x).1 (rkP m x).2:=by
 unfold rkV2 rkP
 split<;>rfl
theorem max_shq {x y:Rat} (hx:QW x) (hy:QW y):(if rOf (shq x)<rOf (shq y) then shV (shq y).1 (shq y).2 else shV (shq x).1 (shq x).2)=shV (shq (qmax x y)).1 (shq (qmax x y)).2:=by
 rw[(shq_rOf hx).1,(shq_rOf hy).1]
 unfold qmax
 by_cases c:x<y
 ·rw[if_pos c,if_pos (by grind)]
 ·rw[if_neg c]
  by_cases d:x≤y
  ·rw[if_pos d,show x=y from by grind]
  ·rw[if_neg d]
theorem min_shq {x y:Rat} (hx:QW x) (hy:QW y):(if rOf (shq y)<rOf (shq x) then shV (shq y).1 (shq y).2 else shV (shq x).1 (shq x).2)=shV (shq (if y<x then y else x)).1 (shq (if y<x then y else x)).2:=by
 rw[(shq_rOf hx).1,(shq_rOf hy).1]
 split<;>rfl
set_option maxHeartbeats 16000000 in
set_option maxRecDepth 20000 in
theorem find8_ok {h:IH} {vp vw vl:Value} {m:Int} {people won least:List Int} (hp:SlOf h 1 vp people.length (people.map KI)) (hw:SlOf h 1 vw won.length (won.map KI)) (hl:SlOf h 1 vl least.length (least.map KI)) (lp:people.length≤1000000) (lw:won.length≤1000000) (ll:least.length≤1000000) :
  WV Proofs.Tryz.prog (.func (.func 16) #[] #[]) [vp,vw,KI m,vl] h fun r h'=>Ext h h'∧r=.tuple #[findV people won m least,KI (findE people won m least)]:=by
 refine enter (nt:=114) (rs:=[.cell 8 49,.tmp 9]) Proofs.Tryz.func16 rfl rfl rfl (by simp) ?_
 simp -dsimp (maxSteps:=1000000) (disch:=first|omega|(simp only[new_n,put_n];omega)|decide +kernel|(repeat first|rw[new_n]|rw[put_n])) only[wpS,Nat.reduceEqDiff,Nat.reduceAdd,zc49]
 obtain⟨H0,hH0⟩ : ∃H,H=h.new (.cells Z35 0 none):=⟨_,rfl⟩
 have E0:Ext h H0:=by rw[hH0];exact(Ext.refl h).new _
 have g0:H0.ext.get h.n=some (.cells Z35 0 none):=by rw[hH0];simp (disch:=first|omega|(simp only[new_n,put_n];omega)|(repeat first|rw[new_n]|rw[put_n])) only[get_new_same]
 have n0:H0.n=h.n+1:=by rw[hH0];simp
 rw[←hH0]
 clear hH0
 have hp0:=hp.keep E0.keep
 have hw0:=hw.keep E0.keep
 have hl0:=hl.keep E0.keep
 refine call (asked8_ok hp0 hw0 hl0 lp lw ll) ?_
 rintro _ k0 ⟨hk,rfl⟩
 rw[hk]
 clear hk k0
 by_cases c:openErr people won m least=0
 ·rw[c]
  simp -dsimp (maxSteps:=1000000) (disch:=first|omega|(simp only[new_n,put_n];omega)|decide +kernel|(repeat first|rw[new_n]|rw[put_n])) only[wpS,wpT,Nat.reduceEqDiff]
  refine call (certified8_ok hp0 hw0 hl0 c) ?_
  rintro _ h1 ⟨X1,rfl⟩
  have m1:=X1.n
  have R:=regs_ok c
  obtain⟨⟨k1,k2⟩,k3,k4,k5,k6,k7⟩:=openErr_ok c
  rw[refCert_eq R k5]
  obtain⟨rs,hrs⟩ : ∃rs,rs=regsV people won least:=⟨_,rfl⟩
  obtain⟨low,hlow⟩ : ∃l,l=leastOr people.length least:=⟨_,rfl⟩
  have rg : ∀i,i<people.length→rs[i]?=some (people.getD i 0,won.getD i 0,low.getD i 0):=fun i hi=>by rw[hrs,hlow];exact regs_get hi
  have rl:rs.length=people.length:=by rw[hrs];exact regsOf_len _ _ _ _
  cases d:certB m (regsV people won least)
  ·have e:findE people won m least=9:=by unfold findE;rw[c,d];rfl
   simp -dsimp (maxSteps:=1000000) (disch:=first|omega|(simp only[new_n,put_n];omega)|decide +kernel|(repeat first|rw[new_n]|rw[put_n])) only[wpS,wpT,Nat.reduceEqDiff,Nat.reduceLeDiff,Nat.reduceAdd,bv49,st49,ld49,X1.kept (by omega) g0]
   refine⟨(E0.trans X1).put (by omega) _,?_⟩
   unfold findV
   rw[e,if_neg (by decide),←br_lit];rfl
  ·have e:findE people won m least=0:=by unfold findE;rw[c,d];rfl
   simp -dsimp (maxSteps:=1000000) (disch:=first|omega|(simp only[new_n,put_n];omega)|decide +kernel|(repeat first|rw[new_n]|rw[put_n])) only[wpS,wpT,Nat.reduceEqDiff]
   refine call zero8_ok ?_
   rintro _ h2 ⟨X2,rfl⟩
   simp -dsimp (maxSteps:=1000000) (disch:=first|omega|(simp only[new_n,put_n];omega)|decide +kernel|(repeat first|rw[new_n]|rw[put_n])) only[wpS]
   refine call zero8_ok ?_
   rintro _ h3 ⟨X3,rfl⟩
   have m2:=X2.n
   have m3:=X3.n
   simp -dsimp (maxSteps:=1000000) (disch:=first|omega|(simp only[new_n,put_n];omega)|decide +kernel|(repeat first|rw[new_n]|rw[put_n])) only[wpS,wpT,Nat.reduceEqDiff,Nat.reduceLeDiff,Nat.reduceAdd,zc49,bv49,st49,pl49_0,pl49_1,pl49_2,pl49_4,shV_cells,shC_len,br_s0,brC_shi,brC_s32,brC_s34,brC_len,brC_all,brC_all0]
   obtain⟨H4,hH4,n4,E4,g4⟩:=boxed h3 Z35 (brC (shq 0) (shq 0) true false (m == 13))
   rw[show brC ((shq 0).1,(shq 0).2) ((shq 0).1,(shq 0).2) true false (m == 13)=brC (shq 0) (shq 0) true false (m == 13) from rfl]
   rw[←hH4]
   clear hH4
   have Y4:=X1.trans (X2.trans (X3.trans E4))
   rw[←hlow] at k6 k7
   refine loop (fun mm fr hh => ∃i:Nat,i+mm=people.length∧Ext h3 hh∧h3.n<hh.n∧hh.ext.get h3.n=some (.cells (brC (shq (stN m rs i).1) (shq (stL m rs i).1) (stL m rs i).2 (stN m rs i).2 (m == 13)) 0 none)∧fget fr 0=some vp∧fget fr 1=some vw∧fget fr 2=some (KI m)∧fget fr 3=some vl∧fget fr 8=some (ptr (2*h.n) 0)∧fget fr 11=some (ptr (2*h3.n) 0)∧fget fr 12=some (KN i)) people.length ⟨0,by omega,E4,by omega,g4,by simp,by simp,by simp,by simp,by simp,by simp,by simp⟩ ?_
   rintro mm fr hh ⟨i,him,E,ln,gb,f0,f1,f2,f3,f8,f11,f12⟩
   have EE:Ext H0 hh:=X1.trans (X2.trans (X3.trans E))
   have P0:=(hp0.keep EE.keep).now
   have W0:=(hw0.keep EE.keep).now
   by_cases ci:i<people.length
   ·have iw:i<won.length:=by omega
    have lP:=P0.ld (P:=Proofs.Tryz.prog) (t:=3) (c:=i) (by simp<;>omega) ag3
    have lW:=W0.ld (P:=Proofs.Tryz.prog) (t:=3) (c:=i) (by simp<;>omega) ag3
    rw[map_get,at_getD ci] at lP
    rw[map_get,at_getD iw] at lW
    have ri:=rg i ci
    have hi9:=k7 i ci
    obtain⟨p,hpp⟩ : ∃p,p=people.getD i 0:=⟨_,rfl⟩
    obtain⟨w,hww⟩ : ∃p,p=won.getD i 0:=⟨_,rfl⟩
    obtain⟨l,hll⟩ : ∃p,p=low.getD i 0:=⟨_,rfl⟩
    rw[←hpp,←hww,←hll] at ri
    rw[←hww,←hll] at hi9
    rw[←hpp] at lP
    rw[←hww] at lW
    have pb:0≤p∧p≤1000000000:=by rw[hpp];exact k2 _ (List.mem_of_getElem? (at_getD ci))
    have wb:0≤w∧w≤1000:=by rw[hww];exact k4 _ (List.mem_of_getElem? (at_getD iw))
    have e2:IntKind.i64.wrap ((i:Int)+1)=((i+1:Nat):Int):=by rw[wrap_i64 (by omega)];omega
    have sN:=stN_step (m:=m) ri
    have sL:=stL_step (m:=m) ri
    by_cases c1:p=0
    ·have d1:(p == 0)=true:=by simpa using c1
     rw[if_neg (by show ¬0<p;omega)] at sN
     rw[if_neg (by show ¬(0<p∧_);omega)] at sL
     simp -dsimp (maxSteps:=1000000) (disch:=first|omega|(simp only[new_n,put_n];omega)|decide +kernel|(repeat first|rw[new_n]|rw[put_n])) only[wpS,wpT,Nat.reduceEqDiff,f0,f12,P0.len sl29,P0.idx es29 ci,lP,d1,e2]
     exact⟨mm - 1,by omega,i+1,by omega,E,ln,by rw[sN,sL];exact gb,by simp[f0],by simp[f1],by simp[f2],by simp[f3],by simp[f8],by simp[f11],by simp⟩
    ·have d1:(p == 0)=false:=by simpa using c1
     rw[if_pos (by show 0<p;omega)] at sN
     simp -dsimp (maxSteps:=1000000) (disch:=first|omega|(simp only[new_n,put_n];omega)|decide +kernel|(repeat first|rw[new_n]|rw[put_n])) only[wpS,wpT,Nat.reduceEqDiff,f0,f1,f2,f12,P0.len sl29,P0.idx es29 ci,W0.idx es29 iw,lP,lW,d1]
     refine call (rank7_ok m p w) ?_
     rintro r h5 ⟨X5,hr⟩
     have hr:=hr.trans (rank_val m ((p,w,l),w))
     subst hr
     rw[rkV2_form]
     have m5:=X5.n
     have g5:=X5.kept ln gb
     obtain⟨N,hN⟩ : ∃q,q=stN m rs i:=⟨_,rfl⟩
     obtain⟨L,hL⟩ : ∃q,q=stL m rs i:=⟨_,rfl⟩
     have qN:QW N.1:=by rw[hN];exact stN_qw m rs i
     have qL:QW L.1:=by rw[hL];exact stL_qw m rs i
     rw[←hN,←hL] at g5
     rw[←hN] at sN
     rw[←hL] at sL
     obtain⟨x1,hx1⟩ : ∃x:Seat,x=((p,w,l),w):=⟨_,rfl⟩
     rw[←hx1] at sN ⊢
     obtain⟨H6,hH6,n6,E6,g6⟩:=boxed h5 Z16 (shC (rkP m x1).1 (rkP m x1).2)
     have u5:=E6.kept (by omega) g5
     simp -dsimp (maxSteps:=1000000) (disch:=first|omega|(simp only[new_n,put_n];omega)|decide +kernel|(repeat first|rw[new_n]|rw[put_n])) only[wpS,wpT,Nat.reduceEqDiff,Nat.reduceLeDiff,Nat.reduceAdd,zc47,st47,shV_cells,shC_len,shC_all,sh_sp3]
     rw[←hH6]
     clear hH6
     refine bq_cut (fun fr2 h7=>Ext h3 h7∧h3.n<h7.n∧h7.ext.get h3.n=some (.cells (brC (shq (nextF m N x1).1) (shq L.1) L.2 (nextF m N x1).2 (m == 13)) 0 none)∧fget fr2 0=some vp∧fget fr2 1=some vw∧fget fr2 2=some (KI m)∧fget fr2 3=some vl∧fget fr2 8=some (ptr (2*h.n) 0)∧fget fr2 11=some (ptr (2*h3.n) 0)∧fget fr2 12=some (KN i)) (fun hc=>?_) (fun hc=>?_) ?_
     ·have ce : ¬rkE m x1=0:=by simpa using hc
      have e9:nextF m N x1=(N.1,true):=by unfold nextF;rw[if_neg ce]
      simp -dsimp (maxSteps:=1000000) (disch:=first|omega|(simp only[new_n,put_n];omega)|decide +kernel|(repeat first|rw[new_n]|rw[put_n])) only[wpS,wpT,Nat.reduceEqDiff,Nat.reduceLeDiff,Nat.reduceAdd,fa49_3,st4,f11,u5,brC_len,brC_s33]
      refine⟨(E.trans (X5.trans E6)).put (by omega) _,by simp;omega,?_,by simp[f0],by simp[f1],by simp[f2],by simp[f3],by simp[f8],by simp[f11],by simp[f12]⟩
      rw[e9]
      exact get_put_same _ _ rfl
     ·have ce:rkE m x1=0:=by simpa using hc
      have e9:nextF m N x1=(qmax N.1 (rkQ m x1),N.2):=by unfold nextF;rw[if_pos ce]
      have ep:rkP m x1=shq (rkQ m x1):=by unfold rkP;rw[if_pos ce]
      have qr:=rkQ_qw ce
      rw[ep] at g6
      simp -dsimp (maxSteps:=1000000) (disch:=first|omega|(simp only[new_n,put_n];omega)|decide +kernel|(repeat first|rw[new_n]|rw[put_n])) only[wpS,wpT,Nat.reduceEqDiff,Nat.reduceLeDiff,fa49_0,ld47,f11,row_of u5,row_of g6,brC_len,brC_lo,shC_len,sh_take]
      refine call (refmax_ok (p1:=shq N.1) (p2:=shq (rkQ m x1)) (shq_lt qN) (shq_lt qr) (shq_rOf qN).2 (shq_rOf qr).2) ?_
      rintro _ h7 ⟨X7,rfl⟩
      rw[max_shq qN qr]
      have u7:=X7.kept (by omega) u5
      have m7:=X7.n
      simp -dsimp (maxSteps:=1000000) (disch:=first|omega|(simp only[new_n,put_n];omega)|decide +kernel|(repeat first|rw[new_n]|rw[put_n])) only[wpS,wpT,Nat.reduceEqDiff,Nat.reduceLeDiff,st47,fa49_0,f11,u7,shV_cells,shC_len,shC_all,brC_len,brC_slo]
      refine⟨((E.trans (X5.trans E6)).trans X7).put (by omega) _,by simp;omega,?_,by simp[f0],by simp[f1],by simp[f2],by simp[f3],by simp[f8],by simp[f11],by simp[f12]⟩
      rw[e9]
      exact get_put_same _ _ rfl
     ·rintro fr2 h7 ⟨E7,ln7,u7,f0,f1,f2,f3,f8,f11,f12⟩
      have EE7:Ext H0 h7:=X1.trans (X2.trans (X3.trans E7))
      have P7:=(hp0.keep EE7.keep).now
      have W7:=(hw0.keep EE7.keep).now
      have lP7:=P7.ld (P:=Proofs.Tryz.prog) (t:=3) (c:=i) (by simp<;>omega) ag3
      have lW7:=W7.ld (P:=Proofs.Tryz.prog) (t:=3) (c:=i) (by simp<;>omega) ag3
      rw[map_get,at_getD ci,←hpp] at lP7
      rw[map_get,at_getD iw,←hww] at lW7
      have mini:=minimum_ok (n:=people.length) (hl0.keep EE7.keep) ci (by rw[←hlow];exact k6) (by omega)
      rw[←hlow,←hll] at mini
      rw[←sN] at u7
      simp -dsimp (maxSteps:=1000000) (disch:=first|omega|(simp only[new_n,put_n];omega)|decide +kernel|(repeat first|rw[new_n]|rw[put_n])) only[wpS]
      refine drawn [(3,[8])] (by kernel_rfl) (by kernel_rfl) rfl ?_
      simp -dsimp (maxSteps:=1000000) (disch:=first|omega|(simp only[new_n,put_n];omega)|decide +kernel|(repeat first|rw[new_n]|rw[put_n])) only[wpS,Nat.reduceEqDiff,f1,f3,f12,W7.idx es29 iw,lW7]
      refine call mini ?_
      rintro _ k0 ⟨hk,rfl⟩
      rw[hk]
      clear hk k0
      by_cases c2:w=l
      ·have d2:(w == l)=true:=by simpa using c2
       rw[if_neg (by show ¬(0<p∧l<w);omega)] at sL
       simp -dsimp (maxSteps:=1000000) (disch:=first|omega|(simp only[new_n,put_n];omega)|decide +kernel|(repeat first|rw[new_n]|rw[put_n])) only[wpS,Nat.reduceEqDiff,d2]
       refine⟨wpSteady_one rfl rfl rfl rfl (steady_load (av:=elemAddr vw i) (v:=KI w) (by simp) lW7 lW7),?_⟩
       simp -dsimp (maxSteps:=1000000) (disch:=first|omega|(simp only[new_n,put_n];omega)|decide +kernel|(repeat first|rw[new_n]|rw[put_n])) only[wpS,wpT,Nat.reduceEqDiff,Nat.reduceAdd,f12,e2]
       exact⟨mm - 1,by omega,i+1,by omega,E7,ln7,by rw[sL];exact u7,by simp[f0],by simp[f1],by simp[f2],by simp[f3],by simp[f8],by simp[f11],by simp⟩
      ·have d2:(w == l)=false:=by simpa using c2
       rw[if_pos (by show(0<p∧l<w);omega)] at sL
       have e4:IntKind.i64.wrap (w - 1)=w - 1:=by rw[wrap_i64 (by omega)]
       simp -dsimp (maxSteps:=1000000) (disch:=first|omega|(simp only[new_n,put_n];omega)|decide +kernel|(repeat first|rw[new_n]|rw[put_n])) only[wpS,Nat.reduceEqDiff,d2]
       refine⟨wpSteady_one rfl rfl rfl rfl (steady_load (av:=elemAddr vw i) (v:=KI w) (by simp) lW7 lW7),?_⟩
       simp -dsimp (maxSteps:=1000000) (disch:=first|omega|(simp only[new_n,put_n];omega)|decide +kernel|(repeat first|rw[new_n]|rw[put_n])) only[wpS,wpT,Nat.reduceEqDiff,Nat.reduceAdd,f0,f1,f2,f12,P7.idx es29 ci,W7.idx es29 iw,lP7,lW7,e4]
       refine call (rank7_ok m p (w - 1)) ?_
       rintro r h8 ⟨X8,hr⟩
       have hr:=hr.trans (rank_val m ((p,w,l),w - 1))
       subst hr
       rw[rkV2_form]
       have m8:=X8.n
       have u8:=X8.kept ln7 u7
       obtain⟨x2,hx2⟩ : ∃x:Seat,x=((p,w,l),w - 1):=⟨_,rfl⟩
       rw[←hx2] at sL ⊢
       obtain⟨H9,hH9,n9,E9,g9⟩:=boxed h8 Z16 (shC (rkP m x2).1 (rkP m x2).2)
       have u9:=E9.kept (by omega) u8
       have m9:=E9.n
       by_cases ce:rkE m x2=0
       ·have ep:rkP m x2=shq (rkQ m x2):=by unfold rkP;rw[if_pos ce]
        have qr:=rkQ_qw ce
        rw[ep] at g9 hH9
        rw[ce]
        have e9:lastF m L x2=(if L.2=true∨rkQ m x2<L.1 then rkQ m x2 else L.1,false):=by unfold lastF;rw[if_pos ce]
        rw[e9] at sL
        obtain⟨L1,L2⟩:=L
        cases L2 with
        | true =>
         rw[if_pos (.inl rfl)] at sL
         simp -dsimp (maxSteps:=1000000) (disch:=first|omega|(simp only[new_n,put_n];omega)|decide +kernel|(repeat first|rw[new_n]|rw[put_n])) only[wpS,wpT,Nat.reduceEqDiff,Nat.reduceLeDiff,Nat.reduceAdd,zc47,st47,st4,ld47,fa49_2,ld4,fa49_1,f11,shV_cells,shC_len,shC_all,sh_sp3,row_of u8,u8,brC_len,brC_32,ep,sh_take,brC_shi,brC_s32,f12,e2]
         rw[←hH9]
         refine⟨mm - 1,by omega,i+1,by omega,((E7.trans (X8.trans E9)).put (by omega) _).put (by omega) _,by simp;omega,?_,by simp[f0],by simp[f1],by simp[f2],by simp[f3],by simp[f8],by simp[f11],by simp⟩
         rw[sL]
         exact get_put_same _ _ rfl
        | false =>
         simp -dsimp (maxSteps:=1000000) (disch:=first|omega|(simp only[new_n,put_n];omega)|decide +kernel|(repeat first|rw[new_n]|rw[put_n])) only[wpS,wpT,Nat.reduceEqDiff,Nat.reduceLeDiff,Nat.reduceAdd,zc47,st47,ld47,fa49_2,ld4,fa49_1,f11,shV_cells,shC_len,shC_all,sh_sp3,row_of u8,brC_len,brC_32,brC_hi,ep,sh_take]
         rw[←hH9]
         refine call (refmin_ok (p1:=shq L1) (p2:=shq (rkQ m x2)) (shq_lt qL) (shq_lt qr) (shq_rOf qL).2 (shq_rOf qr).2) ?_
         rintro _ h10 ⟨X10,rfl⟩
         rw[min_shq qL qr]
         have m10:=X10.n
         have e7:(if ((L1,false):Rat×Bool).2=true∨rkQ m x2<((L1,false):Rat×Bool).1 then rkQ m x2 else ((L1,false):Rat×Bool).1)=if rkQ m x2<L1 then rkQ m x2 else L1:=by
          by_cases q:rkQ m x2<L1
          ·rw[if_pos (.inr q),if_pos q]
          ·rw[if_neg (fun h=>by rcases h with h|h;cases h;exact q h),if_neg q]
         rw[e7] at sL
         simp -dsimp (maxSteps:=1000000) (disch:=first|omega|(simp only[new_n,put_n];omega)|decide +kernel|(repeat first|rw[new_n]|rw[put_n])) only[wpS,wpT,Nat.reduceEqDiff,Nat.reduceLeDiff,Nat.reduceAdd,st47,st4,fa49_2,fa49_1,f11,f12,e2,X10.kept (by omega) u9,shV_cells,shC_len,shC_all,brC_len,brC_shi,brC_s32]
         refine⟨mm - 1,by omega,i+1,by omega,((E7.trans (X8.trans (E9.trans X10))).put (by omega) _).put (by omega) _,by simp;omega,?_,by simp[f0],by simp[f1],by simp[f2],by simp[f3],by simp[f8],by simp[f11],by simp⟩
         rw[sL]
         exact get_put_same _ _ rfl
       ·have d9:(rkE m x2 != 0)=true:=by simpa using ce
        have e9:lastF m L x2=L:=by unfold lastF;rw[if_neg ce]
        rw[e9] at sL
        simp -dsimp (maxSteps:=1000000) (disch:=first|omega|(simp only[new_n,put_n];omega)|decide +kernel|(repeat first|rw[new_n]|rw[put_n])) only[wpS,wpT,Nat.reduceEqDiff,Nat.reduceLeDiff,Nat.reduceAdd,zc47,st47,shV_cells,shC_len,shC_all,sh_sp3,d9,f12,e2]
        rw[←hH9]
        exact⟨mm - 1,by omega,i+1,by omega,E7.trans (X8.trans E9),by omega,by rw[sL];exact u9,by simp[f0],by simp[f1],by simp[f2],by simp[f3],by simp[f8],by simp[f11],by simp⟩
   ·have rt:rs.take i=rs:=List.take_of_length_le (by omega)
    have aN:stN m rs i=brN m rs:=by unfold stN;rw[rt];rfl
    have aL:stL m rs i=brL m rs:=by unfold stL;rw[rt];rfl
    rw[aN,aL] at gb
    have b0:=EE.kept (by omega) g0
    have fv:findV people won m least=brV (shq (if (brN m rs).2=true then 0 else (brN m rs).1)) (shq (brL m rs).1) (brL m rs).2 (brN m rs).2 (m == 13):=by
     unfold findV
     rw[e,if_pos rfl,←hrs];rfl
    rw[e,fv]
    obtain⟨N,hN⟩ : ∃q,q=brN m rs:=⟨_,rfl⟩
    rw[←hN] at gb ⊢
    obtain⟨N1,N2⟩:=N
    have En:=EE.n
    cases N2 with
    | false =>
     simp -dsimp (maxSteps:=1000000) (disch:=first|omega|(simp only[new_n,put_n];omega)|decide +kernel|(repeat first|rw[new_n]|rw[put_n])) only[wpS,wpT,Nat.reduceEqDiff,Nat.reduceLeDiff,Nat.reduceAdd,st49,fa49_3,ld4,ld49,f0,f8,f11,f12,P0.len sl29,row_of gb,b0,brC_33,brC_take,brC_len,brC_all,brC_all0]
     exact⟨(E0.trans EE).put (by omega) _,rfl⟩
    | true =>
     simp -dsimp (maxSteps:=1000000) (disch:=first|omega|(simp only[new_n,put_n];omega)|decide +kernel|(repeat first|rw[new_n]|rw[put_n])) only[wpS,wpT,Nat.reduceEqDiff,fa49_3,ld4,f0,f11,f12,P0.len sl29,row_of gb,brC_33]
     refine call zero8_ok ?_
     rintro _ h5 ⟨X5,rfl⟩
     have m5:=X5.n
     simp -dsimp (maxSteps:=1000000) (disch:=first|omega|(simp only[new_n,put_n];omega)|decide +kernel|(repeat first|rw[new_n]|rw[put_n])) only[wpS,wpT,Nat.reduceEqDiff,Nat.reduceLeDiff,Nat.reduceAdd,st49,st47,fa49_0,ld49,f8,f11,X5.kept ln gb,X5.kept (by omega) b0,shV_cells,shC_len,shC_all,brC_take,brC_len,brC_all,brC_all0,brC_slo]
     exact((E0.trans (EE.trans X5)).put (by omega) _).put (by omega) _
 ·have d:((openErr people won m least) != 0)=true:=by simpa using c
  have e:findE people won m least=openErr people won m least:=by unfold findE;rw[if_pos c]
  simp -dsimp (maxSteps:=1000000) (disch:=first|omega|(simp only[new_n,put_n];omega)|decide +kernel|(repeat first|rw[new_n]|rw[put_n])) only[wpS,wpT,Nat.reduceEqDiff,Nat.reduceLeDiff,Nat.reduceAdd,bv49,st49,ld49,d,g0]
  refine⟨E0.put (by omega) _,?_⟩
  unfold findV
  rw[e,if_neg c,←br_lit];rfl
end Go.Id

/-! Contracts: drafts of layer 6: the house, the minimums; a changed allocation. -/
namespace Go.Id
open Go
def houseN (s:Nat):Nat:=if s % 8=0 then 1+s % 1000 else 1+s % 20
theorem house_ok {h:IH} {x:Value} {ps ls:List Nat} {u s:Nat} (hx:Dr6 h x ps ls u s) :
  WV Proofs.Tryz.prog (.func (.func 12) #[] #[]) [x] h fun r h'=>Ext h h'∧r=KN (houseN s):=by
 obtain⟨⟨vp,vl,rfl,sp,sl⟩,bp,bl,hu,hs,lp,ll⟩:=hx
 have e8:(s:Int) % 8=((s % 8:Nat):Int):=by omega
 have e20:(s:Int) % 20=((s % 20:Nat):Int):=by omega
 have e1k:(s:Int) % 1000=((s % 1000:Nat):Int):=by omega
 have w1:IntKind.i64.wrap (1+((s % 1000:Nat):Int))=((1+s % 1000:Nat):Int):=by rw[wrap_i64 (by omega)];omega
 have w2:IntKind.i64.wrap (1+((s % 20:Nat):Int))=((1+s % 20:Nat):Int):=by rw[wrap_i64 (by omega)];omega
 refine enter (nt:=17) (rs:=[.tmp 2]) Proofs.Tryz.func12 rfl rfl rfl (by simp) ?_
 by_cases c:s % 8=0
 ·have d:(((s % 8:Nat):Int) == 0)=true:=by simp;omega
  simp -dsimp (disch:=omega) only[wpS,Nat.reduceEqDiff,fa26_3,ld24,cv24_3,e8,e1k,w1,d]
  exact⟨(Ext.refl h).new _,by unfold houseN;rw[if_pos c]⟩
 ·have d:(((s % 8:Nat):Int) == 0)=false:=by simp;omega
  simp -dsimp (disch:=omega) only[wpS,Nat.reduceEqDiff,fa26_3,ld24,cv24_3,e8,e20,w2,d]
  exact⟨(Ext.refl h).new _,by unfold houseN;rw[if_neg c]⟩
def minStep (ls:List Nat) (i left:Nat):Nat:=if i<ls.length then min (ls.getD i 0 % 4) left else 0
def minLeft (ls:List Nat):Nat→Nat→Nat
 | 0,left=>left
 | n+1,left=>minLeft ls n left - minStep ls n (minLeft ls n left)
def minTake (ls:List Nat) (house:Nat):Nat→List Int
 | 0 => []
 | n+1=>minTake ls house n ++ [(minStep ls n (minLeft ls n house):Int)]
theorem minStep_le (ls:List Nat) (i left:Nat):minStep ls i left≤left∧minStep ls i left≤3:=by unfold minStep;split<;>omega
theorem minLeft_le (ls:List Nat) (house:Nat) : ∀n,minLeft ls n house≤house
 | 0=>Nat.le_refl _
 | n+1=>by have:=minLeft_le ls house n;unfold minLeft;omega
theorem minTake_len (ls:List Nat) (house:Nat) : ∀n,(minTake ls house n).length=n
 | 0=>rfl
 | n+1=>by rw[minTake,List.length_append,minTake_len ls house n];rfl
set_option maxHeartbeats 2000000 in
theorem mins6_ok {h:IH} {x:Value} {ps ls:List Nat} {u s:Nat} (hx:Dr6 h x ps ls u s) :
  WV Proofs.Tryz.prog (.func (.func 10) #[] #[]) [x] h fun r h'=>Ext h h'∧SlOf h' 1 r (census u ps).length ((minTake ls (houseN s) (census u ps).length).map KI):=by
 have hx0:=hx
 obtain⟨⟨vp,vl,rfl,sp,sl⟩,bp,bl,hu,hs,lp,ll⟩:=hx
 have C:CenOK (census u ps):=census_cen hu bp
 have tk:List.take 4 (List.drop 0 [vp,B8 u,vl,B16 s]) = [vp,B8 u,vl,B16 s]:=rfl
 refine enter (nt:=38) (rs:=[.tmp 2]) Proofs.Tryz.func10 rfl rfl rfl (by simp) ?_
 simp -dsimp (disch:=omega) only[wpS,wpT,Nat.reduceEqDiff,Nat.reduceLeDiff,Nat.reduceAdd,ld26,tk]
 obtain⟨H0,hH0⟩ : ∃H,H=h.new (.cells [vp,B8 u,vl,B16 s] 0 none):=⟨_,rfl⟩
 have E0:Ext h H0:=by rw[hH0];exact(Ext.refl h).new _
 have g0:H0.ext.get h.n=some (.cells [vp,B8 u,vl,B16 s] 0 none):=by rw[hH0];simp (disch:=first|omega|(simp only[new_n,put_n];omega)|(repeat first|rw[new_n]|rw[put_n])) only[get_new_same]
 have n0:H0.n=h.n+1:=by rw[hH0];simp
 rw[←hH0]
 clear hH0
 refine call (house_ok (hx0.keep E0.keep)) ?_
 rintro _ h1 ⟨X1,rfl⟩
 have m1:=X1.n
 obtain⟨n,hn⟩ : ∃n,n=(census u ps).length:=⟨_,rfl⟩
 have nb:n≤9:=by rw[hn];exact C.len
 rw[←hn]
 have hb:houseN s≤1000:=by unfold houseN;split<;>omega
 simp -dsimp (disch:=omega) only[wpS,Nat.reduceEqDiff]
 refine loop (fun m fr hh => ∃(i:Nat) (v:Value),i+m=n∧Ext h1 hh∧Acc hh h1.n 1 v i ((minTake ls (houseN s) i).map KI)∧fget fr 1=some (ptr (2*h.n) 0)∧fget fr 3=some (KN (minLeft ls i (houseN s)))∧fget fr 4=some v∧fget fr 5=some (KN i)) n
  ⟨0,.slice none 0 0,by omega,Ext.refl _,Acc.nil _ _ (sz:=1) (by decide),by simp,by simp[minLeft],by simp,by simp⟩ ?_
 rintro m fr hh ⟨i,v,him,E,A,f1,f3,f4,f5⟩
 have En:=E.n
 have g1:=(X1.trans E).kept (by omega) g0
 simp -dsimp (disch:=omega) only[wpS,wpT,Nat.reduceEqDiff,Nat.reduceLeDiff,Nat.reduceAdd,ld26,f1,f5,row_of g1,tk]
 refine call (census_ok (hx0.keep (E0.trans (X1.trans E)).keep)) ?_
 rintro cv h2 ⟨X2,sc⟩
 have c0:=sc.now
 have ln:=c0.len sl29 (P:=Proofs.Tryz.prog)
 rw[←hn] at ln
 have m2:=X2.n
 have k1:=X2.kept (by omega) g1
 have A2:=A.ext X2
 by_cases c:i<n
 ·have L0:=(sl.keep (E0.trans (X1.trans (E.trans X2))).keep).now
  have mb:=minLeft_le ls (houseN s) i
  have ms:=minStep_le ls i (minLeft ls i (houseN s))
  have e2:IntKind.i64.wrap ((i:Int)+1)=((i+1:Nat):Int):=by rw[wrap_i64 (by omega)];omega
  have e3:IntKind.i64.wrap ((minLeft ls i (houseN s):Int) - (minStep ls i (minLeft ls i (houseN s)):Int))=((minLeft ls (i+1) (houseN s):Nat):Int):=by
   rw[wrap_i64 (by omega),show minLeft ls (i+1) (houseN s)=minLeft ls i (houseN s) - minStep ls i (minLeft ls i (houseN s)) from rfl];omega
  simp -dsimp (disch:=omega) only[wpS,wpT,Nat.reduceEqDiff,fa26_2,ld23,ln,f1,f5,row_of k1,L0.len sl23]
  refine bq_cut (fun fr2 h3=>h3=h2∧fget fr2 1=some (ptr (2*h.n) 0)∧fget fr2 3=some (KN (minLeft ls i (houseN s)))∧fget fr2 4=some v∧fget fr2 5=some (KN i)∧fget fr2 6=some (KN (minStep ls i (minLeft ls i (houseN s))))) (fun hc=>?_) (fun hc=>?_) ?_
  ·have hl:i<ls.length:=by simp at hc;omega
   obtain⟨q,hq⟩ : ∃q,ls[i]?=some q:=⟨_,List.getElem?_eq_getElem hl⟩
   have hq8:=bl q (List.mem_of_getElem? hq)
   have lL:=L0.ld (P:=Proofs.Tryz.prog) (t:=5) (c:=i) (by simp<;>omega) ag5
   rw[map_getN hq] at lL
   have e4:(q:Int) % 4=((q % 4:Nat):Int):=by omega
   have st:(if (minLeft ls i (houseN s):Int)<((q % 4:Nat):Int) then (minLeft ls i (houseN s):Int) else ((q % 4:Nat):Int))=((minStep ls i (minLeft ls i (houseN s)):Nat):Int):=by
    unfold minStep
    rw[if_pos hl,List.getD_eq_getElem?_getD,hq]
    simp
    split<;>omega
   simp -dsimp (disch:=omega) only[wpS,wpT,Nat.reduceEqDiff,fa26_2,ld23,cv5_3,f1,f3,f5,row_of k1,L0.idx es23 hl,lL,e4,min_kk,st]
   exact⟨rfl,by simp[f1],by simp[f3],by simp[f4],by simp[f5],by simp⟩
  ·have hl : ¬i<ls.length:=by simp at hc;omega
   have st:minStep ls i (minLeft ls i (houseN s))=0:=by unfold minStep;rw[if_neg hl]
   simp -dsimp (disch:=omega) only[wpS,wpT]
   exact⟨rfl,by simp[f1],by simp[f3],by simp[f4],by simp[f5],by simp[st]⟩
  ·rintro fr2 _ ⟨rfl,f1,f3,f4,f5,f6⟩
   obtain⟨v',h5,hap,A5,G5,E5⟩:=A2.app1 (P:=Proofs.Tryz.prog) (t:=29) ap29 (x:=KN (minStep ls i (minLeft ls i (houseN s)))) rfl (by omega) (by omega) (E.trans X2) (Nat.le_refl _)
   simp -dsimp (disch:=omega) only[wpS,wpT,Nat.reduceEqDiff,Nat.reduceLeDiff,Nat.reduceAdd,bs29,ba29_29,f3,f4,f5,f6,hap,e2,e3]
   refine⟨m - 1,by omega,i+1,v',by omega,E5,?_,by simp[f1],by simp,by simp,by simp⟩
   rw[minTake,List.map_append]
   exact A5
 ·have hin:i=n:=by omega
  subst hin
  simp -dsimp (disch:=omega) only[wpS,wpT,Nat.reduceEqDiff,ln,f4]
  exact⟨E0.trans (X1.trans (E.trans X2)),A2.sl⟩
end Go.Id

/-
  Contracts: the program's wide numbers: products (of numbers that are not negative). Contracts: package kernel: Reversible.
-/
import Derived.Test.YtnanhedgenokpaaGreatTemperDetailedAt
import Derived.Test.YtnanhedgenokpaaGreatTemperDetailedBp
import Derived.Test.YtnanhedgenokpaaGreatTemperDetailedAx
import Derived.Test.YtnanhedgenokpaaGreatTemperDetailedBs
import Derived.Test.YtnanhedgenokpaaGreatTemperDetailedAs
import Derived.Test.YtnanhedgenokpaaGreatTemperDetailedBk
import Derived.Test.YtnanhedgenokpaaGreatTemperDetailedBr
set_option linter.unusedVariables false
set_option linter.unusedSimpArgs false
set_option linter.defProp false
set_option linter.deprecated false
namespace Go.Id
open Go
open Go.Proofs.Tryz (prog)
open Nat renaming reduceAdd→zA,reduceEqDiff→zE,reduceLeDiff→zL
set_option maxHeartbeats 16000000
theorem d_s2a {P:Program} {fr:Fr} {h:IH} {K:Value→IH→Prop} {u:Nx K} {t e:TypeId} {n b o len k:Nat} {x:Operand} (hu:P.underlying t=some (.array n e)) (hx:opd fr x=some (.slice (some ⟨b,o,none⟩) len k)) (hn:n≤len) (hk:0<k):Do (wpOp P (.sliceToArrayPointer t x) fr h) K u=K (ptr b o) h:=by
 show Ex (iop P fr (.sliceToArrayPointer t x) h) _=_
 have h1:Nat.ble n len=true:=by rw[Nat.ble_eq];exact hn
 have h2:Nat.blt 0 k=true:=by simp only[Nat.blt,Nat.ble_eq];exact hk
 have:iop P fr (.sliceToArrayPointer t x) h=some (ptr b o,h):=by
  simp only[iop,hu,hx,h1,h2,Bool.and_self,cond_true];rfl
 rw[this]
 simp[Ex]
theorem gather_ok {h:IH} {b at_ x y:Nat} {os:List Nat} (hb:b<h.n) (g:h.ext.get b=some (.cells (os.map K64) 0 none)) (hl:os.length=16) (hd:B.Digs os) (hx:x<18446744073709551616) (hy:y<18446744073709551616) (hat:at_+2≤16) (hfit:B.valD os+x*y*18446744073709551616 ^ at_<18446744073709551616 ^ 16) :
  WV prog (.func (.func 280) #[] #[ptr (2*b) 0]) [K64 x,K64 y,KN at_] h fun r h'=>r=.tuple #[]∧SimB b h h' ∧ ∃os',h'.ext.get b=some (.cells (os'.map K64) 0 none)∧os'.length=16∧B.Digs os'∧B.valD os'=B.valD os+x*y*18446744073709551616 ^ at_:=by
 have r0:=row_kn g
 have go:=get_some (show at_<os.length by omega)
 have d0:=B.getD_lt hd at_
 obtain⟨o,ho⟩ : ∃o,o=os.getD at_ 0:=⟨_,rfl⟩
 rw[←ho] at go d0
 obtain⟨p,hp⟩ : ∃p,p=x*y:=⟨_,rfl⟩
 have hpl:p≤18446744073709551615*18446744073709551615:=by rw[hp];exact Nat.mul_le_mul (by omega) (by omega)
 refine enter (nt:=60) (rs:=[]) Proofs.Tryz.func280 rfl rfl rfl (by simp) ?_
 simp -dsimp (disch:=try exact dx) only[wpS,zE,zA]
 refine call (mulF_ok x y hx hy) ?_
 rintro _ z1 ⟨ez,rfl⟩
 rw[ez]
 clear ez z1
 rw[←hp] at hfit ⊢
 simp -dsimp (disch:=try exact dx) only[wpS,zE,ar320,ld28,r0,map_get,go]
 refine call (add64_0 o (p % 18446744073709551616)) ?_
 rintro _ z1 ⟨ez,rfl⟩
 rw[ez]
 clear ez z1
 have spl:=spl_k64 ((o+p % 18446744073709551616) % 18446744073709551616) (show at_<os.length by omega)
 obtain⟨os1,hos1⟩ : ∃l,l=os.set at_ ((o+p % 18446744073709551616) % 18446744073709551616):=⟨_,rfl⟩
 rw[←hos1] at spl
 have l1:os1.length=16:=by rw[hos1,List.length_set,hl]
 have dg1:B.Digs os1:=by rw[hos1];exact hd.set _ (by omega)
 have v1:=B.valD_set ((o+p % 18446744073709551616) % 18446744073709551616) (show at_<os.length by omega)
 rw[←ho,←hos1] at v1
 obtain⟨H1,hH1⟩ : ∃H,H=h.put b (.cells (os1.map K64) 0 none):=⟨_,rfl⟩
 have g1:H1.ext.get b=some (.cells (os1.map K64) 0 none):=by rw[hH1];exact get_put_same _ _ rfl
 have S1:SimB b h H1:=by rw[hH1];exact(SimB.refl b h).put _
 have r1:=row_kn g1
 have ie:idxAt ((at_:Int)+1) 16=some (at_+1):=by
  have:=idxAt_nat (j:=at_+1) (n:=16) (by omega)
  exact this
 have go1:=get_some (show at_+1<os1.length by omega)
 have d1:=B.getD_lt dg1 (at_+1)
 obtain⟨o1,ho1⟩ : ∃o,o=os1.getD (at_+1) 0:=⟨_,rfl⟩
 rw[←ho1] at go1 d1
 simp -dsimp (disch:=try exact dx) only[wpS,wpT,zE,zL,ar320,ld28,st28,g,spl,List.length_map,hl,←hH1,ie,r1,map_get,go1]
 obtain⟨c1,hc1⟩ : ∃c,c=(o+p % 18446744073709551616) / 18446744073709551616:=⟨_,rfl⟩
 obtain⟨lo1,hlo1⟩ : ∃c,c=(o+p % 18446744073709551616) % 18446744073709551616:=⟨_,rfl⟩
 obtain⟨hi,hhi⟩ : ∃c,c=p / 18446744073709551616:=⟨_,rfl⟩
 rw[←hc1,←hhi]
 refine call (add64_ok o1 hi c1 (by omega)) ?_
 rintro _ z1 ⟨ez,rfl⟩
 rw[ez]
 clear ez z1
 obtain⟨c2,hc2⟩ : ∃c,c=(o1+hi+c1) / 18446744073709551616:=⟨_,rfl⟩
 obtain⟨lo2,hlo2⟩ : ∃c,c=(o1+hi+c1) % 18446744073709551616:=⟨_,rfl⟩
 rw[←hc2,←hlo2]
 have spl2:=spl_k64 lo2 (show at_+1<os1.length by omega)
 obtain⟨os2,hos2⟩ : ∃l,l=os1.set (at_+1) lo2:=⟨_,rfl⟩
 rw[←hos2] at spl2
 have l2:os2.length=16:=by rw[hos2,List.length_set,l1]
 have dg2:B.Digs os2:=by rw[hos2];exact dg1.set _ (by omega)
 have v2:=B.valD_set lo2 (show at_+1<os1.length by omega)
 rw[←ho1,←hos2] at v2
 obtain⟨H2,hH2⟩ : ∃H,H=H1.put b (.cells (os2.map K64) 0 none):=⟨_,rfl⟩
 have g2:H2.ext.get b=some (.cells (os2.map K64) 0 none):=by rw[hH2];exact get_put_same _ _ rfl
 have S2:SimB b h H2:=by rw[hH2];exact S1.put _
 have hv:B.valD os2+c2*18446744073709551616 ^ (at_+2)=B.valD os+p*18446744073709551616 ^ at_:=by
  rw[←hlo1] at v1
  have e1:18446744073709551616 ^ (at_+1)=18446744073709551616 ^ at_*18446744073709551616:=Nat.pow_succ ..
  have e2:18446744073709551616 ^ (at_+2)=18446744073709551616 ^ at_*18446744073709551616*18446744073709551616:=by rw[Nat.pow_succ,Nat.pow_succ]
  rw[e1] at v2
  rw[e2]
  have r1:o+p % 18446744073709551616=lo1+c1*18446744073709551616:=by omega
  have r2:o1+hi+c1=lo2+c2*18446744073709551616:=by omega
  have r3:p=hi*18446744073709551616+p % 18446744073709551616:=by omega
  generalize 18446744073709551616 ^ at_=W at *
  have f1:(o+p % 18446744073709551616)*W=(lo1+c1*18446744073709551616)*W:=by rw[r1]
  have f2:(o1+hi+c1)*(W*18446744073709551616)=(lo2+c2*18446744073709551616)*(W*18446744073709551616):=by rw[r2]
  have f3:p*W=(hi*18446744073709551616+p % 18446744073709551616)*W:=by rw[←r3]
  grind
 simp -dsimp (disch:=try exact dx) only[wpS,wpT,zE,zL,ar320,st28,g1,spl2,List.length_map,l1,←hH2,ie]
 refine loop (fun m fr H => ∃(k c:Nat) (os3:List Nat),k+m=16∧SimB b h H∧H.ext.get b=some (.cells (os3.map K64) 0 none)∧os3.length=16∧B.Digs os3∧c≤1∧B.valD os3+c*18446744073709551616 ^ k=B.valD os+p*18446744073709551616 ^ at_∧fget fr 3=some (ptr (2*b) 0)∧fget fr 10=some (K64 c)∧fget fr 11=some (KN k)) (14 - at_)
  ⟨at_+2,c2,os2,by omega,S2,g2,l2,dg2,by omega,hv,by simp,by simp,by simp⟩ ?_
 rintro m fr H ⟨k,c,os3,hkm,S3,g3,l3,dg3,hc,hv3,f3,f10,f11⟩
 simp -dsimp (disch:=try exact dx) only[wpS,zE,f10]
 refine bq_intro ?_ ?_<;>intro hb1<;>simp only[decide_eq_true_eq,decide_eq_false_iff_not] at hb1
 ·obtain rfl:c=1:=by omega
  by_cases hk:k=16
  ·exfalso
   subst hk
   rw[Nat.one_mul] at hv3
   omega
  have hk2:k<16:=by omega
  have e16:((k:Int) == 16)=false:=by simp;omega
  have r3:=row_kn g3
  have go3:=get_some (show k<os3.length by omega)
  have d3:=B.getD_lt dg3 k
  obtain⟨o3,ho3⟩ : ∃o,o=os3.getD k 0:=⟨_,rfl⟩
  rw[←ho3] at go3 d3
  simp -dsimp (disch:=try exact dx) only[wpS,wpT,zE,ar320,ld28,f3,f10,f11,e16,r3,map_get,go3]
  refine call (add64_ok o3 0 1 (by omega)) ?_
  rintro _ z1 ⟨ez,rfl⟩
  rw[ez]
  clear ez z1
  obtain⟨c4,hc4⟩ : ∃c,c=(o3+0+1) / 18446744073709551616:=⟨_,rfl⟩
  obtain⟨lo4,hlo4⟩ : ∃c,c=(o3+0+1) % 18446744073709551616:=⟨_,rfl⟩
  rw[←hc4,←hlo4]
  have spl4:=spl_k64 lo4 (show k<os3.length by omega)
  simp -dsimp (disch:=try exact dx) only[wpS,wpT,zE,zL,ar320,st28,f3,f11,g3,spl4,List.length_map,l3]
  have v4:=B.valD_set lo4 (show k<os3.length by omega)
  rw[←ho3] at v4
  refine⟨m - 1,by omega,k+1,c4,os3.set k lo4,by omega,S3.put _,get_put_same _ _ rfl,by rw[List.length_set,l3],dg3.set _ (by omega),by omega,?_,by simp[f3],by simp,by simp⟩
  rw[←hv3,Nat.pow_succ]
  have r2:o3+1=lo4+c4*18446744073709551616:=by omega
  generalize 18446744073709551616 ^ k=W at *
  have f2:(o3+1)*W=(lo4+c4*18446744073709551616)*W:=by rw[r2]
  grind
 ·obtain rfl:c=0:=by omega
  rw[Nat.zero_mul,Nat.add_zero] at hv3
  simp -dsimp (disch:=try exact dx) only[wpS,wpT]
  exact⟨S3,os3,g3,l3,dg3,hv3⟩
theorem wds_le {a i:Nat} (ha:a<W8) (hi:i≤8):B.valT (wds a) i≤a:=by
 rw[wds_valT a i hi];exact Nat.mod_le _ _
theorem wds_step {a i:Nat} (hi:i<8):B.valT (wds a) (i+1)=B.valT (wds a) i+wrd a i*18446744073709551616 ^ i:=by
 rw[B.valT,wds_get a hi]
theorem part_le {a b i j:Nat} (ha:a<W8) (hb:b<W8) (hi:i<8) (hj:j≤8):B.valT (wds a) i*b+wrd a i*B.valT (wds b) j*18446744073709551616 ^ i≤a*b:=by
 have h1:=wds_le (i:=i+1) ha (by omega)
 rw[wds_step hi] at h1
 have h2:=wds_le (i:=j) hb hj
 have h3:wrd a i*B.valT (wds b) j*18446744073709551616 ^ i≤wrd a i*b*18446744073709551616 ^ i:=Nat.mul_le_mul_right _ (Nat.mul_le_mul_left _ h2)
 have h4:=Nat.mul_le_mul_right b h1
 have h5:(B.valT (wds a) i+wrd a i*18446744073709551616 ^ i)*b=B.valT (wds a) i*b+wrd a i*b*18446744073709551616 ^ i:=by grind
 omega
theorem size_idx (a:Nat) {i:Nat} (hi:i<8):indexV prog 234 (.agg (wdC a).toArray) (KN i)=some (K64 (wrd a i)):=by
 rcases(by omega:i=0∨i=1∨i=2∨i=3∨i=4∨i=5∨i=6∨i=7) with rfl|rfl|rfl|rfl|rfl|rfl|rfl|rfl<;>kernel_rfl
theorem dig_le {ds:List Nat} : ∀{n k:Nat},k<n→ds.getD k 0*18446744073709551616 ^ k≤B.valT ds n
 | n+1,k,h=>by
  rw[B.valT]
  by_cases c:k=n
  ·subst c;exact Nat.le_add_left _ _
  ·exact Nat.le_trans (dig_le (n:=n) (k:=k) (by omega)) (Nat.le_add_right _ _)
theorem all_hi (H:IH) (k:Nat):sliceOp prog H 320 (ptr k 0) (some (.int .i64 8)) none none=some (.slice (some ⟨k,8,none⟩) 8 17):=by kernel_rfl
theorem all_lo (H:IH) (k:Nat):sliceOp prog H 320 (ptr k 0) none (some (.int .i64 8)) none=some (.slice (some ⟨k,0,none⟩) 8 33):=by kernel_rfl
theorem hi_idx (k:Nat) {i:Nat} (hi:i<8):indexAddr prog 135 (.slice (some ⟨2*k,8,none⟩) 8 17) (KN i)=some (ptr (2*k) (8+i)):=by
 rcases(by omega:i=0∨i=1∨i=2∨i=3∨i=4∨i=5∨i=6∨i=7) with rfl|rfl|rfl|rfl|rfl|rfl|rfl|rfl<;>kernel_rfl
theorem szTimes_ok {h:IH} {a b:Nat} (ha:a<W8) (hb:b<W8) (hab:a*b<W8) :
  WV prog (.func (.func 272) #[] #[]) [wdV a,wdV b] h fun r h'=>Ext h h'∧r=.tuple #[wdV (a*b),K64 0]:=by
 have W0:0<18446744073709551616 ^ 8:=Nat.pow_pos (by omega)
 have hW:W8=18446744073709551616 ^ 8:=W8_pw
 have h16:W8≤18446744073709551616 ^ 16:=by rw[hW];exact Nat.pow_le_pow_right (by omega) (by omega)
 obtain⟨H0,hH0⟩ : ∃H,H=(((h.new (.cells (wdC a) 0 none)).new (.cells (wdC b) 0 none)).new (.cells [ZW,ZW,ZW,ZW,ZW,ZW,ZW,ZW] 0 none)).new (.cells ((List.replicate 16 0).map K64) 0 none):=⟨_,rfl⟩
 have n0:H0.n=h.n+4:=by rw[hH0];rfl
 have E0:Ext h H0:=by rw[hH0];exact((((Ext.refl h).new _).new _).new _).new _
 have g0:H0.ext.get h.n=some (.cells (wdC a) 0 none):=by rw[hH0];simp (disch:=try exact dx) only[get_new_same,get_new_old]
 have g1:H0.ext.get (h.n+1)=some (.cells (wdC b) 0 none):=by rw[hH0];simp (disch:=try exact dx) only[get_new_same,get_new_old]
 have g2:H0.ext.get (h.n+1+1)=some (.cells [ZW,ZW,ZW,ZW,ZW,ZW,ZW,ZW] 0 none):=by rw[hH0];simp (disch:=try exact dx) only[get_new_same,get_new_old]
 have g3:H0.ext.get (h.n+1+1+1)=some (.cells ((List.replicate 16 0).map K64) 0 none):=by rw[hH0];simp (disch:=try exact dx) only[get_new_same]
 refine enter (nt:=55) (rs:=[.cell 4 234,.tmp 5]) Proofs.Tryz.func272 rfl rfl rfl (by simp) ?_
 simp -dsimp (disch:=try exact dx) only[wpS,zE,zL,zA,zc234,zc320,ld234,cells8,wdC_len,wd_take0]
 obtain⟨ka,hka⟩ : ∃k,k=h.n+1+1+1:=⟨_,rfl⟩
 have nk:ka<H0.n:=by omega
 obtain⟨fv,hfv⟩ : ∃f,f=Value.func (.func 280) #[] #[ptr (2*ka) 0]:=⟨_,rfl⟩
 refine loop_cut (fun fr H => ∃os,SimB ka H0 H∧H.ext.get ka=some (.cells (os.map K64) 0 none)∧os.length=16∧B.Digs os∧B.valD os=a*b∧fget fr 4=some (ptr (2*(h.n+1+1)) 0)∧fget fr 6=some (ptr (2*ka) 0)) ?_ ?_
 ·refine loop (fun m fr H => ∃(i:Nat) (os:List Nat),i+m=8∧SimB ka H0 H∧H.ext.get ka=some (.cells (os.map K64) 0 none)∧os.length=16∧B.Digs os∧B.valD os=B.valT (wds a) i*b∧fget fr 3=some (ptr (2*(h.n+1)) 0)∧fget fr 4=some (ptr (2*(h.n+1+1)) 0)∧fget fr 6=some (ptr (2*ka) 0)∧fget fr 7=some fv∧fget fr 16=some (.agg (wdC a).toArray)∧fget fr 17=some (KN i)) 8
   ⟨0,List.replicate 16 0,by omega,by rw[hH0];exact SimB.refl _ _,by rw[hH0] at g3;rw[hka];exact g3,by simp,B.Digs.repl _,by rw[B.valD_repl];simp[B.valT],by simp,by simp,by simp[hka],by simp[hfv,hka],by simp,by simp⟩ ?_
  rintro m fr H ⟨i,os,him,S,g,hl,hd,hv,f3,f4,f6,f7,f16,f17⟩
  simp -dsimp (disch:=try exact dx) only[wpS,f17]
  refine bq_intro ?_ ?_<;>intro hc<;>simp only[decide_eq_true_eq,decide_eq_false_iff_not] at hc
  ·have hi:i<8:=by omega
   have gb:=(S.2.2.1 (h.n+1) (by omega)).trans g1
   simp -dsimp (disch:=try exact dx) only[wpS,wpT,zE,zL,ld234,f3,f16,f17,size_idx a hi,row_of gb,wdC_len,wd_take0]
   obtain⟨x,hx⟩ : ∃x,x=wrd a i:=⟨_,rfl⟩
   have xb:x<18446744073709551616:=by rw[hx,←wds_get a hi];exact B.getD_lt (wds_dig a) i
   rw[←hx]
   refine loop (fun m2 fr H2 => ∃(j:Nat) (os2:List Nat),j+m2=8∧SimB ka H0 H2∧H2.ext.get ka=some (.cells (os2.map K64) 0 none)∧os2.length=16∧B.Digs os2∧B.valD os2=B.valT (wds a) i*b+x*B.valT (wds b) j*18446744073709551616 ^ i∧fget fr 3=some (ptr (2*(h.n+1)) 0)∧fget fr 4=some (ptr (2*(h.n+1+1)) 0)∧fget fr 6=some (ptr (2*ka) 0)∧fget fr 7=some fv∧fget fr 8=some (KN i)∧fget fr 9=some (K64 x)∧fget fr 16=some (.agg (wdC a).toArray)∧fget fr 17=some (KN i)∧fget fr 21=some (.agg (wdC b).toArray)∧fget fr 22=some (KN j)) 8
    ⟨0,os,by omega,S,g,hl,hd,by rw[hv];simp[B.valT],by simp[f3],by simp[f4],by simp[f6],by simp[f7],by simp,by simp,by simp[f16],by simp[f17],by simp,by simp⟩ ?_
   clear S g hl hd hv f3 f4 f6 f7 f16 f17 gb
   rintro m2 fr H2 ⟨j,os2,hjm,S,g,hl,hd,hv,f3,f4,f6,f7,f8,f9,f16,f17,f21,f22⟩
   simp -dsimp (disch:=try exact dx) only[wpS,f22]
   refine bq_intro ?_ ?_<;>intro hc2<;>simp only[decide_eq_true_eq,decide_eq_false_iff_not] at hc2
   ·have hj:j<8:=by omega
    obtain⟨y,hy⟩ : ∃x,x=wrd b j:=⟨_,rfl⟩
    have yb:y<18446744073709551616:=by rw[hy,←wds_get b hj];exact B.getD_lt (wds_dig b) j
    have st:=wds_step (a:=b) hj
    rw[←hy] at st
    have pl:=part_le (i:=i) (j:=j+1) ha hb hi (by omega)
    rw[←hx,st] at pl
    have e5:x*(B.valT (wds b) j+y*18446744073709551616 ^ j)*18446744073709551616 ^ i=x*B.valT (wds b) j*18446744073709551616 ^ i+x*y*18446744073709551616 ^ (i+j):=by rw[Nat.pow_add];grind
    rw[e5] at pl
    have sz:=size_idx b hj
    rw[←hy] at sz
    have fin : ∀(H3:IH) (os3:List Nat),SimB ka H0 H3→H3.ext.get ka=some (.cells (os3.map K64) 0 none)→os3.length=16→B.Digs os3→B.valD os3=B.valD os2+x*y*18446744073709551616 ^ (i+j)→B.valD os3=B.valT (wds a) i*b+x*B.valT (wds b) (j+1)*18446744073709551616 ^ i:=fun H3 os3 _ _ _ _ h3=>by
     rw[h3,hv,st,e5];omega
    by_cases x0:x=0
    ·have d:((x:Int) != 0)=false:=by simp[x0]
     simp -dsimp (disch:=try exact dx) only[wpS,wpT,zE,f9,f21,f22,sz,d]
     exact⟨m2 - 1,by omega,j+1,os2,by omega,S,g,hl,hd,fin H2 os2 S g hl hd (by rw[x0];omega),by simp[f3],by simp[f4],by simp[f6],by simp[f7],by simp[f8],by simp[f9],by simp[f16],by simp[f17],by simp[f21],by simp⟩
    have d:((x:Int) != 0)=true:=by simpa using x0
    by_cases y0:y=0
    ·have d2:((y:Int) != 0)=false:=by simp[y0]
     simp -dsimp (disch:=try exact dx) only[wpS,wpT,zE,f9,f21,f22,sz,d,d2]
     exact⟨m2 - 1,by omega,j+1,os2,by omega,S,g,hl,hd,fin H2 os2 S g hl hd (by rw[y0];omega),by simp[f3],by simp[f4],by simp[f6],by simp[f7],by simp[f8],by simp[f9],by simp[f16],by simp[f17],by simp[f21],by simp⟩
    have d2:((y:Int) != 0)=true:=by simpa using y0
    simp -dsimp (disch:=try exact dx) only[wpS,wpT,zE,f7,f8,f9,f21,f22,sz,d,d2]
    rw[hfv]
    have eij:(i:Int)+(j:Int)=((i+j:Nat):Int):=by omega
    rw[eij]
    have kn2:ka<H2.n:=by rw[S.1];exact nk
    refine call (gather_ok kn2 g hl hd xb yb (by omega) (by rw[hv];omega)) ?_
    rintro _ H3 ⟨rfl,S3,os3,g3',l3,d3,v3⟩
    simp -dsimp (disch:=try exact dx) only[wpS,zE,f22]
    have S4:SimB ka H0 H3:=⟨S3.1.trans S.1,S3.2.1.trans S.2.1,fun k hk=>(S3.2.2.1 k hk).trans (S.2.2.1 k hk),S3.2.2.2.trans S.2.2.2⟩
    exact⟨m2 - 1,by omega,j+1,os3,by omega,S4,g3',l3,d3,fin H3 os3 S4 g3' l3 d3 v3,by simp[f3],by simp[f4],by simp[f6],by simp[f7,hfv],by simp[f8],by simp[f9],by simp[f16],by simp[f17],by simp[f21],by simp⟩
   ·obtain rfl:j=8:=by omega
    have e8:B.valT (wds b) 8=b:=by rw[wds_valT b 8 (Nat.le_refl _),←hW,Nat.mod_eq_of_lt hb]
    rw[e8] at hv
    simp -dsimp (disch:=try exact dx) only[wpS,wpT,zE,f17]
    refine⟨m - 1,by omega,i+1,os2,by omega,S,g,hl,hd,?_,by simp[f3],by simp[f4],by simp[f6],by simp[f7],by simp[f16],by simp⟩
    rw[hv,wds_step hi,←hx]
    grind
  ·obtain rfl:i=8:=by omega
   have e8:B.valT (wds a) 8=a:=by rw[wds_valT a 8 (Nat.le_refl _),←hW,Nat.mod_eq_of_lt ha]
   rw[e8] at hv
   simp -dsimp (disch:=try exact dx) only[wpS,wpT]
   exact⟨os,S,g,hl,hd,hv,by simp[f4],by simp[f6]⟩
 rintro fr H ⟨os,S,g,hl,hd,hv,f4,f6⟩
 have hz : ∀k,8≤k→os.getD k 0=0:=fun k hk=>by
  by_cases k16:k<16
  ·apply Classical.byContradiction
   intro hn
   have h1:=dig_le (ds:=os) (n:=16) k16
   rw[show B.valT os 16=B.valD os by rw[B.valD,hl],hv] at h1
   have h2:18446744073709551616 ^ 8≤18446744073709551616 ^ k:=Nat.pow_le_pow_right (by omega) hk
   have h3:1*18446744073709551616 ^ k≤os.getD k 0*18446744073709551616 ^ k:=Nat.mul_le_mul_right _ (by omega)
   omega
  ·exact B.getD_of_ge (by omega)
 have r:=row_kn g
 have l8:(.slice (some ⟨2*ka,8,none⟩) 8 17:Value)=.slice (some ⟨2*ka,8,none⟩) 8 17:=rfl
 have g2':=(S.2.2.1 (h.n+1+1) (by omega)).trans g2
 simp -dsimp (disch:=try exact dx) only[wpS,zE,ln135,f6,all_hi]
 refine loop (fun m fr H2 => ∃i:Nat,i+m=8∧H2=H∧fget fr 4=some (ptr (2*(h.n+1+1)) 0)∧fget fr 6=some (ptr (2*ka) 0)∧fget fr 12=some (.int .u64 0)∧fget fr 41=some (.slice (some ⟨2*ka,8,none⟩) 8 17)∧fget fr 42=some (KN 8)∧fget fr 43=some (KN i)) 8
  ⟨0,by omega,rfl,by simp[f4],by simp[f6],by simp,by simp,by simp,by simp⟩ ?_
 clear f4 f6
 rintro m fr H2 ⟨i,him,rfl,f4,f6,f12,f41,f42,f43⟩
 simp -dsimp (disch:=try exact dx) only[wpS,f42,f43]
 refine bq_intro ?_ ?_<;>intro hc<;>simp only[decide_eq_true_eq,decide_eq_false_iff_not] at hc
 ·have hi:i<8:=by omega
  have go:=get_some (show 8+i<os.length by omega)
  rw[hz (8+i) (by omega)] at go
  simp -dsimp (disch:=try exact dx) only[wpS,wpT,zE,ld28,f12,f41,f43,hi_idx ka hi,r,map_get,go]
  exact⟨m - 1,by omega,i+1,by omega,rfl,by simp[f4],by simp[f6],by simp,by simp[f41],by simp[f42],by simp⟩
 ·have tk:os.take 8=wds (a*b):=by
   have v8:=B.valD_take (ds:=os) (m:=8) (by omega) hz
   rw[hv] at v8
   rw[←v8]
   exact(wds_of (by rw[List.length_take];omega) (hd.take 8)).symm
  have tkk:List.take 8 (List.drop 0 (os.map K64))=wdC (a*b):=by rw[List.drop_zero,←List.map_take,tk,wdC_wds]
  simp -dsimp (disch:=try exact dx) only[wpS,wpT,zE,f6,all_lo]
  rw[d_s2a (n:=8) u234 rfl (by omega) (by omega)]
  have ol:(os.map K64).length=16:=by rw[List.length_map,hl]
  simp -dsimp (disch:=try exact dx) only[wpS,wpT,zE,zL,zA,ld234,st234,f4,f12,r,tkk,ol,wdC_len,wdC_all,g2',wd_spl,wd_take0]
  have eN:=S.1
  exact⟨⟨by simp only[put_n];omega,by show _=_;rw[←E0.base];exact S.2.1,fun j hj=>by rw[get_put_old _ _ (by omega),S.2.2.1 j (by omega)];exact E0.get j hj,fun j hj=>by show H2.fams.get j=_;rw[S.2.2.2];exact E0.fams j hj⟩,rfl⟩
theorem nProduct_ok {h:IH} (a b:Nat) (ha:a<W8) (hb:b<W8) (hab:a*b<W8) :
  WV prog (.func (.func 247) #[] #[]) [numV false a,numV false b] h fun r h'=>Ext h h'∧r=.tuple #[numV false (a*b),.bool false]:=by
 obtain⟨H0,hH0,n0,E0,k0,k1,k2⟩:=boxes3 h (.bool false :: wdC a) (.bool false :: wdC b) [.bool false,ZW,ZW,ZW,ZW,ZW,ZW,ZW,ZW]
 have ee:(false != false)=false:=rfl
 refine enter (nt:=25) (rs:=[.cell 4 236,.tmp 5]) Proofs.Tryz.func247 rfl rfl rfl (by simp) ?_
 simp -dsimp (disch:=try exact dx) only[wpS,wpT,zE,zL,zA,zc236,fa236_1,ld234,num_cells]
 rw[←hH0]
 clear hH0
 simp -dsimp (disch:=try exact dx) only[wpS,wpT,zE,zL,zA,fa236_1,ld234,row_of k1,num_take,wdC_len]
 refine call (szTimes_ok ha hb hab) ?_
 rintro _ h1 ⟨X1,rfl⟩
 have m1:=X1.n
 obtain⟨H2,hH2⟩ : ∃H,H=(h1.new (.cells [ZW,ZW,ZW,ZW,ZW,ZW,ZW,ZW] 0 none)).put h1.n (.cells (wdC (a*b)) 0 none):=⟨_,rfl⟩
 have e1:Ext h1 H2:=by rw[hH2];exact((Ext.refl _).new _).put (Nat.le_refl _) _
 have n2:H2.n=h1.n+1:=by rw[hH2];rfl
 have q6:H2.ext.get h1.n=some (.cells (wdC (a*b)) 0 none):=by rw[hH2];simp (disch:=try exact dx) only[get_put_same]
 have X2:=X1.trans e1
 have q0:=X2.kept (by omega) k0
 have q1:=X2.kept (by omega) k1
 have q2:=X2.kept (by omega) k2
 simp -dsimp (disch:=try exact dx) only[wpS,wpT,zE,zL,zA,ld234,zc234,st234,fa236_0,ld4,bn4,cells8,wdC_len,wdC_all,wd_spl,←hH2,row_of q0,row_of q1,row_of q6,wd_take0]
 clear hH2
 refine call (wof_ok false (a*b) hab) ?_
 rintro _ h3 ⟨X3,rfl⟩
 have q3:=X3.kept (by omega) q2
 rw[Bool.false_and]
 simp -dsimp (disch:=try exact dx) only[wpS,wpT,zE,zL,zA,st236,ld236,q3,num_cells,num_take9,wdC_len,wdC_all,wd_spl]
 exact⟨((E0.trans X2).trans X3).put (by omega) _,rfl⟩
theorem asc42:asc opsL (.int .u8 42)=some (.func (.func 247) #[] #[]):=(asc_tl (u8_ne (by decide))).trans ((asc_tl (u8_ne (by decide))).trans (asc_hd _ _ _))
theorem wmulN_ok {h:IH} (a b:Nat) (ha:a<H8) (hb:b<H8) (hab:a*b<H8):WV prog (.func (.func 32) #[] #[]) [wdV a,wdV b] h fun r h'=>Ext h h'∧r=.tuple #[wdV (a*b),KI 0]:=by
 have h2:=H8_two
 obtain⟨H0,hH0,n0,E0,k0,k1,k2⟩:=boxes3 h (wdC a) (wdC b) [ZW,ZW,ZW,ZW,ZW,ZW,ZW,ZW]
 refine enter (nt:=11) (rs:=[.cell 4 30,.tmp 5]) Proofs.Tryz.func32 rfl rfl rfl (by simp) ?_
 simp -dsimp (disch:=try exact dx) only[wpS,zE,zL,zA,zc30,ld30,cells8,wdC_len,wd_take0]
 rw[←hH0]
 clear hH0
 refine call (both_ok a b (a*b) ha hb 42 _ asc42 (by omega) (fun h1=>nProduct_ok a b (by omega) (by omega) (by omega))) ?_
 rintro _ h1 ⟨X1,rfl⟩
 rw[if_pos hab]
 have q2:=X1.kept (by omega) k2
 simp -dsimp (disch:=try exact dx) only[wpS,wpT,zE,zL,zA,ld30,st30,q2,cells8,wdC_len,wdC_all,wd_spl,wd_take0]
 exact⟨(E0.trans X1).put (by omega) _,rfl⟩
end Go.Id

namespace Go.Id
open Go
open Go.Proofs.Tryz (prog)
open Nat renaming reduceAdd→zA,reduceEqDiff→zE
set_option maxHeartbeats 16000000
open Classical in
theorem kreversible_ok {h:IH} {v w:Value} {ll:List (List (Nat×Nat))} {t:List Nat} (hv:ShLs h v ll) (hw:WiSl h w t) (hk:kerOk ll) (ht:t.length=ll.length) (hp : ∀p∈t,1≤wdI p) (hr : ∀i j,i<ll.length→j<i→wrat (t.getD i 0)*kAt ll i j=wrat (t.getD j 0)*kAt ll j i) :
  WV prog (.func (.func 30) #[] #[]) [v,w] h fun r h'=>Ext h h'∧r=.tuple #[.bool true,KI 0]:=by
 obtain⟨_,_,hlen⟩:=hv.co
 have hlw:=hw.1.len (P:=prog) sl42
 have l60:=hk.2.1
 refine enter (nt:=67) (rs:=[.tmp 4,.tmp 5]) Proofs.Tryz.func30 rfl rfl rfl (by simp) ?_
 simp -dsimp (disch:=try exact dx) only[wpS,zE,zA]
 refine call (kcheck_ok hv) ?_
 rintro _ h1 ⟨X1,rfl⟩
 rw[kerE,if_pos hk]
 have d:(((t.length:Nat):Int) != ((ll.length:Nat):Int))=false:=by simp[ht]
 simp -dsimp (disch:=try exact dx) only[wpS,wpT,zE,hlen,hlw,d]
 refine call (knegative_ok (least:=0) (hw.keep X1.keep) ⟨by omega,by omega⟩) ?_
 rintro _ h2 ⟨X2,rfl⟩
 have hneg : ¬∃p∈t,wdI p<0:=by
  rintro⟨p,h1,h2⟩
  have:=hp p h1
  omega
 rw[decide_eq_false hneg]
 simp -dsimp (disch:=try exact dx) only[wpS,zE]
 refine call (kread_ok (hw.keep (X1.trans X2).keep) (by omega)) ?_
 rintro v7 h3 ⟨X3,sv7⟩
 have X03:=(X1.trans X2).trans X3
 have pt : ∀j,j<ll.length→t.getD j 0<W8∧(t.map wrat)[j]?=some (wrat (t.getD j 0)):=fun j hj=>by
  have hjt:j<t.length:=by omega
  have hm:t.getD j 0∈t:=by rw[List.getD_eq_getElem?_getD,List.getElem?_eq_getElem hjt];exact List.getElem_mem hjt
  refine⟨hw.2.2 _ hm,?_⟩
  rw[List.getElem?_map,List.getD_eq_getElem?_getD,List.getElem?_eq_getElem hjt];rfl
 have hv3:=hv.keep X03.keep
 obtain⟨cst,svt⟩ : ∃cs,SlOf h3 4 v7 (t.map wrat).length cs:=⟨_,sv7.choose_spec.1⟩
 rw[List.length_map,ht] at svt
 simp -dsimp (disch:=try exact dx) only[wpS,zE,hlen]
 refine loop_cut (fun fr H=>Ext h3 H∧fget fr 8=some (.bool true)) ?_ ?_
 ·refine loop (fun m fr H => ∃i:Nat,i+m=ll.length∧Ext h3 H∧fget fr 0=some v∧fget fr 7=some v7∧fget fr 8=some (.bool true)∧fget fr 28=some (KN ll.length)∧fget fr 29=some (KN i)) ll.length
   ⟨0,by omega,Ext.refl _,by simp,by simp,by simp,by simp,by simp⟩ ?_
  rintro m fr H ⟨i,him,E,f0,f7,f8,f28,f29⟩
  simp -dsimp (disch:=try exact dx) only[wpS,f28,f29]
  refine bq_intro ?_ ?_<;>intro hc<;>simp only[decide_eq_true_eq,decide_eq_false_iff_not] at hc
  ·have hi:i<ll.length:=by omega
   simp -dsimp (disch:=try exact dx) only[wpS,wpT,zE,f29]
   refine loop (fun m2 fr H => ∃j:Nat,j+m2=i∧Ext h3 H∧fget fr 0=some v∧fget fr 7=some v7∧fget fr 8=some (.bool true)∧fget fr 9=some (KN i)∧fget fr 28=some (KN ll.length)∧fget fr 29=some (KN i)∧fget fr 32=some (KN i)∧fget fr 33=some (KN j)) i
    ⟨0,by omega,E,by simp[f0],by simp[f7],by simp[f8],by simp,by simp[f28],by simp[f29],by simp,by simp⟩ ?_
   clear E f0 f7 f8 f28 f29
   rintro m2 fr H ⟨j,hjm,E,f0,f7,f8,f9,f28,f29,f32,f33⟩
   simp -dsimp (disch:=try exact dx) only[wpS,f32,f33]
   refine bq_intro ?_ ?_<;>intro hc2<;>simp only[decide_eq_true_eq,decide_eq_false_iff_not] at hc2
   ·have hj:j<i:=by omega
    obtain⟨ri,p,e1,l1,e2,ok1,nn1,k1⟩:=kerOk_at hk (i:=i) (j:=j) (by omega) (by omega)
    obtain⟨rj,q,e3,l3,e4,ok2,nn2,k2⟩:=kerOk_at hk (i:=j) (j:=i) (by omega) (by omega)
    obtain⟨wi,A1,A2,A3⟩:=hv3.atAll e1
    obtain⟨wj,B1,B2,B3⟩:=hv3.atAll e3
    have Lp:=fun h' (K:Keep h3 h')=>A2.ld K e2
    have Lq:=fun h' (K:Keep h3 h')=>B2.ld K e4
    have ip:=A2.1.idx es60 (P:=prog) (k:=.i64) (j:=j) (by omega)
    have iq:=B2.1.idx es60 (P:=prog) (k:=.i64) (j:=i) (by omega)
    have wp:=A2.2.2 p (List.mem_of_getElem? e2)
    have wq:=B2.2.2 q (List.mem_of_getElem? e4)
    obtain⟨u1,u2,u3,u4,Lu,pu⟩:=sv7.atAll kept_p (pt j (by omega)).2 ag139 sz139 (P:=prog)
    obtain⟨w1,w2,w3,w4,Lw,pw⟩:=sv7.atAll kept_p (pt i (by omega)).2 ag139 sz139 (P:=prog)
    have iu:=svt.idx es153 (P:=prog) (k:=.i64) (j:=j) (by omega)
    have iw:=svt.idx es153 (P:=prog) (k:=.i64) (j:=i) (by omega)
    have K0:=E.keep
    have qb1:QB 512 (kAt ll i j):=by rw[k1];exact qb512 wp.1 wp.2 ok1
    have qb2:QB 512 (kAt ll j i):=by rw[k2];exact qb512 wq.1 wq.2 ok2
    have qb3:=wrat_qb (pt j (by omega)).1
    have qb4:=wrat_qb (pt i (by omega)).1
    simp -dsimp (disch:=try exact dx) only[wpS,wpT,zE,f33]
    refine drawn [(3,[12]),(16,[11,12,25]),(20,[11,12]),(23,[11,12])] (by kernel_rfl) (by kernel_rfl) rfl ?_
    simp -dsimp (disch:=try exact dx) only[wpS,zE,f0,f7,f9,iw,Lw H K0,A3,A1 H K0,ip,Lp H K0]
    refine call (shread_ok p.1 p.2 wp.1 wp.2) ?_
    rintro r5 h5 ⟨X5,p5⟩
    have p5:=p5.rat ok1
    rw[←k1] at p5
    have K5:=(E.trans X5).keep
    simp -dsimp (disch:=try exact dx) only[wpS,zE]
    refine call (rtimes_ok (pw.keep K5) p5 qb4 qb1 (by omega)) ?_
    rintro r6 h6 ⟨X6,p6⟩
    have E6:=(E.trans X5).trans X6
    have K6:=E6.keep
    simp -dsimp (disch:=try exact dx) only[wpS,zE,f0,f7,f9,iu,Lu h6 K6,B3,B1 h6 K6,iq,Lq h6 K6]
    refine call (shread_ok q.1 q.2 wq.1 wq.2) ?_
    rintro r7 h7 ⟨X7,p7⟩
    have p7:=p7.rat ok2
    rw[←k2] at p7
    have E7:=E6.trans X7
    have K7:=E7.keep
    simp -dsimp (disch:=try exact dx) only[wpS,zE]
    refine call (rtimes_ok (pu.keep K7) p7 qb3 qb2 (by omega)) ?_
    rintro r8 h8 ⟨X8,p8⟩
    simp -dsimp (disch:=try exact dx) only[wpS,zE]
    refine call (rcmp_ok (p6.keep (X7.trans X8).keep) p8 (qb4.mul qb1) (qb3.mul qb2) (by omega)) ?_
    rintro _ h9 ⟨X9,rfl⟩
    rw[hr i j hi hj,if_neg Rat.lt_irrefl,if_pos rfl]
    simp -dsimp (disch:=try exact dx) only[wpS,wpT,zE]
    refine⟨wpSteady_c2 (wpSteady_one rfl rfl rfl rfl (steady_load rfl (Lw H K0) (Lw h5 K5))) (wpSteady_c2 (wpSteady_t2 (wpSteady_one rfl rfl rfl rfl (steady_load rfl (Lu h6 K6) (Lu H K0))) (wpSteady_t2 (wpSteady_one rfl rfl rfl rfl (steady_load rfl (Lu h6 K6) (Lu h5 K5))) (wpSteady_one rfl rfl rfl rfl (steady_load rfl (Lu h6 K6) (Lu h7 K7))))) (wpSteady_c2 (wpSteady_t2 (wpSteady_one rfl rfl rfl rfl (steady_load rfl (B1 h6 K6) (B1 H K0))) (wpSteady_one rfl rfl rfl rfl (steady_load rfl (B1 h6 K6) (B1 h5 K5)))) (wpSteady_t2 (wpSteady_one rfl rfl rfl rfl (steady_load rfl (Lq h6 K6) (Lq H K0))) (wpSteady_one rfl rfl rfl rfl (steady_load rfl (Lq h6 K6) (Lq h5 K5)))))),?_⟩
    simp -dsimp (disch:=try exact dx) only[wpS,wpT,zE,zA,f33]
    exact⟨m2 - 1,by omega,j+1,by omega,(E7.trans X8).trans X9,by simp[f0],by simp[f7],by simp[f8],by simp[f9],by simp[f28],by simp[f29],by simp[f32],by simp⟩
   ·simp -dsimp (disch:=try exact dx) only[wpS,wpT,zE,f29]
    exact⟨m - 1,by omega,i+1,by omega,E,by simp[f0],by simp[f7],by simp[f8],by simp[f28],by simp⟩
  ·simp -dsimp (disch:=try exact dx) only[wpS,wpT]
   exact⟨E,by simp[f8]⟩
 rintro fr H ⟨E,f8⟩
 simp -dsimp (disch:=try exact dx) only[wpS,wpT,zE,f8]
 exact X03.trans E
end Go.Id

namespace Go.Id
open Go
end Go.Id

namespace Go.Id
open Go
theorem pow2_le {a b:Nat} (h:a≤b):(2:Nat) ^ a≤2 ^ b:=Nat.pow_le_pow_right (by omega) h
structure WB (h hh:IH) (b7 b9 b10:Nat) (s7 s9 s10:Value) (n k:Nat):Prop where
 e:Ext h hh
 l7:h.n+1+1+1+1≤b7
 l9:b7<b9
 l10:b9<b10
 lt:b10<hh.n
 g4:hh.ext.get (h.n+1+1)=some (.cells [ZW,ZW,ZW,ZW,ZW,ZW,ZW,ZW] 0 none)
 g5:hh.ext.get (h.n+1+1+1)=some (.cells [.int .u64 0] 0 none)
 g7:hh.ext.get b7=some (.cells [.bool false,s7] 0 none)
 g9:hh.ext.get b9=some (.cells [.bool false,s9] 0 none)
 g10:hh.ext.get b10=some (.cells [.bool false,s10] 0 none)
 p7:LongIs hh (.agg #[.bool false,s7]) ((n:Nat):Int)
 p9:LongIs hh (.agg #[.bool false,s9]) ((2 ^ 64:Nat):Int)
 p10:LongIs hh (.agg #[.bool false,s10]) ((2 ^ k:Nat):Int)
structure FW (fr:Fr) (h:IH) (b7 b9 b10 k:Nat):Prop where
 f2:fget fr 2=some (ptr (2*h.n) 0)
 f4:fget fr 4=some (ptr (2*(h.n+1+1)) 0)
 f5:fget fr 5=some (ptr (2*(h.n+1+1+1)) 0)
 f7:fget fr 7=some (ptr (2*b7) 0)
 f8:fget fr 8=some (KN k)
 f9:fget fr 9=some (ptr (2*b9) 0)
 f10:fget fr 10=some (ptr (2*b10) 0)
end Go.Id

namespace Go.Id
open Go
end Go.Id

namespace Go.Id
open Go
end Go.Id

namespace Go.Id
open Go
end Go.Id

namespace Go.Id
open Go
end Go.Id

namespace Go.Id
open Go
theorem rOf_nn {p:Nat×Nat} (h:okS p.1 p.2) (h0:0≤wdI p.1):0≤rOf p:=Rat.num_nonneg.1 (by rw[(rOf_parts h).1];exact h0)
theorem offS_sum (g:Nat→Rat) (i:Nat) : ∀m,offS g i m+qsum ((List.range m).map g)=1+if i<m then g i else 0
 | 0=>by
  rw[offS,if_neg (by omega)]
  show(1:Rat)+0=1+0
  rfl
 | m+1=>by
  have ih:=offS_sum g i m
  rw[List.range_succ,List.map_append,List.map_cons,List.map_nil,qsum_snoc,offS]
  by_cases c:m=i
  ·subst c
   rw[if_pos rfl,if_pos (by omega)]
   rw[if_neg (by omega)] at ih
   grind
  ·rw[if_neg c]
   by_cases c2:i<m
   ·rw[if_pos (show i<m+1 by omega)]
    rw[if_pos c2] at ih
    grind
   ·rw[if_neg (show ¬i<m+1 by omega)]
    rw[if_neg c2] at ih
    grind
theorem set_sum (g:Nat→Rat) (A:Rat) (i:Nat) : ∀m,qsum ((List.range m).map fun j=>if j=i then A else g j)=qsum ((List.range m).map g)+if i<m then A - g i else 0
 | 0=>by
  rw[if_neg (by omega)]
  exact(Rat.add_zero _).symm
 | m+1=>by
  have ih:=set_sum g A i m
  rw[List.range_succ,List.map_append,List.map_append,List.map_cons,List.map_nil,List.map_cons,List.map_nil,qsum_snoc,qsum_snoc,ih]
  by_cases c:m=i
  ·subst c
   rw[if_pos rfl,if_pos (show m<m+1 by omega),if_neg (show ¬m<m by omega)]
   grind
  ·rw[if_neg c]
   by_cases c2:i<m
   ·rw[if_pos (show i<m+1 by omega),if_pos c2]
    grind
   ·rw[if_neg (show ¬i<m+1 by omega),if_neg c2]
    grind
theorem offS_mono {g k:Nat→Rat} {i:Nat} : ∀{m:Nat},(∀j,j<m→g j≤k j)→offS k i m≤offS g i m
 | 0,_=>Rat.le_refl
 | m+1,h=>by
  have ih:=offS_mono (i:=i) (m:=m) fun j hj=>h j (by omega)
  have h1:=h m (by omega)
  rw[offS,offS]
  split
  ·exact ih
  ·grind
theorem row_kAt {ll:List (List (Nat×Nat))} (k:kerOk ll) {i:Nat} (hi:i<ll.length):qsum ((List.range ll.length).map (kAt ll i))=1:=by
 obtain⟨h1,h2⟩:=k.2.2 _ (List.getElem_mem hi)
 rw[←h2.2]
 congr 1
 refine List.ext_getElem? fun j=>?_
 rw[List.getElem?_map,List.getElem?_map]
 by_cases hj:j<ll.length
 ·obtain⟨row,p,e1,e2,e3,_,_,e6⟩:=kerOk_at k hi hj
  rw[List.getElem?_eq_getElem hi] at e1
  cases e1
  rw[List.getElem?_range hj,e3]
  exact congrArg some e6
 ·rw[List.getElem?_eq_none (by simp;omega),List.getElem?_eq_none (by omega)];rfl
theorem filt_kerOk {ll:List (List (Nat×Nat))} {t:List Nat} (k:kerOk ll) (ht:t.length=ll.length) (hp : ∀p∈t,1≤wdI p) (ho:filtOk ll t):kerOk (filtLL ll t):=by
 have hw : ∀i,i<ll.length→0<wrat (t.getD i 0):=fun i hi=>by
  have:=hp _ (List.getElem_mem (show i<t.length by omega))
  rw[List.getD_eq_getElem?_getD,List.getElem?_eq_getElem (by omega),Option.getD_some]
  unfold wrat
  exact Rat.intCast_pos.2 (by omega)
 have hk : ∀i j,i<ll.length→j<ll.length→0≤kAt ll i j:=fun i j hi hj=>by
  obtain⟨_,p,_,_,_,e4,e5,e6⟩:=kerOk_at k hi hj
  rw[e6]
  exact rOf_nn e4 e5
 have hg : ∀i j,i<ll.length→j<ll.length→0≤goQ ll t i j∧goQ ll t i j≤kAt ll i j:=fun i j hi hj=>by
  have h1:=hk i j hi hj
  have h2:=hk j i hj hi
  have w1:=hw i hi
  have w2:=hw j hj
  unfold goQ
  split
  ·rename_i c
   refine⟨?_,Rat.le_of_lt c⟩
   rw[Rat.div_def]
   exact Rat.mul_nonneg (Rat.mul_nonneg h2 (Rat.le_of_lt w2)) (Rat.le_of_lt (Rat.inv_pos.2 w1))
  ·exact⟨h1,Rat.le_refl⟩
 have hq : ∀i j,i<ll.length→j<ll.length→0≤filtQ ll t i j:=fun i j hi hj=>by
  unfold filtQ
  split
  ·have h1:=offS_mono (i:=i) (m:=ll.length) (g:=goQ ll t i) (k:=kAt ll i) fun j hj=>(hg i j hi hj).2
   have h2:=offS_sum (kAt ll i) i ll.length
   rw[row_kAt k hi,if_pos hi] at h2
   have h3:=hk i i hi hi
   grind
  ·exact(hg i j hi hj).1
 have hs : ∀i,i<ll.length→qsum (filtRow ll t i)=1:=fun i hi=>by
  have h1:=set_sum (goQ ll t i) (offS (goQ ll t i) i ll.length) i ll.length
  have h2:=offS_sum (goQ ll t i) i ll.length
  rw[if_pos hi] at h1 h2
  have e:filtRow ll t i=(List.range ll.length).map fun j=>if j=i then offS (goQ ll t i) i ll.length else goQ ll t i j:=rfl
  rw[e,h1]
  grind
 refine⟨by rw[filtLL_len];exact k.1,by rw[filtLL_len];exact k.2.1,fun l hl=>?_⟩
 obtain⟨i,hi,rfl⟩:=List.mem_map.1 hl
 have hi:=List.mem_range.1 hi
 have qw:=ho i hi
 refine⟨by rw[List.length_map,filtRow_len,filtLL_len],fun p hp=>?_,?_⟩
 ·obtain⟨q,hq',rfl⟩:=List.mem_map.1 hp
  have h1:=(shq_rOf (qw q hq')).2
  obtain⟨j,hj⟩:=List.getElem?_of_mem hq'
  have hjl:=(List.getElem?_eq_some_iff.1 hj).1
  rw[filtRow_len] at hjl
  rw[filtRow_at hjl] at hj
  cases hj
  have h2:=hq i j hi hjl
  rintro(c|c)
  ·exact c h1
  ·rw[show wdI (shq (filtQ ll t i j)).1=(filtQ ll t i j).num from wdI_wideN (qw _ hq').1] at c
   have:=Rat.num_nonneg.2 h2
   omega
 ·rw[List.map_map,show((filtRow ll t i).map (rOf ∘ shq))=filtRow ll t i from ?_]
  ·exact hs i hi
  ·refine(List.map_congr_left fun q hq'=>(shq_rOf (qw q hq')).1).trans (List.map_id _)
end Go.Id

namespace Go.Id
open Go
end Go.Id

namespace Go.Id
open Go
end Go.Id

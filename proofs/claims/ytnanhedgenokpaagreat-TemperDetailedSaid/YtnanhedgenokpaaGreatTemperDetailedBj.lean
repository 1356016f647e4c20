/-
  The functions of package share, by value: what WdEvS reckons is what they give. Contracts: package temper: beyond, Check.
-/
import Derived.Test.YtnanhedgenokpaaGreatTemperDetailedBf
import Derived.Test.YtnanhedgenokpaaGreatTemperDetailedBe
import Derived.Test.YtnanhedgenokpaaGreatTemperDetailedBi
import Derived.Test.YtnanhedgenokpaaGreatTemperDetailedAt
import Derived.Test.YtnanhedgenokpaaGreatTemperDetailedAs
import Derived.Test.YtnanhedgenokpaaGreatTemperDetailedAv
import Derived.Test.YtnanhedgenokpaaGreatTemperDetailedAp
set_option linter.unusedVariables false
set_option linter.unusedSimpArgs false
set_option linter.defProp false
set_option linter.deprecated false
namespace Go.Id
open Go
theorem w512_eq:w512=W8:=by rw[W8_eq];decide +kernel
theorem h512_eq:h512=H8:=by unfold H8;decide +kernel
theorem wordsF_some : ∀(l:List Value) (x:Nat),wordsF l=some x→x<18446744073709551616 ^ l.length∧l=(List.range l.length).map fun i=>K64 (wrd x i)
 | [],x,h=>by
  cases h;exact⟨by decide,rfl⟩
 | v :: l,x,h=>by
  change wordC v (wordsF l)=some x at h
  unfold wordC at h
  split at h
  case h_2=>cases h
  rename_i w
  obtain⟨h0,h⟩:=iB_some h
  cases hr:wordsF l with
  | none=>rw[hr] at h;cases h
  | some r =>
   rw[hr] at h
   cases h
   obtain⟨a,b⟩:=wordsF_some l r hr
   have hw:w<18446744073709551616:=bleI.1 h0
   show w+18446744073709551616*r<18446744073709551616 ^ (l.length+1)∧_
   refine⟨?_,?_⟩
   ·rw[Nat.pow_succ]
    have:(r+1)*18446744073709551616≤18446744073709551616 ^ l.length*18446744073709551616:=Nat.mul_le_mul_right _ a
    omega
   ·show _=(List.range (l.length+1)).map fun i=>K64 (wrd (w+18446744073709551616*r) i)
    rw[List.range_succ_eq_map,List.map_cons,List.map_map]
    have e0:wrd (w+18446744073709551616*r) 0=w:=by unfold wrd;rw[Nat.pow_zero,Nat.div_one];omega
    have e1 : ∀i,wrd (w+18446744073709551616*r) (i+1)=wrd r i:=fun i=>by
     unfold wrd
     rw[Nat.pow_succ,Nat.mul_comm (18446744073709551616 ^ i),←Nat.div_div_eq_div_mul,show(w+18446744073709551616*r) / 18446744073709551616=r from by omega]
    rw[e0]
    congr 1
    refine b.trans (List.map_congr_left fun i _=>?_)
    show _=K64 (wrd (w+18446744073709551616*r) (i+1))
    rw[e1]
theorem wrd_mod8 (x i:Nat) (hi:i<8):wrd (x % 18446744073709551616 ^ 8) i=wrd x i:=by
 have h:=wrd_add_low (n:=x % 18446744073709551616 ^ 8) (x:=x / 18446744073709551616 ^ 8) hi
 rw[←h,show x % 18446744073709551616 ^ 8+x / 18446744073709551616 ^ 8*18446744073709551616 ^ 8=x from by rw[Nat.mul_comm];exact Nat.mod_add_div _ _]
theorem wrd_div8 (x i:Nat):wrd (x / 18446744073709551616 ^ 8) i=wrd x (8+i):=by
 unfold wrd
 rw[Nat.div_div_eq_div_mul,←Nat.pow_add]
theorem words16 (x:Nat):((List.range 16).map fun i=>K64 (wrd x i))=shC (x % W8) (x / W8):=by
 rw[shC,wdC,wdC,W8_eq,show(16:Nat)=8+8 from rfl,List.range_add,List.map_append,List.map_map]
 congr 1
 ·exact List.map_congr_left fun i hi=>by rw[wrd_mod8 x i (by simpa using hi)]
 ·exact List.map_congr_left fun i hi=>by
   show K64 (wrd x (8+i))=_
   rw[wrd_div8]
theorem sgnF_eq {n:Nat} (hn:n<W8):sgnF n=wdI n:=by
 have e1:=h512_eq
 have e2:=w512_eq
 have e3:=W8_two
 unfold sgnF wdI
 rw[iB_eq,e1,e2]
 by_cases h:n<H8
 ·rw[if_pos h,bleI.2 h];rfl
 ·rw[if_neg h,Bool.eq_false_iff.2 (fun hb=>h (bleI.1 hb))]
  show Int.negSucc (W8 - n - 1)=_
  omega
theorem shareF_some {v:Value} {k:Int→Int→Option Value} {r:Value} (h:shareF v k=some r) : ∃p:Nat×Nat,(p.1<W8∧p.2<W8)∧v=shV p.1 p.2∧k (wdI p.1) (wdI p.2)=some r:=by
 unfold shareF at h
 split at h
 case h_2=>cases h
 rename_i cs
 obtain⟨h0,h⟩:=iB_some h
 have hl:cs.toList.length=16:=by rw[←lenL_eq];exact Nat.beq_eq.mp h0
 cases hx:wordsF cs.toList with
 | none=>rw[hx] at h;cases h
 | some x =>
  rw[hx,bO_some,fN_eq] at h
  obtain⟨a,b⟩:=wordsF_some _ _ hx
  rw[hl] at a b
  have ex:x<W8*W8:=by rw[W8_eq,←Nat.pow_add];exact a
  have hp:0<W8:=by have:=W8_two;have:=H8_pos;omega
  have q1:x % W8<W8:=Nat.mod_lt _ hp
  have q2:x / W8<W8:=by rw[Nat.div_lt_iff_lt_mul hp];exact ex
  refine⟨(x % W8,x / W8),⟨q1,q2⟩,?_,?_⟩
  ·rw[shV,←words16,←b]
  ·have h2:k (sgnF (x % w512)) (sgnF (x / w512))=some r:=h
   rw[w512_eq,sgnF_eq q1,sgnF_eq q2] at h2
   exact h2
theorem wideF_some {v:Value} {k:Int→Option Value} {r:Value} (h:wideF v k=some r) : ∃n:Nat,n<W8∧v=wdV n∧k (wdI n)=some r:=by
 unfold wideF at h
 split at h
 case h_2=>cases h
 rename_i cs
 obtain⟨h0,h⟩:=iB_some h
 have hl:cs.toList.length=8:=by rw[←lenL_eq];exact Nat.beq_eq.mp h0
 cases hx:wordsF cs.toList with
 | none=>rw[hx] at h;cases h
 | some x =>
  rw[hx,bO_some,fN_eq] at h
  obtain⟨a,b⟩:=wordsF_some _ _ hx
  rw[hl] at a b
  have q1:x<W8:=by rw[W8_eq];exact a
  refine⟨x,q1,?_,?_⟩
  ·rw[wdV,wdC,←b]
  ·rw[sgnF_eq q1] at h
   exact h
theorem intF_some {v:Value} {k:Int→Option Value} {r:Value} (h:intF v k=some r) : ∃z:Int,v=KI z∧k z=some r:=by
 unfold intF at h
 split at h
 case h_2=>cases h
 exact⟨_,rfl,h⟩
theorem wordsL_eq (tl:List Value) : ∀(k x:Nat),wordsL k x tl=((List.range k).map fun i=>K64 (wrd x i)) ++ tl
 | 0,_=>rfl
 | k+1,x=>by
  show fN (x % 18446744073709551616) (fun w=>Value.int .u64 (.ofNat w) :: wordsL k (x / 18446744073709551616) tl)=_
  rw[fN_eq,wordsL_eq tl k,List.range_succ_eq_map,List.map_cons,List.map_map,List.cons_append]
  have e0:wrd x 0=x % 18446744073709551616:=by unfold wrd;rw[Nat.pow_zero,Nat.div_one]
  rw[e0]
  congr 2
  refine List.map_congr_left fun i _=>?_
  show _=K64 (wrd x (i+1))
  unfold wrd
  rw[Nat.pow_succ,Nat.mul_comm (18446744073709551616 ^ i),Nat.div_div_eq_div_mul]
theorem wordF_eq {z:Int} (hz:InW z):wordF z=wideN z:=by
 have e2:=w512_eq
 unfold wideN
 cases z with
 | ofNat n=>rfl
 | negSucc n =>
  show w512 - (n+1)=_
  rw[e2,if_neg (by omega)];rfl
theorem aggF_eq {a b:Int} (ha:InW a) (hb:InW b):aggF a b=shV (wideN a) (wideN b):=by
 unfold aggF shV shC wdC
 rw[wordsL_eq,wordsL_eq,wordF_eq ha,wordF_eq hb,List.append_nil]
theorem inF_eq (z:Int):inF z=decide (InW z):=by
 have e1:=h512_eq
 have:=H8_pos
 rw[Bool.eq_iff_iff,decide_eq_true_eq]
 unfold InW
 cases z with
 | ofNat n =>
  show Nat.ble (n+1) h512=true ↔ -(H8:Int)≤(n:Int)∧(n:Int)<H8
  rw[bleI,e1]
  omega
 | negSucc n =>
  show Nat.ble (n+1) h512=true↔_
  rw[bleI,e1]
  omega
theorem toldF_eq {n d:Int} (hd:0<d):toldF n d=toldV (Rat.divInt n d):=by
 obtain⟨a,b⟩:=low_pos (n:=n) hd
 have z0:InW 0:=⟨by have:=H8_pos;omega,by have:=H8_pos;omega⟩
 have zz:aggF 0 0=shV 0 0:=by rw[aggF_eq z0 z0];rfl
 unfold toldF toldV
 rw[fN_eq,iB_eq,iB_eq,inF_eq,inF_eq]
 rw[show Int.ediv n (Int.ofNat (Int.gcd n d))=(Rat.divInt n d).num from a,show Int.ediv d (Int.ofNat (Int.gcd n d))=(Rat.divInt n d).den from b,zz]
 unfold QW
 by_cases c1:InW (Rat.divInt n d).num
 ·by_cases c2:InW ((Rat.divInt n d).den:Int)
  ·rw[if_pos ⟨c1,c2⟩,decide_eq_true c1,decide_eq_true c2,aggF_eq c1 c2];rfl
  ·rw[if_neg (fun h=>c2 h.2),decide_eq_true c1,decide_eq_false c2];rfl
 ·rw[if_neg (fun h=>c1 h.1),decide_eq_false c1];rfl
theorem posF_eq (z:Int):posF z=decide (0<z):=by
 rw[Bool.eq_iff_iff,decide_eq_true_eq]
 cases z with
 | ofNat n =>
  show Nat.ble 1 n=true↔0<(n:Int)
  rw[bleI];omega
 | negSucc n=>exact⟨fun h=>Bool.noConfusion h,fun h=>absurd h (by omega)⟩
theorem zeroF_eq (z:Int):zeroF z=decide (z=0):=by
 rw[Bool.eq_iff_iff,decide_eq_true_eq]
 cases z with
 | ofNat n =>
  show Nat.beq n 0=true↔(n:Int)=0
  rw[Nat.beq_eq];omega
 | negSucc n=>exact⟨fun h=>Bool.noConfusion h,fun h=>absurd h (by omega)⟩
theorem in64F_eq {z:Int} (h:in64F z=true):In64 z:=by
 unfold In64
 cases z with
 | ofNat n =>
  have:=bleI.1 (show Nat.ble (Nat.succ n) 9223372036854775808=true from h)
  show _≤(n:Int)∧(n:Int)<_
  omega
 | negSucc n =>
  have:=bleI.1 (show Nat.ble (Nat.succ n) 9223372036854775808=true from h)
  omega
theorem okF_ok {n d:Nat} (h:okF (wdI n) (wdI d)=true):okS n d:=by
 unfold okF at h
 rw[iB_eq,posF_eq] at h
 by_cases c:0<wdI d
 ·rw[decide_eq_true c] at h
  exact⟨c,Nat.beq_eq.mp h⟩
 ·rw[decide_eq_false c] at h;cases h
theorem okF_eq (n d:Nat):okF (wdI n) (wdI d)=(open Classical in decide (okS n d)):=by
 rw[Bool.eq_iff_iff,decide_eq_true_eq]
 refine⟨okF_ok,fun h=>?_⟩
 unfold okF
 rw[iB_eq,posF_eq,decide_eq_true h.1]
 exact Nat.beq_eq.mpr h.2
theorem divF_eq {n d:Int} (hd:d≠0):divF n d=toldV (Rat.divInt n d):=by
 cases d with
 | ofNat b =>
  show toldF n (b:Int)=toldV (Rat.divInt n (b:Int))
  have:(b:Int)≠0:=hd
  exact toldF_eq (by omega)
 | negSucc b =>
  show toldF (-n) ((b+1:Nat):Int)=_
  rw[toldF_eq (by omega)]
  congr 1
theorem cmpF_eq (x y:Int):cmpF x y=if x<y then -1 else if x=y then 0 else 1:=by
 unfold cmpF
 have e:Int.sub x y=x - y:=rfl
 rw[e]
 cases h:x - y with
 | ofNat n =>
  have h:x - y=(n:Int):=h
  cases n with
  | zero=>rw[if_neg (by omega),if_pos (by omega)];rfl
  | succ m=>rw[if_neg (by omega),if_neg (by omega)]
 | negSucc n=>rw[if_pos (by omega)]
theorem toldV_div {n d:Int} (hn:In64 n) (hd:In64 d) (d0:d≠0):toldV (Rat.divInt n d)=.tuple #[shareV (Rat.divInt n d),KI 0]:=by
 unfold toldV
 rw[if_pos (qw_div hn hd d0)]
abbrev Val (f:Value) (g:List Value→Option Value):Prop:=∀args v,args.all plain=true→g args=some v→plainT v=true∧WV Proofs.Tryz.prog f args (IH.start fun _=>none) fun r _=>r=v
theorem plain_shV (n d:Nat):plain (shV n d)=true:=by
 show(shC n d).toArray.all scal=true
 rw[shC,wdC,wdC,List.all_toArray,List.all_append,List.all_map,List.all_map]
 simp[scal]
theorem plain_toldV (q:Rat):plainT (toldV q)=true:=by
 obtain⟨n,d,e,h⟩:=toldV_form q
 rw[h]
 show [shV n d,KI e].all plain=true
 rw[List.all_cons,plain_shV];rfl
theorem val_of:Val (.func (.func 131) #[] #[]) of2:=by
 intro args v _ h
 unfold of2 at h
 split at h
 case h_2=>cases h
 obtain⟨n,e0,k⟩:=intF_some h
 clear h;subst e0;have h:=k;clear k
 obtain⟨d,e0,k⟩:=intF_some h
 clear h;subst e0;have h:=k;clear k
 obtain⟨h1,h⟩:=iB_some h
 obtain⟨h2,h⟩:=iB_some h
 obtain⟨h3,h⟩:=iB_some' h
 cases h
 have d0:d≠0:=by rw[zeroF_eq] at h3;exact of_decide_eq_false h3
 have e:=toldV_div (in64F_eq h1) (in64F_eq h2) d0
 rw[divF_eq d0]
 exact⟨plain_toldV _,(shof_ok n d (in64F_eq h1) (in64F_eq h2) d0).mono fun r h' k=>k.2.trans e.symm⟩
theorem val_of02:Val (.func (.func 55) #[] #[]) of2:=by
 intro args v _ h
 unfold of2 at h
 split at h
 case h_2=>cases h
 obtain⟨n,e0,k⟩:=intF_some h
 clear h;subst e0;have h:=k;clear k
 obtain⟨d,e0,k⟩:=intF_some h
 clear h;subst e0;have h:=k;clear k
 obtain⟨h1,h⟩:=iB_some h
 obtain⟨h2,h⟩:=iB_some h
 obtain⟨h3,h⟩:=iB_some' h
 cases h
 have d0:d≠0:=by rw[zeroF_eq] at h3;exact of_decide_eq_false h3
 have e:=toldV_div (in64F_eq h1) (in64F_eq h2) d0
 rw[divF_eq d0]
 exact⟨plain_toldV _,(ref02Of_ok n d (in64F_eq h1) (in64F_eq h2) d0).mono fun r h' k=>k.2.trans e.symm⟩
theorem val_make:Val (.func (.func 33) #[] #[]) make2:=by
 intro args v _ h
 unfold make2 at h
 split at h
 case h_2=>cases h
 obtain⟨n,hn,e0,k⟩:=wideF_some h
 clear h;subst e0;have h:=k;clear k
 obtain⟨d,hd,e0,k⟩:=wideF_some h
 clear h;subst e0;have h:=k;clear k
 obtain⟨h3,h⟩:=iB_some' h
 cases h
 have d0:wdI d≠0:=by rw[zeroF_eq] at h3;exact of_decide_eq_false h3
 rw[divF_eq d0]
 exact⟨plain_toldV _,(shmake_ok n d hn hd (fun e=>d0 ((wdI_zero_iff hd).2 e))).mono fun r h' k=>k.2⟩
theorem val_check:Val (.func (.func 147) #[] #[]) check1:=by
 intro args v _ h
 unfold check1 at h
 split at h
 case h_2=>cases h
 obtain⟨p,hp,e0,k⟩:=shareF_some h
 clear h;subst e0;have h:=k;clear k
 cases h
 rw[okF_eq,iB_eq]
 refine⟨rfl,(shcheck_ok p.1 p.2 hp.1 hp.2).mono fun r h' k=>k.2.trans ?_⟩
 by_cases c:okS p.1 p.2
 ·rw[if_pos c,decide_eq_true c];rfl
 ·rw[if_neg c,decide_eq_false c];rfl
theorem two2_some {of:Int→Int→Int→Int→Option Value} {l:List Value} {v:Value} (h:two2 of l=some v) : ∃p q:Nat×Nat,(p.1<W8∧p.2<W8)∧(q.1<W8∧q.2<W8)∧okS p.1 p.2∧okS q.1 q.2∧l = [shV p.1 p.2,shV q.1 q.2]∧of (wdI p.1) (wdI p.2) (wdI q.1) (wdI q.2)=some v:=by
 unfold two2 at h
 split at h
 case h_2=>cases h
 obtain⟨p,hp,e0,k⟩:=shareF_some h
 clear h;subst e0;have h:=k;clear k
 obtain⟨ok1,h⟩:=iB_some h
 obtain⟨q,hq,e0,k⟩:=shareF_some h
 clear h;subst e0;have h:=k;clear k
 obtain⟨ok2,h⟩:=iB_some h
 exact⟨p,q,hp,hq,okF_ok ok1,okF_ok ok2,rfl,h⟩
theorem val_cmp:Val (.func (.func 46) #[] #[]) cmp2:=by
 intro args v _ h
 obtain⟨p,q,hp,hq,ok1,ok2,e0,k⟩:=two2_some h
 clear h;subst e0;have h:=k;clear k
 cases h
 refine⟨rfl,(shcmp_ok hp hq ok1 ok2).mono fun r h' k=>k.2.trans ?_⟩
 have e:cmpF (Int.mul (wdI p.1) (wdI q.2)) (Int.mul (wdI q.1) (wdI p.2))=if rOf p<rOf q then -1 else if rOf p=rOf q then 0 else 1:=by
  rw[cmpF_eq,←cmp_rat,(rOf_parts ok1).1,(rOf_parts ok1).2,(rOf_parts ok2).1,(rOf_parts ok2).2];rfl
 rw[e]
theorem rat_sub' (x y:Rat):x - y=Rat.divInt (x.num*y.den - y.num*x.den) ((x.den:Int)*y.den):=by
 rw[show x - y=x + -y from by grind,rat_add,Rat.neg_num,Rat.neg_den]
 congr 1
 grind
end Go.Id

namespace Go.Id
open Go
open Go.Proofs.Tryz (prog)
open Nat renaming reduceAdd→zA,reduceEqDiff→zE
set_option maxHeartbeats 16000000
def InSl (h:IH) (v:Value) (l:List Int):Prop:=SlOf h 1 v l.length (l.map KI)∧l.length≤1000000000 ∧ ∀x∈l,In64 x
theorem InSl.keep {h h':IH} {v:Value} {l:List Int} (s:InSl h v l) (e:Keep h h'):InSl h' v l:=⟨s.1.keep e,s.2⟩
def outB (most n:Int):Bool:=decide (n<0) || decide (most<n)
theorem beyond1_ok {h:IH} {most n:Int} {b:Nat} (hb:b<h.n) (g:h.ext.get b=some (.cells [KI most] 0 none)) :
  WV prog (.func (.func 142) #[] #[ptr (2*b) 0]) [KI n] h fun r h'=>h'=h∧r=.bool (outB most n):=by
 unfold outB
 by_cases c:n<0
 ·have d:decide (n<0)=true:=decide_eq_true c
  refine enter (nt:=11) (rs:=[.tmp 3]) Proofs.Tryz.func142 rfl rfl rfl (by simp) ?_
  simp -dsimp (disch:=try exact dx) only[wpS,wpT,zE,zA,d,Bool.true_or]
 ·have d:decide (n<0)=false:=decide_eq_false c
  refine enter (nt:=11) (rs:=[.tmp 3]) Proofs.Tryz.func142 rfl rfl rfl (by simp) ?_
  simp -dsimp (disch:=try exact dx) only[wpS,wpT,zE,zA,ld3,d,row_of g,Bool.false_or]
theorem beyond_ok {h:IH} {v:Value} {l:List Int} {most:Int} (hv:InSl h v l) :
  WV prog (.func (.func 59) #[] #[]) [v,KI most] h fun r h'=>Ext h h'∧r=.bool (l.any (outB most)):=by
 have E1:Ext h (h.new (.cells [KI most] 0 none)):=(Ext.refl h).new _
 refine enter (nt:=8) (rs:=[.tmp 4]) Proofs.Tryz.func59 rfl rfl rfl (by simp) ?_
 simp -dsimp (disch:=try exact dx) only[wpS,zE,zA]
 refine call (containsFunc_ok (outB most) (hv.1.keep E1.keep).now hv.2.1 (fun x _=>beyond1_ok (by simp) (get_new_same _ _ rfl))) ?_
 rintro _ _ ⟨rfl,rfl⟩
 simp -dsimp (disch:=try exact dx) only[wpS,wpT,zE]
 exact E1
def ladErr (s l:List Int):Int:=if s.length<1∨60<s.length∨s.any (outB 30)=true∨l.length<1∨6<l.length∨l.any (outB 8)=true then 340 else 0
theorem teCheck_ok {h:IH} {v w:Value} {s l:List Int} (hv:InSl h v s) (hw:InSl h w l) :
  WV prog (.func (.func 51) #[] #[]) [v,w] h fun r h'=>Ext h h'∧r=KI (ladErr s l):=by
 unfold ladErr
 have e1:=hv.1.len (P:=prog) sl25
 have e2:=hw.1.len (P:=prog) sl25
 have b1:=hv.2.1
 have b2:=hw.2.1
 refine enter (nt:=31) (rs:=[.tmp 4]) Proofs.Tryz.func51 rfl rfl rfl (by simp) ?_
 by_cases a1:s.length<1
 ·rw[if_pos (.inl a1)]
  simp -dsimp (disch:=try exact dx) only[wpS,wpT,zE,zA,e1]
  exact Ext.refl _
 by_cases a2:60<s.length
 ·rw[if_pos (.inr (.inl a2))]
  simp -dsimp (disch:=try exact dx) only[wpS,wpT,zE,zA,e1]
  exact Ext.refl _
 simp -dsimp (disch:=try exact dx) only[wpS,wpT,zE,zA,e1]
 refine call (beyond_ok hv) ?_
 rintro _ h1 ⟨X1,rfl⟩
 cases c3:s.any (outB 30)
 case true =>
  rw[if_pos (.inr (.inr (.inl rfl)))]
  simp -dsimp (disch:=try exact dx) only[wpS,wpT,zE]
  exact X1
 by_cases a4:l.length<1
 ·rw[if_pos (.inr (.inr (.inr (.inl a4))))]
  simp -dsimp (disch:=try exact dx) only[wpS,wpT,zE,e2]
  exact X1
 by_cases a5:6<l.length
 ·rw[if_pos (.inr (.inr (.inr (.inr (.inl a5)))))]
  simp -dsimp (disch:=try exact dx) only[wpS,wpT,zE,e2]
  exact X1
 simp -dsimp (disch:=try exact dx) only[wpS,wpT,zE,e2]
 refine call (beyond_ok (hw.keep X1.keep)) ?_
 rintro _ h2 ⟨X2,rfl⟩
 cases c6:l.any (outB 8)
 case true =>
  rw[if_pos (.inr (.inr (.inr (.inr (.inr rfl)))))]
  simp -dsimp (disch:=try exact dx) only[wpS,wpT,zE]
  exact X1.trans X2
 rw[if_neg (by rintro(h|h|h|h|h|h)<;>first|omega|cases h)]
 simp -dsimp (disch:=try exact dx) only[wpS,wpT,zE]
 exact X1.trans X2
end Go.Id

namespace Go.Id
open Go
end Go.Id

namespace Go.Id
open Go
end Go.Id

namespace Go.Id
open Go
section
variable {P:Program}
end
end Go.Id

namespace Go.Id
open Go
end Go.Id

namespace Go.Id
open Go
end Go.Id

namespace Go.Id
open Go
end Go.Id

namespace Go.Id
open Go
end Go.Id

namespace Go.Id
open Go
end Go.Id

namespace Go.Id
open Go
abbrev Reg:=Int×Int×Int
def regC (r:Reg):List Value:=[KI r.1,KI r.2.1,KI r.2.2]
def regL (l:List Reg):List Value:=l.flatMap regC
def lowOK (won low:List Int) (n:Nat):Prop:=∀i,i<n→0≤low.getD i 0∧low.getD i 0≤won.getD i 0
instance (won low:List Int) (n:Nat):Decidable (lowOK won low n):=inferInstanceAs (Decidable (∀i,i<n→_))
def regsOf (people won low:List Int) (n:Nat):List Reg:=(List.range n).map fun i=>(people.getD i 0,won.getD i 0,low.getD i 0)
structure OX (h H1 hh:IH) (fr:Fr) (vp vw vl:Value) (m:Int) (people won low:List Int) (b:Nat) (i:Nat) (out:Value):Prop where
 e:Ext h hh
 k:Keep H1 hh
 sp:SlOf H1 1 vp people.length (people.map KI)
 sw:SlOf H1 1 vw won.length (won.map KI)
 sl:SlOf H1 1 vl low.length (low.map KI)
 bn:h.n<b∧b<hh.n
 g8:hh.ext.get h.n=some (.cells [KI 0,.slice none 0 0] 0 none)
 g11:hh.ext.get b=some (.cells [KI m,out] 0 none)
 acc:Acc hh h.n 3 out i (regL (regsOf people won low i))
 lw:lowOK won low i
 f1:fget fr 1=some vw
 f3:fget fr 3=some vl
 f8:fget fr 8=some (ptr (2*h.n) 0)
 f11:fget fr 11=some (ptr (2*b) 0)
 f12:fget fr 12=some (KI (won.take i).sum)
 f52:fget fr 52=some vp
 f53:fget fr 53=some (KI people.length)
 f54:fget fr 54=some (KI i)
end Go.Id

namespace Go.Id
open Go
end Go.Id

namespace Go.Id
open Go
end Go.Id

namespace Go.Id
open Go
end Go.Id

namespace Go.Id
open Go
theorem max_kk (P:Program) (h:IH) (ts:Array TypeId) (k:IntKind) (a b:Int):builtin P h .max ts [.int k a,.int k b]=some (.int k (if a<b then b else a),h):=by
 have h1:pureRun P (Builtin.max_ ts 0 #[.int k a,.int k b])=some (.int k (if a<b then b else a)):=by
  unfold Builtin.max_
  simp
  rfl
 show(bif [Value.int k a,Value.int k b].all plain then (pureVal P (Builtin.max_ ts 0 #[.int k a,.int k b])).map (·,h) else none)=_
 simp only[pureVal,h1]
 rfl
end Go.Id

namespace Go.Id
open Go
abbrev B8 (n:Nat):Value:=.int .u8 (n:Int)
abbrev B16 (n:Nat):Value:=.int .u16 (n:Int)
structure Dr6 (h:IH) (x:Value) (ps ls:List Nat) (u s:Nat):Prop where
 ex : ∃vp vl,x=.agg #[vp,B8 u,vl,B16 s]∧SlOf h 1 vp ps.length (ps.map B16)∧SlOf h 1 vl ls.length (ls.map B8)
 bp : ∀p∈ps,p<65536
 bl : ∀p∈ls,p<256
 bu:u<256
 bs:s<65536
 lp:ps.length<9223372036854775808
 ll:ls.length<9223372036854775808
end Go.Id

namespace Go.Id
open Go
open Go.Proofs.Tryz (prog)
def maxL:List Int→Int
 | []=>0
 | a :: l=>l.foldl max a
theorem maxL_snoc (l:List Int) (a b:Int):maxL ((a :: l) ++ [b])=max (maxL (a :: l)) b:=by
 simp[maxL,List.foldl_append]
theorem le_maxL : ∀(l:List Int) (x:Int),x∈l→x≤maxL l
 | [],x,h=>by cases h
 | a :: l,x,h=>by
  have g : ∀(l:List Int) (b x:Int),(x=b∨x∈l)→x≤l.foldl max b:=by
   intro l
   induction l with
   | nil=>intro b x h;simp at h;simp[h]
   | cons c l ih =>
    intro b x h
    rw[List.foldl_cons]
    rcases h with rfl|h
    ·have:=ih (max x c) (max x c) (.inl rfl);omega
    ·rcases List.mem_cons.1 h with rfl|h
     ·have:=ih (max b x) (max b x) (.inl rfl);omega
     ·exact ih _ _ (.inr h)
  exact g l a x (by simpa using h)
theorem maxL_mem : ∀(l:List Int),l ≠ []→maxL l∈l
 | [],h=>absurd rfl h
 | a :: l,_=>by
  have g : ∀(l:List Int) (b:Int),l.foldl max b=b∨l.foldl max b∈l:=by
   intro l
   induction l with
   | nil=>intro b;exact .inl rfl
   | cons c l ih =>
    intro b
    rw[List.foldl_cons]
    rcases ih (max b c) with h|h
    ·rcases(by omega:max b c=b∨max b c=c) with h2|h2
     ·exact .inl (h.trans h2)
     ·exact .inr (by rw[h,h2];exact List.mem_cons_self)
    ·exact .inr (List.mem_cons_of_mem _ h)
  rcases g l a with h|h
  ·show l.foldl max a∈_;rw[h];exact List.mem_cons_self
  ·exact List.mem_cons_of_mem _ h
theorem maxI_ok {h:IH} {v:Value} {l:List Int} (hv:SlOf h 1 v l.length (l.map KI)) (hl:l.length≤1000000000) (h0:l ≠ []) :
  WV prog (.func (.func 81) #[] #[]) [v] h fun r h'=>h'=h∧r=KI (maxL l):=by
 have P0:=hv.now
 have l0:0<l.length:=List.length_pos_iff.2 h0
 obtain⟨a,ha⟩ : ∃a,l[0]?=some a:=⟨_,List.getElem?_eq_getElem l0⟩
 have lP:=P0.ld (P:=prog) (t:=3) (c:=0) (by simp<;>omega) ag3
 rw[map_get,ha] at lP
 have e1:maxL (l.take 1)=a:=by
  cases l with
  | nil=>cases ha
  | cons b l=>simp at ha;subst ha;rfl
 have ix:indexAddr prog 25 v (.int .i64 0)=some (elemAddr v 0):=by
  have:=P0.idx (P:=prog) (t:=25) es25 (k:=.i64) (j:=0) l0
  simpa using this
 refine enter (nt:=25) (rs:=[.tmp 2]) Proofs.Tryz.func81 rfl rfl rfl (by simp) ?_
 simp -dsimp (disch:=try exact dx) only[wpS,wpT,Nat.reduceEqDiff,P0.len sl25,ix,lP]
 refine loop (fun m fr hh => ∃i:Nat,i+m=l.length∧0<i∧hh=h∧fget fr 0=some v∧fget fr 3=some (KI (maxL (l.take i)))∧fget fr 4=some (KN i)) (l.length - 1) ⟨1,by omega,by omega,rfl,by simp,by rw[e1];simp,by simp⟩ ?_
 rintro m fr _ ⟨i,him,hi0,rfl,f0,f3,f4⟩
 by_cases c:i<l.length
 ·obtain⟨n,hn⟩ : ∃n,l[i]?=some n:=⟨_,List.getElem?_eq_getElem c⟩
  have lN:=P0.ld (P:=prog) (t:=3) (c:=i) (by simp<;>omega) ag3
  rw[map_get,hn] at lN
  have e2:IntKind.i64.wrap ((i:Int)+1)=((i+1:Nat):Int):=by rw[wrap_i64 (by omega)];omega
  simp -dsimp (disch:=try exact dx) only[wpS,wpT,Nat.reduceEqDiff,f0,f3,f4,P0.len sl25,P0.idx es25 c,lN,max_kk,e2]
  refine⟨m - 1,by omega,i+1,by omega,by omega,rfl,by simp[f0],?_,by simp⟩
  rw[List.take_add_one,hn]
  obtain⟨b,t,hb⟩ : ∃b t,l.take i=b :: t:=by
   cases ht:l.take i with
   | nil=>have h9:=congrArg List.length ht;rw[List.length_take,List.length_nil] at h9;omega
   | cons b t=>exact⟨b,t,rfl⟩
  rw[hb,show(some n).toList = [n] from rfl,maxL_snoc]
  have:(if maxL (b :: t)<n then n else maxL (b :: t))=max (maxL (b :: t)) n:=by split<;>omega
  simp[this]
 ·simp -dsimp (disch:=try exact dx) only[wpS,wpT,Nat.reduceEqDiff,f0,f3,f4,P0.len sl25]
  rw[List.take_of_length_le (by omega)]
end Go.Id

namespace Go.Id
open Go
open Go.Proofs.Tryz (prog)
open Nat renaming reduceAdd→zA,reduceEqDiff→zE,reduceLeDiff→zL
set_option maxHeartbeats 16000000
def wiL (l:List Nat):List Value:=l.flatMap wdC
theorem wiL_len (l:List Nat):(wiL l).length=l.length*8:=by
 induction l with
 | nil=>rfl
 | cons a l ih=>rw[wiL,List.flatMap_cons,List.length_append,wdC_len,←wiL,ih,List.length_cons];omega
theorem wiL_at {l:List Nat} {i:Nat} {p:Nat} (h:l[i]?=some p):((wiL l).drop (i*8)).take 8=wdC p:=by
 induction l generalizing i with
 | nil=>simp at h
 | cons a l ih =>
  rw[wiL,List.flatMap_cons,←wiL]
  cases i with
  | zero =>
   simp at h
   subst h
   rw[Nat.zero_mul,List.drop_zero,List.take_append_of_le_length (by rw[wdC_len];omega),List.take_of_length_le (by rw[wdC_len];omega)]
  | succ i =>
   simp at h
   rw[List.drop_append,wdC_len,List.drop_of_length_le (by rw[wdC_len];omega),List.nil_append,show(i+1)*8 - 8=i*8 by omega]
   exact ih h
theorem wiL_snoc (l:List Nat) (p:Nat):wiL (l ++ [p])=wiL l ++ wdC p:=by simp[wiL]
def WiSl (h:IH) (v:Value) (l:List Nat):Prop:=SlOf h 8 v l.length (wiL l)∧l.length≤1000000000 ∧ ∀n∈l,n<W8
theorem WiSl.keep {h h':IH} {v:Value} {l:List Nat} (s:WiSl h v l) (e:Keep h h'):WiSl h' v l:=⟨s.1.keep e,s.2⟩
theorem WiSl.ld {h h':IH} {v:Value} {l:List Nat} (s:WiSl h v l) (e:Keep h h') {i:Nat} {p:Nat} (hi:l[i]?=some p):load prog h' 30 (elemAddr v (i*8))=some (wdV p):=by
 have hil:=(List.getElem?_eq_some_iff.1 hi).1
 rw[s.1.ldAgg e (by rw[wiL_len];omega) (by omega) ag30 sz30,wiL_at hi];rfl
theorem wd_take0 (n:Nat):List.take 8 (List.drop 0 (wdC n))=wdC n:=by rw[List.drop_zero,List.take_of_length_le (by rw[wdC_len];omega)]
theorem wdI_neg {n:Nat} (hn:n<W8):wdI n=0↔n=0:=wdI_zero_iff hn
theorem wsign_ok {h:IH} (n:Nat) (hn:n<W8):WV prog (.func (.func 80) #[] #[]) [wdV n] h fun r h'=>Ext h h'∧r=KI (if wdI n<0 then -1 else if wdI n=0 then 0 else 1):=by
 have hz:binop prog .eql 30 (.tmp 8) (.tmp 9) (.agg (wdC n).toArray) (.agg #[ZW,ZW,ZW,ZW,ZW,ZW,ZW,ZW])=some (.bool (decide (n=0))):=by
  rw[wd_zero,wdV,wd_eql hn (by have:=H8_two;have:=H8_pos;omega)]
 have E1:Ext h (h.new (.cells (wdC n) 0 none)):=(Ext.refl h).new _
 refine enter (nt:=11) (rs:=[.tmp 2]) Proofs.Tryz.func80 rfl rfl rfl (by simp) ?_
 simp -dsimp (disch:=try exact dx) only[wpS,zE,zL,ld30,cells8,wdC_len,wd_take0]
 refine call (read_ok n hn) ?_
 rintro _ h1 ⟨X1,rfl⟩
 have g1:=X1.kept (by simp) (get_new_same h (.cells (wdC n) 0 none) rfl)
 by_cases c:wdI n<0
 ·have d:decide (wdI n<0)=true:=decide_eq_true c
  rw[if_pos c]
  simp -dsimp (disch:=try exact dx) only[wpS,wpT,zE,fp236_0,numV,Bool.false_eq_true,d]
  exact E1.trans X1
 have d:decide (wdI n<0)=false:=decide_eq_false c
 rw[if_neg c]
 by_cases c0:n=0
 ·have d0:decide (n=0)=true:=decide_eq_true c0
  rw[if_pos ((wdI_neg hn).2 c0)]
  simp -dsimp (disch:=try exact dx) only[wpS,wpT,zE,zL,ld30,fp236_0,bv30,numV,Bool.false_eq_true,d,row_of g1,wdC_len,wd_take0,hz,d0]
  exact E1.trans X1
 ·have d0:decide (n=0)=false:=decide_eq_false c0
  rw[if_neg (fun h=>c0 ((wdI_neg hn).1 h))]
  simp -dsimp (disch:=try exact dx) only[wpS,wpT,zE,zL,ld30,fp236_0,bv30,numV,Bool.false_eq_true,d,row_of g1,wdC_len,wd_take0,hz,d0]
  exact E1.trans X1
theorem tk2a (a b:Value):List.take 2 (List.drop 0 [a,b]) = [a,b]:=rfl
theorem half_twk {i k:Nat} (hi:i≤k) (hk:k<16000000):HalfI ((2 ^ i:Nat):Int):=half_bits (k:=k) (by rw[Int.natAbs_natCast];exact Nat.pow_le_pow_right (Nat.succ_pos 1) hi) hk
theorem half_two {i:Nat} (hi:i≤4000):HalfI ((2 ^ i:Nat):Int):=half_twk hi (by decide)
theorem raised_ok {h:IH} {v:Value} {k:Nat} (hv:PLong h v 2) (hk:k≤4000) :
  WV prog (.func (.func 85) #[] #[]) [v,KN k] h fun r h'=>Ext h h'∧PLong h' r ((2 ^ k:Nat):Int):=by
 obtain⟨s,n,rfl,c1,o1,_,_⟩:=hv.form
 obtain⟨b1,hb1⟩ : ∃b,b=decide ((2:Int)<0):=⟨_,rfl⟩
 rw[←hb1] at hv ⊢
 have E1:Ext h ((h.new (.cells [.bool b1,s] 0 none)).new (.cells [.bool false,.slice none 0 0] 0 none)):=((Ext.refl h).new _).new _
 refine enter (nt:=15) (rs:=[.cell 4 137]) Proofs.Tryz.func85 rfl rfl rfl (by simp) ?_
 simp -dsimp (disch:=try exact dx) only[wpS,zE,zA,zc137]
 refine call (pfrom_ok 1 ⟨by omega,by omega⟩) ?_
 rintro _ h1 ⟨X1,p1⟩
 obtain⟨s1,n1,rfl,c3,o3,_,_⟩:=p1.form
 have m1:=X1.n
 simp only[new_n] at m1
 have k0:h1.ext.get h.n=some (.cells [.bool b1,s] 0 none):=X1.kept (by simp;omega) (by simp (disch:=try exact dx) only[get_new_same,get_new_old])
 have k1:h1.ext.get (h.n+1)=some (.cells [.bool false,.slice none 0 0] 0 none):=X1.kept (by simp) (by simp (disch:=try exact dx) only[get_new_same])
 simp -dsimp (disch:=try exact dx) only[wpS,wpT,zE,zL,zA,zc137,st137,o3]
 have E2:Ext h1 ((h1.new (.cells [.bool false,.slice none 0 0] 0 none)).put h1.n (.cells [.bool false,s1] 0 none)):=((Ext.refl h1).new _).put (Nat.le_refl _) _
 have EE:=(E1.trans X1).trans E2
 refine loop (fun m fr hh => ∃(i:Nat) (b:Bool) (t:Value),i+m=k∧Ext h hh∧h1.n<hh.n∧hh.ext.get h.n=some (.cells [.bool b1,s] 0 none)∧hh.ext.get (h.n+1)=some (.cells [.bool false,.slice none 0 0] 0 none)∧hh.ext.get h1.n=some (.cells [.bool b,t] 0 none)∧PLong hh (.agg #[.bool b,t]) ((2 ^ i:Nat):Int)∧fget fr 2=some (ptr (2*h.n) 0)∧fget fr 4=some (ptr (2*(h.n+1)) 0)∧fget fr 5=some (ptr (2*h1.n) 0)∧fget fr 7=some (KN k)∧fget fr 8=some (KN i)) k
  ⟨0,false,s1,by omega,EE,by simp,E2.kept (by omega) k0,E2.kept (by omega) k1,by simp (disch:=try exact dx) only[get_put_same],p1.keep E2.keep,by simp,by simp,by simp,by simp,by simp⟩ ?_
 rintro m fr hh ⟨i,b,t,him,hE,hn,g0,g1,g5,pt,f2,f4,f5,f7,f8⟩
 have hnn:=hE.n
 simp -dsimp (disch:=try exact dx) only[wpS,f7,f8]
 refine bq_intro ?_ ?_<;>intro hc<;>simp only[decide_eq_true_eq,decide_eq_false_iff_not] at hc
 ·simp -dsimp (disch:=try exact dx) only[wpS,wpT,zE,zL,zA,ld137,f2,f5,row_of g0,row_of g5]
  refine call (ptimes_ok pt (hv.keep hE.keep) (half_two (by omega)) (half_two (i:=1) (by omega))) ?_
  rintro _ h2 ⟨X2,p2⟩
  have m2:=X2.n
  have e2:((2 ^ i:Nat):Int)*2=((2 ^ (i+1):Nat):Int):=by rw[Nat.pow_succ];omega
  rw[e2] at p2
  obtain⟨t2,n2,rfl,c4,o4,_,_⟩:=p2.form
  have gk:=X2.kept (by omega) g5
  simp -dsimp (disch:=try exact dx) only[wpS,wpT,zE,zL,zA,st137,f5,f8,gk,o4]
  exact⟨m - 1,by omega,i+1,_,t2,by omega,(hE.trans X2).put (by omega) _,by simp;omega,by rw[get_put_old _ _ (by omega)];exact X2.kept (by omega) g0,by rw[get_put_old _ _ (by omega)];exact X2.kept (by omega) g1,by simp (disch:=try exact dx) only[get_put_same],p2.keep ((Keep.refl _).put gk _),by simp[f2],by simp[f4],by simp[f5],by simp[f7],by simp⟩
 ·obtain rfl:i=k:=by omega
  obtain⟨_,c5,o5⟩:=pt.co
  simp -dsimp (disch:=try exact dx) only[wpS,wpT,zE,zL,zA,st137,ld137,f4,f5,row_of g5,g1,o5,tk2a]
  exact⟨hE.put (by omega) _,pt.keep ((Keep.refl _).put g1 _)⟩
theorem targets1_ok {h:IH} (n:Nat) (hn:n<W8):WV prog (.func (.func 79) #[] #[]) [wdV n] h fun r h'=>Ext h h'∧r=.bool (decide (wdI n<1)):=by
 have E1:Ext h (h.new (.cells (wdC n) 0 none)):=(Ext.refl h).new _
 refine enter (nt:=6) (rs:=[.tmp 2]) Proofs.Tryz.func79 rfl rfl rfl (by simp) ?_
 simp -dsimp (disch:=try exact dx) only[wpS,zE,zL,ld30,cells8,wdC_len,wd_take0]
 refine call (wsign_ok n hn) ?_
 rintro _ h1 ⟨X1,rfl⟩
 by_cases c:wdI n<0
 ·have d:decide (wdI n<1)=true:=decide_eq_true (by omega)
  rw[if_pos c,d]
  simp -dsimp (disch:=try exact dx) only[wpS,wpT,zE]
  exact E1.trans X1
 rw[if_neg c]
 by_cases c0:wdI n=0
 ·have d:decide (wdI n<1)=true:=decide_eq_true (by omega)
  rw[if_pos c0,d]
  simp -dsimp (disch:=try exact dx) only[wpS,wpT,zE]
  exact E1.trans X1
 ·have d:decide (wdI n<1)=false:=decide_eq_false (by omega)
  rw[if_neg c0,d]
  simp -dsimp (disch:=try exact dx) only[wpS,wpT,zE]
  exact E1.trans X1
def allPos (l:List Nat):Prop:=∀n∈l,1≤wdI n
theorem wiindex_ok {h:IH} {v:Value} {l:List Nat} (hv:WiSl h v l):WV prog (.func (.func 171) #[] #[]) [v,(.func (.func 79) #[] #[])] h fun r h'=>Ext h h' ∧ ∃c:Int,r=KI c∧(0≤c ↔ ¬allPos l):=by
 have hlb:=hv.2.1
 refine enter (nt:=19) (rs:=[.tmp 4]) Proofs.Tryz.func171 rfl rfl rfl (by simp) ?_
 simp -dsimp (disch:=try exact dx) only[wpS,zE,zA,hv.1.len sl42]
 refine loop (fun m fr h1 => ∃i:Nat,i+m=l.length∧Ext h h1∧(∀j p,j<i→l[j]?=some p→1≤wdI p)∧fget fr 0=some v∧fget fr 1=some (.func (.func 79) #[] #[])∧fget fr 7=some (KN l.length)∧fget fr 8=some (KN i)) l.length
  ⟨0,by omega,Ext.refl _,fun j p hj=>by omega,by simp,by simp,by simp,by simp⟩ ?_
 rintro m fr h1 ⟨i,him,hE,hok,f0,f1,f7,f8⟩
 simp -dsimp (disch:=try exact dx) only[wpS,f7,f8]
 refine bq_intro ?_ ?_<;>intro hc<;>simp only[decide_eq_true_eq,decide_eq_false_iff_not] at hc
 ·have hi:i<l.length:=by omega
  obtain⟨p,hp⟩ : ∃p,l[i]?=some p:=⟨_,List.getElem?_eq_getElem hi⟩
  have hpm:=List.mem_of_getElem? hp
  simp -dsimp (disch:=try exact dx) only[wpS,wpT,zE,f0,f1,f8,hv.1.idx es42 hi,hv.ld hE.keep hp]
  refine call (targets1_ok p (hv.2.2 p hpm)) ?_
  rintro _ h2 ⟨hE2,rfl⟩
  have E2:=hE.trans hE2
  by_cases hk:wdI p<1
  ·rw[decide_eq_true hk]
   simp -dsimp (disch:=try exact dx) only[wpS,zE]
   exact⟨E2,(i:Int),rfl,fun _ hall=>by have:=hall p hpm;omega,fun _=>by omega⟩
  ·rw[decide_eq_false hk]
   simp -dsimp (disch:=try exact dx) only[wpS,zE,f8]
   refine⟨m - 1,by omega,i+1,by omega,E2,?_,by simp[f0],by simp[f1],by simp[f7],by simp⟩
   intro j q hj hq
   by_cases hji:j=i
   ·subst hji;rw[hp] at hq;cases hq;omega
   ·exact hok j q (by omega) hq
 ·simp -dsimp (disch:=try exact dx) only[wpS,wpT]
  refine⟨hE,-1,rfl,fun h=>by omega,fun hn=>?_⟩
  exfalso
  apply hn
  intro p hp
  obtain⟨j,hj⟩:=List.getElem?_of_mem hp
  have:=(List.getElem?_eq_some_iff.1 hj).1
  exact hok j p (by omega) hj
open Classical in
theorem wicontains_ok {h:IH} {v:Value} {l:List Nat} (hv:WiSl h v l):WV prog (.func (.func 78) #[] #[]) [v,(.func (.func 79) #[] #[])] h fun r h'=>Ext h h'∧r=.bool (decide (¬allPos l)):=by
 refine enter (nt:=9) (rs:=[.tmp 4]) Proofs.Tryz.func78 rfl rfl rfl (by simp) ?_
 simp -dsimp (disch:=try exact dx) only[wpS,zE,zA]
 refine call (wiindex_ok hv) ?_
 rintro _ h1 ⟨hE,c,rfl,hc⟩
 simp -dsimp (disch:=try exact dx) only[wpS,zE]
 exact⟨hE,by rw[decide_eq_decide.2 hc]⟩
end Go.Id

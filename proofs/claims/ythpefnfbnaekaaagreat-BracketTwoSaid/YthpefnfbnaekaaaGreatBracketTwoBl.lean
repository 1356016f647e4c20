/-
  The functions of package share, by value: what WdEvS reckons is what they give. Contracts: Go's package slices, for numbers.
-/
import Derived.Test.YthpefnfbnaekaaaGreatBracketTwoBg
import Derived.Test.YthpefnfbnaekaaaGreatBracketTwoBh
import Derived.Test.YthpefnfbnaekaaaGreatBracketTwoBk
import Derived.Test.YthpefnfbnaekaaaGreatBracketTwoAr
import Derived.Test.YthpefnfbnaekaaaGreatBracketTwoAu
import Derived.Test.YthpefnfbnaekaaaGreatBracketTwoBf
import Derived.Test.YthpefnfbnaekaaaGreatBracketTwoAs
set_option linter.unusedVariables false
set_option linter.unusedSimpArgs false
set_option linter.defProp false
set_option linter.deprecated false
namespace Go.Id
open Go
theorem w512_eq:w512=W8:=by rw[W8_eq];decide +kernel
theorem h512_eq:h512=H8:=by unfold H8;decide +kernel
theorem wordsF_some : ∀(l:List Value) (x:Nat),wordsF l=some x→x<18446744073709551616 ^ l.length∧l=(List.range l.length).map fun i=>K64 (wrd x i)
 | [],x,h=>by
  cases h;exact⟨by decide,rfl⟩
 | v :: l,x,h=>by
  change wordC v (wordsF l)=some x at h
  unfold wordC at h
  split at h
  case h_2=>cases h
  rename_i w
  obtain⟨h0,h⟩:=iB_some h
  cases hr:wordsF l with
  | none=>rw[hr] at h;cases h
  | some r =>
   rw[hr] at h
   cases h
   obtain⟨a,b⟩:=wordsF_some l r hr
   have hw:w<18446744073709551616:=bleI.1 h0
   show w+18446744073709551616*r<18446744073709551616 ^ (l.length+1)∧_
   refine⟨?_,?_⟩
   ·rw[Nat.pow_succ]
    have:(r+1)*18446744073709551616≤18446744073709551616 ^ l.length*18446744073709551616:=Nat.mul_le_mul_right _ a
    omega
   ·show _=(List.range (l.length+1)).map fun i=>K64 (wrd (w+18446744073709551616*r) i)
    rw[List.range_succ_eq_map,List.map_cons,List.map_map]
    have e0:wrd (w+18446744073709551616*r) 0=w:=by unfold wrd;rw[Nat.pow_zero,Nat.div_one];omega
    have e1 : ∀i,wrd (w+18446744073709551616*r) (i+1)=wrd r i:=fun i=>by
     unfold wrd
     rw[Nat.pow_succ,Nat.mul_comm (18446744073709551616 ^ i),←Nat.div_div_eq_div_mul,show(w+18446744073709551616*r) / 18446744073709551616=r from by omega]
    rw[e0]
    congr 1
    refine b.trans (List.map_congr_left fun i _=>?_)
    show _=K64 (wrd (w+18446744073709551616*r) (i+1))
    rw[e1]
theorem wrd_mod8 (x i:Nat) (hi:i<8):wrd (x % 18446744073709551616 ^ 8) i=wrd x i:=by
 have h:=wrd_add_low (n:=x % 18446744073709551616 ^ 8) (x:=x / 18446744073709551616 ^ 8) hi
 rw[←h,show x % 18446744073709551616 ^ 8+x / 18446744073709551616 ^ 8*18446744073709551616 ^ 8=x from by rw[Nat.mul_comm];exact Nat.mod_add_div _ _]
theorem wrd_div8 (x i:Nat):wrd (x / 18446744073709551616 ^ 8) i=wrd x (8+i):=by
 unfold wrd
 rw[Nat.div_div_eq_div_mul,←Nat.pow_add]
theorem words16 (x:Nat):((List.range 16).map fun i=>K64 (wrd x i))=shC (x % W8) (x / W8):=by
 rw[shC,wdC,wdC,W8_eq,show(16:Nat)=8+8 from rfl,List.range_add,List.map_append,List.map_map]
 congr 1
 ·exact List.map_congr_left fun i hi=>by rw[wrd_mod8 x i (by simpa using hi)]
 ·exact List.map_congr_left fun i hi=>by
   show K64 (wrd x (8+i))=_
   rw[wrd_div8]
theorem sgnF_eq {n:Nat} (hn:n<W8):sgnF n=wdI n:=by
 have e1:=h512_eq
 have e2:=w512_eq
 have e3:=W8_two
 unfold sgnF wdI
 rw[iB_eq,e1,e2]
 by_cases h:n<H8
 ·rw[if_pos h,bleI.2 h];rfl
 ·rw[if_neg h,Bool.eq_false_iff.2 (fun hb=>h (bleI.1 hb))]
  show Int.negSucc (W8 - n - 1)=_
  omega
theorem shareF_some {v:Value} {k:Int→Int→Option Value} {r:Value} (h:shareF v k=some r) : ∃p:Nat×Nat,(p.1<W8∧p.2<W8)∧v=shV p.1 p.2∧k (wdI p.1) (wdI p.2)=some r:=by
 unfold shareF at h
 split at h
 case h_2=>cases h
 rename_i cs
 obtain⟨h0,h⟩:=iB_some h
 have hl:cs.toList.length=16:=by rw[←lenL_eq];exact Nat.beq_eq.mp h0
 cases hx:wordsF cs.toList with
 | none=>rw[hx] at h;cases h
 | some x =>
  rw[hx,bO_some,fN_eq] at h
  obtain⟨a,b⟩:=wordsF_some _ _ hx
  rw[hl] at a b
  have ex:x<W8*W8:=by rw[W8_eq,←Nat.pow_add];exact a
  have hp:0<W8:=by have:=W8_two;have:=H8_pos;omega
  have q1:x % W8<W8:=Nat.mod_lt _ hp
  have q2:x / W8<W8:=by rw[Nat.div_lt_iff_lt_mul hp];exact ex
  refine⟨(x % W8,x / W8),⟨q1,q2⟩,?_,?_⟩
  ·rw[shV,←words16,←b]
  ·have h2:k (sgnF (x % w512)) (sgnF (x / w512))=some r:=h
   rw[w512_eq,sgnF_eq q1,sgnF_eq q2] at h2
   exact h2
theorem wideF_some {v:Value} {k:Int→Option Value} {r:Value} (h:wideF v k=some r) : ∃n:Nat,n<W8∧v=wdV n∧k (wdI n)=some r:=by
 unfold wideF at h
 split at h
 case h_2=>cases h
 rename_i cs
 obtain⟨h0,h⟩:=iB_some h
 have hl:cs.toList.length=8:=by rw[←lenL_eq];exact Nat.beq_eq.mp h0
 cases hx:wordsF cs.toList with
 | none=>rw[hx] at h;cases h
 | some x =>
  rw[hx,bO_some,fN_eq] at h
  obtain⟨a,b⟩:=wordsF_some _ _ hx
  rw[hl] at a b
  have q1:x<W8:=by rw[W8_eq];exact a
  refine⟨x,q1,?_,?_⟩
  ·rw[wdV,wdC,←b]
  ·rw[sgnF_eq q1] at h
   exact h
theorem intF_some {v:Value} {k:Int→Option Value} {r:Value} (h:intF v k=some r) : ∃z:Int,v=KI z∧k z=some r:=by
 unfold intF at h
 split at h
 case h_2=>cases h
 exact⟨_,rfl,h⟩
theorem wordsL_eq (tl:List Value) : ∀(k x:Nat),wordsL k x tl=((List.range k).map fun i=>K64 (wrd x i)) ++ tl
 | 0,_=>rfl
 | k+1,x=>by
  show fN (x % 18446744073709551616) (fun w=>Value.int .u64 (.ofNat w) :: wordsL k (x / 18446744073709551616) tl)=_
  rw[fN_eq,wordsL_eq tl k,List.range_succ_eq_map,List.map_cons,List.map_map,List.cons_append]
  have e0:wrd x 0=x % 18446744073709551616:=by unfold wrd;rw[Nat.pow_zero,Nat.div_one]
  rw[e0]
  congr 2
  refine List.map_congr_left fun i _=>?_
  show _=K64 (wrd x (i+1))
  unfold wrd
  rw[Nat.pow_succ,Nat.mul_comm (18446744073709551616 ^ i),Nat.div_div_eq_div_mul]
theorem wordF_eq {z:Int} (hz:InW z):wordF z=wideN z:=by
 have e2:=w512_eq
 unfold wideN
 cases z with
 | ofNat n=>rfl
 | negSucc n =>
  show w512 - (n+1)=_
  rw[e2,if_neg (by omega)];rfl
theorem aggF_eq {a b:Int} (ha:InW a) (hb:InW b):aggF a b=shV (wideN a) (wideN b):=by
 unfold aggF shV shC wdC
 rw[wordsL_eq,wordsL_eq,wordF_eq ha,wordF_eq hb,List.append_nil]
theorem inF_eq (z:Int):inF z=decide (InW z):=by
 have e1:=h512_eq
 have:=H8_pos
 rw[Bool.eq_iff_iff,decide_eq_true_eq]
 unfold InW
 cases z with
 | ofNat n =>
  show Nat.ble (n+1) h512=true ↔ -(H8:Int)≤(n:Int)∧(n:Int)<H8
  rw[bleI,e1]
  omega
 | negSucc n =>
  show Nat.ble (n+1) h512=true↔_
  rw[bleI,e1]
  omega
theorem toldF_eq {n d:Int} (hd:0<d):toldF n d=toldV (Rat.divInt n d):=by
 obtain⟨a,b⟩:=low_pos (n:=n) hd
 have z0:InW 0:=⟨by have:=H8_pos;omega,by have:=H8_pos;omega⟩
 have zz:aggF 0 0=shV 0 0:=by rw[aggF_eq z0 z0];rfl
 unfold toldF toldV
 rw[fN_eq,iB_eq,iB_eq,inF_eq,inF_eq]
 rw[show Int.ediv n (Int.ofNat (Int.gcd n d))=(Rat.divInt n d).num from a,show Int.ediv d (Int.ofNat (Int.gcd n d))=(Rat.divInt n d).den from b,zz]
 unfold QW
 by_cases c1:InW (Rat.divInt n d).num
 ·by_cases c2:InW ((Rat.divInt n d).den:Int)
  ·rw[if_pos ⟨c1,c2⟩,decide_eq_true c1,decide_eq_true c2,aggF_eq c1 c2];rfl
  ·rw[if_neg (fun h=>c2 h.2),decide_eq_true c1,decide_eq_false c2];rfl
 ·rw[if_neg (fun h=>c1 h.1),decide_eq_false c1];rfl
theorem posF_eq (z:Int):posF z=decide (0<z):=by
 rw[Bool.eq_iff_iff,decide_eq_true_eq]
 cases z with
 | ofNat n =>
  show Nat.ble 1 n=true↔0<(n:Int)
  rw[bleI];omega
 | negSucc n=>exact⟨fun h=>Bool.noConfusion h,fun h=>absurd h (by omega)⟩
theorem zeroF_eq (z:Int):zeroF z=decide (z=0):=by
 rw[Bool.eq_iff_iff,decide_eq_true_eq]
 cases z with
 | ofNat n =>
  show Nat.beq n 0=true↔(n:Int)=0
  rw[Nat.beq_eq];omega
 | negSucc n=>exact⟨fun h=>Bool.noConfusion h,fun h=>absurd h (by omega)⟩
theorem in64F_eq {z:Int} (h:in64F z=true):In64 z:=by
 unfold In64
 cases z with
 | ofNat n =>
  have:=bleI.1 (show Nat.ble (Nat.succ n) 9223372036854775808=true from h)
  show _≤(n:Int)∧(n:Int)<_
  omega
 | negSucc n =>
  have:=bleI.1 (show Nat.ble (Nat.succ n) 9223372036854775808=true from h)
  omega
theorem okF_ok {n d:Nat} (h:okF (wdI n) (wdI d)=true):okS n d:=by
 unfold okF at h
 rw[iB_eq,posF_eq] at h
 by_cases c:0<wdI d
 ·rw[decide_eq_true c] at h
  exact⟨c,Nat.beq_eq.mp h⟩
 ·rw[decide_eq_false c] at h;cases h
theorem okF_eq (n d:Nat):okF (wdI n) (wdI d)=(open Classical in decide (okS n d)):=by
 rw[Bool.eq_iff_iff,decide_eq_true_eq]
 refine⟨okF_ok,fun h=>?_⟩
 unfold okF
 rw[iB_eq,posF_eq,decide_eq_true h.1]
 exact Nat.beq_eq.mpr h.2
theorem divF_eq {n d:Int} (hd:d≠0):divF n d=toldV (Rat.divInt n d):=by
 cases d with
 | ofNat b =>
  show toldF n (b:Int)=toldV (Rat.divInt n (b:Int))
  have:(b:Int)≠0:=hd
  exact toldF_eq (by omega)
 | negSucc b =>
  show toldF (-n) ((b+1:Nat):Int)=_
  rw[toldF_eq (by omega)]
  congr 1
theorem cmpF_eq (x y:Int):cmpF x y=if x<y then -1 else if x=y then 0 else 1:=by
 unfold cmpF
 have e:Int.sub x y=x - y:=rfl
 rw[e]
 cases h:x - y with
 | ofNat n =>
  have h:x - y=(n:Int):=h
  cases n with
  | zero=>rw[if_neg (by omega),if_pos (by omega)];rfl
  | succ m=>rw[if_neg (by omega),if_neg (by omega)]
 | negSucc n=>rw[if_pos (by omega)]
theorem toldV_div {n d:Int} (hn:In64 n) (hd:In64 d) (d0:d≠0):toldV (Rat.divInt n d)=.tuple #[shareV (Rat.divInt n d),KI 0]:=by
 unfold toldV
 rw[if_pos (qw_div hn hd d0)]
abbrev Val (f:Value) (g:List Value→Option Value):Prop:=∀args v,args.all plain=true→g args=some v→plainT v=true∧WV Proofs.Tryz.prog f args (IH.start fun _=>none) fun r _=>r=v
theorem plain_shV (n d:Nat):plain (shV n d)=true:=by
 show(shC n d).toArray.all scal=true
 rw[shC,wdC,wdC,List.all_toArray,List.all_append,List.all_map,List.all_map]
 simp[scal]
theorem plain_toldV (q:Rat):plainT (toldV q)=true:=by
 obtain⟨n,d,e,h⟩:=toldV_form q
 rw[h]
 show [shV n d,KI e].all plain=true
 rw[List.all_cons,plain_shV];rfl
theorem val_of:Val (.func (.func 52) #[] #[]) of2:=by
 intro args v _ h
 unfold of2 at h
 split at h
 case h_2=>cases h
 obtain⟨n,e0,k⟩:=intF_some h
 clear h;subst e0;have h:=k;clear k
 obtain⟨d,e0,k⟩:=intF_some h
 clear h;subst e0;have h:=k;clear k
 obtain⟨h1,h⟩:=iB_some h
 obtain⟨h2,h⟩:=iB_some h
 obtain⟨h3,h⟩:=iB_some' h
 cases h
 have d0:d≠0:=by rw[zeroF_eq] at h3;exact of_decide_eq_false h3
 have e:=toldV_div (in64F_eq h1) (in64F_eq h2) d0
 rw[divF_eq d0]
 exact⟨plain_toldV _,(shof_ok n d (in64F_eq h1) (in64F_eq h2) d0).mono fun r h' k=>k.2.trans e.symm⟩
theorem val_of02:Val (.func (.func 46) #[] #[]) of2:=by
 intro args v _ h
 unfold of2 at h
 split at h
 case h_2=>cases h
 obtain⟨n,e0,k⟩:=intF_some h
 clear h;subst e0;have h:=k;clear k
 obtain⟨d,e0,k⟩:=intF_some h
 clear h;subst e0;have h:=k;clear k
 obtain⟨h1,h⟩:=iB_some h
 obtain⟨h2,h⟩:=iB_some h
 obtain⟨h3,h⟩:=iB_some' h
 cases h
 have d0:d≠0:=by rw[zeroF_eq] at h3;exact of_decide_eq_false h3
 have e:=toldV_div (in64F_eq h1) (in64F_eq h2) d0
 rw[divF_eq d0]
 exact⟨plain_toldV _,(ref02Of_ok n d (in64F_eq h1) (in64F_eq h2) d0).mono fun r h' k=>k.2.trans e.symm⟩
theorem val_make:Val (.func (.func 101) #[] #[]) make2:=by
 intro args v _ h
 unfold make2 at h
 split at h
 case h_2=>cases h
 obtain⟨n,hn,e0,k⟩:=wideF_some h
 clear h;subst e0;have h:=k;clear k
 obtain⟨d,hd,e0,k⟩:=wideF_some h
 clear h;subst e0;have h:=k;clear k
 obtain⟨h3,h⟩:=iB_some' h
 cases h
 have d0:wdI d≠0:=by rw[zeroF_eq] at h3;exact of_decide_eq_false h3
 rw[divF_eq d0]
 exact⟨plain_toldV _,(shmake_ok n d hn hd (fun e=>d0 ((wdI_zero_iff hd).2 e))).mono fun r h' k=>k.2⟩
theorem val_check:Val (.func (.func 50) #[] #[]) check1:=by
 intro args v _ h
 unfold check1 at h
 split at h
 case h_2=>cases h
 obtain⟨p,hp,e0,k⟩:=shareF_some h
 clear h;subst e0;have h:=k;clear k
 cases h
 rw[okF_eq,iB_eq]
 refine⟨rfl,(shcheck_ok p.1 p.2 hp.1 hp.2).mono fun r h' k=>k.2.trans ?_⟩
 by_cases c:okS p.1 p.2
 ·rw[if_pos c,decide_eq_true c];rfl
 ·rw[if_neg c,decide_eq_false c];rfl
theorem val_sign:Val (.func (.func 27) #[] #[]) sign1:=by
 intro args v _ h
 unfold sign1 at h
 split at h
 case h_2=>cases h
 obtain⟨p,hp,e0,k⟩:=shareF_some h
 clear h;subst e0;have h:=k;clear k
 obtain⟨ok,h⟩:=iB_some h
 cases h
 have ok:=okF_ok ok
 refine⟨rfl,(shsign_ok hp ok).mono fun r h' k=>k.2.trans ?_⟩
 have e:cmpF (wdI p.1) 0=if rOf p<0 then -1 else if rOf p=0 then 0 else 1:=by
  rw[cmpF_eq,←(rOf_parts ok).1]
  have hlt:rOf p<0↔(rOf p).num<0:=by rw[Rat.lt_iff];simp
  by_cases c:rOf p<0
  ·rw[if_pos c,if_pos (hlt.1 c)]
  ·rw[if_neg c,if_neg (fun h=>c (hlt.2 h))]
   by_cases c2:rOf p=0
   ·rw[if_pos c2,if_pos (Rat.num_eq_zero.2 c2)]
   ·rw[if_neg c2,if_neg (fun h=>c2 (Rat.num_eq_zero.1 h))]
 rw[e]
theorem two2_some {of:Int→Int→Int→Int→Option Value} {l:List Value} {v:Value} (h:two2 of l=some v) : ∃p q:Nat×Nat,(p.1<W8∧p.2<W8)∧(q.1<W8∧q.2<W8)∧okS p.1 p.2∧okS q.1 q.2∧l = [shV p.1 p.2,shV q.1 q.2]∧of (wdI p.1) (wdI p.2) (wdI q.1) (wdI q.2)=some v:=by
 unfold two2 at h
 split at h
 case h_2=>cases h
 obtain⟨p,hp,e0,k⟩:=shareF_some h
 clear h;subst e0;have h:=k;clear k
 obtain⟨ok1,h⟩:=iB_some h
 obtain⟨q,hq,e0,k⟩:=shareF_some h
 clear h;subst e0;have h:=k;clear k
 obtain⟨ok2,h⟩:=iB_some h
 exact⟨p,q,hp,hq,okF_ok ok1,okF_ok ok2,rfl,h⟩
theorem val_cmp:Val (.func (.func 21) #[] #[]) cmp2:=by
 intro args v _ h
 obtain⟨p,q,hp,hq,ok1,ok2,e0,k⟩:=two2_some h
 clear h;subst e0;have h:=k;clear k
 cases h
 refine⟨rfl,(shcmp_ok hp hq ok1 ok2).mono fun r h' k=>k.2.trans ?_⟩
 have e:cmpF (Int.mul (wdI p.1) (wdI q.2)) (Int.mul (wdI q.1) (wdI p.2))=if rOf p<rOf q then -1 else if rOf p=rOf q then 0 else 1:=by
  rw[cmpF_eq,←cmp_rat,(rOf_parts ok1).1,(rOf_parts ok1).2,(rOf_parts ok2).1,(rOf_parts ok2).2];rfl
 rw[e]
theorem val_mul:Val (.func (.func 26) #[] #[]) mul2:=by
 intro args v _ h
 obtain⟨p,q,hp,hq,ok1,ok2,e0,k⟩:=two2_some h
 clear h;subst e0;have h:=k;clear k
 cases h
 have e:toldF (Int.mul (wdI p.1) (wdI q.1)) (Int.mul (wdI p.2) (wdI q.2))=toldV (rOf p*rOf q):=by
  show toldF (wdI p.1*wdI q.1) (wdI p.2*wdI q.2)=_
  rw[toldF_eq (Int.mul_pos ok1.1 ok2.1),rat_mul,(rOf_parts ok1).1,(rOf_parts ok1).2,(rOf_parts ok2).1,(rOf_parts ok2).2]
 rw[e]
 exact⟨plain_toldV _,(shmul_ok hp hq ok1 ok2).mono fun r h' k=>k.2⟩
theorem val_div:Val (.func (.func 53) #[] #[]) quo2:=by
 intro args v _ h
 obtain⟨p,q,hp,hq,ok1,ok2,e0,k⟩:=two2_some h
 clear h;subst e0;have h:=k;clear k
 obtain⟨h3,h⟩:=iB_some' h
 cases h
 have m0:wdI q.1≠0:=by rw[zeroF_eq] at h3;exact of_decide_eq_false h3
 have d0:(Int.mul (wdI p.2) (wdI q.1))≠0:=Int.mul_ne_zero (by have:=ok1.1;omega) m0
 have e:divF (Int.mul (wdI p.1) (wdI q.2)) (Int.mul (wdI p.2) (wdI q.1))=toldV (rOf p / rOf q):=by
  rw[divF_eq d0,rat_div,(rOf_parts ok1).1,(rOf_parts ok1).2,(rOf_parts ok2).1,(rOf_parts ok2).2];rfl
 rw[e]
 exact⟨plain_toldV _,(shdiv_ok hp hq ok1 ok2 (fun e=>m0 ((wdI_zero_iff hq.1).2 e))).mono fun r h' k=>k.2⟩
theorem lt_wd {p q:Nat×Nat} (ok1:okS p.1 p.2) (ok2:okS q.1 q.2):(0<(Int.mul (wdI q.1) (wdI p.2)) - (Int.mul (wdI p.1) (wdI q.2)))↔rOf p<rOf q:=by
 rw[Rat.lt_iff,(rOf_parts ok1).1,(rOf_parts ok1).2,(rOf_parts ok2).1,(rOf_parts ok2).2]
 show 0<wdI q.1*wdI p.2 - wdI p.1*wdI q.2↔_
 omega
theorem val_max:Val (.func (.func 85) #[] #[]) max2:=by
 intro args v _ h
 obtain⟨p,q,hp,hq,ok1,ok2,e0,k⟩:=two2_some h
 clear h;subst e0;have h:=k;clear k
 cases h
 have e:iB (posF (Int.sub (Int.mul (wdI q.1) (wdI p.2)) (Int.mul (wdI p.1) (wdI q.2)))) (toldF (wdI q.1) (wdI q.2)) (toldF (wdI p.1) (wdI p.2))=toldV (qmax (rOf p) (rOf q)):=by
  rw[iB_eq,posF_eq,toldF_eq ok1.1,toldF_eq ok2.1]
  unfold qmax
  show(bif decide (0<(Int.mul (wdI q.1) (wdI p.2)) - (Int.mul (wdI p.1) (wdI q.2))) then toldV (rOf q) else toldV (rOf p))=_
  by_cases c:rOf p<rOf q
  ·rw[decide_eq_true ((lt_wd ok1 ok2).2 c),if_pos (Rat.le_of_lt c)];rfl
  ·rw[decide_eq_false (fun h=>c ((lt_wd ok1 ok2).1 h))]
   by_cases c2:rOf p≤rOf q
   ·rw[if_pos c2,Rat.le_antisymm c2 (Rat.not_lt.1 c)];rfl
   ·rw[if_neg c2];rfl
 rw[e]
 exact⟨plain_toldV _,(shmax_ok hp hq ok1 ok2).mono fun r h' k=>k.2⟩
end Go.Id

namespace Go.Id
open Go
open Go.Proofs.Tryz (prog)
open Nat (reduceAdd reduceEqDiff)
theorem indexFunc_ok {h:IH} {v fv:Value} {a:List Int} (p:Int→Bool) (ha:SlNow h 1 v a.length (a.map KI)) (la:a.length≤1000000000) (hp : ∀x∈a,WV prog fv [KI x] h fun r h'=>h'=h∧r=.bool (p x)) :
  WV prog (.func (.func 111) #[] #[]) [v,fv] h fun r h'=>h'=h ∧ ∃c:Int,r=KI c∧(0≤c↔a.any p=true):=by
 refine enter (nt:=19) (rs:=[.tmp 4]) Proofs.Tryz.func111 rfl rfl rfl (by simp) ?_
 simp -dsimp (maxSteps:=1000000) (disch:=try exact dx) only[wpS,reduceEqDiff,reduceAdd,ha.len sl29]
 refine loop (fun m fr h1=>h1=h ∧ ∃i:Nat,i+m=a.length∧fget fr 0=some v∧fget fr 1=some fv∧fget fr 7=some (KI a.length)∧fget fr 8=some (KI i)∧a.any p=(a.drop i).any p) a.length ⟨rfl,0,by simp,by simp,by simp,by simp,by simp,by simp⟩ ?_
 rintro m fr h1 ⟨rfl,i,him,f0,f1,f7,f8,hz⟩
 simp -dsimp (maxSteps:=1000000) (disch:=try exact dx) only[wpS,f7,f8]
 refine bq_intro ?_ ?_<;>intro hc2<;>simp only[decide_eq_true_eq,decide_eq_false_iff_not] at hc2
 ·have hi:i<a.length:=by omega
  obtain⟨x,hx⟩ : ∃x,a[i]?=some x:=⟨a[i],List.getElem?_eq_getElem hi⟩
  simp -dsimp (maxSteps:=1000000) (disch:=try exact dx) only[wpS,wpT,reduceEqDiff,f0,f1,f8,ha.idx es29 hi,ha.ld (P:=prog) (t:=3) (c:=i) (by simpa using hi) ag3,List.getElem?_map,hx]
  refine call (hp x (List.mem_of_getElem? hx)) ?_
  rintro _ _ ⟨rfl,rfl⟩
  have ea:a.drop i=x :: a.drop (i+1):=by
   have h1:=List.getElem?_eq_some_iff.1 hx
   rw[←h1.2,List.getElem_cons_drop_succ_eq_drop]
  rw[ea,List.any_cons] at hz
  simp -dsimp (maxSteps:=1000000) (disch:=try exact dx) only[wpS,reduceEqDiff]
  refine bq_intro ?_ ?_<;>intro hc
  ·simp -dsimp (maxSteps:=1000000) (disch:=try exact dx) only[wpS,wpT,reduceEqDiff]
   exact⟨_,rfl,by rw[hz,hc];simp⟩
  ·simp -dsimp (maxSteps:=1000000) (disch:=try exact dx) only[wpS,reduceEqDiff,f8]
   rw[hc,Bool.false_or] at hz
   exact⟨m - 1,by omega,rfl,i+1,by omega,by simp[f0],by simp[f1],by simp[f7],by simp,hz⟩
 ·simp -dsimp (maxSteps:=1000000) (disch:=try exact dx) only[wpS,wpT]
  exact⟨_,rfl,by rw[hz,List.drop_of_length_le (by omega)];simp⟩
theorem containsFunc_ok {h:IH} {v fv:Value} {a:List Int} (p:Int→Bool) (ha:SlNow h 1 v a.length (a.map KI)) (la:a.length≤1000000000) (hp : ∀x∈a,WV prog fv [KI x] h fun r h'=>h'=h∧r=.bool (p x)) :
  WV prog (.func (.func 67) #[] #[]) [v,fv] h fun r h'=>h'=h∧r=.bool (a.any p):=by
 refine enter (nt:=9) (rs:=[.tmp 4]) Proofs.Tryz.func67 rfl rfl rfl (by simp) ?_
 simp -dsimp (maxSteps:=1000000) (disch:=try exact dx) only[wpS,reduceEqDiff,reduceAdd]
 refine call (indexFunc_ok p ha la hp) ?_
 rintro _ _ ⟨rfl,c,rfl,hc⟩
 simp -dsimp (maxSteps:=1000000) (disch:=try exact dx) only[wpS,wpT,reduceEqDiff]
 cases hb:a.any p
 ·rw[hb] at hc
  simp at hc
  simp;exact hc
 ·rw[hb] at hc
  simp at hc
  simp;exact hc
end Go.Id

namespace Go.Id
open Go
open Go.Proofs.Tryz (prog)
open Nat (reduceAdd reduceEqDiff reduceLeDiff)
abbrev outR (lo hi n:Int):Bool:=decide (n<lo) || decide (hi<n)
abbrev inR (lo hi:Int) (l:List Int):Bool:=!(l.any (outR lo hi))
theorem inR_iff {lo hi:Int} {l:List Int}:inR lo hi l=true ↔ ∀n∈l,lo≤n∧n≤hi:=by
 unfold inR
 rw[Bool.not_eq_true',List.any_eq_false]
 refine⟨fun h n hn=>?_,fun h n hn=>?_⟩
 ·have:=h n hn
  simp only[outR,Bool.or_eq_true,decide_eq_true_eq,not_or] at this
  omega
 ·have:=h n hn
  simp only[outR,Bool.or_eq_true,decide_eq_true_eq,not_or]
  omega
theorem within1_ok {h:IH} {b b2:Nat} {lo hi n:Int} (g:h.ext.get b=some (.cells [KI lo] 0 none)) (g2:h.ext.get b2=some (.cells [KI hi] 0 none)) :
  WV prog (.func (.func 112) #[] #[ptr (2*b) 0,ptr (2*b2) 0]) [KI n] h fun r h'=>h'=h∧r=.bool (outR lo hi n):=by
 refine enter (nt:=13) (rs:=[.tmp 4]) Proofs.Tryz.func112 rfl rfl rfl (by simp) ?_
 by_cases c:n<lo
 ·have d:decide (n<lo)=true:=decide_eq_true c
  simp -dsimp (maxSteps:=1000000) (disch:=try exact dx) only[wpS,wpT,reduceEqDiff,reduceAdd,ld3,row_of g,d]
  simp[outR,d]
 ·have d:decide (n<lo)=false:=decide_eq_false c
  simp -dsimp (maxSteps:=1000000) (disch:=try exact dx) only[wpS,wpT,reduceEqDiff,reduceAdd,ld3,row_of g,row_of g2,d]
  simp[outR,d]
theorem within_ok {h:IH} {v:Value} {l:List Int} (lo hi:Int) (hv:SlOf h 1 v l.length (l.map KI)) (hl:l.length≤1000000000) :
  WV prog (.func (.func 72) #[] #[]) [KI lo,KI hi,v] h fun r h'=>Ext h h'∧r=.bool (inR lo hi l):=by
 refine enter (nt:=11) (rs:=[.tmp 6]) Proofs.Tryz.func72 rfl rfl rfl (by simp) ?_
 simp -dsimp (maxSteps:=1000000) (disch:=try exact dx) only[wpS,reduceEqDiff,reduceAdd]
 obtain⟨H0,hH0,n0,E0,g0,g1⟩:=boxes2 h [KI lo] [KI hi]
 rw[←hH0]
 clear hH0
 refine call (containsFunc_ok (outR lo hi) (hv.keep E0.keep).now hl (fun x hx=>within1_ok g0 g1)) ?_
 rintro _ _ ⟨rfl,rfl⟩
 simp -dsimp (maxSteps:=1000000) (disch:=try exact dx) only[wpS,wpT,reduceEqDiff]
 exact E0
theorem built1 (h:IH) (a:Int):SlOf (h.new (.cells [KI a] 1 none)) 1 (.slice (some ⟨2*h.n,0,none⟩) 1 3) 1 [KI a]:=built_sl h (m:=1) (by omega) rfl (by omega)
theorem built2 (h:IH) (a b:Int):SlOf (h.new (.cells [KI a,KI b] 1 none)) 1 (.slice (some ⟨2*h.n,0,none⟩) 2 5) 2 [KI a,KI b]:=built_sl h (m:=2) (by omega) rfl (by omega)
theorem known_ok {h:IH} {v:Value} {l:List Int} (m:Int) (hv:SlOf h 1 v l.length (l.map KI)) (hl:l.length≤1000000000) :
  WV prog (.func (.func 71) #[] #[]) [KI m,v] h fun r h'=>Ext h h'∧r=.bool (inR 11 15 [m] && inR 0 1000 l):=by
 refine enter (nt:=12) (rs:=[.tmp 4]) Proofs.Tryz.func71 rfl rfl rfl (by simp) ?_
 simp -dsimp (maxSteps:=1000000) (disch:=try exact dx) only[wpS,wpT,reduceEqDiff,reduceLeDiff,reduceAdd,bs29]
 have E1:Ext h (h.new (.cells [KI m] 1 none)):=(Ext.refl h).new _
 refine call (within_ok (l:=[m]) 11 15 (built1 h m) (by simp)) ?_
 rintro _ h1 ⟨X1,rfl⟩
 have E2:=E1.trans X1
 cases c:inR 11 15 [m]
 ·simp -dsimp (maxSteps:=1000000) (disch:=try exact dx) only[wpS,wpT,reduceEqDiff]
  exact E2
 ·simp -dsimp (maxSteps:=1000000) (disch:=try exact dx) only[wpS,wpT,reduceEqDiff]
  refine call (within_ok (l:=l) 0 1000 (hv.keep E2.keep) hl) ?_
  rintro _ h2 ⟨X2,rfl⟩
  simp -dsimp (maxSteps:=1000000) (disch:=try exact dx) only[wpS,wpT,reduceEqDiff]
  exact E2.trans X2
def postN (m s:Nat):Nat:=if m=11 then s else if m=12 then 2*s*(s+1) else if m=13 then s*(s+1) else if m=14 then 2*s+1 else s+1
def postD (m s:Nat):Nat:=if m=12 then 2*s+1 else if m=14 then 2 else 1
theorem postD_pos (m s:Nat):0<postD m s:=by unfold postD;split;omega;split<;>omega
theorem postN_le {m s:Nat} (h:s≤1000):postN m s≤2002000:=by
 have h1:s*(s+1)≤1000*1001:=Nat.mul_le_mul h (by omega)
 have h2:2*s*(s+1)=2*(s*(s+1)):=Nat.mul_assoc _ _ _
 unfold postN
 repeat' split
 all_goals omega
theorem postD_le {m s:Nat} (h:s≤1000):postD m s≤2001:=by
 unfold postD
 repeat' split
 all_goals omega
theorem adams_ok {h:IH} (s:Nat):WV prog (.func (.func 131) #[] #[]) [KN s] h fun r h'=>h'=h∧r=.tuple #[KN s,KN 1]:=by
 refine enter (nt:=5) (rs:=[.tmp 2,.tmp 3]) Proofs.Tryz.func131 rfl rfl rfl (by simp) ?_
 simp -dsimp (maxSteps:=1000000) (disch:=try exact dx) only[wpS,wpT,reduceEqDiff]
 rfl
theorem dean_ok {h:IH} (s:Nat) (hs:s≤1000):WV prog (.func (.func 132) #[] #[]) [KN s] h fun r h'=>h'=h∧r=.tuple #[KN (2*s*(s+1)),KN (2*s+1)]:=by
 have h1:s*(s+1)≤1000*1001:=Nat.mul_le_mul hs (by omega)
 have h2:2*s*(s+1)=2*(s*(s+1)):=Nat.mul_assoc _ _ _
 have e1:IntKind.i64.wrap (2*(s:Int))=((2*s:Nat):Int):=by rw[wrap_i64 (by omega)];omega
 have e2:IntKind.i64.wrap ((s:Int)+1)=((s+1:Nat):Int):=by rw[wrap_i64 (by omega)];omega
 have e3:IntKind.i64.wrap (((2*s:Nat):Int)*((s+1:Nat):Int))=((2*s*(s+1):Nat):Int):=by rw[←Int.natCast_mul,wrap_i64 (by omega)]
 have e4:IntKind.i64.wrap (((2*s:Nat):Int)+1)=((2*s+1:Nat):Int):=by rw[wrap_i64 (by omega)];omega
 refine enter (nt:=12) (rs:=[.tmp 2,.tmp 3]) Proofs.Tryz.func132 rfl rfl rfl (by simp) ?_
 simp -dsimp (maxSteps:=1000000) (disch:=try exact dx) only[wpS,wpT,reduceEqDiff,e1,e2,e3,e4]
theorem hill_ok {h:IH} (s:Nat) (hs:s≤1000):WV prog (.func (.func 133) #[] #[]) [KN s] h fun r h'=>h'=h∧r=.tuple #[KN (s*(s+1)),KN 1]:=by
 have h1:s*(s+1)≤1000*1001:=Nat.mul_le_mul hs (by omega)
 have e2:IntKind.i64.wrap ((s:Int)+1)=((s+1:Nat):Int):=by rw[wrap_i64 (by omega)];omega
 have e3:IntKind.i64.wrap ((s:Int)*((s+1:Nat):Int))=((s*(s+1):Nat):Int):=by rw[←Int.natCast_mul,wrap_i64 (by omega)]
 refine enter (nt:=8) (rs:=[.tmp 2,.tmp 3]) Proofs.Tryz.func133 rfl rfl rfl (by simp) ?_
 simp -dsimp (maxSteps:=1000000) (disch:=try exact dx) only[wpS,wpT,reduceEqDiff,e2,e3]
 rfl
theorem webster_ok {h:IH} (s:Nat) (hs:s≤1000):WV prog (.func (.func 134) #[] #[]) [KN s] h fun r h'=>h'=h∧r=.tuple #[KN (2*s+1),KN 2]:=by
 have e1:IntKind.i64.wrap (2*(s:Int))=((2*s:Nat):Int):=by rw[wrap_i64 (by omega)];omega
 have e4:IntKind.i64.wrap (((2*s:Nat):Int)+1)=((2*s+1:Nat):Int):=by rw[wrap_i64 (by omega)];omega
 refine enter (nt:=7) (rs:=[.tmp 2,.tmp 3]) Proofs.Tryz.func134 rfl rfl rfl (by simp) ?_
 simp -dsimp (maxSteps:=1000000) (disch:=try exact dx) only[wpS,wpT,reduceEqDiff,e1,e4]
 rfl
theorem jefferson_ok {h:IH} (s:Nat) (hs:s≤1000):WV prog (.func (.func 135) #[] #[]) [KN s] h fun r h'=>h'=h∧r=.tuple #[KN (s+1),KN 1]:=by
 have e2:IntKind.i64.wrap ((s:Int)+1)=((s+1:Nat):Int):=by rw[wrap_i64 (by omega)];omega
 refine enter (nt:=6) (rs:=[.tmp 2,.tmp 3]) Proofs.Tryz.func135 rfl rfl rfl (by simp) ?_
 simp -dsimp (maxSteps:=1000000) (disch:=try exact dx) only[wpS,wpT,reduceEqDiff,e2]
 rfl
theorem post_ok {h:IH} {m s:Nat} (hm:11≤m∧m≤15) (hs:s≤1000) :
  WV prog (.func (.func 104) #[] #[]) [KN s,KN m] h fun r h'=>Ext h h'∧r=.tuple #[KN (postN m s),KN (postD m s)]:=by
 have hc:m=11∨m=12∨m=13∨m=14∨m=15:=by omega
 rcases hc with rfl|rfl|rfl|rfl|rfl
 ·have i0:idxAt (((11:Nat):Int) - 11) 5=some 0:=rfl
  refine enter (nt:=16) (rs:=[.tmp 4,.tmp 5]) Proofs.Tryz.func104 rfl rfl rfl (by simp) ?_
  simp -dsimp (maxSteps:=1000000) (disch:=try exact dx) only[wpS,wpT,reduceEqDiff,reduceLeDiff,reduceAdd,bv184,pl184_0,pl184_1,pl184_2,pl184_3,pl184_4,zc184,st184,ar184,ld182,i0]
  refine call (adams_ok s) ?_
  rintro _ _ ⟨rfl,rfl⟩
  simp -dsimp (maxSteps:=1000000) (disch:=try exact dx) only[wpS,reduceEqDiff]
  exact⟨((Ext.refl h).new _).put (by simp) _,rfl⟩
 ·have i0:idxAt (((12:Nat):Int) - 11) 5=some 1:=rfl
  refine enter (nt:=16) (rs:=[.tmp 4,.tmp 5]) Proofs.Tryz.func104 rfl rfl rfl (by simp) ?_
  simp -dsimp (maxSteps:=1000000) (disch:=try exact dx) only[wpS,wpT,reduceEqDiff,reduceLeDiff,reduceAdd,bv184,pl184_0,pl184_1,pl184_2,pl184_3,pl184_4,zc184,st184,ar184,ld182,i0]
  refine call (dean_ok s hs) ?_
  rintro _ _ ⟨rfl,rfl⟩
  simp -dsimp (maxSteps:=1000000) (disch:=try exact dx) only[wpS,reduceEqDiff]
  exact⟨((Ext.refl h).new _).put (by simp) _,rfl⟩
 ·have i0:idxAt (((13:Nat):Int) - 11) 5=some 2:=rfl
  refine enter (nt:=16) (rs:=[.tmp 4,.tmp 5]) Proofs.Tryz.func104 rfl rfl rfl (by simp) ?_
  simp -dsimp (maxSteps:=1000000) (disch:=try exact dx) only[wpS,wpT,reduceEqDiff,reduceLeDiff,reduceAdd,bv184,pl184_0,pl184_1,pl184_2,pl184_3,pl184_4,zc184,st184,ar184,ld182,i0]
  refine call (hill_ok s hs) ?_
  rintro _ _ ⟨rfl,rfl⟩
  simp -dsimp (maxSteps:=1000000) (disch:=try exact dx) only[wpS,reduceEqDiff]
  exact⟨((Ext.refl h).new _).put (by simp) _,rfl⟩
 ·have i0:idxAt (((14:Nat):Int) - 11) 5=some 3:=rfl
  refine enter (nt:=16) (rs:=[.tmp 4,.tmp 5]) Proofs.Tryz.func104 rfl rfl rfl (by simp) ?_
  simp -dsimp (maxSteps:=1000000) (disch:=try exact dx) only[wpS,wpT,reduceEqDiff,reduceLeDiff,reduceAdd,bv184,pl184_0,pl184_1,pl184_2,pl184_3,pl184_4,zc184,st184,ar184,ld182,i0]
  refine call (webster_ok s hs) ?_
  rintro _ _ ⟨rfl,rfl⟩
  simp -dsimp (maxSteps:=1000000) (disch:=try exact dx) only[wpS,reduceEqDiff]
  exact⟨((Ext.refl h).new _).put (by simp) _,rfl⟩
 ·have i0:idxAt (((15:Nat):Int) - 11) 5=some 4:=rfl
  refine enter (nt:=16) (rs:=[.tmp 4,.tmp 5]) Proofs.Tryz.func104 rfl rfl rfl (by simp) ?_
  simp -dsimp (maxSteps:=1000000) (disch:=try exact dx) only[wpS,wpT,reduceEqDiff,reduceLeDiff,reduceAdd,bv184,pl184_0,pl184_1,pl184_2,pl184_3,pl184_4,zc184,st184,ar184,ld182,i0]
  refine call (jefferson_ok s hs) ?_
  rintro _ _ ⟨rfl,rfl⟩
  simp -dsimp (maxSteps:=1000000) (disch:=try exact dx) only[wpS,reduceEqDiff]
  exact⟨((Ext.refl h).new _).put (by simp) _,rfl⟩
end Go.Id

namespace Go.Id
open Go
open Go.Proofs.Tryz (prog)
section
variable {P:Program}
theorem pr_program:pureRun P (program)=some P:=rfl
theorem pr_part_agg {e:TypeId} {n:Nat} (hA:isAggT P e=some true) (hs:sizeT P e=some n) (cs:Array Value) (off:Nat):pureRun P (part e cs off)=some (.agg (cs.extract off (off+n))):=by
 unfold part
 have h1:pureRun P (isAgg e)=some true:=by
  unfold isAgg
  simp only[isAggT,Option.map_eq_some_iff] at hA
  obtain⟨d,hd,hA⟩:=hA
  rw[pr_bind (pr_underlying hd)]
  cases d<;>first|rfl|(simp at hA)
 rw[pr_bind h1]
 simp only[if_true]
 rw[pr_bind (pr_sizeOf hs)]
 rfl
theorem binop_eql_gen {t:TypeId} {x y:Array Value} {b:Bool} (hg:P.eqGuardType P.depth t=false) (hx:plain (.agg x)=true) (hy:plain (.agg y)=true) (h:pureRun P (Op.equal t (.agg x) (.agg y))=some b) (ox oy:Operand):binop P .eql t ox oy (.agg x) (.agg y)=some (.bool b):=by
 refine binop_of P t ox oy hx hy rfl ?_
 have h1:pureRun P (eqGuard .eql t ox oy (.agg x) (.agg y))=some ():=by
  show pureRun P (if (!P.eqGuardType P.depth t)=true then _ else _)=_
  rw[hg];rfl
 rw[pr_bind h1]
 show pureRun P (Op.equal t _ _ >>= fun r=>pure (Value.bool r))=_
 rw[pr_bind h];rfl
end
theorem sh_ext1 (n d:Nat):((shC n d).toArray).extract 0 8=(wdC n).toArray:=by
 simp only[List.extract_toArray,List.extract_eq_take_drop]
 rw[show(8 - 0)=8 from rfl,sh_take1]
theorem sh_ext2 (n d:Nat):((shC n d).toArray).extract 8 16=(wdC d).toArray:=by
 simp only[List.extract_toArray,List.extract_eq_take_drop]
 rw[show(16 - 8)=8 from rfl,sh_take2]
theorem wd_equalIn {n m:Nat} (hn:n<W8) (hm:m<W8) (k:Nat):pureRun prog (Op.equalIn (k+2) 45 (.agg (wdC n).toArray) (.agg (wdC m).toArray))=some (decide (n=m)):=by
 rw[wdC_map,wdC_map,pr_equal_arr u45 u43 sz43 _ _ _ (by simp) (by simp),wd_dec hn hm]
theorem sh_equalIn {n d n' d':Nat} (h1:n<W8) (h2:d<W8) (h3:n'<W8) (h4:d'<W8) (k:Nat):pureRun prog (Op.equalIn (k+3) 47 (.agg (shC n d).toArray) (.agg (shC n' d').toArray))=some (decide (n=n'∧d=d')):=by
 unfold Op.equalIn
 rw[pr_bind (pr_underlying (show Program.underlying prog 47=some (.struct { toList:=[{ name := "N",type:=45,offset:=0,embedded:=false,tag := "",pkgPath := "",byteOffset:=0 },{ name := "D",type:=45,offset:=8,embedded:=false,tag := "",pkgPath := "",byteOffset:=64 }] }) by kernel_rfl))]
 simp only
 rw[pr_bind pr_program,show Program.stoodInHeld prog 47=false by kernel_rfl]
 have seq : ∀{α β:Type} (s:Sem α) (f:α→Sem β),pureRun prog (s >>= f)=(pureRun prog s).bind fun a=>pureRun prog (f a):=fun s f=>pureRun_seq _ f s
 have p1:=fun(n d:Nat)=>pr_part_agg (P:=prog) ag45 sz45 (shC n d).toArray 0
 have p2:=fun(n d:Nat)=>pr_part_agg (P:=prog) ag45 sz45 (shC n d).toArray 8
 have n1:("N" ≠ "_")=True:=by simp
 have n2:("D" ≠ "_")=True:=by simp
 simp only[Bool.false_eq_true,if_false,←Array.forIn_toList,List.forIn_cons,List.forIn_nil,seq,n1,n2,if_true,p1,Option.bind_some,Nat.zero_add,sh_ext1,wd_equalIn h1 h3]
 by_cases e1:n=n'
 ·simp only[decide_eq_true e1,Bool.not_true,Bool.false_eq_true,if_false,pr_pure,Option.bind_some,seq,p2,show(8+8:Nat)=16 from rfl,sh_ext2,wd_equalIn h2 h4]
  by_cases e2:d=d'
  ·simp only[decide_eq_true e2,Bool.not_true,Bool.false_eq_true,if_false,pr_pure,Option.bind_some]
   rw[decide_eq_true (And.intro e1 e2)]
  ·simp only[decide_eq_false e2,Bool.not_false,if_true,pr_pure,Option.bind_some]
   rw[decide_eq_false (fun h=>e2 h.2)]
 ·simp only[decide_eq_false e1,Bool.not_false,if_true,pr_pure,Option.bind_some]
  rw[decide_eq_false (fun h=>e1 h.1)]
theorem sh_plain (n d:Nat):plain (.agg (shC n d).toArray)=true:=by
 simp only[plain,shC,wdC]
 simp[scal]
end Go.Id

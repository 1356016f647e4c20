/-
  The functions of package share, by value: what WdEvS reckons is what they give. Contracts: package temper: beyond, Check.
-/
import Derived.Test.YtjhnilfelokpcaaGreatOutlierWaysBh
import Derived.Test.YtjhnilfelokpcaaGreatOutlierWaysBg
import Derived.Test.YtjhnilfelokpcaaGreatOutlierWaysBk
import Derived.Test.YtjhnilfelokpcaaGreatOutlierWaysAs
import Derived.Test.YtjhnilfelokpcaaGreatOutlierWaysAw
import Derived.Test.YtjhnilfelokpcaaGreatOutlierWaysAp
set_option linter.unusedVariables false
set_option linter.unusedSimpArgs false
set_option linter.defProp false
set_option linter.deprecated false
namespace Go.Id
open Go
theorem w512_eq:w512=W8:=by rw[W8_eq];decide +kernel
theorem h512_eq:h512=H8:=by unfold H8;decide +kernel
theorem wordsF_some : ∀(l:List Value) (x:Nat),wordsF l=some x→x<18446744073709551616 ^ l.length∧l=(List.range l.length).map fun i=>K64 (wrd x i)
 | [],x,h=>by
  cases h;exact⟨by decide,rfl⟩
 | v :: l,x,h=>by
  change wordC v (wordsF l)=some x at h
  unfold wordC at h
  split at h
  case h_2=>cases h
  rename_i w
  obtain⟨h0,h⟩:=iB_some h
  cases hr:wordsF l with
  | none=>rw[hr] at h;cases h
  | some r =>
   rw[hr] at h
   cases h
   obtain⟨a,b⟩:=wordsF_some l r hr
   have hw:w<18446744073709551616:=bleI.1 h0
   show w+18446744073709551616*r<18446744073709551616 ^ (l.length+1)∧_
   refine⟨?_,?_⟩
   ·rw[Nat.pow_succ]
    have:(r+1)*18446744073709551616≤18446744073709551616 ^ l.length*18446744073709551616:=Nat.mul_le_mul_right _ a
    omega
   ·show _=(List.range (l.length+1)).map fun i=>K64 (wrd (w+18446744073709551616*r) i)
    rw[List.range_succ_eq_map,List.map_cons,List.map_map]
    have e0:wrd (w+18446744073709551616*r) 0=w:=by unfold wrd;rw[Nat.pow_zero,Nat.div_one];omega
    have e1 : ∀i,wrd (w+18446744073709551616*r) (i+1)=wrd r i:=fun i=>by
     unfold wrd
     rw[Nat.pow_succ,Nat.mul_comm (18446744073709551616 ^ i),←Nat.div_div_eq_div_mul,show(w+18446744073709551616*r) / 18446744073709551616=r from by omega]
    rw[e0]
    congr 1
    refine b.trans (List.map_congr_left fun i _=>?_)
    show _=K64 (wrd (w+18446744073709551616*r) (i+1))
    rw[e1]
theorem wrd_mod8 (x i:Nat) (hi:i<8):wrd (x % 18446744073709551616 ^ 8) i=wrd x i:=by
 have h:=wrd_add_low (n:=x % 18446744073709551616 ^ 8) (x:=x / 18446744073709551616 ^ 8) hi
 rw[←h,show x % 18446744073709551616 ^ 8+x / 18446744073709551616 ^ 8*18446744073709551616 ^ 8=x from by rw[Nat.mul_comm];exact Nat.mod_add_div _ _]
theorem wrd_div8 (x i:Nat):wrd (x / 18446744073709551616 ^ 8) i=wrd x (8+i):=by
 unfold wrd
 rw[Nat.div_div_eq_div_mul,←Nat.pow_add]
theorem words16 (x:Nat):((List.range 16).map fun i=>K64 (wrd x i))=shC (x % W8) (x / W8):=by
 rw[shC,wdC,wdC,W8_eq,show(16:Nat)=8+8 from rfl,List.range_add,List.map_append,List.map_map]
 congr 1
 ·exact List.map_congr_left fun i hi=>by rw[wrd_mod8 x i (by simpa using hi)]
 ·exact List.map_congr_left fun i hi=>by
   show K64 (wrd x (8+i))=_
   rw[wrd_div8]
theorem sgnF_eq {n:Nat} (hn:n<W8):sgnF n=wdI n:=by
 have e1:=h512_eq
 have e2:=w512_eq
 have e3:=W8_two
 unfold sgnF wdI
 rw[iB_eq,e1,e2]
 by_cases h:n<H8
 ·rw[if_pos h,bleI.2 h];rfl
 ·rw[if_neg h,Bool.eq_false_iff.2 (fun hb=>h (bleI.1 hb))]
  show Int.negSucc (W8 - n - 1)=_
  omega
theorem shareF_some {v:Value} {k:Int→Int→Option Value} {r:Value} (h:shareF v k=some r) : ∃p:Nat×Nat,(p.1<W8∧p.2<W8)∧v=shV p.1 p.2∧k (wdI p.1) (wdI p.2)=some r:=by
 unfold shareF at h
 split at h
 case h_2=>cases h
 rename_i cs
 obtain⟨h0,h⟩:=iB_some h
 have hl:cs.toList.length=16:=by rw[←lenL_eq];exact Nat.beq_eq.mp h0
 cases hx:wordsF cs.toList with
 | none=>rw[hx] at h;cases h
 | some x =>
  rw[hx,bO_some,fN_eq] at h
  obtain⟨a,b⟩:=wordsF_some _ _ hx
  rw[hl] at a b
  have ex:x<W8*W8:=by rw[W8_eq,←Nat.pow_add];exact a
  have hp:0<W8:=by have:=W8_two;have:=H8_pos;omega
  have q1:x % W8<W8:=Nat.mod_lt _ hp
  have q2:x / W8<W8:=by rw[Nat.div_lt_iff_lt_mul hp];exact ex
  refine⟨(x % W8,x / W8),⟨q1,q2⟩,?_,?_⟩
  ·rw[shV,←words16,←b]
  ·have h2:k (sgnF (x % w512)) (sgnF (x / w512))=some r:=h
   rw[w512_eq,sgnF_eq q1,sgnF_eq q2] at h2
   exact h2
theorem wideF_some {v:Value} {k:Int→Option Value} {r:Value} (h:wideF v k=some r) : ∃n:Nat,n<W8∧v=wdV n∧k (wdI n)=some r:=by
 unfold wideF at h
 split at h
 case h_2=>cases h
 rename_i cs
 obtain⟨h0,h⟩:=iB_some h
 have hl:cs.toList.length=8:=by rw[←lenL_eq];exact Nat.beq_eq.mp h0
 cases hx:wordsF cs.toList with
 | none=>rw[hx] at h;cases h
 | some x =>
  rw[hx,bO_some,fN_eq] at h
  obtain⟨a,b⟩:=wordsF_some _ _ hx
  rw[hl] at a b
  have q1:x<W8:=by rw[W8_eq];exact a
  refine⟨x,q1,?_,?_⟩
  ·rw[wdV,wdC,←b]
  ·rw[sgnF_eq q1] at h
   exact h
theorem intF_some {v:Value} {k:Int→Option Value} {r:Value} (h:intF v k=some r) : ∃z:Int,v=KI z∧k z=some r:=by
 unfold intF at h
 split at h
 case h_2=>cases h
 exact⟨_,rfl,h⟩
theorem wordsL_eq (tl:List Value) : ∀(k x:Nat),wordsL k x tl=((List.range k).map fun i=>K64 (wrd x i)) ++ tl
 | 0,_=>rfl
 | k+1,x=>by
  show fN (x % 18446744073709551616) (fun w=>Value.int .u64 (.ofNat w) :: wordsL k (x / 18446744073709551616) tl)=_
  rw[fN_eq,wordsL_eq tl k,List.range_succ_eq_map,List.map_cons,List.map_map,List.cons_append]
  have e0:wrd x 0=x % 18446744073709551616:=by unfold wrd;rw[Nat.pow_zero,Nat.div_one]
  rw[e0]
  congr 2
  refine List.map_congr_left fun i _=>?_
  show _=K64 (wrd x (i+1))
  unfold wrd
  rw[Nat.pow_succ,Nat.mul_comm (18446744073709551616 ^ i),Nat.div_div_eq_div_mul]
theorem wordF_eq {z:Int} (hz:InW z):wordF z=wideN z:=by
 have e2:=w512_eq
 unfold wideN
 cases z with
 | ofNat n=>rfl
 | negSucc n =>
  show w512 - (n+1)=_
  rw[e2,if_neg (by omega)];rfl
theorem aggF_eq {a b:Int} (ha:InW a) (hb:InW b):aggF a b=shV (wideN a) (wideN b):=by
 unfold aggF shV shC wdC
 rw[wordsL_eq,wordsL_eq,wordF_eq ha,wordF_eq hb,List.append_nil]
theorem inF_eq (z:Int):inF z=decide (InW z):=by
 have e1:=h512_eq
 have:=H8_pos
 rw[Bool.eq_iff_iff,decide_eq_true_eq]
 unfold InW
 cases z with
 | ofNat n =>
  show Nat.ble (n+1) h512=true ↔ -(H8:Int)≤(n:Int)∧(n:Int)<H8
  rw[bleI,e1]
  omega
 | negSucc n =>
  show Nat.ble (n+1) h512=true↔_
  rw[bleI,e1]
  omega
theorem toldF_eq {n d:Int} (hd:0<d):toldF n d=toldV (Rat.divInt n d):=by
 obtain⟨a,b⟩:=low_pos (n:=n) hd
 have z0:InW 0:=⟨by have:=H8_pos;omega,by have:=H8_pos;omega⟩
 have zz:aggF 0 0=shV 0 0:=by rw[aggF_eq z0 z0];rfl
 unfold toldF toldV
 rw[fN_eq,iB_eq,iB_eq,inF_eq,inF_eq]
 rw[show Int.ediv n (Int.ofNat (Int.gcd n d))=(Rat.divInt n d).num from a,show Int.ediv d (Int.ofNat (Int.gcd n d))=(Rat.divInt n d).den from b,zz]
 unfold QW
 by_cases c1:InW (Rat.divInt n d).num
 ·by_cases c2:InW ((Rat.divInt n d).den:Int)
  ·rw[if_pos ⟨c1,c2⟩,decide_eq_true c1,decide_eq_true c2,aggF_eq c1 c2];rfl
  ·rw[if_neg (fun h=>c2 h.2),decide_eq_true c1,decide_eq_false c2];rfl
 ·rw[if_neg (fun h=>c1 h.1),decide_eq_false c1];rfl
theorem posF_eq (z:Int):posF z=decide (0<z):=by
 rw[Bool.eq_iff_iff,decide_eq_true_eq]
 cases z with
 | ofNat n =>
  show Nat.ble 1 n=true↔0<(n:Int)
  rw[bleI];omega
 | negSucc n=>exact⟨fun h=>Bool.noConfusion h,fun h=>absurd h (by omega)⟩
theorem zeroF_eq (z:Int):zeroF z=decide (z=0):=by
 rw[Bool.eq_iff_iff,decide_eq_true_eq]
 cases z with
 | ofNat n =>
  show Nat.beq n 0=true↔(n:Int)=0
  rw[Nat.beq_eq];omega
 | negSucc n=>exact⟨fun h=>Bool.noConfusion h,fun h=>absurd h (by omega)⟩
theorem in64F_eq {z:Int} (h:in64F z=true):In64 z:=by
 unfold In64
 cases z with
 | ofNat n =>
  have:=bleI.1 (show Nat.ble (Nat.succ n) 9223372036854775808=true from h)
  show _≤(n:Int)∧(n:Int)<_
  omega
 | negSucc n =>
  have:=bleI.1 (show Nat.ble (Nat.succ n) 9223372036854775808=true from h)
  omega
theorem okF_ok {n d:Nat} (h:okF (wdI n) (wdI d)=true):okS n d:=by
 unfold okF at h
 rw[iB_eq,posF_eq] at h
 by_cases c:0<wdI d
 ·rw[decide_eq_true c] at h
  exact⟨c,Nat.beq_eq.mp h⟩
 ·rw[decide_eq_false c] at h;cases h
theorem okF_eq (n d:Nat):okF (wdI n) (wdI d)=(open Classical in decide (okS n d)):=by
 rw[Bool.eq_iff_iff,decide_eq_true_eq]
 refine⟨okF_ok,fun h=>?_⟩
 unfold okF
 rw[iB_eq,posF_eq,decide_eq_true h.1]
 exact Nat.beq_eq.mpr h.2
theorem divF_eq {n d:Int} (hd:d≠0):divF n d=toldV (Rat.divInt n d):=by
 cases d with
 | ofNat b =>
  show toldF n (b:Int)=toldV (Rat.divInt n (b:Int))
  have:(b:Int)≠0:=hd
  exact toldF_eq (by omega)
 | negSucc b =>
  show toldF (-n) ((b+1:Nat):Int)=_
  rw[toldF_eq (by omega)]
  congr 1
theorem cmpF_eq (x y:Int):cmpF x y=if x<y then -1 else if x=y then 0 else 1:=by
 unfold cmpF
 have e:Int.sub x y=x - y:=rfl
 rw[e]
 cases h:x - y with
 | ofNat n =>
  have h:x - y=(n:Int):=h
  cases n with
  | zero=>rw[if_neg (by omega),if_pos (by omega)];rfl
  | succ m=>rw[if_neg (by omega),if_neg (by omega)]
 | negSucc n=>rw[if_pos (by omega)]
theorem toldV_div {n d:Int} (hn:In64 n) (hd:In64 d) (d0:d≠0):toldV (Rat.divInt n d)=.tuple #[shareV (Rat.divInt n d),KI 0]:=by
 unfold toldV
 rw[if_pos (qw_div hn hd d0)]
abbrev Val (f:Value) (g:List Value→Option Value):Prop:=∀args v,args.all plain=true→g args=some v→plainT v=true∧WV Proofs.Tryz.prog f args (IH.start fun _=>none) fun r _=>r=v
theorem plain_shV (n d:Nat):plain (shV n d)=true:=by
 show(shC n d).toArray.all scal=true
 rw[shC,wdC,wdC,List.all_toArray,List.all_append,List.all_map,List.all_map]
 simp[scal]
theorem plain_toldV (q:Rat):plainT (toldV q)=true:=by
 obtain⟨n,d,e,h⟩:=toldV_form q
 rw[h]
 show [shV n d,KI e].all plain=true
 rw[List.all_cons,plain_shV];rfl
theorem val_of:Val (.func (.func 108) #[] #[]) of2:=by
 intro args v _ h
 unfold of2 at h
 split at h
 case h_2=>cases h
 obtain⟨n,e0,k⟩:=intF_some h
 clear h;subst e0;have h:=k;clear k
 obtain⟨d,e0,k⟩:=intF_some h
 clear h;subst e0;have h:=k;clear k
 obtain⟨h1,h⟩:=iB_some h
 obtain⟨h2,h⟩:=iB_some h
 obtain⟨h3,h⟩:=iB_some' h
 cases h
 have d0:d≠0:=by rw[zeroF_eq] at h3;exact of_decide_eq_false h3
 have e:=toldV_div (in64F_eq h1) (in64F_eq h2) d0
 rw[divF_eq d0]
 exact⟨plain_toldV _,(shof_ok n d (in64F_eq h1) (in64F_eq h2) d0).mono fun r h' k=>k.2.trans e.symm⟩
theorem val_of02:Val (.func (.func 43) #[] #[]) of2:=by
 intro args v _ h
 unfold of2 at h
 split at h
 case h_2=>cases h
 obtain⟨n,e0,k⟩:=intF_some h
 clear h;subst e0;have h:=k;clear k
 obtain⟨d,e0,k⟩:=intF_some h
 clear h;subst e0;have h:=k;clear k
 obtain⟨h1,h⟩:=iB_some h
 obtain⟨h2,h⟩:=iB_some h
 obtain⟨h3,h⟩:=iB_some' h
 cases h
 have d0:d≠0:=by rw[zeroF_eq] at h3;exact of_decide_eq_false h3
 have e:=toldV_div (in64F_eq h1) (in64F_eq h2) d0
 rw[divF_eq d0]
 exact⟨plain_toldV _,(ref02Of_ok n d (in64F_eq h1) (in64F_eq h2) d0).mono fun r h' k=>k.2.trans e.symm⟩
theorem val_make:Val (.func (.func 197) #[] #[]) make2:=by
 intro args v _ h
 unfold make2 at h
 split at h
 case h_2=>cases h
 obtain⟨n,hn,e0,k⟩:=wideF_some h
 clear h;subst e0;have h:=k;clear k
 obtain⟨d,hd,e0,k⟩:=wideF_some h
 clear h;subst e0;have h:=k;clear k
 obtain⟨h3,h⟩:=iB_some' h
 cases h
 have d0:wdI d≠0:=by rw[zeroF_eq] at h3;exact of_decide_eq_false h3
 rw[divF_eq d0]
 exact⟨plain_toldV _,(shmake_ok n d hn hd (fun e=>d0 ((wdI_zero_iff hd).2 e))).mono fun r h' k=>k.2⟩
theorem val_check:Val (.func (.func 113) #[] #[]) check1:=by
 intro args v _ h
 unfold check1 at h
 split at h
 case h_2=>cases h
 obtain⟨p,hp,e0,k⟩:=shareF_some h
 clear h;subst e0;have h:=k;clear k
 cases h
 rw[okF_eq,iB_eq]
 refine⟨rfl,(shcheck_ok p.1 p.2 hp.1 hp.2).mono fun r h' k=>k.2.trans ?_⟩
 by_cases c:okS p.1 p.2
 ·rw[if_pos c,decide_eq_true c];rfl
 ·rw[if_neg c,decide_eq_false c];rfl
theorem two2_some {of:Int→Int→Int→Int→Option Value} {l:List Value} {v:Value} (h:two2 of l=some v) : ∃p q:Nat×Nat,(p.1<W8∧p.2<W8)∧(q.1<W8∧q.2<W8)∧okS p.1 p.2∧okS q.1 q.2∧l = [shV p.1 p.2,shV q.1 q.2]∧of (wdI p.1) (wdI p.2) (wdI q.1) (wdI q.2)=some v:=by
 unfold two2 at h
 split at h
 case h_2=>cases h
 obtain⟨p,hp,e0,k⟩:=shareF_some h
 clear h;subst e0;have h:=k;clear k
 obtain⟨ok1,h⟩:=iB_some h
 obtain⟨q,hq,e0,k⟩:=shareF_some h
 clear h;subst e0;have h:=k;clear k
 obtain⟨ok2,h⟩:=iB_some h
 exact⟨p,q,hp,hq,okF_ok ok1,okF_ok ok2,rfl,h⟩
theorem val_cmp:Val (.func (.func 36) #[] #[]) cmp2:=by
 intro args v _ h
 obtain⟨p,q,hp,hq,ok1,ok2,e0,k⟩:=two2_some h
 clear h;subst e0;have h:=k;clear k
 cases h
 refine⟨rfl,(shcmp_ok hp hq ok1 ok2).mono fun r h' k=>k.2.trans ?_⟩
 have e:cmpF (Int.mul (wdI p.1) (wdI q.2)) (Int.mul (wdI q.1) (wdI p.2))=if rOf p<rOf q then -1 else if rOf p=rOf q then 0 else 1:=by
  rw[cmpF_eq,←cmp_rat,(rOf_parts ok1).1,(rOf_parts ok1).2,(rOf_parts ok2).1,(rOf_parts ok2).2];rfl
 rw[e]
theorem rat_sub' (x y:Rat):x - y=Rat.divInt (x.num*y.den - y.num*x.den) ((x.den:Int)*y.den):=by
 rw[show x - y=x + -y from by grind,rat_add,Rat.neg_num,Rat.neg_den]
 congr 1
 grind
end Go.Id

namespace Go.Id
open Go
def InSl (h:IH) (v:Value) (l:List Int):Prop:=SlOf h 1 v l.length (l.map KI)∧l.length≤1000000000 ∧ ∀x∈l,In64 x
theorem InSl.keep {h h':IH} {v:Value} {l:List Int} (s:InSl h v l) (e:Keep h h'):InSl h' v l:=⟨s.1.keep e,s.2⟩
end Go.Id

namespace Go.Id
open Go
end Go.Id

namespace Go.Id
open Go
end Go.Id

namespace Go.Id
open Go
section
variable {P:Program}
theorem pr_part_scal {e:TypeId} (hA:isAggT P e=some false) {cs:Array Value} {off:Nat} {v:Value} (hv:cs[off]?=some v):pureRun P (part e cs off)=some v:=by
 unfold part
 have h1:pureRun P (isAgg e)=some false:=by
  unfold isAgg
  simp only[isAggT,Option.map_eq_some_iff] at hA
  obtain⟨d,hd,hA⟩:=hA
  rw[pr_bind (pr_underlying hd)]
  cases d<;>first|rfl|(simp at hA)
 rw[pr_bind h1]
 simp only[Bool.false_eq_true,if_false,hv]
 rfl
theorem pr_fields (body:Field→Option Bool×Unit→Sem (ForInStep (Option Bool×Unit))) (g:Option Bool×Unit→Sem Bool) (e:Field→Bool) : ∀fs:List Field,
  (∀f∈fs,∀r,pureRun P (body f r)=some (if e f=true then .yield (none,()) else .done (some false,()))) →
  pureRun P (forIn fs ((none,()):Option Bool×Unit) body >>= g)=pureRun P (g (if fs.all e=true then (none,()) else (some false,()))):=by
 have assoc : ∀(s:Sem (ForInStep (Option Bool×Unit))) (g1:ForInStep (Option Bool×Unit)→Sem (Option Bool×Unit)) (f2:Option Bool×Unit→Sem Bool),pureRun P ((s >>= g1) >>= f2)=pureRun P (s >>= fun x=>g1 x >>= f2):=fun s g1 f2=>by
  show pureRun P ((s.bind g1).bind f2)=pureRun P (s.bind fun x=>(g1 x).bind f2)
  rw[pureRun_seq,pureRun_seq,pureRun_seq]
  cases pureRun P s with
  | none=>rfl
  | some a=>simp only[Option.bind_some];rw[pureRun_seq]
 intro fs
 induction fs with
 | nil=>intro _;rfl
 | cons f fs ih =>
  intro hi
  have h1:=hi f (by simp) (none,())
  rw[List.forIn_cons,assoc,pr_bind h1,List.all_cons]
  cases hc:e f with
  | true =>
   rw[Bool.true_and,←ih fun j hj=>hi j (by simp[hj])]
   rfl
  | false =>
   rw[Bool.false_and]
   rfl
theorem pr_equal_struct {t:TypeId} {fs:Array Field} (hT:P.underlying t=some (.struct fs)) (hs:P.stoodInHeld t=false) (d:Nat) (xs ys:Array Value) (e:Field→Bool)
  (h : ∀f∈fs.toList,f.name ≠ "_" ∧ ∃a b,pureRun P (part f.type xs f.offset)=some a∧pureRun P (part f.type ys f.offset)=some b∧pureRun P (Op.equalIn d f.type a b)=some (e f)) :
  pureRun P (Op.equalIn (d+1) t (.agg xs) (.agg ys))=some (fs.toList.all e):=by
 unfold Op.equalIn
 rw[pr_bind (pr_underlying hT)]
 simp only
 rw[pr_bind (show pureRun P program=some P from rfl),hs]
 simp only[Bool.false_eq_true,if_false]
 rw[←Array.forIn_toList]
 rw[pr_fields _ _ e fs.toList]
 ·cases fs.toList.all e<;>rfl
 ·intro f hf r
  obtain⟨hn,a,b,h1,h2,h3⟩:=h f hf
  simp only[hn,ne_eq,not_false_eq_true,if_true]
  rw[pr_bind h1,pr_bind h2,pr_bind h3]
  cases e f<;>rfl
end
end Go.Id

namespace Go.Id
open Go
end Go.Id

namespace Go.Id
open Go
end Go.Id

namespace Go.Id
open Go
end Go.Id

namespace Go.Id
open Go
end Go.Id

namespace Go.Id
open Go
end Go.Id

namespace Go.Id
open Go
abbrev Reg:=Int×Int×Int
def regC (r:Reg):List Value:=[KI r.1,KI r.2.1,KI r.2.2]
def regL (l:List Reg):List Value:=l.flatMap regC
def lowOK (won low:List Int) (n:Nat):Prop:=∀i,i<n→0≤low.getD i 0∧low.getD i 0≤won.getD i 0
instance (won low:List Int) (n:Nat):Decidable (lowOK won low n):=inferInstanceAs (Decidable (∀i,i<n→_))
def regsOf (people won low:List Int) (n:Nat):List Reg:=(List.range n).map fun i=>(people.getD i 0,won.getD i 0,low.getD i 0)
structure OX (h H1 hh:IH) (fr:Fr) (vp vw vl:Value) (m:Int) (people won low:List Int) (b:Nat) (i:Nat) (out:Value):Prop where
 e:Ext h hh
 k:Keep H1 hh
 sp:SlOf H1 1 vp people.length (people.map KI)
 sw:SlOf H1 1 vw won.length (won.map KI)
 sl:SlOf H1 1 vl low.length (low.map KI)
 bn:h.n<b∧b<hh.n
 g8:hh.ext.get h.n=some (.cells [KI 0,.slice none 0 0] 0 none)
 g11:hh.ext.get b=some (.cells [KI m,out] 0 none)
 acc:Acc hh h.n 3 out i (regL (regsOf people won low i))
 lw:lowOK won low i
 f1:fget fr 1=some vw
 f3:fget fr 3=some vl
 f8:fget fr 8=some (ptr (2*h.n) 0)
 f11:fget fr 11=some (ptr (2*b) 0)
 f12:fget fr 12=some (KI (won.take i).sum)
 f52:fget fr 52=some vp
 f53:fget fr 53=some (KI people.length)
 f54:fget fr 54=some (KI i)
end Go.Id

namespace Go.Id
open Go
theorem append_full {P:Program} {t:TypeId} {sz bytes:Nat} (hT:appT P t=some (sz,bytes)) {h:IH} {b o n:Nat} {cs:List Value} (sv:SlNow h sz (.slice (some ⟨b,o,none⟩) n (2*n+1)) n cs) {x:Value} {m:Nat} {new:List Value} (sx:SlNow h sz x m new) (hm:0<m) (hn:0<n) (hc:new.all cellOK=true) (hsz:(n+m)*(bytes+1)≤1099511627776) :
  append P h t (.slice (some ⟨b,o,none⟩) n (2*n+1)) x=some (.slice (some ⟨2*h.n,0,none⟩) (n+m) (2*(n+m)),h.new (.cells (cs ++ new) sz none)):=by
 unfold appT at hT
 split at hT
 case h_2=>cases hT
 rename_i e hu
 split at hT
 case h_2=>cases hT
 rename_i zs h1 h2 h3
 simp only[cond_eq_ite] at hT
 split at hT
 case isTrue=>cases hT
 rename_i hbad
 cases hT
 have hbad':(sz == 0 || (!(Nat.ble bytes 65536) || !(zs.length == sz)))=false:=by simpa using hbad
 have first : ∀{y:Value} {k:Nat} {l:List Value},0<k→SlNow h sz y k l→firstOf h sz k y=some l∧lenOf y=some k:=by
  intro y k l hk s
  obtain⟨hz,hl,⟨rfl,rfl⟩|⟨b2,o2,k2,rfl,rfl|⟨row,a1,a2,a3⟩⟩⟩:=s
  ·omega
  ·omega
  have hms : ¬k*sz=0:=by
   have:0<k*sz:=Nat.mul_pos hk hz
   omega
  refine⟨?_,rfl⟩
  simp only[firstOf,cond_eq_ite,Nat.ble_eq,Nat.le_refl,if_true,beq_iff_eq,if_neg hms]
  rw[rd_of a1,if_pos a3,a2]
 have hmne:(m == 0)=false:=by simp;omega
 obtain⟨hfx,hlx⟩:=first hm sx
 obtain⟨hfv,_⟩:=first hn sv
 have hble:Nat.ble ((n+m)*(bytes+1)) sizeMost=true:=by rw[Nat.ble_eq];exact hsz
 have hcap:Nat.ble (n+m) ((2*n+1) / 2)=false:=by
  rw[Bool.eq_false_iff];intro hh;rw[Nat.ble_eq] at hh;omega
 have hodd:((2*n+1) % 2 == 1)=true:=by simp
 simp only[Id.append,hu,h1,h2,h3,hlx,hmne,hbad',hfx,hc,hble,hcap,hodd,hfv,cond_true,cond_false,Bool.not_true]
end Go.Id

namespace Go.Id
open Go
def AccK (h:IH) (n0 sz:Nat) (v:Value) (n:Nat) (cs:List Value) (k:Nat) (fam:Option Nat):Prop :=
 0<sz∧cs.length=n*sz∧v=.slice (some ⟨2*k,0,none⟩) n (2*n)∧0<n∧n0≤k∧k<h.n∧h.ext.get k=some (.cells cs sz fam)∧TopFam h n0 k fam
theorem AccK.acc {h:IH} {n0 sz:Nat} {v:Value} {n:Nat} {cs:List Value} {k:Nat} {fam:Option Nat} (a:AccK h n0 sz v n cs k fam):Acc h n0 sz v n cs:=⟨a.1,a.2.1,.inr ⟨k,fam,a.2.2⟩⟩
theorem AccK.other {h h':IH} {n0 sz:Nat} {v:Value} {n:Nat} {cs:List Value} {k:Nat} {fam:Option Nat} (a:AccK h n0 sz v n cs k fam) (hn:h.n≤h'.n) (he:h'.ext.get k=h.ext.get k) (hf : ∀f,fam=some f→h'.fams.get f=h.fams.get f):AccK h' n0 sz v n cs k fam:=by
 obtain⟨h1,h2,h3,h4,h5,h6,h7,h8⟩:=a
 refine⟨h1,h2,h3,h4,h5,by omega,by rw[he];exact h7,?_⟩
 cases fam with
 | none=>trivial
 | some f =>
  obtain⟨a1,a2,rest,a3,a4⟩:=h8
  exact⟨a1,by omega,rest,by rw[hf f rfl];exact a3,fun j hj=>⟨(a4 j hj).1,Nat.lt_of_lt_of_le (a4 j hj).2 hn⟩⟩
theorem AccK.app {h:IH} {n0 sz:Nat} {v:Value} {n:Nat} {cs:List Value} {kk:Nat} {fam:Option Nat} (a:AccK h n0 sz v n cs kk fam) {P:Program} {t:TypeId} {bytes:Nat} (hT:appT P t=some (sz,bytes)) {x:Value} {m:Nat} {new:List Value} (sx:SlNow h sz x m new) (hm:0<m)
  (hc:new.all cellOK=true) (hsz:(n+m)*(bytes+1)≤1099511627776) :
  ∃h' f,append P h t v x=some (.slice (some ⟨2*h.n,0,none⟩) (n+m) (2*(n+m)),h')∧AccK h' n0 sz (.slice (some ⟨2*h.n,0,none⟩) (n+m) (2*(n+m))) (n+m) (cs ++ new) h.n (some f)∧(fam=some f∨(fam=none∧f=h.n))∧h'.n=h.n+1∧h'.base=h.base ∧
   (∀j,j<h.n→j≠kk→h'.ext.get j=h.ext.get j)∧h'.ext.get kk=some (.cells cs sz (some f))∧(∀g,g<h.n→fam≠some g→h'.fams.get g=h.fams.get g):=by
 unfold appT at hT
 split at hT
 case h_2=>cases hT
 rename_i e hu
 split at hT
 case h_2=>cases hT
 rename_i zs h1 h2 h3
 simp only[cond_eq_ite] at hT
 split at hT
 case isTrue=>cases hT
 rename_i hbad
 cases hT
 have hbad':(sz == 0 || (!(Nat.ble bytes 65536) || !(zs.length == sz)))=false:=by simpa using hbad
 have hmne:(m == 0)=false:=by simp;omega
 have hln:new.length=m*sz∧firstOf h sz m x=some new∧lenOf x=some m:=by
  obtain⟨hz,hl,⟨rfl,rfl⟩|⟨b2,o2,k2,rfl,rfl|⟨row,a1,a2,a3⟩⟩⟩:=sx
  ·omega
  ·omega
  have hms : ¬m*sz=0:=by
   have:0<m*sz:=Nat.mul_pos hm hz
   omega
  refine⟨hl,?_,rfl⟩
  simp only[firstOf,cond_eq_ite,Nat.ble_eq,Nat.le_refl,if_true,beq_iff_eq,if_neg hms]
  rw[rd_of a1,if_pos a3,a2]
 obtain⟨hln,hfirst,hlx⟩:=hln
 obtain⟨hz,hl,rfl,hn,g1,g2,g3,g4⟩:=a
 have hble:Nat.ble ((n+m)*(bytes+1)) sizeMost=true:=by rw[Nat.ble_eq];exact hsz
 have hcap:Nat.ble (n+m) (2*n / 2)=false:=by
  rw[Bool.eq_false_iff];intro hh;rw[Nat.ble_eq] at hh;omega
 have hodd:(2*n % 2 == 1)=false:=by simp
 have hlen:(n == 2*n / 2 && Nat.blt 0 n && (2*kk) % 2 == 0)=true:=by
  have:2*n / 2=n:=by omega
  simp[this,Nat.blt,Nat.ble_eq];omega
 have hend:(0+n*sz == cs.length && sz == sz)=true:=by simp[hl]
 have hk2:2*kk / 2=kk:=by omega
 have body : ∀f below,(∀j∈below,n0≤j∧j<h.n)→(n0≤f)→f<h.n+1→(∀g,g<h.n→fam≠some g→g≠f) →
   AccK (grown h kk f cs sz [] below (cs.drop 0 ++ new) sz) n0 sz (.slice (some ⟨2*h.n,0,none⟩) (n+m) (2*(n+m))) (n+m) (cs ++ new) h.n (some f)∧(grown h kk f cs sz [] below (cs.drop 0 ++ new) sz).n=h.n+1∧(grown h kk f cs sz [] below (cs.drop 0 ++ new) sz).base=h.base ∧
   (∀j,j<h.n→j≠kk→(grown h kk f cs sz [] below (cs.drop 0 ++ new) sz).ext.get j=h.ext.get j)∧(grown h kk f cs sz [] below (cs.drop 0 ++ new) sz).ext.get kk=some (.cells cs sz (some f))∧(∀g,g<h.n→fam≠some g→(grown h kk f cs sz [] below (cs.drop 0 ++ new) sz).fams.get g=h.fams.get g):=by
  intro f below hbl hf1 hf2 hf3
  have hget : ∀j,(grown h kk f cs sz [] below (cs.drop 0 ++ new) sz).ext.get j=if j=h.n then some (.cells (cs ++ new) sz (some f)) else if j=kk then some (.cells cs sz (some f)) else h.ext.get j:=by
   intro j
   simp[grown,IH.killAll,Tr.get_set]
  refine⟨⟨hz,by simp[hl,hln,Nat.add_mul],rfl,by omega,by omega,by simp[grown],by rw[hget,if_pos rfl],hf1,by simp[grown];omega,kk :: below,?_,fun j hj=>?_⟩,by simp[grown],rfl,fun j hj hne=>?_,?_,fun g hg hgf=>?_⟩
  ·simp[grown,Tr.get_set]
  ·rcases List.mem_cons.1 hj with rfl|hj
   ·exact⟨g1,by simp[grown];omega⟩
   ·exact⟨(hbl j hj).1,by have:=(hbl j hj).2;simp[grown];omega⟩
  ·rw[hget,if_neg (by omega),if_neg hne]
  ·rw[hget,if_neg (by omega),if_pos rfl]
  ·simp only[grown,Tr.get_set]
   rw[if_neg (hf3 g hg hgf)]
 cases fam with
 | none =>
  obtain⟨b1,b2,b3,b4,b5,b6⟩:=body h.n [] (fun _ h=>by cases h) (by omega) (by omega) (fun g hg _=>by omega)
  refine⟨_,h.n,?_,b1,.inr ⟨rfl,rfl⟩,b2,b3,b4,b5,b6⟩
  simp only[Id.append,hu,h1,h2,h3,hlx,hmne,hbad',hfirst,hc,hble,hcap,hodd,hlen,hk2,g3,hend,cond_true,cond_false,Bool.not_true]
 | some f =>
  obtain⟨f1,f2,rest,f3,f4⟩:=g4
  obtain⟨b1,b2,b3,b4,b5,b6⟩:=body f rest f4 f1 (by omega) (fun g hg hne e=>hne (by rw[e]))
  refine⟨_,f,?_,b1,.inl rfl,b2,b3,b4,b5,b6⟩
  have t1:(kk :: rest).takeWhile (· != kk) = []:=by simp
  have t2:((kk :: rest).dropWhile (· != kk)).drop 1=rest:=by simp
  simp only[Id.append,hu,h1,h2,h3,hlx,hmne,hbad',hfirst,hc,hble,hcap,hodd,hlen,hk2,g3,hend,f3,t1,t2,cond_true,cond_false,Bool.not_true]
def Acc2 (h:IH) (n0 sz:Nat) (v w:Value) (n:Nat) (cs ds:List Value):Prop :=
 (v=.slice none 0 0∧w=.slice none 0 0∧n=0∧cs = []∧ds = []) ∨
 ∃k fam j gam,AccK h n0 sz v n cs k fam∧AccK h n0 sz w n ds j gam∧k≠j ∧ ∀f,fam=some f→gam≠some f
theorem Acc2.sl {h:IH} {n0 sz:Nat} {v w:Value} {n:Nat} {cs ds:List Value} (hz:0<sz) (a:Acc2 h n0 sz v w n cs ds):SlOf h sz v n cs∧SlOf h sz w n ds:=by
 rcases a with⟨rfl,rfl,rfl,rfl,rfl⟩|⟨k,fam,j,gam,a,b,_⟩
 ·exact⟨SlOf.nil _ hz,SlOf.nil _ hz⟩
 ·exact⟨a.acc.sl,b.acc.sl⟩
theorem Acc2.ext {h h':IH} {n0 sz:Nat} {v w:Value} {n:Nat} {cs ds:List Value} (a:Acc2 h n0 sz v w n cs ds) (e:Ext h h'):Acc2 h' n0 sz v w n cs ds:=by
 rcases a with a|⟨k,fam,j,gam,a,b,c⟩
 ·exact .inl a
 ·have hf : ∀{k:Nat} {fam:Option Nat} {v:Value} {cs:List Value},AccK h n0 sz v n cs k fam→AccK h' n0 sz v n cs k fam:=fun a=>a.other e.n (e.get _ a.2.2.2.2.2.1) fun f hf=>e.fams f (by
   obtain⟨_,_,_,_,_,_,_,t⟩:=a
   subst hf
   exact t.2.1)
  exact .inr ⟨k,fam,j,gam,hf a,hf b,c⟩
end Go.Id

namespace Go.Id
open Go
end Go.Id

namespace Go.Id
open Go
end Go.Id

namespace Go.Id
open Go
abbrev B8 (n:Nat):Value:=.int .u8 (n:Int)
abbrev B16 (n:Nat):Value:=.int .u16 (n:Int)
structure Dr6 (h:IH) (x:Value) (ps ls:List Nat) (u s:Nat):Prop where
 ex : ∃vp vl,x=.agg #[vp,B8 u,vl,B16 s]∧SlOf h 1 vp ps.length (ps.map B16)∧SlOf h 1 vl ls.length (ls.map B8)
 bp : ∀p∈ps,p<65536
 bl : ∀p∈ls,p<256
 bu:u<256
 bs:s<65536
 lp:ps.length<9223372036854775808
 ll:ls.length<9223372036854775808
theorem Dr6.keep {h h':IH} {x:Value} {ps ls:List Nat} {u s:Nat} (d:Dr6 h x ps ls u s) (e:Keep h h'):Dr6 h' x ps ls u s:=by
 obtain⟨⟨vp,vl,a,b,c⟩,d1,d2,d3,d4,d5,d6⟩:=d
 exact⟨⟨vp,vl,a,b.keep e,c.keep e⟩,d1,d2,d3,d4,d5,d6⟩
end Go.Id

namespace Go.Id
open Go
end Go.Id

namespace Go.Id
open Go
/-- The cells of a list of wide numbers. -/
def wiL (l : List Nat) : List Value := l.flatMap wdC
theorem wiL_len (l : List Nat) : (wiL l).length = l.length * 8 := by
  induction l with
  | nil => rfl
  | cons a l ih => rw [wiL, List.flatMap_cons, List.length_append, wdC_len, ← wiL, ih, List.length_cons]; omega
theorem wiL_at {l : List Nat} {i : Nat} {p : Nat} (h : l[i]? = some p) : ((wiL l).drop (i * 8)).take 8 = wdC p := by
  induction l generalizing i with
  | nil => simp at h
  | cons a l ih =>
    rw [wiL, List.flatMap_cons, ← wiL]
    cases i with
    | zero =>
      simp at h
      subst h
      rw [Nat.zero_mul, List.drop_zero, List.take_append_of_le_length (by rw [wdC_len]; omega), List.take_of_length_le (by rw [wdC_len]; omega)]
    | succ i =>
      simp at h
      rw [List.drop_append, wdC_len, List.drop_of_length_le (by rw [wdC_len]; omega), List.nil_append, show (i + 1) * 8 - 8 = i * 8 by omega]
      exact ih h
theorem wiL_snoc (l : List Nat) (p : Nat) : wiL (l ++ [p]) = wiL l ++ wdC p := by simp [wiL]
/-- A slice of wide numbers. -/
def WiSl (h : IH) (v : Value) (l : List Nat) : Prop := SlOf h 8 v l.length (wiL l) ∧ l.length ≤ 1000000000 ∧ ∀ n ∈ l, n < W8
theorem WiSl.keep {h h' : IH} {v : Value} {l : List Nat} (s : WiSl h v l) (e : Keep h h') : WiSl h' v l := ⟨s.1.keep e, s.2⟩
theorem WiSl.ld {h h' : IH} {v : Value} {l : List Nat} (s : WiSl h v l) (e : Keep h h') {i : Nat} {p : Nat} (hi : l[i]? = some p) : load Proofs.Tryz.prog h' 44 (elemAddr v (i * 8)) = some (wdV p) := by
  have hil := (List.getElem?_eq_some_iff.1 hi).1
  rw [s.1.ldAgg e (by rw [wiL_len]; omega) (by omega) ag44 sz44, wiL_at hi]; rfl
theorem wd_take0 (n : Nat) : List.take 8 (List.drop 0 (wdC n)) = wdC n := by rw [List.drop_zero, List.take_of_length_le (by rw [wdC_len]; omega)]
theorem wdI_neg {n : Nat} (hn : n < W8) : wdI n = 0 ↔ n = 0 := wdI_zero_iff hn
set_option maxHeartbeats 1000000 in
theorem wsign_ok {h : IH} (n : Nat) (hn : n < W8) : WV Proofs.Tryz.prog (.func (.func 60) #[] #[]) [wdV n] h fun r h' => Ext h h' ∧ r = KI (if wdI n < 0 then -1 else if wdI n = 0 then 0 else 1) := by
  have hz : binop Proofs.Tryz.prog .eql 44 (.tmp 8) (.tmp 9) (.agg (wdC n).toArray) (.agg #[ZW, ZW, ZW, ZW, ZW, ZW, ZW, ZW]) = some (.bool (decide (n = 0))) := by
    rw [wd_zero, wdV, wd_eql hn (by have := H8_two; have := H8_pos; omega)]
  have E1 : Ext h (h.new (.cells (wdC n) 0 none)) := (Ext.refl h).new _
  refine enter (nt := 11) (rs := [.tmp 2]) Proofs.Tryz.func60 rfl rfl rfl (by simp) ?_
  simp -dsimp (maxSteps := 1000000) (disch := first | omega | (simp only [new_n, put_n]; omega) | decide +kernel | (repeat first | rw [new_n] | rw [put_n])) only [wpS, Nat.reduceEqDiff, Nat.reduceLeDiff, ld44, cells8, wdC_len, wd_take0]
  refine call (read_ok n hn) ?_
  rintro _ h1 ⟨X1, rfl⟩
  have g1 := X1.kept (by simp) (get_new_same h (.cells (wdC n) 0 none) rfl)
  by_cases c : wdI n < 0
  · have d : decide (wdI n < 0) = true := decide_eq_true c
    rw [if_pos c]
    simp -dsimp (maxSteps := 1000000) (disch := first | omega | (simp only [new_n, put_n]; omega) | decide +kernel | (repeat first | rw [new_n] | rw [put_n])) only [wpS, wpT, Nat.reduceEqDiff, fp201_0, numV, Bool.false_eq_true, d]
    exact E1.trans X1
  have d : decide (wdI n < 0) = false := decide_eq_false c
  rw [if_neg c]
  by_cases c0 : n = 0
  · have d0 : decide (n = 0) = true := decide_eq_true c0
    rw [if_pos ((wdI_neg hn).2 c0)]
    simp -dsimp (maxSteps := 1000000) (disch := first | omega | (simp only [new_n, put_n]; omega) | decide +kernel | (repeat first | rw [new_n] | rw [put_n])) only [wpS, wpT, Nat.reduceEqDiff, Nat.reduceLeDiff, ld44, fp201_0, bv44, numV, Bool.false_eq_true, d, row_of g1, wdC_len, wd_take0, hz, d0]
    exact E1.trans X1
  · have d0 : decide (n = 0) = false := decide_eq_false c0
    rw [if_neg (fun h => c0 ((wdI_neg hn).1 h))]
    simp -dsimp (maxSteps := 1000000) (disch := first | omega | (simp only [new_n, put_n]; omega) | decide +kernel | (repeat first | rw [new_n] | rw [put_n])) only [wpS, wpT, Nat.reduceEqDiff, Nat.reduceLeDiff, ld44, fp201_0, bv44, numV, Bool.false_eq_true, d, row_of g1, wdC_len, wd_take0, hz, d0]
    exact E1.trans X1
theorem tk2a (a b : Value) : List.take 2 (List.drop 0 [a, b]) = [a, b] := rfl
end Go.Id

namespace Go.Id
open Go
theorem inSl_ld {h h' : IH} {v : Value} {l : List Int} (s : InSl h v l) (e : Keep h h') {i : Nat} {x : Int} (hi : l[i]? = some x) : load Proofs.Tryz.prog h' 3 (elemAddr v i) = some (KI x) := by
  have hil := (List.getElem?_eq_some_iff.1 hi).1
  rw [s.1.ld e (by simpa using hil) ag3, List.getElem?_map, hi]; rfl
end Go.Id

namespace Go.Id
open Go
end Go.Id

namespace Go.Id
open Go
end Go.Id

namespace Go.Id
open Go
end Go.Id

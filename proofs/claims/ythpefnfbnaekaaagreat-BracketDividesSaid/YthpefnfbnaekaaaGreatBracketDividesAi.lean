/-
  Digits to the base 2^32: one digit set; bounds. Digits to the base 2^32: bits; long division bit by bit; plain numbers.
-/
import Derived.Test.YthpefnfbnaekaaaGreatBracketDividesAh
import Derived.Test.YthpefnfbnaekaaaGreatBracketDividesAg
set_option linter.unusedVariables false
set_option linter.unusedSimpArgs false
set_option linter.defProp false
set_option linter.deprecated false
namespace Go.Id
theorem getD_set {ds:List Nat} {k w:Nat} (hk:k<ds.length) (j:Nat):(ds.set k w).getD j 0=if j=k then w else ds.getD j 0:=by
 simp only[List.getD_eq_getElem?_getD,List.getElem?_set]
 by_cases h:k=j
 ·subst h;simp[hk]
 ·rw[if_neg h,if_neg (fun x=>h x.symm)]
theorem valT_set {ds:List Nat} {k w:Nat} (hk:k<ds.length) : ∀n,valT (ds.set k w) n+(if k<n then ds.getD k 0*4294967296 ^ k else 0)=valT ds n+(if k<n then w*4294967296 ^ k else 0)
 | 0=>by simp[valT]
 | n+1=>by
  have ih:=valT_set (w:=w) hk n
  rw[valT,valT,getD_set hk]
  by_cases h1:k<n
  ·rw[if_pos h1,if_pos h1] at ih
   rw[if_pos (show k<n+1 by omega),if_pos (show k<n+1 by omega),if_neg (show ¬n=k by omega)]
   omega
  ·rw[if_neg h1,if_neg h1] at ih
   by_cases h2:n=k
   ·subst h2
    rw[if_pos (Nat.lt_succ_self n),if_pos (Nat.lt_succ_self n),if_pos rfl]
    omega
   ·rw[if_neg (show ¬k<n+1 by omega),if_neg (show ¬k<n+1 by omega),if_neg h2]
    omega
theorem valD_set {ds:List Nat} {k:Nat} (w:Nat) (hk:k<ds.length):valD (ds.set k w)+ds.getD k 0*4294967296 ^ k=valD ds+w*4294967296 ^ k:=by
 have h:=valT_set (w:=w) hk ds.length
 rw[if_pos hk,if_pos hk] at h
 rw[valD,valD,List.length_set];exact h
theorem valT_repl (m:Nat) : ∀n,valT (List.replicate m 0) n=0
 | 0=>rfl
 | n+1=>by
  rw[valT,valT_repl m n]
  have:(List.replicate m 0).getD n 0=0:=by
   rw[List.getD_eq_getElem?_getD,List.getElem?_replicate];split<;>rfl
  rw[this];simp
theorem valD_repl (m:Nat):valD (List.replicate m 0)=0:=valT_repl m _
theorem getD_repl (m j:Nat):(List.replicate m 0).getD j 0=0:=by
 rw[List.getD_eq_getElem?_getD,List.getElem?_replicate];split<;>rfl
theorem Digs.set {ds:List Nat} (h:Digs ds) (k:Nat) {w:Nat} (hw:w<4294967296):Digs (ds.set k w):=by
 intro d hd
 rcases List.mem_or_eq_of_mem_set hd with h1|h1
 ·exact h d h1
 ·omega
theorem Digs.repl (m:Nat):Digs (List.replicate m 0):=by
 intro d hd
 rw[List.mem_replicate] at hd
 omega
theorem Norm.lenlt {ds:List Nat} (h:Norm ds) {m:Nat} (hs:valD ds<4294967296 ^ m):ds.length≤m:=by
 apply Classical.byContradiction;intro hn
 have hne:ds ≠ []:=by intro h0;subst h0;simp at hn
 have h1:=h.ge hne
 have h2:4294967296 ^ m≤4294967296 ^ (ds.length - 1):=Nat.pow_le_pow_right (by omega) (by omega)
 omega
end Go.Id

namespace Go.Id
theorem valT_eq {ds:List Nat} (h:Digs ds) : ∀{n k:Nat},n≤k→valT ds k % 4294967296 ^ n=valT ds n
 | n,0,hk=>by
  obtain rfl:n=0:=by omega
  simp[valT]
 | n,k+1,hk=>by
  by_cases hn:n=k+1
  ·subst hn;exact Nat.mod_eq_of_lt (valT_lt h _)
  ·have ih:=valT_eq h (show n≤k by omega)
   rw[valT]
   have hd:4294967296 ^ n∣ds.getD k 0*4294967296 ^ k:=Nat.dvd_trans (Nat.pow_dvd_pow _ (by omega)) (Nat.dvd_mul_left _ _)
   obtain⟨c,hc⟩:=hd
   rw[hc,Nat.add_mul_mod_self_left,ih]
theorem digit_eq {ds:List Nat} (h:Digs ds) (j:Nat):ds.getD j 0=valD ds / 4294967296 ^ j % 4294967296:=by
 have hp:=pow_pos' j
 by_cases hj:j<ds.length
 ·have e1:valT ds (j+1)=valD ds % 4294967296 ^ (j+1):=(valT_eq h (show j+1≤ds.length by omega)).symm
  have e2:valT ds (j+1) / 4294967296 ^ j=ds.getD j 0:=by
   rw[valT,Nat.add_mul_div_right _ _ hp,Nat.div_eq_of_lt (valT_lt h j),Nat.zero_add]
  rw[←e2,e1,Nat.pow_succ,Nat.mod_mul_right_div_self]
 ·rw[getD_of_ge (by omega)]
  have h1:=valD_lt h
  have h2:4294967296 ^ ds.length≤4294967296 ^ j:=Nat.pow_le_pow_right (by omega) (by omega)
  rw[Nat.div_eq_of_lt (by omega)]
theorem pow32 (j:Nat):4294967296 ^ j=2 ^ (32*j):=by rw[Nat.pow_mul]
theorem bit_at {ds:List Nat} (h:Digs ds) {i k:Nat} (hk:k<32):ds.getD i 0 / 2 ^ k % 2=valD ds / 2 ^ (32*i+k) % 2:=by
 rw[digit_eq h,pow32,Nat.pow_add,←Nat.div_div_eq_div_mul]
 generalize valD ds / 2 ^ (32*i)=x
 have e2:4294967296=2 ^ k*2 ^ (32 - k):=by rw[←Nat.pow_add,show k+(32 - k)=32 by omega]
 rw[e2,Nat.mod_mul_right_div_self]
 have:2∣2 ^ (32 - k):=⟨2 ^ (31 - k),by rw[←Nat.pow_succ'];congr 1;omega⟩
 exact Nat.mod_mod_of_dvd _ this
theorem bit_fits {ds:List Nat} (h:Digs ds) {i k:Nat} (hk:k<32) (hd:2 ^ (32*i+k+1)∣valD ds):ds.getD i 0+2 ^ k<4294967296:=by
 have hd:2 ^ (k+1)∣ds.getD i 0:=by
  rw[digit_eq h,pow32]
  obtain⟨c,hc⟩:=hd
  have e:2 ^ (32*i+k+1)=2 ^ (32*i)*2 ^ (k+1):=by rw[←Nat.pow_add];congr 1
  rw[hc,e,Nat.mul_assoc,Nat.mul_div_cancel_left _ (Nat.pow_pos (by omega))]
  have e2:4294967296=2 ^ (k+1)*2 ^ (31 - k):=by rw[←Nat.pow_add,show k+1+(31 - k)=32 by omega]
  rw[show(4294967296:Nat)=2 ^ (k+1)*2 ^ (31 - k) from e2]
  exact(Nat.dvd_mod_iff (Nat.dvd_mul_right _ _)).2 (Nat.dvd_mul_right _ _)
 have hlt:2 ^ k<2 ^ (k+1):=Nat.pow_lt_pow_right (by omega) (by omega)
 have hw:=getD_lt h i
 obtain⟨c,hc⟩:=hd
 rw[hc] at hw ⊢
 have e2:4294967296=2 ^ (k+1)*2 ^ (31 - k):=by rw[←Nat.pow_add,show k+1+(31 - k)=32 by omega]
 rw[e2] at hw ⊢
 have hc2:c<2 ^ (31 - k):=Nat.lt_of_mul_lt_mul_left hw
 have:2 ^ (k+1)*(c+1)≤2 ^ (k+1)*2 ^ (31 - k):=Nat.mul_le_mul_left _ hc2
 rw[Nat.mul_add,Nat.mul_one] at this
 omega
def DivR (a b K V r:Nat):Prop:=a=b*V+r*2 ^ K+a % 2 ^ K∧2 ^ K∣V∧r<b
theorem mod_bit (a K:Nat):a % 2 ^ (K+1)=a / 2 ^ K % 2*2 ^ K+a % 2 ^ K:=by
 rw[Nat.pow_succ,Nat.mod_mul,Nat.add_comm,Nat.mul_comm]
theorem divR_one {a b K V r:Nat} (h:DivR a b (K+1) V r) (hc:b≤2*r+a / 2 ^ K % 2):DivR a b K (V+2 ^ K) (2*r+a / 2 ^ K % 2 - b):=by
 obtain⟨h1,h2,h3⟩:=h
 rw[mod_bit] at h1
 have hb:=Nat.mod_lt (a / 2 ^ K) (show 0<2 by omega)
 generalize a / 2 ^ K % 2=d at *
 obtain⟨e,he⟩ : ∃e,2*r+d=b+e:=⟨2*r+d - b,by omega⟩
 refine⟨?_,?_,by omega⟩
 ·rw[he,Nat.add_sub_cancel_left]
  rw[h1.trans (show _=(b*V+(2*r+d)*2 ^ K)+a % 2 ^ K by rw[Nat.pow_succ];grind)]
  rw[he]
  have e3:(b*V+(b+e)*2 ^ K+a % 2 ^ K) % 2 ^ K=a % 2 ^ K:=by
   obtain⟨c,hc⟩:=Nat.dvd_trans (Nat.pow_dvd_pow 2 (Nat.le_succ K)) h2
   rw[hc]
   have:b*(2 ^ K*c)+(b+e)*2 ^ K+a % 2 ^ K=a % 2 ^ K+2 ^ K*(b*c+(b+e)):=by grind
   rw[this,Nat.add_mul_mod_self_left,Nat.mod_mod]
  rw[e3];grind
 ·exact(Nat.dvd_add_right (Nat.dvd_trans (Nat.pow_dvd_pow _ (by omega)) h2)).2 (Nat.dvd_refl _)
theorem divR_zero {a b K V r:Nat} (h:DivR a b (K+1) V r) (hc:2*r+a / 2 ^ K % 2<b):DivR a b K V (2*r+a / 2 ^ K % 2):=by
 obtain⟨h1,h2,h3⟩:=h
 rw[mod_bit] at h1
 refine⟨?_,Nat.dvd_trans (Nat.pow_dvd_pow _ (by omega)) h2,hc⟩
 rw[Nat.pow_succ] at h1
 generalize a / 2 ^ K % 2=d at *
 have e:(2*r+d)*2 ^ K=r*(2 ^ K*2)+d*2 ^ K:=by grind
 omega
theorem divR_start {a b K:Nat} (h:a / 2 ^ K<b):DivR a b K 0 (a / 2 ^ K):=by
 refine⟨?_,Nat.dvd_zero _,h⟩
 have:=Nat.div_add_mod a (2 ^ K)
 rw[Nat.mul_comm (a / 2 ^ K)];omega
theorem divR_end {a b V r:Nat} (h:DivR a b 0 V r):V=a / b∧r=a % b:=by
 obtain⟨h1,_,h3⟩:=h
 simp only[Nat.pow_zero,Nat.mul_one,Nat.mod_one,Nat.add_zero] at h1
 have e1:=Nat.mul_add_mod b V r
 have e2:=Nat.mul_add_div (show 0<b by omega) V r
 rw[←h1,Nat.mod_eq_of_lt h3] at e1
 rw[←h1,Nat.div_eq_of_lt h3,Nat.add_zero] at e2
 exact⟨e2.symm,e1.symm⟩
theorem valD_drop {ds:List Nat} (h:Digs ds) (m:Nat):valD (ds.drop m)=valD ds / 4294967296 ^ m:=by
 induction m generalizing ds with
 | zero=>simp
 | succ m ih =>
  cases ds with
  | nil=>simp[valD,valT]
  | cons d ds =>
   have hd:Digs ds:=fun x hx=>h x (by simp[hx])
   have hd0:d<4294967296:=h d (by simp)
   rw[List.drop_succ_cons,ih hd,valD_cons,Nat.pow_succ,Nat.mul_comm (4294967296 ^ m),←Nat.div_div_eq_div_mul]
   congr 1;omega
theorem Norm.drop {ds:List Nat} (h:Norm ds) (m:Nat):Norm (ds.drop m):=by
 by_cases hm:ds.length≤m
 ·left;exact List.drop_eq_nil_of_le hm
 ·rcases h with rfl|h
  ·left;simp
  ·right
   rw[List.length_drop]
   have:(ds.drop m).getD (ds.length - m - 1) 0=ds.getD (ds.length - 1) 0:=by
    simp only[List.getD_eq_getElem?_getD,List.getElem?_drop]
    rw[show m+(ds.length - m - 1)=ds.length - 1 by omega]
   rw[this];exact h
theorem Digs.drop {ds:List Nat} (h:Digs ds) (m:Nat):Digs (ds.drop m):=fun d hd=>h d (List.mem_of_mem_drop hd)
end Go.Id

namespace Go.Id
open Go
open Go.Proofs.Tryz (prog)
open Nat (reduceAdd reduceEqDiff reduceLeDiff reduceMul)
set_option maxHeartbeats 16000000
theorem spl_kn {os:List Nat} {k:Nat} (x:Nat) (hk:k<os.length):IH.splice (os.map KN) k [KN x]=(os.set k x).map KN:=by
 rw[splice_set (by simpa using hk),List.map_set]
theorem kn_all (l:List Nat):(l.map KN).all cellOK=true:=by simp[cellOK]
theorem repl_kn (n:Nat):repl n [KI 0]=(List.replicate n 0).map KN:=by rw[repl_one,List.map_replicate];rfl
theorem row_kn {h:IH} {b:Nat} {cs:List Value} {e:Nat} {f:Option Nat} (hg:h.ext.get b=some (.cells cs e f)):h.row (2*b)=some cs:=by rw[row_even];simp only[IH.cells,hg]
theorem twice_ok {h:IH} {v:Value} {a:List Nat} {d:Nat} (ha:DigU h v a) (la:a.length≤1000001) (hd:d≤1) :
  WV prog (.func (.func 174) #[] #[]) [v,KI d] h fun r h'=>Ext h h'∧Dig h' r (2*valD a+d):=by
 refine enter (nt:=33) (rs:=[.tmp 4]) Proofs.Tryz.func174 rfl rfl rfl (by simp) ?_
 simp -dsimp (maxSteps:=1000000) (disch:=try exact dx) only[wpS,reduceAdd]
 refine loop (fun m fr h1 => ∃(i c:Nat) (os:List Nat) (out:Value),i+m=a.length∧fget fr 0=some v∧fget fr 1=some (KN c)∧fget fr 5=some out∧fget fr 6=some (KN i)∧c≤1∧os.length=i∧Digs os∧valD os+c*4294967296 ^ i=2*valT a i+d∧Acc h1 h.n 1 out i (os.map KN)∧Ext h h1) a.length
  ⟨0,d,[],.slice none 0 0,by simp,by simp,by simp,by simp,by simp,hd,rfl,fun d hd=>(by cases hd),by simp[valT,valD],Acc.nil _ _ (by omega),Ext.refl _⟩ ?_
 rintro m fr h1 ⟨i,c,os,out,him,f0,f1,f5,f6,hcc,hos,hdd,hv,hA,hE⟩
 simp -dsimp (maxSteps:=1000000) (disch:=try exact dx) only[wpS,reduceEqDiff,f0,f6,ha.1.len sl29]
 refine bq_intro ?_ ?_<;>intro hc<;>simp only[decide_eq_true_eq,decide_eq_false_iff_not] at hc
 ·have hi:i<a.length:=by omega
  have da:=getD_lt ha.2.1 i
  have gx:=get_some hi
  generalize hx:a.getD i 0=x at *
  obtain⟨s,hs⟩ : ∃s,s=2*x+c:=⟨_,rfl⟩
  have eS:2*(x:Int)+(c:Int)=(s:Int):=by omega
  have eR:(s:Int) % 4294967296=((s % 4294967296:Nat):Int):=by omega
  have eQ:(s:Int) / 4294967296=((s / 4294967296:Nat):Int):=by omega
  obtain⟨out',h',hap,hA',hG,hE'⟩:=hA.app1 (P:=prog) (t:=29) ap29 (x:=KN (s % 4294967296)) rfl (by omega) hE.n hE (Nat.le_refl _)
  simp -dsimp (maxSteps:=1000000) (disch:=try exact dx) only[wpS,wpT,reduceEqDiff,reduceLeDiff,reduceAdd,bs29,ba29_29,f0,f1,f5,f6,ha.1.idx es29 hi,ha.1.ld hE.keep (P:=prog) (t:=3) (c:=i) (by simpa using hi) ag3,map_get,gx,eS,eR,eQ,hap]
  refine⟨m - 1,by omega,i+1,s / 4294967296,os ++ [s % 4294967296],out',by omega,by simp[f0],by simp,by simp,by simp,by omega,by simp[hos],hdd.append (by omega),?_,by rw[←map_snoc];exact hA',hE'⟩
  rw[valD_append,valT,hx,hos,Nat.pow_succ]
  have hsd:s % 4294967296+s / 4294967296*4294967296=2*x+c:=by omega
  have e3:s % 4294967296*4294967296 ^ i+s / 4294967296*(4294967296 ^ i*4294967296)=(2*x+c)*4294967296 ^ i:=by rw[←hsd];grind
  have e4:(2*x+c)*4294967296 ^ i=2*(x*4294967296 ^ i)+c*4294967296 ^ i:=by grind
  omega
 ·obtain rfl:i=a.length:=by omega
  obtain⟨out',h',hap,hA',hG,hE'⟩:=hA.app1 (P:=prog) (t:=29) ap29 (x:=KN c) rfl (by omega) hE.n hE (Nat.le_refl _)
  simp -dsimp (maxSteps:=1000000) (disch:=try exact dx) only[wpS,wpT,reduceEqDiff,reduceLeDiff,reduceAdd,bs29,ba29_29,f1,f5,hap]
  have hD:DigU h' out' (os ++ [c]):=by
   refine⟨?_,hdd.append (by omega),by simp;omega⟩
   have:=hA'.sl
   rw[map_snoc] at this
   rw[show(os ++ [c]).length=a.length+1 by simp[hos]]
   exact this
  refine call (cut_ok hD) ?_
  rintro r h2 ⟨rfl,hr⟩
  simp -dsimp (maxSteps:=1000000) (disch:=try exact dx) only[wpS,reduceEqDiff]
  refine⟨hE',?_⟩
  rw[valD_append,hos,hv] at hr
  exact hr
theorem dig_none {h:IH}:Dig h (.slice none 0 0) 0:=⟨[],⟨SlOf.nil _ (by decide),fun d hd=>(by cases hd),by simp⟩,.inl rfl,rfl⟩
theorem DigU.dig {h:IH} {v:Value} {ds:List Nat} (d:DigU h v ds) (n:Norm ds):Dig h v (valD ds):=⟨ds,d,n,rfl⟩
theorem append_lit {P:Program} {t:TypeId} {sz bytes:Nat} (hT:appT P t=some (sz,bytes)) {h:IH} {x:Value} {m:Nat} {new:List Value} (sx:SlOf h sz x m new) (hc:new.all cellOK=true) (hsz:m*(bytes+1)≤1099511627776) {k:Nat} (hk:h.ext.get k=some (.cells [] sz none)) (hkn:k<h.n) :
  ∃v h',append P h t (.slice (some ⟨2*k,0,none⟩) 0 1) x=some (v,h')∧Ext h h'∧SlOf h' sz v m new:=by
 rcases Nat.eq_zero_or_pos m with rfl|hm
 ·have hnew:new = []:=List.length_eq_zero_iff.1 (by rw[sx.2.1,Nat.zero_mul])
  refine⟨.slice (some ⟨2*k,0,none⟩) 0 1,h,?_,Ext.refl _,sx.1,sx.2.1,.inr ⟨2*k,0,1,rfl,.inr ⟨by omega,by omega,[],.inr ⟨by omega,by omega,none,?_⟩,?_,?_,by simp⟩⟩⟩
  case refine_2=>rw[show 2*k / 2=k by omega];exact hk
  case refine_3=>exact row_kn hk
  case refine_4=>rw[hnew];simp
  unfold appT at hT
  split at hT
  case h_2=>cases hT
  rename_i e hu
  split at hT
  case h_2=>cases hT
  rename_i zs h1 h2 h3
  obtain⟨a,k,rfl⟩:=sx.form
  simp only[Id.append,hu,h1,h2,h3,lenOf,beq_self_eq_true,cond_true]
 ·exact⟨_,_,append_zero hT h sx.now hm hc hsz (2*k) 0,(Ext.refl h).new _,(acc_new sx.1 sx.2.1 hm).sl⟩
theorem parts_ok {h:IH} {v w:Value} {a b:List Nat} (ha:DigU h v a) (hb:DigU h w b) (na:Norm a) (nb:Norm b) (hb0:valD b≠0) (la:a.length≤1000000) (lb:b.length≤1000000) :
  WV prog (.func (.func 167) #[] #[]) [v,w] h fun r h'=>Ext h h' ∧ ∃q t,r=.tuple #[q,t]∧Dig h' q (valD a / valD b)∧Dig h' t (valD a % valD b):=by
 have hbl:0<b.length:=by
  rcases Nat.eq_zero_or_pos b.length with h0|h0
  ·rw[List.length_eq_zero_iff] at h0;subst h0;exact absurd rfl hb0
  ·exact h0
 have e1:(b.length:Int) - 1=((b.length - 1:Nat):Int):=by omega
 refine enter (nt:=74) (rs:=[.tmp 4,.tmp 5]) Proofs.Tryz.func167 rfl rfl rfl (by simp) ?_
 simp -dsimp (maxSteps:=1000000) (disch:=try exact dx) only[wpS,reduceEqDiff,reduceAdd,ha.1.len sl29,hb.1.len sl29,e1]
 refine bq_intro ?_ ?_<;>intro hc<;>simp only[decide_eq_true_eq,decide_eq_false_iff_not] at hc
 ·have hlt:=lt_of_len ha.2.1 nb (show a.length<b.length by omega)
  have eN:Ext h (h.new (.cells [] 1 none)):=(Ext.refl h).new _
  obtain⟨r,h2,hap,hE2,hs2⟩:=append_lit (P:=prog) (t:=29) ap29 (ha.1.ext eN) (kn_all _) (by omega) (get_new_same h _ rfl) (by simp)
  simp -dsimp (maxSteps:=1000000) (disch:=try exact dx) only[wpS,wpT,reduceEqDiff,reduceMul,bs29,ba29_29,hap]
  exact⟨eN.trans hE2,_,_,rfl,by rw[Nat.div_eq_of_lt hlt];exact dig_none,by rw[Nat.mod_eq_of_lt hlt];exact(show DigU h2 r a from⟨hs2,ha.2⟩).dig na⟩
 ·have e2:(a.length:Int) - ((b.length - 1:Nat):Int)=((a.length - (b.length - 1):Nat):Int):=by omega
  have hq0:0<a.length - (b.length - 1):=by omega
  generalize hql:a.length - (b.length - 1)=ql at *
  have eN1:Ext h ((h.new (.cells (repl ql [KI 0]) 1 none)).new (.cells [] 1 none)):=((Ext.refl h).new _).new _
  obtain⟨r1,hr1,hs1⟩:=ha.1.slice eN1.keep (P:=prog) (t:=29) u29 sz3 (l:=ql) (m:=a.length) (by omega) (Nat.le_refl _) (lo:=some (KN ql)) (hi:=none) (natOf_nat (k:=.i64) (by omega)) (fun c hc=>rfl)
  have hsl:a.length - ql=b.length - 1:=by omega
  have hsc:((a.map KN).drop (ql*1)).take ((a.length - ql)*1)=(a.drop ql).map KN:=by
   rw[Nat.mul_one,Nat.mul_one,List.take_of_length_le (by simp),List.map_drop]
  rw[hsc] at hs1
  obtain⟨r2,h3,hap,hE3,hs3⟩:=append_lit (P:=prog) (t:=29) ap29 (hs1.ext eN1) (kn_all _) (by omega) (k:=h.n+1) (get_new_same _ _ (by simp)) (by simp)
  have e3:(a.length:Int) - (ql:Int)=((b.length - 1:Nat):Int):=by omega
  have e4:(ql:Int) - 1=((ql - 1:Nat):Int):=by omega
  simp -dsimp (maxSteps:=1000000) (disch:=try exact dx) only[wpS,wpT,reduceEqDiff,reduceMul,bs29,ms29,ln29,ba29_29,ha.1.len sl29,e2,e4,hr1,hap]
  have hbB:=valD_lt hb.2.1
  have hE30:Ext h h3:=eN1.trans hE3
  have n3:h.n+2≤h3.n:=hE3.n
  have hg3:h3.ext.get h.n=some (.cells ((List.replicate ql 0).map KN) 1 none):=by
   rw[hE3.get _ (by simp only[new_n];omega),get_new_old _ _ (by simp),get_new_same _ _ rfl,repl_kn]
  have hdrop:a.length - ql=(a.drop ql).length:=by simp
  have hlen2:(a.drop ql).length=b.length - 1:=by simp;omega
  have hD3:DigU h3 r2 (a.drop ql):=⟨by rw[←hdrop];exact hs3,ha.2.1.drop ql,by omega⟩
  have hV3:valD (a.drop ql)=valD a / 2 ^ (32*ql):=by rw[valD_drop ha.2.1,pow32]
  have hlt3:valD (a.drop ql)<valD b:=lt_of_len (ha.2.1.drop ql) nb (by omega)
  have st:DivR (valD a) (valD b) (32*ql) (valD (List.replicate ql 0)) (valD (a.drop ql)):=by
   rw[valD_repl,hV3];rw[hV3] at hlt3;exact divR_start hlt3
  refine loop (fun m fr h1 => ∃(qs:List Nat) (rv:Value) (r:Nat),m≤ql∧Ext h h1∧h.n<h1.n∧h1.ext.get h.n=some (.cells (qs.map KN) 1 none)∧qs.length=ql∧Digs qs∧Dig h1 rv r∧DivR (valD a) (valD b) (32*m) (valD qs) r ∧
    fget fr 0=some v∧fget fr 1=some w∧fget fr 7=some (.slice (some ⟨2*h.n,0,none⟩) ql (2*ql+1))∧fget fr 8=some rv∧fget fr 9=some (KI ((m:Int) - 1))) ql
   ⟨List.replicate ql 0,r2,valD (a.drop ql),Nat.le_refl _,hE30,by omega,hg3,by simp,Digs.repl _,hD3.dig (na.drop ql),st,by simp,by simp,by simp,by simp,by rw[fget_cons,if_pos rfl,e4]⟩ ?_
  clear st hD3 hg3 hE30 hs3 hE3 hap hs1 hr1 eN1 hV3 hlt3 n3
  rintro m fr h1 ⟨qs,rv,r,hm,hE,hn,hg,hql2,hqd,hR,hJ,f0,f1,f7,f8,f9⟩
  simp -dsimp (maxSteps:=1000000) (disch:=try exact dx) only[wpS,reduceEqDiff,f9]
  refine bq_intro ?_ ?_<;>intro hc2<;>simp only[decide_eq_true_eq,decide_eq_false_iff_not] at hc2
  ·obtain⟨i,rfl⟩ : ∃i,m=i+1:=⟨m - 1,by omega⟩
   have e6:(((i+1:Nat):Int) - 1)=(i:Int):=by omega
   rw[e6] at f9
   have hi:i<a.length:=by omega
   simp -dsimp (maxSteps:=1000000) (disch:=try exact dx) only[wpS,wpT]
   refine loop (fun k fr h2 => ∃(qs:List Nat) (rv:Value) (r:Nat),k≤32∧Ext h h2∧h.n<h2.n∧h2.ext.get h.n=some (.cells (qs.map KN) 1 none)∧qs.length=ql∧Digs qs∧Dig h2 rv r∧DivR (valD a) (valD b) (32*i+k) (valD qs) r ∧
    fget fr 0=some v∧fget fr 1=some w∧fget fr 7=some (.slice (some ⟨2*h.n,0,none⟩) ql (2*ql+1))∧fget fr 8=some rv∧fget fr 9=some (KN i)∧fget fr 10=some (KI ((k:Int) - 1))) 32
    ⟨qs,rv,r,Nat.le_refl _,hE,hn,hg,hql2,hqd,hR,hJ,by simp[f0],by simp[f1],by simp[f7],by simp[f8],by simp[f9],by simp⟩ ?_
   clear hE hn hg hql2 hqd hR hJ f0 f1 f7 f8 f9
   rintro k fr h2 ⟨qs,rv,r,hk,hE,hn,hg,hql2,hqd,hR,hJ,f0,f1,f7,f8,f9,f10⟩
   simp -dsimp (maxSteps:=1000000) (disch:=try exact dx) only[wpS,reduceEqDiff,f10]
   refine bq_intro ?_ ?_<;>intro hc3<;>simp only[decide_eq_true_eq,decide_eq_false_iff_not] at hc3
   ·obtain⟨k,rfl⟩ : ∃j,k=j+1:=⟨k - 1,by omega⟩
    have e7:(((k+1:Nat):Int) - 1)=(k:Int):=by omega
    rw[e7] at f10
    have da:=getD_lt ha.2.1 i
    have gx:=get_some hi
    have hbit:=bit_at ha.2.1 (i:=i) (show k<32 by omega)
    have hfit:=bit_fits hqd (i:=i) (show k<32 by omega) hJ.2.1
    generalize hx:a.getD i 0=x at *
    have eB:((nshr x k:Nat):Int) % 2=((x / 2 ^ k % 2:Nat):Int):=by rw[nshr,Nat.shiftRight_eq_div_pow];omega
    have hd1:x / 2 ^ k % 2≤1:=by omega
    have hns:=nshr_le x k
    generalize hdd:x / 2 ^ k % 2=d at *
    simp -dsimp (maxSteps:=1000000) (disch:=try exact dx) only[wpS,wpT,reduceEqDiff,f0,f8,f9,f10,ha.1.idx es29 hi,ha.1.ld hE.keep (P:=prog) (t:=3) (c:=i) (by simpa using hi) ag3,map_get,gx,eB]
    obtain⟨rs,hrD,hrN,hrv⟩:=hR
    have hrl:rs.length≤b.length:=hrN.len_le hb.2.1 (by rw[hrv];exact Nat.le_of_lt hJ.2.2)
    refine call (twice_ok hrD (by omega) hd1) ?_
    rintro r3 h3 ⟨hE3,rs2,hrD2,hrN2,hrv2⟩
    rw[hrv] at hrv2
    simp -dsimp (maxSteps:=1000000) (disch:=try exact dx) only[wpS,reduceEqDiff,f1,f8]
    refine call (order_ok hrD2 (hb.keep (hE.trans hE3).keep) hrN2 nb) ?_
    rintro _ h4 ⟨rfl,c,rfl,hc1,hc2,hc3,hc4⟩
    rw[hrv2] at hc1 hc2
    have hE4:=hE.trans hE3
    have hg4:=(hE3.get _ hn).trans hg
    have hn4:h.n<h4.n:=Nat.lt_of_lt_of_le hn hE3.n
    have e8:32*i+(k+1)=32*i+k+1:=rfl
    rw[e8] at hJ
    have ehc:valD a / 2 ^ (32*i+k) % 2=d:=hbit.symm
    simp -dsimp (maxSteps:=1000000) (disch:=try exact dx) only[wpS,reduceEqDiff]
    refine bq_intro (fun hb5=>?_) (fun hb5=>?_)
    ·simp only[decide_eq_true_eq] at hb5
     have hge:valD b≤2*r+d:=by omega
     have hi2:i<qs.length:=by omega
     have gq:=get_some hi2
     generalize hqx:qs.getD i 0=y at *
     have gqr:(qs.map KN)[i]?=some (KN y):=by rw[List.getElem?_map,gq];rfl
     simp -dsimp (maxSteps:=1000000) (disch:=try exact dx) only[wpS,wpT,reduceEqDiff,f1,f8]
     refine call (less_at hrD2 (hb.keep hE4.keep) nb (by rw[hrv2];exact hge)) ?_
     rintro r5 h5 ⟨⟨hE5,hr5⟩,hbk⟩
     rw[hrv2] at hr5
     have hg5:=(hE5.get _ hn4).trans hg4
     have hr:=row_kn hg5
     have hn5:h.n<h5.n:=Nat.lt_of_lt_of_le hn4 hE5.n
     have q0:0≤((2 ^ k:Nat):Int):=Int.natCast_nonneg _
     have eA:(y:Int)+((2 ^ k:Nat):Int)=((y+2 ^ k:Nat):Int):=by omega
     have spl:=spl_kn (y+2 ^ k) hi2
     simp -dsimp (maxSteps:=1000000) (disch:=try exact dx) only[wpS,wpT,reduceEqDiff,es29,ld3,st3,f7,f9,f10,hr,gqr,eA,hg5,spl,List.length_map,hql2]
     have hJ2:=divR_one hJ (by rw[ehc];exact hge)
     rw[ehc] at hJ2
     have hv:=valD_set (y+2 ^ k) hi2
     rw[hqx] at hv
     have e9:valD (qs.set i (y+2 ^ k))=valD qs+2 ^ (32*i+k):=by
      have:(y+2 ^ k)*4294967296 ^ i=y*4294967296 ^ i+2 ^ (32*i+k):=by rw[Nat.add_mul,pow32,←Nat.pow_add,Nat.add_comm k]
      omega
     obtain⟨ds5,hd5,hn5',hv5⟩:=hr5
     have hR5:Dig (h5.put h.n (.cells ((qs.set i (y+2 ^ k)).map KN) 1 none)) r5 (2*r+d - valD b):=⟨ds5,⟨hd5.1.putAt (hbk _ hn4) _,hd5.2⟩,hn5',hv5⟩
     exact⟨k,by omega,qs.set i (y+2 ^ k),r5,2*r+d - valD b,by omega,(hE4.trans hE5).put (Nat.le_refl _) _,hn5,get_put_same _ _ rfl,by rw[List.length_set,hql2],hqd.set _ hfit,hR5,by rw[e9];exact hJ2,by simp[f0],by simp[f1],by simp[f7],by simp,by simp[f9],by simp⟩
    ·simp only[decide_eq_false_iff_not] at hb5
     have hlt:2*r+d<valD b:=by omega
     have hJ2:=divR_zero hJ (by rw[ehc];exact hlt)
     rw[ehc] at hJ2
     simp -dsimp (maxSteps:=1000000) (disch:=try exact dx) only[wpS,wpT,reduceEqDiff,f10]
     exact⟨k,by omega,qs,r3,2*r+d,by omega,hE4,hn4,hg4,hql2,hqd,⟨rs2,hrD2,hrN2,hrv2⟩,hJ2,by simp[f0],by simp[f1],by simp[f7],by simp,by simp[f9],by simp⟩
   ·obtain rfl:k=0:=by omega
    simp -dsimp (maxSteps:=1000000) (disch:=try exact dx) only[wpS,wpT,reduceEqDiff,f9]
    exact⟨i,by omega,qs,rv,r,by omega,hE,hn,hg,hql2,hqd,hR,hJ,by simp[f0],by simp[f1],by simp[f7],by simp[f8],by simp⟩
  ·obtain rfl:m=0:=by omega
   obtain⟨e10,e11⟩:=divR_end hJ
   have hD:DigU h1 (.slice (some ⟨2*h.n,0,none⟩) ql (2*ql+1)) qs:=by
    refine⟨?_,hqd,by omega⟩
    rw[hql2]
    exact sl_block hg hn (by decide) (by rw[List.length_map,hql2];omega) (by omega) (by omega)
   simp -dsimp (maxSteps:=1000000) (disch:=try exact dx) only[wpS,wpT,reduceEqDiff,f7]
   refine call (cut_ok hD) ?_
   rintro r4 h2 ⟨rfl,hr4⟩
   simp -dsimp (maxSteps:=1000000) (disch:=try exact dx) only[wpS,reduceEqDiff,f8]
   exact⟨hE,_,_,rfl,by rw[←e10];exact hr4,by rw[←e11];exact hR⟩
end Go.Id

namespace Go.Id
open Go
open Go.Proofs.Tryz (prog)
open Nat (reduceAdd reduceEqDiff reduceLeDiff)
def WrdU (h:IH) (v:Value) (ds:List Nat):Prop:=SlOf h 1 v ds.length (ds.map K64)∧B.Digs ds∧ds.length≤1100000
def Wrd (h:IH) (v:Value) (x:Nat):Prop:=∃ds,WrdU h v ds∧B.Norm ds∧B.valD ds=x
theorem WrdU.keep {h h':IH} {v:Value} {ds:List Nat} (d:WrdU h v ds) (e:Keep h h'):WrdU h' v ds:=⟨d.1.keep e,d.2⟩
theorem Wrd.keep {h h':IH} {v:Value} {x:Nat} (d:Wrd h v x) (e:Keep h h'):Wrd h' v x:=let ⟨ds,a,b⟩:=d;⟨ds,a.keep e,b⟩
theorem WrdU.wrd {h:IH} {v:Value} {ds:List Nat} (d:WrdU h v ds) (n:B.Norm ds):Wrd h v (B.valD ds):=⟨ds,d,n,rfl⟩
theorem WrdU.putAt {h:IH} {v:Value} {ds:List Nat} (d:WrdU h v ds) {k:Nat} (hk:blockOf v≠some (2*k)) (o:IObj):WrdU (h.put k o) v ds:=⟨d.1.putAt hk o,d.2⟩
def PLong (h:IH) (v:Value) (z:Int):Prop:=∃s,v=.agg #[.bool (decide (z<0)),s]∧Wrd h s z.natAbs
theorem PLong.keep {h h':IH} {v:Value} {z:Int} (d:PLong h v z) (e:Keep h h'):PLong h' v z:=let ⟨s,a,b⟩:=d;⟨s,a,b.keep e⟩
theorem PLong.form {h:IH} {v:Value} {z:Int} (d:PLong h v z) : ∃s n,v=.agg #[.bool (decide (z<0)),s]∧s.cells = #[s]∧cellOK s=true∧(∀{P:Program} {t:TypeId} (_:isSliceT P (some t)=true) (h':IH),lenB P h' t s=some (.int .i64 ((n:Nat):Int)))∧(n=0↔z=0):=by
 obtain⟨s,rfl,ds,hD,hN,hx⟩:=d
 refine⟨s,ds.length,rfl,hD.1.cells,hD.1.cok,fun hT h'=>hD.1.len hT h',?_⟩
 have:=hN.nil_iff
 rw[hx] at this
 rw[List.length_eq_zero_iff,←this];omega
theorem k64_all (l:List Nat):(l.map K64).all cellOK=true:=by simp[cellOK]
theorem repl_k64 (n:Nat):repl n [.int .u64 0]=(List.replicate n 0).map K64:=by rw[repl_one,List.map_replicate];rfl
theorem spl_k64 {os:List Nat} {k:Nat} (x:Nat) (hk:k<os.length):IH.splice (os.map K64) k [K64 x]=(os.set k x).map K64:=by
 rw[splice_set (by simpa using hk),List.map_set]
theorem trimmed_at {h:IH} {v:Value} {ds:List Nat} (hd:WrdU h v ds) (b:Bool):WV prog (.func (.func 127) #[] #[]) [.bool b,v] h fun r h'=>(Ext h h'∧PLong h' r (if b then -(B.valD ds:Int) else B.valD ds)) ∧ ∀k o,blockOf v≠some (2*k)→PLong (h'.put k o) r (if b then -(B.valD ds:Int) else B.valD ds):=by
 have hb:=hd.2.2
 refine enter (nt:=29) (rs:=[.cell 4 94]) Proofs.Tryz.func127 rfl rfl rfl (by simp) ?_
 simp -dsimp (maxSteps:=1000000) (disch:=try exact dx) only[wpS,reduceEqDiff,reduceAdd,zc94,hd.1.len sl92]
 refine loop (fun m fr h1=>h1=h.new (.cells [.bool false,.slice none 0 0] 0 none)∧m≤ds.length∧fget fr 5=some (KN m)∧fget fr 0=some (.bool b)∧fget fr 1=some v∧fget fr 4=some (ptr (2*h.n) 0) ∧ ∀j,m≤j→ds.getD j 0=0) ds.length ⟨rfl,Nat.le_refl _,by simp,by simp,by simp,by simp,fun j hj=>B.getD_of_ge hj⟩ ?_
 rintro m fr h1 ⟨rfl,hm,f5,f0,f1,f4,hz⟩
 have e1:Ext h (h.new (.cells [.bool false,.slice none 0 0] 0 none)):=(Ext.refl h).new _
 have fin : ∀n:Nat,n≤ds.length→(∀j,n≤j→ds.getD j 0=0)→(n=0∨ds.getD (n - 1) 0≠0) → ∃r,sliceOp prog (h.new (.cells [.bool false,.slice none 0 0] 0 none)) 92 v none (some (KN n)) none=some r∧blockOf r=blockOf v∧WrdU (h.new (.cells [.bool false,.slice none 0 0] 0 none)) r (ds.take n)∧B.Norm (ds.take n)∧B.valD (ds.take n)=B.valD ds∧(0<n↔0<B.valD ds):=by
  intro n hn hz hne
  obtain⟨r,hr,hs⟩:=hd.1.slice e1.keep (P:=prog) (t:=92) u92 sz43 (l:=0) (m:=n) (Nat.zero_le _) hn (lo:=none) (hi:=some (KN n)) rfl (fun c hc=>natOf_nat (k:=.i64) (by omega))
  have hl:(ds.take n).length=n:=by simp[hn]
  have hN:B.Norm (ds.take n):=by
   rcases hne with rfl|hne
   ·left;simp
   ·by_cases h0:n=0
    ·subst h0;left;simp
    ·right
     rw[hl,B.getD_take,if_pos (by omega)];exact hne
  have hv:=B.valD_take hn hz
  refine⟨r,hr,slice_block u92 hr,⟨?_,hd.2.1.take n,by rw[hl];omega⟩,hN,hv,?_⟩
  ·rw[hl]
   have hs':SlOf h 1 r n ((ds.take n).map K64):=by simpa [List.map_take] using hs
   exact hs'.ext e1
  ·have hz:=hN.nil_iff
   rw[hv] at hz
   constructor
   ·intro h0
    apply Nat.pos_of_ne_zero;intro h1
    have:=hz.1 h1
    rw[this] at hl;simp at hl;omega
   ·intro h0
    apply Nat.pos_of_ne_zero;intro h1
    rw[h1] at hz
    have:=hz.2 (by simp)
    omega
 have out : ∀(n:Nat) (r:Value),blockOf r=blockOf v→WrdU (h.new (.cells [.bool false,.slice none 0 0] 0 none)) r (ds.take n)→B.Norm (ds.take n)→B.valD (ds.take n)=B.valD ds→(0<n↔0<B.valD ds) → ∀c:Bool,c=(b && decide (0<n)) →
   (Ext h ((h.new (.cells [.bool false,.slice none 0 0] 0 none)).put h.n (.cells [.bool c,r] 0 none))∧PLong ((h.new (.cells [.bool false,.slice none 0 0] 0 none)).put h.n (.cells [.bool c,r] 0 none)) (.agg #[.bool c,r]) (if b then -(B.valD ds:Int) else B.valD ds)) ∧ ∀k o,blockOf v≠some (2*k)→PLong (((h.new (.cells [.bool false,.slice none 0 0] 0 none)).put h.n (.cells [.bool c,r] 0 none)).put k o) (.agg #[.bool c,r]) (if b then -(B.valD ds:Int) else B.valD ds):=by
  rintro n r hbk hW hN hv hp c rfl
  have hk:=hW.keep ((Keep.refl _).put (get_new_same h _ rfl) (.cells [.bool (b && decide (0<n)),r] 0 none))
  have hc:(b && decide (0<n))=decide ((if b then -(B.valD ds:Int) else B.valD ds)<0):=by
   rw[show decide (0<n)=decide (0<B.valD ds) from decide_eq_decide.2 hp]
   cases b<;>simp<;>omega
  have ha:(if b then -(B.valD ds:Int) else (B.valD ds:Int)).natAbs=B.valD ds:=by cases b<;>simp
  refine⟨⟨e1.put (Nat.le_refl _) _,r,by rw[hc],ds.take n,hk,hN,by rw[ha,hv]⟩,fun k o hbv=>⟨r,by rw[hc],ds.take n,hk.putAt (by rw[hbk];exact hbv) o,hN,by rw[ha,hv]⟩⟩
 rcases Nat.eq_zero_or_pos m with rfl|hp
 ·obtain⟨r,hr,hbk,hW,hN,hv,hpp⟩:=fin 0 hm hz (.inl rfl)
  have:=out 0 r hbk hW hN hv hpp false (by simp)
  cases b
  ·simp -dsimp (maxSteps:=1000000) (disch:=try exact dx) only[wpS,wpT,reduceEqDiff,reduceLeDiff,reduceAdd,bv94,pl94_0,pl94_1,st94,ld94,f5,f0,f1,f4,hr,hW.1.cells,hW.1.cok]
   exact this
  ·simp -dsimp (maxSteps:=1000000) (disch:=try exact dx) only[wpS,wpT,reduceEqDiff,reduceLeDiff,reduceAdd,bv94,pl94_0,pl94_1,st94,ld94,f5,f0,f1,f4,hr,hW.1.cells,hW.1.cok]
   exact this
 ·obtain⟨k,rfl⟩ : ∃k,m=k+1:=⟨m - 1,by omega⟩
  have h2:IntKind.i64.wrap (((k+1:Nat):Int) - 1)=(k:Int):=by rw[wrap_i64 (by omega)];omega
  simp -dsimp (maxSteps:=1000000) (disch:=try exact dx) only[wpS,wpT,reduceEqDiff,f5,f1,h2,hd.1.idx es92 (show k<ds.length by omega),hd.1.ld e1.keep (P:=prog) (t:=43) (c:=k) (by simp<;>omega) ag43,map_get,get_some (show k<ds.length by omega)]
  refine bq_intro (fun hc=>?_) (fun hc=>?_)
  ·simp -dsimp (maxSteps:=1000000) (disch:=try exact dx) only[wpS,reduceEqDiff,f5,h2]
   refine⟨k,by omega,rfl,by omega,by simp,by simp[f0],by simp[f1],by simp[f4],fun j hj=>?_⟩
   by_cases hjk:j=k
   ·subst hjk;simpa using hc
   ·exact hz j (by omega)
  ·obtain⟨r,hr,hbk,hW,hN,hv,hpp⟩:=fin (k+1) hm hz (.inr (by simpa using hc))
   cases b
   ·have:=out (k+1) r hbk hW hN hv hpp false (by simp)
    simp -dsimp (maxSteps:=1000000) (disch:=try exact dx) only[wpS,wpT,reduceEqDiff,reduceLeDiff,reduceAdd,bv94,pl94_0,pl94_1,st94,ld94,f5,f0,f1,f4,hr,hW.1.cells,hW.1.cok]
    exact this
   ·have:=out (k+1) r hbk hW hN hv hpp true (by simp)
    simp -dsimp (maxSteps:=1000000) (disch:=try exact dx) only[wpS,wpT,reduceEqDiff,reduceLeDiff,reduceAdd,bv94,pl94_0,pl94_1,st94,ld94,f5,f0,f1,f4,hr,hW.1.cells,hW.1.cok]
    exact this
theorem trimmed_ok {h:IH} {v:Value} {ds:List Nat} (hd:WrdU h v ds) (b:Bool):WV prog (.func (.func 127) #[] #[]) [.bool b,v] h fun r h'=>Ext h h'∧PLong h' r (if b then -(B.valD ds:Int) else B.valD ds):=(trimmed_at hd b).mono fun _ _ k=>k.1
theorem compared_ok {h:IH} {v w:Value} {a b:List Nat} (ha:WrdU h v a) (hb:WrdU h w b) (na:B.Norm a) (nb:B.Norm b) :
  WV prog (.func (.func 143) #[] #[]) [v,w] h fun r h'=>h'=h ∧ ∃c:Int,r=KI c∧(c<0↔B.valD a<B.valD b)∧(c=0↔B.valD a=B.valD b) ∧ -9223372036854775808≤c∧c≤9223372036854775807:=by
 have la:=ha.2.2
 have lb:=hb.2.2
 refine enter (nt:=43) (rs:=[.tmp 4]) Proofs.Tryz.func143 rfl rfl rfl (by simp) ?_
 simp -dsimp (maxSteps:=1000000) (disch:=try exact dx) only[wpS,reduceEqDiff,reduceAdd,ha.1.len sl92,hb.1.len sl92]
 refine bq_intro ?_ ?_<;>intro hc<;>simp only[bne_iff_ne,bne_eq_false_iff_eq,ne_eq] at hc
 ·simp -dsimp (maxSteps:=1000000) (disch:=try exact dx) only[wpS,wpT,reduceEqDiff,ha.1.len sl92,hb.1.len sl92]
  refine⟨_,rfl,?_,?_,by omega,by omega⟩
  ·constructor
   ·intro h1;exact B.lt_of_len ha.2.1 nb (by omega)
   ·intro h1
    have:=na.len_le hb.2.1 (Nat.le_of_lt h1)
    omega
  ·constructor
   ·intro h1;omega
   ·intro h1
    have h2:=na.len_le hb.2.1 (Nat.le_of_eq h1)
    have h3:=nb.len_le ha.2.1 (Nat.le_of_eq h1.symm)
    omega
 ·have hl:a.length=b.length:=by omega
  simp -dsimp (maxSteps:=1000000) (disch:=try exact dx) only[wpS,wpT,reduceEqDiff,ha.1.len sl92]
  refine loop (fun m fr h1=>h1=h∧m≤a.length∧fget fr 5=some (KI ((m:Int) - 1))∧fget fr 0=some v∧fget fr 1=some w ∧ ∀j,m≤j→j<a.length→a.getD j 0=b.getD j 0) a.length ⟨rfl,Nat.le_refl _,by simp,by simp,by simp,fun j hj hj2=>by omega⟩ ?_
  rintro m fr h1 ⟨rfl,hm,f5,f0,f1,hz⟩
  rcases Nat.eq_zero_or_pos m with rfl|hp
  ·simp -dsimp (maxSteps:=1000000) (disch:=try exact dx) only[wpS,wpT,reduceEqDiff,f5]
   refine⟨_,rfl,?_,?_,by omega,by omega⟩
   ·have:=B.eq_of_all hl (fun j hj=>hz j (Nat.zero_le _) hj);omega
   ·have:=B.eq_of_all hl (fun j hj=>hz j (Nat.zero_le _) hj);omega
  ·obtain⟨k,rfl⟩ : ∃k,m=k+1:=⟨m - 1,by omega⟩
   have h2:(((k+1:Nat):Int) - 1)=(k:Int):=by omega
   rw[h2] at f5
   have da:=B.getD_lt ha.2.1 k
   have db:=B.getD_lt hb.2.1 k
   have key:(a.getD k 0<b.getD k 0→B.valD a<B.valD b)∧(b.getD k 0<a.getD k 0→B.valD b<B.valD a) :=
    ⟨fun h=>B.lt_of_top ha.2.1 hl (by omega) h (fun j x y=>hz j (by omega) y),fun h=>B.lt_of_top hb.2.1 hl.symm (by omega) h (fun j x y=>(hz j (by omega) (by omega)).symm)⟩
   simp -dsimp (maxSteps:=1000000) (disch:=try exact dx) only[wpS,wpT,reduceEqDiff,f5,f0,f1,ha.1.idx es92 (show k<a.length by omega),ha.1.ld (Keep.refl _) (P:=prog) (t:=43) (c:=k) (by simp<;>omega) ag43,hb.1.idx es92 (show k<b.length by omega),hb.1.ld (Keep.refl _) (P:=prog) (t:=43) (c:=k) (by simp<;>omega) ag43,map_get,get_some (show k<a.length by omega),get_some (show k<b.length by omega)]
   refine bq_intro ?_ ?_<;>intro hc<;>simp only[decide_eq_true_eq,decide_eq_false_iff_not] at hc
   ·simp -dsimp (maxSteps:=1000000) (disch:=try exact dx) only[wpS,wpT,reduceEqDiff]
    have:=key.1 (by omega)
    exact⟨_,rfl,by omega,by omega,by omega,by omega⟩
   ·simp -dsimp (maxSteps:=1000000) (disch:=try exact dx) only[wpS,wpT,reduceEqDiff,f5,f0,f1,ha.1.idx es92 (show k<a.length by omega),ha.1.ld (Keep.refl _) (P:=prog) (t:=43) (c:=k) (by simp<;>omega) ag43,hb.1.idx es92 (show k<b.length by omega),hb.1.ld (Keep.refl _) (P:=prog) (t:=43) (c:=k) (by simp<;>omega) ag43,map_get,get_some (show k<a.length by omega),get_some (show k<b.length by omega)]
    refine bq_intro ?_ ?_<;>intro hc4<;>simp only[decide_eq_true_eq,decide_eq_false_iff_not] at hc4
    ·simp -dsimp (maxSteps:=1000000) (disch:=try exact dx) only[wpS,wpT,reduceEqDiff]
     have:=key.2 (by omega)
     exact⟨_,rfl,by omega,by omega,by omega,by omega⟩
    ·simp -dsimp (maxSteps:=1000000) (disch:=try exact dx) only[wpS,wpT,reduceEqDiff,f5]
     refine⟨k,by omega,rfl,by omega,by simp,by simp[f0],by simp[f1],fun j h3 h4=>?_⟩
     by_cases hjk:j=k
     ·subst hjk;omega
     ·exact hz j (by omega) h4
theorem add64_ok {h:IH} (x y c:Nat) (hc:c≤1):WV prog (.func (.func 159) #[] #[]) [K64 x,K64 y,K64 c] h fun r h'=>h'=h∧r=.tuple #[K64 ((x+y+c) % 18446744073709551616),K64 ((x+y+c) / 18446744073709551616)] :=
 wv_carry Proofs.Tryz.func159 rfl (carry_add rfl x y hc) ⟨rfl,rfl⟩
theorem sub64_ok {h:IH} (x y c:Nat) (hc:c≤1):WV prog (.func (.func 164) #[] #[]) [K64 x,K64 y,K64 c] h fun r h'=>h'=h∧r=.tuple #[K64 ((x+18446744073709551616 - y - c) % 18446744073709551616),K64 (bif Nat.blt x (y+c) then 1 else 0)] :=
 wv_carry Proofs.Tryz.func164 rfl (carry_sub rfl x y hc) ⟨rfl,rfl⟩
end Go.Id

namespace Go.Id
open Go
open Go.Proofs.Tryz (prog)
open Nat (reduceAdd reduceEqDiff reduceLeDiff)
theorem valT_set_low {os:List Nat} {k x i:Nat} (h:i≤k) (hk:k<os.length):B.valT (os.set k x) i=B.valT os i :=
 B.valT_congr fun j hj=>by rw[B.getD_set hk,if_neg (by omega)]
theorem valT_set_next {os:List Nat} {k x:Nat} (hk:k<os.length):B.valT (os.set k x) (k+1)=B.valT os k+x*18446744073709551616 ^ k:=by
 rw[B.valT,valT_set_low (Nat.le_refl _) hk,B.getD_set hk,if_pos rfl]
theorem taken_ok {h:IH} {v w:Value} {a b:List Nat} (ha:WrdU h v a) (hb:WrdU h w b) (nb:B.Norm b) (hle:B.valD b≤B.valD a) :
  WV prog (.func (.func 144) #[] #[]) [v,w] h fun r h'=>Ext h h' ∧ ∃os,r=.slice (some ⟨2*h.n,0,none⟩) a.length (2*a.length+1)∧WrdU h' r os∧B.valD os=B.valD a - B.valD b:=by
 have la:=ha.2.2
 have lb:=hb.2.2
 refine enter (nt:=40) (rs:=[.tmp 4]) Proofs.Tryz.func144 rfl rfl rfl (by simp) ?_
 simp -dsimp (maxSteps:=1000000) (disch:=try exact dx) only[wpS,reduceEqDiff,reduceAdd,ms92,ha.1.len sl92]
 refine loop (fun m fr h1 => ∃(i bor:Nat) (os:List Nat),i+m=a.length∧fget fr 1=some w∧fget fr 5=some (.slice (some ⟨2*h.n,0,none⟩) a.length (2*a.length+1))∧fget fr 6=some (K64 bor)∧fget fr 13=some v∧fget fr 14=some (KN a.length)∧fget fr 15=some (KN i)∧bor≤1∧os.length=a.length∧B.Digs os ∧
  B.valT a i+bor*18446744073709551616 ^ i=B.valT b i+B.valT os i∧h.n<h1.n∧h1.ext.get h.n=some (.cells (os.map K64) 1 none)∧Ext h h1) a.length
  ⟨0,0,List.replicate a.length 0,by simp,by simp,by simp,by simp,by simp,by simp,by simp,by omega,by simp,B.Digs.repl _,by simp[B.valT],by simp,by rw[get_new_same _ _ rfl,repl_k64],(Ext.refl h).new _⟩ ?_
 rintro m fr h1 ⟨i,bor,os,him,f1,f5,f6,f13,f14,f15,hbor,hos,hd,hv,hn,hg,hE⟩
 simp -dsimp (maxSteps:=1000000) (disch:=try exact dx) only[wpS,f14,f15]
 refine bq_intro ?_ ?_<;>intro hc<;>simp only[decide_eq_true_eq,decide_eq_false_iff_not] at hc
 ·have hi:i<a.length:=by omega
  have da:=B.getD_lt ha.2.1 i
  have db:=B.getD_lt hb.2.1 i
  have gx:=get_some hi
  generalize hx:a.getD i 0=x at *
  generalize hy:b.getD i 0=y at *
  simp -dsimp (maxSteps:=1000000) (disch:=try exact dx) only[wpS,wpT,reduceEqDiff,f1,f13,f15,ha.1.idx es92 hi,ha.1.ld hE.keep (P:=prog) (t:=43) (c:=i) (by simpa using hi) ag43,map_get,gx,hb.1.len sl92]
  refine bq_cut (fun fr2 h2=>h2=h1∧fget fr2 1=some w∧fget fr2 5=some (.slice (some ⟨2*h.n,0,none⟩) a.length (2*a.length+1))∧fget fr2 6=some (K64 bor)∧fget fr2 7=some (KN i)∧fget fr2 8=some (K64 x)∧fget fr2 9=some (K64 y)∧fget fr2 13=some v∧fget fr2 14=some (KN a.length)∧fget fr2 15=some (KN i)) (fun hc=>?_) (fun hc=>?_) ?_
  ·simp only[decide_eq_true_eq] at hc
   have hi2:i<b.length:=by omega
   have gy:=get_some hi2
   rw[hy] at gy
   simp -dsimp (maxSteps:=1000000) (disch:=try exact dx) only[wpS,wpT,reduceEqDiff,f1,hb.1.idx es92 hi2,hb.1.ld hE.keep (P:=prog) (t:=43) (c:=i) (by simpa using hi2) ag43,map_get,gy]
   exact⟨rfl,by simp[f1],by simp[f5],by simp[f6],by simp,by simp,by simp,by simp[f13],by simp[f14],by simp[f15]⟩
  ·simp only[decide_eq_false_iff_not] at hc
   have hy0:y=0:=by rw[←hy];exact B.getD_of_ge (by omega)
   subst hy0
   simp -dsimp (maxSteps:=1000000) (disch:=try exact dx) only[wpS,wpT]
   exact⟨rfl,by simp[f1],by simp[f5],by simp[f6],by simp,by simp,by simp,by simp[f13],by simp[f14],by simp[f15]⟩
  ·rintro fr2 h2 ⟨rfl,f1,f5,f6,f7,f8,f9,f13,f14,f15⟩
   simp -dsimp (maxSteps:=1000000) (disch:=try exact dx) only[wpS,reduceEqDiff,f5,f6,f7,f8,f9]
   refine call (sub64_ok x y bor hbor) ?_
   rintro _ _ ⟨rfl,rfl⟩
   have hi3:i<os.length:=by omega
   generalize hdd:(x+18446744073709551616 - y - bor) % 18446744073709551616=d
   obtain⟨b2,hb2,hb1,hrel⟩ : ∃b2:Nat,(bif Nat.blt x (y+bor) then 1 else 0)=b2∧b2≤1∧x+b2*18446744073709551616=y+bor+d:=by
    by_cases hlt:x<y+bor
    ·have e:Nat.blt x (y+bor)=true:=by simp only[Nat.blt,Nat.ble_eq];exact hlt
     refine⟨1,by rw[e];rfl,by omega,by omega⟩
    ·have e:Nat.blt x (y+bor)=false:=by rw[Bool.eq_false_iff];intro h;simp[Nat.blt] at h;omega
     refine⟨0,by rw[e];rfl,by omega,by omega⟩
   rw[hb2]
   have hd2:d<18446744073709551616:=by omega
   have spl:=spl_k64 d hi3
   rename_i h3
   simp -dsimp (maxSteps:=1000000) (disch:=try exact dx) only[wpS,wpT,reduceEqDiff,es92,st43,f15,hg,spl,List.length_map,hos]
   refine⟨m - 1,by omega,i+1,b2,os.set i d,by omega,by simp[f1],by simp[f5],by simp,by simp[f13],by simp[f14],by simp,hb1,by rw[List.length_set,hos],hd.set _ hd2,?_,hn,get_put_same _ _ rfl,hE.put (Nat.le_refl _) _⟩
   rw[valT_set_next hi3,B.valT,B.valT,hx,hy,Nat.pow_succ]
   have e3:x*18446744073709551616 ^ i+b2*(18446744073709551616 ^ i*18446744073709551616)=(y+bor+d)*18446744073709551616 ^ i:=by rw[←hrel];grind
   have e4:(y+bor+d)*18446744073709551616 ^ i=y*18446744073709551616 ^ i+bor*18446744073709551616 ^ i+d*18446744073709551616 ^ i:=by grind
   omega
 ·obtain rfl:i=a.length:=by omega
  have hbl:=nb.len_le ha.2.1 hle
  rw[B.valT_ge hbl,B.valT_ge (Nat.le_refl _),B.valT_ge (show os.length≤a.length by omega)] at hv
  have hlt:=B.valD_lt hd
  rw[hos] at hlt
  have hb0:bor=0:=by
   apply Classical.byContradiction;intro hne
   have:bor=1:=by omega
   subst this;omega
  subst hb0
  simp -dsimp (maxSteps:=1000000) (disch:=try exact dx) only[wpS,wpT,reduceEqDiff,f5]
  exact⟨hE,os,⟨by rw[hos];exact sl_block hg hn (by decide) (by simp[hos]) (by omega) (by omega),hd,by omega⟩,by omega⟩
theorem added_ok {h:IH} {v w:Value} {a b:List Nat} (ha:WrdU h v a) (hb:WrdU h w b) (la:a.length≤1000001) (lb:b.length≤1000001) :
  WV prog (.func (.func 142) #[] #[]) [v,w] h fun r h'=>Ext h h' ∧ ∃os,WrdU h' r os∧B.valD os=B.valD a+B.valD b:=by
 refine enter (nt:=53) (rs:=[.tmp 4]) Proofs.Tryz.func142 rfl rfl rfl (by simp) ?_
 simp -dsimp (maxSteps:=1000000) (disch:=try exact dx) only[wpS,reduceEqDiff,reduceAdd,ha.1.len sl92,hb.1.len sl92]
 refine bq_cut (fun fr2 h2=>h2=h ∧ ∃(v' w':Value) (a' b':List Nat),WrdU h v' a'∧WrdU h w' b'∧a'.length≤1000001∧b'.length≤a'.length∧B.valD a'+B.valD b'=B.valD a+B.valD b∧fget fr2 0=some v'∧fget fr2 1=some w') (fun hc=>?_) (fun hc=>?_) ?_
 ·simp only[decide_eq_true_eq] at hc
  simp -dsimp (maxSteps:=1000000) (disch:=try exact dx) only[wpS,wpT,reduceEqDiff]
  exact⟨rfl,w,v,b,a,hb,ha,lb,by omega,by omega,by simp,by simp⟩
 ·simp only[decide_eq_false_iff_not] at hc
  simp -dsimp (maxSteps:=1000000) (disch:=try exact dx) only[wpS,wpT]
  exact⟨rfl,v,w,a,b,ha,hb,la,by omega,rfl,by simp,by simp⟩
 clear ha hb la lb
 rintro fr h1 ⟨rfl,v,w,a',b',ha,hb,la,hle,hsum,f0,f1⟩
 rw[←hsum]
 clear hsum
 have eL:(a'.length:Int)+1=((a'.length+1:Nat):Int):=by omega
 simp -dsimp (maxSteps:=1000000) (disch:=try exact dx) only[wpS,wpT,reduceEqDiff,ms92,f0,ha.1.len sl92,eL]
 refine loop (fun m fr h2 => ∃(i c:Nat) (os:List Nat),i+m=a'.length∧fget fr 0=some v∧fget fr 1=some w∧fget fr 5=some (.slice (some ⟨2*h1.n,0,none⟩) (a'.length+1) (2*(a'.length+1)+1))∧fget fr 6=some (K64 c)∧fget fr 21=some v∧fget fr 22=some (KN a'.length)∧fget fr 23=some (KN i)∧c≤1∧os.length=a'.length+1∧B.Digs os ∧
  B.valT os i+c*18446744073709551616 ^ i=B.valT a' i+B.valT b' i∧h1.n<h2.n∧h2.ext.get h1.n=some (.cells (os.map K64) 1 none)∧Ext h1 h2) a'.length
  ⟨0,0,List.replicate (a'.length+1) 0,by simp,by simp[f0],by simp[f1],by simp,by simp,by simp,by simp,by simp,by omega,by simp,B.Digs.repl _,by simp[B.valT],by simp,by rw[get_new_same _ _ rfl,repl_k64];rfl,(Ext.refl h1).new _⟩ ?_
 clear f0 f1
 rintro m fr h2 ⟨i,c,os,him,f0,f1,f5,f6,f21,f22,f23,hcc,hos,hd,hv,hn,hg,hE⟩
 simp -dsimp (maxSteps:=1000000) (disch:=try exact dx) only[wpS,f22,f23]
 refine bq_intro ?_ ?_<;>intro hc<;>simp only[decide_eq_true_eq,decide_eq_false_iff_not] at hc
 ·have hi:i<a'.length:=by omega
  have da:=B.getD_lt ha.2.1 i
  have db:=B.getD_lt hb.2.1 i
  have gx:=get_some hi
  generalize hx:a'.getD i 0=x at *
  generalize hy:b'.getD i 0=y at *
  simp -dsimp (maxSteps:=1000000) (disch:=try exact dx) only[wpS,wpT,reduceEqDiff,f1,f21,f23,ha.1.idx es92 hi,ha.1.ld hE.keep (P:=prog) (t:=43) (c:=i) (by simpa using hi) ag43,map_get,gx,hb.1.len sl92]
  refine bq_cut (fun fr2 h3=>h3=h2∧fget fr2 0=some v∧fget fr2 1=some w∧fget fr2 5=some (.slice (some ⟨2*h1.n,0,none⟩) (a'.length+1) (2*(a'.length+1)+1))∧fget fr2 6=some (K64 c)∧fget fr2 7=some (KN i)∧fget fr2 8=some (K64 x)∧fget fr2 9=some (K64 y)∧fget fr2 21=some v∧fget fr2 22=some (KN a'.length)∧fget fr2 23=some (KN i)) (fun hc=>?_) (fun hc=>?_) ?_
  ·simp only[decide_eq_true_eq] at hc
   have hi2:i<b'.length:=by omega
   have gy:=get_some hi2
   rw[hy] at gy
   simp -dsimp (maxSteps:=1000000) (disch:=try exact dx) only[wpS,wpT,reduceEqDiff,f1,hb.1.idx es92 hi2,hb.1.ld hE.keep (P:=prog) (t:=43) (c:=i) (by simpa using hi2) ag43,map_get,gy]
   exact⟨rfl,by simp[f0],by simp[f1],by simp[f5],by simp[f6],by simp,by simp,by simp,by simp[f21],by simp[f22],by simp[f23]⟩
  ·simp only[decide_eq_false_iff_not] at hc
   have hy0:y=0:=by rw[←hy];exact B.getD_of_ge (by omega)
   subst hy0
   simp -dsimp (maxSteps:=1000000) (disch:=try exact dx) only[wpS,wpT]
   exact⟨rfl,by simp[f0],by simp[f1],by simp[f5],by simp[f6],by simp,by simp,by simp,by simp[f21],by simp[f22],by simp[f23]⟩
  ·rintro fr2 h3 ⟨rfl,f0,f1,f5,f6,f7,f8,f9,f21,f22,f23⟩
   simp -dsimp (maxSteps:=1000000) (disch:=try exact dx) only[wpS,reduceEqDiff,f5,f6,f7,f8,f9]
   refine call (add64_ok x y c hcc) ?_
   rintro _ _ ⟨rfl,rfl⟩
   have hi3:i<os.length:=by omega
   generalize hs:x+y+c=s
   have spl:=spl_k64 (s % 18446744073709551616) hi3
   simp -dsimp (maxSteps:=1000000) (disch:=try exact dx) only[wpS,wpT,reduceEqDiff,reduceLeDiff,es92,st43,f23,hg,spl,List.length_map,hos]
   refine⟨m - 1,by omega,i+1,s / 18446744073709551616,os.set i (s % 18446744073709551616),by omega,by simp[f0],by simp[f1],by simp[f5],by simp,by simp[f21],by simp[f22],by simp,by omega,by rw[List.length_set,hos],hd.set _ (by omega),?_,hn,get_put_same _ _ rfl,hE.put (Nat.le_refl _) _⟩
   rw[valT_set_next hi3,B.valT,B.valT,hx,hy,Nat.pow_succ]
   have hrel:s % 18446744073709551616+s / 18446744073709551616*18446744073709551616=x+y+c:=by omega
   have e3:s % 18446744073709551616*18446744073709551616 ^ i+s / 18446744073709551616*(18446744073709551616 ^ i*18446744073709551616)=(x+y+c)*18446744073709551616 ^ i:=by rw[←hrel];grind
   have e4:(x+y+c)*18446744073709551616 ^ i=x*18446744073709551616 ^ i+y*18446744073709551616 ^ i+c*18446744073709551616 ^ i:=by grind
   omega
 ·obtain rfl:i=a'.length:=by omega
  have hi3:a'.length<os.length:=by omega
  have spl:=spl_k64 c hi3
  simp -dsimp (maxSteps:=1000000) (disch:=try exact dx) only[wpS,wpT,reduceEqDiff,reduceLeDiff,es92,st43,f0,f5,f6,ha.1.len sl92,hg,spl,List.length_map,hos]
  refine⟨hE.put (Nat.le_refl _) _,os.set a'.length c,⟨?_,hd.set _ (by omega),by rw[List.length_set];omega⟩,?_⟩
  ·rw[List.length_set,hos]
   exact sl_block (get_put_same _ _ rfl) hn (by decide) (by simp[hos]) (by omega) (by omega)
  ·have:=valT_set_next (x:=c) hi3
   rw[B.valT_ge hle,B.valT_ge (Nat.le_refl _)] at hv
   rw[B.valD,List.length_set,hos,this,hv]
theorem mulF_ok {h:IH} (x y:Nat) (hx:x<18446744073709551616) (hy:y<18446744073709551616):WV prog (.func (.func 158) #[] #[]) [K64 x,K64 y] h fun r h'=>h'=h∧r=.tuple #[K64 (x*y / 18446744073709551616),K64 (x*y % 18446744073709551616)]:=by
 obtain⟨x0,hx0⟩ : ∃x0,x0=x % 4294967296:=⟨_,rfl⟩
 obtain⟨x1,hx1⟩ : ∃x1,x1=x / 4294967296:=⟨_,rfl⟩
 obtain⟨y0,hy0⟩ : ∃y0,y0=y % 4294967296:=⟨_,rfl⟩
 obtain⟨y1,hy1⟩ : ∃y1,y1=y / 4294967296:=⟨_,rfl⟩
 have ex:x=x1*4294967296+x0:=by omega
 have ey:y=y1*4294967296+y0:=by omega
 obtain⟨m1,m2,m3⟩:=mul_high (x1:=x1) (x0:=x0) (y1:=y1) (y0:=y0) (by omega) (by omega) (by omega) (by omega)
 rw[←ex,←ey] at m3
 have a1:x &&& 4294967295=x0:=by rw[hx0];exact Nat.and_two_pow_sub_one_eq_mod x 32
 have a2:y &&& 4294967295=y0:=by rw[hy0];exact Nat.and_two_pow_sub_one_eq_mod y 32
 have a3:nshr x 32=x1:=by rw[hx1];exact Nat.shiftRight_eq_div_pow x 32
 have a4:nshr y 32=y1:=by rw[hy1];exact Nat.shiftRight_eq_div_pow y 32
 have b00:x0*y0≤4294967295*4294967295:=Nat.mul_le_mul (by omega) (by omega)
 have b01:x0*y1≤4294967295*4294967295:=Nat.mul_le_mul (by omega) (by omega)
 have b10:x1*y0≤4294967295*4294967295:=Nat.mul_le_mul (by omega) (by omega)
 have b11:x1*y1≤4294967295*4294967295:=Nat.mul_le_mul (by omega) (by omega)
 have c00:(x0:Int)*(y0:Int)=((x0*y0:Nat):Int):=by simp
 have c01:(x0:Int)*(y1:Int)=((x0*y1:Nat):Int):=by simp
 have c10:(x1:Int)*(y0:Int)=((x1*y0:Nat):Int):=by simp
 have c11:(x1:Int)*(y1:Int)=((x1*y1:Nat):Int):=by simp
 have cxy:(x:Int)*(y:Int)=((x*y:Nat):Int):=by simp
 generalize x0*y0=p00 at *
 generalize x0*y1=p01 at *
 generalize x1*y0=p10 at *
 generalize x1*y1=p11 at *
 generalize x*y=pp at *
 obtain⟨t,ht⟩ : ∃t,t=p10+p00 / 4294967296:=⟨_,rfl⟩
 rw[←ht] at m1 m2 m3
 obtain⟨w,hw⟩ : ∃w,w=t % 4294967296+p01:=⟨_,rfl⟩
 rw[←hw] at m2 m3
 have s1:nshr p00 32=p00 / 4294967296:=Nat.shiftRight_eq_div_pow p00 32
 have s2:nshr t 32=t / 4294967296:=Nat.shiftRight_eq_div_pow t 32
 have s3:nshr w 32=w / 4294967296:=Nat.shiftRight_eq_div_pow w 32
 have a5:t &&& 4294967295=t % 4294967296:=Nat.and_two_pow_sub_one_eq_mod t 32
 have eT:(p10:Int)+((p00 / 4294967296:Nat):Int)=(t:Int):=by omega
 have eW:((t % 4294967296:Nat):Int)+(p01:Int)=(w:Int):=by omega
 have wr:IntKind.u64.wrap (pp:Int)=((pp % 18446744073709551616:Nat):Int):=by rw[wrapU];omega
 refine enter (nt:=51) (rs:=[.tmp 4,.tmp 5]) Proofs.Tryz.func158 rfl rfl rfl (by simp) ?_
 simp -dsimp (maxSteps:=1000000) (disch:=try exact dx) only[wpS,wpT,reduceEqDiff,reduceAdd,Int.reduceToNat,a1,a2,a3,a4,c00,c01,c10,c11,s1,eT,a5,s2,eW,s3]
 rw[cxy,wr,←m3]
 simp
theorem add64_0 {h:IH} (x y:Nat):WV prog (.func (.func 159) #[] #[]) [K64 x,K64 y,.int .u64 0] h fun r h'=>h'=h∧r=.tuple #[K64 ((x+y) % 18446744073709551616),K64 ((x+y) / 18446744073709551616)]:=add64_ok x y 0 (by omega)
theorem multiplied_ok {h:IH} {v w:Value} {a b:List Nat} (ha:WrdU h v a) (hb:WrdU h w b) (hab:a.length+b.length≤1100000) :
  WV prog (.func (.func 128) #[] #[]) [v,w] h fun r h'=>Ext h h' ∧ ∃os,WrdU h' r os∧B.valD os=B.valD a*B.valD b:=by
 have eL:(a.length:Int)+(b.length:Int)=((a.length+b.length:Nat):Int):=by omega
 refine enter (nt:=80) (rs:=[.tmp 4]) Proofs.Tryz.func128 rfl rfl rfl (by simp) ?_
 simp -dsimp (maxSteps:=1000000) (disch:=try exact dx) only[wpS,reduceEqDiff,reduceAdd,ms92,ha.1.len sl92,hb.1.len sl92,eL]
 refine loop (fun m fr h1 => ∃(i:Nat) (os:List Nat),i+m=a.length∧Ext h h1∧h.n<h1.n∧h1.ext.get h.n=some (.cells (os.map K64) 1 none)∧os.length=a.length+b.length∧B.Digs os∧B.valD os=B.valT a i*B.valD b∧(∀k,i+b.length≤k→os.getD k 0=0) ∧
   fget fr 1=some w∧fget fr 5=some (.slice (some ⟨2*h.n,0,none⟩) (a.length+b.length) (2*(a.length+b.length)+1))∧fget fr 22=some v∧fget fr 23=some (KN a.length)∧fget fr 24=some (KN i)) a.length
  ⟨0,List.replicate (a.length+b.length) 0,by omega,(Ext.refl h).new _,by simp,by rw[get_new_same _ _ rfl,repl_k64],by simp,B.Digs.repl _,by rw[B.valD_repl];simp[B.valT],fun k _=>B.getD_repl _ _,by simp,by simp,by simp,by simp,by simp⟩ ?_
 rintro m fr h1 ⟨i,os,him,hE,hn,hg,hol,hod,hov,hoz,f1,f5,f22,f23,f24⟩
 simp -dsimp (maxSteps:=1000000) (disch:=try exact dx) only[wpS,f23,f24]
 refine bq_intro ?_ ?_<;>intro hc<;>simp only[decide_eq_true_eq,decide_eq_false_iff_not] at hc
 ·have hi:i<a.length:=by omega
  have da:=B.getD_lt ha.2.1 i
  have gx:=get_some hi
  generalize hx:a.getD i 0=x at *
  simp -dsimp (maxSteps:=1000000) (disch:=try exact dx) only[wpS,wpT,reduceEqDiff,f1,f22,f24,ha.1.idx es92 hi,ha.1.ld hE.keep (P:=prog) (t:=43) (c:=i) (by simpa using hi) ag43,map_get,gx,hb.1.len sl92]
  refine loop (fun m2 fr h2 => ∃(j c:Nat) (os2:List Nat),j+m2=b.length∧Ext h h2∧h.n<h2.n∧h2.ext.get h.n=some (.cells (os2.map K64) 1 none)∧os2.length=a.length+b.length∧B.Digs os2∧c<18446744073709551616∧B.valD os2+c*18446744073709551616 ^ (i+j)=B.valT a i*B.valD b+x*B.valT b j*18446744073709551616 ^ i∧(∀k,i+b.length≤k→os2.getD k 0=0) ∧
    fget fr 1=some w∧fget fr 5=some (.slice (some ⟨2*h.n,0,none⟩) (a.length+b.length) (2*(a.length+b.length)+1))∧fget fr 22=some v∧fget fr 23=some (KN a.length)∧fget fr 24=some (KN i)∧fget fr 6=some (KN i)∧fget fr 7=some (K64 x)∧fget fr 8=some (K64 c)∧fget fr 29=some w∧fget fr 30=some (KN b.length)∧fget fr 31=some (KN j)) b.length
   ⟨0,0,os,by omega,hE,hn,hg,hol,hod,by omega,by rw[hov];simp[B.valT],hoz,by simp[f1],by simp[f5],by simp[f22],by simp[f23],by simp[f24],by simp,by simp,by simp,by simp,by simp,by simp⟩ ?_
  clear hE hn hg hol hod hov hoz f1 f5 f22 f23 f24
  rintro m2 fr h2 ⟨j,c,os2,hjm,hE,hn,hg,hol,hod,hc4,hov,hoz,f1,f5,f22,f23,f24,f6,f7,f8,f29,f30,f31⟩
  simp -dsimp (maxSteps:=1000000) (disch:=try exact dx) only[wpS,f30,f31]
  refine bq_intro ?_ ?_<;>intro hc2<;>simp only[decide_eq_true_eq,decide_eq_false_iff_not] at hc2
  ·have hj:j<b.length:=by omega
   have db:=B.getD_lt hb.2.1 j
   have doo:=B.getD_lt hod (i+j)
   have hr:h2.row (2*h.n)=some (os2.map K64):=row_kn hg
   have gy:=get_some hj
   have go:=get_some (show i+j<os2.length by omega)
   generalize hy:b.getD j 0=y at *
   generalize ho:os2.getD (i+j) 0=o at *
   have gor:(os2.map K64)[i+j]?=some (K64 o):=by rw[List.getElem?_map,go];rfl
   have eI:(i:Int)+(j:Int)=((i+j:Nat):Int):=by omega
   have hp:x*y≤18446744073709551615*18446744073709551615:=Nat.mul_le_mul (by omega) (by omega)
   simp -dsimp (maxSteps:=1000000) (disch:=try exact dx) only[wpS,wpT,reduceEqDiff,f7,f29,f31,hb.1.idx es92 hj,hb.1.ld hE.keep (P:=prog) (t:=43) (c:=j) (by simpa using hj) ag43,map_get,gy]
   refine call (mulF_ok x y da db) ?_
   rintro _ _ ⟨rfl,rfl⟩
   obtain⟨p,hpp⟩ : ∃p,p=x*y:=⟨_,rfl⟩
   rw[←hpp] at hp ⊢
   rename_i h3
   simp -dsimp (maxSteps:=1000000) (disch:=try exact dx) only[wpS,reduceEqDiff,es92,ld43,f5,f6,hr,gor,eI]
   refine call (add64_0 o (p % 18446744073709551616)) ?_
   rintro _ _ ⟨rfl,rfl⟩
   rename_i h4
   simp -dsimp (maxSteps:=1000000) (disch:=try exact dx) only[wpS,reduceEqDiff,f8]
   refine call (add64_0 ((o+p % 18446744073709551616) % 18446744073709551616) c) ?_
   rintro _ _ ⟨rfl,rfl⟩
   rename_i h5
   obtain⟨s,hs⟩ : ∃s,s=c+o+p:=⟨_,rfl⟩
   have eR:((o+p % 18446744073709551616) % 18446744073709551616+c) % 18446744073709551616=s % 18446744073709551616:=by omega
   have eQ:((p / 18446744073709551616:Nat):Int)+(((o+p % 18446744073709551616) / 18446744073709551616:Nat):Int)+((((o+p % 18446744073709551616) % 18446744073709551616+c) / 18446744073709551616:Nat):Int)=((s / 18446744073709551616:Nat):Int):=by omega
   have spl:=spl_k64 (s % 18446744073709551616) (show i+j<os2.length by omega)
   rw[eR]
   simp -dsimp (maxSteps:=1000000) (disch:=try exact dx) only[wpS,wpT,reduceEqDiff,es92,st43,f5,f6,f31,eI,eQ,hg,spl,List.length_map,hol]
   refine⟨m2 - 1,by omega,j+1,s / 18446744073709551616,os2.set (i+j) (s % 18446744073709551616),by omega,hE.put (Nat.le_refl _) _,hn,get_put_same _ _ rfl,by rw[List.length_set,hol],hod.set _ (by omega),by omega,?_,?_,by simp[f1],by simp[f5],by simp[f22],by simp[f23],by simp[f24],by simp[f6],by simp[f7],by simp,by simp[f29],by simp[f30],by simp⟩
   ·have hv:=B.valD_set (s % 18446744073709551616) (show i+j<os2.length by omega)
    rw[ho] at hv
    have hsd:s % 18446744073709551616+s / 18446744073709551616*18446744073709551616=c+o+x*y:=by omega
    rw[B.valT,hy]
    have e1:18446744073709551616 ^ (i+(j+1))=18446744073709551616 ^ (i+j)*18446744073709551616:=by rw[←Nat.add_assoc,Nat.pow_succ]
    have e2:18446744073709551616 ^ (i+j)=18446744073709551616 ^ i*18446744073709551616 ^ j:=Nat.pow_add _ _ _
    rw[e1]
    have e3:s % 18446744073709551616*18446744073709551616 ^ (i+j)+s / 18446744073709551616*(18446744073709551616 ^ (i+j)*18446744073709551616)=(c+o+x*y)*18446744073709551616 ^ (i+j):=by rw[←hsd];grind
    have e4:x*(B.valT b j+y*18446744073709551616 ^ j)*18446744073709551616 ^ i=x*B.valT b j*18446744073709551616 ^ i+x*y*18446744073709551616 ^ (i+j):=by rw[e2];grind
    have e5:(c+o+x*y)*18446744073709551616 ^ (i+j)=c*18446744073709551616 ^ (i+j)+o*18446744073709551616 ^ (i+j)+x*y*18446744073709551616 ^ (i+j):=by grind
    omega
   ·intro k hk
    rw[B.getD_set (by omega),if_neg (by omega)]
    exact hoz k hk
  ·obtain rfl:j=b.length:=by omega
   have hz:=hoz (i+b.length) (Nat.le_refl _)
   have eI:(i:Int)+(b.length:Int)=((i+b.length:Nat):Int):=by omega
   have spl:=spl_k64 c (show i+b.length<os2.length by omega)
   simp -dsimp (maxSteps:=1000000) (disch:=try exact dx) only[wpS,wpT,reduceEqDiff,es92,st43,f1,f5,f6,f8,f24,hb.1.len sl92,eI,hg,spl,List.length_map,hol]
   refine⟨m - 1,by omega,i+1,os2.set (i+b.length) c,by omega,hE.put (Nat.le_refl _) _,hn,get_put_same _ _ rfl,by rw[List.length_set,hol],hod.set _ (by omega),?_,?_,by simp[f1],by simp[f5],by simp[f22],by simp[f23],by simp⟩
   ·have hv:=B.valD_set c (show i+b.length<os2.length by omega)
    rw[hz,Nat.zero_mul,Nat.add_zero] at hv
    rw[hv,hov,B.valT,hx,show B.valT b b.length=B.valD b from rfl]
    grind
   ·intro k hk
    rw[B.getD_set (by omega),if_neg (by omega)]
    exact hoz k (by omega)
 ·obtain rfl:i=a.length:=by omega
  simp -dsimp (maxSteps:=1000000) (disch:=try exact dx) only[wpS,wpT,reduceEqDiff,f5]
  refine⟨hE,os,⟨?_,hod,by omega⟩,hov⟩
  rw[hol]
  exact sl_block hg hn (by decide) (by rw[List.length_map,hol];omega) (by omega) (by omega)
end Go.Id

namespace Go.Id
open Go
def blen:Nat→Nat
 | 0=>0
 | n+1=>Nat.log2 (n+1)+1
theorem blen_ok : ∀x,x<256 → ∀N,N<9→(N<blen x↔2 ^ N≤x):=by decide +kernel
theorem index_tab {P:Program} {t:TypeId} (ht:P.underlying t=some .string) (s:ByteArray) (hs:(List.range 256).all (fun j=>decide (s[j]?=some (UInt8.ofNat (blen j))))=true) {j:Nat} (hj:j<256):indexV P t (.string s) (.int .u8 j)=some (.int .u8 (blen j)):=by
 rw[List.all_eq_true] at hs
 have h1:=hs j (List.mem_range.2 hj)
 simp only[decide_eq_true_eq] at h1
 have hb:blen j<256:=by
  have:=(blen_ok j hj 8 (by omega)).1
  rcases Nat.lt_or_ge 8 (blen j) with h|h
  ·have:=this h;omega
  ·omega
 have h2:pureRun P (Instr.index t (.string s) (.int .u8 j))=some (.int .u8 (blen j)):=by
  unfold Instr.index
  rw[pr_bind (show pureRun P (asIntOf (.int .u8 j))=some (IntKind.u8,(j:Int)) from rfl)]
  simp only
  rw[pr_bind (pr_underlying ht)]
  simp only[Int.toNat_natCast,show(0:Int)≤(j:Int) by omega,if_true,h1]
  rw[pr_pure]
  have:(UInt8.ofNat (blen j)).toNat=blen j:=by simp;omega
  rw[this]
 have hp:plain (.int .u8 j)=true:=rfl
 simp only[indexV,hp,cond_true,pureVal,h2]
 rfl
theorem ex_intro {α:Type} {o:Option α} {K:α→Prop} {v:α} (h:o=some v) (k:K v):Do (Ex o) K nx:=⟨v,h,k⟩
def LenR (u x k:Nat):Prop:=x=u / 2 ^ k∧(0<k→0<x)
theorem LenR.ok {u x k:Nat} (h:LenR u x k) (hx:x<256) (N:Nat):N<k+blen x↔2 ^ N≤u:=by
 obtain⟨rfl,h2⟩:=h
 rcases Nat.lt_or_ge N k with h|h
 ·have hx0:=h2 (by omega)
  have h3:2 ^ k≤u:=by
   apply Classical.byContradiction;intro hh
   rw[Nat.div_eq_of_lt (by omega)] at hx0;omega
  have h4:2 ^ N≤2 ^ k:=Nat.pow_le_pow_right (by omega) (by omega)
  exact⟨fun _=>Nat.le_trans h4 h3,fun _=>by omega⟩
 ·obtain⟨d,rfl⟩ : ∃d,N=k+d:=⟨N - k,by omega⟩
  have e:2 ^ (k+d)≤u↔2 ^ d≤u / 2 ^ k:=by
   rw[Nat.le_div_iff_mul_le (Nat.pow_pos (by omega)),Nat.pow_add,Nat.mul_comm]
  rw[e]
  rcases Nat.lt_or_ge d 9 with hd|hd
  ·rw[←blen_ok _ hx d hd];omega
  ·have h9:2 ^ 9≤2 ^ d:=Nat.pow_le_pow_right (by omega) hd
   have hb : ¬9≤blen (u / 2 ^ k):=by
    intro hh
    have:=(blen_ok _ hx 8 (by omega)).1 (by omega);omega
   constructor
   ·intro;omega
   ·intro;omega
theorem LenR.more {u x k d:Nat} (h:LenR u x k) (hx:2 ^ d≤x):LenR u (x / 2 ^ d) (k+d):=by
 obtain⟨rfl,h2⟩:=h
 refine⟨by rw[Nat.div_div_eq_div_mul,Nat.pow_add],fun _=>?_⟩
 exact Nat.div_pos hx (Nat.pow_pos (by omega))
theorem len64_ok {h:IH} (u:Nat) (hu:u<18446744073709551616):WV Proofs.Tryz.prog (.func (.func 176) #[] #[]) [K64 u] h fun r h'=>h'=h ∧ ∃k:Nat,r=KN k∧k<1000 ∧ ∀N,N<k↔2 ^ N≤u:=by
 refine enter (nt:=25) (rs:=[.tmp 2]) Proofs.Tryz.func176 rfl rfl rfl (by simp) ?_
 simp -dsimp (maxSteps:=1000000) (disch:=try exact dx) only[wpS,Nat.reduceEqDiff]
 refine bq_cut (fun fr2 h2=>h2=h ∧ ∃x k:Nat,fget fr2 0=some (K64 x)∧fget fr2 2=some (KN k)∧k≤32∧x<4294967296∧LenR u x k) (fun hc=>?_) (fun hc=>?_) ?_
 ·simp only[decide_eq_true_eq] at hc
  have e1:nshr u 32=u / 4294967296:=by rw[nshr,Nat.shiftRight_eq_div_pow]
  simp -dsimp (maxSteps:=1000000) (disch:=try exact dx) only[wpS,wpT,Nat.reduceEqDiff,Int.reduceToNat,e1]
  refine⟨rfl,u / 4294967296,32,by simp,by simp,by omega,by omega,by simp,fun _=>by omega⟩
 ·simp only[decide_eq_false_iff_not] at hc
  simp -dsimp (maxSteps:=1000000) (disch:=try exact dx) only[wpS,wpT]
  refine⟨rfl,u,0,by simp,by simp,by omega,by omega,by simp,by omega⟩
 rintro fr h1 ⟨rfl,x,k,f0,f2,hk,hx,hL⟩
 simp -dsimp (maxSteps:=1000000) (disch:=try exact dx) only[wpS,Nat.reduceEqDiff,f0]
 refine bq_cut (fun fr2 h2=>h2=h1 ∧ ∃x k:Nat,fget fr2 0=some (K64 x)∧fget fr2 2=some (KN k)∧k≤48∧x<65536∧LenR u x k) (fun hc=>?_) (fun hc=>?_) ?_
 ·simp only[decide_eq_true_eq] at hc
  have e1:nshr x 16=x / 65536:=by rw[nshr,Nat.shiftRight_eq_div_pow]
  simp -dsimp (maxSteps:=1000000) (disch:=try exact dx) only[wpS,wpT,Nat.reduceEqDiff,Int.reduceToNat,f0,f2,e1]
  exact⟨rfl,x / 65536,k+16,by simp,by simp,by omega,by omega,hL.more (d:=16) (by omega)⟩
 ·simp only[decide_eq_false_iff_not] at hc
  simp -dsimp (maxSteps:=1000000) (disch:=try exact dx) only[wpS,wpT]
  refine⟨rfl,x,k,by simp[f0],by simp[f2],by omega,by omega,hL⟩
 rintro fr h2 ⟨rfl,x,k,f0,f2,hk,hx,hL⟩
 simp -dsimp (maxSteps:=1000000) (disch:=try exact dx) only[wpS,Nat.reduceEqDiff,f0]
 refine bq_cut (fun fr2 h3=>h3=h2 ∧ ∃x k:Nat,fget fr2 0=some (K64 x)∧fget fr2 2=some (KN k)∧k≤56∧x<256∧LenR u x k) (fun hc=>?_) (fun hc=>?_) ?_
 ·simp only[decide_eq_true_eq] at hc
  have e1:nshr x 8=x / 256:=by rw[nshr,Nat.shiftRight_eq_div_pow]
  simp -dsimp (maxSteps:=1000000) (disch:=try exact dx) only[wpS,wpT,Nat.reduceEqDiff,Int.reduceToNat,f0,f2,e1]
  exact⟨rfl,x / 256,k+8,by simp,by simp,by omega,by omega,hL.more (d:=8) (by omega)⟩
 ·simp only[decide_eq_false_iff_not] at hc
  simp -dsimp (maxSteps:=1000000) (disch:=try exact dx) only[wpS,wpT]
  refine⟨rfl,x,k,by simp[f0],by simp[f2],by omega,by omega,hL⟩
 rintro fr h3 ⟨rfl,x,k,f0,f2,hk,hx,hL⟩
 simp -dsimp (maxSteps:=1000000) (disch:=try exact dx) only[wpS,Nat.reduceEqDiff,cv43_5,f0,f2]
 refine ex_intro (index_tab u9 _ (by decide +kernel) hx) ?_
 simp -dsimp (maxSteps:=1000000) (disch:=try exact dx) only[wpS,wpT,Nat.reduceEqDiff,cv5_3]
 have hb:blen x<256:=by
  have:=(blen_ok x hx 8 (by omega)).1
  rcases Nat.lt_or_ge 8 (blen x) with h|h
  ·have:=this h;omega
  ·omega
 refine⟨k+blen x,?_,by omega,fun N=>hL.ok hx N⟩
 rw[wrap_i64 (x:=(blen x:Int)) (by omega),wrap_i64 (by omega)]
 exact congrArg (Value.int .i64) (by omega)
end Go.Id

namespace Go.Id
open Go
open Nat (reduceAdd reduceEqDiff)
set_option maxHeartbeats 16000000
theorem dh_aux {u w a b A B r1 r0:Nat} (hw:4294967296*a+b=w) (h1:u*4294967296+a=A+r1) (h2:r1*4294967296+b=B+r0):u*18446744073709551616+w=A*4294967296+B+r0:=by
 have e:u*18446744073709551616=u*4294967296*4294967296:=by rw[Nat.mul_assoc]
 rw[e,←hw,←Nat.add_assoc,Nat.mul_comm 4294967296 a,←Nat.add_mul,h1,Nat.add_mul,Nat.add_assoc,h2,Nat.add_assoc]
theorem div_halves {hi lo y s Y u w q1 r1 q0 r0:Nat} (hY:Y=y*2 ^ s) (hy:0<y) (hN:(hi*18446744073709551616+lo)*2 ^ s=u*18446744073709551616+w) (h1:u*4294967296+w / 4294967296=q1*Y+r1) (h2:r1*4294967296+w % 4294967296=q0*Y+r0) (hr:r0<Y) :
  (hi*18446744073709551616+lo) / y=q1*4294967296+q0∧r0 / 2 ^ s=(hi*18446744073709551616+lo) % y:=by
 have hp:0<2 ^ s:=Nat.pow_pos (by omega)
 have e1:Y*(q1*4294967296+q0)=q1*Y*4294967296+q0*Y:=by rw[Nat.mul_add,Nat.mul_comm Y q0,←Nat.mul_assoc,Nat.mul_comm Y q1]
 have e:(hi*18446744073709551616+lo)*2 ^ s=Y*(q1*4294967296+q0)+r0:=by
  rw[hN,e1]
  exact dh_aux (Nat.div_add_mod _ _) h1 h2
 obtain⟨N,hNN⟩ : ∃N,N=hi*18446744073709551616+lo:=⟨_,rfl⟩
 rw[←hNN] at e ⊢
 clear hN h1 h2 hNN
 have e2:N*2 ^ s / Y=q1*4294967296+q0:=by
  rw[e,Nat.mul_add_div (by rw[hY];exact Nat.mul_pos hy hp),Nat.div_eq_of_lt hr,Nat.add_zero]
 have e3:N*2 ^ s % Y=r0:=by rw[e,Nat.mul_add_mod,Nat.mod_eq_of_lt hr]
 rw[hY,Nat.mul_div_mul_right _ _ hp] at e2
 rw[hY,Nat.mul_mod_mul_right] at e3
 exact⟨e2,by rw[←e3,Nat.mul_div_cancel _ hp]⟩
theorem lz_ok {h:IH} (u:Nat) (h0:0<u) (hu:u<18446744073709551616):WV Proofs.Tryz.prog (.func (.func 172) #[] #[]) [K64 u] h fun r h'=>h'=h ∧ ∃s:Nat,r=KN s∧s<64∧9223372036854775808≤u*2 ^ s∧u*2 ^ s<18446744073709551616∧2 ^ (63 - s)≤u∧u<2 ^ (64 - s):=by
 refine enter (nt:=6) (rs:=[.tmp 2]) Proofs.Tryz.func172 rfl rfl rfl (by simp) ?_
 simp -dsimp (maxSteps:=1000000) (disch:=try exact dx) only[wpS,reduceEqDiff]
 refine call (len64_ok u hu) ?_
 rintro _ _ ⟨rfl,k,rfl,hk,hN⟩
 have k1:0<k:=(hN 0).2 (by omega)
 have k2:k≤64:=by
  apply Classical.byContradiction;intro hn
  have:=(hN 64).1 (by omega)
  omega
 have k3:2 ^ (k - 1)≤u:=(hN (k - 1)).1 (by omega)
 have k4:u<2 ^ k:=by
  apply Classical.byContradiction;intro hn
  have:=(hN k).2 (by omega)
  omega
 have e:(64:Int) - (k:Int)=((64 - k:Nat):Int):=by omega
 simp -dsimp (maxSteps:=1000000) (disch:=try exact dx) only[wpS,wpT,reduceEqDiff,e]
 refine⟨64 - k,rfl,by omega,?_,?_,by rw[show 63 - (64 - k)=k - 1 by omega];exact k3,by rw[show 64 - (64 - k)=k by omega];exact k4⟩
 ·have:=Nat.mul_le_mul_right (2 ^ (64 - k)) k3
  rw[←Nat.pow_add,show k - 1+(64 - k)=63 by omega] at this
  exact this
 ·have:=Nat.mul_lt_mul_of_pos_right k4 (show 0<2 ^ (64 - k) from Nat.pow_pos (by omega))
  rw[←Nat.pow_add,show k+(64 - k)=64 by omega] at this
  exact this
theorem div64_ok {h:IH} (hi lo y:Nat) (hh:hi<y) (hl:lo<18446744073709551616) (hy:y<18446744073709551616):WV Proofs.Tryz.prog (.func (.func 160) #[] #[]) [K64 hi,K64 lo,K64 y] h fun r h'=>h'=h∧r=.tuple #[K64 ((hi*18446744073709551616+lo) / y),K64 ((hi*18446744073709551616+lo) % y)]:=by
 have y0:((y:Int) == 0)=false:=by simp;omega
 by_cases h0:hi=0
 ·subst h0
  have d1:(lo:Int) / (y:Int)=((lo / y:Nat):Int):=by simp
  have d2:(lo:Int) % (y:Int)=((lo % y:Nat):Int):=by simp
  have d3:lo / y≤lo:=Nat.div_le_self _ _
  refine enter (nt:=135) (rs:=[.tmp 6,.tmp 7]) Proofs.Tryz.func160 rfl rfl rfl (by simp) ?_
  simp -dsimp (maxSteps:=1000000) (disch:=try exact dx) only[wpS,wpT,reduceEqDiff,reduceAdd,y0,d1,d2]
 ·have h0':((hi:Int) == 0)=false:=by simp;omega
  refine enter (nt:=135) (rs:=[.tmp 6,.tmp 7]) Proofs.Tryz.func160 rfl rfl rfl (by simp) ?_
  simp -dsimp (maxSteps:=1000000) (disch:=try exact dx) only[wpS,wpT,reduceEqDiff,reduceAdd,y0,h0']
  refine call (lz_ok y (by omega) hy) ?_
  rintro _ _ ⟨rfl,s,rfl,hs,hY1,hY2,hy1,hy2⟩
  rename_i h1
  have hps:0<2 ^ s:=Nat.pow_pos (by omega)
  obtain⟨Y,hY⟩ : ∃Y,Y=y*2 ^ s:=⟨_,rfl⟩
  have eY:y*2 ^ s % 18446744073709551616=Y:=by rw[hY];exact Nat.mod_eq_of_lt hY2
  rw[←hY] at hY1 hY2
  have hU:hi*2 ^ s<Y:=by rw[hY];exact Nat.mul_lt_mul_of_pos_right hh hps
  have eU:hi*2 ^ s % 18446744073709551616=hi*2 ^ s:=Nat.mod_eq_of_lt (by omega)
  have e64:(64:Int) - (s:Int)=((64 - s:Nat):Int):=by omega
  have eR:nshr lo (64 - s)=lo / 2 ^ (64 - s):=Nat.shiftRight_eq_div_pow _ _
  have hR:lo / 2 ^ (64 - s)<2 ^ s:=B.shr_small hl (by omega)
  have eO:hi*2 ^ s ||| lo / 2 ^ (64 - s)=hi*2 ^ s+lo / 2 ^ (64 - s):=B.or_add (Nat.dvd_mul_left _ _) hR
  have hsp:=B.shl_parts hl hs
  obtain⟨u,hu⟩ : ∃u,u=hi*2 ^ s+lo / 2 ^ (64 - s):=⟨_,rfl⟩
  obtain⟨w,hw⟩ : ∃w,w=lo*2 ^ s % 18446744073709551616:=⟨_,rfl⟩
  rw[←hw] at hsp
  have huY:u<Y:=by
   have:(hi+1)*2 ^ s≤y*2 ^ s:=Nat.mul_le_mul_right _ hh
   rw[Nat.add_mul,←hY] at this
   omega
  have hwl:w<18446744073709551616:=by omega
  have hN:(hi*18446744073709551616+lo)*2 ^ s=u*18446744073709551616+w:=by
   rw[Nat.add_mul,hu,Nat.add_mul,←hsp]
   have:hi*18446744073709551616*2 ^ s=hi*2 ^ s*18446744073709551616:=by grind
   omega
  have s1:nshr Y 32=Y / 4294967296:=Nat.shiftRight_eq_div_pow _ _
  have s2:Y &&& 4294967295=Y % 4294967296:=Nat.and_two_pow_sub_one_eq_mod Y 32
  have s3:nshr w 32=w / 4294967296:=Nat.shiftRight_eq_div_pow _ _
  have s4:w &&& 4294967295=w % 4294967296:=Nat.and_two_pow_sub_one_eq_mod w 32
  obtain⟨y1,hy1'⟩ : ∃y1,y1=Y / 4294967296:=⟨_,rfl⟩
  obtain⟨y0',hy0'⟩ : ∃y0,y0=Y % 4294967296:=⟨_,rfl⟩
  have eYY:Y=y1*4294967296+y0':=by omega
  have g1:2147483648≤y1:=by omega
  have g0:y0'<4294967296:=by omega
  have c1:(u:Int) / (y1:Int)=((u / y1:Nat):Int):=by simp
  have dm:=Nat.div_add_mod u y1
  have dm2:((u / y1:Nat):Int)*(y1:Int)=((y1*(u / y1):Nat):Int):=by rw[Nat.mul_comm y1];simp
  have dm3:(u:Int) - ((y1*(u / y1):Nat):Int)=((u % y1:Nat):Int):=by omega
  have dl:=Nat.mod_lt u (show 0<y1 by omega)
  have dle:u / y1≤u:=Nat.div_le_self _ _
  simp -dsimp (maxSteps:=1000000) (disch:=try exact dx) only[wpS,reduceEqDiff,Int.reduceToNat,cv3_145,shl_n,eY,eU,e64,eR,eO,←hu,←hw,s1,s2,s3,s4,←hy1',←hy0',c1,dm2,dm3]
  refine loop_cut (fun fr h2=>h2=h1∧fget fr 2=some (K64 Y)∧fget fr 8=some (.int .u64 (s:Int))∧fget fr 9=some (K64 y1)∧fget fr 10=some (K64 y0')∧fget fr 11=some (K64 u)∧fget fr 13=some (K64 (w / 4294967296))∧fget fr 14=some (K64 (w % 4294967296))∧fget fr 15=some (K64 ((u*4294967296+w / 4294967296) / (y1*4294967296+y0')))) ?_ ?_
  ·refine loop (fun m fr h2=>h2=h1 ∧ ∃q r:Nat,q=m∧DivJ y1 y0' u (w / 4294967296) q r∧r<4294967296∧fget fr 2=some (K64 Y)∧fget fr 8=some (.int .u64 (s:Int))∧fget fr 9=some (K64 y1)∧fget fr 10=some (K64 y0')∧fget fr 11=some (K64 u)∧fget fr 13=some (K64 (w / 4294967296))∧fget fr 14=some (K64 (w % 4294967296))∧fget fr 15=some (K64 q)∧fget fr 16=some (K64 r)) (u / y1)
    ⟨rfl,_,_,rfl,divJ_start g1 g0 (eYY▸huY) (by omega),by omega,by simp,by simp,by simp,by simp,by simp,by simp,by simp,by simp,by simp⟩ ?_
   rintro m fr h2 ⟨rfl,q,r,rfl,hJ,hr,f2,f8,f9,f10,f11,f13,f14,fq,fr16⟩
   have hq1:=hJ.2.2
   have hUY:u<y1*4294967296+y0':=eYY▸huY
   have hDD:w / 4294967296<4294967296:=by omega
   have stepJ:(4294967296≤q∨4294967296*r+w / 4294967296<q*y0')→0<q∧DivJ y1 y0' u (w / 4294967296) (q - 1) (r+y1):=fun hc=>divJ_step g1 g0 hUY hDD hJ hc
   by_cases hqB:4294967296≤q
   ·obtain⟨hq0,hJ2⟩:=stepJ (.inl hqB)
    have eq1:(q:Int) - 1=((q - 1:Nat):Int):=by omega
    have er1:(r:Int)+(y1:Int)=((r+y1:Nat):Int):=by omega
    simp -dsimp (maxSteps:=1000000) (disch:=try exact dx) only[wpS,wpT,reduceEqDiff,f9,fq,fr16,eq1,er1]
    refine bq_intro ?_ ?_<;>intro hc<;>simp only[decide_eq_true_eq,decide_eq_false_iff_not] at hc
    ·simp -dsimp (maxSteps:=1000000) (disch:=try exact dx) only[wpS,wpT]
     refine⟨rfl,by simp[f2],by simp[f8],by simp[f9],by simp[f10],by simp[f11],by simp[f13],by simp[f14],?_⟩
     rw[divJ_break g1 g0 hJ2 (by omega) (by omega)];simp
    ·simp -dsimp (maxSteps:=1000000) (disch:=try exact dx) only[wpS,wpT]
     exact⟨q - 1,by omega,rfl,q - 1,r+y1,rfl,hJ2,by omega,by simp[f2],by simp[f8],by simp[f9],by simp[f10],by simp[f11],by simp[f13],by simp[f14],by simp,by simp⟩
   ·have hpm:q*y0'≤4294967295*4294967295:=Nat.mul_le_mul (by omega) (by omega)
    have ep:(q:Int)*(y0':Int)=((q*y0':Nat):Int):=by simp
    generalize hpp:q*y0'=p at *
    simp -dsimp (maxSteps:=1000000) (disch:=try exact dx) only[wpS,wpT,reduceEqDiff,f10,f13,fq,fr16,ep]
    refine bq_intro ?_ ?_<;>intro hc<;>simp only[decide_eq_true_eq,decide_eq_false_iff_not] at hc
    ·obtain⟨hq0,hJ2⟩:=stepJ (.inr (by omega))
     have eq1:(q:Int) - 1=((q - 1:Nat):Int):=by omega
     have er1:(r:Int)+(y1:Int)=((r+y1:Nat):Int):=by omega
     simp -dsimp (maxSteps:=1000000) (disch:=try exact dx) only[wpS,wpT,reduceEqDiff,f9,fq,fr16,eq1,er1]
     refine bq_intro ?_ ?_<;>intro hc5<;>simp only[decide_eq_true_eq,decide_eq_false_iff_not] at hc5
     ·simp -dsimp (maxSteps:=1000000) (disch:=try exact dx) only[wpS,wpT]
      refine⟨rfl,by simp[f2],by simp[f8],by simp[f9],by simp[f10],by simp[f11],by simp[f13],by simp[f14],?_⟩
      rw[divJ_break g1 g0 hJ2 (by omega) (by omega)];simp
     ·simp -dsimp (maxSteps:=1000000) (disch:=try exact dx) only[wpS,wpT]
      exact⟨q - 1,by omega,rfl,q - 1,r+y1,rfl,hJ2,by omega,by simp[f2],by simp[f8],by simp[f9],by simp[f10],by simp[f11],by simp[f13],by simp[f14],by simp,by simp⟩
    ·simp -dsimp (maxSteps:=1000000) (disch:=try exact dx) only[wpS,wpT]
     refine⟨rfl,by simp[f2],by simp[f8],by simp[f9],by simp[f10],by simp[f11],by simp[f13],by simp[f14],?_⟩
     rw[divJ_done g1 g0 hJ (by rw[hpp];omega)];simp[fq]
  rintro fr h2 ⟨rfl,f2,f8,f9,f10,f11,f13,f14,f15⟩
  rw[←eYY] at f15
  clear hsp eU eO eR hR s1 s2 s3 s4 c1 dm dm2 dm3 dl dle
  have hw1:w / 4294967296<4294967296:=by omega
  have hw0:w % 4294967296<4294967296:=by omega
  have nn1:((u*4294967296+w / 4294967296) / Y)*Y+(u*4294967296+w / 4294967296) % Y=u*4294967296+w / 4294967296:=by rw[Nat.mul_comm];exact Nat.div_add_mod _ _
  have hr1:(u*4294967296+w / 4294967296) % Y<Y:=Nat.mod_lt _ (by omega)
  have hq1:(u*4294967296+w / 4294967296) / Y<4294967296:=by rw[Nat.div_lt_iff_lt_mul (by omega)];omega
  obtain⟨q1,hQ1⟩ : ∃q,q=(u*4294967296+w / 4294967296) / Y:=⟨_,rfl⟩
  obtain⟨r1,hR1⟩ : ∃q,q=(u*4294967296+w / 4294967296) % Y:=⟨_,rfl⟩
  rw[←hQ1] at nn1 hq1 f15
  rw[←hR1] at nn1 hr1
  clear hQ1 hR1
  obtain⟨A,hA⟩ : ∃A,A=u*4294967296 % 18446744073709551616:=⟨_,rfl⟩
  have eA:IntKind.u64.wrap ((u:Int)*4294967296)=(A:Int):=by rw[wrapU];omega
  obtain⟨B1,hB1⟩ : ∃B1,B1=A+w / 4294967296:=⟨_,rfl⟩
  have eB:(A:Int)+((w / 4294967296:Nat):Int)=(B1:Int):=by omega
  have hB2:B1<18446744073709551616:=by omega
  have eC0:(q1:Int)*(Y:Int)=((q1*Y:Nat):Int):=by simp
  obtain⟨p1,hp1⟩ : ∃p1,p1=q1*Y:=⟨_,rfl⟩
  rw[←hp1] at nn1 eC0
  obtain⟨C1,hC1⟩ : ∃C1,C1=p1 % 18446744073709551616:=⟨_,rfl⟩
  have eC:IntKind.u64.wrap ((p1:Nat):Int)=(C1:Int):=by rw[wrapU];omega
  have eR1:IntKind.u64.wrap ((B1:Int) - (C1:Int))=(r1:Int):=by rw[wrapU];omega
  have c1:(r1:Int) / (y1:Int)=((r1 / y1:Nat):Int):=by simp
  have dm:=Nat.div_add_mod r1 y1
  have dm2:((r1 / y1:Nat):Int)*(y1:Int)=((y1*(r1 / y1):Nat):Int):=by rw[Nat.mul_comm y1];simp
  have dm3:(r1:Int) - ((y1*(r1 / y1):Nat):Int)=((r1 % y1:Nat):Int):=by omega
  have dl:=Nat.mod_lt r1 (show 0<y1 by omega)
  have dle:r1 / y1≤r1:=Nat.div_le_self _ _
  simp -dsimp (maxSteps:=1000000) (disch:=try exact dx) only[wpS,reduceEqDiff,f2,f9,f11,f13,f15,eA,eB,eC0,eC,eR1,c1,dm2,dm3]
  refine loop_cut (fun fr h3=>h3=h2∧fget fr 2=some (K64 Y)∧fget fr 8=some (.int .u64 (s:Int))∧fget fr 14=some (K64 (w % 4294967296))∧fget fr 15=some (K64 q1)∧fget fr 17=some (K64 r1)∧fget fr 18=some (K64 ((r1*4294967296+w % 4294967296) / (y1*4294967296+y0')))) ?_ ?_
  ·refine loop (fun m fr h3=>h3=h2 ∧ ∃q r:Nat,q=m∧DivJ y1 y0' r1 (w % 4294967296) q r∧r<4294967296∧fget fr 2=some (K64 Y)∧fget fr 8=some (.int .u64 (s:Int))∧fget fr 9=some (K64 y1)∧fget fr 10=some (K64 y0')∧fget fr 14=some (K64 (w % 4294967296))∧fget fr 15=some (K64 q1)∧fget fr 17=some (K64 r1)∧fget fr 18=some (K64 q)∧fget fr 16=some (K64 r)) (r1 / y1)
    ⟨rfl,_,_,rfl,divJ_start g1 g0 (eYY▸hr1) hw0,by omega,by simp[f2],by simp[f8],by simp[f9],by simp[f10],by simp[f14],by simp[f15],by simp,by simp,by simp⟩ ?_
   clear f2 f8 f9 f10 f11 f13 f14 f15
   rintro m fr h3 ⟨rfl,q,r,rfl,hJ,hr,f2,f8,f9,f10,f14,f15,f17,fq,fr16⟩
   have hqq:=hJ.2.2
   have hUY:r1<y1*4294967296+y0':=eYY▸hr1
   have stepJ:(4294967296≤q∨4294967296*r+w % 4294967296<q*y0')→0<q∧DivJ y1 y0' r1 (w % 4294967296) (q - 1) (r+y1):=fun hc=>divJ_step g1 g0 hUY hw0 hJ hc
   by_cases hqB:4294967296≤q
   ·obtain⟨hq0,hJ2⟩:=stepJ (.inl hqB)
    have eq1:(q:Int) - 1=((q - 1:Nat):Int):=by omega
    have er1:(r:Int)+(y1:Int)=((r+y1:Nat):Int):=by omega
    simp -dsimp (maxSteps:=1000000) (disch:=try exact dx) only[wpS,wpT,reduceEqDiff,f9,fq,fr16,eq1,er1]
    refine bq_intro ?_ ?_<;>intro hc<;>simp only[decide_eq_true_eq,decide_eq_false_iff_not] at hc
    ·simp -dsimp (maxSteps:=1000000) (disch:=try exact dx) only[wpS,wpT]
     refine⟨rfl,by simp[f2],by simp[f8],by simp[f14],by simp[f15],by simp[f17],?_⟩
     rw[divJ_break g1 g0 hJ2 (by omega) (by omega)];simp
    ·simp -dsimp (maxSteps:=1000000) (disch:=try exact dx) only[wpS,wpT]
     exact⟨q - 1,by omega,rfl,q - 1,r+y1,rfl,hJ2,by omega,by simp[f2],by simp[f8],by simp[f9],by simp[f10],by simp[f14],by simp[f15],by simp[f17],by simp,by simp⟩
   ·have hpm:q*y0'≤4294967295*4294967295:=Nat.mul_le_mul (by omega) (by omega)
    have ep:(q:Int)*(y0':Int)=((q*y0':Nat):Int):=by simp
    generalize hpp:q*y0'=p at *
    simp -dsimp (maxSteps:=1000000) (disch:=try exact dx) only[wpS,wpT,reduceEqDiff,f10,f14,fq,fr16,ep]
    refine bq_intro ?_ ?_<;>intro hc<;>simp only[decide_eq_true_eq,decide_eq_false_iff_not] at hc
    ·obtain⟨hq0,hJ2⟩:=stepJ (.inr (by omega))
     have eq1:(q:Int) - 1=((q - 1:Nat):Int):=by omega
     have er1:(r:Int)+(y1:Int)=((r+y1:Nat):Int):=by omega
     simp -dsimp (maxSteps:=1000000) (disch:=try exact dx) only[wpS,wpT,reduceEqDiff,f9,fq,fr16,eq1,er1]
     refine bq_intro ?_ ?_<;>intro hc5<;>simp only[decide_eq_true_eq,decide_eq_false_iff_not] at hc5
     ·simp -dsimp (maxSteps:=1000000) (disch:=try exact dx) only[wpS,wpT]
      refine⟨rfl,by simp[f2],by simp[f8],by simp[f14],by simp[f15],by simp[f17],?_⟩
      rw[divJ_break g1 g0 hJ2 (by omega) (by omega)];simp
     ·simp -dsimp (maxSteps:=1000000) (disch:=try exact dx) only[wpS,wpT]
      exact⟨q - 1,by omega,rfl,q - 1,r+y1,rfl,hJ2,by omega,by simp[f2],by simp[f8],by simp[f9],by simp[f10],by simp[f14],by simp[f15],by simp[f17],by simp,by simp⟩
    ·simp -dsimp (maxSteps:=1000000) (disch:=try exact dx) only[wpS,wpT]
     refine⟨rfl,by simp[f2],by simp[f8],by simp[f14],by simp[f15],by simp[f17],?_⟩
     rw[divJ_done g1 g0 hJ (by rw[hpp];omega)];simp[fq]
  clear f2 f8 f9 f10 f11 f13 f14 f15
  rintro fr h3 ⟨rfl,f2,f8,f14,f15,f17,f18⟩
  rw[←eYY] at f18
  have nn0:((r1*4294967296+w % 4294967296) / Y)*Y+(r1*4294967296+w % 4294967296) % Y=r1*4294967296+w % 4294967296:=by rw[Nat.mul_comm];exact Nat.div_add_mod _ _
  have hr0:(r1*4294967296+w % 4294967296) % Y<Y:=Nat.mod_lt _ (by omega)
  have hq0:(r1*4294967296+w % 4294967296) / Y<4294967296:=by rw[Nat.div_lt_iff_lt_mul (by omega)];omega
  obtain⟨q0,hQ0⟩ : ∃q,q=(r1*4294967296+w % 4294967296) / Y:=⟨_,rfl⟩
  obtain⟨r0,hR0⟩ : ∃q,q=(r1*4294967296+w % 4294967296) % Y:=⟨_,rfl⟩
  rw[←hQ0] at nn0 hq0 f18
  rw[←hR0] at nn0 hr0
  clear hQ0 hR0
  have fin:=div_halves (q1:=q1) (r1:=r1) (q0:=q0) (r0:=r0) hY (by omega) hN (by omega) nn0.symm hr0
  obtain⟨A2,hA2⟩ : ∃A,A=r1*4294967296 % 18446744073709551616:=⟨_,rfl⟩
  have eA2:IntKind.u64.wrap ((r1:Int)*4294967296)=(A2:Int):=by rw[wrapU];omega
  obtain⟨B2,hB2⟩ : ∃B1,B1=A2+w % 4294967296:=⟨_,rfl⟩
  have eB2:(A2:Int)+((w % 4294967296:Nat):Int)=(B2:Int):=by omega
  have eD0:(q0:Int)*(Y:Int)=((q0*Y:Nat):Int):=by simp
  obtain⟨p0,hp0⟩ : ∃p1,p1=q0*Y:=⟨_,rfl⟩
  rw[←hp0] at nn0 eD0
  obtain⟨C2,hC2⟩ : ∃C1,C1=p0 % 18446744073709551616:=⟨_,rfl⟩
  have eD:IntKind.u64.wrap ((p0:Nat):Int)=(C2:Int):=by rw[wrapU];omega
  have eR0:IntKind.u64.wrap ((B2:Int) - (C2:Int))=(r0:Int):=by rw[wrapU];omega
  have eS:nshr r0 s=r0 / 2 ^ s:=Nat.shiftRight_eq_div_pow _ _
  have eQ1:(q1:Int)*4294967296=((q1*4294967296:Nat):Int):=by omega
  have eQ2:((q1*4294967296:Nat):Int)+(q0:Int)=((q1*4294967296+q0:Nat):Int):=by omega
  simp -dsimp (maxSteps:=1000000) (disch:=try exact dx) only[wpS,wpT,reduceEqDiff,f2,f8,f14,f15,f17,f18,eA2,eB2,eD0,eD,eR0,eS,eQ1,eQ2]
  rw[fin.1,←fin.2]
end Go.Id

/-
  Contracts: the reference's long integers, eighth part: what the chapter names. Digits to the base 2^32: one digit set; bounds.
-/
import Derived.Test.YtnanhedgenokpaaGreatTemperDetailedAt
import Derived.Test.YtnanhedgenokpaaGreatTemperDetailedAv
import Derived.Test.YtnanhedgenokpaaGreatTemperDetailedAu
set_option linter.unusedVariables false
set_option linter.unusedSimpArgs false
set_option linter.defProp false
set_option linter.deprecated false
namespace Go.Id
open Go
open Nat (reduceMul)
open Nat renaming reduceAdd→zA,reduceEqDiff→zE,reduceLeDiff→zL
theorem wrapU (n:Int):IntKind.u64.wrap n=n % 18446744073709551616:=by simp[IntKind.wrap,IntKind.bits,IntKind.signed]
theorem wdV_form (n:Nat):(wdV n).cells.toList=wdC n:=rfl
abbrev In64 (n:Int):Prop:=-9223372036854775808≤n∧n<9223372036854775808
theorem pow_up (b:Nat) (hb:0<b) (m k:Nat) (h:m≤k):b ^ m≤b ^ k:=Nat.pow_le_pow_right hb h
theorem small64 {n:Int} (h:n.natAbs≤18446744073709551616):SmallI n:=by
 have h1:=pow_up 4294967296 (by decide) 3 1000000 (by decide)
 have h2:(4294967296:Nat) ^ 3=79228162514264337593543950336:=by decide
 unfold SmallI Small
 refine Nat.lt_of_lt_of_le ?_ h1
 omega
theorem smallW {z:Int} (h:InW z):SmallI z:=by
 have h1:=pow_up 4294967296 (by decide) 16 1000000 (by decide)
 rw[←W8_dig] at h1
 have h2:=W8_two
 have h3:=H8_big
 unfold InW at h
 unfold SmallI Small
 refine Nat.lt_of_lt_of_le ?_ h1
 omega
set_option maxRecDepth 100000 in
theorem long1_ok {h:IH} (n:Int) (hn:In64 n):WV Proofs.Tryz.prog (.func (.func 137) #[] #[]) [KI n] h fun r h'=>Ext h h'∧LongIs h' r n:=by
 have hB : ∃u:Nat,u=n.natAbs:=⟨_,rfl⟩
 obtain⟨u,hu⟩:=hB
 refine enter (nt:=21) (rs:=[.cell 2 194]) Proofs.Tryz.func137 rfl rfl rfl (by simp) ?_
 simp -dsimp (disch:=try exact dx) only[wpR]
 rw[d_seq]
 simp -dsimp (disch:=try exact dx) only[wpR,zc194]
 rw[d_seq]
 simp -dsimp (disch:=try exact dx) only[wpR,zE]
 rw[d_seq]
 simp -dsimp (disch:=try exact dx) only[wpR,zE,cv3_28]
 rw[d_seq]
 refine cut (fun fr2 h2=>h2=h.new (.cells [.bool false,.slice none 0 0] 0 none)∧fget fr2 2=some (ptr (2*h.n) 0)∧fget fr2 3=some (.bool (decide (n<0)))∧fget fr2 4=some (K64 u)) ?_ ?_
 ·by_cases hz:n<0
  ·have e1:IntKind.u64.wrap n=n+18446744073709551616:=by rw[wrapU];omega
   have e2:IntKind.u64.wrap (-(n+18446744073709551616))=(u:Int):=by rw[wrapU];omega
   simp -dsimp (disch:=try exact dx) only[wpS,zE,dec_lt_t hz,e1,e2]
   exact⟨rfl,by simp,by simp[hz],by simp⟩
  ·have e1:n=(u:Int):=by omega
   simp -dsimp (disch:=try exact dx) only[wpS,zE,dec_lt_f hz]
   exact⟨rfl,by simp,by simp;omega,by simp;exact e1⟩
 ·rintro fr2 h2 ⟨rfl,f2,f3,f4⟩
  have e1:((u:Int) % 4294967296)=((u % 4294967296:Nat):Int):=by omega
  have e2:((u:Int) / 4294967296)=((u / 4294967296:Nat):Int):=by omega
  simp -dsimp (disch:=try exact dx) only[wpS,wpT,zE,zL,zA,reduceMul,cv28_3,bs25,f3,f4,e1,e2]
  have hD:DigU ((h.new (.cells [.bool false,.slice none 0 0] 0 none)).new (.cells (List.map KN [u % 4294967296,u / 4294967296]) 1 none)) (.slice (some ⟨2*(h.n+1),0,none⟩) 2 5) [u % 4294967296,u / 4294967296] :=
   ⟨sl_block (f:=none) (get_new_same _ _ rfl) (by simp) (by omega) rfl (by omega) (by simp),by intro d hd;simp at hd;omega,by simp⟩
  refine call (made_ok hD _) ?_
  rintro r h1 ⟨hE,hr⟩
  have hz:(if decide (n<0)=true then -(valD [u % 4294967296,u / 4294967296]:Int) else valD [u % 4294967296,u / 4294967296])=n:=by
   have:valD [u % 4294967296,u / 4294967296]=u:=by simp[valD,valT];omega
   rw[this]
   by_cases h0:n<0<;>simp[h0]<;>omega
  rw[hz] at hr
  obtain⟨s1,n3,rfl,c3,o3,l3,z3⟩:=hr.form
  have hg:h1.ext.get h.n=some (.cells [.bool false,.slice none 0 0] 0 none):=by
   rw[hE.get _ (by simp<;>omega)];simp -dsimp (disch:=try exact dx) only[wpS]
  simp -dsimp (disch:=try exact dx) only[wpS,wpT,zE,zL,zA,st194,ld194,f2,hg,o3]
  refine⟨((((Ext.refl h).new _).new _).trans hE).put (by omega) _,?_⟩
  exact hr.keep ((Keep.refl _).put hg _)
theorem refOf_ok {h:IH} (n:Int) (hn:In64 n):WV Proofs.Tryz.prog (.func (.func 56) #[] #[]) [KI n] h fun r h'=>Ext h h'∧r=wideV n:=by
 refine enter (nt:=12) (rs:=[.cell 2 30]) Proofs.Tryz.func56 rfl rfl rfl (by simp) ?_
 simp -dsimp (disch:=try exact dx) only[wpS,zE,zc30]
 refine call (long1_ok n hn) ?_
 rintro r h1 ⟨hE,hr⟩
 simp -dsimp (disch:=try exact dx) only[wpS,zE]
 refine call (out_ok hr) ?_
 rintro r2 h2 ⟨hE2,rfl⟩
 have hW:InW n:=by have:=H8_big;unfold InW;omega
 rw[if_pos hW]
 have hg:h2.ext.get h.n=some (.cells [ZW,ZW,ZW,ZW,ZW,ZW,ZW,ZW] 0 none):=by
  rw[hE2.get _ (by have:=hE.n;simp at this;omega),hE.get _ (by simp)];exact get_new_same _ _ rfl
 have hspl:IH.splice [ZW,ZW,ZW,ZW,ZW,ZW,ZW,ZW] 0 (wdC (wideN n))=wdC (wideN n):=splice_all (by rw[wdC_len];rfl)
 have hlt:h.n<h2.n:=by have a1:=hE.n;have a2:=hE2.n;simp only[new_n] at a1;omega
 simp -dsimp (disch:=try exact dx) only[wpS,wpT,zE,zL,zA,zc30,st30,ld30,wdV_form,wdC_len,wdC_all,wd_take,hspl,hg]
 exact⟨((((Ext.refl h).new _).trans hE).trans hE2 |>.new _).put (by omega) _ |>.put (by omega) _,rfl⟩
end Go.Id

namespace Go.Id
theorem getD_set {ds:List Nat} {k w:Nat} (hk:k<ds.length) (j:Nat):(ds.set k w).getD j 0=if j=k then w else ds.getD j 0:=by
 simp only[List.getD_eq_getElem?_getD,List.getElem?_set]
 by_cases h:k=j
 ·subst h;simp[hk]
 ·rw[if_neg h,if_neg (fun x=>h x.symm)]
theorem valT_set {ds:List Nat} {k w:Nat} (hk:k<ds.length) : ∀n,valT (ds.set k w) n+(if k<n then ds.getD k 0*4294967296 ^ k else 0)=valT ds n+(if k<n then w*4294967296 ^ k else 0)
 | 0=>by simp[valT]
 | n+1=>by
  have ih:=valT_set (w:=w) hk n
  rw[valT,valT,getD_set hk]
  by_cases h1:k<n
  ·rw[if_pos h1,if_pos h1] at ih
   rw[if_pos (show k<n+1 by omega),if_pos (show k<n+1 by omega),if_neg (show ¬n=k by omega)]
   omega
  ·rw[if_neg h1,if_neg h1] at ih
   by_cases h2:n=k
   ·subst h2
    rw[if_pos (Nat.lt_succ_self n),if_pos (Nat.lt_succ_self n),if_pos rfl]
    omega
   ·rw[if_neg (show ¬k<n+1 by omega),if_neg (show ¬k<n+1 by omega),if_neg h2]
    omega
theorem valD_set {ds:List Nat} {k:Nat} (w:Nat) (hk:k<ds.length):valD (ds.set k w)+ds.getD k 0*4294967296 ^ k=valD ds+w*4294967296 ^ k:=by
 have h:=valT_set (w:=w) hk ds.length
 rw[if_pos hk,if_pos hk] at h
 rw[valD,valD,List.length_set];exact h
theorem valT_repl (m:Nat) : ∀n,valT (List.replicate m 0) n=0
 | 0=>rfl
 | n+1=>by
  rw[valT,valT_repl m n]
  have:(List.replicate m 0).getD n 0=0:=by
   rw[List.getD_eq_getElem?_getD,List.getElem?_replicate];split<;>rfl
  rw[this];simp
theorem valD_repl (m:Nat):valD (List.replicate m 0)=0:=valT_repl m _
theorem getD_repl (m j:Nat):(List.replicate m 0).getD j 0=0:=by
 rw[List.getD_eq_getElem?_getD,List.getElem?_replicate];split<;>rfl
theorem Digs.set {ds:List Nat} (h:Digs ds) (k:Nat) {w:Nat} (hw:w<4294967296):Digs (ds.set k w):=by
 intro d hd
 rcases List.mem_or_eq_of_mem_set hd with h1|h1
 ·exact h d h1
 ·omega
theorem Digs.repl (m:Nat):Digs (List.replicate m 0):=by
 intro d hd
 rw[List.mem_replicate] at hd
 omega
theorem Norm.lenlt {ds:List Nat} (h:Norm ds) {m:Nat} (hs:valD ds<4294967296 ^ m):ds.length≤m:=by
 apply Classical.byContradiction;intro hn
 have hne:ds ≠ []:=by intro h0;subst h0;simp at hn
 have h1:=h.ge hne
 have h2:4294967296 ^ m≤4294967296 ^ (ds.length - 1):=Nat.pow_le_pow_right (by omega) (by omega)
 omega
end Go.Id

namespace Go.Id
theorem valT_eq {ds:List Nat} (h:Digs ds) : ∀{n k:Nat},n≤k→valT ds k % 4294967296 ^ n=valT ds n
 | n,0,hk=>by
  obtain rfl:n=0:=by omega
  simp[valT]
 | n,k+1,hk=>by
  by_cases hn:n=k+1
  ·subst hn;exact Nat.mod_eq_of_lt (valT_lt h _)
  ·have ih:=valT_eq h (show n≤k by omega)
   rw[valT]
   have hd:4294967296 ^ n∣ds.getD k 0*4294967296 ^ k:=Nat.dvd_trans (Nat.pow_dvd_pow _ (by omega)) (Nat.dvd_mul_left _ _)
   obtain⟨c,hc⟩:=hd
   rw[hc,Nat.add_mul_mod_self_left,ih]
theorem digit_eq {ds:List Nat} (h:Digs ds) (j:Nat):ds.getD j 0=valD ds / 4294967296 ^ j % 4294967296:=by
 have hp:=pow_pos' j
 by_cases hj:j<ds.length
 ·have e1:valT ds (j+1)=valD ds % 4294967296 ^ (j+1):=(valT_eq h (show j+1≤ds.length by omega)).symm
  have e2:valT ds (j+1) / 4294967296 ^ j=ds.getD j 0:=by
   rw[valT,Nat.add_mul_div_right _ _ hp,Nat.div_eq_of_lt (valT_lt h j),Nat.zero_add]
  rw[←e2,e1,Nat.pow_succ,Nat.mod_mul_right_div_self]
 ·rw[getD_of_ge (by omega)]
  have h1:=valD_lt h
  have h2:4294967296 ^ ds.length≤4294967296 ^ j:=Nat.pow_le_pow_right (by omega) (by omega)
  rw[Nat.div_eq_of_lt (by omega)]
theorem pow32 (j:Nat):4294967296 ^ j=2 ^ (32*j):=by rw[Nat.pow_mul]
theorem bit_at {ds:List Nat} (h:Digs ds) {i k:Nat} (hk:k<32):ds.getD i 0 / 2 ^ k % 2=valD ds / 2 ^ (32*i+k) % 2:=by
 rw[digit_eq h,pow32,Nat.pow_add,←Nat.div_div_eq_div_mul]
 generalize valD ds / 2 ^ (32*i)=x
 have e2:4294967296=2 ^ k*2 ^ (32 - k):=by rw[←Nat.pow_add,show k+(32 - k)=32 by omega]
 rw[e2,Nat.mod_mul_right_div_self]
 have:2∣2 ^ (32 - k):=⟨2 ^ (31 - k),by rw[←Nat.pow_succ'];congr 1;omega⟩
 exact Nat.mod_mod_of_dvd _ this
theorem bit_fits {ds:List Nat} (h:Digs ds) {i k:Nat} (hk:k<32) (hd:2 ^ (32*i+k+1)∣valD ds):ds.getD i 0+2 ^ k<4294967296:=by
 have hd:2 ^ (k+1)∣ds.getD i 0:=by
  rw[digit_eq h,pow32]
  obtain⟨c,hc⟩:=hd
  have e:2 ^ (32*i+k+1)=2 ^ (32*i)*2 ^ (k+1):=by rw[←Nat.pow_add];congr 1
  rw[hc,e,Nat.mul_assoc,Nat.mul_div_cancel_left _ (Nat.pow_pos (by omega))]
  have e2:4294967296=2 ^ (k+1)*2 ^ (31 - k):=by rw[←Nat.pow_add,show k+1+(31 - k)=32 by omega]
  rw[show(4294967296:Nat)=2 ^ (k+1)*2 ^ (31 - k) from e2]
  exact(Nat.dvd_mod_iff (Nat.dvd_mul_right _ _)).2 (Nat.dvd_mul_right _ _)
 have hlt:2 ^ k<2 ^ (k+1):=Nat.pow_lt_pow_right (by omega) (by omega)
 have hw:=getD_lt h i
 obtain⟨c,hc⟩:=hd
 rw[hc] at hw ⊢
 have e2:4294967296=2 ^ (k+1)*2 ^ (31 - k):=by rw[←Nat.pow_add,show k+1+(31 - k)=32 by omega]
 rw[e2] at hw ⊢
 have hc2:c<2 ^ (31 - k):=Nat.lt_of_mul_lt_mul_left hw
 have:2 ^ (k+1)*(c+1)≤2 ^ (k+1)*2 ^ (31 - k):=Nat.mul_le_mul_left _ hc2
 rw[Nat.mul_add,Nat.mul_one] at this
 omega
def DivR (a b K V r:Nat):Prop:=a=b*V+r*2 ^ K+a % 2 ^ K∧2 ^ K∣V∧r<b
theorem mod_bit (a K:Nat):a % 2 ^ (K+1)=a / 2 ^ K % 2*2 ^ K+a % 2 ^ K:=by
 rw[Nat.pow_succ,Nat.mod_mul,Nat.add_comm,Nat.mul_comm]
theorem divR_one {a b K V r:Nat} (h:DivR a b (K+1) V r) (hc:b≤2*r+a / 2 ^ K % 2):DivR a b K (V+2 ^ K) (2*r+a / 2 ^ K % 2 - b):=by
 obtain⟨h1,h2,h3⟩:=h
 rw[mod_bit] at h1
 have hb:=Nat.mod_lt (a / 2 ^ K) (show 0<2 by omega)
 generalize a / 2 ^ K % 2=d at *
 obtain⟨e,he⟩ : ∃e,2*r+d=b+e:=⟨2*r+d - b,by omega⟩
 refine⟨?_,?_,by omega⟩
 ·rw[he,Nat.add_sub_cancel_left]
  rw[h1.trans (show _=(b*V+(2*r+d)*2 ^ K)+a % 2 ^ K by rw[Nat.pow_succ];grind)]
  rw[he]
  have e3:(b*V+(b+e)*2 ^ K+a % 2 ^ K) % 2 ^ K=a % 2 ^ K:=by
   obtain⟨c,hc⟩:=Nat.dvd_trans (Nat.pow_dvd_pow 2 (Nat.le_succ K)) h2
   rw[hc]
   have:b*(2 ^ K*c)+(b+e)*2 ^ K+a % 2 ^ K=a % 2 ^ K+2 ^ K*(b*c+(b+e)):=by grind
   rw[this,Nat.add_mul_mod_self_left,Nat.mod_mod]
  rw[e3];grind
 ·exact(Nat.dvd_add_right (Nat.dvd_trans (Nat.pow_dvd_pow _ (by omega)) h2)).2 (Nat.dvd_refl _)
theorem divR_zero {a b K V r:Nat} (h:DivR a b (K+1) V r) (hc:2*r+a / 2 ^ K % 2<b):DivR a b K V (2*r+a / 2 ^ K % 2):=by
 obtain⟨h1,h2,h3⟩:=h
 rw[mod_bit] at h1
 refine⟨?_,Nat.dvd_trans (Nat.pow_dvd_pow _ (by omega)) h2,hc⟩
 rw[Nat.pow_succ] at h1
 generalize a / 2 ^ K % 2=d at *
 have e:(2*r+d)*2 ^ K=r*(2 ^ K*2)+d*2 ^ K:=by grind
 omega
theorem divR_start {a b K:Nat} (h:a / 2 ^ K<b):DivR a b K 0 (a / 2 ^ K):=by
 refine⟨?_,Nat.dvd_zero _,h⟩
 have:=Nat.div_add_mod a (2 ^ K)
 rw[Nat.mul_comm (a / 2 ^ K)];omega
theorem divR_end {a b V r:Nat} (h:DivR a b 0 V r):V=a / b∧r=a % b:=by
 obtain⟨h1,_,h3⟩:=h
 simp only[Nat.pow_zero,Nat.mul_one,Nat.mod_one,Nat.add_zero] at h1
 have e1:=Nat.mul_add_mod b V r
 have e2:=Nat.mul_add_div (show 0<b by omega) V r
 rw[←h1,Nat.mod_eq_of_lt h3] at e1
 rw[←h1,Nat.div_eq_of_lt h3,Nat.add_zero] at e2
 exact⟨e2.symm,e1.symm⟩
theorem valD_drop {ds:List Nat} (h:Digs ds) (m:Nat):valD (ds.drop m)=valD ds / 4294967296 ^ m:=by
 induction m generalizing ds with
 | zero=>simp
 | succ m ih =>
  cases ds with
  | nil=>simp[valD,valT]
  | cons d ds =>
   have hd:Digs ds:=fun x hx=>h x (by simp[hx])
   have hd0:d<4294967296:=h d (by simp)
   rw[List.drop_succ_cons,ih hd,valD_cons,Nat.pow_succ,Nat.mul_comm (4294967296 ^ m),←Nat.div_div_eq_div_mul]
   congr 1;omega
theorem Norm.drop {ds:List Nat} (h:Norm ds) (m:Nat):Norm (ds.drop m):=by
 by_cases hm:ds.length≤m
 ·left;exact List.drop_eq_nil_of_le hm
 ·rcases h with rfl|h
  ·left;simp
  ·right
   rw[List.length_drop]
   have:(ds.drop m).getD (ds.length - m - 1) 0=ds.getD (ds.length - 1) 0:=by
    simp only[List.getD_eq_getElem?_getD,List.getElem?_drop]
    rw[show m+(ds.length - m - 1)=ds.length - 1 by omega]
   rw[this];exact h
theorem Digs.drop {ds:List Nat} (h:Digs ds) (m:Nat):Digs (ds.drop m):=fun d hd=>h d (List.mem_of_mem_drop hd)
end Go.Id

namespace Go.Id
open Go
open Go.Proofs.Tryz (prog)
open Nat (reduceMul)
open Nat renaming reduceAdd→zA,reduceEqDiff→zE,reduceLeDiff→zL
set_option maxHeartbeats 16000000
theorem spl_kn {os:List Nat} {k:Nat} (x:Nat) (hk:k<os.length):IH.splice (os.map KN) k [KN x]=(os.set k x).map KN:=by
 rw[splice_set (by simpa using hk),List.map_set]
theorem kn_all (l:List Nat):(l.map KN).all cellOK=true:=by simp[cellOK]
theorem repl_kn (n:Nat):repl n [KI 0]=(List.replicate n 0).map KN:=by rw[repl_one,List.map_replicate];rfl
theorem row_kn {h:IH} {b:Nat} {cs:List Value} {e:Nat} {f:Option Nat} (hg:h.ext.get b=some (.cells cs e f)):h.row (2*b)=some cs:=by rw[row_even];simp only[IH.cells,hg]
theorem twice_ok {h:IH} {v:Value} {a:List Nat} {d:Nat} (ha:DigU h v a) (la:a.length≤1000001) (hd:d≤1) :
  WV prog (.func (.func 267) #[] #[]) [v,KI d] h fun r h'=>Ext h h'∧Dig h' r (2*valD a+d):=by
 refine enter (nt:=33) (rs:=[.tmp 4]) Proofs.Tryz.func267 rfl rfl rfl (by simp) ?_
 simp -dsimp (disch:=try exact dx) only[wpS,zA]
 refine loop (fun m fr h1 => ∃(i c:Nat) (os:List Nat) (out:Value),i+m=a.length∧fget fr 0=some v∧fget fr 1=some (KN c)∧fget fr 5=some out∧fget fr 6=some (KN i)∧c≤1∧os.length=i∧Digs os∧valD os+c*4294967296 ^ i=2*valT a i+d∧Acc h1 h.n 1 out i (os.map KN)∧Ext h h1) a.length
  ⟨0,d,[],.slice none 0 0,by simp,by simp,by simp,by simp,by simp,hd,rfl,fun d hd=>(by cases hd),by simp[valT,valD],Acc.nil _ _ (by omega),Ext.refl _⟩ ?_
 rintro m fr h1 ⟨i,c,os,out,him,f0,f1,f5,f6,hcc,hos,hdd,hv,hA,hE⟩
 simp -dsimp (disch:=try exact dx) only[wpS,zE,f0,f6,ha.1.len sl25]
 refine bq_intro ?_ ?_<;>intro hc<;>simp only[decide_eq_true_eq,decide_eq_false_iff_not] at hc
 ·have hi:i<a.length:=by omega
  have da:=getD_lt ha.2.1 i
  have gx:=get_some hi
  generalize hx:a.getD i 0=x at *
  obtain⟨s,hs⟩ : ∃s,s=2*x+c:=⟨_,rfl⟩
  have eS:2*(x:Int)+(c:Int)=(s:Int):=by omega
  have eR:(s:Int) % 4294967296=((s % 4294967296:Nat):Int):=by omega
  have eQ:(s:Int) / 4294967296=((s / 4294967296:Nat):Int):=by omega
  obtain⟨out',h',hap,hA',hG,hE'⟩:=hA.app1 (P:=prog) (t:=25) ap25 (x:=KN (s % 4294967296)) rfl (by omega) hE.n hE (Nat.le_refl _)
  simp -dsimp (disch:=try exact dx) only[wpS,wpT,zE,zL,zA,bs25,ba25_25,f0,f1,f5,f6,ha.1.idx es25 hi,ha.1.ld hE.keep (P:=prog) (t:=3) (c:=i) (by simpa using hi) ag3,map_get,gx,eS,eR,eQ,hap]
  refine⟨m - 1,by omega,i+1,s / 4294967296,os ++ [s % 4294967296],out',by omega,by simp[f0],by simp,by simp,by simp,by omega,by simp[hos],hdd.append (by omega),?_,by rw[←map_snoc];exact hA',hE'⟩
  rw[valD_append,valT,hx,hos,Nat.pow_succ]
  have hsd:s % 4294967296+s / 4294967296*4294967296=2*x+c:=by omega
  have e3:s % 4294967296*4294967296 ^ i+s / 4294967296*(4294967296 ^ i*4294967296)=(2*x+c)*4294967296 ^ i:=by rw[←hsd];grind
  have e4:(2*x+c)*4294967296 ^ i=2*(x*4294967296 ^ i)+c*4294967296 ^ i:=by grind
  omega
 ·obtain rfl:i=a.length:=by omega
  obtain⟨out',h',hap,hA',hG,hE'⟩:=hA.app1 (P:=prog) (t:=25) ap25 (x:=KN c) rfl (by omega) hE.n hE (Nat.le_refl _)
  simp -dsimp (disch:=try exact dx) only[wpS,wpT,zE,zL,zA,bs25,ba25_25,f1,f5,hap]
  have hD:DigU h' out' (os ++ [c]):=by
   refine⟨?_,hdd.append (by omega),by simp;omega⟩
   have:=hA'.sl
   rw[map_snoc] at this
   rw[show(os ++ [c]).length=a.length+1 by simp[hos]]
   exact this
  refine call (cut_ok hD) ?_
  rintro r h2 ⟨rfl,hr⟩
  simp -dsimp (disch:=try exact dx) only[wpS,zE]
  refine⟨hE',?_⟩
  rw[valD_append,hos,hv] at hr
  exact hr
theorem dig_none {h:IH}:Dig h (.slice none 0 0) 0:=⟨[],⟨SlOf.nil _ (by decide),fun d hd=>(by cases hd),by simp⟩,.inl rfl,rfl⟩
theorem DigU.dig {h:IH} {v:Value} {ds:List Nat} (d:DigU h v ds) (n:Norm ds):Dig h v (valD ds):=⟨ds,d,n,rfl⟩
theorem append_lit {P:Program} {t:TypeId} {sz bytes:Nat} (hT:appT P t=some (sz,bytes)) {h:IH} {x:Value} {m:Nat} {new:List Value} (sx:SlOf h sz x m new) (hc:new.all cellOK=true) (hsz:m*(bytes+1)≤1099511627776) {k:Nat} (hk:h.ext.get k=some (.cells [] sz none)) (hkn:k<h.n) :
  ∃v h',append P h t (.slice (some ⟨2*k,0,none⟩) 0 1) x=some (v,h')∧Ext h h'∧SlOf h' sz v m new:=by
 rcases Nat.eq_zero_or_pos m with rfl|hm
 ·have hnew:new = []:=List.length_eq_zero_iff.1 (by rw[sx.2.1,Nat.zero_mul])
  refine⟨.slice (some ⟨2*k,0,none⟩) 0 1,h,?_,Ext.refl _,sx.1,sx.2.1,.inr ⟨2*k,0,1,rfl,.inr ⟨by omega,by omega,[],.inr ⟨by omega,by omega,none,?_⟩,?_,?_,by simp⟩⟩⟩
  case refine_2=>rw[show 2*k / 2=k by omega];exact hk
  case refine_3=>exact row_kn hk
  case refine_4=>rw[hnew];simp
  unfold appT at hT
  split at hT
  case h_2=>cases hT
  rename_i e hu
  split at hT
  case h_2=>cases hT
  rename_i zs h1 h2 h3
  obtain⟨a,k,rfl⟩:=sx.form
  simp only[Id.append,hu,h1,h2,h3,lenOf,beq_self_eq_true,cond_true]
 ·exact⟨_,_,append_zero hT h sx.now hm hc hsz (2*k) 0,(Ext.refl h).new _,(acc_new sx.1 sx.2.1 hm).sl⟩
theorem parts_ok {h:IH} {v w:Value} {a b:List Nat} (ha:DigU h v a) (hb:DigU h w b) (na:Norm a) (nb:Norm b) (hb0:valD b≠0) (la:a.length≤1000000) (lb:b.length≤1000000) :
  WV prog (.func (.func 233) #[] #[]) [v,w] h fun r h'=>Ext h h' ∧ ∃q t,r=.tuple #[q,t]∧Dig h' q (valD a / valD b)∧Dig h' t (valD a % valD b):=by
 have hbl:0<b.length:=by
  rcases Nat.eq_zero_or_pos b.length with h0|h0
  ·rw[List.length_eq_zero_iff] at h0;subst h0;exact absurd rfl hb0
  ·exact h0
 have e1:(b.length:Int) - 1=((b.length - 1:Nat):Int):=by omega
 refine enter (nt:=74) (rs:=[.tmp 4,.tmp 5]) Proofs.Tryz.func233 rfl rfl rfl (by simp) ?_
 simp -dsimp (disch:=try exact dx) only[wpS,zE,zA,ha.1.len sl25,hb.1.len sl25,e1]
 refine bq_intro ?_ ?_<;>intro hc<;>simp only[decide_eq_true_eq,decide_eq_false_iff_not] at hc
 ·have hlt:=lt_of_len ha.2.1 nb (show a.length<b.length by omega)
  have eN:Ext h (h.new (.cells [] 1 none)):=(Ext.refl h).new _
  obtain⟨r,h2,hap,hE2,hs2⟩:=append_lit (P:=prog) (t:=25) ap25 (ha.1.ext eN) (kn_all _) (by omega) (get_new_same h _ rfl) (by simp)
  simp -dsimp (disch:=try exact dx) only[wpS,wpT,zE,reduceMul,bs25,ba25_25,hap]
  exact⟨eN.trans hE2,_,_,rfl,by rw[Nat.div_eq_of_lt hlt];exact dig_none,by rw[Nat.mod_eq_of_lt hlt];exact(show DigU h2 r a from⟨hs2,ha.2⟩).dig na⟩
 ·have e2:(a.length:Int) - ((b.length - 1:Nat):Int)=((a.length - (b.length - 1):Nat):Int):=by omega
  have hq0:0<a.length - (b.length - 1):=by omega
  generalize hql:a.length - (b.length - 1)=ql at *
  have eN1:Ext h ((h.new (.cells (repl ql [KI 0]) 1 none)).new (.cells [] 1 none)):=((Ext.refl h).new _).new _
  obtain⟨r1,hr1,hs1⟩:=ha.1.slice eN1.keep (P:=prog) (t:=25) u25 sz3 (l:=ql) (m:=a.length) (by omega) (Nat.le_refl _) (lo:=some (KN ql)) (hi:=none) (natOf_nat (k:=.i64) (by omega)) (fun c hc=>rfl)
  have hsl:a.length - ql=b.length - 1:=by omega
  have hsc:((a.map KN).drop (ql*1)).take ((a.length - ql)*1)=(a.drop ql).map KN:=by
   rw[Nat.mul_one,Nat.mul_one,List.take_of_length_le (by simp),List.map_drop]
  rw[hsc] at hs1
  obtain⟨r2,h3,hap,hE3,hs3⟩:=append_lit (P:=prog) (t:=25) ap25 (hs1.ext eN1) (kn_all _) (by omega) (k:=h.n+1) (get_new_same _ _ (by simp)) (by simp)
  have e3:(a.length:Int) - (ql:Int)=((b.length - 1:Nat):Int):=by omega
  have e4:(ql:Int) - 1=((ql - 1:Nat):Int):=by omega
  simp -dsimp (disch:=try exact dx) only[wpS,wpT,zE,reduceMul,bs25,ms25,ln25,ba25_25,ha.1.len sl25,e2,e4,hr1,hap]
  have hbB:=valD_lt hb.2.1
  have hE30:Ext h h3:=eN1.trans hE3
  have n3:h.n+2≤h3.n:=hE3.n
  have hg3:h3.ext.get h.n=some (.cells ((List.replicate ql 0).map KN) 1 none):=by
   rw[hE3.get _ (by simp only[new_n];omega),get_new_old _ _ (by simp),get_new_same _ _ rfl,repl_kn]
  have hdrop:a.length - ql=(a.drop ql).length:=by simp
  have hlen2:(a.drop ql).length=b.length - 1:=by simp;omega
  have hD3:DigU h3 r2 (a.drop ql):=⟨by rw[←hdrop];exact hs3,ha.2.1.drop ql,by omega⟩
  have hV3:valD (a.drop ql)=valD a / 2 ^ (32*ql):=by rw[valD_drop ha.2.1,pow32]
  have hlt3:valD (a.drop ql)<valD b:=lt_of_len (ha.2.1.drop ql) nb (by omega)
  have st:DivR (valD a) (valD b) (32*ql) (valD (List.replicate ql 0)) (valD (a.drop ql)):=by
   rw[valD_repl,hV3];rw[hV3] at hlt3;exact divR_start hlt3
  refine loop (fun m fr h1 => ∃(qs:List Nat) (rv:Value) (r:Nat),m≤ql∧Ext h h1∧h.n<h1.n∧h1.ext.get h.n=some (.cells (qs.map KN) 1 none)∧qs.length=ql∧Digs qs∧Dig h1 rv r∧DivR (valD a) (valD b) (32*m) (valD qs) r ∧
    fget fr 0=some v∧fget fr 1=some w∧fget fr 7=some (.slice (some ⟨2*h.n,0,none⟩) ql (2*ql+1))∧fget fr 8=some rv∧fget fr 9=some (KI ((m:Int) - 1))) ql
   ⟨List.replicate ql 0,r2,valD (a.drop ql),Nat.le_refl _,hE30,by omega,hg3,by simp,Digs.repl _,hD3.dig (na.drop ql),st,by simp,by simp,by simp,by simp,by rw[fget_cons,if_pos rfl,e4]⟩ ?_
  clear st hD3 hg3 hE30 hs3 hE3 hap hs1 hr1 eN1 hV3 hlt3 n3
  rintro m fr h1 ⟨qs,rv,r,hm,hE,hn,hg,hql2,hqd,hR,hJ,f0,f1,f7,f8,f9⟩
  simp -dsimp (disch:=try exact dx) only[wpS,zE,f9]
  refine bq_intro ?_ ?_<;>intro hc2<;>simp only[decide_eq_true_eq,decide_eq_false_iff_not] at hc2
  ·obtain⟨i,rfl⟩ : ∃i,m=i+1:=⟨m - 1,by omega⟩
   have e6:(((i+1:Nat):Int) - 1)=(i:Int):=by omega
   rw[e6] at f9
   have hi:i<a.length:=by omega
   simp -dsimp (disch:=try exact dx) only[wpS,wpT]
   refine loop (fun k fr h2 => ∃(qs:List Nat) (rv:Value) (r:Nat),k≤32∧Ext h h2∧h.n<h2.n∧h2.ext.get h.n=some (.cells (qs.map KN) 1 none)∧qs.length=ql∧Digs qs∧Dig h2 rv r∧DivR (valD a) (valD b) (32*i+k) (valD qs) r ∧
    fget fr 0=some v∧fget fr 1=some w∧fget fr 7=some (.slice (some ⟨2*h.n,0,none⟩) ql (2*ql+1))∧fget fr 8=some rv∧fget fr 9=some (KN i)∧fget fr 10=some (KI ((k:Int) - 1))) 32
    ⟨qs,rv,r,Nat.le_refl _,hE,hn,hg,hql2,hqd,hR,hJ,by simp[f0],by simp[f1],by simp[f7],by simp[f8],by simp[f9],by simp⟩ ?_
   clear hE hn hg hql2 hqd hR hJ f0 f1 f7 f8 f9
   rintro k fr h2 ⟨qs,rv,r,hk,hE,hn,hg,hql2,hqd,hR,hJ,f0,f1,f7,f8,f9,f10⟩
   simp -dsimp (disch:=try exact dx) only[wpS,zE,f10]
   refine bq_intro ?_ ?_<;>intro hc3<;>simp only[decide_eq_true_eq,decide_eq_false_iff_not] at hc3
   ·obtain⟨k,rfl⟩ : ∃j,k=j+1:=⟨k - 1,by omega⟩
    have e7:(((k+1:Nat):Int) - 1)=(k:Int):=by omega
    rw[e7] at f10
    have da:=getD_lt ha.2.1 i
    have gx:=get_some hi
    have hbit:=bit_at ha.2.1 (i:=i) (show k<32 by omega)
    have hfit:=bit_fits hqd (i:=i) (show k<32 by omega) hJ.2.1
    generalize hx:a.getD i 0=x at *
    have eB:((nshr x k:Nat):Int) % 2=((x / 2 ^ k % 2:Nat):Int):=by rw[nshr,Nat.shiftRight_eq_div_pow];omega
    have hd1:x / 2 ^ k % 2≤1:=by omega
    have hns:=nshr_le x k
    generalize hdd:x / 2 ^ k % 2=d at *
    simp -dsimp (disch:=try exact dx) only[wpS,wpT,zE,f0,f8,f9,f10,ha.1.idx es25 hi,ha.1.ld hE.keep (P:=prog) (t:=3) (c:=i) (by simpa using hi) ag3,map_get,gx,eB]
    obtain⟨rs,hrD,hrN,hrv⟩:=hR
    have hrl:rs.length≤b.length:=hrN.len_le hb.2.1 (by rw[hrv];exact Nat.le_of_lt hJ.2.2)
    refine call (twice_ok hrD (by omega) hd1) ?_
    rintro r3 h3 ⟨hE3,rs2,hrD2,hrN2,hrv2⟩
    rw[hrv] at hrv2
    simp -dsimp (disch:=try exact dx) only[wpS,zE,f1,f8]
    refine call (order_ok hrD2 (hb.keep (hE.trans hE3).keep) hrN2 nb) ?_
    rintro _ h4 ⟨rfl,c,rfl,hc1,hc2,hc3,hc4⟩
    rw[hrv2] at hc1 hc2
    have hE4:=hE.trans hE3
    have hg4:=(hE3.get _ hn).trans hg
    have hn4:h.n<h4.n:=Nat.lt_of_lt_of_le hn hE3.n
    have e8:32*i+(k+1)=32*i+k+1:=rfl
    rw[e8] at hJ
    have ehc:valD a / 2 ^ (32*i+k) % 2=d:=hbit.symm
    simp -dsimp (disch:=try exact dx) only[wpS,zE]
    refine bq_intro (fun hb5=>?_) (fun hb5=>?_)
    ·simp only[decide_eq_true_eq] at hb5
     have hge:valD b≤2*r+d:=by omega
     have hi2:i<qs.length:=by omega
     have gq:=get_some hi2
     generalize hqx:qs.getD i 0=y at *
     have gqr:(qs.map KN)[i]?=some (KN y):=by rw[List.getElem?_map,gq];rfl
     simp -dsimp (disch:=try exact dx) only[wpS,wpT,zE,f1,f8]
     refine call (less_at hrD2 (hb.keep hE4.keep) nb (by rw[hrv2];exact hge)) ?_
     rintro r5 h5 ⟨⟨hE5,hr5⟩,hbk⟩
     rw[hrv2] at hr5
     have hg5:=(hE5.get _ hn4).trans hg4
     have hr:=row_kn hg5
     have hn5:h.n<h5.n:=Nat.lt_of_lt_of_le hn4 hE5.n
     have q0:0≤((2 ^ k:Nat):Int):=Int.natCast_nonneg _
     have eA:(y:Int)+((2 ^ k:Nat):Int)=((y+2 ^ k:Nat):Int):=by omega
     have spl:=spl_kn (y+2 ^ k) hi2
     simp -dsimp (disch:=try exact dx) only[wpS,wpT,zE,es25,ld3,st3,f7,f9,f10,hr,gqr,eA,hg5,spl,List.length_map,hql2]
     have hJ2:=divR_one hJ (by rw[ehc];exact hge)
     rw[ehc] at hJ2
     have hv:=valD_set (y+2 ^ k) hi2
     rw[hqx] at hv
     have e9:valD (qs.set i (y+2 ^ k))=valD qs+2 ^ (32*i+k):=by
      have:(y+2 ^ k)*4294967296 ^ i=y*4294967296 ^ i+2 ^ (32*i+k):=by rw[Nat.add_mul,pow32,←Nat.pow_add,Nat.add_comm k]
      omega
     obtain⟨ds5,hd5,hn5',hv5⟩:=hr5
     have hR5:Dig (h5.put h.n (.cells ((qs.set i (y+2 ^ k)).map KN) 1 none)) r5 (2*r+d - valD b):=⟨ds5,⟨hd5.1.putAt (hbk _ hn4) _,hd5.2⟩,hn5',hv5⟩
     exact⟨k,by omega,qs.set i (y+2 ^ k),r5,2*r+d - valD b,by omega,(hE4.trans hE5).put (Nat.le_refl _) _,hn5,get_put_same _ _ rfl,by rw[List.length_set,hql2],hqd.set _ hfit,hR5,by rw[e9];exact hJ2,by simp[f0],by simp[f1],by simp[f7],by simp,by simp[f9],by simp⟩
    ·simp only[decide_eq_false_iff_not] at hb5
     have hlt:2*r+d<valD b:=by omega
     have hJ2:=divR_zero hJ (by rw[ehc];exact hlt)
     rw[ehc] at hJ2
     simp -dsimp (disch:=try exact dx) only[wpS,wpT,zE,f10]
     exact⟨k,by omega,qs,r3,2*r+d,by omega,hE4,hn4,hg4,hql2,hqd,⟨rs2,hrD2,hrN2,hrv2⟩,hJ2,by simp[f0],by simp[f1],by simp[f7],by simp,by simp[f9],by simp⟩
   ·obtain rfl:k=0:=by omega
    simp -dsimp (disch:=try exact dx) only[wpS,wpT,zE,f9]
    exact⟨i,by omega,qs,rv,r,by omega,hE,hn,hg,hql2,hqd,hR,hJ,by simp[f0],by simp[f1],by simp[f7],by simp[f8],by simp⟩
  ·obtain rfl:m=0:=by omega
   obtain⟨e10,e11⟩:=divR_end hJ
   have hD:DigU h1 (.slice (some ⟨2*h.n,0,none⟩) ql (2*ql+1)) qs:=by
    refine⟨?_,hqd,by omega⟩
    rw[hql2]
    exact sl_block hg hn (by decide) (by rw[List.length_map,hql2];omega) (by omega) (by omega)
   simp -dsimp (disch:=try exact dx) only[wpS,wpT,zE,f7]
   refine call (cut_ok hD) ?_
   rintro r4 h2 ⟨rfl,hr4⟩
   simp -dsimp (disch:=try exact dx) only[wpS,zE,f8]
   exact⟨hE,_,_,rfl,by rw[←e10];exact hr4,by rw[←e11];exact hR⟩
end Go.Id

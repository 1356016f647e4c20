/-
  Contracts: the reference's long integers, third part: sums, differences, comparisons. Contracts: the reference's long integers, fourth part: differences, comparisons, integers.
-/
import Derived.Test.YtepckjjfhhncoaaGreatTemperKnownAv
set_option linter.unusedVariables false
set_option linter.unusedSimpArgs false
set_option linter.defProp false
set_option linter.deprecated false
namespace Go.Id
open Go
@[irreducible] def Small (x:Nat):Prop:=x<4294967296 ^ 1000000
theorem Small.lt {x:Nat} (h:Small x):x<4294967296 ^ 1000000:=by unfold Small at h;exact h
theorem Small.mk {x:Nat} (h:x<4294967296 ^ 1000000):Small x:=by unfold Small;exact h
theorem Small.le {x y:Nat} (h:Small x) (k:y≤x):Small y:=.mk (Nat.lt_of_le_of_lt k h.lt)
theorem Norm.small {ds:List Nat} (h:Norm ds) (hs:Small (valD ds)):ds.length≤1000000:=by
 by_cases hne:ds = []
 ·subst hne;simp
 ·have h1:=h.ge hne
  have h2:4294967296 ^ (ds.length - 1)<4294967296 ^ 1000000:=Nat.lt_of_le_of_lt h1 hs.lt
  have:=(Nat.pow_lt_pow_iff_right (a:=4294967296) (by omega)).1 h2
  omega
abbrev SmallI (z:Int):Prop:=Small z.natAbs
end Go.Id

namespace Go.Id
open Go
theorem LongIs.form {h:IH} {v:Value} {z:Int} (d:LongIs h v z) : ∃s n,v=.agg #[.bool (decide (z<0)),s]∧s.cells = #[s]∧cellOK s=true∧(∀{P:Program} {t:TypeId} (_:isSliceT P (some t)=true) (h':IH),lenB P h' t s=some (.int .i64 ((n:Nat):Int)))∧(n=0↔z=0):=by
 obtain⟨s,rfl,ds,hD,hN,hx⟩:=d
 refine⟨s,ds.length,rfl,hD.1.cells,hD.1.cok,fun hT h'=>hD.1.len hT h',?_⟩
 have:=hN.nil_iff
 rw[hx] at this
 rw[List.length_eq_zero_iff,←this];omega
end Go.Id

namespace Go.Id
def wrd (n i:Nat):Nat:=n / 18446744073709551616 ^ i % 18446744073709551616
theorem wrd_lt (n i:Nat):wrd n i<18446744073709551616:=Nat.mod_lt _ (by omega)
theorem mod_wrd (n i:Nat):n % 18446744073709551616 ^ (i+1)=n % 18446744073709551616 ^ i+18446744073709551616 ^ i*wrd n i:=Nat.mod_pow_succ
theorem wrd_high {n i j:Nat} (h:n<18446744073709551616 ^ i) (hj:i≤j):wrd n j=0:=by
 have:n<18446744073709551616 ^ j:=Nat.lt_of_lt_of_le h (Nat.pow_le_pow_right (by omega) hj)
 rw[wrd,Nat.div_eq_of_lt this]
theorem wrd_add_low {n x i j:Nat} (hj:j<i):wrd (n+x*18446744073709551616 ^ i) j=wrd n j:=by
 obtain⟨d,rfl⟩ : ∃d,i=j+1+d:=⟨i - j - 1,by omega⟩
 rw[wrd,wrd,show x*18446744073709551616 ^ (j+1+d)=18446744073709551616 ^ j*(18446744073709551616*(x*18446744073709551616 ^ d)) from by
  rw[Nat.pow_add,Nat.pow_add];grind]
 rw[Nat.add_mul_div_left _ _ (Nat.pow_pos (by omega)),Nat.add_mul_mod_self_left]
@[irreducible] def W8:Nat:=18446744073709551616 ^ 8
@[irreducible] def H8:Nat:=9223372036854775808*18446744073709551616 ^ 7
theorem W8_eq:W8=18446744073709551616 ^ 8:=by unfold W8;rfl
theorem W8_two:W8=2*H8:=by unfold W8 H8;rfl
theorem W8_dig:W8=4294967296 ^ 16:=by unfold W8;rfl
theorem H8_big:9223372036854775808<H8:=by unfold H8;decide
def wdI (n:Nat):Int:=if n<H8 then (n:Int) else (n:Int) - W8
theorem wrd7 {n:Nat} (h:n<W8):wrd n 7<9223372036854775808↔n<H8:=by
 rw[W8_eq] at h
 unfold H8
 have h1:n / 18446744073709551616 ^ 7<18446744073709551616:=by
  rw[Nat.div_lt_iff_lt_mul (Nat.pow_pos (by decide))];exact h
 rw[wrd,Nat.mod_eq_of_lt h1,Nat.div_lt_iff_lt_mul (Nat.pow_pos (by decide))]
end Go.Id

namespace Go.Id
open Go
def wdC (n:Nat):List Value:=(List.range 8).map fun i=>K64 (wrd n i)
def wdV (n:Nat):Value:=.agg (wdC n).toArray
theorem wdC_len (n:Nat):(wdC n).length=8:=by simp[wdC]
theorem wdC_get (n i:Nat) (hi:i<8):(wdC n)[i]?=some (K64 (wrd n i)):=by simp[wdC,hi]
theorem wdC_all (n:Nat):(wdC n).all cellOK=true:=by simp[wdC,cellOK]
end Go.Id

namespace Go.Id
open Go
theorem wd_take (n:Nat):List.take 8 (List.drop 0 (wdC n))=wdC n:=by
 rw[List.drop_zero,List.take_of_length_le (by rw[wdC_len];omega)]
end Go.Id

namespace Go.Id
open Go
def InW (z:Int):Prop:=-(H8:Int)≤z∧z<H8
instance (z:Int):Decidable (InW z):=inferInstanceAs (Decidable (_∧_))
def wideN (z:Int):Nat:=if 0≤z then z.toNat else W8 - z.natAbs
theorem wideN_lt {z:Int} (h:InW z):wideN z<W8:=by
 have:=W8_two
 unfold InW at h
 unfold wideN
 split<;>omega
theorem wdI_wideN {z:Int} (h:InW z):wdI (wideN z)=z:=by
 have:=W8_two
 unfold InW at h
 unfold wdI wideN
 split
 ·rw[if_pos (by omega)];omega
 ·rw[if_neg (by omega)];omega
abbrev wideV (z:Int):Value:=wdV (wideN z)
abbrev ZW:Value:=.int .u64 0
theorem wdC_zero:wdC 0 = [ZW,ZW,ZW,ZW,ZW,ZW,ZW,ZW]:=by
 simp[wdC,wrd,List.range_succ]
end Go.Id

namespace Go.Id
open Go
theorem wrapU (n:Int):IntKind.u64.wrap n=n % 18446744073709551616:=by simp[IntKind.wrap,IntKind.bits,IntKind.signed]
abbrev In64 (n:Int):Prop:=-9223372036854775808≤n∧n<9223372036854775808
theorem pow_up (b:Nat) (hb:0<b) (m k:Nat) (h:m≤k):b ^ m≤b ^ k:=Nat.pow_le_pow_right hb h
theorem smallW {z:Int} (h:InW z):SmallI z:=by
 have h1:=pow_up 4294967296 (by decide) 16 1000000 (by decide)
 rw[←W8_dig] at h1
 have h2:=W8_two
 have h3:=H8_big
 unfold InW at h
 unfold SmallI Small
 refine Nat.lt_of_lt_of_le ?_ h1
 omega
end Go.Id

namespace Go.Id
theorem getD_set {ds:List Nat} {k w:Nat} (hk:k<ds.length) (j:Nat):(ds.set k w).getD j 0=if j=k then w else ds.getD j 0:=by
 simp only[List.getD_eq_getElem?_getD,List.getElem?_set]
 by_cases h:k=j
 ·subst h;simp[hk]
 ·rw[if_neg h,if_neg (fun x=>h x.symm)]
theorem valT_set {ds:List Nat} {k w:Nat} (hk:k<ds.length) : ∀n,valT (ds.set k w) n+(if k<n then ds.getD k 0*4294967296 ^ k else 0)=valT ds n+(if k<n then w*4294967296 ^ k else 0)
 | 0=>by simp[valT]
 | n+1=>by
  have ih:=valT_set (w:=w) hk n
  rw[valT,valT,getD_set hk]
  by_cases h1:k<n
  ·rw[if_pos h1,if_pos h1] at ih
   rw[if_pos (show k<n+1 by omega),if_pos (show k<n+1 by omega),if_neg (show ¬n=k by omega)]
   omega
  ·rw[if_neg h1,if_neg h1] at ih
   by_cases h2:n=k
   ·subst h2
    rw[if_pos (Nat.lt_succ_self n),if_pos (Nat.lt_succ_self n),if_pos rfl]
    omega
   ·rw[if_neg (show ¬k<n+1 by omega),if_neg (show ¬k<n+1 by omega),if_neg h2]
    omega
theorem valD_set {ds:List Nat} {k:Nat} (w:Nat) (hk:k<ds.length):valD (ds.set k w)+ds.getD k 0*4294967296 ^ k=valD ds+w*4294967296 ^ k:=by
 have h:=valT_set (w:=w) hk ds.length
 rw[if_pos hk,if_pos hk] at h
 rw[valD,valD,List.length_set];exact h
theorem valT_repl (m:Nat) : ∀n,valT (List.replicate m 0) n=0
 | 0=>rfl
 | n+1=>by
  rw[valT,valT_repl m n]
  have:(List.replicate m 0).getD n 0=0:=by
   rw[List.getD_eq_getElem?_getD,List.getElem?_replicate];split<;>rfl
  rw[this];simp
theorem valD_repl (m:Nat):valD (List.replicate m 0)=0:=valT_repl m _
theorem getD_repl (m j:Nat):(List.replicate m 0).getD j 0=0:=by
 rw[List.getD_eq_getElem?_getD,List.getElem?_replicate];split<;>rfl
theorem Digs.set {ds:List Nat} (h:Digs ds) (k:Nat) {w:Nat} (hw:w<4294967296):Digs (ds.set k w):=by
 intro d hd
 rcases List.mem_or_eq_of_mem_set hd with h1|h1
 ·exact h d h1
 ·omega
theorem Digs.repl (m:Nat):Digs (List.replicate m 0):=by
 intro d hd
 rw[List.mem_replicate] at hd
 omega
theorem Norm.lenlt {ds:List Nat} (h:Norm ds) {m:Nat} (hs:valD ds<4294967296 ^ m):ds.length≤m:=by
 apply Classical.byContradiction;intro hn
 have hne:ds ≠ []:=by intro h0;subst h0;simp at hn
 have h1:=h.ge hne
 have h2:4294967296 ^ m≤4294967296 ^ (ds.length - 1):=Nat.pow_le_pow_right (by omega) (by omega)
 omega
end Go.Id

namespace Go.Id
theorem valT_eq {ds:List Nat} (h:Digs ds) : ∀{n k:Nat},n≤k→valT ds k % 4294967296 ^ n=valT ds n
 | n,0,hk=>by
  obtain rfl:n=0:=by omega
  simp[valT]
 | n,k+1,hk=>by
  by_cases hn:n=k+1
  ·subst hn;exact Nat.mod_eq_of_lt (valT_lt h _)
  ·have ih:=valT_eq h (show n≤k by omega)
   rw[valT]
   have hd:4294967296 ^ n∣ds.getD k 0*4294967296 ^ k:=Nat.dvd_trans (Nat.pow_dvd_pow _ (by omega)) (Nat.dvd_mul_left _ _)
   obtain⟨c,hc⟩:=hd
   rw[hc,Nat.add_mul_mod_self_left,ih]
theorem digit_eq {ds:List Nat} (h:Digs ds) (j:Nat):ds.getD j 0=valD ds / 4294967296 ^ j % 4294967296:=by
 have hp:=pow_pos' j
 by_cases hj:j<ds.length
 ·have e1:valT ds (j+1)=valD ds % 4294967296 ^ (j+1):=(valT_eq h (show j+1≤ds.length by omega)).symm
  have e2:valT ds (j+1) / 4294967296 ^ j=ds.getD j 0:=by
   rw[valT,Nat.add_mul_div_right _ _ hp,Nat.div_eq_of_lt (valT_lt h j),Nat.zero_add]
  rw[←e2,e1,Nat.pow_succ,Nat.mod_mul_right_div_self]
 ·rw[getD_of_ge (by omega)]
  have h1:=valD_lt h
  have h2:4294967296 ^ ds.length≤4294967296 ^ j:=Nat.pow_le_pow_right (by omega) (by omega)
  rw[Nat.div_eq_of_lt (by omega)]
theorem Norm.drop {ds:List Nat} (h:Norm ds) (m:Nat):Norm (ds.drop m):=by
 by_cases hm:ds.length≤m
 ·left;exact List.drop_eq_nil_of_le hm
 ·rcases h with rfl|h
  ·left;simp
  ·right
   rw[List.length_drop]
   have:(ds.drop m).getD (ds.length - m - 1) 0=ds.getD (ds.length - 1) 0:=by
    simp only[List.getD_eq_getElem?_getD,List.getElem?_drop]
    rw[show m+(ds.length - m - 1)=ds.length - 1 by omega]
   rw[this];exact h
theorem Digs.drop {ds:List Nat} (h:Digs ds) (m:Nat):Digs (ds.drop m):=fun d hd=>h d (List.mem_of_mem_drop hd)
end Go.Id

namespace Go.Id
open Go
theorem row_kn {h:IH} {b:Nat} {cs:List Value} {e:Nat} {f:Option Nat} (hg:h.ext.get b=some (.cells cs e f)):h.row (2*b)=some cs:=by rw[row_even];simp only[IH.cells,hg]
end Go.Id

namespace Go.Id
open Go
def WrdU (h:IH) (v:Value) (ds:List Nat):Prop:=SlOf h 1 v ds.length (ds.map K64)∧B.Digs ds∧ds.length≤1100000
def Wrd (h:IH) (v:Value) (x:Nat):Prop:=∃ds,WrdU h v ds∧B.Norm ds∧B.valD ds=x
theorem WrdU.keep {h h':IH} {v:Value} {ds:List Nat} (d:WrdU h v ds) (e:Keep h h'):WrdU h' v ds:=⟨d.1.keep e,d.2⟩
theorem Wrd.keep {h h':IH} {v:Value} {x:Nat} (d:Wrd h v x) (e:Keep h h'):Wrd h' v x:=let ⟨ds,a,b⟩:=d;⟨ds,a.keep e,b⟩
theorem WrdU.wrd {h:IH} {v:Value} {ds:List Nat} (d:WrdU h v ds) (n:B.Norm ds):Wrd h v (B.valD ds):=⟨ds,d,n,rfl⟩
theorem WrdU.putAt {h:IH} {v:Value} {ds:List Nat} (d:WrdU h v ds) {k:Nat} (hk:blockOf v≠some (2*k)) (o:IObj):WrdU (h.put k o) v ds:=⟨d.1.putAt hk o,d.2⟩
def PLong (h:IH) (v:Value) (z:Int):Prop:=∃s,v=.agg #[.bool (decide (z<0)),s]∧Wrd h s z.natAbs
theorem PLong.keep {h h':IH} {v:Value} {z:Int} (d:PLong h v z) (e:Keep h h'):PLong h' v z:=let ⟨s,a,b⟩:=d;⟨s,a,b.keep e⟩
theorem PLong.form {h:IH} {v:Value} {z:Int} (d:PLong h v z) : ∃s n,v=.agg #[.bool (decide (z<0)),s]∧s.cells = #[s]∧cellOK s=true∧(∀{P:Program} {t:TypeId} (_:isSliceT P (some t)=true) (h':IH),lenB P h' t s=some (.int .i64 ((n:Nat):Int)))∧(n=0↔z=0):=by
 obtain⟨s,rfl,ds,hD,hN,hx⟩:=d
 refine⟨s,ds.length,rfl,hD.1.cells,hD.1.cok,fun hT h'=>hD.1.len hT h',?_⟩
 have:=hN.nil_iff
 rw[hx] at this
 rw[List.length_eq_zero_iff,←this];omega
theorem k64_all (l:List Nat):(l.map K64).all cellOK=true:=by simp[cellOK]
theorem repl_k64 (n:Nat):repl n [.int .u64 0]=(List.replicate n 0).map K64:=by rw[repl_one,List.map_replicate];rfl
theorem spl_k64 {os:List Nat} {k:Nat} (x:Nat) (hk:k<os.length):IH.splice (os.map K64) k [K64 x]=(os.set k x).map K64:=by
 rw[splice_set (by simpa using hk),List.map_set]
theorem trimmed_at {h:IH} {v:Value} {ds:List Nat} (hd:WrdU h v ds) (b:Bool):WV Proofs.Tryz.prog (.func (.func 68) #[] #[]) [.bool b,v] h fun r h'=>(Ext h h'∧PLong h' r (if b then -(B.valD ds:Int) else B.valD ds)) ∧ ∀k o,blockOf v≠some (2*k)→PLong (h'.put k o) r (if b then -(B.valD ds:Int) else B.valD ds):=by
 have hb:=hd.2.2
 refine enter (nt:=29) (rs:=[.cell 4 87]) Proofs.Tryz.func68 rfl rfl rfl (by simp) ?_
 simp -dsimp (maxSteps:=1000000) (disch:=first|omega|(simp only[new_n,put_n];omega)|decide +kernel|(repeat first|rw[new_n]|rw[put_n])) only[wpS,Nat.reduceEqDiff,Nat.reduceAdd,zc87,hd.1.len sl85]
 refine loop (fun m fr h1=>h1=h.new (.cells [.bool false,.slice none 0 0] 0 none)∧m≤ds.length∧fget fr 5=some (KN m)∧fget fr 0=some (.bool b)∧fget fr 1=some v∧fget fr 4=some (ptr (2*h.n) 0) ∧ ∀j,m≤j→ds.getD j 0=0) ds.length ⟨rfl,Nat.le_refl _,by simp,by simp,by simp,by simp,fun j hj=>B.getD_of_ge hj⟩ ?_
 rintro m fr h1 ⟨rfl,hm,f5,f0,f1,f4,hz⟩
 have e1:Ext h (h.new (.cells [.bool false,.slice none 0 0] 0 none)):=(Ext.refl h).new _
 have fin : ∀n:Nat,n≤ds.length→(∀j,n≤j→ds.getD j 0=0)→(n=0∨ds.getD (n - 1) 0≠0) → ∃r,sliceOp Proofs.Tryz.prog (h.new (.cells [.bool false,.slice none 0 0] 0 none)) 85 v none (some (KN n)) none=some r∧blockOf r=blockOf v∧WrdU (h.new (.cells [.bool false,.slice none 0 0] 0 none)) r (ds.take n)∧B.Norm (ds.take n)∧B.valD (ds.take n)=B.valD ds∧(0<n↔0<B.valD ds):=by
  intro n hn hz hne
  obtain⟨r,hr,hs⟩:=hd.1.slice e1.keep (P:=Proofs.Tryz.prog) (t:=85) u85 sz30 (l:=0) (m:=n) (Nat.zero_le _) hn (lo:=none) (hi:=some (KN n)) rfl (fun c hc=>natOf_nat (k:=.i64) (by omega))
  have hl:(ds.take n).length=n:=by simp[hn]
  have hN:B.Norm (ds.take n):=by
   rcases hne with rfl|hne
   ·left;simp
   ·by_cases h0:n=0
    ·subst h0;left;simp
    ·right
     rw[hl,B.getD_take,if_pos (by omega)];exact hne
  have hv:=B.valD_take hn hz
  refine⟨r,hr,slice_block u85 hr,⟨?_,hd.2.1.take n,by rw[hl];omega⟩,hN,hv,?_⟩
  ·rw[hl]
   have hs':SlOf h 1 r n ((ds.take n).map K64):=by simpa [List.map_take] using hs
   exact hs'.ext e1
  ·have hz:=hN.nil_iff
   rw[hv] at hz
   constructor
   ·intro h0
    apply Nat.pos_of_ne_zero;intro h1
    have:=hz.1 h1
    rw[this] at hl;simp at hl;omega
   ·intro h0
    apply Nat.pos_of_ne_zero;intro h1
    rw[h1] at hz
    have:=hz.2 (by simp)
    omega
 have out : ∀(n:Nat) (r:Value),blockOf r=blockOf v→WrdU (h.new (.cells [.bool false,.slice none 0 0] 0 none)) r (ds.take n)→B.Norm (ds.take n)→B.valD (ds.take n)=B.valD ds→(0<n↔0<B.valD ds) → ∀c:Bool,c=(b && decide (0<n)) →
   (Ext h ((h.new (.cells [.bool false,.slice none 0 0] 0 none)).put h.n (.cells [.bool c,r] 0 none))∧PLong ((h.new (.cells [.bool false,.slice none 0 0] 0 none)).put h.n (.cells [.bool c,r] 0 none)) (.agg #[.bool c,r]) (if b then -(B.valD ds:Int) else B.valD ds)) ∧ ∀k o,blockOf v≠some (2*k)→PLong (((h.new (.cells [.bool false,.slice none 0 0] 0 none)).put h.n (.cells [.bool c,r] 0 none)).put k o) (.agg #[.bool c,r]) (if b then -(B.valD ds:Int) else B.valD ds):=by
  rintro n r hbk hW hN hv hp c rfl
  have hk:=hW.keep ((Keep.refl _).put (get_new_same h _ rfl) (.cells [.bool (b && decide (0<n)),r] 0 none))
  have hc:(b && decide (0<n))=decide ((if b then -(B.valD ds:Int) else B.valD ds)<0):=by
   rw[show decide (0<n)=decide (0<B.valD ds) from decide_eq_decide.2 hp]
   cases b<;>simp<;>omega
  have ha:(if b then -(B.valD ds:Int) else (B.valD ds:Int)).natAbs=B.valD ds:=by cases b<;>simp
  refine⟨⟨e1.put (Nat.le_refl _) _,r,by rw[hc],ds.take n,hk,hN,by rw[ha,hv]⟩,fun k o hbv=>⟨r,by rw[hc],ds.take n,hk.putAt (by rw[hbk];exact hbv) o,hN,by rw[ha,hv]⟩⟩
 rcases Nat.eq_zero_or_pos m with rfl|hp
 ·obtain⟨r,hr,hbk,hW,hN,hv,hpp⟩:=fin 0 hm hz (.inl rfl)
  have:=out 0 r hbk hW hN hv hpp false (by simp)
  cases b
  ·simp -dsimp (maxSteps:=1000000) (disch:=first|omega|(simp only[new_n,put_n];omega)|decide +kernel|(repeat first|rw[new_n]|rw[put_n])) only[wpS,wpT,Nat.reduceEqDiff,Nat.reduceLeDiff,Nat.reduceAdd,bv87,pl87_0,pl87_1,st87,ld87,f5,f0,f1,f4,hr,hW.1.cells,hW.1.cok]
   exact this
  ·simp -dsimp (maxSteps:=1000000) (disch:=first|omega|(simp only[new_n,put_n];omega)|decide +kernel|(repeat first|rw[new_n]|rw[put_n])) only[wpS,wpT,Nat.reduceEqDiff,Nat.reduceLeDiff,Nat.reduceAdd,bv87,pl87_0,pl87_1,st87,ld87,f5,f0,f1,f4,hr,hW.1.cells,hW.1.cok]
   exact this
 ·obtain⟨k,rfl⟩ : ∃k,m=k+1:=⟨m - 1,by omega⟩
  have h2:IntKind.i64.wrap (((k+1:Nat):Int) - 1)=(k:Int):=by rw[wrap_i64 (by omega)];omega
  simp -dsimp (maxSteps:=1000000) (disch:=first|omega|(simp only[new_n,put_n];omega)|decide +kernel|(repeat first|rw[new_n]|rw[put_n])) only[wpS,wpT,Nat.reduceEqDiff,f5,f1,h2,hd.1.idx es85 (show k<ds.length by omega),hd.1.ld e1.keep (P:=Proofs.Tryz.prog) (t:=30) (c:=k) (by simp<;>omega) ag30,map_get,get_some (show k<ds.length by omega)]
  refine bq_intro (fun hc=>?_) (fun hc=>?_)
  ·simp -dsimp (maxSteps:=1000000) (disch:=first|omega|(simp only[new_n,put_n];omega)|decide +kernel|(repeat first|rw[new_n]|rw[put_n])) only[wpS,Nat.reduceEqDiff,f5,h2]
   refine⟨k,by omega,rfl,by omega,by simp,by simp[f0],by simp[f1],by simp[f4],fun j hj=>?_⟩
   by_cases hjk:j=k
   ·subst hjk;simpa using hc
   ·exact hz j (by omega)
  ·obtain⟨r,hr,hbk,hW,hN,hv,hpp⟩:=fin (k+1) hm hz (.inr (by simpa using hc))
   cases b
   ·have:=out (k+1) r hbk hW hN hv hpp false (by simp)
    simp -dsimp (maxSteps:=1000000) (disch:=first|omega|(simp only[new_n,put_n];omega)|decide +kernel|(repeat first|rw[new_n]|rw[put_n])) only[wpS,wpT,Nat.reduceEqDiff,Nat.reduceLeDiff,Nat.reduceAdd,bv87,pl87_0,pl87_1,st87,ld87,f5,f0,f1,f4,hr,hW.1.cells,hW.1.cok]
    exact this
   ·have:=out (k+1) r hbk hW hN hv hpp true (by simp)
    simp -dsimp (maxSteps:=1000000) (disch:=first|omega|(simp only[new_n,put_n];omega)|decide +kernel|(repeat first|rw[new_n]|rw[put_n])) only[wpS,wpT,Nat.reduceEqDiff,Nat.reduceLeDiff,Nat.reduceAdd,bv87,pl87_0,pl87_1,st87,ld87,f5,f0,f1,f4,hr,hW.1.cells,hW.1.cok]
    exact this
theorem trimmed_ok {h:IH} {v:Value} {ds:List Nat} (hd:WrdU h v ds) (b:Bool):WV Proofs.Tryz.prog (.func (.func 68) #[] #[]) [.bool b,v] h fun r h'=>Ext h h'∧PLong h' r (if b then -(B.valD ds:Int) else B.valD ds):=(trimmed_at hd b).mono fun _ _ k=>k.1
theorem compared_ok {h:IH} {v w:Value} {a b:List Nat} (ha:WrdU h v a) (hb:WrdU h w b) (na:B.Norm a) (nb:B.Norm b) :
  WV Proofs.Tryz.prog (.func (.func 119) #[] #[]) [v,w] h fun r h'=>h'=h ∧ ∃c:Int,r=KI c∧(c<0↔B.valD a<B.valD b)∧(c=0↔B.valD a=B.valD b) ∧ -9223372036854775808≤c∧c≤9223372036854775807:=by
 have la:=ha.2.2
 have lb:=hb.2.2
 refine enter (nt:=43) (rs:=[.tmp 4]) Proofs.Tryz.func119 rfl rfl rfl (by simp) ?_
 simp -dsimp (maxSteps:=1000000) (disch:=first|omega|(simp only[new_n,put_n];omega)|decide +kernel|(repeat first|rw[new_n]|rw[put_n])) only[wpS,Nat.reduceEqDiff,Nat.reduceAdd,ha.1.len sl85,hb.1.len sl85]
 refine bq_intro ?_ ?_<;>intro hc<;>simp only[bne_iff_ne,bne_eq_false_iff_eq,ne_eq] at hc
 ·simp -dsimp (maxSteps:=1000000) (disch:=first|omega|(simp only[new_n,put_n];omega)|decide +kernel|(repeat first|rw[new_n]|rw[put_n])) only[wpS,wpT,Nat.reduceEqDiff,ha.1.len sl85,hb.1.len sl85]
  refine⟨_,rfl,?_,?_,by omega,by omega⟩
  ·constructor
   ·intro h1;exact B.lt_of_len ha.2.1 nb (by omega)
   ·intro h1
    have:=na.len_le hb.2.1 (Nat.le_of_lt h1)
    omega
  ·constructor
   ·intro h1;omega
   ·intro h1
    have h2:=na.len_le hb.2.1 (Nat.le_of_eq h1)
    have h3:=nb.len_le ha.2.1 (Nat.le_of_eq h1.symm)
    omega
 ·have hl:a.length=b.length:=by omega
  simp -dsimp (maxSteps:=1000000) (disch:=first|omega|(simp only[new_n,put_n];omega)|decide +kernel|(repeat first|rw[new_n]|rw[put_n])) only[wpS,wpT,Nat.reduceEqDiff,ha.1.len sl85]
  refine loop (fun m fr h1=>h1=h∧m≤a.length∧fget fr 5=some (KI ((m:Int) - 1))∧fget fr 0=some v∧fget fr 1=some w ∧ ∀j,m≤j→j<a.length→a.getD j 0=b.getD j 0) a.length ⟨rfl,Nat.le_refl _,by simp,by simp,by simp,fun j hj hj2=>by omega⟩ ?_
  rintro m fr h1 ⟨rfl,hm,f5,f0,f1,hz⟩
  rcases Nat.eq_zero_or_pos m with rfl|hp
  ·simp -dsimp (maxSteps:=1000000) (disch:=first|omega|(simp only[new_n,put_n];omega)|decide +kernel|(repeat first|rw[new_n]|rw[put_n])) only[wpS,wpT,Nat.reduceEqDiff,f5]
   refine⟨_,rfl,?_,?_,by omega,by omega⟩
   ·have:=B.eq_of_all hl (fun j hj=>hz j (Nat.zero_le _) hj);omega
   ·have:=B.eq_of_all hl (fun j hj=>hz j (Nat.zero_le _) hj);omega
  ·obtain⟨k,rfl⟩ : ∃k,m=k+1:=⟨m - 1,by omega⟩
   have h2:(((k+1:Nat):Int) - 1)=(k:Int):=by omega
   rw[h2] at f5
   have da:=B.getD_lt ha.2.1 k
   have db:=B.getD_lt hb.2.1 k
   have key:(a.getD k 0<b.getD k 0→B.valD a<B.valD b)∧(b.getD k 0<a.getD k 0→B.valD b<B.valD a) :=
    ⟨fun h=>B.lt_of_top ha.2.1 hl (by omega) h (fun j x y=>hz j (by omega) y),fun h=>B.lt_of_top hb.2.1 hl.symm (by omega) h (fun j x y=>(hz j (by omega) (by omega)).symm)⟩
   simp -dsimp (maxSteps:=1000000) (disch:=first|omega|(simp only[new_n,put_n];omega)|decide +kernel|(repeat first|rw[new_n]|rw[put_n])) only[wpS,wpT,Nat.reduceEqDiff,f5,f0,f1,ha.1.idx es85 (show k<a.length by omega),ha.1.ld (Keep.refl _) (P:=Proofs.Tryz.prog) (t:=30) (c:=k) (by simp<;>omega) ag30,hb.1.idx es85 (show k<b.length by omega),hb.1.ld (Keep.refl _) (P:=Proofs.Tryz.prog) (t:=30) (c:=k) (by simp<;>omega) ag30,map_get,get_some (show k<a.length by omega),get_some (show k<b.length by omega)]
   refine bq_intro ?_ ?_<;>intro hc<;>simp only[decide_eq_true_eq,decide_eq_false_iff_not] at hc
   ·simp -dsimp (maxSteps:=1000000) (disch:=first|omega|(simp only[new_n,put_n];omega)|decide +kernel|(repeat first|rw[new_n]|rw[put_n])) only[wpS,wpT,Nat.reduceEqDiff]
    have:=key.1 (by omega)
    exact⟨_,rfl,by omega,by omega,by omega,by omega⟩
   ·simp -dsimp (maxSteps:=1000000) (disch:=first|omega|(simp only[new_n,put_n];omega)|decide +kernel|(repeat first|rw[new_n]|rw[put_n])) only[wpS,wpT,Nat.reduceEqDiff,f5,f0,f1,ha.1.idx es85 (show k<a.length by omega),ha.1.ld (Keep.refl _) (P:=Proofs.Tryz.prog) (t:=30) (c:=k) (by simp<;>omega) ag30,hb.1.idx es85 (show k<b.length by omega),hb.1.ld (Keep.refl _) (P:=Proofs.Tryz.prog) (t:=30) (c:=k) (by simp<;>omega) ag30,map_get,get_some (show k<a.length by omega),get_some (show k<b.length by omega)]
    refine bq_intro ?_ ?_<;>intro hc4<;>simp only[decide_eq_true_eq,decide_eq_false_iff_not] at hc4
    ·simp -dsimp (maxSteps:=1000000) (disch:=first|omega|(simp only[new_n,put_n];omega)|decide +kernel|(repeat first|rw[new_n]|rw[put_n])) only[wpS,wpT,Nat.reduceEqDiff]
     have:=key.2 (by omega)
     exact⟨_,rfl,by omega,by omega,by omega,by omega⟩
    ·simp -dsimp (maxSteps:=1000000) (disch:=first|omega|(simp only[new_n,put_n];omega)|decide +kernel|(repeat first|rw[new_n]|rw[put_n])) only[wpS,wpT,Nat.reduceEqDiff,f5]
     refine⟨k,by omega,rfl,by omega,by simp,by simp[f0],by simp[f1],fun j h3 h4=>?_⟩
     by_cases hjk:j=k
     ·subst hjk;omega
     ·exact hz j (by omega) h4
theorem add64_ok {h:IH} (x y c:Nat) (hc:c≤1):WV Proofs.Tryz.prog (.func (.func 99) #[] #[]) [K64 x,K64 y,K64 c] h fun r h'=>h'=h∧r=.tuple #[K64 ((x+y+c) % 18446744073709551616),K64 ((x+y+c) / 18446744073709551616)] :=
 wv_carry Proofs.Tryz.func99 rfl (carry_add rfl x y hc) ⟨rfl,rfl⟩
theorem sub64_ok {h:IH} (x y c:Nat) (hc:c≤1):WV Proofs.Tryz.prog (.func (.func 115) #[] #[]) [K64 x,K64 y,K64 c] h fun r h'=>h'=h∧r=.tuple #[K64 ((x+18446744073709551616 - y - c) % 18446744073709551616),K64 (bif Nat.blt x (y+c) then 1 else 0)] :=
 wv_carry Proofs.Tryz.func115 rfl (carry_sub rfl x y hc) ⟨rfl,rfl⟩
end Go.Id

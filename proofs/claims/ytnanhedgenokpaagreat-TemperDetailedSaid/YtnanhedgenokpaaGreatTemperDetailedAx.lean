/-
  Contracts: the program's long integers: words, trimmed, compared, added, subtracted. Contracts: the program's long integers: sums, differences and products of words.
-/
import Derived.Test.YtnanhedgenokpaaGreatTemperDetailedAt
import Derived.Test.YtnanhedgenokpaaGreatTemperDetailedAu
import Derived.Test.YtnanhedgenokpaaGreatTemperDetailedAv
import Derived.Test.YtnanhedgenokpaaGreatTemperDetailedAw
set_option linter.unusedVariables false
set_option linter.unusedSimpArgs false
set_option linter.defProp false
set_option linter.deprecated false
namespace Go.Id
open Go
open Go.Proofs.Tryz (prog)
open Nat renaming reduceAdd→zA,reduceEqDiff→zE,reduceLeDiff→zL
def WrdU (h:IH) (v:Value) (ds:List Nat):Prop:=SlOf h 1 v ds.length (ds.map K64)∧B.Digs ds∧ds.length≤1100000
def Wrd (h:IH) (v:Value) (x:Nat):Prop:=∃ds,WrdU h v ds∧B.Norm ds∧B.valD ds=x
theorem WrdU.keep {h h':IH} {v:Value} {ds:List Nat} (d:WrdU h v ds) (e:Keep h h'):WrdU h' v ds:=⟨d.1.keep e,d.2⟩
theorem Wrd.keep {h h':IH} {v:Value} {x:Nat} (d:Wrd h v x) (e:Keep h h'):Wrd h' v x:=let ⟨ds,a,b⟩:=d;⟨ds,a.keep e,b⟩
theorem WrdU.putAt {h:IH} {v:Value} {ds:List Nat} (d:WrdU h v ds) {k:Nat} (hk:blockOf v≠some (2*k)) (o:IObj):WrdU (h.put k o) v ds:=⟨d.1.putAt hk o,d.2⟩
def PLong (h:IH) (v:Value) (z:Int):Prop:=∃s,v=.agg #[.bool (decide (z<0)),s]∧Wrd h s z.natAbs
theorem PLong.keep {h h':IH} {v:Value} {z:Int} (d:PLong h v z) (e:Keep h h'):PLong h' v z:=let ⟨s,a,b⟩:=d;⟨s,a,b.keep e⟩
theorem PLong.form {h:IH} {v:Value} {z:Int} (d:PLong h v z) : ∃s n,v=.agg #[.bool (decide (z<0)),s]∧s.cells = #[s]∧cellOK s=true∧(∀{P:Program} {t:TypeId} (_:isSliceT P (some t)=true) (h':IH),lenB P h' t s=some (.int .i64 ((n:Nat):Int)))∧(n=0↔z=0):=by
 obtain⟨s,rfl,ds,hD,hN,hx⟩:=d
 refine⟨s,ds.length,rfl,hD.1.cells,hD.1.cok,fun hT h'=>hD.1.len hT h',?_⟩
 have:=hN.nil_iff
 rw[hx] at this
 rw[List.length_eq_zero_iff,←this];omega
theorem k64_all (l:List Nat):(l.map K64).all cellOK=true:=by simp[cellOK]
theorem repl_k64 (n:Nat):repl n [.int .u64 0]=(List.replicate n 0).map K64:=by rw[repl_one,List.map_replicate];rfl
theorem spl_k64 {os:List Nat} {k:Nat} (x:Nat) (hk:k<os.length):IH.splice (os.map K64) k [K64 x]=(os.set k x).map K64:=by
 rw[splice_set (by simpa using hk),List.map_set]
theorem trimmed_at {h:IH} {v:Value} {ds:List Nat} (hd:WrdU h v ds) (b:Bool):WV prog (.func (.func 173) #[] #[]) [.bool b,v] h fun r h'=>(Ext h h'∧PLong h' r (if b then -(B.valD ds:Int) else B.valD ds)) ∧ ∀k o,blockOf v≠some (2*k)→PLong (h'.put k o) r (if b then -(B.valD ds:Int) else B.valD ds):=by
 have hb:=hd.2.2
 refine enter (nt:=29) (rs:=[.cell 4 137]) Proofs.Tryz.func173 rfl rfl rfl (by simp) ?_
 simp -dsimp (disch:=try exact dx) only[wpS,zE,zA,zc137,hd.1.len sl135]
 refine loop (fun m fr h1=>h1=h.new (.cells [.bool false,.slice none 0 0] 0 none)∧m≤ds.length∧fget fr 5=some (KN m)∧fget fr 0=some (.bool b)∧fget fr 1=some v∧fget fr 4=some (ptr (2*h.n) 0) ∧ ∀j,m≤j→ds.getD j 0=0) ds.length ⟨rfl,Nat.le_refl _,by simp,by simp,by simp,by simp,fun j hj=>B.getD_of_ge hj⟩ ?_
 rintro m fr h1 ⟨rfl,hm,f5,f0,f1,f4,hz⟩
 have e1:Ext h (h.new (.cells [.bool false,.slice none 0 0] 0 none)):=(Ext.refl h).new _
 have fin : ∀n:Nat,n≤ds.length→(∀j,n≤j→ds.getD j 0=0)→(n=0∨ds.getD (n - 1) 0≠0) → ∃r,sliceOp prog (h.new (.cells [.bool false,.slice none 0 0] 0 none)) 135 v none (some (KN n)) none=some r∧blockOf r=blockOf v∧WrdU (h.new (.cells [.bool false,.slice none 0 0] 0 none)) r (ds.take n)∧B.Norm (ds.take n)∧B.valD (ds.take n)=B.valD ds∧(0<n↔0<B.valD ds):=by
  intro n hn hz hne
  obtain⟨r,hr,hs⟩:=hd.1.slice e1.keep (P:=prog) (t:=135) u135 sz28 (l:=0) (m:=n) (Nat.zero_le _) hn (lo:=none) (hi:=some (KN n)) rfl (fun c hc=>natOf_nat (k:=.i64) (by omega))
  have hl:(ds.take n).length=n:=by simp[hn]
  have hN:B.Norm (ds.take n):=by
   rcases hne with rfl|hne
   ·left;simp
   ·by_cases h0:n=0
    ·subst h0;left;simp
    ·right
     rw[hl,B.getD_take,if_pos (by omega)];exact hne
  have hv:=B.valD_take hn hz
  refine⟨r,hr,slice_block u135 hr,⟨?_,hd.2.1.take n,by rw[hl];omega⟩,hN,hv,?_⟩
  ·rw[hl]
   have hs':SlOf h 1 r n ((ds.take n).map K64):=by simpa [List.map_take] using hs
   exact hs'.ext e1
  ·have hz:=hN.nil_iff
   rw[hv] at hz
   constructor
   ·intro h0
    apply Nat.pos_of_ne_zero;intro h1
    have:=hz.1 h1
    rw[this] at hl;simp at hl;omega
   ·intro h0
    apply Nat.pos_of_ne_zero;intro h1
    rw[h1] at hz
    have:=hz.2 (by simp)
    omega
 have out : ∀(n:Nat) (r:Value),blockOf r=blockOf v→WrdU (h.new (.cells [.bool false,.slice none 0 0] 0 none)) r (ds.take n)→B.Norm (ds.take n)→B.valD (ds.take n)=B.valD ds→(0<n↔0<B.valD ds) → ∀c:Bool,c=(b && decide (0<n)) →
   (Ext h ((h.new (.cells [.bool false,.slice none 0 0] 0 none)).put h.n (.cells [.bool c,r] 0 none))∧PLong ((h.new (.cells [.bool false,.slice none 0 0] 0 none)).put h.n (.cells [.bool c,r] 0 none)) (.agg #[.bool c,r]) (if b then -(B.valD ds:Int) else B.valD ds)) ∧ ∀k o,blockOf v≠some (2*k)→PLong (((h.new (.cells [.bool false,.slice none 0 0] 0 none)).put h.n (.cells [.bool c,r] 0 none)).put k o) (.agg #[.bool c,r]) (if b then -(B.valD ds:Int) else B.valD ds):=by
  rintro n r hbk hW hN hv hp c rfl
  have hk:=hW.keep ((Keep.refl _).put (get_new_same h _ rfl) (.cells [.bool (b && decide (0<n)),r] 0 none))
  have hc:(b && decide (0<n))=decide ((if b then -(B.valD ds:Int) else B.valD ds)<0):=by
   rw[show decide (0<n)=decide (0<B.valD ds) from decide_eq_decide.2 hp]
   cases b<;>simp<;>omega
  have ha:(if b then -(B.valD ds:Int) else (B.valD ds:Int)).natAbs=B.valD ds:=by cases b<;>simp
  refine⟨⟨e1.put (Nat.le_refl _) _,r,by rw[hc],ds.take n,hk,hN,by rw[ha,hv]⟩,fun k o hbv=>⟨r,by rw[hc],ds.take n,hk.putAt (by rw[hbk];exact hbv) o,hN,by rw[ha,hv]⟩⟩
 rcases Nat.eq_zero_or_pos m with rfl|hp
 ·obtain⟨r,hr,hbk,hW,hN,hv,hpp⟩:=fin 0 hm hz (.inl rfl)
  have:=out 0 r hbk hW hN hv hpp false (by simp)
  cases b
  ·simp -dsimp (disch:=try exact dx) only[wpS,wpT,zE,zL,zA,bv137,pl137_0,pl137_1,st137,ld137,f5,f0,f1,f4,hr,hW.1.cells,hW.1.cok]
   exact this
  ·simp -dsimp (disch:=try exact dx) only[wpS,wpT,zE,zL,zA,bv137,pl137_0,pl137_1,st137,ld137,f5,f0,f1,f4,hr,hW.1.cells,hW.1.cok]
   exact this
 ·obtain⟨k,rfl⟩ : ∃k,m=k+1:=⟨m - 1,by omega⟩
  have h2:IntKind.i64.wrap (((k+1:Nat):Int) - 1)=(k:Int):=by rw[wrap_i64 (by omega)];omega
  simp -dsimp (disch:=try exact dx) only[wpS,wpT,zE,f5,f1,h2,hd.1.idx es135 (show k<ds.length by omega),hd.1.ld e1.keep (P:=prog) (t:=28) (c:=k) (by simp<;>omega) ag28,map_get,get_some (show k<ds.length by omega)]
  refine bq_intro (fun hc=>?_) (fun hc=>?_)
  ·simp -dsimp (disch:=try exact dx) only[wpS,zE,f5,h2]
   refine⟨k,by omega,rfl,by omega,by simp,by simp[f0],by simp[f1],by simp[f4],fun j hj=>?_⟩
   by_cases hjk:j=k
   ·subst hjk;simpa using hc
   ·exact hz j (by omega)
  ·obtain⟨r,hr,hbk,hW,hN,hv,hpp⟩:=fin (k+1) hm hz (.inr (by simpa using hc))
   cases b
   ·have:=out (k+1) r hbk hW hN hv hpp false (by simp)
    simp -dsimp (disch:=try exact dx) only[wpS,wpT,zE,zL,zA,bv137,pl137_0,pl137_1,st137,ld137,f5,f0,f1,f4,hr,hW.1.cells,hW.1.cok]
    exact this
   ·have:=out (k+1) r hbk hW hN hv hpp true (by simp)
    simp -dsimp (disch:=try exact dx) only[wpS,wpT,zE,zL,zA,bv137,pl137_0,pl137_1,st137,ld137,f5,f0,f1,f4,hr,hW.1.cells,hW.1.cok]
    exact this
theorem trimmed_ok {h:IH} {v:Value} {ds:List Nat} (hd:WrdU h v ds) (b:Bool):WV prog (.func (.func 173) #[] #[]) [.bool b,v] h fun r h'=>Ext h h'∧PLong h' r (if b then -(B.valD ds:Int) else B.valD ds):=(trimmed_at hd b).mono fun _ _ k=>k.1
theorem compared_ok {h:IH} {v w:Value} {a b:List Nat} (ha:WrdU h v a) (hb:WrdU h w b) (na:B.Norm a) (nb:B.Norm b) :
  WV prog (.func (.func 260) #[] #[]) [v,w] h fun r h'=>h'=h ∧ ∃c:Int,r=KI c∧(c<0↔B.valD a<B.valD b)∧(c=0↔B.valD a=B.valD b) ∧ -9223372036854775808≤c∧c≤9223372036854775807:=by
 have la:=ha.2.2
 have lb:=hb.2.2
 refine enter (nt:=43) (rs:=[.tmp 4]) Proofs.Tryz.func260 rfl rfl rfl (by simp) ?_
 simp -dsimp (disch:=try exact dx) only[wpS,zE,zA,ha.1.len sl135,hb.1.len sl135]
 refine bq_intro ?_ ?_<;>intro hc<;>simp only[bne_iff_ne,bne_eq_false_iff_eq,ne_eq] at hc
 ·simp -dsimp (disch:=try exact dx) only[wpS,wpT,zE,ha.1.len sl135,hb.1.len sl135]
  refine⟨_,rfl,?_,?_,by omega,by omega⟩
  ·constructor
   ·intro h1;exact B.lt_of_len ha.2.1 nb (by omega)
   ·intro h1
    have:=na.len_le hb.2.1 (Nat.le_of_lt h1)
    omega
  ·constructor
   ·intro h1;omega
   ·intro h1
    have h2:=na.len_le hb.2.1 (Nat.le_of_eq h1)
    have h3:=nb.len_le ha.2.1 (Nat.le_of_eq h1.symm)
    omega
 ·have hl:a.length=b.length:=by omega
  simp -dsimp (disch:=try exact dx) only[wpS,wpT,zE,ha.1.len sl135]
  refine loop (fun m fr h1=>h1=h∧m≤a.length∧fget fr 5=some (KI ((m:Int) - 1))∧fget fr 0=some v∧fget fr 1=some w ∧ ∀j,m≤j→j<a.length→a.getD j 0=b.getD j 0) a.length ⟨rfl,Nat.le_refl _,by simp,by simp,by simp,fun j hj hj2=>by omega⟩ ?_
  rintro m fr h1 ⟨rfl,hm,f5,f0,f1,hz⟩
  rcases Nat.eq_zero_or_pos m with rfl|hp
  ·simp -dsimp (disch:=try exact dx) only[wpS,wpT,zE,f5]
   refine⟨_,rfl,?_,?_,by omega,by omega⟩
   ·have:=B.eq_of_all hl (fun j hj=>hz j (Nat.zero_le _) hj);omega
   ·have:=B.eq_of_all hl (fun j hj=>hz j (Nat.zero_le _) hj);omega
  ·obtain⟨k,rfl⟩ : ∃k,m=k+1:=⟨m - 1,by omega⟩
   have h2:(((k+1:Nat):Int) - 1)=(k:Int):=by omega
   rw[h2] at f5
   have da:=B.getD_lt ha.2.1 k
   have db:=B.getD_lt hb.2.1 k
   have key:(a.getD k 0<b.getD k 0→B.valD a<B.valD b)∧(b.getD k 0<a.getD k 0→B.valD b<B.valD a) :=
    ⟨fun h=>B.lt_of_top ha.2.1 hl (by omega) h (fun j x y=>hz j (by omega) y),fun h=>B.lt_of_top hb.2.1 hl.symm (by omega) h (fun j x y=>(hz j (by omega) (by omega)).symm)⟩
   simp -dsimp (disch:=try exact dx) only[wpS,wpT,zE,f5,f0,f1,ha.1.idx es135 (show k<a.length by omega),ha.1.ld (Keep.refl _) (P:=prog) (t:=28) (c:=k) (by simp<;>omega) ag28,hb.1.idx es135 (show k<b.length by omega),hb.1.ld (Keep.refl _) (P:=prog) (t:=28) (c:=k) (by simp<;>omega) ag28,map_get,get_some (show k<a.length by omega),get_some (show k<b.length by omega)]
   refine bq_intro ?_ ?_<;>intro hc<;>simp only[decide_eq_true_eq,decide_eq_false_iff_not] at hc
   ·simp -dsimp (disch:=try exact dx) only[wpS,wpT,zE]
    have:=key.1 (by omega)
    exact⟨_,rfl,by omega,by omega,by omega,by omega⟩
   ·simp -dsimp (disch:=try exact dx) only[wpS,wpT,zE,f5,f0,f1,ha.1.idx es135 (show k<a.length by omega),ha.1.ld (Keep.refl _) (P:=prog) (t:=28) (c:=k) (by simp<;>omega) ag28,hb.1.idx es135 (show k<b.length by omega),hb.1.ld (Keep.refl _) (P:=prog) (t:=28) (c:=k) (by simp<;>omega) ag28,map_get,get_some (show k<a.length by omega),get_some (show k<b.length by omega)]
    refine bq_intro ?_ ?_<;>intro hc4<;>simp only[decide_eq_true_eq,decide_eq_false_iff_not] at hc4
    ·simp -dsimp (disch:=try exact dx) only[wpS,wpT,zE]
     have:=key.2 (by omega)
     exact⟨_,rfl,by omega,by omega,by omega,by omega⟩
    ·simp -dsimp (disch:=try exact dx) only[wpS,wpT,zE,f5]
     refine⟨k,by omega,rfl,by omega,by simp,by simp[f0],by simp[f1],fun j h3 h4=>?_⟩
     by_cases hjk:j=k
     ·subst hjk;omega
     ·exact hz j (by omega) h4
theorem add64_ok {h:IH} (x y c:Nat) (hc:c≤1):WV prog (.func (.func 242) #[] #[]) [K64 x,K64 y,K64 c] h fun r h'=>h'=h∧r=.tuple #[K64 ((x+y+c) % 18446744073709551616),K64 ((x+y+c) / 18446744073709551616)] :=
 wv_carry Proofs.Tryz.func242 rfl (carry_add rfl x y hc) ⟨rfl,rfl⟩
theorem sub64_ok {h:IH} (x y c:Nat) (hc:c≤1):WV prog (.func (.func 268) #[] #[]) [K64 x,K64 y,K64 c] h fun r h'=>h'=h∧r=.tuple #[K64 ((x+18446744073709551616 - y - c) % 18446744073709551616),K64 (bif Nat.blt x (y+c) then 1 else 0)] :=
 wv_carry Proofs.Tryz.func268 rfl (carry_sub rfl x y hc) ⟨rfl,rfl⟩
end Go.Id

namespace Go.Id
open Go
open Go.Proofs.Tryz (prog)
open Nat renaming reduceAdd→zA,reduceEqDiff→zE,reduceLeDiff→zL
theorem valT_set_low {os:List Nat} {k x i:Nat} (h:i≤k) (hk:k<os.length):B.valT (os.set k x) i=B.valT os i :=
 B.valT_congr fun j hj=>by rw[B.getD_set hk,if_neg (by omega)]
theorem valT_set_next {os:List Nat} {k x:Nat} (hk:k<os.length):B.valT (os.set k x) (k+1)=B.valT os k+x*18446744073709551616 ^ k:=by
 rw[B.valT,valT_set_low (Nat.le_refl _) hk,B.getD_set hk,if_pos rfl]
theorem taken_ok {h:IH} {v w:Value} {a b:List Nat} (ha:WrdU h v a) (hb:WrdU h w b) (nb:B.Norm b) (hle:B.valD b≤B.valD a) :
  WV prog (.func (.func 261) #[] #[]) [v,w] h fun r h'=>Ext h h' ∧ ∃os,r=.slice (some ⟨2*h.n,0,none⟩) a.length (2*a.length+1)∧WrdU h' r os∧B.valD os=B.valD a - B.valD b:=by
 have la:=ha.2.2
 have lb:=hb.2.2
 refine enter (nt:=40) (rs:=[.tmp 4]) Proofs.Tryz.func261 rfl rfl rfl (by simp) ?_
 simp -dsimp (disch:=try exact dx) only[wpS,zE,zA,ms135,ha.1.len sl135]
 refine loop (fun m fr h1 => ∃(i bor:Nat) (os:List Nat),i+m=a.length∧fget fr 1=some w∧fget fr 5=some (.slice (some ⟨2*h.n,0,none⟩) a.length (2*a.length+1))∧fget fr 6=some (K64 bor)∧fget fr 13=some v∧fget fr 14=some (KN a.length)∧fget fr 15=some (KN i)∧bor≤1∧os.length=a.length∧B.Digs os ∧
  B.valT a i+bor*18446744073709551616 ^ i=B.valT b i+B.valT os i∧h.n<h1.n∧h1.ext.get h.n=some (.cells (os.map K64) 1 none)∧Ext h h1) a.length
  ⟨0,0,List.replicate a.length 0,by simp,by simp,by simp,by simp,by simp,by simp,by simp,by omega,by simp,B.Digs.repl _,by simp[B.valT],by simp,by rw[get_new_same _ _ rfl,repl_k64],(Ext.refl h).new _⟩ ?_
 rintro m fr h1 ⟨i,bor,os,him,f1,f5,f6,f13,f14,f15,hbor,hos,hd,hv,hn,hg,hE⟩
 simp -dsimp (disch:=try exact dx) only[wpS,f14,f15]
 refine bq_intro ?_ ?_<;>intro hc<;>simp only[decide_eq_true_eq,decide_eq_false_iff_not] at hc
 ·have hi:i<a.length:=by omega
  have da:=B.getD_lt ha.2.1 i
  have db:=B.getD_lt hb.2.1 i
  have gx:=get_some hi
  generalize hx:a.getD i 0=x at *
  generalize hy:b.getD i 0=y at *
  simp -dsimp (disch:=try exact dx) only[wpS,wpT,zE,f1,f13,f15,ha.1.idx es135 hi,ha.1.ld hE.keep (P:=prog) (t:=28) (c:=i) (by simpa using hi) ag28,map_get,gx,hb.1.len sl135]
  refine bq_cut (fun fr2 h2=>h2=h1∧fget fr2 1=some w∧fget fr2 5=some (.slice (some ⟨2*h.n,0,none⟩) a.length (2*a.length+1))∧fget fr2 6=some (K64 bor)∧fget fr2 7=some (KN i)∧fget fr2 8=some (K64 x)∧fget fr2 9=some (K64 y)∧fget fr2 13=some v∧fget fr2 14=some (KN a.length)∧fget fr2 15=some (KN i)) (fun hc=>?_) (fun hc=>?_) ?_
  ·simp only[decide_eq_true_eq] at hc
   have hi2:i<b.length:=by omega
   have gy:=get_some hi2
   rw[hy] at gy
   simp -dsimp (disch:=try exact dx) only[wpS,wpT,zE,f1,hb.1.idx es135 hi2,hb.1.ld hE.keep (P:=prog) (t:=28) (c:=i) (by simpa using hi2) ag28,map_get,gy]
   exact⟨rfl,by simp[f1],by simp[f5],by simp[f6],by simp,by simp,by simp,by simp[f13],by simp[f14],by simp[f15]⟩
  ·simp only[decide_eq_false_iff_not] at hc
   have hy0:y=0:=by rw[←hy];exact B.getD_of_ge (by omega)
   subst hy0
   simp -dsimp (disch:=try exact dx) only[wpS,wpT]
   exact⟨rfl,by simp[f1],by simp[f5],by simp[f6],by simp,by simp,by simp,by simp[f13],by simp[f14],by simp[f15]⟩
  ·rintro fr2 h2 ⟨rfl,f1,f5,f6,f7,f8,f9,f13,f14,f15⟩
   simp -dsimp (disch:=try exact dx) only[wpS,zE,f5,f6,f7,f8,f9]
   refine call (sub64_ok x y bor hbor) ?_
   rintro _ _ ⟨rfl,rfl⟩
   have hi3:i<os.length:=by omega
   generalize hdd:(x+18446744073709551616 - y - bor) % 18446744073709551616=d
   obtain⟨b2,hb2,hb1,hrel⟩ : ∃b2:Nat,(bif Nat.blt x (y+bor) then 1 else 0)=b2∧b2≤1∧x+b2*18446744073709551616=y+bor+d:=by
    by_cases hlt:x<y+bor
    ·have e:Nat.blt x (y+bor)=true:=by simp only[Nat.blt,Nat.ble_eq];exact hlt
     refine⟨1,by rw[e];rfl,by omega,by omega⟩
    ·have e:Nat.blt x (y+bor)=false:=by rw[Bool.eq_false_iff];intro h;simp[Nat.blt] at h;omega
     refine⟨0,by rw[e];rfl,by omega,by omega⟩
   rw[hb2]
   have hd2:d<18446744073709551616:=by omega
   have spl:=spl_k64 d hi3
   rename_i h3
   simp -dsimp (disch:=try exact dx) only[wpS,wpT,zE,es135,st28,f15,hg,spl,List.length_map,hos]
   refine⟨m - 1,by omega,i+1,b2,os.set i d,by omega,by simp[f1],by simp[f5],by simp,by simp[f13],by simp[f14],by simp,hb1,by rw[List.length_set,hos],hd.set _ hd2,?_,hn,get_put_same _ _ rfl,hE.put (Nat.le_refl _) _⟩
   rw[valT_set_next hi3,B.valT,B.valT,hx,hy,Nat.pow_succ]
   have e3:x*18446744073709551616 ^ i+b2*(18446744073709551616 ^ i*18446744073709551616)=(y+bor+d)*18446744073709551616 ^ i:=by rw[←hrel];grind
   have e4:(y+bor+d)*18446744073709551616 ^ i=y*18446744073709551616 ^ i+bor*18446744073709551616 ^ i+d*18446744073709551616 ^ i:=by grind
   omega
 ·obtain rfl:i=a.length:=by omega
  have hbl:=nb.len_le ha.2.1 hle
  rw[B.valT_ge hbl,B.valT_ge (Nat.le_refl _),B.valT_ge (show os.length≤a.length by omega)] at hv
  have hlt:=B.valD_lt hd
  rw[hos] at hlt
  have hb0:bor=0:=by
   apply Classical.byContradiction;intro hne
   have:bor=1:=by omega
   subst this;omega
  subst hb0
  simp -dsimp (disch:=try exact dx) only[wpS,wpT,zE,f5]
  exact⟨hE,os,⟨by rw[hos];exact sl_block hg hn (by decide) (by simp[hos]) (by omega) (by omega),hd,by omega⟩,by omega⟩
theorem added_ok {h:IH} {v w:Value} {a b:List Nat} (ha:WrdU h v a) (hb:WrdU h w b) (la:a.length≤1000001) (lb:b.length≤1000001) :
  WV prog (.func (.func 259) #[] #[]) [v,w] h fun r h'=>Ext h h' ∧ ∃os,WrdU h' r os∧B.valD os=B.valD a+B.valD b:=by
 refine enter (nt:=53) (rs:=[.tmp 4]) Proofs.Tryz.func259 rfl rfl rfl (by simp) ?_
 simp -dsimp (disch:=try exact dx) only[wpS,zE,zA,ha.1.len sl135,hb.1.len sl135]
 refine bq_cut (fun fr2 h2=>h2=h ∧ ∃(v' w':Value) (a' b':List Nat),WrdU h v' a'∧WrdU h w' b'∧a'.length≤1000001∧b'.length≤a'.length∧B.valD a'+B.valD b'=B.valD a+B.valD b∧fget fr2 0=some v'∧fget fr2 1=some w') (fun hc=>?_) (fun hc=>?_) ?_
 ·simp only[decide_eq_true_eq] at hc
  simp -dsimp (disch:=try exact dx) only[wpS,wpT,zE]
  exact⟨rfl,w,v,b,a,hb,ha,lb,by omega,by omega,by simp,by simp⟩
 ·simp only[decide_eq_false_iff_not] at hc
  simp -dsimp (disch:=try exact dx) only[wpS,wpT]
  exact⟨rfl,v,w,a,b,ha,hb,la,by omega,rfl,by simp,by simp⟩
 clear ha hb la lb
 rintro fr h1 ⟨rfl,v,w,a',b',ha,hb,la,hle,hsum,f0,f1⟩
 rw[←hsum]
 clear hsum
 have eL:(a'.length:Int)+1=((a'.length+1:Nat):Int):=by omega
 simp -dsimp (disch:=try exact dx) only[wpS,wpT,zE,ms135,f0,ha.1.len sl135,eL]
 refine loop (fun m fr h2 => ∃(i c:Nat) (os:List Nat),i+m=a'.length∧fget fr 0=some v∧fget fr 1=some w∧fget fr 5=some (.slice (some ⟨2*h1.n,0,none⟩) (a'.length+1) (2*(a'.length+1)+1))∧fget fr 6=some (K64 c)∧fget fr 21=some v∧fget fr 22=some (KN a'.length)∧fget fr 23=some (KN i)∧c≤1∧os.length=a'.length+1∧B.Digs os ∧
  B.valT os i+c*18446744073709551616 ^ i=B.valT a' i+B.valT b' i∧h1.n<h2.n∧h2.ext.get h1.n=some (.cells (os.map K64) 1 none)∧Ext h1 h2) a'.length
  ⟨0,0,List.replicate (a'.length+1) 0,by simp,by simp[f0],by simp[f1],by simp,by simp,by simp,by simp,by simp,by omega,by simp,B.Digs.repl _,by simp[B.valT],by simp,by rw[get_new_same _ _ rfl,repl_k64];rfl,(Ext.refl h1).new _⟩ ?_
 clear f0 f1
 rintro m fr h2 ⟨i,c,os,him,f0,f1,f5,f6,f21,f22,f23,hcc,hos,hd,hv,hn,hg,hE⟩
 simp -dsimp (disch:=try exact dx) only[wpS,f22,f23]
 refine bq_intro ?_ ?_<;>intro hc<;>simp only[decide_eq_true_eq,decide_eq_false_iff_not] at hc
 ·have hi:i<a'.length:=by omega
  have da:=B.getD_lt ha.2.1 i
  have db:=B.getD_lt hb.2.1 i
  have gx:=get_some hi
  generalize hx:a'.getD i 0=x at *
  generalize hy:b'.getD i 0=y at *
  simp -dsimp (disch:=try exact dx) only[wpS,wpT,zE,f1,f21,f23,ha.1.idx es135 hi,ha.1.ld hE.keep (P:=prog) (t:=28) (c:=i) (by simpa using hi) ag28,map_get,gx,hb.1.len sl135]
  refine bq_cut (fun fr2 h3=>h3=h2∧fget fr2 0=some v∧fget fr2 1=some w∧fget fr2 5=some (.slice (some ⟨2*h1.n,0,none⟩) (a'.length+1) (2*(a'.length+1)+1))∧fget fr2 6=some (K64 c)∧fget fr2 7=some (KN i)∧fget fr2 8=some (K64 x)∧fget fr2 9=some (K64 y)∧fget fr2 21=some v∧fget fr2 22=some (KN a'.length)∧fget fr2 23=some (KN i)) (fun hc=>?_) (fun hc=>?_) ?_
  ·simp only[decide_eq_true_eq] at hc
   have hi2:i<b'.length:=by omega
   have gy:=get_some hi2
   rw[hy] at gy
   simp -dsimp (disch:=try exact dx) only[wpS,wpT,zE,f1,hb.1.idx es135 hi2,hb.1.ld hE.keep (P:=prog) (t:=28) (c:=i) (by simpa using hi2) ag28,map_get,gy]
   exact⟨rfl,by simp[f0],by simp[f1],by simp[f5],by simp[f6],by simp,by simp,by simp,by simp[f21],by simp[f22],by simp[f23]⟩
  ·simp only[decide_eq_false_iff_not] at hc
   have hy0:y=0:=by rw[←hy];exact B.getD_of_ge (by omega)
   subst hy0
   simp -dsimp (disch:=try exact dx) only[wpS,wpT]
   exact⟨rfl,by simp[f0],by simp[f1],by simp[f5],by simp[f6],by simp,by simp,by simp,by simp[f21],by simp[f22],by simp[f23]⟩
  ·rintro fr2 h3 ⟨rfl,f0,f1,f5,f6,f7,f8,f9,f21,f22,f23⟩
   simp -dsimp (disch:=try exact dx) only[wpS,zE,f5,f6,f7,f8,f9]
   refine call (add64_ok x y c hcc) ?_
   rintro _ _ ⟨rfl,rfl⟩
   have hi3:i<os.length:=by omega
   generalize hs:x+y+c=s
   have spl:=spl_k64 (s % 18446744073709551616) hi3
   simp -dsimp (disch:=try exact dx) only[wpS,wpT,zE,zL,es135,st28,f23,hg,spl,List.length_map,hos]
   refine⟨m - 1,by omega,i+1,s / 18446744073709551616,os.set i (s % 18446744073709551616),by omega,by simp[f0],by simp[f1],by simp[f5],by simp,by simp[f21],by simp[f22],by simp,by omega,by rw[List.length_set,hos],hd.set _ (by omega),?_,hn,get_put_same _ _ rfl,hE.put (Nat.le_refl _) _⟩
   rw[valT_set_next hi3,B.valT,B.valT,hx,hy,Nat.pow_succ]
   have hrel:s % 18446744073709551616+s / 18446744073709551616*18446744073709551616=x+y+c:=by omega
   have e3:s % 18446744073709551616*18446744073709551616 ^ i+s / 18446744073709551616*(18446744073709551616 ^ i*18446744073709551616)=(x+y+c)*18446744073709551616 ^ i:=by rw[←hrel];grind
   have e4:(x+y+c)*18446744073709551616 ^ i=x*18446744073709551616 ^ i+y*18446744073709551616 ^ i+c*18446744073709551616 ^ i:=by grind
   omega
 ·obtain rfl:i=a'.length:=by omega
  have hi3:a'.length<os.length:=by omega
  have spl:=spl_k64 c hi3
  simp -dsimp (disch:=try exact dx) only[wpS,wpT,zE,zL,es135,st28,f0,f5,f6,ha.1.len sl135,hg,spl,List.length_map,hos]
  refine⟨hE.put (Nat.le_refl _) _,os.set a'.length c,⟨?_,hd.set _ (by omega),by rw[List.length_set];omega⟩,?_⟩
  ·rw[List.length_set,hos]
   exact sl_block (get_put_same _ _ rfl) hn (by decide) (by simp[hos]) (by omega) (by omega)
  ·have:=valT_set_next (x:=c) hi3
   rw[B.valT_ge hle,B.valT_ge (Nat.le_refl _)] at hv
   rw[B.valD,List.length_set,hos,this,hv]
theorem mulF_ok {h:IH} (x y:Nat) (hx:x<18446744073709551616) (hy:y<18446744073709551616):WV prog (.func (.func 180) #[] #[]) [K64 x,K64 y] h fun r h'=>h'=h∧r=.tuple #[K64 (x*y / 18446744073709551616),K64 (x*y % 18446744073709551616)]:=by
 obtain⟨x0,hx0⟩ : ∃x0,x0=x % 4294967296:=⟨_,rfl⟩
 obtain⟨x1,hx1⟩ : ∃x1,x1=x / 4294967296:=⟨_,rfl⟩
 obtain⟨y0,hy0⟩ : ∃y0,y0=y % 4294967296:=⟨_,rfl⟩
 obtain⟨y1,hy1⟩ : ∃y1,y1=y / 4294967296:=⟨_,rfl⟩
 have ex:x=x1*4294967296+x0:=by omega
 have ey:y=y1*4294967296+y0:=by omega
 obtain⟨m1,m2,m3⟩:=mul_high (x1:=x1) (x0:=x0) (y1:=y1) (y0:=y0) (by omega) (by omega) (by omega) (by omega)
 rw[←ex,←ey] at m3
 have a1:x &&& 4294967295=x0:=by rw[hx0];exact Nat.and_two_pow_sub_one_eq_mod x 32
 have a2:y &&& 4294967295=y0:=by rw[hy0];exact Nat.and_two_pow_sub_one_eq_mod y 32
 have a3:nshr x 32=x1:=by rw[hx1];exact Nat.shiftRight_eq_div_pow x 32
 have a4:nshr y 32=y1:=by rw[hy1];exact Nat.shiftRight_eq_div_pow y 32
 have b00:x0*y0≤4294967295*4294967295:=Nat.mul_le_mul (by omega) (by omega)
 have b01:x0*y1≤4294967295*4294967295:=Nat.mul_le_mul (by omega) (by omega)
 have b10:x1*y0≤4294967295*4294967295:=Nat.mul_le_mul (by omega) (by omega)
 have b11:x1*y1≤4294967295*4294967295:=Nat.mul_le_mul (by omega) (by omega)
 have c00:(x0:Int)*(y0:Int)=((x0*y0:Nat):Int):=by simp
 have c01:(x0:Int)*(y1:Int)=((x0*y1:Nat):Int):=by simp
 have c10:(x1:Int)*(y0:Int)=((x1*y0:Nat):Int):=by simp
 have c11:(x1:Int)*(y1:Int)=((x1*y1:Nat):Int):=by simp
 have cxy:(x:Int)*(y:Int)=((x*y:Nat):Int):=by simp
 generalize x0*y0=p00 at *
 generalize x0*y1=p01 at *
 generalize x1*y0=p10 at *
 generalize x1*y1=p11 at *
 generalize x*y=pp at *
 obtain⟨t,ht⟩ : ∃t,t=p10+p00 / 4294967296:=⟨_,rfl⟩
 rw[←ht] at m1 m2 m3
 obtain⟨w,hw⟩ : ∃w,w=t % 4294967296+p01:=⟨_,rfl⟩
 rw[←hw] at m2 m3
 have s1:nshr p00 32=p00 / 4294967296:=Nat.shiftRight_eq_div_pow p00 32
 have s2:nshr t 32=t / 4294967296:=Nat.shiftRight_eq_div_pow t 32
 have s3:nshr w 32=w / 4294967296:=Nat.shiftRight_eq_div_pow w 32
 have a5:t &&& 4294967295=t % 4294967296:=Nat.and_two_pow_sub_one_eq_mod t 32
 have eT:(p10:Int)+((p00 / 4294967296:Nat):Int)=(t:Int):=by omega
 have eW:((t % 4294967296:Nat):Int)+(p01:Int)=(w:Int):=by omega
 have wr:IntKind.u64.wrap (pp:Int)=((pp % 18446744073709551616:Nat):Int):=by rw[wrapU];omega
 refine enter (nt:=51) (rs:=[.tmp 4,.tmp 5]) Proofs.Tryz.func180 rfl rfl rfl (by simp) ?_
 simp -dsimp (maxSteps:=1000000) (disch:=first|omega|(simp only[new_n,put_n];omega)|decide +kernel|(repeat first|rw[new_n]|rw[put_n])) only[wpS,wpT,zE,zA,Int.reduceToNat,a1,a2,a3,a4,c00,c01,c10,c11,s1,eT,a5,s2,eW,s3]
 rw[cxy,wr,←m3]
 simp
theorem add64_0 {h:IH} (x y:Nat):WV prog (.func (.func 242) #[] #[]) [K64 x,K64 y,.int .u64 0] h fun r h'=>h'=h∧r=.tuple #[K64 ((x+y) % 18446744073709551616),K64 ((x+y) / 18446744073709551616)]:=add64_ok x y 0 (by omega)
theorem multiplied_ok {h:IH} {v w:Value} {a b:List Nat} (ha:WrdU h v a) (hb:WrdU h w b) (hab:a.length+b.length≤1100000) :
  WV prog (.func (.func 174) #[] #[]) [v,w] h fun r h'=>Ext h h' ∧ ∃os,WrdU h' r os∧B.valD os=B.valD a*B.valD b:=by
 have eL:(a.length:Int)+(b.length:Int)=((a.length+b.length:Nat):Int):=by omega
 refine enter (nt:=80) (rs:=[.tmp 4]) Proofs.Tryz.func174 rfl rfl rfl (by simp) ?_
 simp -dsimp (disch:=try exact dx) only[wpS,zE,zA,ms135,ha.1.len sl135,hb.1.len sl135,eL]
 refine loop (fun m fr h1 => ∃(i:Nat) (os:List Nat),i+m=a.length∧Ext h h1∧h.n<h1.n∧h1.ext.get h.n=some (.cells (os.map K64) 1 none)∧os.length=a.length+b.length∧B.Digs os∧B.valD os=B.valT a i*B.valD b∧(∀k,i+b.length≤k→os.getD k 0=0) ∧
   fget fr 1=some w∧fget fr 5=some (.slice (some ⟨2*h.n,0,none⟩) (a.length+b.length) (2*(a.length+b.length)+1))∧fget fr 22=some v∧fget fr 23=some (KN a.length)∧fget fr 24=some (KN i)) a.length
  ⟨0,List.replicate (a.length+b.length) 0,by omega,(Ext.refl h).new _,by simp,by rw[get_new_same _ _ rfl,repl_k64],by simp,B.Digs.repl _,by rw[B.valD_repl];simp[B.valT],fun k _=>B.getD_repl _ _,by simp,by simp,by simp,by simp,by simp⟩ ?_
 rintro m fr h1 ⟨i,os,him,hE,hn,hg,hol,hod,hov,hoz,f1,f5,f22,f23,f24⟩
 simp -dsimp (disch:=try exact dx) only[wpS,f23,f24]
 refine bq_intro ?_ ?_<;>intro hc<;>simp only[decide_eq_true_eq,decide_eq_false_iff_not] at hc
 ·have hi:i<a.length:=by omega
  have da:=B.getD_lt ha.2.1 i
  have gx:=get_some hi
  generalize hx:a.getD i 0=x at *
  simp -dsimp (disch:=try exact dx) only[wpS,wpT,zE,f1,f22,f24,ha.1.idx es135 hi,ha.1.ld hE.keep (P:=prog) (t:=28) (c:=i) (by simpa using hi) ag28,map_get,gx,hb.1.len sl135]
  refine loop (fun m2 fr h2 => ∃(j c:Nat) (os2:List Nat),j+m2=b.length∧Ext h h2∧h.n<h2.n∧h2.ext.get h.n=some (.cells (os2.map K64) 1 none)∧os2.length=a.length+b.length∧B.Digs os2∧c<18446744073709551616∧B.valD os2+c*18446744073709551616 ^ (i+j)=B.valT a i*B.valD b+x*B.valT b j*18446744073709551616 ^ i∧(∀k,i+b.length≤k→os2.getD k 0=0) ∧
    fget fr 1=some w∧fget fr 5=some (.slice (some ⟨2*h.n,0,none⟩) (a.length+b.length) (2*(a.length+b.length)+1))∧fget fr 22=some v∧fget fr 23=some (KN a.length)∧fget fr 24=some (KN i)∧fget fr 6=some (KN i)∧fget fr 7=some (K64 x)∧fget fr 8=some (K64 c)∧fget fr 29=some w∧fget fr 30=some (KN b.length)∧fget fr 31=some (KN j)) b.length
   ⟨0,0,os,by omega,hE,hn,hg,hol,hod,by omega,by rw[hov];simp[B.valT],hoz,by simp[f1],by simp[f5],by simp[f22],by simp[f23],by simp[f24],by simp,by simp,by simp,by simp,by simp,by simp⟩ ?_
  clear hE hn hg hol hod hov hoz f1 f5 f22 f23 f24
  rintro m2 fr h2 ⟨j,c,os2,hjm,hE,hn,hg,hol,hod,hc4,hov,hoz,f1,f5,f22,f23,f24,f6,f7,f8,f29,f30,f31⟩
  simp -dsimp (disch:=try exact dx) only[wpS,f30,f31]
  refine bq_intro ?_ ?_<;>intro hc2<;>simp only[decide_eq_true_eq,decide_eq_false_iff_not] at hc2
  ·have hj:j<b.length:=by omega
   have db:=B.getD_lt hb.2.1 j
   have doo:=B.getD_lt hod (i+j)
   have hr:h2.row (2*h.n)=some (os2.map K64):=row_kn hg
   have gy:=get_some hj
   have go:=get_some (show i+j<os2.length by omega)
   generalize hy:b.getD j 0=y at *
   generalize ho:os2.getD (i+j) 0=o at *
   have gor:(os2.map K64)[i+j]?=some (K64 o):=by rw[List.getElem?_map,go];rfl
   have eI:(i:Int)+(j:Int)=((i+j:Nat):Int):=by omega
   have hp:x*y≤18446744073709551615*18446744073709551615:=Nat.mul_le_mul (by omega) (by omega)
   simp -dsimp (disch:=try exact dx) only[wpS,wpT,zE,f7,f29,f31,hb.1.idx es135 hj,hb.1.ld hE.keep (P:=prog) (t:=28) (c:=j) (by simpa using hj) ag28,map_get,gy]
   refine call (mulF_ok x y da db) ?_
   rintro _ _ ⟨rfl,rfl⟩
   obtain⟨p,hpp⟩ : ∃p,p=x*y:=⟨_,rfl⟩
   rw[←hpp] at hp ⊢
   rename_i h3
   simp -dsimp (disch:=try exact dx) only[wpS,zE,es135,ld28,f5,f6,hr,gor,eI]
   refine call (add64_0 o (p % 18446744073709551616)) ?_
   rintro _ _ ⟨rfl,rfl⟩
   rename_i h4
   simp -dsimp (disch:=try exact dx) only[wpS,zE,f8]
   refine call (add64_0 ((o+p % 18446744073709551616) % 18446744073709551616) c) ?_
   rintro _ _ ⟨rfl,rfl⟩
   rename_i h5
   obtain⟨s,hs⟩ : ∃s,s=c+o+p:=⟨_,rfl⟩
   have eR:((o+p % 18446744073709551616) % 18446744073709551616+c) % 18446744073709551616=s % 18446744073709551616:=by omega
   have eQ:((p / 18446744073709551616:Nat):Int)+(((o+p % 18446744073709551616) / 18446744073709551616:Nat):Int)+((((o+p % 18446744073709551616) % 18446744073709551616+c) / 18446744073709551616:Nat):Int)=((s / 18446744073709551616:Nat):Int):=by omega
   have spl:=spl_k64 (s % 18446744073709551616) (show i+j<os2.length by omega)
   rw[eR]
   simp -dsimp (maxSteps:=1000000) (disch:=first|omega|(simp only[new_n,put_n];omega)|decide +kernel|(repeat first|rw[new_n]|rw[put_n])) only[wpS,wpT,zE,es135,st28,f5,f6,f31,eI,eQ,hg,spl,List.length_map,hol]
   refine⟨m2 - 1,by omega,j+1,s / 18446744073709551616,os2.set (i+j) (s % 18446744073709551616),by omega,hE.put (Nat.le_refl _) _,hn,get_put_same _ _ rfl,by rw[List.length_set,hol],hod.set _ (by omega),by omega,?_,?_,by simp[f1],by simp[f5],by simp[f22],by simp[f23],by simp[f24],by simp[f6],by simp[f7],by simp,by simp[f29],by simp[f30],by simp⟩
   ·have hv:=B.valD_set (s % 18446744073709551616) (show i+j<os2.length by omega)
    rw[ho] at hv
    have hsd:s % 18446744073709551616+s / 18446744073709551616*18446744073709551616=c+o+x*y:=by omega
    rw[B.valT,hy]
    have e1:18446744073709551616 ^ (i+(j+1))=18446744073709551616 ^ (i+j)*18446744073709551616:=by rw[←Nat.add_assoc,Nat.pow_succ]
    have e2:18446744073709551616 ^ (i+j)=18446744073709551616 ^ i*18446744073709551616 ^ j:=Nat.pow_add _ _ _
    rw[e1]
    have e3:s % 18446744073709551616*18446744073709551616 ^ (i+j)+s / 18446744073709551616*(18446744073709551616 ^ (i+j)*18446744073709551616)=(c+o+x*y)*18446744073709551616 ^ (i+j):=by rw[←hsd];grind
    have e4:x*(B.valT b j+y*18446744073709551616 ^ j)*18446744073709551616 ^ i=x*B.valT b j*18446744073709551616 ^ i+x*y*18446744073709551616 ^ (i+j):=by rw[e2];grind
    have e5:(c+o+x*y)*18446744073709551616 ^ (i+j)=c*18446744073709551616 ^ (i+j)+o*18446744073709551616 ^ (i+j)+x*y*18446744073709551616 ^ (i+j):=by grind
    omega
   ·intro k hk
    rw[B.getD_set (by omega),if_neg (by omega)]
    exact hoz k hk
  ·obtain rfl:j=b.length:=by omega
   have hz:=hoz (i+b.length) (Nat.le_refl _)
   have eI:(i:Int)+(b.length:Int)=((i+b.length:Nat):Int):=by omega
   have spl:=spl_k64 c (show i+b.length<os2.length by omega)
   simp -dsimp (disch:=try exact dx) only[wpS,wpT,zE,es135,st28,f1,f5,f6,f8,f24,hb.1.len sl135,eI,hg,spl,List.length_map,hol]
   refine⟨m - 1,by omega,i+1,os2.set (i+b.length) c,by omega,hE.put (Nat.le_refl _) _,hn,get_put_same _ _ rfl,by rw[List.length_set,hol],hod.set _ (by omega),?_,?_,by simp[f1],by simp[f5],by simp[f22],by simp[f23],by simp⟩
   ·have hv:=B.valD_set c (show i+b.length<os2.length by omega)
    rw[hz,Nat.zero_mul,Nat.add_zero] at hv
    rw[hv,hov,B.valT,hx,show B.valT b b.length=B.valD b from rfl]
    grind
   ·intro k hk
    rw[B.getD_set (by omega),if_neg (by omega)]
    exact hoz k (by omega)
 ·obtain rfl:i=a.length:=by omega
  simp -dsimp (disch:=try exact dx) only[wpS,wpT,zE,f5]
  refine⟨hE,os,⟨?_,hod,by omega⟩,hov⟩
  rw[hol]
  exact sl_block hg hn (by decide) (by rw[List.length_map,hol];omega) (by omega) (by omega)
end Go.Id

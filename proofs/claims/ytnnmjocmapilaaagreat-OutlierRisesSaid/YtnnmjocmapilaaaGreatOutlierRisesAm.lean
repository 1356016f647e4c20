/-
  Contracts: the program's long integers: words, trimmed, compared, added, subtracted.
-/
import Derived.Test.YtnnmjocmapilaaaGreatOutlierRisesAl
set_option linter.unusedVariables false
set_option linter.unusedSimpArgs false
set_option linter.defProp false
set_option linter.deprecated false
namespace Go.Id
open Go
open Go.Proofs.Tryz (prog)
open Nat renaming reduceAdd→zA,reduceEqDiff→zE,reduceLeDiff→zL
def il (h:IH) (v:Value) (ds:List Nat):Prop:=bH h 1 v ds.length (ds.map K64)∧B.bJ ds∧ds.length≤1100000
def Wrd (h:IH) (v:Value) (x:Nat):Prop:=∃ds,il h v ds∧B.Norm ds∧B.ao ds=x
variable {ds:List Nat}{v:Value}{h h':IH}
def il.aa (d:il h v ds) (e:aK h h'):il h' v ds:=⟨d.1.aa e,d.2⟩
def Wrd.aa {x:Nat} (d:Wrd h v x) (e:aK h h'):Wrd h' v x:=let ⟨ds,a,b⟩:=d;⟨ds,a.aa e,b⟩
variable {k:Nat}
def il.putAt (d:il h v ds) (hk:dN v≠some (2*k)) (o:bI):il (h.put k o) v ds:=⟨d.1.putAt hk o,d.2⟩
def a9 (h:IH) (v:Value) (z:Int):Prop:=∃s,v=.agg #[.bool (decide (z<0)),s]∧Wrd h s z.natAbs
variable {z:Int}
def a9.aa (d:a9 h v z) (e:aK h h'):a9 h' v z:=let ⟨s,a,b⟩:=d;⟨s,a,b.aa e⟩
def a9.form (d:a9 h v z) : ∃s n,v=.agg #[.bool (decide (z<0)),s]∧s.cells = #[s]∧aB s=true∧(∀{P:Program} {t:TypeId} (_:cj P (some t)=true) (h':IH),ot P h' t s=some (.int .i64 ((n:Nat):Int)))∧(n=0↔z=0):=by
 obtain⟨s,rfl,ds,hD,hN,hx⟩:=d
 refine⟨s,ds.length,rfl,hD.1.cells,hD.1.cok,fun hT h'=>hD.1.len hT h',?_⟩
 have:=hN.kI
 rw[hx] at this
 rw[List.length_eq_zero_iff,←this];omega
def MQ (l:List Nat):(l.map K64).all aB=true:=by simp[aB]
theorem oI (n:Nat):bB n [.int .u64 0]=(List.replicate n 0).map K64:=by rw[Ak,List.map_replicate];rfl
def kE {os:List Nat} (x:Nat) (hk:k<os.length):IH.aJ (os.map K64) k [K64 x]=(os.set k x).map K64:=by
 rw[gS (by simpa using hk),List.map_set]
def zK (hd:il h v ds) (b:Bool):WV prog (.func (.func 193) #[] #[]) [.bool b,v] h fun r h'=>(Ext h h'∧a9 h' r (if b then -(B.ao ds:Int) else B.ao ds)) ∧ ∀k o,dN v≠some (2*k)→a9 (h'.put k o) r (if b then -(B.ao ds:Int) else B.ao ds):=by
 have hb:=hd.2.2
 refine enter (nt:=29) (rs:=[.cell 4 135]) Proofs.Tryz.func193 rfl rfl rfl (by simp) ?_
 simp -dsimp (disch:=omega) only[wpS,zE,zA,jI,hd.1.len fE]
 refine loop (fun m fr h1=>h1=h.new (.cells [.bool false,.slice none 0 0] 0 none)∧m≤ds.length∧ab fr 5=some (KN m)∧ab fr 0=some (.bool b)∧ab fr 1=some v∧ab fr 4=some (ptr (2*h.n) 0) ∧ ∀j,m≤j→ds.getD j 0=0) ds.length ⟨rfl,Nat.le_refl _,by simp,by simp,by simp,by simp,fun j hj=>B.cW hj⟩ ?_
 rintro m fr h1 ⟨rfl,hm,f5,f0,f1,f4,hz⟩
 have e1:Ext h (h.new (.cells [.bool false,.slice none 0 0] 0 none)):=(Ext.refl h).new _
 have fin : ∀n:Nat,n≤ds.length→(∀j,n≤j→ds.getD j 0=0)→(n=0∨ds.getD (n - 1) 0≠0) → ∃r,cT prog (h.new (.cells [.bool false,.slice none 0 0] 0 none)) 133 v none (some (KN n)) none=some r∧dN r=dN v∧il (h.new (.cells [.bool false,.slice none 0 0] 0 none)) r (ds.take n)∧B.Norm (ds.take n)∧B.ao (ds.take n)=B.ao ds∧(0<n↔0<B.ao ds):=by
  intro n hn hz hne
  obtain⟨r,hr,hs⟩:=hd.1.slice e1.aa (P:=prog) (t:=133) Uf Ei (l:=0) (m:=n) (Nat.zero_le _) hn (lo:=none) (hi:=some (KN n)) rfl (fun c hc=>mi (k:=.i64) (by omega))
  have hl:(ds.take n).length=n:=by simp[hn]
  have hN:B.Norm (ds.take n):=by
   rcases hne with rfl|hne
   ·left;simp
   ·by_cases h0:n=0
    ·subst h0;left;simp
    ·right
     rw[hl,B.oT,if_pos (by omega)];exact hne
  have hv:=B.wL hn hz
  refine⟨r,hr,xQ Uf hr,⟨?_,hd.2.1.take n,by rw[hl];omega⟩,hN,hv,?_⟩
  ·rw[hl]
   have hs':bH h 1 r n ((ds.take n).map K64):=by simpa [List.map_take] using hs
   exact hs'.ext e1
  ·have hz:=hN.kI
   rw[hv] at hz
   constructor
   ·intro h0
    apply Nat.pos_of_ne_zero;intro h1
    have:=hz.1 h1
    rw[this] at hl;simp at hl;omega
   ·intro h0
    apply Nat.pos_of_ne_zero;intro h1
    rw[h1] at hz
    have:=hz.2 (by simp)
    omega
 have out : ∀(n:Nat) (r:Value),dN r=dN v→il (h.new (.cells [.bool false,.slice none 0 0] 0 none)) r (ds.take n)→B.Norm (ds.take n)→B.ao (ds.take n)=B.ao ds→(0<n↔0<B.ao ds) → ∀c:Bool,c=(b && decide (0<n)) →
   (Ext h ((h.new (.cells [.bool false,.slice none 0 0] 0 none)).put h.n (.cells [.bool c,r] 0 none))∧a9 ((h.new (.cells [.bool false,.slice none 0 0] 0 none)).put h.n (.cells [.bool c,r] 0 none)) (.agg #[.bool c,r]) (if b then -(B.ao ds:Int) else B.ao ds)) ∧ ∀k o,dN v≠some (2*k)→a9 (((h.new (.cells [.bool false,.slice none 0 0] 0 none)).put h.n (.cells [.bool c,r] 0 none)).put k o) (.agg #[.bool c,r]) (if b then -(B.ao ds:Int) else B.ao ds):=by
  rintro n r hbk hW hN hv hp c rfl
  have hk:=hW.aa ((aK.refl _).put (ah h _ rfl) (.cells [.bool (b && decide (0<n)),r] 0 none))
  have hc:(b && decide (0<n))=decide ((if b then -(B.ao ds:Int) else B.ao ds)<0):=by
   rw[show decide (0<n)=decide (0<B.ao ds) from decide_eq_decide.2 hp]
   cases b<;>simp<;>omega
  have ha:(if b then -(B.ao ds:Int) else (B.ao ds:Int)).natAbs=B.ao ds:=by cases b<;>simp
  refine⟨⟨e1.put (Nat.le_refl _) _,r,by rw[hc],ds.take n,hk,hN,by rw[ha,hv]⟩,fun k o hbv=>⟨r,by rw[hc],ds.take n,hk.putAt (by rw[hbk];exact hbv) o,hN,by rw[ha,hv]⟩⟩
 rcases Nat.eq_zero_or_pos m with rfl|hp
 ·obtain⟨r,hr,hbk,hW,hN,hv,hpp⟩:=fin 0 hm hz (.inl rfl)
  have:=out 0 r hbk hW hN hv hpp false (by simp)
  cases b
  ·simp -dsimp (disch:=omega) only[wpS,wpT,zE,zL,zA,BC,vz,pO,gH,bR,f5,f0,f1,f4,hr,hW.1.cells,hW.1.cok]
   exact this
  ·simp -dsimp (disch:=omega) only[wpS,wpT,zE,zL,zA,BC,vz,pO,gH,bR,f5,f0,f1,f4,hr,hW.1.cells,hW.1.cok]
   exact this
 ·obtain⟨k,rfl⟩ : ∃k,m=k+1:=⟨m - 1,by omega⟩
  have h2:IntKind.i64.wrap (((k+1:Nat):Int) - 1)=(k:Int):=by rw[wrap_i64 (by omega)];omega
  simp -dsimp (disch:=omega) only[wpS,wpT,zE,f5,f1,h2,hd.1.idx gv (show k<ds.length by omega),hd.1.ld e1.aa (P:=prog) (t:=28) (c:=k) (by simp<;>omega) tu,cp,get_some (show k<ds.length by omega)]
  refine au (fun hc=>?_) (fun hc=>?_)
  ·simp -dsimp (disch:=omega) only[wpS,zE,f5,h2]
   refine⟨k,by omega,rfl,by omega,by simp,by simp[f0],by simp[f1],by simp[f4],fun j hj=>?_⟩
   by_cases hjk:j=k
   ·subst hjk;simpa using hc
   ·exact hz j (by omega)
  ·obtain⟨r,hr,hbk,hW,hN,hv,hpp⟩:=fin (k+1) hm hz (.inr (by simpa using hc))
   cases b
   ·have:=out (k+1) r hbk hW hN hv hpp false (by simp)
    simp -dsimp (disch:=omega) only[wpS,wpT,zE,zL,zA,BC,vz,pO,gH,bR,f5,f0,f1,f4,hr,hW.1.cells,hW.1.cok]
    exact this
   ·have:=out (k+1) r hbk hW hN hv hpp true (by simp)
    simp -dsimp (disch:=omega) only[wpS,wpT,zE,zL,zA,BC,vz,pO,gH,bR,f5,f0,f1,f4,hr,hW.1.cells,hW.1.cok]
    exact this
def fT (hd:il h v ds) (b:Bool):WV prog (.func (.func 193) #[] #[]) [.bool b,v] h fun r h'=>Ext h h'∧a9 h' r (if b then -(B.ao ds:Int) else B.ao ds):=(zK hd b).mono fun _ _ k=>k.1
def yu {w:Value} {a b:List Nat} (ha:il h v a) (hb:il h w b) (na:B.Norm a) (nb:B.Norm b) :
  WV prog (.func (.func 238) #[] #[]) [v,w] h fun r h'=>h'=h ∧ ∃c:Int,r=KI c∧(c<0↔B.ao a<B.ao b)∧(c=0↔B.ao a=B.ao b) ∧ -9223372036854775808≤c∧c≤9223372036854775807:=by
 have la:=ha.2.2
 have lb:=hb.2.2
 refine enter (nt:=43) (rs:=[.tmp 4]) Proofs.Tryz.func238 rfl rfl rfl (by simp) ?_
 simp -dsimp (disch:=omega) only[wpS,zE,zA,ha.1.len fE,hb.1.len fE]
 refine au ?_ ?_<;>intro hc<;>simp only[bne_iff_ne,bne_eq_false_iff_eq,ne_eq] at hc
 ·simp -dsimp (disch:=omega) only[wpS,wpT,zE,ha.1.len fE,hb.1.len fE]
  refine⟨_,rfl,?_,?_,by omega,by omega⟩
  ·constructor
   ·intro h1;exact B.jX ha.2.1 nb (by omega)
   ·intro h1
    have:=na.jd hb.2.1 (Nat.le_of_lt h1)
    omega
  ·constructor
   ·intro h1;omega
   ·intro h1
    have h2:=na.jd hb.2.1 (Nat.le_of_eq h1)
    have h3:=nb.jd ha.2.1 (Nat.le_of_eq h1.symm)
    omega
 ·have hl:a.length=b.length:=by omega
  simp -dsimp (disch:=omega) only[wpS,wpT,zE,ha.1.len fE]
  refine loop (fun m fr h1=>h1=h∧m≤a.length∧ab fr 5=some (KI ((m:Int) - 1))∧ab fr 0=some v∧ab fr 1=some w ∧ ∀j,m≤j→j<a.length→a.getD j 0=b.getD j 0) a.length ⟨rfl,Nat.le_refl _,by simp,by simp,by simp,fun j hj hj2=>by omega⟩ ?_
  rintro m fr h1 ⟨rfl,hm,f5,f0,f1,hz⟩
  rcases Nat.eq_zero_or_pos m with rfl|hp
  ·simp -dsimp (disch:=omega) only[wpS,wpT,zE,f5]
   refine⟨_,rfl,?_,?_,by omega,by omega⟩
   ·have:=B.mj hl (fun j hj=>hz j (Nat.zero_le _) hj);omega
   ·have:=B.mj hl (fun j hj=>hz j (Nat.zero_le _) hj);omega
  ·obtain⟨k,rfl⟩ : ∃k,m=k+1:=⟨m - 1,by omega⟩
   have h2:(((k+1:Nat):Int) - 1)=(k:Int):=by omega
   rw[h2] at f5
   have da:=B.bS ha.2.1 k
   have db:=B.bS hb.2.1 k
   have key:(a.getD k 0<b.getD k 0→B.ao a<B.ao b)∧(b.getD k 0<a.getD k 0→B.ao b<B.ao a) :=
    ⟨fun h=>B.jW ha.2.1 hl (by omega) h (fun j x y=>hz j (by omega) y),fun h=>B.jW hb.2.1 hl.symm (by omega) h (fun j x y=>(hz j (by omega) (by omega)).symm)⟩
   simp -dsimp (disch:=try exact dx) only[wpS,wpT,zE,f5,f0,f1,ha.1.idx gv (show k<a.length by omega),ha.1.ld (aK.refl _) (P:=prog) (t:=28) (c:=k) (by simp<;>omega) tu,hb.1.idx gv (show k<b.length by omega),hb.1.ld (aK.refl _) (P:=prog) (t:=28) (c:=k) (by simp<;>omega) tu,cp,get_some (show k<a.length by omega),get_some (show k<b.length by omega)]
   refine au ?_ ?_<;>intro hc<;>simp only[decide_eq_true_eq,decide_eq_false_iff_not] at hc
   ·simp -dsimp (disch:=try exact dx) only[wpS,wpT,zE]
    have:=key.1 (by omega)
    exact⟨_,rfl,by omega,by omega,by omega,by omega⟩
   ·simp -dsimp (disch:=try exact dx) only[wpS,wpT,zE,f5,f0,f1,ha.1.idx gv (show k<a.length by omega),ha.1.ld (aK.refl _) (P:=prog) (t:=28) (c:=k) (by simp<;>omega) tu,hb.1.idx gv (show k<b.length by omega),hb.1.ld (aK.refl _) (P:=prog) (t:=28) (c:=k) (by simp<;>omega) tu,cp,get_some (show k<a.length by omega),get_some (show k<b.length by omega)]
    refine au ?_ ?_<;>intro hc4<;>simp only[decide_eq_true_eq,decide_eq_false_iff_not] at hc4
    ·simp -dsimp (disch:=omega) only[wpS,wpT,zE]
     have:=key.2 (by omega)
     exact⟨_,rfl,by omega,by omega,by omega,by omega⟩
    ·simp -dsimp (disch:=omega) only[wpS,wpT,zE,f5]
     refine⟨k,by omega,rfl,by omega,by simp,by simp[f0],by simp[f1],fun j h3 h4=>?_⟩
     by_cases hjk:j=k
     ·subst hjk;omega
     ·exact hz j (by omega) h4
def IQ (x y c:Nat) (hc:c≤1):WV prog (.func (.func 245) #[] #[]) [K64 x,K64 y,K64 c] h fun r h'=>h'=h∧r=.tuple #[K64 ((x+y+c) % 18446744073709551616),K64 ((x+y+c) / 18446744073709551616)] :=
 Gh Proofs.Tryz.func245 rfl (PD rfl x y hc) ⟨rfl,rfl⟩
def GI (x y c:Nat) (hc:c≤1):WV prog (.func (.func 257) #[] #[]) [K64 x,K64 y,K64 c] h fun r h'=>h'=h∧r=.tuple #[K64 ((x+18446744073709551616 - y - c) % 18446744073709551616),K64 (bif Nat.blt x (y+c) then 1 else 0)] :=
 Gh Proofs.Tryz.func257 rfl (PB rfl x y hc) ⟨rfl,rfl⟩
variable {os:List Nat}{x k:Nat}
theorem D3 {i:Nat} (h:i≤k) (hk:k<os.length):B.aI (os.set k x) i=B.aI os i :=
 B.fm fun j hj=>by rw[B.dD hk,if_neg (by omega)]
theorem kC (hk:k<os.length):B.aI (os.set k x) (k+1)=B.aI os k+x*18446744073709551616 ^ k:=by
 rw[B.aI,D3 (Nat.le_refl _) hk,B.dD hk,if_pos rfl]
variable {v:Value}{b:List Nat}{h:IH}{a:List Nat}{w:Value}
def GF (ha:il h v a) (hb:il h w b) (nb:B.Norm b) (hle:B.ao b≤B.ao a) :
  WV prog (.func (.func 239) #[] #[]) [v,w] h fun r h'=>Ext h h' ∧ ∃os,r=.slice (some ⟨2*h.n,0,none⟩) a.length (2*a.length+1)∧il h' r os∧B.ao os=B.ao a - B.ao b:=by
 have la:=ha.2.2
 have lb:=hb.2.2
 refine enter (nt:=40) (rs:=[.tmp 4]) Proofs.Tryz.func239 rfl rfl rfl (by simp) ?_
 simp -dsimp (disch:=omega) only[wpS,zE,zA,HJ,ha.1.len fE]
 refine loop (fun m fr h1 => ∃(i bor:Nat) (os:List Nat),i+m=a.length∧ab fr 1=some w∧ab fr 5=some (.slice (some ⟨2*h.n,0,none⟩) a.length (2*a.length+1))∧ab fr 6=some (K64 bor)∧ab fr 13=some v∧ab fr 14=some (KN a.length)∧ab fr 15=some (KN i)∧bor≤1∧os.length=a.length∧B.bJ os ∧
  B.aI a i+bor*18446744073709551616 ^ i=B.aI b i+B.aI os i∧h.n<h1.n∧h1.ext.get h.n=some (.cells (os.map K64) 1 none)∧Ext h h1) a.length
  ⟨0,0,List.replicate a.length 0,by simp,by simp,by simp,by simp,by simp,by simp,by simp,by omega,by simp,B.bJ.bB _,by simp[B.aI],by simp,by rw[ah _ _ rfl,oI],(Ext.refl h).new _⟩ ?_
 rintro m fr h1 ⟨i,bor,os,him,f1,f5,f6,f13,f14,f15,Sj,hos,hd,hv,hn,hg,hE⟩
 simp -dsimp (disch:=omega) only[wpS,f14,f15]
 refine au ?_ ?_<;>intro hc<;>simp only[decide_eq_true_eq,decide_eq_false_iff_not] at hc
 ·have hi:i<a.length:=by omega
  have da:=B.bS ha.2.1 i
  have db:=B.bS hb.2.1 i
  have gx:=get_some hi
  generalize hx:a.getD i 0=x at *
  generalize hy:b.getD i 0=y at *
  simp -dsimp (disch:=omega) only[wpS,wpT,zE,f1,f13,f15,ha.1.idx gv hi,ha.1.ld hE.aa (P:=prog) (t:=28) (c:=i) (by simpa using hi) tu,cp,gx,hb.1.len fE]
  refine fB (fun fr2 h2=>h2=h1∧ab fr2 1=some w∧ab fr2 5=some (.slice (some ⟨2*h.n,0,none⟩) a.length (2*a.length+1))∧ab fr2 6=some (K64 bor)∧ab fr2 7=some (KN i)∧ab fr2 8=some (K64 x)∧ab fr2 9=some (K64 y)∧ab fr2 13=some v∧ab fr2 14=some (KN a.length)∧ab fr2 15=some (KN i)) (fun hc=>?_) (fun hc=>?_) ?_
  ·simp only[decide_eq_true_eq] at hc
   have hi2:i<b.length:=by omega
   have gy:=get_some hi2
   rw[hy] at gy
   simp -dsimp (disch:=omega) only[wpS,wpT,zE,f1,hb.1.idx gv hi2,hb.1.ld hE.aa (P:=prog) (t:=28) (c:=i) (by simpa using hi2) tu,cp,gy]
   exact⟨rfl,by simp[f1,f5,f6,f13,f14,f15]⟩
  ·simp only[decide_eq_false_iff_not] at hc
   have hy0:y=0:=by rw[←hy];exact B.cW (by omega)
   subst hy0
   simp -dsimp (disch:=omega) only[wpS,wpT]
   exact⟨rfl,by simp[f1,f5,f6,f13,f14,f15]⟩
  ·rintro fr2 h2 ⟨rfl,f1,f5,f6,f7,f8,f9,f13,f14,f15⟩
   simp -dsimp (disch:=omega) only[wpS,zE,f5,f6,f7,f8,f9]
   refine call (GI x y bor Sj) ?_
   rintro _ _ ⟨rfl,rfl⟩
   have hi3:i<os.length:=by omega
   generalize hdd:(x+18446744073709551616 - y - bor) % 18446744073709551616=d
   obtain⟨b2,hb2,hb1,jY⟩ : ∃b2:Nat,(bif Nat.blt x (y+bor) then 1 else 0)=b2∧b2≤1∧x+b2*18446744073709551616=y+bor+d:=by
    by_cases hlt:x<y+bor
    ·have e:Nat.blt x (y+bor)=true:=by simp only[Nat.blt,Nat.ble_eq];exact hlt
     refine⟨1,by rw[e];rfl,by omega,by omega⟩
    ·have e:Nat.blt x (y+bor)=false:=by rw[Bool.eq_false_iff];intro h;simp[Nat.blt] at h;omega
     refine⟨0,by rw[e];rfl,by omega,by omega⟩
   rw[hb2]
   have hd2:d<18446744073709551616:=by omega
   have spl:=kE d hi3
   rename_i h3
   simp -dsimp (disch:=omega) only[wpS,wpT,zE,gv,wP,f15,hg,spl,List.length_map,hos]
   refine⟨m - 1,by omega,i+1,b2,os.set i d,by omega,by simp[f1],by simp[f5],by simp,by simp[f13],by simp[f14],by simp,hb1,by rw[List.length_set,hos],hd.set _ hd2,?_,hn,ae _ _ rfl,hE.put (Nat.le_refl _) _⟩
   rw[kC hi3,B.aI,B.aI,hx,hy,Nat.pow_succ]
   have e3:x*18446744073709551616 ^ i+b2*(18446744073709551616 ^ i*18446744073709551616)=(y+bor+d)*18446744073709551616 ^ i:=by rw[←jY];grind
   have e4:(y+bor+d)*18446744073709551616 ^ i=y*18446744073709551616 ^ i+bor*18446744073709551616 ^ i+d*18446744073709551616 ^ i:=by grind
   omega
 ·obtain rfl:i=a.length:=by omega
  have hbl:=nb.jd ha.2.1 hle
  rw[B.iS hbl,B.iS (Nat.le_refl _),B.iS (show os.length≤a.length by omega)] at hv
  have hlt:=B.jz hd
  rw[hos] at hlt
  have hb0:bor=0:=by
   apply Classical.byContradiction;intro hne
   have:bor=1:=by omega
   subst this;omega
  subst hb0
  simp -dsimp (disch:=omega) only[wpS,wpT,zE,f5]
  exact⟨hE,os,⟨by rw[hos];exact cI hg hn (by decide) (by simp[hos]) (by omega) (by omega),hd,by omega⟩,by omega⟩
def TJ (ha:il h v a) (hb:il h w b) (la:a.length≤1000001) (lb:b.length≤1000001) :
  WV prog (.func (.func 237) #[] #[]) [v,w] h fun r h'=>Ext h h' ∧ ∃os,il h' r os∧B.ao os=B.ao a+B.ao b:=by
 refine enter (nt:=53) (rs:=[.tmp 4]) Proofs.Tryz.func237 rfl rfl rfl (by simp) ?_
 simp -dsimp (disch:=omega) only[wpS,zE,zA,ha.1.len fE,hb.1.len fE]
 refine fB (fun fr2 h2=>h2=h ∧ ∃(v' w':Value) (a' b':List Nat),il h v' a'∧il h w' b'∧a'.length≤1000001∧b'.length≤a'.length∧B.ao a'+B.ao b'=B.ao a+B.ao b∧ab fr2 0=some v'∧ab fr2 1=some w') (fun hc=>?_) (fun hc=>?_) ?_
 ·simp only[decide_eq_true_eq] at hc
  simp -dsimp (disch:=omega) only[wpS,wpT,zE]
  exact⟨rfl,w,v,b,a,hb,ha,lb,by omega,by omega,by simp⟩
 ·simp only[decide_eq_false_iff_not] at hc
  simp -dsimp (disch:=omega) only[wpS,wpT]
  exact⟨rfl,v,w,a,b,ha,hb,la,by omega,rfl,by simp⟩
 clear ha hb la lb
 rintro fr h1 ⟨rfl,v,w,a',b',ha,hb,la,hle,Ig,f0,f1⟩
 rw[←Ig]
 clear Ig
 have eL:(a'.length:Int)+1=((a'.length+1:Nat):Int):=by omega
 simp -dsimp (disch:=omega) only[wpS,wpT,zE,HJ,f0,ha.1.len fE,eL]
 refine loop (fun m fr h2 => ∃(i c:Nat) (os:List Nat),i+m=a'.length∧ab fr 0=some v∧ab fr 1=some w∧ab fr 5=some (.slice (some ⟨2*h1.n,0,none⟩) (a'.length+1) (2*(a'.length+1)+1))∧ab fr 6=some (K64 c)∧ab fr 21=some v∧ab fr 22=some (KN a'.length)∧ab fr 23=some (KN i)∧c≤1∧os.length=a'.length+1∧B.bJ os ∧
  B.aI os i+c*18446744073709551616 ^ i=B.aI a' i+B.aI b' i∧h1.n<h2.n∧h2.ext.get h1.n=some (.cells (os.map K64) 1 none)∧Ext h1 h2) a'.length
  ⟨0,0,List.replicate (a'.length+1) 0,by simp,by simp[f0],by simp[f1],by simp,by simp,by simp,by simp,by simp,by omega,by simp,B.bJ.bB _,by simp[B.aI],by simp,by rw[ah _ _ rfl,oI];rfl,(Ext.refl h1).new _⟩ ?_
 clear f0 f1
 rintro m fr h2 ⟨i,c,os,him,f0,f1,f5,f6,f21,f22,f23,hcc,hos,hd,hv,hn,hg,hE⟩
 simp -dsimp (disch:=omega) only[wpS,f22,f23]
 refine au ?_ ?_<;>intro hc<;>simp only[decide_eq_true_eq,decide_eq_false_iff_not] at hc
 ·have hi:i<a'.length:=by omega
  have da:=B.bS ha.2.1 i
  have db:=B.bS hb.2.1 i
  have gx:=get_some hi
  generalize hx:a'.getD i 0=x at *
  generalize hy:b'.getD i 0=y at *
  simp -dsimp (disch:=omega) only[wpS,wpT,zE,f1,f21,f23,ha.1.idx gv hi,ha.1.ld hE.aa (P:=prog) (t:=28) (c:=i) (by simpa using hi) tu,cp,gx,hb.1.len fE]
  refine fB (fun fr2 h3=>h3=h2∧ab fr2 0=some v∧ab fr2 1=some w∧ab fr2 5=some (.slice (some ⟨2*h1.n,0,none⟩) (a'.length+1) (2*(a'.length+1)+1))∧ab fr2 6=some (K64 c)∧ab fr2 7=some (KN i)∧ab fr2 8=some (K64 x)∧ab fr2 9=some (K64 y)∧ab fr2 21=some v∧ab fr2 22=some (KN a'.length)∧ab fr2 23=some (KN i)) (fun hc=>?_) (fun hc=>?_) ?_
  ·simp only[decide_eq_true_eq] at hc
   have hi2:i<b'.length:=by omega
   have gy:=get_some hi2
   rw[hy] at gy
   simp -dsimp (disch:=omega) only[wpS,wpT,zE,f1,hb.1.idx gv hi2,hb.1.ld hE.aa (P:=prog) (t:=28) (c:=i) (by simpa using hi2) tu,cp,gy]
   exact⟨rfl,by simp[f0,f1,f5,f6,f21,f22,f23]⟩
  ·simp only[decide_eq_false_iff_not] at hc
   have hy0:y=0:=by rw[←hy];exact B.cW (by omega)
   subst hy0
   simp -dsimp (disch:=omega) only[wpS,wpT]
   exact⟨rfl,by simp[f0,f1,f5,f6,f21,f22,f23]⟩
  ·rintro fr2 h3 ⟨rfl,f0,f1,f5,f6,f7,f8,f9,f21,f22,f23⟩
   simp -dsimp (disch:=omega) only[wpS,zE,f5,f6,f7,f8,f9]
   refine call (IQ x y c hcc) ?_
   rintro _ _ ⟨rfl,rfl⟩
   have hi3:i<os.length:=by omega
   generalize hs:x+y+c=s
   have spl:=kE (s % 18446744073709551616) hi3
   simp -dsimp (disch:=omega) only[wpS,wpT,zE,zL,gv,wP,f23,hg,spl,List.length_map,hos]
   refine⟨m - 1,by omega,i+1,s / 18446744073709551616,os.set i (s % 18446744073709551616),by omega,by simp[f0],by simp[f1],by simp[f5],by simp,by simp[f21],by simp[f22],by simp,by omega,by rw[List.length_set,hos],hd.set _ (by omega),?_,hn,ae _ _ rfl,hE.put (Nat.le_refl _) _⟩
   rw[kC hi3,B.aI,B.aI,hx,hy,Nat.pow_succ]
   have jY:s % 18446744073709551616+s / 18446744073709551616*18446744073709551616=x+y+c:=by omega
   have e3:s % 18446744073709551616*18446744073709551616 ^ i+s / 18446744073709551616*(18446744073709551616 ^ i*18446744073709551616)=(x+y+c)*18446744073709551616 ^ i:=by rw[←jY];grind
   have e4:(x+y+c)*18446744073709551616 ^ i=x*18446744073709551616 ^ i+y*18446744073709551616 ^ i+c*18446744073709551616 ^ i:=by grind
   omega
 ·obtain rfl:i=a'.length:=by omega
  have hi3:a'.length<os.length:=by omega
  have spl:=kE c hi3
  simp -dsimp (disch:=omega) only[wpS,wpT,zE,zL,gv,wP,f0,f5,f6,ha.1.len fE,hg,spl,List.length_map,hos]
  refine⟨hE.put (Nat.le_refl _) _,os.set a'.length c,⟨?_,hd.set _ (by omega),by rw[List.length_set];omega⟩,?_⟩
  ·rw[List.length_set,hos]
   exact cI (ae _ _ rfl) hn (by decide) (by simp[hos]) (by omega) (by omega)
  ·have:=kC (x:=c) hi3
   rw[B.iS hle,B.iS (Nat.le_refl _)] at hv
   rw[B.ao,List.length_set,hos,this,hv]
def U2 (x y:Nat) (hx:x<18446744073709551616) (hy:y<18446744073709551616):WV prog (.func (.func 244) #[] #[]) [K64 x,K64 y] h fun r h'=>h'=h∧r=.tuple #[K64 (x*y / 18446744073709551616),K64 (x*y % 18446744073709551616)]:=by
 obtain⟨x0,hx0⟩:=aT (x % 4294967296)
 obtain⟨x1,hx1⟩:=aT (x / 4294967296)
 obtain⟨y0,hy0⟩:=aT (y % 4294967296)
 obtain⟨y1,hy1⟩:=aT (y / 4294967296)
 have ex:x=x1*4294967296+x0:=by omega
 have ey:y=y1*4294967296+y0:=by omega
 obtain⟨m1,m2,m3⟩:=RH (x1:=x1) (x0:=x0) (y1:=y1) (y0:=y0) (by omega) (by omega) (by omega) (by omega)
 rw[←ex,←ey] at m3
 have a1:x &&& 4294967295=x0:=by rw[hx0];exact Nat.and_two_pow_sub_one_eq_mod x 32
 have a2:y &&& 4294967295=y0:=by rw[hy0];exact Nat.and_two_pow_sub_one_eq_mod y 32
 have a3:m8 x 32=x1:=by rw[hx1];exact Nat.shiftRight_eq_div_pow x 32
 have a4:m8 y 32=y1:=by rw[hy1];exact Nat.shiftRight_eq_div_pow y 32
 have b00:x0*y0≤4294967295*4294967295:=Nat.mul_le_mul (by omega) (by omega)
 have b01:x0*y1≤4294967295*4294967295:=Nat.mul_le_mul (by omega) (by omega)
 have b10:x1*y0≤4294967295*4294967295:=Nat.mul_le_mul (by omega) (by omega)
 have b11:x1*y1≤4294967295*4294967295:=Nat.mul_le_mul (by omega) (by omega)
 have c00:(x0:Int)*(y0:Int)=((x0*y0:Nat):Int):=by simp
 have c01:(x0:Int)*(y1:Int)=((x0*y1:Nat):Int):=by simp
 have c10:(x1:Int)*(y0:Int)=((x1*y0:Nat):Int):=by simp
 have c11:(x1:Int)*(y1:Int)=((x1*y1:Nat):Int):=by simp
 have cxy:(x:Int)*(y:Int)=((x*y:Nat):Int):=by simp
 generalize x0*y0=p00 at *
 generalize x0*y1=p01 at *
 generalize x1*y0=p10 at *
 generalize x1*y1=p11 at *
 generalize x*y=pp at *
 obtain⟨t,ht⟩:=aT (p10+p00 / 4294967296)
 rw[←ht] at m1 m2 m3
 obtain⟨w,hw⟩:=aT (t % 4294967296+p01)
 rw[←hw] at m2 m3
 have s1:m8 p00 32=p00 / 4294967296:=Nat.shiftRight_eq_div_pow p00 32
 have s2:m8 t 32=t / 4294967296:=Nat.shiftRight_eq_div_pow t 32
 have s3:m8 w 32=w / 4294967296:=Nat.shiftRight_eq_div_pow w 32
 have a5:t &&& 4294967295=t % 4294967296:=Nat.and_two_pow_sub_one_eq_mod t 32
 have eT:(p10:Int)+((p00 / 4294967296:Nat):Int)=(t:Int):=by omega
 have eW:((t % 4294967296:Nat):Int)+(p01:Int)=(w:Int):=by omega
 have wr:IntKind.u64.wrap (pp:Int)=((pp % 18446744073709551616:Nat):Int):=by rw[tw];omega
 refine enter (nt:=51) (rs:=[.tmp 4,.tmp 5]) Proofs.Tryz.func244 rfl rfl rfl (by simp) ?_
 simp -dsimp (maxSteps:=1000000) (disch:=first|omega|(simp only[aH,aM];omega)|decide +kernel|(repeat first|rw[aH]|rw[aM])) only[wpS,wpT,zE,zA,Int.reduceToNat,a1,a2,a3,a4,c00,c01,c10,c11,s1,eT,a5,s2,eW,s3]
 rw[cxy,wr,←m3]
 simp
def NH (x y:Nat):WV prog (.func (.func 245) #[] #[]) [K64 x,K64 y,.int .u64 0] h fun r h'=>h'=h∧r=.tuple #[K64 ((x+y) % 18446744073709551616),K64 ((x+y) / 18446744073709551616)]:=IQ x y 0 (by omega)
def BY (ha:il h v a) (hb:il h w b) (hab:a.length+b.length≤1100000) :
  WV prog (.func (.func 194) #[] #[]) [v,w] h fun r h'=>Ext h h' ∧ ∃os,il h' r os∧B.ao os=B.ao a*B.ao b:=by
 have eL:(a.length:Int)+(b.length:Int)=((a.length+b.length:Nat):Int):=by omega
 refine enter (nt:=80) (rs:=[.tmp 4]) Proofs.Tryz.func194 rfl rfl rfl (by simp) ?_
 simp -dsimp (disch:=omega) only[wpS,zE,zA,HJ,ha.1.len fE,hb.1.len fE,eL]
 refine loop (fun m fr h1 => ∃(i:Nat) (os:List Nat),i+m=a.length∧Ext h h1∧h.n<h1.n∧h1.ext.get h.n=some (.cells (os.map K64) 1 none)∧os.length=a.length+b.length∧B.bJ os∧B.ao os=B.aI a i*B.ao b∧(∀k,i+b.length≤k→os.getD k 0=0) ∧
   ab fr 1=some w∧ab fr 5=some (.slice (some ⟨2*h.n,0,none⟩) (a.length+b.length) (2*(a.length+b.length)+1))∧ab fr 22=some v∧ab fr 23=some (KN a.length)∧ab fr 24=some (KN i)) a.length
  ⟨0,List.replicate (a.length+b.length) 0,by omega,(Ext.refl h).new _,by simp,by rw[ah _ _ rfl,oI],by simp,B.bJ.bB _,by rw[B.jR];simp[B.aI],fun k _=>B.jZ _ _,by simp⟩ ?_
 rintro m fr h1 ⟨i,os,him,hE,hn,hg,hol,hod,hov,hoz,f1,f5,f22,f23,f24⟩
 simp -dsimp (disch:=omega) only[wpS,f23,f24]
 refine au ?_ ?_<;>intro hc<;>simp only[decide_eq_true_eq,decide_eq_false_iff_not] at hc
 ·have hi:i<a.length:=by omega
  have da:=B.bS ha.2.1 i
  have gx:=get_some hi
  generalize hx:a.getD i 0=x at *
  simp -dsimp (disch:=omega) only[wpS,wpT,zE,f1,f22,f24,ha.1.idx gv hi,ha.1.ld hE.aa (P:=prog) (t:=28) (c:=i) (by simpa using hi) tu,cp,gx,hb.1.len fE]
  refine loop (fun m2 fr h2 => ∃(j c:Nat) (os2:List Nat),j+m2=b.length∧Ext h h2∧h.n<h2.n∧h2.ext.get h.n=some (.cells (os2.map K64) 1 none)∧os2.length=a.length+b.length∧B.bJ os2∧c<18446744073709551616∧B.ao os2+c*18446744073709551616 ^ (i+j)=B.aI a i*B.ao b+x*B.aI b j*18446744073709551616 ^ i∧(∀k,i+b.length≤k→os2.getD k 0=0) ∧
    ab fr 1=some w∧ab fr 5=some (.slice (some ⟨2*h.n,0,none⟩) (a.length+b.length) (2*(a.length+b.length)+1))∧ab fr 22=some v∧ab fr 23=some (KN a.length)∧ab fr 24=some (KN i)∧ab fr 6=some (KN i)∧ab fr 7=some (K64 x)∧ab fr 8=some (K64 c)∧ab fr 29=some w∧ab fr 30=some (KN b.length)∧ab fr 31=some (KN j)) b.length
   ⟨0,0,os,by omega,hE,hn,hg,hol,hod,by omega,by rw[hov];simp[B.aI],hoz,by simp[f1,f5,f22,f23,f24]⟩ ?_
  clear hE hn hg hol hod hov hoz f1 f5 f22 f23 f24
  rintro m2 fr h2 ⟨j,c,os2,hjm,hE,hn,hg,hol,hod,hc4,hov,hoz,f1,f5,f22,f23,f24,f6,f7,f8,f29,f30,f31⟩
  simp -dsimp (disch:=omega) only[wpS,f30,f31]
  refine au ?_ ?_<;>intro hc2<;>simp only[decide_eq_true_eq,decide_eq_false_iff_not] at hc2
  ·have hj:j<b.length:=by omega
   have db:=B.bS hb.2.1 j
   have doo:=B.bS hod (i+j)
   have hr:h2.row (2*h.n)=some (os2.map K64):=bT hg
   have gy:=get_some hj
   have go:=get_some (show i+j<os2.length by omega)
   generalize hy:b.getD j 0=y at *
   generalize ho:os2.getD (i+j) 0=o at *
   have gor:(os2.map K64)[i+j]?=some (K64 o):=by rw[List.getElem?_map,go];rfl
   have eI:(i:Int)+(j:Int)=((i+j:Nat):Int):=by omega
   have hp:x*y≤18446744073709551615*18446744073709551615:=Nat.mul_le_mul (by omega) (by omega)
   simp -dsimp (disch:=omega) only[wpS,wpT,zE,f7,f29,f31,hb.1.idx gv hj,hb.1.ld hE.aa (P:=prog) (t:=28) (c:=j) (by simpa using hj) tu,cp,gy]
   refine call (U2 x y da db) ?_
   rintro _ _ ⟨rfl,rfl⟩
   obtain⟨p,hpp⟩:=aT (x*y)
   rw[←hpp] at hp ⊢
   rename_i h3
   simp -dsimp (disch:=omega) only[wpS,zE,gv,tj,f5,f6,hr,gor,eI]
   refine call (NH o (p % 18446744073709551616)) ?_
   rintro _ _ ⟨rfl,rfl⟩
   rename_i h4
   simp -dsimp (disch:=omega) only[wpS,zE,f8]
   refine call (NH ((o+p % 18446744073709551616) % 18446744073709551616) c) ?_
   rintro _ _ ⟨rfl,rfl⟩
   rename_i h5
   obtain⟨s,hs⟩:=aT (c+o+p)
   have eR:((o+p % 18446744073709551616) % 18446744073709551616+c) % 18446744073709551616=s % 18446744073709551616:=by omega
   have eQ:((p / 18446744073709551616:Nat):Int)+(((o+p % 18446744073709551616) / 18446744073709551616:Nat):Int)+((((o+p % 18446744073709551616) % 18446744073709551616+c) / 18446744073709551616:Nat):Int)=((s / 18446744073709551616:Nat):Int):=by omega
   have spl:=kE (s % 18446744073709551616) (show i+j<os2.length by omega)
   rw[eR]
   simp -dsimp (maxSteps:=1000000) (disch:=first|omega|(simp only[aH,aM];omega)|decide +kernel|(repeat first|rw[aH]|rw[aM])) only[wpS,wpT,zE,gv,wP,f5,f6,f31,eI,eQ,hg,spl,List.length_map,hol]
   refine⟨m2 - 1,by omega,j+1,s / 18446744073709551616,os2.set (i+j) (s % 18446744073709551616),by omega,hE.put (Nat.le_refl _) _,hn,ae _ _ rfl,by rw[List.length_set,hol],hod.set _ (by omega),by omega,?_,?_,by simp[f1,f5,f22,f23,f24,f6,f7,f29,f30]⟩
   ·have hv:=B.iK (s % 18446744073709551616) (show i+j<os2.length by omega)
    rw[ho] at hv
    have hsd:s % 18446744073709551616+s / 18446744073709551616*18446744073709551616=c+o+x*y:=by omega
    rw[B.aI,hy]
    have e1:18446744073709551616 ^ (i+(j+1))=18446744073709551616 ^ (i+j)*18446744073709551616:=by rw[←Nat.add_assoc,Nat.pow_succ]
    have e2:18446744073709551616 ^ (i+j)=18446744073709551616 ^ i*18446744073709551616 ^ j:=Nat.pow_add _ _ _
    rw[e1]
    have e3:s % 18446744073709551616*18446744073709551616 ^ (i+j)+s / 18446744073709551616*(18446744073709551616 ^ (i+j)*18446744073709551616)=(c+o+x*y)*18446744073709551616 ^ (i+j):=by rw[←hsd];grind
    have e4:x*(B.aI b j+y*18446744073709551616 ^ j)*18446744073709551616 ^ i=x*B.aI b j*18446744073709551616 ^ i+x*y*18446744073709551616 ^ (i+j):=by rw[e2];grind
    have e5:(c+o+x*y)*18446744073709551616 ^ (i+j)=c*18446744073709551616 ^ (i+j)+o*18446744073709551616 ^ (i+j)+x*y*18446744073709551616 ^ (i+j):=by grind
    omega
   ·intro k hk
    rw[B.dD (by omega),if_neg (by omega)]
    exact hoz k hk
  ·obtain rfl:j=b.length:=by omega
   have hz:=hoz (i+b.length) (Nat.le_refl _)
   have eI:(i:Int)+(b.length:Int)=((i+b.length:Nat):Int):=by omega
   have spl:=kE c (show i+b.length<os2.length by omega)
   simp -dsimp (disch:=omega) only[wpS,wpT,zE,gv,wP,f1,f5,f6,f8,f24,hb.1.len fE,eI,hg,spl,List.length_map,hol]
   refine⟨m - 1,by omega,i+1,os2.set (i+b.length) c,by omega,hE.put (Nat.le_refl _) _,hn,ae _ _ rfl,by rw[List.length_set,hol],hod.set _ (by omega),?_,?_,by simp[f1,f5,f22,f23]⟩
   ·have hv:=B.iK c (show i+b.length<os2.length by omega)
    rw[hz,Nat.zero_mul,Nat.add_zero] at hv
    rw[hv,hov,B.aI,hx,show B.aI b b.length=B.ao b from rfl]
    grind
   ·intro k hk
    rw[B.dD (by omega),if_neg (by omega)]
    exact hoz k (by omega)
 ·obtain rfl:i=a.length:=by omega
  simp -dsimp (disch:=omega) only[wpS,wpT,zE,f5]
  refine⟨hE,os,⟨?_,hod,by omega⟩,hov⟩
  rw[hol]
  exact cI hg hn (by decide) (by rw[List.length_map,hol];omega) (by omega) (by omega)
end Go.Id
namespace Go.Id
open Go
def wD:Nat→Nat
 | 0=>0
 | n+1=>Nat.log2 (n+1)+1
theorem zm : ∀x,x<256 → ∀N,N<9→(N<wD x↔2 ^ N≤x):=by decide +kernel
def Pc {P:Program} {t:TypeId} (ht:P.underlying t=some .string) (s:ByteArray) (hs:(List.range 256).all (fun j=>decide (s[j]?=some (UInt8.ofNat (wD j))))=true) {j:Nat} (hj:j<256):rF P t (.string s) (.int .u8 j)=some (.int .u8 (wD j)):=by
 rw[List.all_eq_true] at hs
 have h1:=hs j (List.mem_range.2 hj)
 simp only[decide_eq_true_eq] at h1
 have hb:wD j<256:=by
  have:=(zm j hj 8 (by omega)).1
  rcases Nat.lt_or_ge 8 (wD j) with h|h
  ·have:=this h;omega
  ·omega
 have h2:ar P (Instr.index t (.string s) (.int .u8 j))=some (.int .u8 (wD j)):=by
  unfold Instr.index
  rw[cw (show ar P (asIntOf (.int .u8 j))=some (IntKind.u8,(j:Int)) from rfl)]
  simp only
  rw[cw (fw ht)]
  simp only[Int.toNat_natCast,show(0:Int)≤(j:Int) by omega,if_true,h1]
  rw[vx]
  have:(UInt8.ofNat (wD j)).toNat=wD j:=by simp;omega
  rw[this]
 have hp:plain (.int .u8 j)=true:=rfl
 simp only[rF,hp,cond_true,cJ,h2]
 rfl
def Sz {α:Type} {o:Option α} {K:α→Prop} {v:α} (h:o=some v) (k:K v):Do (Ex o) K nx:=⟨v,h,k⟩
def IW (u x k:Nat):Prop:=x=u / 2 ^ k∧(0<k→0<x)
variable {u x k:Nat}
theorem IW.ok (h:IW u x k) (hx:x<256) (N:Nat):N<k+wD x↔2 ^ N≤u:=by
 obtain⟨rfl,h2⟩:=h
 rcases Nat.lt_or_ge N k with h|h
 ·have hx0:=h2 (by omega)
  have h3:2 ^ k≤u:=by
   apply Classical.byContradiction;intro hh
   rw[Nat.div_eq_of_lt (by omega)] at hx0;omega
  have h4:2 ^ N≤2 ^ k:=Nat.pow_le_pow_right (by omega) (by omega)
  exact⟨fun _=>Nat.le_trans h4 h3,fun _=>by omega⟩
 ·obtain⟨d,rfl⟩ : ∃d,N=k+d:=⟨N - k,by omega⟩
  have e:2 ^ (k+d)≤u↔2 ^ d≤u / 2 ^ k:=by
   rw[Nat.le_div_iff_mul_le (Nat.pow_pos (by omega)),Nat.pow_add,Nat.mul_comm]
  rw[e]
  rcases Nat.lt_or_ge d 9 with hd|hd
  ·rw[←zm _ hx d hd];omega
  ·have h9:2 ^ 9≤2 ^ d:=Nat.pow_le_pow_right (by omega) hd
   have hb : ¬9≤wD (u / 2 ^ k):=by
    intro hh
    have:=(zm _ hx 8 (by omega)).1 (by omega);omega
   constructor
   ·intro;omega
   ·intro;omega
def IW.more {d:Nat} (h:IW u x k) (hx:2 ^ d≤x):IW u (x / 2 ^ d) (k+d):=by
 obtain⟨rfl,h2⟩:=h
 refine⟨by rw[Nat.div_div_eq_div_mul,Nat.pow_add],fun _=>?_⟩
 exact Nat.div_pos hx (Nat.pow_pos (by omega))
def RW {h:IH} (u:Nat) (hu:u<18446744073709551616):WV Proofs.Tryz.prog (.func (.func 262) #[] #[]) [K64 u] h fun r h'=>h'=h ∧ ∃k:Nat,r=KN k∧k<1000 ∧ ∀N,N<k↔2 ^ N≤u:=by
 refine enter (nt:=25) (rs:=[.tmp 2]) Proofs.Tryz.func262 rfl rfl rfl (by simp) ?_
 simp -dsimp (disch:=omega) only[wpS,Nat.reduceEqDiff]
 refine fB (fun fr2 h2=>h2=h ∧ ∃x k:Nat,ab fr2 0=some (K64 x)∧ab fr2 2=some (KN k)∧k≤32∧x<4294967296∧IW u x k) (fun hc=>?_) (fun hc=>?_) ?_
 ·simp only[decide_eq_true_eq] at hc
  have e1:m8 u 32=u / 4294967296:=by rw[m8,Nat.shiftRight_eq_div_pow]
  simp -dsimp (disch:=omega) only[wpS,wpT,Nat.reduceEqDiff,Int.reduceToNat,e1]
  refine⟨rfl,u / 4294967296,32,by simp,by simp,by omega,by omega,by simp,fun _=>by omega⟩
 ·simp only[decide_eq_false_iff_not] at hc
  simp -dsimp (disch:=omega) only[wpS,wpT]
  refine⟨rfl,u,0,by simp,by simp,by omega,by omega,by simp,by omega⟩
 rintro fr h1 ⟨rfl,x,k,f0,f2,hk,hx,hL⟩
 simp -dsimp (disch:=omega) only[wpS,Nat.reduceEqDiff,f0]
 refine fB (fun fr2 h2=>h2=h1 ∧ ∃x k:Nat,ab fr2 0=some (K64 x)∧ab fr2 2=some (KN k)∧k≤48∧x<65536∧IW u x k) (fun hc=>?_) (fun hc=>?_) ?_
 ·simp only[decide_eq_true_eq] at hc
  have e1:m8 x 16=x / 65536:=by rw[m8,Nat.shiftRight_eq_div_pow]
  simp -dsimp (disch:=omega) only[wpS,wpT,Nat.reduceEqDiff,Int.reduceToNat,f0,f2,e1]
  exact⟨rfl,x / 65536,k+16,by simp,by simp,by omega,by omega,hL.more (d:=16) (by omega)⟩
 ·simp only[decide_eq_false_iff_not] at hc
  simp -dsimp (disch:=omega) only[wpS,wpT]
  refine⟨rfl,x,k,by simp[f0],by simp[f2],by omega,by omega,hL⟩
 rintro fr h2 ⟨rfl,x,k,f0,f2,hk,hx,hL⟩
 simp -dsimp (disch:=omega) only[wpS,Nat.reduceEqDiff,f0]
 refine fB (fun fr2 h3=>h3=h2 ∧ ∃x k:Nat,ab fr2 0=some (K64 x)∧ab fr2 2=some (KN k)∧k≤56∧x<256∧IW u x k) (fun hc=>?_) (fun hc=>?_) ?_
 ·simp only[decide_eq_true_eq] at hc
  have e1:m8 x 8=x / 256:=by rw[m8,Nat.shiftRight_eq_div_pow]
  simp -dsimp (disch:=omega) only[wpS,wpT,Nat.reduceEqDiff,Int.reduceToNat,f0,f2,e1]
  exact⟨rfl,x / 256,k+8,by simp,by simp,by omega,by omega,hL.more (d:=8) (by omega)⟩
 ·simp only[decide_eq_false_iff_not] at hc
  simp -dsimp (disch:=omega) only[wpS,wpT]
  refine⟨rfl,x,k,by simp[f0],by simp[f2],by omega,by omega,hL⟩
 rintro fr h3 ⟨rfl,x,k,f0,f2,hk,hx,hL⟩
 simp -dsimp (disch:=omega) only[wpS,Nat.reduceEqDiff,Zm,f0,f2]
 refine Sz (Pc u9 _ (by decide +kernel) hx) ?_
 simp -dsimp (disch:=omega) only[wpS,wpT,Nat.reduceEqDiff,Iu]
 have hb:wD x<256:=by
  have:=(zm x hx 8 (by omega)).1
  rcases Nat.lt_or_ge 8 (wD x) with h|h
  ·have:=this h;omega
  ·omega
 refine⟨k+wD x,?_,by omega,fun N=>hL.ok hx N⟩
 rw[wrap_i64 (x:=(wD x:Int)) (by omega),wrap_i64 (by omega)]
 exact congrArg (Value.int .i64) (by omega)
open Nat renaming reduceAdd→zA,reduceEqDiff→zE
set_option maxHeartbeats 16000000
variable {u r1 w r0:Nat}
def Zk {a b A B:Nat} (hw:4294967296*a+b=w) (h1:u*4294967296+a=A+r1) (h2:r1*4294967296+b=B+r0):u*18446744073709551616+w=A*4294967296+B+r0:=by
 have e:u*18446744073709551616=u*4294967296*4294967296:=by rw[Nat.mul_assoc]
 rw[e,←hw,←Nat.add_assoc,Nat.mul_comm 4294967296 a,←Nat.add_mul,h1,Nat.add_mul,Nat.add_assoc,h2,Nat.add_assoc]
def KE {hi lo y s Y q1 q0:Nat} (hY:Y=y*2 ^ s) (hy:0<y) (hN:(hi*18446744073709551616+lo)*2 ^ s=u*18446744073709551616+w) (h1:u*4294967296+w / 4294967296=q1*Y+r1) (h2:r1*4294967296+w % 4294967296=q0*Y+r0) (hr:r0<Y) :
  (hi*18446744073709551616+lo) / y=q1*4294967296+q0∧r0 / 2 ^ s=(hi*18446744073709551616+lo) % y:=by
 have hp:0<2 ^ s:=Nat.pow_pos (by omega)
 have e1:Y*(q1*4294967296+q0)=q1*Y*4294967296+q0*Y:=by rw[Nat.mul_add,Nat.mul_comm Y q0,←Nat.mul_assoc,Nat.mul_comm Y q1]
 have e:(hi*18446744073709551616+lo)*2 ^ s=Y*(q1*4294967296+q0)+r0:=by
  rw[hN,e1]
  exact Zk (Nat.div_add_mod _ _) h1 h2
 obtain⟨N,hNN⟩ : ∃N,N=hi*18446744073709551616+lo:=⟨_,rfl⟩
 rw[←hNN] at e ⊢
 clear hN h1 h2 hNN
 have e2:N*2 ^ s / Y=q1*4294967296+q0:=by
  rw[e,Nat.mul_add_div (by rw[hY];exact Nat.mul_pos hy hp),Nat.div_eq_of_lt hr,Nat.add_zero]
 have e3:N*2 ^ s % Y=r0:=by rw[e,Nat.mul_add_mod,Nat.mod_eq_of_lt hr]
 rw[hY,Nat.mul_div_mul_right _ _ hp] at e2
 rw[hY,Nat.mul_mod_mul_right] at e3
 exact⟨e2,by rw[←e3,Nat.mul_div_cancel _ hp]⟩
variable {h:IH}
def WI (u:Nat) (h0:0<u) (hu:u<18446744073709551616):WV Proofs.Tryz.prog (.func (.func 265) #[] #[]) [K64 u] h fun r h'=>h'=h ∧ ∃s:Nat,r=KN s∧s<64∧9223372036854775808≤u*2 ^ s∧u*2 ^ s<18446744073709551616∧2 ^ (63 - s)≤u∧u<2 ^ (64 - s):=by
 refine enter (nt:=6) (rs:=[.tmp 2]) Proofs.Tryz.func265 rfl rfl rfl (by simp) ?_
 simp -dsimp (disch:=try exact dx) only[wpS,zE]
 refine call (RW u hu) ?_
 rintro _ _ ⟨rfl,k,rfl,hk,hN⟩
 have k1:0<k:=(hN 0).2 (by omega)
 have k2:k≤64:=by
  apply Classical.byContradiction;intro hn
  have:=(hN 64).1 (by omega)
  omega
 have k3:2 ^ (k - 1)≤u:=(hN (k - 1)).1 (by omega)
 have k4:u<2 ^ k:=by
  apply Classical.byContradiction;intro hn
  have:=(hN k).2 (by omega)
  omega
 have e:(64:Int) - (k:Int)=((64 - k:Nat):Int):=by omega
 simp -dsimp (disch:=try exact dx) only[wpS,wpT,zE,e]
 refine⟨64 - k,rfl,by omega,?_,?_,by rw[show 63 - (64 - k)=k - 1 by omega];exact k3,by rw[show 64 - (64 - k)=k by omega];exact k4⟩
 ·have:=Nat.mul_le_mul_right (2 ^ (64 - k)) k3
  rw[←Nat.pow_add,show k - 1+(64 - k)=63 by omega] at this
  exact this
 ·have:=Nat.mul_lt_mul_of_pos_right k4 (show 0<2 ^ (64 - k) from Nat.pow_pos (by omega))
  rw[←Nat.pow_add,show k+(64 - k)=64 by omega] at this
  exact this
def SM (hi lo y:Nat) (hh:hi<y) (hl:lo<18446744073709551616) (hy:y<18446744073709551616):WV Proofs.Tryz.prog (.func (.func 258) #[] #[]) [K64 hi,K64 lo,K64 y] h fun r h'=>h'=h∧r=.tuple #[K64 ((hi*18446744073709551616+lo) / y),K64 ((hi*18446744073709551616+lo) % y)]:=by
 have y0:((y:Int) == 0)=false:=by simp;omega
 by_cases h0:hi=0
 ·subst h0
  have d1:(lo:Int) / (y:Int)=((lo / y:Nat):Int):=by simp
  have d2:(lo:Int) % (y:Int)=((lo % y:Nat):Int):=by simp
  have d3:lo / y≤lo:=Nat.div_le_self _ _
  refine enter (nt:=135) (rs:=[.tmp 6,.tmp 7]) Proofs.Tryz.func258 rfl rfl rfl (by simp) ?_
  simp -dsimp (disch:=try exact dx) only[wpS,wpT,zE,zA,y0,d1,d2]
 ·have h0':((hi:Int) == 0)=false:=by simp;omega
  refine enter (nt:=135) (rs:=[.tmp 6,.tmp 7]) Proofs.Tryz.func258 rfl rfl rfl (by simp) ?_
  simp -dsimp (disch:=omega) only[wpS,wpT,zE,zA,y0,h0']
  refine call (WI y (by omega) hy) ?_
  rintro _ _ ⟨rfl,s,rfl,hs,hY1,hY2,hy1,hy2⟩
  rename_i h1
  have hps:0<2 ^ s:=Nat.pow_pos (by omega)
  obtain⟨Y,hY⟩:=aT (y*2 ^ s)
  have eY:y*2 ^ s % 18446744073709551616=Y:=by rw[hY];exact Nat.mod_eq_of_lt hY2
  rw[←hY] at hY1 hY2
  have hU:hi*2 ^ s<Y:=by rw[hY];exact Nat.mul_lt_mul_of_pos_right hh hps
  have eU:hi*2 ^ s % 18446744073709551616=hi*2 ^ s:=Nat.mod_eq_of_lt (by omega)
  have e64:(64:Int) - (s:Int)=((64 - s:Nat):Int):=by omega
  have eR:m8 lo (64 - s)=lo / 2 ^ (64 - s):=Nat.shiftRight_eq_div_pow _ _
  have hR:lo / 2 ^ (64 - s)<2 ^ s:=B.Cy hl (by omega)
  have eO:hi*2 ^ s ||| lo / 2 ^ (64 - s)=hi*2 ^ s+lo / 2 ^ (64 - s):=B.JM (Nat.dvd_mul_left _ _) hR
  have hsp:=B.CA hl hs
  obtain⟨u,hu⟩:=aT (hi*2 ^ s+lo / 2 ^ (64 - s))
  obtain⟨w,hw⟩:=aT (lo*2 ^ s % 18446744073709551616)
  rw[←hw] at hsp
  have huY:u<Y:=by
   have:(hi+1)*2 ^ s≤y*2 ^ s:=Nat.mul_le_mul_right _ hh
   rw[Nat.add_mul,←hY] at this
   omega
  have hwl:w<18446744073709551616:=by omega
  have hN:(hi*18446744073709551616+lo)*2 ^ s=u*18446744073709551616+w:=by
   rw[Nat.add_mul,hu,Nat.add_mul,←hsp]
   have:hi*18446744073709551616*2 ^ s=hi*2 ^ s*18446744073709551616:=by grind
   omega
  have s1:m8 Y 32=Y / 4294967296:=Nat.shiftRight_eq_div_pow _ _
  have s2:Y &&& 4294967295=Y % 4294967296:=Nat.and_two_pow_sub_one_eq_mod Y 32
  have s3:m8 w 32=w / 4294967296:=Nat.shiftRight_eq_div_pow _ _
  have s4:w &&& 4294967295=w % 4294967296:=Nat.and_two_pow_sub_one_eq_mod w 32
  obtain⟨y1,hy1'⟩ : ∃y1,y1=Y / 4294967296:=⟨_,rfl⟩
  obtain⟨y0',hy0'⟩ : ∃y0,y0=Y % 4294967296:=⟨_,rfl⟩
  have eYY:Y=y1*4294967296+y0':=by omega
  have g1:2147483648≤y1:=by omega
  have g0:y0'<4294967296:=by omega
  have c1:(u:Int) / (y1:Int)=((u / y1:Nat):Int):=by simp
  have dm:=Nat.div_add_mod u y1
  have dm2:((u / y1:Nat):Int)*(y1:Int)=((y1*(u / y1):Nat):Int):=by rw[Nat.mul_comm y1];simp
  have dm3:(u:Int) - ((y1*(u / y1):Nat):Int)=((u % y1:Nat):Int):=by omega
  have dl:=Nat.mod_lt u (show 0<y1 by omega)
  have dle:u / y1≤u:=Nat.div_le_self _ _
  simp -dsimp (maxSteps:=1000000) (disch:=first|omega|(simp only[aH,aM];omega)|decide +kernel|(repeat first|rw[aH]|rw[aM])) only[wpS,zE,Int.reduceToNat,Zl,Wo,eY,eU,e64,eR,eO,←hu,←hw,s1,s2,s3,s4,←hy1',←hy0',c1,dm2,dm3]
  refine AH (fun fr h2=>h2=h1∧ab fr 2=some (K64 Y)∧ab fr 8=some (.int .u64 (s:Int))∧ab fr 9=some (K64 y1)∧ab fr 10=some (K64 y0')∧ab fr 11=some (K64 u)∧ab fr 13=some (K64 (w / 4294967296))∧ab fr 14=some (K64 (w % 4294967296))∧ab fr 15=some (K64 ((u*4294967296+w / 4294967296) / (y1*4294967296+y0')))) ?_ ?_
  ·refine loop (fun m fr h2=>h2=h1 ∧ ∃q r:Nat,q=m∧F9 y1 y0' u (w / 4294967296) q r∧r<4294967296∧ab fr 2=some (K64 Y)∧ab fr 8=some (.int .u64 (s:Int))∧ab fr 9=some (K64 y1)∧ab fr 10=some (K64 y0')∧ab fr 11=some (K64 u)∧ab fr 13=some (K64 (w / 4294967296))∧ab fr 14=some (K64 (w % 4294967296))∧ab fr 15=some (K64 q)∧ab fr 16=some (K64 r)) (u / y1)
    ⟨rfl,_,_,rfl,Bm g1 g0 (eYY▸huY) (by omega),by omega,by simp⟩ ?_
   rintro m fr h2 ⟨rfl,q,r,rfl,hJ,hr,f2,f8,f9,f10,f11,f13,f14,fq,Ko⟩
   have hq1:=hJ.2.2
   have hUY:u<y1*4294967296+y0':=eYY▸huY
   have hDD:w / 4294967296<4294967296:=by omega
   have GJ:(4294967296≤q∨4294967296*r+w / 4294967296<q*y0')→0<q∧F9 y1 y0' u (w / 4294967296) (q - 1) (r+y1):=fun hc=>Dv g1 g0 hUY hDD hJ hc
   by_cases hqB:4294967296≤q
   ·obtain⟨hq0,hJ2⟩:=GJ (.inl hqB)
    have eq1:(q:Int) - 1=((q - 1:Nat):Int):=by omega
    have er1:(r:Int)+(y1:Int)=((r+y1:Nat):Int):=by omega
    simp -dsimp (disch:=omega) only[wpS,wpT,zE,f9,fq,Ko,eq1,er1]
    refine au ?_ ?_<;>intro hc<;>simp only[decide_eq_true_eq,decide_eq_false_iff_not] at hc
    ·simp -dsimp (disch:=omega) only[wpS,wpT]
     refine⟨rfl,by simp[f2],by simp[f8],by simp[f9],by simp[f10],by simp[f11],by simp[f13],by simp[f14],?_⟩
     rw[pW g1 g0 hJ2 (by omega) (by omega)];simp
    ·simp -dsimp (disch:=omega) only[wpS,wpT]
     exact⟨q - 1,by omega,rfl,q - 1,r+y1,rfl,hJ2,by omega,by simp[f2,f8,f9,f10,f11,f13,f14]⟩
   ·have hpm:q*y0'≤4294967295*4294967295:=Nat.mul_le_mul (by omega) (by omega)
    have ep:(q:Int)*(y0':Int)=((q*y0':Nat):Int):=by simp
    generalize hpp:q*y0'=p at *
    simp -dsimp (disch:=omega) only[wpS,wpT,zE,f10,f13,fq,Ko,ep]
    refine au ?_ ?_<;>intro hc<;>simp only[decide_eq_true_eq,decide_eq_false_iff_not] at hc
    ·obtain⟨hq0,hJ2⟩:=GJ (.inr (by omega))
     have eq1:(q:Int) - 1=((q - 1:Nat):Int):=by omega
     have er1:(r:Int)+(y1:Int)=((r+y1:Nat):Int):=by omega
     simp -dsimp (disch:=omega) only[wpS,wpT,zE,f9,fq,Ko,eq1,er1]
     refine au ?_ ?_<;>intro hc5<;>simp only[decide_eq_true_eq,decide_eq_false_iff_not] at hc5
     ·simp -dsimp (disch:=omega) only[wpS,wpT]
      refine⟨rfl,by simp[f2],by simp[f8],by simp[f9],by simp[f10],by simp[f11],by simp[f13],by simp[f14],?_⟩
      rw[pW g1 g0 hJ2 (by omega) (by omega)];simp
     ·simp -dsimp (disch:=omega) only[wpS,wpT]
      exact⟨q - 1,by omega,rfl,q - 1,r+y1,rfl,hJ2,by omega,by simp[f2,f8,f9,f10,f11,f13,f14]⟩
    ·simp -dsimp (disch:=omega) only[wpS,wpT]
     refine⟨rfl,by simp[f2],by simp[f8],by simp[f9],by simp[f10],by simp[f11],by simp[f13],by simp[f14],?_⟩
     rw[xm g1 g0 hJ (by rw[hpp];omega)];simp[fq]
  rintro fr h2 ⟨rfl,f2,f8,f9,f10,f11,f13,f14,f15⟩
  rw[←eYY] at f15
  clear hsp eU eO eR hR s1 s2 s3 s4 c1 dm dm2 dm3 dl dle
  have hw1:w / 4294967296<4294967296:=by omega
  have hw0:w % 4294967296<4294967296:=by omega
  have nn1:((u*4294967296+w / 4294967296) / Y)*Y+(u*4294967296+w / 4294967296) % Y=u*4294967296+w / 4294967296:=by rw[Nat.mul_comm];exact Nat.div_add_mod _ _
  have hr1:(u*4294967296+w / 4294967296) % Y<Y:=Nat.mod_lt _ (by omega)
  have hq1:(u*4294967296+w / 4294967296) / Y<4294967296:=by rw[Nat.div_lt_iff_lt_mul (by omega)];omega
  obtain⟨q1,hQ1⟩:=aT ((u*4294967296+w / 4294967296) / Y)
  obtain⟨r1,hR1⟩:=aT ((u*4294967296+w / 4294967296) % Y)
  rw[←hQ1] at nn1 hq1 f15
  rw[←hR1] at nn1 hr1
  clear hQ1 hR1
  obtain⟨A,hA⟩:=aT (u*4294967296 % 18446744073709551616)
  have eA:IntKind.u64.wrap ((u:Int)*4294967296)=(A:Int):=by rw[tw];omega
  obtain⟨B1,hB1⟩:=aT (A+w / 4294967296)
  have eB:(A:Int)+((w / 4294967296:Nat):Int)=(B1:Int):=by omega
  have hB2:B1<18446744073709551616:=by omega
  have eC0:(q1:Int)*(Y:Int)=((q1*Y:Nat):Int):=by simp
  obtain⟨p1,hp1⟩:=aT (q1*Y)
  rw[←hp1] at nn1 eC0
  obtain⟨C1,hC1⟩:=aT (p1 % 18446744073709551616)
  have eC:IntKind.u64.wrap ((p1:Nat):Int)=(C1:Int):=by rw[tw];omega
  have eR1:IntKind.u64.wrap ((B1:Int) - (C1:Int))=(r1:Int):=by rw[tw];omega
  have c1:(r1:Int) / (y1:Int)=((r1 / y1:Nat):Int):=by simp
  have dm:=Nat.div_add_mod r1 y1
  have dm2:((r1 / y1:Nat):Int)*(y1:Int)=((y1*(r1 / y1):Nat):Int):=by rw[Nat.mul_comm y1];simp
  have dm3:(r1:Int) - ((y1*(r1 / y1):Nat):Int)=((r1 % y1:Nat):Int):=by omega
  have dl:=Nat.mod_lt r1 (show 0<y1 by omega)
  have dle:r1 / y1≤r1:=Nat.div_le_self _ _
  simp -dsimp (disch:=omega) only[wpS,zE,f2,f9,f11,f13,f15,eA,eB,eC0,eC,eR1,c1,dm2,dm3]
  refine AH (fun fr h3=>h3=h2∧ab fr 2=some (K64 Y)∧ab fr 8=some (.int .u64 (s:Int))∧ab fr 14=some (K64 (w % 4294967296))∧ab fr 15=some (K64 q1)∧ab fr 17=some (K64 r1)∧ab fr 18=some (K64 ((r1*4294967296+w % 4294967296) / (y1*4294967296+y0')))) ?_ ?_
  ·refine loop (fun m fr h3=>h3=h2 ∧ ∃q r:Nat,q=m∧F9 y1 y0' r1 (w % 4294967296) q r∧r<4294967296∧ab fr 2=some (K64 Y)∧ab fr 8=some (.int .u64 (s:Int))∧ab fr 9=some (K64 y1)∧ab fr 10=some (K64 y0')∧ab fr 14=some (K64 (w % 4294967296))∧ab fr 15=some (K64 q1)∧ab fr 17=some (K64 r1)∧ab fr 18=some (K64 q)∧ab fr 16=some (K64 r)) (r1 / y1)
    ⟨rfl,_,_,rfl,Bm g1 g0 (eYY▸hr1) hw0,by omega,by simp[f2,f8,f9,f10,f14,f15]⟩ ?_
   clear f2 f8 f9 f10 f11 f13 f14 f15
   rintro m fr h3 ⟨rfl,q,r,rfl,hJ,hr,f2,f8,f9,f10,f14,f15,f17,fq,Ko⟩
   have hqq:=hJ.2.2
   have hUY:r1<y1*4294967296+y0':=eYY▸hr1
   have GJ:(4294967296≤q∨4294967296*r+w % 4294967296<q*y0')→0<q∧F9 y1 y0' r1 (w % 4294967296) (q - 1) (r+y1):=fun hc=>Dv g1 g0 hUY hw0 hJ hc
   by_cases hqB:4294967296≤q
   ·obtain⟨hq0,hJ2⟩:=GJ (.inl hqB)
    have eq1:(q:Int) - 1=((q - 1:Nat):Int):=by omega
    have er1:(r:Int)+(y1:Int)=((r+y1:Nat):Int):=by omega
    simp -dsimp (disch:=omega) only[wpS,wpT,zE,f9,fq,Ko,eq1,er1]
    refine au ?_ ?_<;>intro hc<;>simp only[decide_eq_true_eq,decide_eq_false_iff_not] at hc
    ·simp -dsimp (disch:=omega) only[wpS,wpT]
     refine⟨rfl,by simp[f2],by simp[f8],by simp[f14],by simp[f15],by simp[f17],?_⟩
     rw[pW g1 g0 hJ2 (by omega) (by omega)];simp
    ·simp -dsimp (disch:=omega) only[wpS,wpT]
     exact⟨q - 1,by omega,rfl,q - 1,r+y1,rfl,hJ2,by omega,by simp[f2,f8,f9,f10,f14,f15,f17]⟩
   ·have hpm:q*y0'≤4294967295*4294967295:=Nat.mul_le_mul (by omega) (by omega)
    have ep:(q:Int)*(y0':Int)=((q*y0':Nat):Int):=by simp
    generalize hpp:q*y0'=p at *
    simp -dsimp (disch:=omega) only[wpS,wpT,zE,f10,f14,fq,Ko,ep]
    refine au ?_ ?_<;>intro hc<;>simp only[decide_eq_true_eq,decide_eq_false_iff_not] at hc
    ·obtain⟨hq0,hJ2⟩:=GJ (.inr (by omega))
     have eq1:(q:Int) - 1=((q - 1:Nat):Int):=by omega
     have er1:(r:Int)+(y1:Int)=((r+y1:Nat):Int):=by omega
     simp -dsimp (disch:=omega) only[wpS,wpT,zE,f9,fq,Ko,eq1,er1]
     refine au ?_ ?_<;>intro hc5<;>simp only[decide_eq_true_eq,decide_eq_false_iff_not] at hc5
     ·simp -dsimp (disch:=omega) only[wpS,wpT]
      refine⟨rfl,by simp[f2],by simp[f8],by simp[f14],by simp[f15],by simp[f17],?_⟩
      rw[pW g1 g0 hJ2 (by omega) (by omega)];simp
     ·simp -dsimp (disch:=omega) only[wpS,wpT]
      exact⟨q - 1,by omega,rfl,q - 1,r+y1,rfl,hJ2,by omega,by simp[f2,f8,f9,f10,f14,f15,f17]⟩
    ·simp -dsimp (disch:=omega) only[wpS,wpT]
     refine⟨rfl,by simp[f2],by simp[f8],by simp[f14],by simp[f15],by simp[f17],?_⟩
     rw[xm g1 g0 hJ (by rw[hpp];omega)];simp[fq]
  clear f2 f8 f9 f10 f11 f13 f14 f15
  rintro fr h3 ⟨rfl,f2,f8,f14,f15,f17,f18⟩
  rw[←eYY] at f18
  have nn0:((r1*4294967296+w % 4294967296) / Y)*Y+(r1*4294967296+w % 4294967296) % Y=r1*4294967296+w % 4294967296:=by rw[Nat.mul_comm];exact Nat.div_add_mod _ _
  have hr0:(r1*4294967296+w % 4294967296) % Y<Y:=Nat.mod_lt _ (by omega)
  have hq0:(r1*4294967296+w % 4294967296) / Y<4294967296:=by rw[Nat.div_lt_iff_lt_mul (by omega)];omega
  obtain⟨q0,hQ0⟩:=aT ((r1*4294967296+w % 4294967296) / Y)
  obtain⟨r0,hR0⟩:=aT ((r1*4294967296+w % 4294967296) % Y)
  rw[←hQ0] at nn0 hq0 f18
  rw[←hR0] at nn0 hr0
  clear hQ0 hR0
  have fin:=KE (q1:=q1) (r1:=r1) (q0:=q0) (r0:=r0) hY (by omega) hN (by omega) nn0.symm hr0
  obtain⟨A2,hA2⟩:=aT (r1*4294967296 % 18446744073709551616)
  have eA2:IntKind.u64.wrap ((r1:Int)*4294967296)=(A2:Int):=by rw[tw];omega
  obtain⟨B2,hB2⟩:=aT (A2+w % 4294967296)
  have eB2:(A2:Int)+((w % 4294967296:Nat):Int)=(B2:Int):=by omega
  have eD0:(q0:Int)*(Y:Int)=((q0*Y:Nat):Int):=by simp
  obtain⟨p0,hp0⟩:=aT (q0*Y)
  rw[←hp0] at nn0 eD0
  obtain⟨C2,hC2⟩:=aT (p0 % 18446744073709551616)
  have eD:IntKind.u64.wrap ((p0:Nat):Int)=(C2:Int):=by rw[tw];omega
  have eR0:IntKind.u64.wrap ((B2:Int) - (C2:Int))=(r0:Int):=by rw[tw];omega
  have eS:m8 r0 s=r0 / 2 ^ s:=Nat.shiftRight_eq_div_pow _ _
  have eQ1:(q1:Int)*4294967296=((q1*4294967296:Nat):Int):=by omega
  have eQ2:((q1*4294967296:Nat):Int)+(q0:Int)=((q1*4294967296+q0:Nat):Int):=by omega
  simp -dsimp (disch:=omega) only[wpS,wpT,zE,f2,f8,f14,f15,f17,f18,eA2,eB2,eD0,eD,eR0,eS,eQ1,eQ2]
  rw[fin.1,←fin.2]
end Go.Id

/-
  Contracts: the program's long integers: words, trimmed, compared, added, subtracted.
-/
import Derived.Test.YtnnmjocmapilaaaGreatTemperRoundsAk
set_option linter.unusedVariables false
set_option linter.unusedSimpArgs false
set_option linter.defProp false
set_option linter.deprecated false
namespace Go.Id
open Go
open Go renaming Operand→QY,Program→QX,TypeId→QZ,Value→QQ
open Nat renaming reduceAdd→zA,reduceEqDiff→zE,reduceLeDiff→zL
open Nat (reduceMul)
set_option maxHeartbeats 16000000
open Go.Proofs.Tryz (prog)
section
def kT (h:IH) (v:QQ) (ds:List Nat):Prop:=df h 1 v ds.length (ds.map K64)∧B.dh ds∧ds.length≤1100000
def Wrd (h:IH) (v:QQ) (x:Nat):Prop:=∃ds,kT h v ds∧B.Norm ds∧B.aM ds=x
variable {h:IH}{v:QQ}{ds:List Nat}{h':IH}
def kT.ai (d:kT h v ds) (e:bj h h'):kT h' v ds:=⟨d.1.ai e,d.2⟩
def Wrd.ai {x:Nat} (d:Wrd h v x) (e:bj h h'):Wrd h' v x:=let ⟨ds,a,b⟩:=d;⟨ds,a.ai e,b⟩
variable {k:Nat}
def kT.putAt (d:kT h v ds) (hk:gW v≠some (2*k)) (o:cX):kT (h.put k o) v ds:=⟨d.1.putAt hk o,d.2⟩
def cW (h:IH) (v:QQ) (z:Int):Prop:=∃s,v=.agg #[.bool (decide (z<0)),s]∧Wrd h s z.natAbs
variable {z:Int}
def cW.ai (d:cW h v z) (e:bj h h'):cW h' v z:=let ⟨s,a,b⟩:=d;⟨s,a,b.ai e⟩
def cW.form (d:cW h v z) : ∃s n,v=.agg #[.bool (decide (z<0)),s]∧s.cells = #[s]∧bB s=true∧(∀{P:Program} {t:TypeId} (_:fm P (some t)=true) (h':IH),tE P h' t s=some (.int .i64 ((n:Nat):Int)))∧(n=0↔z=0):=by obtain⟨s,rfl,ds,hD,hN,hx⟩:=d;refine⟨s,ds.length,rfl,hD.1.cells,hD.1.cok,fun hT h'=>hD.1.len hT h',?_⟩;have:=hN.ow;rw[hx] at this;rw[jK,←this];omega
def Hi (l:List Nat):(l.map K64).all bB=true:=by simp[bB]
theorem rM (n:Nat):de n [.int .u64 0]=(List.replicate n 0).map K64:=by rw[IQ,List.map_replicate];rfl
def mU {os:List Nat} (x:Nat) (hk:k<os.length):IH.bf (os.map K64) k [K64 x]=(os.set k x).map K64:=by rw[jM (by simpa using hk),xh]
def Cx (hd:kT h v ds) (b:Bool):WV prog (.func (.func 193) #[] #[]) [.bool b,v] h fun r h'=>(Ext h h'∧cW h' r (if b then -(B.aM ds:Int) else B.aM ds)) ∧ ∀k o,gW v≠some (2*k)→cW (h'.put k o) r (if b then -(B.aM ds:Int) else B.aM ds):=by
 have hb:=hd.2.2;refine enter (nt:=29) (rs:=[.cell 4 135]) Proofs.Tryz.func193 rfl rfl rfl ab ?_;simp -dsimp (disch:=try exact dx) only[wpS,zE,zA,kH,hd.1.len jm];refine loop (fun m fr h1=>h1=h.new (.cells [.bool false,.slice none 0 0] 0 none)∧m≤ds.length∧ax fr 5=some (KN m)∧ax fr 0=some (.bool b)∧ax fr 1=some v∧ax fr 4=some (ptr (2*h.n) 0) ∧ ∀j,m≤j→ds.getD j 0=0) ds.length ⟨rfl,aA _,ab,ab,ab,ab,fun j hj=>B.fO hj⟩ ?_;rintro m fr h1 ⟨rfl,hm,f5,f0,f1,f4,hz⟩;have e1:Ext h (h.new (.cells [.bool false,.slice none 0 0] 0 none)):=(Ext.refl h).new _;have fin : ∀n:Nat,n≤ds.length→(∀j,n≤j→ds.getD j 0=0)→(n=0∨ds.getD (n - 1) 0≠0) → ∃r,dE prog (h.new (.cells [.bool false,.slice none 0 0] 0 none)) 133 v none (some (KN n)) none=some r∧gW r=gW v∧kT (h.new (.cells [.bool false,.slice none 0 0] 0 none)) r (ds.take n)∧B.Norm (ds.take n)∧B.aM (ds.take n)=B.aM ds∧(0<n↔0<B.aM ds):=by
  intro n hn hz hne;obtain⟨r,hr,hs⟩:=hd.1.slice e1.ai (P:=prog) (t:=133) TL Ee (l:=0) (m:=n) (dQ _) hn (lo:=none) (hi:=some (KN n)) rfl (fun c hc=>mz (k:=.i64) aa);have hl:(ds.take n).length=n:=by simp[hn]
  have hN:B.Norm (ds.take n):=by
   rcases hne with rfl|hne;·left;simp
   ·by_cases h0:n=0
    ·subst h0;left;simp
    ·right;rw[hl,B.rZ,aq aa];exact hne
  have hv:=B.zK hn hz;refine⟨r,hr,AK TL hr,⟨?_,hd.2.1.take n,by rw[hl];omega⟩,hN,hv,?_⟩
  ·rw[hl];have hs':df h 1 r n ((ds.take n).map K64):=by simpa [sN] using hs
   exact hs'.ext e1
  ·have hz:=hN.ow;rw[hv] at hz;constructor
   ·intro h0;apply pY;intro h1;have:=hz.1 h1;rw[this] at hl;simp at hl;omega
   ·intro h0;apply pY;intro h1;rw[h1] at hz;have:=hz.2 ab;omega
 have out : ∀(n:Nat) (r:QQ),gW r=gW v→kT (h.new (.cells [.bool false,.slice none 0 0] 0 none)) r (ds.take n)→B.Norm (ds.take n)→B.aM (ds.take n)=B.aM ds→(0<n↔0<B.aM ds) → ∀c:Bool,c=(b && decide (0<n)) → (Ext h ((h.new (.cells [.bool false,.slice none 0 0] 0 none)).put h.n (.cells [.bool c,r] 0 none))∧cW ((h.new (.cells [.bool false,.slice none 0 0] 0 none)).put h.n (.cells [.bool c,r] 0 none)) (.agg #[.bool c,r]) (if b then -(B.aM ds:Int) else B.aM ds)) ∧ ∀k o,gW v≠some (2*k)→cW (((h.new (.cells [.bool false,.slice none 0 0] 0 none)).put h.n (.cells [.bool c,r] 0 none)).put k o) (.agg #[.bool c,r]) (if b then -(B.aM ds:Int) else B.aM ds):=by
  rintro n r hbk hW hN hv hp c rfl;have hk:=hW.ai ((bj.refl _).put (ar h _ rfl) (.cells [.bool (b && decide (0<n)),r] 0 none));have hc:(b && decide (0<n))=decide ((if b then -(B.aM ds:Int) else B.aM ds)<0):=by rw[show decide (0<n)=decide (0<B.aM ds) from BW.2 hp];cases b<;>simp<;>omega
  have ha:(if b then -(B.aM ds:Int) else (B.aM ds:Int)).natAbs=B.aM ds:=by cases b<;>simp
  refine⟨⟨e1.put (aA _) _,r,by rw[hc],ds.take n,hk,hN,by rw[ha,hv]⟩,fun k o hbv=>⟨r,by rw[hc],ds.take n,hk.putAt (by rw[hbk];exact hbv) o,hN,by rw[ha,hv]⟩⟩
 rcases im m with rfl|hp
 ·obtain⟨r,hr,hbk,hW,hN,hv,hpp⟩:=fin 0 hm hz (.inl rfl);have:=out 0 r hbk hW hN hv hpp false ab;cases b
  ·simp -dsimp (disch:=try exact dx) only[wpS,wpT,zE,zL,zA,DT,yH,tv,gY,cM,f5,f0,f1,f4,hr,hW.1.cells,hW.1.cok];exact this
  ·simp -dsimp (disch:=try exact dx) only[wpS,wpT,zE,zL,zA,DT,yH,tv,gY,cM,f5,f0,f1,f4,hr,hW.1.cells,hW.1.cok];exact this
 ·obtain⟨k,rfl⟩ : ∃k,m=k+1:=⟨m - 1,aa⟩;have h2:IntKind.i64.wrap (((k+1:Nat):Int) - 1)=(k:Int):=by rw[wrap_i64 aa];omega
  simp -dsimp (disch:=try exact dx) only[wpS,wpT,zE,f5,f1,h2,hd.1.idx jY (show k<ds.length by omega),hd.1.ld e1.ai (P:=prog) (t:=28) (c:=k) bd uf,dF,get_some (show k<ds.length by omega)];refine aG (fun hc=>?_) (fun hc=>?_)
  ·simp -dsimp (disch:=try exact dx) only[wpS,zE,f5,h2];refine⟨k,aa,rfl,aa,ab,by simp[f0],by simp[f1],by simp[f4],fun j hj=>?_⟩;by_cases hjk:j=k
   ·subst hjk;simpa using hc
   ·exact hz j aa
  ·obtain⟨r,hr,hbk,hW,hN,hv,hpp⟩:=fin (k+1) hm hz (.inr (by simpa using hc));cases b
   ·have:=out (k+1) r hbk hW hN hv hpp false ab;simp -dsimp (disch:=try exact dx) only[wpS,wpT,zE,zL,zA,DT,yH,tv,gY,cM,f5,f0,f1,f4,hr,hW.1.cells,hW.1.cok];exact this
   ·have:=out (k+1) r hbk hW hN hv hpp true ab;simp -dsimp (disch:=try exact dx) only[wpS,wpT,zE,zL,zA,DT,yH,tv,gY,cM,f5,f0,f1,f4,hr,hW.1.cells,hW.1.cok];exact this
def jL (hd:kT h v ds) (b:Bool):WV prog (.func (.func 193) #[] #[]) [.bool b,v] h fun r h'=>Ext h h'∧cW h' r (if b then -(B.aM ds:Int) else B.aM ds):=(Cx hd b).mono fun _ _ k=>k.1
def Bg {w:QQ} {a b:List Nat} (ha:kT h v a) (hb:kT h w b) (na:B.Norm a) (nb:B.Norm b) :WV prog (.func (.func 238) #[] #[]) [v,w] h fun r h'=>h'=h ∧ ∃c:Int,r=KI c∧(c<0↔B.aM a<B.aM b)∧(c=0↔B.aM a=B.aM b) ∧ -9223372036854775808≤c∧c≤9223372036854775807:=by
 have la:=ha.2.2;have lb:=hb.2.2;refine enter (nt:=43) (rs:=[.tmp 4]) Proofs.Tryz.func238 rfl rfl rfl ab ?_;simp -dsimp (disch:=try exact dx) only[wpS,zE,zA,ha.1.len jm,hb.1.len jm];refine aG ?_ ?_<;>intro hc<;>simp only[mL,zr,ne_eq] at hc
 ·simp -dsimp (disch:=try exact dx) only[wpS,wpT,zE,ha.1.len jm,hb.1.len jm];refine⟨_,rfl,?_,?_,aa,aa⟩
  ·constructor
   ·intro h1;exact B.nY ha.2.1 nb aa
   ·intro h1;have:=na.qm hb.2.1 (kF h1);omega
  ·constructor
   ·intro h1;omega
   ·intro h1;have h2:=na.qm hb.2.1 (sI h1);have h3:=nb.qm ha.2.1 (sI h1.symm);omega
 ·have hl:a.length=b.length:=aa;simp -dsimp (disch:=try exact dx) only[wpS,wpT,zE,ha.1.len jm];refine loop (fun m fr h1=>h1=h∧m≤a.length∧ax fr 5=some (KI ((m:Int) - 1))∧ax fr 0=some v∧ax fr 1=some w ∧ ∀j,m≤j→j<a.length→a.getD j 0=b.getD j 0) a.length ⟨rfl,aA _,ab,ab,ab,fun j hj hj2=>aa⟩ ?_;rintro m fr h1 ⟨rfl,hm,f5,f0,f1,hz⟩;rcases im m with rfl|hp
  ·simp -dsimp (disch:=try exact dx) only[wpS,wpT,zE,f5];refine⟨_,rfl,?_,?_,aa,aa⟩
   ·have:=B.pV hl (fun j hj=>hz j (dQ _) hj);omega
   ·have:=B.pV hl (fun j hj=>hz j (dQ _) hj);omega
  ·obtain⟨k,rfl⟩ : ∃k,m=k+1:=⟨m - 1,aa⟩;have h2:(((k+1:Nat):Int) - 1)=(k:Int):=aa;rw[h2] at f5;have da:=B.cK ha.2.1 k;have db:=B.cK hb.2.1 k;have key:(a.getD k 0<b.getD k 0→B.aM a<B.aM b)∧(b.getD k 0<a.getD k 0→B.aM b<B.aM a) :=
    ⟨fun h=>B.nW ha.2.1 hl aa h (fun j x y=>hz j aa y),fun h=>B.nW hb.2.1 hl.symm aa h (fun j x y=>(hz j aa aa).symm)⟩
   simp -dsimp (disch:=try exact dx) only[wpS,wpT,zE,f5,f0,f1,ha.1.idx jY (show k<a.length by omega),ha.1.ld (bj.refl _) (P:=prog) (t:=28) (c:=k) bd uf,hb.1.idx jY (show k<b.length by omega),hb.1.ld (bj.refl _) (P:=prog) (t:=28) (c:=k) bd uf,dF,get_some (show k<a.length by omega),get_some (show k<b.length by omega)];refine aG ?_ ?_<;>intro hc<;>simp only[aS,aV] at hc
   ·simp -dsimp (disch:=try exact dx) only[wpS,wpT,zE];have:=key.1 aa;exact⟨_,rfl,aa,aa,aa,aa⟩
   ·simp -dsimp (disch:=try exact dx) only[wpS,wpT,zE,f5,f0,f1,ha.1.idx jY (show k<a.length by omega),ha.1.ld (bj.refl _) (P:=prog) (t:=28) (c:=k) bd uf,hb.1.idx jY (show k<b.length by omega),hb.1.ld (bj.refl _) (P:=prog) (t:=28) (c:=k) bd uf,dF,get_some (show k<a.length by omega),get_some (show k<b.length by omega)];refine aG ?_ ?_<;>intro hc4<;>simp only[aS,aV] at hc4
    ·simp -dsimp (disch:=try exact dx) only[wpS,wpT,zE];have:=key.2 aa;exact⟨_,rfl,aa,aa,aa,aa⟩
    ·simp -dsimp (disch:=try exact dx) only[wpS,wpT,zE,f5];refine⟨k,aa,rfl,aa,ab,by simp[f0],by simp[f1],fun j h3 h4=>?_⟩;by_cases hjk:j=k
     ·subst hjk;omega
     ·exact hz j aa h4
def D4 (x y c:Nat) (hc:c≤1):WV prog (.func (.func 245) #[] #[]) [K64 x,K64 y,K64 c] h fun r h'=>h'=h∧r=.tuple #[K64 ((x+y+c) % 18446744073709551616),K64 ((x+y+c) / 18446744073709551616)] :=
 HS Proofs.Tryz.func245 rfl (PD rfl x y hc) ⟨rfl,rfl⟩
def Ip (x y c:Nat) (hc:c≤1):WV prog (.func (.func 257) #[] #[]) [K64 x,K64 y,K64 c] h fun r h'=>h'=h∧r=.tuple #[K64 ((x+18446744073709551616 - y - c) % 18446744073709551616),K64 (bif Nat.blt x (y+c) then 1 else 0)] :=
 HS Proofs.Tryz.func257 rfl (PB rfl x y hc) ⟨rfl,rfl⟩
end
section
variable {x:Nat}{os:List Nat}{k:Nat}
theorem GI {i:Nat} (h:i≤k) (hk:k<os.length):B.bm (os.set k x) i=B.bm os i :=
 B.jk fun j hj=>by rw[B.fZ hk,ah aa]
theorem lK (hk:k<os.length):B.bm (os.set k x) (k+1)=B.bm os k+x*18446744073709551616 ^ k:=by rw[B.bm,GI (aA _) hk,B.fZ hk,aq rfl]
variable {h:IH}{b:List Nat}{w v:Value}{a:List Nat}
def Io (ha:kT h v a) (hb:kT h w b) (nb:B.Norm b) (hle:B.aM b≤B.aM a) :WV prog (.func (.func 239) #[] #[]) [v,w] h fun r h'=>Ext h h' ∧ ∃os,r=.slice (some ⟨2*h.n,0,none⟩) a.length (2*a.length+1)∧kT h' r os∧B.aM os=B.aM a - B.aM b:=by
 have la:=ha.2.2;have lb:=hb.2.2;refine enter (nt:=40) (rs:=[.tmp 4]) Proofs.Tryz.func239 rfl rfl rfl ab ?_;simp -dsimp (disch:=try exact dx) only[wpS,zE,zA,Ja,ha.1.len jm];refine loop (fun m fr h1 => ∃(i bor:Nat) (os:List Nat),i+m=a.length∧ax fr 1=some w∧ax fr 5=some (.slice (some ⟨2*h.n,0,none⟩) a.length (2*a.length+1))∧ax fr 6=some (K64 bor)∧ax fr 13=some v∧ax fr 14=some (KN a.length)∧ax fr 15=some (KN i)∧bor≤1∧os.length=a.length∧B.dh os ∧B.bm a i+bor*18446744073709551616 ^ i=B.bm b i+B.bm os i∧h.n<h1.n∧h1.ext.get h.n=some (.cells (os.map K64) 1 none)∧Ext h h1) a.length ⟨0,0,List.replicate a.length 0,ab,ab,ab,ab,ab,ab,ab,aa,ab,B.dh.de _,by simp[B.bm],ab,by rw[ar _ _ rfl,rM],(Ext.refl h).new _⟩ ?_;rintro m fr h1 ⟨i,bor,os,him,f1,f5,f6,f13,f14,f15,Jv,hos,hd,hv,hn,hg,hE⟩;simp -dsimp (disch:=try exact dx) only[wpS,f14,f15];refine aG ?_ ?_<;>intro hc<;>simp only[aS,aV] at hc
 ·have hi:i<a.length:=aa;have da:=B.cK ha.2.1 i;have db:=B.cK hb.2.1 i;have gx:=get_some hi;generalize hx:a.getD i 0=x at *;generalize hy:b.getD i 0=y at *;simp -dsimp (disch:=try exact dx) only[wpS,wpT,zE,f1,f13,f15,ha.1.idx jY hi,ha.1.ld hE.ai (P:=prog) (t:=28) (c:=i) (by simpa using hi) uf,dF,gx,hb.1.len jm];refine jQ (fun fr2 h2=>h2=h1∧ax fr2 1=some w∧ax fr2 5=some (.slice (some ⟨2*h.n,0,none⟩) a.length (2*a.length+1))∧ax fr2 6=some (K64 bor)∧ax fr2 7=some (KN i)∧ax fr2 8=some (K64 x)∧ax fr2 9=some (K64 y)∧ax fr2 13=some v∧ax fr2 14=some (KN a.length)∧ax fr2 15=some (KN i)) (fun hc=>?_) (fun hc=>?_) ?_
  ·simp only[aS] at hc;have hi2:i<b.length:=aa;have gy:=get_some hi2;rw[hy] at gy;simp -dsimp (disch:=try exact dx) only[wpS,wpT,zE,f1,hb.1.idx jY hi2,hb.1.ld hE.ai (P:=prog) (t:=28) (c:=i) (by simpa using hi2) uf,dF,gy];exact⟨rfl,by simp[f1],by simp[f5],by simp[f6],ab,ab,ab,by simp[f13],by simp[f14],by simp[f15]⟩
  ·simp only[aV] at hc;have hy0:y=0:=by rw[←hy];exact B.fO aa
   subst hy0;simp -dsimp (disch:=try exact dx) only[wpS,wpT];exact⟨rfl,by simp[f1],by simp[f5],by simp[f6],ab,ab,ab,by simp[f13],by simp[f14],by simp[f15]⟩
  ·rintro fr2 h2 ⟨rfl,f1,f5,f6,f7,f8,f9,f13,f14,f15⟩;simp -dsimp (disch:=try exact dx) only[wpS,zE,f5,f6,f7,f8,f9];refine call (Ip x y bor Jv) ?_;rintro _ _ ⟨rfl,rfl⟩;have hi3:i<os.length:=aa;generalize hdd:(x+18446744073709551616 - y - bor) % 18446744073709551616=d;obtain⟨b2,hb2,hb1,ml⟩ : ∃b2:Nat,(bif Nat.blt x (y+bor) then 1 else 0)=b2∧b2≤1∧x+b2*18446744073709551616=y+bor+d:=by
    by_cases hlt:x<y+bor
    ·have e:Nat.blt x (y+bor)=true:=by simp only[Nat.blt,ch];exact hlt
     refine⟨1,by rw[e];rfl,aa,aa⟩
    ·have e:Nat.blt x (y+bor)=false:=by rw[sU];intro h;simp[Nat.blt] at h;omega
     refine⟨0,by rw[e];rfl,aa,aa⟩
   rw[hb2];have hd2:d<18446744073709551616:=aa;have spl:=mU d hi3;rename_i h3;simp -dsimp (disch:=try exact dx) only[wpS,wpT,zE,jY,rp,f15,hg,spl,cz,hos];refine⟨m - 1,aa,i+1,b2,os.set i d,aa,by simp[f1],by simp[f5],ab,by simp[f13],by simp[f14],ab,hb1,by rw[dB,hos],hd.set _ hd2,?_,hn,aj _ _ rfl,hE.put (aA _) _⟩;rw[lK hi3,B.bm,B.bm,hx,hy,eH];have e3:x*18446744073709551616 ^ i+b2*(18446744073709551616 ^ i*18446744073709551616)=(y+bor+d)*18446744073709551616 ^ i:=by rw[←ml];grind
   have e4:(y+bor+d)*18446744073709551616 ^ i=y*18446744073709551616 ^ i+bor*18446744073709551616 ^ i+d*18446744073709551616 ^ i:=gh;omega
 ·obtain rfl:i=a.length:=aa;have hbl:=nb.qm ha.2.1 hle;rw[B.lX hbl,B.lX (aA _),B.lX (show os.length≤a.length by omega)] at hv;have hlt:=B.mS hd;rw[hos] at hlt;have hb0:bor=0:=by apply di;intro hne;have:bor=1:=aa;subst this;omega
  subst hb0;simp -dsimp (disch:=try exact dx) only[wpS,wpT,zE,f5];exact⟨hE,os,⟨by rw[hos];exact fX hg hn aC (by simp[hos]) aa aa,hd,aa⟩,aa⟩
def Tn (ha:kT h v a) (hb:kT h w b) (la:a.length≤1000001) (lb:b.length≤1000001) :WV prog (.func (.func 237) #[] #[]) [v,w] h fun r h'=>Ext h h' ∧ ∃os,kT h' r os∧B.aM os=B.aM a+B.aM b:=by
 refine enter (nt:=53) (rs:=[.tmp 4]) Proofs.Tryz.func237 rfl rfl rfl ab ?_;simp -dsimp (disch:=try exact dx) only[wpS,zE,zA,ha.1.len jm,hb.1.len jm];refine jQ (fun fr2 h2=>h2=h ∧ ∃(v' w':Value) (a' b':List Nat),kT h v' a'∧kT h w' b'∧a'.length≤1000001∧b'.length≤a'.length∧B.aM a'+B.aM b'=B.aM a+B.aM b∧ax fr2 0=some v'∧ax fr2 1=some w') (fun hc=>?_) (fun hc=>?_) ?_
 ·simp only[aS] at hc;simp -dsimp (disch:=try exact dx) only[wpS,wpT,zE];exact⟨rfl,w,v,b,a,hb,ha,lb,aa,aa,ab,ab⟩
 ·simp only[aV] at hc;simp -dsimp (disch:=try exact dx) only[wpS,wpT];exact⟨rfl,v,w,a,b,ha,hb,la,aa,rfl,ab,ab⟩
 clear ha hb la lb;rintro fr h1 ⟨rfl,v,w,a',b',ha,hb,la,hle,Js,f0,f1⟩;rw[←Js];clear Js;have eL:(a'.length:Int)+1=((a'.length+1:Nat):Int):=aa;simp -dsimp (disch:=try exact dx) only[wpS,wpT,zE,Ja,f0,ha.1.len jm,eL];refine loop (fun m fr h2 => ∃(i c:Nat) (os:List Nat),i+m=a'.length∧ax fr 0=some v∧ax fr 1=some w∧ax fr 5=some (.slice (some ⟨2*h1.n,0,none⟩) (a'.length+1) (2*(a'.length+1)+1))∧ax fr 6=some (K64 c)∧ax fr 21=some v∧ax fr 22=some (KN a'.length)∧ax fr 23=some (KN i)∧c≤1∧os.length=a'.length+1∧B.dh os ∧B.bm os i+c*18446744073709551616 ^ i=B.bm a' i+B.bm b' i∧h1.n<h2.n∧h2.ext.get h1.n=some (.cells (os.map K64) 1 none)∧Ext h1 h2) a'.length
  ⟨0,0,List.replicate (a'.length+1) 0,ab,by simp[f0],by simp[f1],ab,ab,ab,ab,ab,aa,ab,B.dh.de _,by simp[B.bm],ab,by rw[ar _ _ rfl,rM];rfl,(Ext.refl h1).new _⟩ ?_
 clear f0 f1;rintro m fr h2 ⟨i,c,os,him,f0,f1,f5,f6,f21,f22,f23,hcc,hos,hd,hv,hn,hg,hE⟩;simp -dsimp (disch:=try exact dx) only[wpS,f22,f23];refine aG ?_ ?_<;>intro hc<;>simp only[aS,aV] at hc
 ·have hi:i<a'.length:=aa;have da:=B.cK ha.2.1 i;have db:=B.cK hb.2.1 i;have gx:=get_some hi;generalize hx:a'.getD i 0=x at *;generalize hy:b'.getD i 0=y at *;simp -dsimp (disch:=try exact dx) only[wpS,wpT,zE,f1,f21,f23,ha.1.idx jY hi,ha.1.ld hE.ai (P:=prog) (t:=28) (c:=i) (by simpa using hi) uf,dF,gx,hb.1.len jm];refine jQ (fun fr2 h3=>h3=h2∧ax fr2 0=some v∧ax fr2 1=some w∧ax fr2 5=some (.slice (some ⟨2*h1.n,0,none⟩) (a'.length+1) (2*(a'.length+1)+1))∧ax fr2 6=some (K64 c)∧ax fr2 7=some (KN i)∧ax fr2 8=some (K64 x)∧ax fr2 9=some (K64 y)∧ax fr2 21=some v∧ax fr2 22=some (KN a'.length)∧ax fr2 23=some (KN i)) (fun hc=>?_) (fun hc=>?_) ?_
  ·simp only[aS] at hc;have hi2:i<b'.length:=aa;have gy:=get_some hi2;rw[hy] at gy;simp -dsimp (disch:=try exact dx) only[wpS,wpT,zE,f1,hb.1.idx jY hi2,hb.1.ld hE.ai (P:=prog) (t:=28) (c:=i) (by simpa using hi2) uf,dF,gy];exact⟨rfl,by simp[f0],by simp[f1],by simp[f5],by simp[f6],ab,ab,ab,by simp[f21],by simp[f22],by simp[f23]⟩
  ·simp only[aV] at hc;have hy0:y=0:=by rw[←hy];exact B.fO aa
   subst hy0;simp -dsimp (disch:=try exact dx) only[wpS,wpT];exact⟨rfl,by simp[f0],by simp[f1],by simp[f5],by simp[f6],ab,ab,ab,by simp[f21],by simp[f22],by simp[f23]⟩
  ·rintro fr2 h3 ⟨rfl,f0,f1,f5,f6,f7,f8,f9,f21,f22,f23⟩;simp -dsimp (disch:=try exact dx) only[wpS,zE,f5,f6,f7,f8,f9];refine call (D4 x y c hcc) ?_;rintro _ _ ⟨rfl,rfl⟩;have hi3:i<os.length:=aa;generalize hs:x+y+c=s;have spl:=mU (s % 18446744073709551616) hi3;simp -dsimp (disch:=try exact dx) only[wpS,wpT,zE,zL,jY,rp,f23,hg,spl,cz,hos];refine⟨m - 1,aa,i+1,s / 18446744073709551616,os.set i (s % 18446744073709551616),aa,by simp[f0],by simp[f1],by simp[f5],ab,by simp[f21],by simp[f22],ab,aa,by rw[dB,hos],hd.set _ aa,?_,hn,aj _ _ rfl,hE.put (aA _) _⟩;rw[lK hi3,B.bm,B.bm,hx,hy,eH];have ml:s % 18446744073709551616+s / 18446744073709551616*18446744073709551616=x+y+c:=aa;have e3:s % 18446744073709551616*18446744073709551616 ^ i+s / 18446744073709551616*(18446744073709551616 ^ i*18446744073709551616)=(x+y+c)*18446744073709551616 ^ i:=by rw[←ml];grind
   have e4:(x+y+c)*18446744073709551616 ^ i=x*18446744073709551616 ^ i+y*18446744073709551616 ^ i+c*18446744073709551616 ^ i:=gh;omega
 ·obtain rfl:i=a'.length:=aa;have hi3:a'.length<os.length:=aa;have spl:=mU c hi3;simp -dsimp (disch:=try exact dx) only[wpS,wpT,zE,zL,jY,rp,f0,f5,f6,ha.1.len jm,hg,spl,cz,hos];refine⟨hE.put (aA _) _,os.set a'.length c,⟨?_,hd.set _ aa,by rw[dB];omega⟩,?_⟩
  ·rw[dB,hos];exact fX (aj _ _ rfl) hn aC (by simp[hos]) aa aa
  ·have:=lK (x:=c) hi3;rw[B.lX hle,B.lX (aA _)] at hv;rw[B.aM,dB,hos,this,hv]
def Um (x y:Nat) (hx:x<18446744073709551616) (hy:y<18446744073709551616):WV prog (.func (.func 244) #[] #[]) [K64 x,K64 y] h fun r h'=>h'=h∧r=.tuple #[K64 (x*y / 18446744073709551616),K64 (x*y % 18446744073709551616)]:=by
 obtain⟨x0,hx0⟩ : ∃x0,x0=x % 4294967296:=⟨_,rfl⟩;obtain⟨x1,hx1⟩ : ∃x1,x1=x / 4294967296:=⟨_,rfl⟩;obtain⟨y0,hy0⟩ : ∃y0,y0=y % 4294967296:=⟨_,rfl⟩;obtain⟨y1,hy1⟩ : ∃y1,y1=y / 4294967296:=⟨_,rfl⟩;have ex:x=x1*4294967296+x0:=aa;have ey:y=y1*4294967296+y0:=aa;obtain⟨m1,m2,m3⟩:=Rj (x1:=x1) (x0:=x0) (y1:=y1) (y0:=y0) aa aa aa aa;rw[←ex,←ey] at m3;have a1:x &&& 4294967295=x0:=by rw[hx0];exact zy x 32
 have a2:y &&& 4294967295=y0:=by rw[hy0];exact zy y 32
 have a3:qj x 32=x1:=by rw[hx1];exact kE x 32
 have a4:qj y 32=y1:=by rw[hy1];exact kE y 32
 have b00:x0*y0≤4294967295*4294967295:=jg aa aa;have b01:x0*y1≤4294967295*4294967295:=jg aa aa;have b10:x1*y0≤4294967295*4294967295:=jg aa aa;have b11:x1*y1≤4294967295*4294967295:=jg aa aa;have c00:(x0:Int)*(y0:Int)=((x0*y0:Nat):Int):=ab;have c01:(x0:Int)*(y1:Int)=((x0*y1:Nat):Int):=ab;have c10:(x1:Int)*(y0:Int)=((x1*y0:Nat):Int):=ab;have c11:(x1:Int)*(y1:Int)=((x1*y1:Nat):Int):=ab;have cxy:(x:Int)*(y:Int)=((x*y:Nat):Int):=ab;generalize x0*y0=p00 at *;generalize x0*y1=p01 at *;generalize x1*y0=p10 at *;generalize x1*y1=p11 at *;generalize x*y=pp at *;obtain⟨t,ht⟩ : ∃t,t=p10+p00 / 4294967296:=⟨_,rfl⟩;rw[←ht] at m1 m2 m3;obtain⟨w,hw⟩ : ∃w,w=t % 4294967296+p01:=⟨_,rfl⟩;rw[←hw] at m2 m3;have s1:qj p00 32=p00 / 4294967296:=kE p00 32;have s2:qj t 32=t / 4294967296:=kE t 32;have s3:qj w 32=w / 4294967296:=kE w 32;have a5:t &&& 4294967295=t % 4294967296:=zy t 32;have eT:(p10:Int)+((p00 / 4294967296:Nat):Int)=(t:Int):=aa;have eW:((t % 4294967296:Nat):Int)+(p01:Int)=(w:Int):=aa;have wr:IntKind.u64.wrap (pp:Int)=((pp % 18446744073709551616:Nat):Int):=by rw[wo];omega
 refine enter (nt:=51) (rs:=[.tmp 4,.tmp 5]) Proofs.Tryz.func244 rfl rfl rfl ab ?_;simp -dsimp (maxSteps:=1000000) (disch:=first|omega|(simp only[aH,aJ];omega)|decide +kernel|(repeat first|rw[aH]|rw[aJ])) only[wpS,wpT,zE,zA,Int.reduceToNat,a1,a2,a3,a4,c00,c01,c10,c11,s1,eT,a5,s2,eW,s3];rw[cxy,wr,←m3];simp
def Oc (x y:Nat):WV prog (.func (.func 245) #[] #[]) [K64 x,K64 y,.int .u64 0] h fun r h'=>h'=h∧r=.tuple #[K64 ((x+y) % 18446744073709551616),K64 ((x+y) / 18446744073709551616)]:=D4 x y 0 aa
def Er (ha:kT h v a) (hb:kT h w b) (hab:a.length+b.length≤1100000) :WV prog (.func (.func 194) #[] #[]) [v,w] h fun r h'=>Ext h h' ∧ ∃os,kT h' r os∧B.aM os=B.aM a*B.aM b:=by
 have eL:(a.length:Int)+(b.length:Int)=((a.length+b.length:Nat):Int):=aa;refine enter (nt:=80) (rs:=[.tmp 4]) Proofs.Tryz.func194 rfl rfl rfl ab ?_;simp -dsimp (disch:=try exact dx) only[wpS,zE,zA,Ja,ha.1.len jm,hb.1.len jm,eL];refine loop (fun m fr h1 => ∃(i:Nat) (os:List Nat),i+m=a.length∧Ext h h1∧h.n<h1.n∧h1.ext.get h.n=some (.cells (os.map K64) 1 none)∧os.length=a.length+b.length∧B.dh os∧B.aM os=B.bm a i*B.aM b∧(∀k,i+b.length≤k→os.getD k 0=0) ∧ax fr 1=some w∧ax fr 5=some (.slice (some ⟨2*h.n,0,none⟩) (a.length+b.length) (2*(a.length+b.length)+1))∧ax fr 22=some v∧ax fr 23=some (KN a.length)∧ax fr 24=some (KN i)) a.length ⟨0,List.replicate (a.length+b.length) 0,aa,(Ext.refl h).new _,ab,by rw[ar _ _ rfl,rM],ab,B.dh.de _,by rw[B.nQ];simp[B.bm],fun k _=>B.oe _ _,ab,ab,ab,ab,ab⟩ ?_;rintro m fr h1 ⟨i,os,him,hE,hn,hg,hol,hod,hov,hoz,f1,f5,f22,f23,f24⟩;simp -dsimp (disch:=try exact dx) only[wpS,f23,f24];refine aG ?_ ?_<;>intro hc<;>simp only[aS,aV] at hc
 ·have hi:i<a.length:=aa;have da:=B.cK ha.2.1 i;have gx:=get_some hi;generalize hx:a.getD i 0=x at *;simp -dsimp (disch:=try exact dx) only[wpS,wpT,zE,f1,f22,f24,ha.1.idx jY hi,ha.1.ld hE.ai (P:=prog) (t:=28) (c:=i) (by simpa using hi) uf,dF,gx,hb.1.len jm];refine loop (fun m2 fr h2 => ∃(j c:Nat) (os2:List Nat),j+m2=b.length∧Ext h h2∧h.n<h2.n∧h2.ext.get h.n=some (.cells (os2.map K64) 1 none)∧os2.length=a.length+b.length∧B.dh os2∧c<18446744073709551616∧B.aM os2+c*18446744073709551616 ^ (i+j)=B.bm a i*B.aM b+x*B.bm b j*18446744073709551616 ^ i∧(∀k,i+b.length≤k→os2.getD k 0=0) ∧ax fr 1=some w∧ax fr 5=some (.slice (some ⟨2*h.n,0,none⟩) (a.length+b.length) (2*(a.length+b.length)+1))∧ax fr 22=some v∧ax fr 23=some (KN a.length)∧ax fr 24=some (KN i)∧ax fr 6=some (KN i)∧ax fr 7=some (K64 x)∧ax fr 8=some (K64 c)∧ax fr 29=some w∧ax fr 30=some (KN b.length)∧ax fr 31=some (KN j)) b.length ⟨0,0,os,aa,hE,hn,hg,hol,hod,aa,by rw[hov];simp[B.bm],hoz,by simp[f1],by simp[f5],by simp[f22],by simp[f23],by simp[f24],ab,ab,ab,ab,ab,ab⟩ ?_;clear hE hn hg hol hod hov hoz f1 f5 f22 f23 f24;rintro m2 fr h2 ⟨j,c,os2,hjm,hE,hn,hg,hol,hod,hc4,hov,hoz,f1,f5,f22,f23,f24,f6,f7,f8,f29,f30,f31⟩;simp -dsimp (disch:=try exact dx) only[wpS,f30,f31];refine aG ?_ ?_<;>intro hc2<;>simp only[aS,aV] at hc2
  ·have hj:j<b.length:=aa;have db:=B.cK hb.2.1 j;have doo:=B.cK hod (i+j);have hr:h2.row (2*h.n)=some (os2.map K64):=cJ hg;have gy:=get_some hj;have go:=get_some (show i+j<os2.length by omega);generalize hy:b.getD j 0=y at *;generalize ho:os2.getD (i+j) 0=o at *;have gor:(os2.map K64)[i+j]?=some (K64 o):=by rw[dM,go];rfl
   have eI:(i:Int)+(j:Int)=((i+j:Nat):Int):=aa;have hp:x*y≤18446744073709551615*18446744073709551615:=jg aa aa;simp -dsimp (disch:=try exact dx) only[wpS,wpT,zE,f7,f29,f31,hb.1.idx jY hj,hb.1.ld hE.ai (P:=prog) (t:=28) (c:=j) (by simpa using hj) uf,dF,gy];refine call (Um x y da db) ?_;rintro _ _ ⟨rfl,rfl⟩;obtain⟨p,hpp⟩ : ∃p,p=x*y:=⟨_,rfl⟩;rw[←hpp] at hp ⊢;rename_i h3;simp -dsimp (disch:=try exact dx) only[wpS,zE,jY,oa,f5,f6,hr,gor,eI];refine call (Oc o (p % 18446744073709551616)) ?_;rintro _ _ ⟨rfl,rfl⟩;rename_i h4;simp -dsimp (disch:=try exact dx) only[wpS,zE,f8];refine call (Oc ((o+p % 18446744073709551616) % 18446744073709551616) c) ?_;rintro _ _ ⟨rfl,rfl⟩;rename_i h5;obtain⟨s,hs⟩ : ∃s,s=c+o+p:=⟨_,rfl⟩;have eR:((o+p % 18446744073709551616) % 18446744073709551616+c) % 18446744073709551616=s % 18446744073709551616:=aa;have eQ:((p / 18446744073709551616:Nat):Int)+(((o+p % 18446744073709551616) / 18446744073709551616:Nat):Int)+((((o+p % 18446744073709551616) % 18446744073709551616+c) / 18446744073709551616:Nat):Int)=((s / 18446744073709551616:Nat):Int):=aa;have spl:=mU (s % 18446744073709551616) (show i+j<os2.length by omega);rw[eR];simp -dsimp (maxSteps:=1000000) (disch:=first|omega|(simp only[aH,aJ];omega)|decide +kernel|(repeat first|rw[aH]|rw[aJ])) only[wpS,wpT,zE,jY,rp,f5,f6,f31,eI,eQ,hg,spl,cz,hol];refine⟨m2 - 1,aa,j+1,s / 18446744073709551616,os2.set (i+j) (s % 18446744073709551616),aa,hE.put (aA _) _,hn,aj _ _ rfl,by rw[dB,hol],hod.set _ aa,aa,?_,?_,by simp[f1],by simp[f5],by simp[f22],by simp[f23],by simp[f24],by simp[f6],by simp[f7],ab,by simp[f29],by simp[f30],ab⟩
   ·have hv:=B.lM (s % 18446744073709551616) (show i+j<os2.length by omega);rw[ho] at hv;have hsd:s % 18446744073709551616+s / 18446744073709551616*18446744073709551616=c+o+x*y:=aa;rw[B.bm,hy];have e1:18446744073709551616 ^ (i+(j+1))=18446744073709551616 ^ (i+j)*18446744073709551616:=by rw[←ma,eH]
    have e2:18446744073709551616 ^ (i+j)=18446744073709551616 ^ i*18446744073709551616 ^ j:=dT _ _ _;rw[e1];have e3:s % 18446744073709551616*18446744073709551616 ^ (i+j)+s / 18446744073709551616*(18446744073709551616 ^ (i+j)*18446744073709551616)=(c+o+x*y)*18446744073709551616 ^ (i+j):=by rw[←hsd];grind
    have e4:x*(B.bm b j+y*18446744073709551616 ^ j)*18446744073709551616 ^ i=x*B.bm b j*18446744073709551616 ^ i+x*y*18446744073709551616 ^ (i+j):=by rw[e2];grind
    have e5:(c+o+x*y)*18446744073709551616 ^ (i+j)=c*18446744073709551616 ^ (i+j)+o*18446744073709551616 ^ (i+j)+x*y*18446744073709551616 ^ (i+j):=gh;omega
   ·intro k hk;rw[B.fZ aa,ah aa];exact hoz k hk
  ·obtain rfl:j=b.length:=aa;have hz:=hoz (i+b.length) (aA _);have eI:(i:Int)+(b.length:Int)=((i+b.length:Nat):Int):=aa;have spl:=mU c (show i+b.length<os2.length by omega);simp -dsimp (disch:=try exact dx) only[wpS,wpT,zE,jY,rp,f1,f5,f6,f8,f24,hb.1.len jm,eI,hg,spl,cz,hol];refine⟨m - 1,aa,i+1,os2.set (i+b.length) c,aa,hE.put (aA _) _,hn,aj _ _ rfl,by rw[dB,hol],hod.set _ aa,?_,?_,by simp[f1],by simp[f5],by simp[f22],by simp[f23],ab⟩
   ·have hv:=B.lM c (show i+b.length<os2.length by omega);rw[hz,kf,gN] at hv;rw[hv,hov,B.bm,hx,show B.bm b b.length=B.aM b from rfl];grind
   ·intro k hk;rw[B.fZ aa,ah aa];exact hoz k aa
 ·obtain rfl:i=a.length:=aa;simp -dsimp (disch:=try exact dx) only[wpS,wpT,zE,f5];refine⟨hE,os,⟨?_,hod,aa⟩,hov⟩;rw[hol];exact fX hg hn aC (by rw[cz,hol];omega) aa aa
end
section
def zk:Nat→Nat
 | 0=>0
 | n+1=>Nat.log2 (n+1)+1
theorem BR : ∀x,x<256 → ∀N,N<9→(N<zk x↔2 ^ N≤x):=cI
def Pf {P:Program} {t:TypeId} (ht:P.underlying t=some .string) (s:ByteArray) (hs:(List.range 256).all (fun j=>decide (s[j]?=some (UInt8.ofNat (zk j))))=true) {j:Nat} (hj:j<256):uS P t (.string s) (.int .u8 j)=some (.int .u8 (zk j)):=by
 rw[ji] at hs;have h1:=hs j (qX.2 hj);simp only[aS] at h1
 have hb:zk j<256:=by
  have:=(BR j hj 8 aa).1;rcases dr 8 (zk j) with h|h;·have:=this h;omega
  ·omega
 have h2:aI P (Instr.index t (.string s) (.int .u8 j))=some (.int .u8 (zk j)):=by unfold Instr.index;rw[cU (show aI P (asIntOf (.int .u8 j))=some (IntKind.u8,(j:Int)) from rfl)];simp only;rw[cU (fH ht)];simp only[iv,show(0:Int)≤(j:Int) by omega,cq,h1];rw[vB];have:(UInt8.ofNat (zk j)).toNat=zk j:=aT;rw[this]
 have hp:plain (.int .u8 j)=true:=rfl;simp only[uS,hp,cg,fb,h2];rfl
def Si {α:Type} {o:Option α} {K:α→Prop} {v:α} (h:o=some v) (k:K v):Do (Ex o) K nx:=⟨v,h,k⟩
def J9 (u x k:Nat):Prop:=x=u / 2 ^ k∧(0<k→0<x)
variable {x u k:Nat}
theorem J9.ok (h:J9 u x k) (hx:x<256) (N:Nat):N<k+zk x↔2 ^ N≤u:=by
 obtain⟨rfl,h2⟩:=h;rcases dr N k with h|h
 ·have hx0:=h2 aa;have h3:2 ^ k≤u:=by apply di;intro hh;rw[mM aa] at hx0;omega
  have h4:2 ^ N≤2 ^ k:=fA aa aa;exact⟨fun _=>bV h4 h3,fun _=>aa⟩
 ·obtain⟨d,rfl⟩ : ∃d,N=k+d:=⟨N - k,aa⟩;have e:2 ^ (k+d)≤u↔2 ^ d≤u / 2 ^ k:=by rw[Gp (gM aa),dT,gE]
  rw[e];rcases dr d 9 with hd|hd;·rw[←BR _ hx d hd];omega
  ·have h9:2 ^ 9≤2 ^ d:=fA aa hd
   have hb : ¬9≤zk (u / 2 ^ k):=by intro hh;have:=(BR _ hx 8 aa).1 aa;omega
   constructor;·intro;omega
   ·intro;omega
def J9.more {d:Nat} (h:J9 u x k) (hx:2 ^ d≤x):J9 u (x / 2 ^ d) (k+d):=by obtain⟨rfl,h2⟩:=h;refine⟨by rw[Gq,dT],fun _=>?_⟩;exact Nat.div_pos hx (gM aa)
def Ji {h:IH} (u:Nat) (hu:u<18446744073709551616):WV Proofs.Tryz.prog (.func (.func 262) #[] #[]) [K64 u] h fun r h'=>h'=h ∧ ∃k:Nat,r=KN k∧k<1000 ∧ ∀N,N<k↔2 ^ N≤u:=by
 refine enter (nt:=25) (rs:=[.tmp 2]) Proofs.Tryz.func262 rfl rfl rfl ab ?_;simp -dsimp (disch:=try exact dx) only[wpS,Nat.reduceEqDiff];refine jQ (fun fr2 h2=>h2=h ∧ ∃x k:Nat,ax fr2 0=some (K64 x)∧ax fr2 2=some (KN k)∧k≤32∧x<4294967296∧J9 u x k) (fun hc=>?_) (fun hc=>?_) ?_
 ·simp only[aS] at hc;have e1:qj u 32=u / 4294967296:=by rw[qj,kE]
  simp -dsimp (disch:=try exact dx) only[wpS,wpT,Nat.reduceEqDiff,Int.reduceToNat,e1];refine⟨rfl,u / 4294967296,32,ab,ab,aa,aa,ab,fun _=>aa⟩
 ·simp only[aV] at hc;simp -dsimp (disch:=try exact dx) only[wpS,wpT];refine⟨rfl,u,0,ab,ab,aa,aa,ab,aa⟩
 rintro fr h1 ⟨rfl,x,k,f0,f2,hk,hx,hL⟩;simp -dsimp (disch:=try exact dx) only[wpS,Nat.reduceEqDiff,f0];refine jQ (fun fr2 h2=>h2=h1 ∧ ∃x k:Nat,ax fr2 0=some (K64 x)∧ax fr2 2=some (KN k)∧k≤48∧x<65536∧J9 u x k) (fun hc=>?_) (fun hc=>?_) ?_
 ·simp only[aS] at hc;have e1:qj x 16=x / 65536:=by rw[qj,kE]
  simp -dsimp (disch:=try exact dx) only[wpS,wpT,Nat.reduceEqDiff,Int.reduceToNat,f0,f2,e1];exact⟨rfl,x / 65536,k+16,ab,ab,aa,aa,hL.more (d:=16) aa⟩
 ·simp only[aV] at hc;simp -dsimp (disch:=try exact dx) only[wpS,wpT];refine⟨rfl,x,k,by simp[f0],by simp[f2],aa,aa,hL⟩
 rintro fr h2 ⟨rfl,x,k,f0,f2,hk,hx,hL⟩;simp -dsimp (disch:=try exact dx) only[wpS,Nat.reduceEqDiff,f0];refine jQ (fun fr2 h3=>h3=h2 ∧ ∃x k:Nat,ax fr2 0=some (K64 x)∧ax fr2 2=some (KN k)∧k≤56∧x<256∧J9 u x k) (fun hc=>?_) (fun hc=>?_) ?_
 ·simp only[aS] at hc;have e1:qj x 8=x / 256:=by rw[qj,kE]
  simp -dsimp (disch:=try exact dx) only[wpS,wpT,Nat.reduceEqDiff,Int.reduceToNat,f0,f2,e1];exact⟨rfl,x / 256,k+8,ab,ab,aa,aa,hL.more (d:=8) aa⟩
 ·simp only[aV] at hc;simp -dsimp (disch:=try exact dx) only[wpS,wpT];refine⟨rfl,x,k,by simp[f0],by simp[f2],aa,aa,hL⟩
 rintro fr h3 ⟨rfl,x,k,f0,f2,hk,hx,hL⟩;simp -dsimp (disch:=try exact dx) only[wpS,Nat.reduceEqDiff,XF,f0,f2];refine Si (Pf u9 _ cI hx) ?_;simp -dsimp (disch:=try exact dx) only[wpS,wpT,Nat.reduceEqDiff,zf]
 have hb:zk x<256:=by
  have:=(BR x hx 8 aa).1;rcases dr 8 (zk x) with h|h;·have:=this h;omega
  ·omega
 refine⟨k+zk x,?_,aa,fun N=>hL.ok hx N⟩;rw[wrap_i64 (x:=(zk x:Int)) aa,wrap_i64 aa];exact kC (Value.int .i64) aa
end
section
variable {r1 u r0 w:Nat}
def XD {a b A B:Nat} (hw:4294967296*a+b=w) (h1:u*4294967296+a=A+r1) (h2:r1*4294967296+b=B+r0):u*18446744073709551616+w=A*4294967296+B+r0:=by
 have e:u*18446744073709551616=u*4294967296*4294967296:=by rw[w9]
 rw[e,←hw,←ma,gE 4294967296 a,←dA,h1,dA,ma,h2,ma]
def Md {hi lo y s Y q1 q0:Nat} (hY:Y=y*2 ^ s) (hy:0<y) (hN:(hi*18446744073709551616+lo)*2 ^ s=u*18446744073709551616+w) (h1:u*4294967296+w / 4294967296=q1*Y+r1) (h2:r1*4294967296+w % 4294967296=q0*Y+r0) (hr:r0<Y) :(hi*18446744073709551616+lo) / y=q1*4294967296+q0∧r0 / 2 ^ s=(hi*18446744073709551616+lo) % y:=by
 have hp:0<2 ^ s:=gM aa;have e1:Y*(q1*4294967296+q0)=q1*Y*4294967296+q0*Y:=by rw[sH,gE Y q0,←w9,gE Y q1]
 have e:(hi*18446744073709551616+lo)*2 ^ s=Y*(q1*4294967296+q0)+r0:=by rw[hN,e1];exact XD (mN _ _) h1 h2
 obtain⟨N,hNN⟩ : ∃N,N=hi*18446744073709551616+lo:=⟨_,rfl⟩;rw[←hNN] at e ⊢;clear hN h1 h2 hNN;have e2:N*2 ^ s / Y=q1*4294967296+q0:=by rw[e,Nat.mul_add_div (by rw[hY];exact nF hy hp),mM hr,gN]
 have e3:N*2 ^ s % Y=r0:=by rw[e,Nat.mul_add_mod,dR hr]
 rw[hY,Nat.mul_div_mul_right _ _ hp] at e2;rw[hY,Nat.mul_mod_mul_right] at e3;exact⟨e2,by rw[←e3,Nat.mul_div_cancel _ hp]⟩
variable {h:IH}
def VL (u:Nat) (h0:0<u) (hu:u<18446744073709551616):WV Proofs.Tryz.prog (.func (.func 265) #[] #[]) [K64 u] h fun r h'=>h'=h ∧ ∃s:Nat,r=KN s∧s<64∧9223372036854775808≤u*2 ^ s∧u*2 ^ s<18446744073709551616∧2 ^ (63 - s)≤u∧u<2 ^ (64 - s):=by
 refine enter (nt:=6) (rs:=[.tmp 2]) Proofs.Tryz.func265 rfl rfl rfl ab ?_
 simp -dsimp (disch:=try exact dx) only[wpS,zE];refine call (Ji u hu) ?_;rintro _ _ ⟨rfl,k,rfl,hk,hN⟩;have k1:0<k:=(hN 0).2 aa;have k2:k≤64:=by apply di;intro hn;have:=(hN 64).1 aa;omega
 have k3:2 ^ (k - 1)≤u:=(hN (k - 1)).1 aa;have k4:u<2 ^ k:=by apply di;intro hn;have:=(hN k).2 aa;omega
 have e:(64:Int) - (k:Int)=((64 - k:Nat):Int):=aa;simp -dsimp (disch:=try exact dx) only[wpS,wpT,zE,e];refine⟨64 - k,rfl,aa,?_,?_,by rw[show 63 - (64 - k)=k - 1 by omega];exact k3,by rw[show 64 - (64 - k)=k by omega];exact k4⟩;·have:=dU (2 ^ (64 - k)) k3;rw[←dT,show k - 1+(64 - k)=63 by omega] at this;exact this
 ·have:=Nat.mul_lt_mul_of_pos_right k4 (show 0<2 ^ (64 - k) from gM aa)
  rw[←dT,show k+(64 - k)=64 by omega] at this;exact this
def Sv (hi lo y:Nat) (hh:hi<y) (hl:lo<18446744073709551616) (hy:y<18446744073709551616):WV Proofs.Tryz.prog (.func (.func 258) #[] #[]) [K64 hi,K64 lo,K64 y] h fun r h'=>h'=h∧r=.tuple #[K64 ((hi*18446744073709551616+lo) / y),K64 ((hi*18446744073709551616+lo) % y)]:=by
 have y0:((y:Int) == 0)=false:=aT;by_cases h0:hi=0
 ·subst h0;have d1:(lo:Int) / (y:Int)=((lo / y:Nat):Int):=ab;have d2:(lo:Int) % (y:Int)=((lo % y:Nat):Int):=ab;have d3:lo / y≤lo:=oU _ _;refine enter (nt:=135) (rs:=[.tmp 6,.tmp 7]) Proofs.Tryz.func258 rfl rfl rfl ab ?_;simp -dsimp (disch:=try exact dx) only[wpS,wpT,zE,zA,y0,d1,d2]
 ·have h0':((hi:Int) == 0)=false:=aT;refine enter (nt:=135) (rs:=[.tmp 6,.tmp 7]) Proofs.Tryz.func258 rfl rfl rfl ab ?_;simp -dsimp (disch:=try exact dx) only[wpS,wpT,zE,zA,y0,h0'];refine call (VL y aa hy) ?_;rintro _ _ ⟨rfl,s,rfl,hs,hY1,hY2,hy1,hy2⟩;rename_i h1;have hps:0<2 ^ s:=gM aa;obtain⟨Y,hY⟩ : ∃Y,Y=y*2 ^ s:=⟨_,rfl⟩;have eY:y*2 ^ s % 18446744073709551616=Y:=by rw[hY];exact dR hY2
  rw[←hY] at hY1 hY2;have hU:hi*2 ^ s<Y:=by rw[hY];exact Nat.mul_lt_mul_of_pos_right hh hps
  have eU:hi*2 ^ s % 18446744073709551616=hi*2 ^ s:=dR aa;have e64:(64:Int) - (s:Int)=((64 - s:Nat):Int):=aa;have eR:qj lo (64 - s)=lo / 2 ^ (64 - s):=kE _ _;have hR:lo / 2 ^ (64 - s)<2 ^ s:=B.EZ hl aa;have eO:hi*2 ^ s ||| lo / 2 ^ (64 - s)=hi*2 ^ s+lo / 2 ^ (64 - s):=B.Lm (zx _ _) hR;have hsp:=B.Fa hl hs;obtain⟨u,hu⟩ : ∃u,u=hi*2 ^ s+lo / 2 ^ (64 - s):=⟨_,rfl⟩;obtain⟨w,hw⟩ : ∃w,w=lo*2 ^ s % 18446744073709551616:=⟨_,rfl⟩;rw[←hw] at hsp;have huY:u<Y:=by have:(hi+1)*2 ^ s≤y*2 ^ s:=dU _ hh;rw[dA,←hY] at this;omega
  have hwl:w<18446744073709551616:=aa;have hN:(hi*18446744073709551616+lo)*2 ^ s=u*18446744073709551616+w:=by rw[dA,hu,dA,←hsp];have:hi*18446744073709551616*2 ^ s=hi*2 ^ s*18446744073709551616:=gh;omega
  have s1:qj Y 32=Y / 4294967296:=kE _ _;have s2:Y &&& 4294967295=Y % 4294967296:=zy Y 32;have s3:qj w 32=w / 4294967296:=kE _ _;have s4:w &&& 4294967295=w % 4294967296:=zy w 32;obtain⟨y1,hy1'⟩ : ∃y1,y1=Y / 4294967296:=⟨_,rfl⟩;obtain⟨y0',hy0'⟩ : ∃y0,y0=Y % 4294967296:=⟨_,rfl⟩;have eYY:Y=y1*4294967296+y0':=aa;have g1:2147483648≤y1:=aa;have g0:y0'<4294967296:=aa;have c1:(u:Int) / (y1:Int)=((u / y1:Nat):Int):=ab;have dm:=mN u y1;have dm2:((u / y1:Nat):Int)*(y1:Int)=((y1*(u / y1):Nat):Int):=by rw[gE y1];simp
  have dm3:(u:Int) - ((y1*(u / y1):Nat):Int)=((u % y1:Nat):Int):=aa;have dl:=ec u (show 0<y1 by omega);have dle:u / y1≤u:=oU _ _;simp -dsimp (maxSteps:=1000000) (disch:=first|omega|(simp only[aH,aJ];omega)|decide +kernel|(repeat first|rw[aH]|rw[aJ])) only[wpS,zE,Int.reduceToNat,XE,Vz,eY,eU,e64,eR,eO,←hu,←hw,s1,s2,s3,s4,←hy1',←hy0',c1,dm2,dm3];refine yT (fun fr h2=>h2=h1∧ax fr 2=some (K64 Y)∧ax fr 8=some (.int .u64 (s:Int))∧ax fr 9=some (K64 y1)∧ax fr 10=some (K64 y0')∧ax fr 11=some (K64 u)∧ax fr 13=some (K64 (w / 4294967296))∧ax fr 14=some (K64 (w % 4294967296))∧ax fr 15=some (K64 ((u*4294967296+w / 4294967296) / (y1*4294967296+y0')))) ?_ ?_
  ·refine loop (fun m fr h2=>h2=h1 ∧ ∃q r:Nat,q=m∧HQ y1 y0' u (w / 4294967296) q r∧r<4294967296∧ax fr 2=some (K64 Y)∧ax fr 8=some (.int .u64 (s:Int))∧ax fr 9=some (K64 y1)∧ax fr 10=some (K64 y0')∧ax fr 11=some (K64 u)∧ax fr 13=some (K64 (w / 4294967296))∧ax fr 14=some (K64 (w % 4294967296))∧ax fr 15=some (K64 q)∧ax fr 16=some (K64 r)) (u / y1) ⟨rfl,_,_,rfl,DI g1 g0 (eYY▸huY) aa,aa,ab,ab,ab,ab,ab,ab,ab,ab,ab⟩ ?_;rintro m fr h2 ⟨rfl,q,r,rfl,hJ,hr,f2,f8,f9,f10,f11,f13,f14,fq,LW⟩;have hq1:=hJ.2.2;have hUY:u<y1*4294967296+y0':=eYY▸huY;have hDD:w / 4294967296<4294967296:=aa;have Ir:(4294967296≤q∨4294967296*r+w / 4294967296<q*y0')→0<q∧HQ y1 y0' u (w / 4294967296) (q - 1) (r+y1):=fun hc=>FI g1 g0 hUY hDD hJ hc;by_cases hqB:4294967296≤q
   ·obtain⟨hq0,hJ2⟩:=Ir (.inl hqB);have eq1:(q:Int) - 1=((q - 1:Nat):Int):=aa;have er1:(r:Int)+(y1:Int)=((r+y1:Nat):Int):=aa;simp -dsimp (disch:=try exact dx) only[wpS,wpT,zE,f9,fq,LW,eq1,er1];refine aG ?_ ?_<;>intro hc<;>simp only[aS,aV] at hc
    ·simp -dsimp (disch:=try exact dx) only[wpS,wpT];refine⟨rfl,by simp[f2],by simp[f8],by simp[f9],by simp[f10],by simp[f11],by simp[f13],by simp[f14],?_⟩;rw[tI g1 g0 hJ2 aa aa];simp
    ·simp -dsimp (disch:=try exact dx) only[wpS,wpT];exact⟨q - 1,aa,rfl,q - 1,r+y1,rfl,hJ2,aa,by simp[f2],by simp[f8],by simp[f9],by simp[f10],by simp[f11],by simp[f13],by simp[f14],ab,ab⟩
   ·have hpm:q*y0'≤4294967295*4294967295:=jg aa aa;have ep:(q:Int)*(y0':Int)=((q*y0':Nat):Int):=ab;generalize hpp:q*y0'=p at *;simp -dsimp (disch:=try exact dx) only[wpS,wpT,zE,f10,f13,fq,LW,ep];refine aG ?_ ?_<;>intro hc<;>simp only[aS,aV] at hc
    ·obtain⟨hq0,hJ2⟩:=Ir (.inr aa);have eq1:(q:Int) - 1=((q - 1:Nat):Int):=aa;have er1:(r:Int)+(y1:Int)=((r+y1:Nat):Int):=aa;simp -dsimp (disch:=try exact dx) only[wpS,wpT,zE,f9,fq,LW,eq1,er1];refine aG ?_ ?_<;>intro hc5<;>simp only[aS,aV] at hc5
     ·simp -dsimp (disch:=try exact dx) only[wpS,wpT];refine⟨rfl,by simp[f2],by simp[f8],by simp[f9],by simp[f10],by simp[f11],by simp[f13],by simp[f14],?_⟩;rw[tI g1 g0 hJ2 aa aa];simp
     ·simp -dsimp (disch:=try exact dx) only[wpS,wpT];exact⟨q - 1,aa,rfl,q - 1,r+y1,rfl,hJ2,aa,by simp[f2],by simp[f8],by simp[f9],by simp[f10],by simp[f11],by simp[f13],by simp[f14],ab,ab⟩
    ·simp -dsimp (disch:=try exact dx) only[wpS,wpT];refine⟨rfl,by simp[f2],by simp[f8],by simp[f9],by simp[f10],by simp[f11],by simp[f13],by simp[f14],?_⟩;rw[Am g1 g0 hJ (by rw[hpp];omega)];simp[fq]
  rintro fr h2 ⟨rfl,f2,f8,f9,f10,f11,f13,f14,f15⟩;rw[←eYY] at f15;clear hsp eU eO eR hR s1 s2 s3 s4 c1 dm dm2 dm3 dl dle;have hw1:w / 4294967296<4294967296:=aa;have hw0:w % 4294967296<4294967296:=aa;have nn1:((u*4294967296+w / 4294967296) / Y)*Y+(u*4294967296+w / 4294967296) % Y=u*4294967296+w / 4294967296:=by rw[gE];exact mN _ _
  have hr1:(u*4294967296+w / 4294967296) % Y<Y:=ec _ aa;have hq1:(u*4294967296+w / 4294967296) / Y<4294967296:=by rw[oT aa];omega
  obtain⟨q1,hQ1⟩ : ∃q,q=(u*4294967296+w / 4294967296) / Y:=⟨_,rfl⟩;obtain⟨r1,hR1⟩ : ∃q,q=(u*4294967296+w / 4294967296) % Y:=⟨_,rfl⟩;rw[←hQ1] at nn1 hq1 f15;rw[←hR1] at nn1 hr1;clear hQ1 hR1;obtain⟨A,hA⟩ : ∃A,A=u*4294967296 % 18446744073709551616:=⟨_,rfl⟩;have eA:IntKind.u64.wrap ((u:Int)*4294967296)=(A:Int):=by rw[wo];omega
  obtain⟨B1,hB1⟩ : ∃B1,B1=A+w / 4294967296:=⟨_,rfl⟩;have eB:(A:Int)+((w / 4294967296:Nat):Int)=(B1:Int):=aa;have hB2:B1<18446744073709551616:=aa;have eC0:(q1:Int)*(Y:Int)=((q1*Y:Nat):Int):=ab;obtain⟨p1,hp1⟩ : ∃p1,p1=q1*Y:=⟨_,rfl⟩;rw[←hp1] at nn1 eC0;obtain⟨C1,hC1⟩ : ∃C1,C1=p1 % 18446744073709551616:=⟨_,rfl⟩;have eC:IntKind.u64.wrap ((p1:Nat):Int)=(C1:Int):=by rw[wo];omega
  have eR1:IntKind.u64.wrap ((B1:Int) - (C1:Int))=(r1:Int):=by rw[wo];omega
  have c1:(r1:Int) / (y1:Int)=((r1 / y1:Nat):Int):=ab;have dm:=mN r1 y1;have dm2:((r1 / y1:Nat):Int)*(y1:Int)=((y1*(r1 / y1):Nat):Int):=by rw[gE y1];simp
  have dm3:(r1:Int) - ((y1*(r1 / y1):Nat):Int)=((r1 % y1:Nat):Int):=aa;have dl:=ec r1 (show 0<y1 by omega);have dle:r1 / y1≤r1:=oU _ _;simp -dsimp (disch:=try exact dx) only[wpS,zE,f2,f9,f11,f13,f15,eA,eB,eC0,eC,eR1,c1,dm2,dm3];refine yT (fun fr h3=>h3=h2∧ax fr 2=some (K64 Y)∧ax fr 8=some (.int .u64 (s:Int))∧ax fr 14=some (K64 (w % 4294967296))∧ax fr 15=some (K64 q1)∧ax fr 17=some (K64 r1)∧ax fr 18=some (K64 ((r1*4294967296+w % 4294967296) / (y1*4294967296+y0')))) ?_ ?_
  ·refine loop (fun m fr h3=>h3=h2 ∧ ∃q r:Nat,q=m∧HQ y1 y0' r1 (w % 4294967296) q r∧r<4294967296∧ax fr 2=some (K64 Y)∧ax fr 8=some (.int .u64 (s:Int))∧ax fr 9=some (K64 y1)∧ax fr 10=some (K64 y0')∧ax fr 14=some (K64 (w % 4294967296))∧ax fr 15=some (K64 q1)∧ax fr 17=some (K64 r1)∧ax fr 18=some (K64 q)∧ax fr 16=some (K64 r)) (r1 / y1) ⟨rfl,_,_,rfl,DI g1 g0 (eYY▸hr1) hw0,aa,by simp[f2],by simp[f8],by simp[f9],by simp[f10],by simp[f14],by simp[f15],ab,ab,ab⟩ ?_;clear f2 f8 f9 f10 f11 f13 f14 f15;rintro m fr h3 ⟨rfl,q,r,rfl,hJ,hr,f2,f8,f9,f10,f14,f15,f17,fq,LW⟩;have hqq:=hJ.2.2;have hUY:r1<y1*4294967296+y0':=eYY▸hr1;have Ir:(4294967296≤q∨4294967296*r+w % 4294967296<q*y0')→0<q∧HQ y1 y0' r1 (w % 4294967296) (q - 1) (r+y1):=fun hc=>FI g1 g0 hUY hw0 hJ hc;by_cases hqB:4294967296≤q
   ·obtain⟨hq0,hJ2⟩:=Ir (.inl hqB);have eq1:(q:Int) - 1=((q - 1:Nat):Int):=aa;have er1:(r:Int)+(y1:Int)=((r+y1:Nat):Int):=aa;simp -dsimp (disch:=try exact dx) only[wpS,wpT,zE,f9,fq,LW,eq1,er1];refine aG ?_ ?_<;>intro hc<;>simp only[aS,aV] at hc
    ·simp -dsimp (disch:=try exact dx) only[wpS,wpT];refine⟨rfl,by simp[f2],by simp[f8],by simp[f14],by simp[f15],by simp[f17],?_⟩;rw[tI g1 g0 hJ2 aa aa];simp
    ·simp -dsimp (disch:=try exact dx) only[wpS,wpT];exact⟨q - 1,aa,rfl,q - 1,r+y1,rfl,hJ2,aa,by simp[f2],by simp[f8],by simp[f9],by simp[f10],by simp[f14],by simp[f15],by simp[f17],ab,ab⟩
   ·have hpm:q*y0'≤4294967295*4294967295:=jg aa aa;have ep:(q:Int)*(y0':Int)=((q*y0':Nat):Int):=ab;generalize hpp:q*y0'=p at *;simp -dsimp (disch:=try exact dx) only[wpS,wpT,zE,f10,f14,fq,LW,ep];refine aG ?_ ?_<;>intro hc<;>simp only[aS,aV] at hc
    ·obtain⟨hq0,hJ2⟩:=Ir (.inr aa);have eq1:(q:Int) - 1=((q - 1:Nat):Int):=aa;have er1:(r:Int)+(y1:Int)=((r+y1:Nat):Int):=aa;simp -dsimp (disch:=try exact dx) only[wpS,wpT,zE,f9,fq,LW,eq1,er1];refine aG ?_ ?_<;>intro hc5<;>simp only[aS,aV] at hc5
     ·simp -dsimp (disch:=try exact dx) only[wpS,wpT];refine⟨rfl,by simp[f2],by simp[f8],by simp[f14],by simp[f15],by simp[f17],?_⟩;rw[tI g1 g0 hJ2 aa aa];simp
     ·simp -dsimp (disch:=try exact dx) only[wpS,wpT];exact⟨q - 1,aa,rfl,q - 1,r+y1,rfl,hJ2,aa,by simp[f2],by simp[f8],by simp[f9],by simp[f10],by simp[f14],by simp[f15],by simp[f17],ab,ab⟩
    ·simp -dsimp (disch:=try exact dx) only[wpS,wpT];refine⟨rfl,by simp[f2],by simp[f8],by simp[f14],by simp[f15],by simp[f17],?_⟩;rw[Am g1 g0 hJ (by rw[hpp];omega)];simp[fq]
  clear f2 f8 f9 f10 f11 f13 f14 f15;rintro fr h3 ⟨rfl,f2,f8,f14,f15,f17,f18⟩;rw[←eYY] at f18;have nn0:((r1*4294967296+w % 4294967296) / Y)*Y+(r1*4294967296+w % 4294967296) % Y=r1*4294967296+w % 4294967296:=by rw[gE];exact mN _ _
  have hr0:(r1*4294967296+w % 4294967296) % Y<Y:=ec _ aa;have hq0:(r1*4294967296+w % 4294967296) / Y<4294967296:=by rw[oT aa];omega
  obtain⟨q0,hQ0⟩ : ∃q,q=(r1*4294967296+w % 4294967296) / Y:=⟨_,rfl⟩;obtain⟨r0,hR0⟩ : ∃q,q=(r1*4294967296+w % 4294967296) % Y:=⟨_,rfl⟩;rw[←hQ0] at nn0 hq0 f18;rw[←hR0] at nn0 hr0;clear hQ0 hR0;have fin:=Md (q1:=q1) (r1:=r1) (q0:=q0) (r0:=r0) hY aa hN aa nn0.symm hr0;obtain⟨A2,hA2⟩ : ∃A,A=r1*4294967296 % 18446744073709551616:=⟨_,rfl⟩;have eA2:IntKind.u64.wrap ((r1:Int)*4294967296)=(A2:Int):=by rw[wo];omega
  obtain⟨B2,hB2⟩ : ∃B1,B1=A2+w % 4294967296:=⟨_,rfl⟩;have eB2:(A2:Int)+((w % 4294967296:Nat):Int)=(B2:Int):=aa;have eD0:(q0:Int)*(Y:Int)=((q0*Y:Nat):Int):=ab;obtain⟨p0,hp0⟩ : ∃p1,p1=q0*Y:=⟨_,rfl⟩;rw[←hp0] at nn0 eD0;obtain⟨C2,hC2⟩ : ∃C1,C1=p0 % 18446744073709551616:=⟨_,rfl⟩;have eD:IntKind.u64.wrap ((p0:Nat):Int)=(C2:Int):=by rw[wo];omega
  have eR0:IntKind.u64.wrap ((B2:Int) - (C2:Int))=(r0:Int):=by rw[wo];omega
  have eS:qj r0 s=r0 / 2 ^ s:=kE _ _;have eQ1:(q1:Int)*4294967296=((q1*4294967296:Nat):Int):=aa;have eQ2:((q1*4294967296:Nat):Int)+(q0:Int)=((q1*4294967296+q0:Nat):Int):=aa;simp -dsimp (disch:=try exact dx) only[wpS,wpT,zE,f2,f8,f14,f15,f17,f18,eA2,eB2,eD0,eD,eR0,eS,eQ1,eQ2];rw[fin.1,←fin.2]
end
end Go.Id

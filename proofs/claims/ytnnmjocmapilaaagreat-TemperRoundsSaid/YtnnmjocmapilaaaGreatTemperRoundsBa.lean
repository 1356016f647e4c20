/-
  TemperRounds: for every input the law returns true, and each argument reads as it did. Conditions: none but the row's own.
-/
import Derived.Test.YtnnmjocmapilaaaGreatTemperRoundsAa
import Derived.Test.YtnnmjocmapilaaaGreatTemperRoundsAz
import Derived.Test.YtnnmjocmapilaaaGreatTemperRoundsAp
import Init
import Derived.Test.YtnnmjocmapilaaaGreatTemperRoundsAm
import Derived.Test.YtnnmjocmapilaaaGreatTemperRoundsAj
import Derived.Test.YtnnmjocmapilaaaGreatTemperRoundsAq
import Derived.Test.YtnnmjocmapilaaaGreatTemperRoundsAo
import Derived.Test.YtnnmjocmapilaaaGreatTemperRoundsAv
set_option linter.unusedVariables false
set_option linter.unusedSimpArgs false
set_option linter.defProp false
set_option linter.deprecated false
namespace Go.Id
open Go
open Go renaming Operand→QY,Program→QX,TypeId→QZ,Value→QQ
open Nat renaming reduceAdd→zA,reduceEqDiff→zE,reduceLeDiff→zL
open Nat (reduceMul)
set_option maxHeartbeats 16000000
open Go.Proofs.Tryz (prog)
section
def gT (q:Rat) (B:Nat):Prop:=∃a:Int,q*(B:Rat)=(a:Rat)
def AQ (q:Rat):q*(q.den:Rat)=(q.num:Rat):=by
 have h:((q.num:Int):Rat) / (q.den:Rat)=q:=by have:=Rat.num_divInt_den q;rw[wW] at this;exact this
 have hd:(0:Rat)<(q.den:Rat):=Gj.2 q.den_pos;grind
variable {q:Rat}{B:Nat}
def HZ (h:q.den∣B):gT q B:=by obtain⟨k,rfl⟩:=h;refine⟨q.num*k,?_⟩;have h1:q*(q.den:Rat)=(q.num:Rat):=AQ q;rw[Rat.natCast_mul,←Rat.mul_assoc,h1,Rat.intCast_mul];rfl
def gT.mul (h:gT q B) (k:Nat):gT q (B*k):=by obtain⟨a,ha⟩:=h;exact⟨a*k,by rw[Rat.natCast_mul,←Rat.mul_assoc,ha,Rat.intCast_mul];rfl⟩
def gT.sub {r:Rat} (h:gT q B) (k:gT r B):gT (q - r) B:=by obtain⟨a,ha⟩:=h;obtain⟨b,hb⟩:=k;exact⟨a - b,by rw[Rat.intCast_sub,←ha,←hb];grind⟩
def KA (hB:0<B) (h0:0≤q) (h1:q≤1) (h:gT q B):q.den∣B∧0≤q.num∧q.num≤q.den:=by
 have n0:0≤q.num:=BX.2 h0;have n1:q.num≤q.den:=by have hd:(0:Rat)<(q.den:Rat):=Gj.2 q.den_pos;have e:q*(q.den:Rat)=(q.num:Rat):=AQ q;have h2:q*(q.den:Rat)≤1*(q.den:Rat):=Rat.mul_le_mul_of_nonneg_right h1 (ug hd);rw[e,Rat.one_mul] at h2;have:((q.num:Int):Rat)≤((q.den:Int):Rat):=h2;exact Rat.intCast_le_intCast.1 this
 refine⟨?_,n0,n1⟩;obtain⟨a,ha⟩:=h;have hBr:(0:Rat)<(B:Rat):=Gj.2 hB;have a0:0≤a:=by
  have:(0:Rat)≤(a:Rat):=by rw[←ha];exact BY h0 (ug hBr)
  exact_mod_cast this
 obtain⟨y,rfl⟩:=fV a0;obtain⟨m,_,_,e2⟩:=za (y:=y) hB;have hq:q=Rat.divInt (y:Nat) (B:Nat):=by rw[wW];have e1:((B:Int):Rat)=(B:Rat):=rfl;have e2:(((y:Nat):Int):Rat)=q*(B:Rat):=ha.symm;rw[e1,e2];grind
 rw[←hq] at e2;exact⟨m,e2⟩
def MT : ∀(l:List Rat),(∀q∈l,0≤q)→0≤jV l
 | [],_=>by show(0:Rat)≤0;exact Rat.le_refl
 | q :: l,h=>by have h1:=h q ab;have h2:=MT l fun x hx=>h x (by simp[hx]);rw[zU];grind
def MU : ∀(l:List Rat),(∀q∈l,0≤q) → ∀q∈l,q≤jV l
 | [],_,q,hq=>by cases hq
 | a :: l,h,q,hq=>by
  have h1:=h a ab;have h2:=MT l fun x hx=>h x (by simp[hx]);rw[zU];rcases dV.1 hq with rfl|hq;·grind
  ·have h3:=MU l (fun x hx=>h x (by simp[hx])) q hq
   grind
variable {t:List Nat}{i:Nat}{ll:List (List (Nat×Nat))}
def L6 (k:jH ll) (ht:t.length=ll.length) (hp : ∀p∈t,1≤wdI p) (hi:i<ll.length):(∀q∈fx ll t i,0≤q)∧jV (fx ll t i)=1∧(∀j,j<ll.length→0≤goQ ll t i j∧goQ ll t i j≤kAt ll i j):=by
 have hw : ∀i,i<ll.length→0<kI (t.getD i 0):=fun i hi=>by
  have:=hp _ (mO (show i<t.length by omega));rw[bH,aK aa,jf];unfold kI;exact Rat.intCast_pos.2 aa
 have hk : ∀i j,i<ll.length→j<ll.length→0≤kAt ll i j:=fun i j hi hj=>by obtain⟨_,p,_,_,_,e4,e5,e6⟩:=jX k hi hj;rw[e6];exact QK e4 e5
 have hg : ∀i j,i<ll.length→j<ll.length→0≤goQ ll t i j∧goQ ll t i j≤kAt ll i j:=fun i j hi hj=>by
  have h1:=hk i j hi hj;have h2:=hk j i hj hi;have w1:=hw i hi;have w2:=hw j hj;unfold goQ;split;·rename_i c;refine⟨?_,ug c⟩;rw[Rat.div_def];exact BY (BY h2 (ug w2)) (ug (Rat.inv_pos.2 w1))
  ·exact⟨h1,Rat.le_refl⟩
 have hq : ∀i j,i<ll.length→j<ll.length→0≤qS ll t i j:=fun i j hi hj=>by
  unfold qS;split;·have h1:=zX (i:=i) (m:=ll.length) (g:=goQ ll t i) (k:=kAt ll i) fun j hj=>(hg i j hi hj).2;have h2:=uO (kAt ll i) i ll.length;rw[MP k hi,aq hi] at h2;have h3:=hk i i hi hi;grind
  ·exact(hg i j hi hj).1
 refine⟨fun q hq'=>?_,?_,fun j hj=>hg i j hi hj⟩;·obtain⟨j,hj⟩:=gH hq';have hjl:=(bU.1 hj).1;rw[eu] at hjl;rw[qt hjl] at hj;cases hj;exact hq i j hi hjl
 ·have h1:=GR (goQ ll t i) (kZ (goQ ll t i) i ll.length) i ll.length
  have h2:=uO (goQ ll t i) i ll.length;rw[aq hi] at h1 h2;have e:fx ll t i=(List.range ll.length).map fun j=>if j=i then kZ (goQ ll t i) i ll.length else goQ ll t i j:=rfl;rw[e,h1];grind
def gT.times (h:gT q B) (x y:Nat) (hy:0<y):gT (q*(x:Rat) / (y:Rat)) (B*y):=by obtain⟨a,ha⟩:=h;refine⟨a*x,?_⟩;have hy':(0:Rat)<(y:Rat):=Gj.2 hy;rw[Rat.natCast_mul,Rat.intCast_mul,←ha];show q*(x:Rat) / (y:Rat)*((B:Rat)*(y:Rat))=q*(B:Rat)*(x:Rat);grind
def C9 {g:Nat→Rat} {B i:Nat} : ∀{m:Nat},(∀j,j<m→gT (g j) B)→gT (kZ g i m) B
 | 0,_=>⟨B,by rw[kZ,Rat.one_mul];rfl⟩
 | m+1,h=>by
  have ih:=C9 (i:=i) (m:=m) fun j hj=>h j aa;rw[kZ];split;·exact ih
  ·exact ih.sub (h m aa)
def LY {D:Nat} (hD : ∀i j,i<ll.length→j<ll.length→gT (kAt ll i j) D) {T:Nat→Nat} (hT : ∀i,i<ll.length→0<T i∧kI (t.getD i 0)=(T i:Rat)) (hi:i<ll.length) : ∀q∈fx ll t i,gT q (D*T i):=by
 have hg : ∀j,j<ll.length→gT (goQ ll t i j) (D*T i):=fun j hj=>by
  unfold goQ;split;·rw[(hT j hj).2,(hT i hi).2];exact(hD j i hj hi).times _ _ (hT i hi).1
  ·exact(hD i j hi hj).mul _
 intro q hq;obtain⟨j,hj⟩:=gH hq;have hjl:=(bU.1 hj).1;rw[eu] at hjl;rw[qt hjl] at hj;cases hj;unfold qS;split;·exact C9 hg
 ·exact hg j hjl
def TI (hB:0<B) (hB2:B<H8) (h0:0≤q) (h1:q≤1) (h:gT q B):QW q∧(shq q).2∣B∧(shq q).1≤(shq q).2∧0<(shq q).2:=by
 obtain⟨a,b,c⟩:=KA hB h0 h1 h;have h8:=lE;have hd:=sJ hB a;have e1:(shq q).1=q.num.toNat:=by show bN q.num=_;unfold bN;rw[aq b]
 have e2:(shq q).2=q.den:=by show bN (q.den:Int)=_;unfold bN;rw[aq aa,iv]
 have dp:=q.den_pos;refine⟨⟨⟨aa,aa⟩,⟨aa,aa⟩⟩,by rw[e2];exact a,by rw[e1,e2];omega,by rw[e2];exact dp⟩
def uniR (B:Nat) (l:List (Nat×Nat)):Prop:=0<B ∧ ∀p∈l,p.2∣B∧p.1≤p.2∧0<p.2
end
section
def FG : ∀(ll:List (List (Nat×Nat))),(∀x∈ll,∃S,smR S x) → ∃D,0<D∧D≤1000 ^ ll.length ∧ ∀x∈ll,∀p∈x,p.2∣D
 | [],_=>⟨1,aa,ab,fun x hx=>by cases hx⟩
 | l :: ll,h=>by
  obtain⟨D,h1,h2,h3⟩:=FG ll fun x hx=>h x (by simp[hx]);obtain⟨S,s1,s2,s3⟩:=h l ab;refine⟨D*S,nF h1 s1,?_,fun x hx p hp=>?_⟩;·rw[nL,eH];exact jg h2 s2
  ·rcases dV.1 hx with rfl|hx
   ·exact qV (s3 p hp).2.2 (zx _ _)
   ·exact qV (h3 x hx p hp) (xd _ _)
def W0 (ll:List (List (Nat×Nat))):Prop:=jH ll∧ll.length≤4 ∧ ∃D,0<D∧D≤1000000000000 ∧ ∀i j,i<ll.length→j<ll.length→gT (kAt ll i j) D
variable {ll:List (List (Nat×Nat))}
def Mb (l1:1≤ll.length) (l2:ll.length≤4) (hr : ∀x∈ll,x.length=ll.length∧KU x):W0 ll:=by obtain⟨_,ok⟩:=Ux (ll:=ll) aa aa (fun x hx=>hr x hx);obtain⟨D,h1,h2,h3⟩:=FG ll fun x hx=>(hr x hx).2.2.1;refine⟨ok,l2,D,h1,bV h2 (bV (fA aa l2) aC),fun i j hi hj=>?_⟩;obtain⟨row,p,e1,e2,e3,e4,e5,e6⟩:=jX ok hi hj;have hm:=bh e1;have hp:=bh e3;obtain⟨S,s1,s2,s3⟩:=(hr row hm).2.2.1;have hS:=s3 p hp;have hle:=sJ s1 hS.2.2;rw[e6];refine HZ ?_;have hd:=(nU e4).2;rw[Wu aa] at hd;have:(rOf p).den=p.2:=aa;rw[this];exact h3 row hm p hp
def Ts {a b:Nat} (h:a+b=511):H8=2 ^ a*2 ^ b:=by rw[AA,←dT,h]
variable {T:Nat}
def Wm {D:Nat} (hD:D≤1000000000000) (hT:T≤9*2 ^ 240):60*(D*T)<H8:=by have e:=Ts (a:=271) (b:=240) rfl;rw[e];have h1:D*T≤1000000000000*(9*2 ^ 240):=jg hD hT;have h2:(2:Nat) ^ 50≤2 ^ 271:=vD (a:=50) (b:=271) aa;have h3:(2:Nat) ^ 50=1125899906842624:=aC;have h4:0<2 ^ 240:=pX 240;generalize 2 ^ 240=X at *;generalize 2 ^ 271=Y at *;have h5:1125899906842624*X≤Y*X:=dU _ aa;omega
variable {s:List Int}
theorem O7 {lv:List Int} (h1:1≤s.length) (h2:s.length≤60) (h3 : ∀x∈s,0≤x∧x≤30) (l1:1≤lv.length) (l2:lv.length≤6) (l3 : ∀x∈lv,0≤x∧x≤8):jO s lv=0:=by
 unfold jO;have o1:=BS h3;have o2:=BS (most:=8) l3;rw[ah];rintro(c|c|c|c|c|c);·omega
 ·omega
 ·exact o1 c
 ·omega
 ·omega
 ·exact o2 c
def CA (ws:List Nat) (s:List Int) (level:Int) (i:Nat):Nat:=(wdI (ws.getD i 0)).toNat*2 ^ ((lO s - s.getD i 0)*level).toNat
variable {level:Int}{ws:List Nat}
def Yq {i:Nat} (hw : ∀p∈ws,1≤wdI p∧wdI p≤9) (hs : ∀x∈s,0≤x∧x≤30) (hl:0≤level∧level≤8) (hi:i<ws.length) (hi2:i<s.length) :1≤CA ws s level i∧CA ws s level i≤9*2 ^ 240∧mJ s level i (ws.getD i 0)=(CA ws s level i:Int):=by
 have h1:=hw _ (mO hi);have e1:ws.getD i 0=ws[i]:=by rw[bH,aK hi];rfl
 have h2:=hs _ (mO hi2);have e2:s.getD i 0=s[i]:=by rw[bH,aK hi2];rfl
 have h3:=hs _ (yM s (by rintro rfl;simp at hi2));have hb:((lO s - s[i])*level).toNat≤240:=by have:=(BM (p:=level) (q:=lO s - s[i]) aa aa).2;rw[Int.mul_comm];omega
 have hp:2 ^ ((lO s - s[i])*level).toNat≤2 ^ 240:=vD hb;have h0:=pX ((lO s - s[i])*level).toNat;unfold CA mJ tgt;rw[e1,e2];refine⟨nF aa h0,jg aa hp,?_⟩;rw[uj,Int.toNat_of_nonneg aa]
def Wy (h:T≤9*2 ^ 240):T<H8:=by have:=Wm (D:=1) (T:=T) aa h;omega
def O4 (k:W0 ll) (hws:ws.length=ll.length) (hsl:s.length=ll.length) (hw : ∀p∈ws,1≤wdI p∧wdI p≤9) (hs : ∀x∈s,0≤x∧x≤30) (hl:0≤level∧level≤8) :ig ll ws s level=0 ∧ ∀row∈xN ll ws s level,∃B,uniR B row∧60*B<H8:=by
 obtain⟨ok,l4,D,D0,D1,hD⟩:=k;have l1:=ok.1;have tb : ∀i,i<ll.length→_:=fun i hi=>Yq (i:=i) hw hs hl aa aa;have inw : ∀i,i<ll.length→InW (mJ s level i (ws.getD i 0)):=fun i hi=>by obtain⟨a,b,c⟩:=tb i hi;have:=Wy b;rw[c];exact⟨aa,aa⟩
 have lt:(mK (mJ s level) ws ws.length).length=ll.length:=by rw[uP,hws]
 have at_ : ∀i,i<ll.length→(mK (mJ s level) ws ws.length)[i]?=some (bN (mJ s level i (ws.getD i 0))):=fun i hi=>by rw[mK,dM,ui aa];rfl
 have wd : ∀i,i<ll.length→wdI (bN (mJ s level i (ws.getD i 0)))=(CA ws s level i:Int):=fun i hi=>by rw[eE (inw i hi)];exact(tb i hi).2.2
 have hp : ∀p∈mK (mJ s level) ws ws.length,1≤wdI p:=fun p hp=>by obtain⟨i,hi⟩:=gH hp;have hil:=(bU.1 hi).1;rw[lt] at hil;rw[at_ i hil] at hi;cases hi;rw[wd i hil];have:=(tb i hil).1;omega
 have hT : ∀i,i<ll.length→0<CA ws s level i∧kI ((mK (mJ s level) ws ws.length).getD i 0)=(CA ws s level i:Rat):=fun i hi=>by refine⟨(tb i hi).1,?_⟩;rw[bH,at_ i hi,jf];unfold kI;rw[wd i hi];rfl
 have hB : ∀i,i<ll.length→0<D*CA ws s level i∧60*(D*CA ws s level i)<H8:=fun i hi=>⟨nF D0 (tb i hi).1,Wm D1 (tb i hi).2.1⟩;have hq : ∀i,i<ll.length → ∀q∈fx ll (mK (mJ s level) ws ws.length) i,QW q∧(shq q).2∣D*CA ws s level i∧(shq q).1≤(shq q).2∧0<(shq q).2:=fun i hi q hq=>by obtain⟨f1,f2,_⟩:=L6 ok lt hp hi;have f3:=MU _ f1 q hq;rw[f2] at f3;have:=hB i hi;exact TI (hB i hi).1 aa (f1 q hq) f3 (LY hD hT hi q hq)
 have fo:xS ll (mK (mJ s level) ws ws.length):=fun i hi q hq'=>(hq i hi q hq').1;refine⟨?_,fun row gO=>?_⟩
 ·unfold ig
  rw[ah (fun x=>x ok)];have te:mT ws s level=0:=by
   unfold mT;rw[ah (fun x=>x (O7 aa aa hs ab ab (fun x hx=>by rw[gQ.1 hx];exact hl))),ah,aq];·exact fun j hj=>inw j aa
   ·rintro(c|c)
    ·omega
    ·exact c fun n hn=>(hw n hn).1
  rw[te,ah (fun x=>x rfl),ah aa];unfold jo;rw[ah (fun x=>x ok),ah,aq fo];rintro(c|⟨p,h1,h2⟩);·exact c lt
  ·have:=hp p h1
   omega
 ·obtain⟨i,hi⟩:=gH gO;have hil:=(bU.1 hi).1;unfold xN at hil hi;rw[iI] at hil;rw[Aj hil] at hi;cases hi;refine⟨D*CA ws s level i,⟨(hB i hil).1,fun p hp=>?_⟩,(hB i hil).2⟩;obtain⟨q,hq',rfl⟩:=ir.1 hp;exact(hq i hil q hq').2
end

def Dk {ll:List (List (Nat×Nat))} {ws:List Nat} {s:List Int} {lev:Int} (h:ig ll ws s lev=0):mT ws s lev=0∧jo ll (mK (mJ s lev) ws ws.length)=0:=by
 unfold ig at h
 split at h;·omega
 split at h
 ·omega
 rename_i ht;split at h
 ·omega
 exact⟨Classical.not_not.1 ht,h⟩
end Go.Id
namespace Go.Id

open Go
open Go renaming Operand→QY,Program→QX,TypeId→QZ,Value→QQ
open Nat renaming reduceAdd→zA,reduceEqDiff→zE,reduceLeDiff→zL
open Nat (reduceMul)
set_option maxHeartbeats 16000000
open Go.Proofs.Tryz (prog)


section
variable {h:IH}{e:Int}
def UZ :WV prog (.func (.func 41) #[] #[]) [KI e] h fun r h'=>r=.func (.func 113) #[] #[ptr (2*h.n) 0]∧h'=h.new (.cells [KI e] 0 none):=by refine enter (nt:=4) (rs:=[.tmp 2]) Proofs.Tryz.func41 rfl rfl rfl ab ?_;simp -dsimp (disch:=try exact dx) only[wpS,wpT,Nat.reduceEqDiff]
def XJ (a b:Int) (ox oy:Operand):binop prog .eql 36 ox oy (.agg #[.int .u64 a]) (.agg #[.int .u64 b])=some (.bool (a == b)) :=
 wS ae (by simp[plain,dN]) (by simp[plain,dN]) (JT a b) ox oy
def Sq {v:Value} {b:Nat} (hv:df h 1 v 0 []) (hb:b<h.n) (g:h.ext.get b=some (.cells [KI e] 0 none)) :WV prog (.func (.func 113) #[] #[ptr (2*b) 0]) [v,KI 0,chV 0,KI e] h fun r h'=>Ext h h'∧r=.bool true:=by
 have hl:=hv.len (P:=prog) dY;have E1:Ext h (h.new (.cells [K64 0] 0 none)):=(Ext.refl h).new _;have g1:(h.new (.cells [K64 0] 0 none)).ext.get h.n=some (.cells [K64 0] 0 none):=by simp (disch:=try exact dx) only[ar]
 have gb:=E1.kept hb g;refine enter (nt:=27) (rs:=[.tmp 9]) Proofs.Tryz.func113 rfl rfl rfl ab ?_;simp -dsimp (disch:=try exact dx) only[wpS,wpT,Nat.reduceEqDiff,Nat.reduceLeDiff,Nat.reduceAdd,cP,fw,pG,chV,ay g1,ay gb,tk1,XJ,pW,hl];exact E1
section
variable {h hh:IH} {fr:Fr} {sz bx bc s:Nat} {vN vS vL vA vR vQ:Value} {lN lS lL lA:List Nat}
end
end
section
variable {h:IH}{w:Value}
def RQ (c:w.cells = #[w]) :WV prog (.func (.func 34) #[] #[]) [w] h fun r h'=>r=.func (.func 107) #[] #[ptr (2*h.n) 0]∧h'=h.new (.cells [w] 0 none):=by refine enter (nt:=4) (rs:=[.tmp 2]) Proofs.Tryz.func34 rfl rfl rfl ab ?_;simp -dsimp (disch:=try exact dx) only[wpS,wpT,zE,c]
variable {b:Nat}
def NA {v:Value} {ll:List (List (Nat×Nat))} (hv:iN h v ll) (hw:iN h w ll) (g:h.ext.get b=some (.cells [w] 0 none)) :WV prog (.func (.func 107) #[] #[ptr (2*b) 0]) [v,KI 0] h fun r h'=>h'=h∧r=.bool true:=by refine enter (nt:=13) (rs:=[.tmp 5]) Proofs.Tryz.func107 rfl rfl rfl ab ?_;simp -dsimp (disch:=try exact dx) only[wpS,zE,zA,Rx,ay g];refine call (RD hv hw) ?_;rintro _ _ ⟨rfl,rfl⟩;simp -dsimp (disch:=try exact dx) only[wpS,wpT,zE,wV]
def QP (n d:Int) (hn:fS n) (hd:fS d) (d0:d≠0):WV prog (.func (.func 110) #[] #[]) [KI n,KI d] h fun r h'=>Ext h h'∧r=mf (Rat.divInt n d):=by
 refine enter (nt:=14) (rs:=[.cell 4 32]) Proofs.Tryz.func110 rfl rfl rfl ab ?_;simp -dsimp (disch:=try exact dx) only[wpS,zE,zA,pj];have E1:Ext h (h.new (.cells Z16 0 none)):=(Ext.refl h).new _;have g1:(h.new (.cells Z16 0 none)).ext.get h.n=some (.cells Z16 0 none):=by simp (disch:=try exact dx) only[ar]
 refine call (TT n d hn hd d0) ?_;rintro _ h1 ⟨X1,rfl⟩;have m1:=X1.n;simp only[aH] at m1;have k1:=X1.kept ab g1;simp -dsimp (disch:=try exact dx) only[wpS,wpT,zE,zL,zA,pj,jT,iY,k1,bR,ba,cT,fD,dJ];exact⟨(((E1.trans X1).new _).put aa _).put aa _,rfl⟩
variable {d n:Int}
def Nl :WV prog (.func (.func 38) #[] #[]) [KI n,KI d] h fun r h'=>r=.func (.func 111) #[] #[ptr (2*h.n) 0,ptr (2*(h.n+1)) 0]∧h'=(h.new (.cells [KI n] 0 none)).new (.cells [KI d] 0 none):=by refine enter (nt:=6) (rs:=[.tmp 4]) Proofs.Tryz.func38 rfl rfl rfl ab ?_;simp -dsimp (disch:=try exact dx) only[wpS,wpT,zE,zA]
def I2 {c:Nat} (hn:fS n) (hd:fS d) (d0:d≠0) (hq:QW (Rat.divInt n d)) (hb:b<h.n) (hc:c<h.n) (gb:h.ext.get b=some (.cells [KI n] 0 none)) (gc:h.ext.get c=some (.cells [KI d] 0 none)) :WV prog (.func (.func 111) #[] #[ptr (2*b) 0,ptr (2*c) 0]) [mf (Rat.divInt n d),KI 0] h fun r h'=>Ext h h'∧r=.bool true:=by
 obtain⟨p,hp⟩ : ∃p,p=shq (Rat.divInt n d):=⟨_,rfl⟩;have pw:p.1<W8∧p.2<W8:=by rw[hp];exact rq hq
 have eq:mf (Rat.divInt n d)=shV p.1 p.2:=by rw[hp];exact iD _
 rw[eq];obtain⟨H0,hH0⟩ : ∃H,H=h.new (.cells (shC p.1 p.2) 0 none):=⟨_,rfl⟩;have E0:Ext h H0:=by rw[hH0];exact(Ext.refl h).new _
 have g0:H0.ext.get h.n=some (.cells (shC p.1 p.2) 0 none):=by rw[hH0];simp (disch:=try exact dx) only[ar]
 have hb0:=E0.kept hb gb;have hc0:=E0.kept hc gc;have e1 : ∀ox oy,binop prog .eql 32 ox oy (.agg (shC p.1 p.2).toArray) (.agg (shC p.1 p.2).toArray)=some (.bool true):=fun ox oy=>by have:=QC pw.1 pw.2 pw.1 pw.2 ox oy;rw[show decide (p.1=p.1∧p.2=p.2)=true by simp] at this;exact this
 have n0:H0.n=h.n+1:=by rw[hH0];rfl
 refine enter (nt:=16) (rs:=[.tmp 6]) Proofs.Tryz.func111 rfl rfl rfl ab ?_;simp -dsimp (disch:=try exact dx) only[wpS,zE,zA,bR,←hH0];clear hH0;refine drawn [(0,[10])] ae ae rfl ?_;simp -dsimp (disch:=try exact dx) only[wpS,zE,zL,iY,ld3,ay g0,ay hb0,ay hc0,ba,dJ];refine call (QP n d hn hd d0) ?_;rintro _ h1 ⟨X1,rfl⟩;have L0:=(psh g0).2.2;have L1:=(psh (X1.kept aa g0)).2.2;rw[eq];simp -dsimp (disch:=try exact dx) only[wpS,wpT,zE,shV,e1];refine⟨az rfl rfl rfl rfl (aO (av:=ptr (2*h.n) 0) rfl L0 L1),?_⟩;simp -dsimp (disch:=try exact dx) only[wpS,wpT,zE,zA];exact E0.trans X1
section
variable {h hh:IH} {fr:Fr} {sz bx x1 x2 x3:Nat} {vN vS vL vA vR vQ:Value} {lN lS lL lA:List Nat}
end
end
section
variable {h:IH}{v:QQ}{l:List Int}
def zJ (hv:fF h v l) (hl:l.length≤10) :WV prog (.func (.func 32) #[] #[]) [v] h fun r h'=>Ext h h'∧iQ h' r (l.map bN):=by
 refine enter (nt:=19) (rs:=[.tmp 2]) Proofs.Tryz.func32 rfl rfl rfl ab ?_;simp -dsimp (disch:=try exact dx) only[wpS,zE,hv.1.len dY];refine loop (fun m fr hh => ∃(i:Nat) (out:QQ),i+m=l.length∧Ext h hh∧Acc hh h.n 8 out ((l.take i).map bN).length (wiL ((l.take i).map bN))∧ax fr 3=some out∧ax fr 6=some v∧ax fr 7=some (KN l.length)∧ax fr 8=some (KN i)) l.length ⟨0,.slice none 0 0,aa,Ext.refl _,Acc.nil _ _ aa,ab,ab,ab,ab⟩ ?_;rintro m fr hh ⟨i,out,him,hE,hA,f3,f6,f7,f8⟩;have hnn:=hE.n;simp -dsimp (disch:=try exact dx) only[wpS,f7,f8];refine aG ?_ ?_<;>intro hc<;>simp only[aS,aV] at hc
 ·have hi:i<l.length:=aa;obtain⟨a,ha⟩ : ∃a,l[i]?=some a:=⟨_,aK hi⟩;have a64:=hv.2.2 a (bh ha);have ix:=hv.1.idx gl (P:=prog) (k:=.i64) hi;simp -dsimp (disch:=try exact dx) only[wpS,wpT,zE,f3,f6,f8,ix,fc hv hE.ai ha];refine call (pP a a64) ?_;rintro _ h1 ⟨X1,rfl⟩;have m1:=X1.n;have wl:((l.take i).map bN).length=i:=by rw[cz,gG];omega
  obtain⟨cV,h8,hap,hA8,hG8,hE8⟩:=(hA.ext X1).qC (P:=prog) (t:=42) HL (m:=1) (new:=wdC (bN a)) aa (by rw[aD]) (aW _) aa aa (hE.trans X1) aa;have lD:append prog (h1.new (.cells (wdC (bN a)) 8 none)) 42 out (.slice (some ⟨2*h1.n,0,none⟩) 1 3)=some (cV,h8):=hap;simp -dsimp (disch:=try exact dx) only[wpS,wpT,zE,zL,zA,HG,pM,f8,pf,bA,aD,bD,lD];refine⟨m - 1,aa,i+1,cV,aa,hE8,?_,ab,by simp[f6],by simp[f7],ab⟩;rw[jA ha,gF,jJ,nJ,mQ,dG];exact hA8
 ·obtain rfl:i=l.length:=aa;rw[sK] at hA;simp -dsimp (disch:=try exact dx) only[wpS,wpT,zE,f3];exact⟨hE,hA.sl,by rw[cz];omega,fun n hn=>by
   obtain⟨a,ha,rfl⟩:=ir.1 hn;exact gJ (rR (hv.2.2 a ha))⟩
variable {w:QQ}
def Nw (c:w.cells = #[w]) :WV prog (.func (.func 30) #[] #[]) [w] h fun r h'=>r=.func (.func 93) #[] #[ptr (2*h.n) 0]∧h'=h.new (.cells [w] 0 none):=by refine enter (nt:=4) (rs:=[.tmp 2]) Proofs.Tryz.func30 rfl rfl rfl ab ?_;simp -dsimp (disch:=try exact dx) only[wpS,wpT,zE,c]
variable {b:Nat}
def Jn (hw:fF h w l) (hl:l.length≤10) (hv:iQ h v (l.map bN)) (g:h.ext.get b=some (.cells [w] 0 none)) :WV prog (.func (.func 93) #[] #[ptr (2*b) 0]) [v,KI 0] h fun r h'=>Ext h h'∧r=.bool true:=by refine enter (nt:=14) (rs:=[.tmp 5]) Proofs.Tryz.func93 rfl rfl rfl ab ?_;simp -dsimp (disch:=try exact dx) only[wpS,zE,zA,jF,ay g];refine call (zJ hw hl) ?_;rintro _ h1 ⟨X1,s1⟩;simp -dsimp (disch:=try exact dx) only[wpS,zE];refine call (Kz (hv.ai X1.ai) s1) ?_;rintro _ z1 ⟨ez,rfl⟩;rw[ez];clear ez z1;simp -dsimp (disch:=try exact dx) only[wpS,wpT,zE];exact X1
variable {e:Int}
def KJ :WV prog (.func (.func 40) #[] #[]) [KI e] h fun r h'=>r=.func (.func 112) #[] #[ptr (2*h.n) 0]∧h'=h.new (.cells [KI e] 0 none):=by refine enter (nt:=4) (rs:=[.tmp 2]) Proofs.Tryz.func40 rfl rfl rfl ab ?_;simp -dsimp (disch:=try exact dx) only[wpS,wpT,zE]
def Iq (hb:b<h.n) (g:h.ext.get b=some (.cells [KI e] 0 none)) :WV prog (.func (.func 112) #[] #[ptr (2*b) 0]) [shV 0 0,KI e] h fun r h'=>Ext h h'∧r=.bool true:=by
 have hz:(.agg (shC 0 0).toArray:QQ)=.agg #[.int .u64 0,.int .u64 0,.int .u64 0,.int .u64 0,.int .u64 0,.int .u64 0,.int .u64 0,.int .u64 0,.int .u64 0,.int .u64 0,.int .u64 0,.int .u64 0,.int .u64 0,.int .u64 0,.int .u64 0,.int .u64 0]:=ae;have hne : ∀ox oy,binop prog .eql 32 ox oy (.agg (shC 0 0).toArray) (.agg #[.int .u64 0,.int .u64 0,.int .u64 0,.int .u64 0,.int .u64 0,.int .u64 0,.int .u64 0,.int .u64 0,.int .u64 0,.int .u64 0,.int .u64 0,.int .u64 0,.int .u64 0,.int .u64 0,.int .u64 0,.int .u64 0])=some (.bool true):=fun ox oy=>by rw[←hz];have:=QC (n:=0) (d:=0) (n':=0) (d':=0) cI cI cI cI ox oy;rw[show decide ((0:Nat)=0∧(0:Nat)=0)=true from rfl] at this;exact this
 have E1:Ext h (h.new (.cells (shC 0 0) 0 none)):=(Ext.refl h).new _;have k:=E1.kept hb g;have c:(e == e)=true:=ab;refine enter (nt:=14) (rs:=[.tmp 5]) Proofs.Tryz.func112 rfl rfl rfl ab ?_;simp -dsimp (disch:=try exact dx) only[wpS,wpT,zE,zL,zA,iY,ve,pG,bR,ba,dJ,ay k,hne,c];exact E1
def GS (l:List Int) (j:Nat):List (Nat×Nat):=(List.range j).map fun i=>shq (Rat.divInt (l.getD (2*i) 0) (l.getD (2*i+1) 0))
theorem IG (l:List Int) (j:Nat):(GS l j).length=j:=by simp[GS]
theorem OH (l:List Int) (j:Nat):GS l (j+1)=GS l j ++ [shq (Rat.divInt (l.getD (2*j) 0) (l.getD (2*j+1) 0))]:=by simp[GS,sM]
def QG {n:Nat} (hv:fF h v l) (hl:l.length=2*n) (hn:n≤10) (hd : ∀j,j<n→l.getD (2*j+1) 0≠0∧QW (Rat.divInt (l.getD (2*j) 0) (l.getD (2*j+1) 0))) :WV prog (.func (.func 37) #[] #[]) [v] h fun r h'=>Ext h h'∧kU h' r (GS l n):=by
 have hlen:=hv.1.len (P:=prog) dY;refine enter (nt:=26) (rs:=[.tmp 2]) Proofs.Tryz.func37 rfl rfl rfl ab ?_;simp -dsimp (disch:=try exact dx) only[wpS];refine loop (fun m fr hh => ∃(j:Nat) (out:QQ),j+m=n∧Ext h hh∧Acc hh h.n 16 out j (shL (GS l j))∧ax fr 0=some v∧ax fr 3=some out∧ax fr 4=some (KN (2*j))) n ⟨0,.slice none 0 0,aa,Ext.refl _,Acc.nil _ _ aa,ab,ab,ab⟩ ?_;rintro m fr hh ⟨j,out,hjm,hE,hA,f0,f3,f4⟩;have hnn:=hE.n;rw[hl] at hlen;simp -dsimp (disch:=try exact dx) only[wpS,zE,f0,f4,hlen];refine aG ?_ ?_<;>intro hc<;>simp only[aS,aV] at hc
 ·have hj:j<n:=aa;obtain⟨d0,hq⟩:=hd j hj;obtain⟨a,ha⟩ : ∃a,l[2*j]?=some a:=⟨_,aK aa⟩;obtain⟨b,hb⟩ : ∃a,l[2*j+1]?=some a:=⟨_,aK aa⟩;have ga:l.getD (2*j) 0=a:=by rw[bH,ha];rfl
  have gb:l.getD (2*j+1) 0=b:=by rw[bH,hb];rfl
  rw[gb] at d0;rw[ga,gb] at hq;have a64:=hv.2.2 a (bh ha);have b64:=hv.2.2 b (bh hb);have ixa:=hv.1.idx gl (P:=prog) (k:=.i64) (j:=2*j) aa;have ixb:indexAddr prog 25 v (KI (((2*j:Nat):Int)+1))=some (bq v ((2*j+1)*1)):=hv.1.idx gl (P:=prog) (k:=.i64) (j:=2*j+1) aa;rw[fI] at ixa ixb;simp -dsimp (disch:=try exact dx) only[wpS,wpT,zE,f0,f3,f4,ixa,ixb,fc hv hE.ai ha,fc hv hE.ai hb];refine call (QP a b a64 b64 d0) ?_;rintro _ h1 ⟨X1,rfl⟩;have m1:=X1.n;rw[iD];obtain⟨p,hp⟩ : ∃p,p=shq (Rat.divInt a b):=⟨_,rfl⟩;rw[←hp];obtain⟨cV,h8,hap,hA8,hG8,hE8⟩:=(hA.ext X1).qC (P:=prog) (t:=61) Ms (m:=1) (new:=shC p.1 p.2) aa (by rw[ba]) (cT _ _) aa aa (hE.trans X1) aa;have lD:append prog (h1.new (.cells (shC p.1 p.2) 16 none)) 61 out (.slice (some ⟨2*h1.n,0,none⟩) 1 3)=some (cV,h8):=hap;have eT:shL (GS l j) ++ shC p.1 p.2=shL (GS l (j+1)):=by rw[OH,ga,gb,←hp,QD]
  rw[eT] at hA8;simp -dsimp (disch:=try exact dx) only[wpS,wpT,zE,zL,zA,Mm,tN,f4,bR,ba,fD,lD];have e2:((2*j:Nat):Int)+2=((2*(j+1):Nat):Int):=aa;exact⟨m - 1,aa,j+1,cV,aa,hE8,hA8,by simp[f0],ab,by show _=some (KI ((2*(j+1):Nat):Int));rw[←e2];simp⟩
 ·obtain rfl:j=n:=aa;simp -dsimp (disch:=try exact dx) only[wpS,wpT,zE,f3];refine⟨hE,by rw[IG];exact hA.sl,by rw[IG];omega,fun p hp=>?_⟩;obtain⟨i,hi,rfl⟩:=ir.1 hp;exact rq (hd i (qX.1 hi)).2
def EL {w1 w2:QQ} {x1 x2:List (Nat×Nat)} (s1:kU h w1 x1) (s2:kU h w2 x2):iN (h.new (.cells [w1,w2] 1 none)) (.slice (some ⟨2*h.n,0,none⟩) 2 5) [x1,x2]:=by
 have E:Ext h (h.new (.cells [w1,w2] 1 none)):=(Ext.refl h).new _;refine⟨[w1,w2],fX (k:=h.n) (f:=none) (ar _ _ rfl) ab aC ab aa aa,ab,?_⟩;intro i x hx
 match i,hx with
 | 0,hx=>simp at hx;subst hx;exact⟨w1,rfl,s1.ai E.ai⟩
 | 1,hx=>simp at hx;subst hx;exact⟨w2,rfl,s2.ai E.ai⟩
 | i+2,hx=>simp at hx
def Dt (l:List Int) (h0:0<l.length) (hl:l.length≤100) (hx : ∀x∈l,fS x):fF (h.new (.cells (l.map KI) 1 none)) (.slice (some ⟨2*h.n,0,none⟩) l.length (2*l.length+1)) l :=
 ⟨fX (k:=h.n) (f:=none) (ar _ _ rfl) ab aC ab aa aa,aa,hx⟩
def wC:List (List (Nat×Nat)):=[[(1,2),(1,2)],[(1,4),(3,4)]]
def BF (a b c d:Int) (hx : ∀x ∈ [a,b,c,d],fS x) (h1:b≠0∧QW (Rat.divInt a b)) (h2:d≠0∧QW (Rat.divInt c d)) :WV prog (.func (.func 37) #[] #[]) [.slice (some ⟨2*h.n,0,none⟩) 4 9] (h.new (.cells [KI a,KI b,KI c,KI d] 1 none)) fun r h'=>Ext h h'∧kU h' r [shq (Rat.divInt a b),shq (Rat.divInt c d)] :=
 (QG (n:=2) (Dt [a,b,c,d] ab ab hx) rfl aa (fun j hj=>by
  match j,hj with
  | 0,_=>exact h1
  | 1,_=>exact h2)).mono fun _ _ ⟨X,s⟩=>⟨((Ext.refl h).new _).trans X,s⟩
def qwS (n d:Int) (h:(Rat.divInt n d).num.natAbs≤1000000∧(Rat.divInt n d).den≤1000000):QW (Rat.divInt n d):=by have:=Og;exact⟨⟨aa,aa⟩,⟨aa,aa⟩⟩
def yj :WV prog (.func (.func 35) #[] #[]) [] h fun r h'=>Ext h h'∧iN h' r wC:=by refine enter (nt:=6) (rs:=[.tmp 0]) Proofs.Tryz.func35 rfl rfl rfl ab ?_;simp -dsimp (disch:=try exact dx) only[wpS,wpT,zL,zA,reduceMul,kS];refine call (BF 1 2 1 2 aC ⟨aC,qwS _ _ cI⟩ ⟨aC,qwS _ _ cI⟩) ?_;rintro r1 h1 ⟨X1,s1⟩;simp -dsimp (disch:=try exact dx) only[wpS,wpT,zE,zL,zA,reduceMul,kS];refine call (BF 1 4 3 4 aC ⟨aC,qwS _ _ cI⟩ ⟨aC,qwS _ _ cI⟩) ?_;rintro r2 h2 ⟨X2,s2⟩;have c1:=s1.1.cells;have c2:=s2.1.cells;have o1:=s1.1.cok;have o2:=s2.1.cok;simp -dsimp (disch:=try exact dx) only[wpS,wpT,zE,zL,zA,reduceMul,JY,c1,c2];have e:wC = [[shq (Rat.divInt 1 2),shq (Rat.divInt 1 2)],[shq (Rat.divInt 1 4),shq (Rat.divInt 3 4)]]:=cI;rw[e];exact⟨(X1.trans X2).new _,EL (s1.ai X2.ai) s2⟩
def Cw:W0 wC:=by
 refine Mb aC aC fun x hx=>?_;simp only[wC,dV,List.not_mem_nil,or_false] at hx;rcases hx with rfl|rfl;·exact⟨rfl,⟨by unfold mw zm okS;decide +kernel,⟨2,by unfold smR;decide⟩,(1,2),aC,aC⟩⟩
 ·exact⟨rfl,⟨by unfold mw zm okS;decide +kernel,⟨4,by unfold smR;decide⟩,(1,4),aC,aC⟩⟩
theorem w12:([1,2]:List Int).map bN = [1,2]:=cI
theorem Jh {lev:Int} (h:0≤lev∧lev≤8):ig wC [1,2] [0,1] lev=0:=(O4 Cw rfl rfl cI aC h).1
def YN:mK (mJ [0,1] 0) [1,2] 2=([1,2]:List Int).map bN:=cI
def YM:mK (mJ [0,1] 2) [1,2] 2=([4,2]:List Int).map bN:=cI
def ZV:oY wC (mK (mJ [0,1] 0) [1,2] 2)=wC:=cI
def ZU:oY wC (mK (mJ [0,1] 2) [1,2] 2) = [[shq (Rat.divInt 7 8),shq (Rat.divInt 1 8)],[shq (Rat.divInt 1 4),shq (Rat.divInt 3 4)]]:=cI
end
section
def Pg {l:List Int} (h : ∀x∈l,-1000≤x∧x≤1000) : ∀x∈l,fS x:=fun x hx=>by have:=h x hx;exact⟨aa,aa⟩
def pL (h:IH) (a b:Int) (hx : ∀x ∈ [a,b],fS x):fF (h.new (.cells [KI a,KI b] 1 none)) (.slice (some ⟨2*h.n,0,none⟩) 2 5) [a,b]:=Dt [a,b] ab ab hx
variable {α:Type}
def XW (a:α) (l m:List α):List.append (a :: l) m=a :: List.append l m:=rfl
def XV (m:List α):List.append [] m=m:=rfl
set_option maxRecDepth 100000 in
def Kw {h:IH}:WV Proofs.Tryz.prog (.func (.func 7) #[] #[]) [] h fun r h'=>Ext h h'∧r=.bool true:=by
 have i0:fS (0:Int):=⟨aa,aa⟩;have i2:fS (2:Int):=⟨aa,aa⟩;have y12 : ∀x∈([1,2]:List Int),fS x:=Pg aC;obtain⟨Ha,hHa⟩ : ∃H,H=h.new (.cells [KI 0,KI 1] 1 none):=⟨_,rfl⟩;have Ea:Ext h Ha:=by rw[hHa];exact(Ext.refl h).new _
 obtain⟨vs,hvs⟩ : ∃v,v=Value.slice (some ⟨2*h.n,0,none⟩) 2 5:=⟨_,rfl⟩;have ss:fF Ha vs [0,1]:=by rw[hHa,hvs];exact pL h 0 1 (Pg aC)
 refine enter (nt:=97) (rs:=[.tmp 0]) Proofs.Tryz.func7 rfl rfl rfl ab ?_;simp -dsimp (disch:=try exact dx) only[wpS,wpT,zL,zA,reduceMul,kS,←hHa,←hvs];simp only[XW,XV];simp -dsimp (disch:=try exact dx) only[wpS,wpT,zE,zL,zA,reduceMul,kS];clear hHa hvs;refine call (Nw (w:=.slice (some ⟨2*Ha.n,0,none⟩) 2 5) rfl) ?_;rintro _ H1 ⟨rfl,hH1⟩;have sa:fF H1 (.slice (some ⟨2*Ha.n,0,none⟩) 2 5) [1,2]:=by rw[hH1];exact(pL Ha 1 2 y12).ai ((Ext.refl _).new _).ai
 have g1:H1.ext.get (Ha.n+1)=some (.cells [.slice (some ⟨2*Ha.n,0,none⟩) 2 5] 0 none):=by rw[hH1];exact ar _ _ rfl
 have E1:Ext Ha H1:=by rw[hH1];exact((Ext.refl _).new _).new _
 have n1:H1.n=Ha.n+2:=by rw[hH1];rfl
 clear hH1;simp -dsimp (disch:=try exact dx) only[wpS,wpT,zE,zL,zA,reduceMul,kS];refine call (zJ (pL H1 1 2 y12) aC) ?_;rintro v2 h2 ⟨X2,s2⟩;rw[w12] at s2;have E2:=(E1.new _).trans X2;simp -dsimp (disch:=try exact dx) only[wpS,zE];refine call (tc s2 (ss.ai E2.ai) i0) ?_;rintro _ h3 ⟨X3,v3,rfl,t3,_⟩;have e3:=(Dk (Jh (lev:=0) aa)).1;have t3:=t3 e3;rw[e3];rw[show([1,2]:List Nat).length=2 from rfl,YN] at t3;have E3:=E2.trans X3;have E13:=(((Ext.refl H1).new _).trans X2).trans X3;simp -dsimp (disch:=try exact dx) only[wpS,zE];refine call (Jn (sa.ai E13.ai) aC t3 (E13.kept aa g1)) ?_;rintro _ h4 ⟨X4,rfl⟩;have E4:=E3.trans X4;simp -dsimp (disch:=try exact dx) only[wpS,wpT,zE,zL,zA,reduceMul,kS];refine call (Nw (w:=.slice (some ⟨2*h4.n,0,none⟩) 2 5) rfl) ?_;rintro _ H5 ⟨rfl,hH5⟩;have sb:fF H5 (.slice (some ⟨2*h4.n,0,none⟩) 2 5) [4,2]:=by rw[hH5];exact(pL h4 4 2 (Pg aC)).ai ((Ext.refl _).new _).ai
 have g5:H5.ext.get (h4.n+1)=some (.cells [.slice (some ⟨2*h4.n,0,none⟩) 2 5] 0 none):=by rw[hH5];exact ar _ _ rfl
 have E5:Ext h4 H5:=by rw[hH5];exact((Ext.refl _).new _).new _
 have n5:H5.n=h4.n+2:=by rw[hH5];rfl
 clear hH5;simp -dsimp (disch:=try exact dx) only[wpS,wpT,zE,zL,zA,reduceMul,kS];refine call (zJ (pL H5 1 2 y12) aC) ?_;rintro v6 h6 ⟨X6,s6⟩;rw[w12] at s6;have E6:=((E4.trans E5).new _).trans X6;simp -dsimp (disch:=try exact dx) only[wpS,wpT,zE];refine call (tc s6 (ss.ai E6.ai) i2) ?_;rintro _ h7 ⟨X7,v7,rfl,t7,_⟩;have e7:=(Dk (Jh (lev:=2) aa)).1;have t7:=t7 e7;rw[e7];rw[show([1,2]:List Nat).length=2 from rfl,YM] at t7;have E7:=E6.trans X7;have E57:=(((Ext.refl H5).new _).trans X6).trans X7;simp -dsimp (disch:=try exact dx) only[wpS,wpT,zE];refine call (Jn (sb.ai E57.ai) aC t7 (E57.kept aa g5)) ?_;rintro _ h8 ⟨X8,rfl⟩;have E8:=E7.trans X8;simp -dsimp (disch:=try exact dx) only[wpS,wpT,zE,zL,zA,reduceMul,kS];obtain⟨H9,hH9⟩ : ∃H,H=(h8.new (.cells [KI 0,KI 31] 1 none)).new (.cells [KI 0] 1 none):=⟨_,rfl⟩;have E9:Ext h8 H9:=by rw[hH9];exact((Ext.refl _).new _).new _
 have c1:fF H9 (.slice (some ⟨2*h8.n,0,none⟩) 2 5) [0,31]:=by rw[hH9];exact(pL h8 0 31 (Pg aC)).ai ((Ext.refl _).new _).ai
 have c2:fF H9 (.slice (some ⟨2*(h8.n+1),0,none⟩) 1 3) [0]:=by rw[hH9];exact C8 _ 0 i0
 rw[←hH9];clear hH9;refine call (tf c1 c2) ?_;rintro _ h10 ⟨X10,rfl⟩;rw[show jO [0,31] [0]=340 from rfl];have E10:=(E8.trans E9).trans X10;simp -dsimp (disch:=try exact dx) only[wpS,wpT,zE];refine call yj ?_;rintro w1 h11 ⟨X11,t11⟩;obtain⟨cw1,_,_⟩:=t11.co;simp -dsimp (disch:=try exact dx) only[wpS,wpT,zE];refine call (RQ cw1) ?_;rintro _ H12 ⟨rfl,we⟩;have E12:Ext h11 H12:=by rw[we];exact(Ext.refl _).new _
 have n12:H12.n=h11.n+1:=by rw[we];rfl
 have g12:H12.ext.get h11.n=some (.cells [w1] 0 none):=by rw[we];exact ar _ _ rfl
 clear we;simp -dsimp (disch:=try exact dx) only[wpS,wpT,zE];refine call yj ?_;rintro w2 h13 ⟨X13,t13⟩;simp -dsimp (disch:=try exact dx) only[wpS,wpT,zE,zL,zA,reduceMul,kS];refine call (zJ (pL h13 1 2 y12) aC) ?_;rintro v14 h14 ⟨X14,s14⟩;rw[w12] at s14;have E14:=((((E10.trans X11).trans E12).trans X13).new _).trans X14;have F14:=(X13.new _).trans X14;simp -dsimp (disch:=try exact dx) only[wpS,wpT,zE];refine call (xr (t13.ai (((Ext.refl h13).new _).trans X14).ai) s14 (ss.ai E14.ai) i0) ?_;rintro _ h15 ⟨X15,o15,rfl,t15,_⟩;have e15:=Jh (lev:=0) aa;have t15:=t15 e15;rw[e15];rw[show([1,2]:List Nat).length=2 from rfl,ZV] at t15;obtain⟨c15,k15,_⟩:=t15.co;have F15:=F14.trans X15;simp -dsimp (disch:=try exact dx) only[wpS,wpT,zE];refine call (NA t15 (t11.ai (E12.trans F15).ai) (F15.kept aa g12)) ?_;rintro _ z1 ⟨ez,rfl⟩;rw[ez];clear ez z1;have E15:=E14.trans X15;simp -dsimp (disch:=try exact dx) only[wpS,wpT,zE,zL,zA,reduceMul,kS];have qs : ∀n d:Int,d≠0∧(Rat.divInt n d).num.natAbs≤1000000∧(Rat.divInt n d).den≤1000000→d≠0∧QW (Rat.divInt n d):=fun n d h=>⟨h.1,qwS n d h.2⟩;refine call (BF 7 8 1 8 (Pg aC) (qs 7 8 cI) (qs 1 8 cI)) ?_;rintro r1 h16 ⟨X16,s16⟩;simp -dsimp (disch:=try exact dx) only[wpS,wpT,zE,zL,zA,reduceMul,kS];refine call (BF 1 4 3 4 (Pg aC) (qs 1 4 cI) (qs 3 4 cI)) ?_;rintro r2 h17 ⟨X17,s17⟩;have d1:=s16.1.cells;have d2:=s17.1.cells;have d3:=s16.1.cok;have d4:=s17.1.cok;simp -dsimp (disch:=try exact dx) only[wpS,wpT,zE,zL,zA,reduceMul,JY,d1,d2];have t18:=EL (s16.ai X17.ai) s17;refine call (RQ (w:=.slice (some ⟨2*h17.n,0,none⟩) 2 5) rfl) ?_;rintro _ H18 ⟨rfl,UL⟩;have E18:Ext (h17.new (.cells [r1,r2] 1 none)) H18:=by rw[UL];exact(Ext.refl _).new _
 have n18:H18.n=h17.n+2:=by rw[UL];rfl
 have g18:H18.ext.get (h17.n+1)=some (.cells [.slice (some ⟨2*h17.n,0,none⟩) 2 5] 0 none):=by rw[UL];exact ar _ _ rfl
 clear UL;have F18:=(((E15.trans X16).trans X17).new (.cells [r1,r2] 1 none)).trans E18;simp -dsimp (disch:=try exact dx) only[wpS,wpT,zE];refine call yj ?_;rintro w3 h19 ⟨X19,t19⟩;simp -dsimp (disch:=try exact dx) only[wpS,wpT,zE,zL,zA,reduceMul,kS];refine call (zJ (pL h19 1 2 y12) aC) ?_;rintro v20 h20 ⟨X20,s20⟩;rw[w12] at s20;have E20:=((F18.trans X19).new _).trans X20;have F20:=(X19.new _).trans X20;simp -dsimp (disch:=try exact dx) only[wpS,wpT,zE];refine call (xr (t19.ai (((Ext.refl h19).new _).trans X20).ai) s20 (ss.ai E20.ai) i2) ?_;rintro _ h21 ⟨X21,o21,rfl,t21,_⟩;have e21:=Jh (lev:=2) aa;have t21:=t21 e21;rw[e21];rw[show([1,2]:List Nat).length=2 from rfl,ZU] at t21;obtain⟨c21,k21,_⟩:=t21.co;have F21:=F20.trans X21;simp -dsimp (disch:=try exact dx) only[wpS,wpT,zE];refine call (NA t21 (t18.ai (E18.trans F21).ai) (F21.kept aa g18)) ?_;rintro _ z1 ⟨ez,rfl⟩;rw[ez];clear ez z1;have E21:=E20.trans X21;have q11:(1:Int)≠0∧QW (Rat.divInt 1 1):=qs 1 1 cI;have q14:(4:Int)≠0∧QW (Rat.divInt 1 4):=qs 1 4 cI;have i1:fS (1:Int):=⟨aa,aa⟩;have i4:fS (4:Int):=⟨aa,aa⟩;have sb1 : ∀x∈([0,1]:List Int),0≤x∧x≤30:=aC;have k1:ke [0,1] 2 0 1 0=.tuple #[mf (Rat.divInt 1 1),KI 0]:=tJ (s:=[0,1]) (a:=2) (b:=0) (x:=1) (y:=0) aC aC sb1 aC aC aC aC;have k2:ke [0,1] 2 0 0 1=.tuple #[mf (Rat.divInt 1 4),KI 0]:=tJ (s:=[0,1]) (a:=2) (b:=0) (x:=0) (y:=1) aC aC sb1 aC aC aC aC;have k3:ke [0,1] 2 0 0 2=.tuple #[shV 0 0,KI 2]:=by unfold ke;rw[ah (by rw[show jO [0,1] [2,0]=0 from rfl];decide),aq aC]
 simp -dsimp (disch:=try exact dx) only[wpS,wpT,zE];refine call Nl ?_;rintro _ H22 ⟨rfl,RV⟩;have E22:Ext h21 H22:=by rw[RV];exact((Ext.refl _).new _).new _
 have n22:H22.n=h21.n+2:=by rw[RV];rfl
 have p22:H22.ext.get h21.n=some (.cells [KI 1] 0 none):=by rw[RV];simp (disch:=try exact dx) only[ar,aE]
 have r22:H22.ext.get (h21.n+1)=some (.cells [KI 1] 0 none):=by rw[RV];simp (disch:=try exact dx) only[ar]
 clear RV;simp -dsimp (disch:=try exact dx) only[wpS,wpT,zE];refine call (uy (ss.ai (E21.trans E22).ai) i2 i0 i1 i0) ?_;rintro _ h23 ⟨X23,rfl⟩;rw[k1];simp -dsimp (maxSteps:=1000000) (disch:=first|omega|(simp only[aH,aJ];omega)|decide +kernel|(repeat first|rw[aH]|rw[aJ])) only[wpS,wpT,zE];refine call (I2 i1 i1 q11.1 q11.2 (by have:=X23.n;omega) (by have:=X23.n;omega) (X23.kept aa p22) (X23.kept aa r22)) ?_;rintro _ h24 ⟨X24,rfl⟩;have E24:=((E21.trans E22).trans X23).trans X24;simp -dsimp (disch:=try exact dx) only[wpS,wpT,zE];refine call Nl ?_;rintro _ H25 ⟨rfl,RU⟩;have E25:Ext h24 H25:=by rw[RU];exact((Ext.refl _).new _).new _
 have n25:H25.n=h24.n+2:=by rw[RU];rfl
 have p25:H25.ext.get h24.n=some (.cells [KI 1] 0 none):=by rw[RU];simp (disch:=try exact dx) only[ar,aE]
 have r25:H25.ext.get (h24.n+1)=some (.cells [KI 4] 0 none):=by rw[RU];simp (disch:=try exact dx) only[ar]
 clear RU;simp -dsimp (disch:=try exact dx) only[wpS,wpT,zE];refine call (uy (ss.ai (E24.trans E25).ai) i2 i0 i0 i1) ?_;rintro _ h26 ⟨X26,rfl⟩;rw[k2];simp -dsimp (maxSteps:=1000000) (disch:=first|omega|(simp only[aH,aJ];omega)|decide +kernel|(repeat first|rw[aH]|rw[aJ])) only[wpS,wpT,zE];refine call (I2 i1 i4 q14.1 q14.2 (by have:=X26.n;omega) (by have:=X26.n;omega) (X26.kept aa p25) (X26.kept aa r25)) ?_;rintro _ h27 ⟨X27,rfl⟩;have E27:=((E24.trans E25).trans X26).trans X27;simp -dsimp (disch:=try exact dx) only[wpS,wpT,zE];refine call KJ ?_;rintro _ H28 ⟨rfl,UK⟩;have E28:Ext h27 H28:=by rw[UK];exact(Ext.refl _).new _
 have n28:H28.n=h27.n+1:=by rw[UK];rfl
 have p28:H28.ext.get h27.n=some (.cells [KI 2] 0 none):=by rw[UK];exact ar _ _ rfl
 clear UK;simp -dsimp (disch:=try exact dx) only[wpS,wpT,zE];refine call (uy (ss.ai (E27.trans E28).ai) i2 i0 i0 i2) ?_;rintro _ h29 ⟨X29,rfl⟩;rw[k3];simp -dsimp (maxSteps:=1000000) (disch:=first|omega|(simp only[aH,aJ];omega)|decide +kernel|(repeat first|rw[aH]|rw[aJ])) only[wpS,wpT,zE];refine call (Iq (by have:=X29.n;omega) (X29.kept aa p28)) ?_;rintro _ h30 ⟨X30,rfl⟩;have E30:=((E27.trans E28).trans X29).trans X30;simp -dsimp (disch:=try exact dx) only[wpS,wpT,zE];refine call UZ ?_;rintro _ H31 ⟨rfl,UJ⟩;have E31:Ext h30 H31:=by rw[UJ];exact(Ext.refl _).new _
 have n31:H31.n=h30.n+1:=by rw[UJ];rfl
 have p31:H31.ext.get h30.n=some (.cells [KI 2] 0 none):=by rw[UJ];exact ar _ _ rfl
 clear UJ;simp -dsimp (disch:=try exact dx) only[wpS,wpT,zE];refine call yj ?_;rintro w4 h32 ⟨X32,t32⟩;simp -dsimp (disch:=try exact dx) only[wpS,wpT,zE,zL,zA,reduceMul,kS];refine call (zJ (pL h32 1 2 y12) aC) ?_;rintro v33 h33 ⟨X33,s33⟩;rw[w12] at s33;have F33:=(X32.new _).trans X33;have E33:=((E30.trans E31).trans F33);simp -dsimp (maxSteps:=1000000) (disch:=first|omega|(simp only[aH,aJ];omega)|decide +kernel|(repeat first|rw[aH]|rw[aJ])) only[wpS,wpT,zE,zL,zA,kS,fw];obtain⟨H34,RT⟩ : ∃H,H=(h33.new (.cells [KI 0] 1 none)).new (.cells [KI 2] 1 none):=⟨_,rfl⟩;have E34:Ext h33 H34:=by rw[RT];exact((Ext.refl _).new _).new _
 have a1:fF H34 (.slice (some ⟨2*h33.n,0,none⟩) 1 3) [0]:=by rw[RT];exact(C8 _ 0 i0).ai ((Ext.refl _).new _).ai
 have a2:fF H34 (.slice (some ⟨2*(h33.n+1),0,none⟩) 1 3) [2]:=by rw[RT];exact C8 _ 2 i2
 rw[←RT];clear RT;have rr:GV wC [1,2] [0,1] [0] [2] 0=([],0,0,2):=by
  have lv0:v8 wC [1,2] [0,1] [0]=0:=by rw[v8,Jh aa,ah (fun h=>h rfl),v8]
  unfold GV;rw[ah (fun h=>h Cw.1),ah (by rw[show jO [0,1] [0]=0 from rfl];decide),lv0,ah aC,aq (.inr aC)]
 refine call (Cz (c:=0) (t32.ai ((((Ext.refl h32).new _).trans X33).trans E34).ai) (s33.ai E34.ai) (ss.ai (E33.trans E34).ai) a1 a2 aC) ?_;rintro _ h35 ⟨X35,o35,rfl,S35⟩;rw[rr] at S35 ⊢;simp -dsimp (maxSteps:=1000000) (disch:=first|omega|(simp only[aH,aJ];omega)|decide +kernel|(repeat first|rw[aH]|rw[aJ])) only[wpS,wpT,zE];refine call (Sq S35 (by have:=(F33.trans (E34.trans X35)).n;omega) ((F33.trans (E34.trans X35)).kept aa p31)) ?_;rintro _ h36 ⟨X36,rfl⟩;simp -dsimp (maxSteps:=1000000) (disch:=first|omega|(simp only[aH,aJ];omega)|decide +kernel|(repeat first|rw[aH]|rw[aJ])) only[wpS,wpT,zE];exact Ea.trans (((E33.trans E34).trans X35).trans X36)
end
def GU {h:IH} {sz s b c:Nat} {p:Nat×Nat} {vN vS vL vA vR vQ vr:Value} {lN lS lL lA:List Nat} {lR lQ lr:List Int} (hN:kB h vN lN) (hS:kB h vS lS) (hL:kB h vL lL) (hA:kB h vA lA) (hR:vj h vR lR) (hQ:vj h vQ lQ) (hr:vj h vr lr) (hsz:sz<256) (hs:s<18446744073709551616) (hb:b<256) (hc:c<256) (hp:p.1<W8∧p.2<W8) :WV Proofs.Tryz.prog (.func (.func 3) #[] #[]) [.agg #[B8 sz,vN,vS,vL,vA,vR,vQ],bdV b c p,.agg #[K64 s],vr] h fun r _=>r=.bool true:=by
 obtain⟨H0,hH0⟩ : ∃H,H=((h.new (.cells [B8 sz,vN,vS,vL,vA,vR,vQ] 0 none)).new (.cells (bdC b c p) 0 none)).new (.cells [K64 s] 0 none):=⟨_,rfl⟩;have n0:H0.n=h.n+3:=by rw[hH0];rfl
 have E0:Ext h H0:=by rw[hH0];exact(((Ext.refl h).new _).new _).new _
 have g0:H0.ext.get h.n=some (.cells [B8 sz,vN,vS,vL,vA,vR,vQ] 0 none):=by rw[hH0];simp (disch:=try exact dx) only[ar,aE]
 have g1:H0.ext.get (h.n+1)=some (.cells (bdC b c p) 0 none):=by rw[hH0];simp (disch:=try exact dx) only[ar,aE]
 have g2:H0.ext.get (h.n+2)=some (.cells [K64 s] 0 none):=by rw[hH0];simp (disch:=try exact dx) only[ar]
 refine enter (nt:=141) (rs:=[.tmp 8]) Proofs.Tryz.func3 rfl rfl rfl ab ?_;show Do (wpC _ _ _ _ (.seq (partAt nk 0) (.seq (partAt nk 1) (xE nk 2))) _ _) _ _;rw[mE];refine cut (fun fr h'=>h'=H0∧ax fr 3=some vr∧ax fr 4=some (ptr (2*h.n) 0)∧ax fr 5=some (ptr (2*(h.n+1)) 0)∧ax fr 6=some (ptr (2*(h.n+2)) 0)) ?_ ?_
 ·show Do (wpC _ _ _ _ (.region _ _ _) _ _) _ _;simp -dsimp (disch:=try exact dx) only[wpS,Nat.reduceEqDiff,Nat.reduceAdd,Az];exact⟨hH0.symm,ab,ab,ab,ab⟩
 rintro fr1 h1 ⟨e1,f3,f4,f5,f6⟩;rw[e1];clear e1 h1;rw[mE];refine cut (fun fr h'=>Ext H0 h'∧ax fr 3=some vr∧ax fr 4=some (ptr (2*h.n) 0)∧ax fr 5=some (ptr (2*(h.n+1)) 0)∧ax fr 6=some (ptr (2*(h.n+2)) 0)) ?_ ?_
 ·show Do (wpC _ _ _ _ (.seq _ _) _ _) _ _;simp -dsimp (disch:=try exact dx) only[wpS];refine call Kw ?_;rintro _ h2 ⟨X2,rfl⟩;simp -dsimp (disch:=try exact dx) only[wpS,wpT,Nat.reduceEqDiff];exact⟨X2,by simp[f3],by simp[f4],by simp[f5],by simp[f6]⟩
 rintro fr2 h2 ⟨X2,f3,f4,f5,f6⟩;have n2:=X2.n;have E2:=(E0.trans X2).ai;exact II (bx:=h.n) (bb:=h.n+1) (bc:=h.n+2) (hN.ai E2) (hS.ai E2) (hL.ai E2) (hA.ai E2) (hR.ai E2) (hQ.ai E2) (hr.ai E2) hsz hs aa aa aa (X2.kept aa g0) (X2.kept aa g1) (X2.kept aa g2) hb hc hp f3 f4 f5 f6
end Go.Id
namespace Go.Proofs.YtnnmjocmapilaaaGreat
open Go.ChangeShapes Go.WideShapes Go.ChangeAt Go.RowKit Go.Id
def wf_u16 {x:Int} (h:(Lit.int .u16 x).wf=true):0≤x∧x<65536:=by simp only[Lit.wf,fK,aS] at h;have h1:(0:Int)≤x:=h.1;have h2:x≤(65535:Int):=h.2;exact⟨h1,aa⟩
def ZaT {m:Mp} (n d:Nat):bz m (shV n d) (.agg (shC n d).toArray):=.dS (OT n d)
set_option maxRecDepth 100000 in
def vY (os:Os) (started:os.Started) (H:Type) (enc:TypeId×Value→H) :ReturnsInHanded {} Tryz.checked os 3 .any (Rows.temperRoundsSpec.pre6 enc Tryz.prog Tryz.f3 Rows.temperRoundsRow.domain false) (Rows.temperRoundsSpec.post enc Tryz.prog Tryz.f3 false true false false):=by
 refine returnsInHanded_of_change (C:=Tryz.checked) Tryz.own started ae Tryz.func3 (ChangeSpec.witness6 (enc:=enc) (C:=Tryz.checked) false ⟨#[],#[.agg #[.int .u8 0,.slice none 0 0,.slice none 0 0,.slice none 0 0,.slice none 0 0,.slice none 0 0,.slice none 0 0],.agg #[.int .u8 0,.int .u8 0,.int .u64 0,.int .u64 0,.int .u64 0,.int .u64 0,.int .u64 0,.int .u64 0,.int .u64 0,.int .u64 0,.int .u64 0,.int .u64 0,.int .u64 0,.int .u64 0,.int .u64 0,.int .u64 0,.int .u64 0,.int .u64 0],.agg #[.int .u64 0],.slice none 0 0],[]⟩ 8 ae ae ae ae) ?_;intro W base args ds gs before Ze hW hcnd _;have tF : ∀(j:Nat) t v,Tryz.f3.params[j]?=some t→args[j]?=some v→Value.okWide Tryz.prog W .any base t v:=Ze;have hW':=hW;obtain⟨p,q,hA0,hV,rfl,hfz,hnd⟩:=hW;have hA:DataW.TrodAll enc Tryz.prog W 0 (fun _=>true) true Tryz.f3.params.toList args.toList ds p:=hA0;have hA1:=hA;rw[Tryz.params3] at hA tF;obtain⟨a0,r0,d0,ds0,p0,q0,e0,rfl,rfl,t0,h0A⟩:=trodAll_cons hA;obtain⟨a1,r1,d1,ds1,p1,q1,rfl,rfl,rfl,t1,h1A⟩:=trodAll_cons h0A;obtain⟨a2,r2,d2,ds2,p2,q2,rfl,rfl,rfl,t2,h2A⟩:=trodAll_cons h1A;obtain⟨a3,r3,d3,ds3,p3,q3,rfl,rfl,rfl,t3,h3A⟩:=trodAll_cons h2A;obtain⟨rfl,rfl,rfl⟩:=trodAll_nil h3A;obtain⟨rfl,rfl⟩:=trodVars_none hV;obtain rfl:args = #[a0,a1,a2,a3]:=by cases args;simpa using e0
 obtain⟨z0,rfl,_⟩:=okWide_struct Qc (tF 0 _ _ rfl rfl);obtain⟨fu0,t0⟩:=t0;obtain⟨k0,yN0,yS0,yL0,yA0,yR0,yQ0,lN0,lS0,lL0,lA0,lR0,lQ0,g0,kb0,m0,sN0,sS0,sL0,sA0,sR0,sQ0⟩:=U7 (fun _=>none) t0;obtain rfl:z0 = #[B8 k0,yN0,yS0,yL0,yA0,yR0,yQ0]:=by cases z0;simpa using g0
 obtain⟨z1,rfl,_⟩:=okWide_struct Qd (tF 1 _ _ rfl rfl);obtain⟨fu1,t1⟩:=t1;obtain⟨bw1,ba1,bn1,bd1,kw1,ka1,kn1,kd1,g1⟩:=Vb t1;obtain rfl:z1=(bdC bw1 ba1 (bn1,bd1)).toArray:=by cases z1;simpa using g1
 obtain⟨z2,rfl,_⟩:=okWide_struct Ie (tF 2 _ _ rfl rfl);obtain⟨fu2,t2⟩:=t2;obtain⟨k2,g2,kb2⟩:=PA t2;obtain rfl:z2 = #[K64 k2]:=by cases z2;simpa using g2
 obtain⟨b3,n3,c3,rfl⟩:=okWide_slice Qb (tF 3 _ _ rfl rfl);obtain⟨fu3,t3⟩:=t3;obtain⟨v3,l3,g3,m3,s3⟩:=zN (fun _=>none) t3;cases g3;have hb:=TM (W:=W) (G:=fun _=>none) (fun b cs h=>by cases h);refine(Tw Tryz.sound (GU (p:=(bn1,bd1)) sN0 sS0 sL0 sA0 sR0 sQ0 s3 kb0 kb2 kw1 ka1 ⟨kn1,kd1⟩) hb (args':=#[.agg #[B8 k0,yN0,yS0,yL0,yA0,yR0,yQ0],.agg (bdC bw1 ba1 (bn1,bd1)).toArray,.agg #[K64 k2],.slice b3 n3 c3]) (.cons (.vX (.cons (.dN rfl) (.cons (qI m0.1) (.cons (qI m0.2.1) (.cons (qI m0.2.2.1) (.cons (qI m0.2.2.2.1) (.cons (qI m0.2.2.2.2.1) (.cons (qI m0.2.2.2.2.2) (.nil _))))))))) (.cons (Vc bw1 ba1 (bn1,bd1)) (.cons (.vX (.cons (.dN rfl) (.nil _))) (.cons (qI m3) (.nil _)))))).mono fun e W' ⟨he,hk⟩=>?_;subst he;refine⟨_,rfl,En (pa:=p0 ++ (p1 ++ (p2 ++ (p3 ++ [])))) (pv:=[]) hW' (fun _ _ _=>trodAll_mk1 (shut_bool Tryz.underlying4 _)) (fun sp hs=>?_) (fun _ _=>rfl) hk⟩;exact wD Tryz.kids Tryz.pos hk hA1 (fun t ht=>by
  rw[Tryz.params3] at ht;simp at ht;rcases ht with rfl|rfl|rfl|rfl<;>exact of_decide_eq_true ae) (fun x hx=>hs x (by simpa using hx))
theorem temperRounds_row:Rows.TemperRoundsSaid :=
 OpenClaim.holds_of_wide 3 Tryz.f3 rfl rfl rfl rfl rfl rfl rfl ⟨rfl,rfl,rfl,rfl,rfl⟩ rfl rfl rfl rfl rfl ae Tryz.func3 ae
  (of_decide_eq_true ae) (by unfold Func.isWrapper;first|(rw[aq cI];kernel_rfl)|(rw[ah cI];exact⟨rfl,rfl⟩))
  (fun os started H enc _=>vY os started H enc)
#print axioms temperRounds_row
end Go.Proofs.YtnnmjocmapilaaaGreat

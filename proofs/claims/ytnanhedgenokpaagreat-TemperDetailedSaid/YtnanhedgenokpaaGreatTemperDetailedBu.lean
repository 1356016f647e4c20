/-
  A bent kernel: right only if small; the lengths of what is drawn. Contracts: package temper: replica.move.
-/
import Derived.Test.YtnanhedgenokpaaGreatTemperDetailedBt
import Derived.Test.YtnanhedgenokpaaGreatTemperDetailedBj
import Derived.Test.YtnanhedgenokpaaGreatTemperDetailedBs
import Derived.Test.YtnanhedgenokpaaGreatTemperDetailedBe
import Derived.Test.YtnanhedgenokpaaGreatTemperDetailedBq
import Derived.Test.YtnanhedgenokpaaGreatTemperDetailedBr
import Derived.Test.YtnanhedgenokpaaGreatTemperDetailedBk
import Derived.Test.YtnanhedgenokpaaGreatTemperDetailedBl
import Derived.Test.YtnanhedgenokpaaGreatTemperDetailedBo
import Init
import Derived.Test.YtnanhedgenokpaaGreatTemperDetailedBb
import Derived.Test.YtnanhedgenokpaaGreatTemperDetailedBf
set_option linter.unusedVariables false
set_option linter.unusedSimpArgs false
set_option linter.defProp false
set_option linter.deprecated false
namespace Go.Id
open Go
theorem qsum_fold (l:List Rat) (a:Rat):l.foldl (· + ·) a=a+qsum l:=by
 induction l generalizing a with
 | nil=>exact(Rat.add_zero a).symm
 | cons b l ih =>
  show l.foldl (· + ·) (a+b)=a+l.foldl (· + ·) (0+b)
  rw[ih,ih,Rat.zero_add,Rat.add_assoc]
theorem qsum_cons (q:Rat) (l:List Rat):qsum (q :: l)=q+qsum l:=by
 show l.foldl (· + ·) (0+q)=_
 rw[qsum_fold,Rat.zero_add]
end Go.Id

namespace Go.Id
open Go
end Go.Id

namespace Go.Id
open Go
end Go.Id

namespace Go.Id
open Go
end Go.Id

namespace Go.Id
open Go
end Go.Id

namespace Go.Id
open Go
def kerL (ll:List (List (Nat×Nat))) (ws:List Nat) (s:List Int) (lev:Int):List (List (Nat×Nat)):=filtLL ll (mapZ (tgtZ s lev) ws ws.length)
theorem any_out {most:Int} {l:List Int} (h : ∀x∈l,0≤x∧x≤most) : ¬l.any (outB most)=true:=fun hn=>by
 obtain⟨x,hx,hb⟩:=List.any_eq_true.1 hn
 have:=h x hx
 simp[outB] at hb
 omega
theorem chanceRes_ok {s:List Int} {a b:Int} {x y:Nat} (h1:1≤s.length) (h2:s.length≤60) (h3 : ∀x∈s,0≤x∧x≤30) (ha:0≤a∧a≤8) (hb:0≤b∧b≤8) (hx:x<s.length) (hy:y<s.length):chanceRes s a b x y=.tuple #[shareV (exq (chK s a b x y)),KI 0]:=by
 have e:ladErr s [a,b]=0:=by
  unfold ladErr
  have o1:=any_out h3
  have o2:=any_out (most:=8) (l:=[a,b]) fun z hz=>by
   rcases List.mem_cons.1 hz with rfl|hz
   ·exact ha
   ·rw[List.mem_singleton.1 hz];exact hb
  rw[if_neg]
  rintro(c|c|c|c|c|c)
  ·omega
  ·omega
  ·exact o1 c
  ·simp at c
  ·simp at c
  ·exact o2 c
 unfold chanceRes
 rw[if_neg (fun h=>h e),if_neg (by omega),Int.toNat_natCast,Int.toNat_natCast]
end Go.Id

namespace Go.Id
open Go
end Go.Id

namespace Go.Id
open Go
end Go.Id

namespace Go.Id
open Go
structure Reps (H:IH) (n1:Nat) (ks:List Nat) (lv:List Int) (kvs:List Value) (at_:Nat→Nat):Prop where
 len:ks.length=kvs.length
 asc : ∀(i j a b:Nat),i<j→ks[i]?=some a→ks[j]?=some b→a<b
 get : ∀(j k:Nat),ks[j]?=some k→n1≤k∧k<H.n ∧ ∃kv,kvs[j]?=some kv∧H.ext.get k=some (.cells [KI (lv.getD j 0),kv,KN (at_ j)] 0 none)
end Go.Id

namespace Go.Id
open Go
def pk (k:Nat):Value:=ptr (2*k) 0
structure RdA (h H:IH) (c b18:Nat) (ll:List (List (Nat×Nat))) (ws:List Nat) (s lv:List Int) (i:Nat) (cpv:Value) (ks:List Nat) (kvs:List Value) (n1:Nat):Prop where
 e:Ext h H
 g11:H.ext.get h.n=some (.cells [K64 c] 0 none)
 g12:H.ext.get (h.n+1)=some (.cells [.slice none 0 0] 0 none)
 g13:H.ext.get (h.n+2)=some (.cells [KI 0] 0 none)
 g14:H.ext.get (h.n+3)=some (.cells [.int .u64 0] 0 none)
 g15:H.ext.get (h.n+4)=some (.cells [KI 0] 0 none)
 bn:h.n+4<b18∧b18<n1∧n1≤H.n
 g18:H.ext.get b18=some (.cells [cpv] 0 none)
 acc:Acc H h.n 1 cpv i (ks.map pk)
 rep:Reps H n1 ks lv kvs (fun _=>0)
 ker : ∀(j:Nat) b,j<i→lv[j]?=some b → ∃kv',kvs[j]?=some kv'∧ShLs H kv' (kerL ll ws s b)∧levE ll ws s b=0
structure RdB (h H:IH) (ci b18:Nat) (sw:Int) (lv:List Int) (cpv:Value) (ks:List Nat) (kvs:List Value) (n1:Nat) (f:Nat→Nat):Prop where
 e:Ext h H
 g11:H.ext.get h.n=some (.cells [K64 ci] 0 none)
 g12:H.ext.get (h.n+1)=some (.cells [.slice none 0 0] 0 none)
 g13:H.ext.get (h.n+2)=some (.cells [KI sw] 0 none)
 g14:H.ext.get (h.n+3)=some (.cells [.int .u64 0] 0 none)
 g15:H.ext.get (h.n+4)=some (.cells [KI 0] 0 none)
 bn:h.n+4<b18∧b18<n1∧n1≤H.n
 g18:H.ext.get b18=some (.cells [cpv] 0 none)
 acc:Acc H h.n 1 cpv lv.length (ks.map pk)
 rep:Reps H n1 ks lv kvs f
end Go.Id

namespace Go.Id
open Go
noncomputable def tb34:FuncId→Option (List Value→Option Value):=tbOf [(10,okT)]
structure TLf (fr:Fr) (w v14 v17:Value) (a b i j:Int) (bx:Nat):Prop where
 f1:fget fr 1=some w
 f2:fget fr 2=some (KI a)
 f3:fget fr 3=some (KI b)
 f4:fget fr 4=some (KI i)
 f5:fget fr 5=some (KI j)
 f6:fget fr 6=some (ptr (2*bx) 0)
 f14:fget fr 14=some v14
 f17:fget fr 17=some v17
section
variable {h hh:IH} {fr:Fr} {sz bx:Nat} {vN vS vL vA vR vQ w:Value} {lN lS lL lA ws:List Nat} {lR lQ:List Int} {a b i j:Int}
end
end Go.Id

namespace Go.Id
open Go
structure LVf (fr:Fr) (w:Value) (l:Int) (bx bb:Nat):Prop where
 f2:fget fr 2=some w
 f3:fget fr 3=some (KI l)
 f4:fget fr 4=some (ptr (2*bx) 0)
 f5:fget fr 5=some (ptr (2*bb) 0)
section
variable {h hh:IH} {fr:Fr} {sz bx bb:Nat} {vN vS vL vA vR vQ w:Value} {lN lS lL lA ws:List Nat} {lR lQ:List Int} {l:Int}
end
end Go.Id

namespace Go.Id
open Go
structure RDf (fr:Fr) (vr:Value) (bx bb bc:Nat):Prop where
 f3:fget fr 3=some vr
 f4:fget fr 4=some (ptr (2*bx) 0)
 f5:fget fr 5=some (ptr (2*bb) 0)
 f6:fget fr 6=some (ptr (2*bc) 0)
section
variable {h hh:IH} {fr:Fr} {sz bx bb bc s:Nat} {vN vS vL vA vR vQ vr:Value} {lN lS lL lA ws:List Nat} {lR lQ lr:List Int}
end
end Go.Id

namespace Go.Id
open Go
def wholeBy (q:Rat) (B:Nat):Prop:=∃a:Int,q*(B:Rat)=(a:Rat)
theorem rat_mul_den (q:Rat):q*(q.den:Rat)=(q.num:Rat):=by
 have h:((q.num:Int):Rat) / (q.den:Rat)=q:=by
  have:=Rat.num_divInt_den q
  rw[Rat.divInt_eq_div] at this
  exact this
 have hd:(0:Rat)<(q.den:Rat):=Rat.natCast_pos.2 q.den_pos
 grind
theorem wholeBy_den {q:Rat} {B:Nat} (h:q.den∣B):wholeBy q B:=by
 obtain⟨k,rfl⟩:=h
 refine⟨q.num*k,?_⟩
 have h1:q*(q.den:Rat)=(q.num:Rat):=rat_mul_den q
 rw[Rat.natCast_mul,←Rat.mul_assoc,h1,Rat.intCast_mul];rfl
theorem wholeBy.mul {q:Rat} {B:Nat} (h:wholeBy q B) (k:Nat):wholeBy q (B*k):=by
 obtain⟨a,ha⟩:=h
 exact⟨a*k,by rw[Rat.natCast_mul,←Rat.mul_assoc,ha,Rat.intCast_mul];rfl⟩
theorem wholeBy.sub {q r:Rat} {B:Nat} (h:wholeBy q B) (k:wholeBy r B):wholeBy (q - r) B:=by
 obtain⟨a,ha⟩:=h
 obtain⟨b,hb⟩:=k
 exact⟨a - b,by rw[Rat.intCast_sub,←ha,←hb];grind⟩
theorem unit_parts {q:Rat} {B:Nat} (hB:0<B) (h0:0≤q) (h1:q≤1) (h:wholeBy q B):q.den∣B∧0≤q.num∧q.num≤q.den:=by
 have n0:0≤q.num:=Rat.num_nonneg.2 h0
 have n1:q.num≤q.den:=by
  have hd:(0:Rat)<(q.den:Rat):=Rat.natCast_pos.2 q.den_pos
  have e:q*(q.den:Rat)=(q.num:Rat):=rat_mul_den q
  have h2:q*(q.den:Rat)≤1*(q.den:Rat):=Rat.mul_le_mul_of_nonneg_right h1 (Rat.le_of_lt hd)
  rw[e,Rat.one_mul] at h2
  have:((q.num:Int):Rat)≤((q.den:Int):Rat):=h2
  exact Rat.intCast_le_intCast.1 this
 refine⟨?_,n0,n1⟩
 obtain⟨a,ha⟩:=h
 have hBr:(0:Rat)<(B:Rat):=Rat.natCast_pos.2 hB
 have a0:0≤a:=by
  have:(0:Rat)≤(a:Rat):=by rw[←ha];exact Rat.mul_nonneg h0 (Rat.le_of_lt hBr)
  exact_mod_cast this
 obtain⟨y,rfl⟩:=Int.eq_ofNat_of_zero_le a0
 obtain⟨m,_,_,e2⟩:=divInt_parts (y:=y) hB
 have hq:q=Rat.divInt (y:Nat) (B:Nat):=by
  rw[Rat.divInt_eq_div]
  have e1:((B:Int):Rat)=(B:Rat):=rfl
  have e2:(((y:Nat):Int):Rat)=q*(B:Rat):=ha.symm
  rw[e1,e2]
  grind
 rw[←hq] at e2
 exact⟨m,e2⟩
theorem qsum_nn : ∀(l:List Rat),(∀q∈l,0≤q)→0≤qsum l
 | [],_=>by show(0:Rat)≤0;exact Rat.le_refl
 | q :: l,h=>by
  have h1:=h q (by simp)
  have h2:=qsum_nn l fun x hx=>h x (by simp[hx])
  rw[qsum_cons]
  grind
theorem qsum_ge : ∀(l:List Rat),(∀q∈l,0≤q) → ∀q∈l,q≤qsum l
 | [],_,q,hq=>by cases hq
 | a :: l,h,q,hq=>by
  have h1:=h a (by simp)
  have h2:=qsum_nn l fun x hx=>h x (by simp[hx])
  rw[qsum_cons]
  rcases List.mem_cons.1 hq with rfl|hq
  ·grind
  ·have h3:=qsum_ge l (fun x hx=>h x (by simp[hx])) q hq
   grind
theorem filt_facts {ll:List (List (Nat×Nat))} {t:List Nat} (k:kerOk ll) (ht:t.length=ll.length) (hp : ∀p∈t,1≤wdI p) {i:Nat} (hi:i<ll.length):(∀q∈filtRow ll t i,0≤q)∧qsum (filtRow ll t i)=1∧(∀j,j<ll.length→0≤goQ ll t i j∧goQ ll t i j≤kAt ll i j):=by
 have hw : ∀i,i<ll.length→0<wrat (t.getD i 0):=fun i hi=>by
  have:=hp _ (List.getElem_mem (show i<t.length by omega))
  rw[List.getD_eq_getElem?_getD,List.getElem?_eq_getElem (by omega),Option.getD_some]
  unfold wrat
  exact Rat.intCast_pos.2 (by omega)
 have hk : ∀i j,i<ll.length→j<ll.length→0≤kAt ll i j:=fun i j hi hj=>by
  obtain⟨_,p,_,_,_,e4,e5,e6⟩:=kerOk_at k hi hj
  rw[e6]
  exact rOf_nn e4 e5
 have hg : ∀i j,i<ll.length→j<ll.length→0≤goQ ll t i j∧goQ ll t i j≤kAt ll i j:=fun i j hi hj=>by
  have h1:=hk i j hi hj
  have h2:=hk j i hj hi
  have w1:=hw i hi
  have w2:=hw j hj
  unfold goQ
  split
  ·rename_i c
   refine⟨?_,Rat.le_of_lt c⟩
   rw[Rat.div_def]
   exact Rat.mul_nonneg (Rat.mul_nonneg h2 (Rat.le_of_lt w2)) (Rat.le_of_lt (Rat.inv_pos.2 w1))
  ·exact⟨h1,Rat.le_refl⟩
 have hq : ∀i j,i<ll.length→j<ll.length→0≤filtQ ll t i j:=fun i j hi hj=>by
  unfold filtQ
  split
  ·have h1:=offS_mono (i:=i) (m:=ll.length) (g:=goQ ll t i) (k:=kAt ll i) fun j hj=>(hg i j hi hj).2
   have h2:=offS_sum (kAt ll i) i ll.length
   rw[row_kAt k hi,if_pos hi] at h2
   have h3:=hk i i hi hi
   grind
  ·exact(hg i j hi hj).1
 refine⟨fun q hq'=>?_,?_,fun j hj=>hg i j hi hj⟩
 ·obtain⟨j,hj⟩:=List.getElem?_of_mem hq'
  have hjl:=(List.getElem?_eq_some_iff.1 hj).1
  rw[filtRow_len] at hjl
  rw[filtRow_at hjl] at hj
  cases hj
  exact hq i j hi hjl
 ·have h1:=set_sum (goQ ll t i) (offS (goQ ll t i) i ll.length) i ll.length
  have h2:=offS_sum (goQ ll t i) i ll.length
  rw[if_pos hi] at h1 h2
  have e:filtRow ll t i=(List.range ll.length).map fun j=>if j=i then offS (goQ ll t i) i ll.length else goQ ll t i j:=rfl
  rw[e,h1]
  grind
theorem wholeBy.times {q:Rat} {B:Nat} (h:wholeBy q B) (x y:Nat) (hy:0<y):wholeBy (q*(x:Rat) / (y:Rat)) (B*y):=by
 obtain⟨a,ha⟩:=h
 refine⟨a*x,?_⟩
 have hy':(0:Rat)<(y:Rat):=Rat.natCast_pos.2 hy
 rw[Rat.natCast_mul,Rat.intCast_mul,←ha]
 show q*(x:Rat) / (y:Rat)*((B:Rat)*(y:Rat))=q*(B:Rat)*(x:Rat)
 grind
theorem offS_whole {g:Nat→Rat} {B i:Nat} : ∀{m:Nat},(∀j,j<m→wholeBy (g j) B)→wholeBy (offS g i m) B
 | 0,_=>⟨B,by rw[offS,Rat.one_mul];rfl⟩
 | m+1,h=>by
  have ih:=offS_whole (i:=i) (m:=m) fun j hj=>h j (by omega)
  rw[offS]
  split
  ·exact ih
  ·exact ih.sub (h m (by omega))
theorem filt_whole {ll:List (List (Nat×Nat))} {t:List Nat} {D:Nat} (hD : ∀i j,i<ll.length→j<ll.length→wholeBy (kAt ll i j) D) {T:Nat→Nat} (hT : ∀i,i<ll.length→0<T i∧wrat (t.getD i 0)=(T i:Rat)) {i:Nat} (hi:i<ll.length) : ∀q∈filtRow ll t i,wholeBy q (D*T i):=by
 have hg : ∀j,j<ll.length→wholeBy (goQ ll t i j) (D*T i):=fun j hj=>by
  unfold goQ
  split
  ·rw[(hT j hj).2,(hT i hi).2]
   exact(hD j i hj hi).times _ _ (hT i hi).1
  ·exact(hD i j hi hj).mul _
 intro q hq
 obtain⟨j,hj⟩:=List.getElem?_of_mem hq
 have hjl:=(List.getElem?_eq_some_iff.1 hj).1
 rw[filtRow_len] at hjl
 rw[filtRow_at hjl] at hj
 cases hj
 unfold filtQ
 split
 ·exact offS_whole hg
 ·exact hg j hjl
theorem unit_QW {q:Rat} {B:Nat} (hB:0<B) (hB2:B<H8) (h0:0≤q) (h1:q≤1) (h:wholeBy q B):QW q∧(shq q).2∣B∧(shq q).1≤(shq q).2∧0<(shq q).2:=by
 obtain⟨a,b,c⟩:=unit_parts hB h0 h1 h
 have h8:=H8_pos
 have hd:=Nat.le_of_dvd hB a
 have e1:(shq q).1=q.num.toNat:=by show wideN q.num=_;unfold wideN;rw[if_pos b]
 have e2:(shq q).2=q.den:=by show wideN (q.den:Int)=_;unfold wideN;rw[if_pos (by omega),Int.toNat_natCast]
 have dp:=q.den_pos
 refine⟨⟨⟨by omega,by omega⟩,⟨by omega,by omega⟩⟩,by rw[e2];exact a,by rw[e1,e2];omega,by rw[e2];exact dp⟩
def uniR (B:Nat) (l:List (Nat×Nat)):Prop:=0<B ∧ ∀p∈l,p.2∣B∧p.1≤p.2∧0<p.2
end Go.Id

namespace Go.Id
open Go
theorem draft_den : ∀(ll:List (List (Nat×Nat))),(∀x∈ll,∃S,smR S x) → ∃D,0<D∧D≤1000 ^ ll.length ∧ ∀x∈ll,∀p∈x,p.2∣D
 | [],_=>⟨1,by omega,by simp,fun x hx=>by cases hx⟩
 | l :: ll,h=>by
  obtain⟨D,h1,h2,h3⟩:=draft_den ll fun x hx=>h x (by simp[hx])
  obtain⟨S,s1,s2,s3⟩:=h l (by simp)
  refine⟨D*S,Nat.mul_pos h1 s1,?_,fun x hx p hp=>?_⟩
  ·rw[List.length_cons,Nat.pow_succ]
   exact Nat.mul_le_mul h2 s2
  ·rcases List.mem_cons.1 hx with rfl|hx
   ·exact Nat.dvd_trans (s3 p hp).2.2 (Nat.dvd_mul_left _ _)
   ·exact Nat.dvd_trans (h3 x hx p hp) (Nat.dvd_mul_right _ _)
def kerD (ll:List (List (Nat×Nat))):Prop:=kerOk ll∧ll.length≤4 ∧ ∃D,0<D∧D≤1000000000000 ∧ ∀i j,i<ll.length→j<ll.length→wholeBy (kAt ll i j) D
theorem draft_kerD {ll:List (List (Nat×Nat))} (l1:1≤ll.length) (l2:ll.length≤4) (hr : ∀x∈ll,x.length=ll.length∧rowS x):kerD ll:=by
 obtain⟨_,ok⟩:=kerS_ok (ll:=ll) (by omega) (by omega) (fun x hx=>hr x hx)
 obtain⟨D,h1,h2,h3⟩:=draft_den ll fun x hx=>(hr x hx).2.2.1
 refine⟨ok,l2,D,h1,Nat.le_trans h2 (Nat.le_trans (Nat.pow_le_pow_right (by omega) l2) (by decide)),fun i j hi hj=>?_⟩
 obtain⟨row,p,e1,e2,e3,e4,e5,e6⟩:=kerOk_at ok hi hj
 have hm:=List.mem_of_getElem? e1
 have hp:=List.mem_of_getElem? e3
 obtain⟨S,s1,s2,s3⟩:=(hr row hm).2.2.1
 have hS:=s3 p hp
 have hle:=Nat.le_of_dvd s1 hS.2.2
 rw[e6]
 refine wholeBy_den ?_
 have hd:=(rOf_parts e4).2
 rw[wdI_sm (by omega)] at hd
 have:(rOf p).den=p.2:=by omega
 rw[this]
 exact h3 row hm p hp
theorem H8_split {a b:Nat} (h:a+b=511):H8=2 ^ a*2 ^ b:=by rw[H8_pow,←Nat.pow_add,h]
theorem BB_lt {D T:Nat} (hD:D≤1000000000000) (hT:T≤9*2 ^ 240):60*(D*T)<H8:=by
 have e:=H8_split (a:=271) (b:=240) rfl
 rw[e]
 have h1:D*T≤1000000000000*(9*2 ^ 240):=Nat.mul_le_mul hD hT
 have h2:(2:Nat) ^ 50≤2 ^ 271:=pow2_le (a:=50) (b:=271) (by omega)
 have h3:(2:Nat) ^ 50=1125899906842624:=by decide
 have h4:0<2 ^ 240:=Nat.two_pow_pos 240
 generalize 2 ^ 240=X at *
 generalize 2 ^ 271=Y at *
 have h5:1125899906842624*X≤Y*X:=Nat.mul_le_mul_right _ (by omega)
 omega
theorem ladErr_ok {s lv:List Int} (h1:1≤s.length) (h2:s.length≤60) (h3 : ∀x∈s,0≤x∧x≤30) (l1:1≤lv.length) (l2:lv.length≤6) (l3 : ∀x∈lv,0≤x∧x≤8):ladErr s lv=0:=by
 unfold ladErr
 have o1:=any_out h3
 have o2:=any_out (most:=8) l3
 rw[if_neg]
 rintro(c|c|c|c|c|c)
 ·omega
 ·omega
 ·exact o1 c
 ·omega
 ·omega
 ·exact o2 c
def tauN (ws:List Nat) (s:List Int) (level:Int) (i:Nat):Nat:=(wdI (ws.getD i 0)).toNat*2 ^ ((maxL s - s.getD i 0)*level).toNat
theorem tau_b {ws:List Nat} {s:List Int} {level:Int} {i:Nat} (hw : ∀p∈ws,1≤wdI p∧wdI p≤9) (hs : ∀x∈s,0≤x∧x≤30) (hl:0≤level∧level≤8) (hi:i<ws.length) (hi2:i<s.length) :
  1≤tauN ws s level i∧tauN ws s level i≤9*2 ^ 240∧tgtZ s level i (ws.getD i 0)=(tauN ws s level i:Int):=by
 have h1:=hw _ (List.getElem_mem hi)
 have e1:ws.getD i 0=ws[i]:=by rw[List.getD_eq_getElem?_getD,List.getElem?_eq_getElem hi];rfl
 have h2:=hs _ (List.getElem_mem hi2)
 have e2:s.getD i 0=s[i]:=by rw[List.getD_eq_getElem?_getD,List.getElem?_eq_getElem hi2];rfl
 have h3:=hs _ (maxL_mem s (by rintro rfl;simp at hi2))
 have hb:((maxL s - s[i])*level).toNat≤240:=by
  have:=(mul_240 (p:=level) (q:=maxL s - s[i]) (by omega) (by omega)).2
  rw[Int.mul_comm]
  omega
 have hp:2 ^ ((maxL s - s[i])*level).toNat≤2 ^ 240:=pow2_le hb
 have h0:=Nat.two_pow_pos ((maxL s - s[i])*level).toNat
 unfold tauN tgtZ tgt
 rw[e1,e2]
 refine⟨Nat.mul_pos (by omega) h0,Nat.mul_le_mul (by omega) hp,?_⟩
 rw[Int.natCast_mul,Int.toNat_of_nonneg (by omega)]
theorem tau_H8 {T:Nat} (h:T≤9*2 ^ 240):T<H8:=by
 have:=BB_lt (D:=1) (T:=T) (by omega) h
 omega
theorem lev_draft {ll:List (List (Nat×Nat))} {ws:List Nat} {s:List Int} {level:Int} (k:kerD ll) (hws:ws.length=ll.length) (hsl:s.length=ll.length) (hw : ∀p∈ws,1≤wdI p∧wdI p≤9) (hs : ∀x∈s,0≤x∧x≤30) (hl:0≤level∧level≤8) :
  levE ll ws s level=0 ∧ ∀row∈kerL ll ws s level,∃B,uniR B row∧60*B<H8:=by
 obtain⟨ok,l4,D,D0,D1,hD⟩:=k
 have l1:=ok.1
 have tb : ∀i,i<ll.length→_:=fun i hi=>tau_b (i:=i) hw hs hl (by omega) (by omega)
 have inw : ∀i,i<ll.length→InW (tgtZ s level i (ws.getD i 0)):=fun i hi=>by
  obtain⟨a,b,c⟩:=tb i hi
  have:=tau_H8 b
  rw[c]
  exact⟨by omega,by omega⟩
 have lt:(mapZ (tgtZ s level) ws ws.length).length=ll.length:=by rw[mapZ_len,hws]
 have at_ : ∀i,i<ll.length→(mapZ (tgtZ s level) ws ws.length)[i]?=some (wideN (tgtZ s level i (ws.getD i 0))):=fun i hi=>by
  rw[mapZ,List.getElem?_map,List.getElem?_range (by omega)];rfl
 have wd : ∀i,i<ll.length→wdI (wideN (tgtZ s level i (ws.getD i 0)))=(tauN ws s level i:Int):=fun i hi=>by rw[wdI_wideN (inw i hi)];exact(tb i hi).2.2
 have hp : ∀p∈mapZ (tgtZ s level) ws ws.length,1≤wdI p:=fun p hp=>by
  obtain⟨i,hi⟩:=List.getElem?_of_mem hp
  have hil:=(List.getElem?_eq_some_iff.1 hi).1
  rw[lt] at hil
  rw[at_ i hil] at hi
  cases hi
  rw[wd i hil]
  have:=(tb i hil).1
  omega
 have hT : ∀i,i<ll.length→0<tauN ws s level i∧wrat ((mapZ (tgtZ s level) ws ws.length).getD i 0)=(tauN ws s level i:Rat):=fun i hi=>by
  refine⟨(tb i hi).1,?_⟩
  rw[List.getD_eq_getElem?_getD,at_ i hi,Option.getD_some]
  unfold wrat
  rw[wd i hi];rfl
 have hB : ∀i,i<ll.length→0<D*tauN ws s level i∧60*(D*tauN ws s level i)<H8:=fun i hi=>⟨Nat.mul_pos D0 (tb i hi).1,BB_lt D1 (tb i hi).2.1⟩
 have hq : ∀i,i<ll.length → ∀q∈filtRow ll (mapZ (tgtZ s level) ws ws.length) i,QW q∧(shq q).2∣D*tauN ws s level i∧(shq q).1≤(shq q).2∧0<(shq q).2:=fun i hi q hq=>by
  obtain⟨f1,f2,_⟩:=filt_facts ok lt hp hi
  have f3:=qsum_ge _ f1 q hq
  rw[f2] at f3
  have:=hB i hi
  exact unit_QW (hB i hi).1 (by omega) (f1 q hq) f3 (filt_whole hD hT hi q hq)
 have fo:filtOk ll (mapZ (tgtZ s level) ws ws.length):=fun i hi q hq'=>(hq i hi q hq').1
 refine⟨?_,fun row hrow=>?_⟩
 ·unfold levE
  rw[if_neg (fun x=>x ok)]
  have te:tgErr ws s level=0:=by
   unfold tgErr
   rw[if_neg (fun x=>x (ladErr_ok (by omega) (by omega) hs (by simp) (by simp) (fun x hx=>by rw[List.mem_singleton.1 hx];exact hl))),if_neg,if_pos]
   ·exact fun j hj=>inw j (by omega)
   ·rintro(c|c)
    ·omega
    ·exact c fun n hn=>(hw n hn).1
  rw[te,if_neg (fun x=>x rfl),if_neg (by omega)]
  unfold filtE
  rw[if_neg (fun x=>x ok),if_neg,if_pos fo]
  rintro(c|⟨p,h1,h2⟩)
  ·exact c lt
  ·have:=hp p h1
   omega
 ·obtain⟨i,hi⟩:=List.getElem?_of_mem hrow
  have hil:=(List.getElem?_eq_some_iff.1 hi).1
  unfold kerL at hil hi
  rw[filtLL_len] at hil
  rw[filtLL_at hil] at hi
  cases hi
  refine⟨D*tauN ws s level i,⟨(hB i hil).1,fun p hp=>?_⟩,(hB i hil).2⟩
  obtain⟨q,hq',rfl⟩:=List.mem_map.1 hp
  exact(hq i hil q hq').2
end Go.Id

namespace Go.Id
open Go
end Go.Id

namespace Go.Id
open Go
theorem back_same {a b x y:Rat} (hx:0<x) (hy:0<y):(if a*x / y<b then a*x / y else b)*y / x=(if b*y / x<a then b*y / x else a):=by
 have k1:a*x / y<b↔a*x<b*y:=by rw[Rat.div_lt_iff hy]
 have k2:b*y / x<a↔b*y<a*x:=by rw[Rat.div_lt_iff hx]
 simp only[k1,k2]
 by_cases c1:a*x<b*y
 ·rw[if_pos c1,if_neg (by grind)]
  grind
 ·rw[if_neg c1]
  by_cases c2:b*y<a*x
  ·rw[if_pos c2]
  ·rw[if_neg c2]
   have e:b*y=a*x:=by grind
   rw[e]
   grind
theorem kAt_filt {ll:List (List (Nat×Nat))} {t:List Nat} (ho:filtOk ll t) {i j:Nat} (hi:i<ll.length) (hj:j<ll.length):kAt (filtLL ll t) i j=filtQ ll t i j:=by
 have hq:=ho i hi _ (List.mem_of_getElem? (filtRow_at (ll:=ll) (t:=t) (i:=i) hj))
 unfold kAt
 rw[List.getD_eq_getElem?_getD,List.getD_eq_getElem?_getD,filtLL_at hi,Option.getD_some,List.getElem?_map,filtRow_at hj]
 exact(shq_rOf hq).1
theorem levE_parts {ll:List (List (Nat×Nat))} {ws:List Nat} {s:List Int} {lev:Int} (h:levE ll ws s lev=0):tgErr ws s lev=0∧filtE ll (mapZ (tgtZ s lev) ws ws.length)=0:=by
 unfold levE at h
 split at h
 ·omega
 split at h
 ·omega
 rename_i ht
 split at h
 ·omega
 exact⟨Classical.not_not.1 ht,h⟩
theorem filtE_parts {ll:List (List (Nat×Nat))} {t:List Nat} (h:filtE ll t=0):kerOk ll∧t.length=ll.length∧(∀p∈t,1≤wdI p)∧filtOk ll t:=by
 unfold filtE at h
 split at h
 ·omega
 rename_i hk
 split at h
 ·omega
 rename_i hc
 split at h
 ·rename_i ho
  refine⟨Classical.not_not.1 hk,Classical.byContradiction fun hn=>hc (.inl hn),fun p hp=>?_,ho⟩
  apply Classical.byContradiction
  intro hn
  exact hc (.inr ⟨p,hp,by omega⟩)
 ·omega
end Go.Id

namespace Go.Id
open Go
theorem rev_pairs {ll:List (List (Nat×Nat))} {t:List Nat} (ht:t.length=ll.length) (hp : ∀p∈t,1≤wdI p) (ho:filtOk ll t) (i j:Nat) (hi:i<ll.length) (hj:j<i) :
  wrat (t.getD i 0)*kAt (filtLL ll t) i j=wrat (t.getD j 0)*kAt (filtLL ll t) j i:=by
 have hw : ∀i,i<ll.length→0<wrat (t.getD i 0):=fun i hi=>by
  have:=hp _ (List.getElem_mem (show i<t.length by omega))
  rw[List.getD_eq_getElem?_getD,List.getElem?_eq_getElem (by omega),Option.getD_some]
  unfold wrat
  exact Rat.intCast_pos.2 (by omega)
 have wi:=hw i hi
 have wj:=hw j (by omega)
 have e:kAt (filtLL ll t) j i*wrat (t.getD j 0) / wrat (t.getD i 0)=kAt (filtLL ll t) i j:=by
  rw[kAt_filt ho hi (by omega),kAt_filt ho (by omega) hi]
  unfold filtQ
  rw[if_neg (by omega),if_neg (by omega)]
  exact back_same wi wj
 rw[←e]
 grind
theorem wideN_nat (n:Nat):wideN (n:Int)=n:=by unfold wideN;rw[if_pos (by omega),Int.toNat_natCast]
theorem H8_three {a b c:Nat} (h:a+b+c=511):H8=2 ^ a*2 ^ b*2 ^ c:=by rw[H8_pow,←Nat.pow_add,←Nat.pow_add,h]
theorem tau2_lt {S T:Nat} (hS:S≤9*2 ^ 240) (hT:T≤9*2 ^ 240):S*T<H8:=by
 have e:=H8_three (a:=31) (b:=240) (c:=240) rfl
 rw[e]
 have h1:S*T≤(9*2 ^ 240)*(9*2 ^ 240):=Nat.mul_le_mul hS hT
 have h2:(2:Nat) ^ 31=2147483648:=by decide
 have h4:0<2 ^ 240:=Nat.two_pow_pos 240
 rw[h2]
 generalize 2 ^ 240=X at *
 have h5:0<X*X:=Nat.mul_pos h4 h4
 have h6:9*X*(9*X)=81*(X*X):=by grind
 have h7:2147483648*X*X=2147483648*(X*X):=by grind
 omega
theorem divInt_QW {u k:Nat} (hu:u<H8) (hk:k≤240):QW (Rat.divInt (u:Int) ((2 ^ k:Nat):Int)):=by
 have hS:0<2 ^ k:=Nat.two_pow_pos k
 obtain⟨m,m0,e1,e2⟩:=divInt_parts (y:=u) hS
 have hk2:2 ^ k<H8:=tau_H8 (Nat.le_trans (pow2_le hk) (by omega))
 have d1:(Rat.divInt (u:Int) ((2 ^ k:Nat):Int)).den≤2 ^ k:=by
  have:=Nat.le_mul_of_pos_right (Rat.divInt (u:Int) ((2 ^ k:Nat):Int)).den m0
  rw[←e2] at this
  exact this
 have hn:0≤(Rat.divInt (u:Int) ((2 ^ k:Nat):Int)).num:=by
  apply Classical.byContradiction
  intro hn
  have:(Rat.divInt (u:Int) ((2 ^ k:Nat):Int)).num*m<0:=Int.mul_neg_of_neg_of_pos (by omega) (by omega)
  omega
 have d2:(Rat.divInt (u:Int) ((2 ^ k:Nat):Int)).num≤u:=by
  have h1:(Rat.divInt (u:Int) ((2 ^ k:Nat):Int)).num*1≤(Rat.divInt (u:Int) ((2 ^ k:Nat):Int)).num*m:=Int.mul_le_mul_of_nonneg_left (by omega) hn
  omega
 exact⟨⟨by omega,by omega⟩,⟨by omega,by omega⟩⟩
theorem mul_exq (u k:Nat):Rat.divInt (u:Int) 1*exq k=Rat.divInt (u:Int) ((2 ^ k:Nat):Int):=by
 unfold exq
 rw[Rat.divInt_mul_divInt,Int.mul_one,Int.one_mul]
theorem exchange_even {ws:List Nat} {s:List Int} {a b:Int} {x y:Nat} (hs : ∀n∈s,0≤n∧n≤30) (ha:0≤a∧a≤8) (hb:0≤b∧b≤8) (hx:x<s.length) (hy:y<s.length) :
  Rat.divInt ((tauN ws s a x*tauN ws s b y:Nat):Int) ((2 ^ chK s a b x y:Nat):Int)=Rat.divInt ((tauN ws s a y*tauN ws s b x:Nat):Int) ((2 ^ chK s a b y x:Nat):Int):=by
 have p1:((2 ^ chK s a b x y:Nat):Int)≠0:=by have:=Nat.two_pow_pos (chK s a b x y);omega
 have p2:((2 ^ chK s a b y x:Nat):Int)≠0:=by have:=Nat.two_pow_pos (chK s a b y x);omega
 rw[Rat.divInt_eq_divInt_iff p1 p2,←Int.natCast_mul,←Int.natCast_mul]
 congr 1
 have g : ∀i,i<s.length→0≤maxL s - s.getD i 0:=fun i hi=>by
  have:=le_maxL s _ (List.getElem_mem hi)
  rw[List.getD_eq_getElem?_getD,List.getElem?_eq_getElem hi,Option.getD_some]
  omega
 have gx:=g x hx
 have gy:=g y hy
 have h1:=Int.mul_nonneg gx ha.1
 have h2:=Int.mul_nonneg gx hb.1
 have h3:=Int.mul_nonneg gy ha.1
 have h4:=Int.mul_nonneg gy hb.1
 unfold tauN chK
 have ee:(maxL s - s.getD x 0)*a+(maxL s - s.getD y 0)*b+(a - b)*(s.getD x 0 - s.getD y 0)=(maxL s - s.getD y 0)*a+(maxL s - s.getD x 0)*b:=by grind
 have e3:(a - b)*(s.getD y 0 - s.getD x 0) = -((a - b)*(s.getD x 0 - s.getD y 0)):=by grind
 rw[e3]
 generalize (a - b)*(s.getD x 0 - s.getD y 0)=e at *
 generalize (maxL s - s.getD x 0)*a=A at *
 generalize (maxL s - s.getD y 0)*b=B at *
 generalize (maxL s - s.getD y 0)*a=C at *
 generalize (maxL s - s.getD x 0)*b=D at *
 have key:A.toNat+B.toNat+(- -e).toNat=C.toNat+D.toNat+(-e).toNat:=by omega
 have k1:2 ^ A.toNat*2 ^ B.toNat*2 ^ (- -e).toNat=2 ^ C.toNat*2 ^ D.toNat*2 ^ (-e).toNat:=by rw[←Nat.pow_add,←Nat.pow_add,←Nat.pow_add,←Nat.pow_add,key]
 generalize 2 ^ A.toNat=EA at *
 generalize 2 ^ B.toNat=EB at *
 generalize 2 ^ C.toNat=EC at *
 generalize 2 ^ D.toNat=ED at *
 generalize 2 ^ (- -e).toNat=E1 at *
 generalize 2 ^ (-e).toNat=E2 at *
 generalize (wdI (ws.getD x 0)).toNat=wx
 generalize (wdI (ws.getD y 0)).toNat=wy
 have:wx*EA*(wy*EB)*E1=wx*wy*(EA*EB*E1):=by grind
 rw[this,k1]
 grind
end Go.Id

namespace Go.Id
end Go.Id

namespace Go.Id
open Go
end Go.Id

namespace Go.Id
open Go
end Go.Id

namespace Go.Id
open Go
section
variable {h hh:IH} {fr:Fr} {sz bx bc s:Nat} {vN vS vL vA vR vQ:Value} {lN lS lL lA:List Nat}
end
end Go.Id

namespace Go.Id
open Go
section
variable {h hh:IH} {fr:Fr} {sz bx x1 x2 x3:Nat} {vN vS vL vA vR vQ:Value} {lN lS lL lA:List Nat}
end
end Go.Id

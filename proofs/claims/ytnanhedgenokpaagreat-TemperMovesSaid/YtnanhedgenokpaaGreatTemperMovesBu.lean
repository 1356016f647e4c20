/-
  The statement TemperTargets, on the ideal machine. The statement TemperLevels, on the ideal machine.
-/
import Derived.Test.YtnanhedgenokpaaGreatTemperMovesBi
import Derived.Test.YtnanhedgenokpaaGreatTemperMovesBp
import Derived.Test.YtnanhedgenokpaaGreatTemperMovesBf
import Derived.Test.YtnanhedgenokpaaGreatTemperMovesBr
import Derived.Test.YtnanhedgenokpaaGreatTemperMovesBt
import Derived.Test.YtnanhedgenokpaaGreatTemperMovesBg
import Init
import Derived.Test.YtnanhedgenokpaaGreatTemperMovesBc
set_option linter.unusedVariables false
set_option linter.unusedSimpArgs false
set_option linter.defProp false
set_option linter.deprecated false
namespace Go.Id
open Go
structure TLf (fr:Fr) (w v14 v17:Value) (a b i j:Int) (bx:Nat):Prop where
 f1:ah fr 1=some w
 f2:ah fr 2=some (KI a)
 f3:ah fr 3=some (KI b)
 f4:ah fr 4=some (KI i)
 f5:ah fr 5=some (KI j)
 f6:ah fr 6=some (ptr (2*bx) 0)
 f14:ah fr 14=some v14
 f17:ah fr 17=some v17
section
variable {h hh:IH} {fr:Fr} {sz bx:Nat} {vN vS vL vA vR vQ w:Value} {lN lS lL lA ws:List Nat} {lR lQ:List Int} {a b i j:Int}
end
end Go.Id

namespace Go.Id
open Go
structure LVf (fr:Fr) (w:Value) (l:Int) (bx bb:Nat):Prop where
 f2:ah fr 2=some w
 f3:ah fr 3=some (KI l)
 f4:ah fr 4=some (ptr (2*bx) 0)
 f5:ah fr 5=some (ptr (2*bb) 0)
section
variable {h hh:IH} {fr:Fr} {sz bx bb:Nat} {vN vS vL vA vR vQ w:Value} {lN lS lL lA ws:List Nat} {lR lQ:List Int} {l:Int}
end
end Go.Id

namespace Go.Id
open Go

noncomputable abbrev US:Code:=Proofs.Tryz.f3.body.getD .skip
structure RDf (fr:Fr) (vr:Value) (bx bb bc:Nat):Prop where
 f3:ah fr 3=some vr
 f4:ah fr 4=some (ptr (2*bx) 0)
 f5:ah fr 5=some (ptr (2*bb) 0)
 f6:ah fr 6=some (ptr (2*bc) 0)
section
variable {h hh:IH} {fr:Fr} {sz bx bb bc s:Nat} {vN vS vL vA vR vQ vr:Value} {lN lS lL lA ws:List Nat} {lR lQ lr:List Int}
end
end Go.Id

namespace Go.Id
open Go
def dD (q:Rat) (B:Nat):Prop:=∃a:Int,q*(B:Rat)=(a:Rat)
theorem ur (q:Rat):q*(q.den:Rat)=(q.num:Rat):=by
 have h:((q.num:Int):Rat) / (q.den:Rat)=q:=by
  have:=Rat.num_divInt_den q
  rw[Rat.divInt_eq_div] at this
  exact this
 have hd:(0:Rat)<(q.den:Rat):=Rat.natCast_pos.2 q.den_pos
 grind
theorem Cb {q:Rat} {B:Nat} (h:q.den∣B):dD q B:=by
 obtain⟨k,rfl⟩:=h
 refine⟨q.num*k,?_⟩
 have h1:q*(q.den:Rat)=(q.num:Rat):=ur q
 rw[Rat.natCast_mul,←Rat.mul_assoc,h1,Rat.intCast_mul];rfl
theorem dD.mul {q:Rat} {B:Nat} (h:dD q B) (k:Nat):dD q (B*k):=by
 obtain⟨a,ha⟩:=h
 exact⟨a*k,by rw[Rat.natCast_mul,←Rat.mul_assoc,ha,Rat.intCast_mul];rfl⟩
theorem dD.sub {q r:Rat} {B:Nat} (h:dD q B) (k:dD r B):dD (q - r) B:=by
 obtain⟨a,ha⟩:=h
 obtain⟨b,hb⟩:=k
 exact⟨a - b,by rw[Rat.intCast_sub,←ha,←hb];grind⟩
theorem El {q:Rat} {B:Nat} (hB:0<B) (h0:0≤q) (h1:q≤1) (h:dD q B):q.den∣B∧0≤q.num∧q.num≤q.den:=by
 have n0:0≤q.num:=Rat.num_nonneg.2 h0
 have n1:q.num≤q.den:=by
  have hd:(0:Rat)<(q.den:Rat):=Rat.natCast_pos.2 q.den_pos
  have e:q*(q.den:Rat)=(q.num:Rat):=ur q
  have h2:q*(q.den:Rat)≤1*(q.den:Rat):=Rat.mul_le_mul_of_nonneg_right h1 (Rat.le_of_lt hd)
  rw[e,Rat.one_mul] at h2
  have:((q.num:Int):Rat)≤((q.den:Int):Rat):=h2
  exact Rat.intCast_le_intCast.1 this
 refine⟨?_,n0,n1⟩
 obtain⟨a,ha⟩:=h
 have hBr:(0:Rat)<(B:Rat):=Rat.natCast_pos.2 hB
 have a0:0≤a:=by
  have:(0:Rat)≤(a:Rat):=by rw[←ha];exact Rat.mul_nonneg h0 (Rat.le_of_lt hBr)
  exact_mod_cast this
 obtain⟨y,rfl⟩:=Int.eq_ofNat_of_zero_le a0
 obtain⟨m,_,_,e2⟩:=sP (y:=y) hB
 have hq:q=Rat.divInt (y:Nat) (B:Nat):=by
  rw[Rat.divInt_eq_div]
  have e1:((B:Int):Rat)=(B:Rat):=rfl
  have e2:(((y:Nat):Int):Rat)=q*(B:Rat):=ha.symm
  rw[e1,e2]
  grind
 rw[←hq] at e2
 exact⟨m,e2⟩
theorem Gr : ∀(l:List Rat),(∀q∈l,0≤q)→0≤fJ l
 | [],_=>by show(0:Rat)≤0;exact Rat.le_refl
 | q :: l,h=>by
  have h1:=h q (by simp)
  have h2:=Gr l fun x hx=>h x (by simp[hx])
  rw[tE]
  grind
theorem Gs : ∀(l:List Rat),(∀q∈l,0≤q) → ∀q∈l,q≤fJ l
 | [],_,q,hq=>by cases hq
 | a :: l,h,q,hq=>by
  have h1:=h a (by simp)
  have h2:=Gr l fun x hx=>h x (by simp[hx])
  rw[tE]
  rcases List.mem_cons.1 hq with rfl|hq
  ·grind
  ·have h3:=Gs l (fun x hx=>h x (by simp[hx])) q hq
   grind
theorem Fz {ll:List (List (Nat×Nat))} {t:List Nat} (k:fL ll) (ht:t.length=ll.length) (hp : ∀p∈t,1≤wdI p) {i:Nat} (hi:i<ll.length):(∀q∈dA ll t i,0≤q)∧fJ (dA ll t i)=1∧(∀j,j<ll.length→0≤goQ ll t i j∧goQ ll t i j≤kAt ll i j):=by
 have hw : ∀i,i<ll.length→0<kY (t.getD i 0):=fun i hi=>by
  have:=hp _ (List.getElem_mem (show i<t.length by omega))
  rw[List.getD_eq_getElem?_getD,List.getElem?_eq_getElem (by omega),Option.getD_some]
  unfold kY
  exact Rat.intCast_pos.2 (by omega)
 have hk : ∀i j,i<ll.length→j<ll.length→0≤kAt ll i j:=fun i j hi hj=>by
  obtain⟨_,p,_,_,_,e4,e5,e6⟩:=j5 k hi hj
  rw[e6]
  exact Kh e4 e5
 have hg : ∀i j,i<ll.length→j<ll.length→0≤goQ ll t i j∧goQ ll t i j≤kAt ll i j:=fun i j hi hj=>by
  have h1:=hk i j hi hj
  have h2:=hk j i hj hi
  have w1:=hw i hi
  have w2:=hw j hj
  unfold goQ
  split
  ·rename_i c
   refine⟨?_,Rat.le_of_lt c⟩
   rw[Rat.div_def]
   exact Rat.mul_nonneg (Rat.mul_nonneg h2 (Rat.le_of_lt w2)) (Rat.le_of_lt (Rat.inv_pos.2 w1))
  ·exact⟨h1,Rat.le_refl⟩
 have hq : ∀i j,i<ll.length→j<ll.length→0≤oU ll t i j:=fun i j hi hj=>by
  unfold oU
  split
  ·have h1:=tH (i:=i) (m:=ll.length) (g:=goQ ll t i) (k:=kAt ll i) fun j hj=>(hg i j hi hj).2
   have h2:=oI (kAt ll i) i ll.length
   rw[Gl k hi,if_pos hi] at h2
   have h3:=hk i i hi hi
   grind
  ·exact(hg i j hi hj).1
 refine⟨fun q hq'=>?_,?_,fun j hj=>hg i j hi hj⟩
 ·obtain⟨j,hj⟩:=List.getElem?_of_mem hq'
  have hjl:=(List.getElem?_eq_some_iff.1 hj).1
  rw[eK] at hjl
  rw[nu hjl] at hj
  cases hj
  exact hq i j hi hjl
 ·have h1:=AZ (goQ ll t i) (im (goQ ll t i) i ll.length) i ll.length
  have h2:=oI (goQ ll t i) i ll.length
  rw[if_pos hi] at h1 h2
  have e:dA ll t i=(List.range ll.length).map fun j=>if j=i then im (goQ ll t i) i ll.length else goQ ll t i j:=rfl
  rw[e,h1]
  grind
theorem dD.times {q:Rat} {B:Nat} (h:dD q B) (x y:Nat) (hy:0<y):dD (q*(x:Rat) / (y:Rat)) (B*y):=by
 obtain⟨a,ha⟩:=h
 refine⟨a*x,?_⟩
 have hy':(0:Rat)<(y:Rat):=Rat.natCast_pos.2 hy
 rw[Rat.natCast_mul,Rat.intCast_mul,←ha]
 show q*(x:Rat) / (y:Rat)*((B:Rat)*(y:Rat))=q*(B:Rat)*(x:Rat)
 grind
theorem wX {g:Nat→Rat} {B i:Nat} : ∀{m:Nat},(∀j,j<m→dD (g j) B)→dD (im g i m) B
 | 0,_=>⟨B,by rw[im,Rat.one_mul];rfl⟩
 | m+1,h=>by
  have ih:=wX (i:=i) (m:=m) fun j hj=>h j (by omega)
  rw[im]
  split
  ·exact ih
  ·exact ih.sub (h m (by omega))
theorem Fx {ll:List (List (Nat×Nat))} {t:List Nat} {D:Nat} (hD : ∀i j,i<ll.length→j<ll.length→dD (kAt ll i j) D) {T:Nat→Nat} (hT : ∀i,i<ll.length→0<T i∧kY (t.getD i 0)=(T i:Rat)) {i:Nat} (hi:i<ll.length) : ∀q∈dA ll t i,dD q (D*T i):=by
 have hg : ∀j,j<ll.length→dD (goQ ll t i j) (D*T i):=fun j hj=>by
  unfold goQ
  split
  ·rw[(hT j hj).2,(hT i hi).2]
   exact(hD j i hj hi).times _ _ (hT i hi).1
  ·exact(hD i j hi hj).mul _
 intro q hq
 obtain⟨j,hj⟩:=List.getElem?_of_mem hq
 have hjl:=(List.getElem?_eq_some_iff.1 hj).1
 rw[eK] at hjl
 rw[nu hjl] at hj
 cases hj
 unfold oU
 split
 ·exact wX hg
 ·exact hg j hjl
theorem MV {q:Rat} {B:Nat} (hB:0<B) (hB2:B<H8) (h0:0≤q) (h1:q≤1) (h:dD q B):QW q∧(shq q).2∣B∧(shq q).1≤(shq q).2∧0<(shq q).2:=by
 obtain⟨a,b,c⟩:=El hB h0 h1 h
 have h8:=jg
 have hd:=Nat.le_of_dvd hB a
 have e1:(shq q).1=q.num.toNat:=by show aU q.num=_;unfold aU;rw[if_pos b]
 have e2:(shq q).2=q.den:=by show aU (q.den:Int)=_;unfold aU;rw[if_pos (by omega),Int.toNat_natCast]
 have dp:=q.den_pos
 refine⟨⟨⟨by omega,by omega⟩,⟨by omega,by omega⟩⟩,by rw[e2];exact a,by rw[e1,e2];omega,by rw[e2];exact dp⟩
def MX (B:Nat) (l:List (Nat×Nat)):Prop:=0<B ∧ ∀p∈l,p.2∣B∧p.1≤p.2∧0<p.2
theorem JF {B:Nat} {l:List (Nat×Nat)} (h:MX B l) {i:Nat} (hi:i≤l.length):jZ l i∣B:=by
 induction i with
 | zero=>exact Nat.one_dvd _
 | succ i ih =>
  obtain⟨p,hp⟩ : ∃p,l[i]?=some p:=⟨_,List.getElem?_eq_getElem hi⟩
  rw[pG hp]
  exact Nat.lcm_dvd (ih (by omega)) (h.2 p (List.mem_of_getElem? hp)).1
theorem JG {B:Nat} {l:List (Nat×Nat)} (h:MX B l) : ∀w∈wL l,w≤B:=fun w hw=>by
 obtain⟨p,hp,rfl⟩:=List.mem_map.1 hw
 have h1:=h.2 p hp
 have h2:=Nat.le_of_dvd h.1 (JF h (Nat.le_refl l.length))
 have h3:p.2*(jZ l l.length / p.2)≤jZ l l.length:=Nat.mul_div_le _ _
 have h4:p.1*(jZ l l.length / p.2)≤p.2*(jZ l l.length / p.2):=Nat.mul_le_mul_right _ h1.2.1
 omega
theorem MW {B:Nat} {l:List (Nat×Nat)} (h:MX B l) (hB:60*B<H8) (hl:l.length≤60) (ro:gJ l) (hw : ∀p∈l,p.1<W8∧p.2<W8) {s:Nat} (hs:s<18446744073709551616) :
  (mvF l s).2.2=9∨((mvF l s).2.2=0 ∧ ∃p,l[(mvF l s).1]?=some p∧0<p.1):=by
 have hf:=JG h
 have wf:Ek l:=fun w hw=>by have:=hf w hw;have:=h.1;omega
 obtain⟨nn,sp⟩:=tB ro hw
 have sb:cE (wL l) (wL l).length<H8:=by
  have:=PW hf (Nat.le_refl (wL l).length)
  rw[AQ] at this ⊢
  have h2:l.length*B≤60*B:=Nat.mul_le_mul_right _ hl
  omega
 unfold mvF
 rw[if_pos wf]
 unfold oC
 rw[if_pos sb]
 rcases hd:jj (cE (wL l) (wL l).length) s with _|⟨u,t⟩
 ·exact .inl rfl
 ·right
  refine⟨rfl,?_⟩
  have hu:=(oV sp hs hd).1
  obtain⟨h1,h2⟩:=zC hu
  show ∃p,l[kE (wL l) u (wL l).length 0]?=some p∧0<p.1
  obtain⟨y,hy⟩ : ∃y,y=kE (wL l) u (wL l).length 0:=⟨_,rfl⟩
  rw[←hy] at h1 h2 ⊢
  rw[AQ] at h1
  obtain⟨q,hq⟩ : ∃q,l[y]?=some q:=⟨_,List.getElem?_eq_getElem h1⟩
  refine⟨q,hq,?_⟩
  rw[List.getD_eq_getElem?_getD,OJ hq] at h2
  exact Nat.pos_of_mul_pos_right (by simpa using h2)
end Go.Id

namespace Go.Id
open Go
theorem Ab : ∀(ll:List (List (Nat×Nat))),(∀x∈ll,∃S,smR S x) → ∃D,0<D∧D≤1000 ^ ll.length ∧ ∀x∈ll,∀p∈x,p.2∣D
 | [],_=>⟨1,by omega,by simp,fun x hx=>by cases hx⟩
 | l :: ll,h=>by
  obtain⟨D,h1,h2,h3⟩:=Ab ll fun x hx=>h x (by simp[hx])
  obtain⟨S,s1,s2,s3⟩:=h l (by simp)
  refine⟨D*S,Nat.mul_pos h1 s1,?_,fun x hx p hp=>?_⟩
  ·rw[List.length_cons,Nat.pow_succ]
   exact Nat.mul_le_mul h2 s2
  ·rcases List.mem_cons.1 hx with rfl|hx
   ·exact Nat.dvd_trans (s3 p hp).2.2 (Nat.dvd_mul_left _ _)
   ·exact Nat.dvd_trans (h3 x hx p hp) (Nat.dvd_mul_right _ _)
def KX (ll:List (List (Nat×Nat))):Prop:=fL ll∧ll.length≤4 ∧ ∃D,0<D∧D≤1000000000000 ∧ ∀i j,i<ll.length→j<ll.length→dD (kAt ll i j) D
theorem xP {ll:List (List (Nat×Nat))} (l1:1≤ll.length) (l2:ll.length≤4) (hr : ∀x∈ll,x.length=ll.length∧EF x):KX ll:=by
 obtain⟨_,ok⟩:=NS (ll:=ll) (by omega) (by omega) (fun x hx=>hr x hx)
 obtain⟨D,h1,h2,h3⟩:=Ab ll fun x hx=>(hr x hx).2.2.1
 refine⟨ok,l2,D,h1,Nat.le_trans h2 (Nat.le_trans (Nat.pow_le_pow_right (by omega) l2) (by decide)),fun i j hi hj=>?_⟩
 obtain⟨row,p,e1,e2,e3,e4,e5,e6⟩:=j5 ok hi hj
 have hm:=List.mem_of_getElem? e1
 have hp:=List.mem_of_getElem? e3
 obtain⟨S,s1,s2,s3⟩:=(hr row hm).2.2.1
 have hS:=s3 p hp
 have hle:=Nat.le_of_dvd s1 hS.2.2
 rw[e6]
 refine Cb ?_
 have hd:=(iH e4).2
 rw[PQ (by omega)] at hd
 have:(rOf p).den=p.2:=by omega
 rw[this]
 exact h3 row hm p hp
theorem MH {a b:Nat} (h:a+b=511):H8=2 ^ a*2 ^ b:=by rw[BT,←Nat.pow_add,h]
theorem PH {D T:Nat} (hD:D≤1000000000000) (hT:T≤9*2 ^ 240):60*(D*T)<H8:=by
 have e:=MH (a:=271) (b:=240) rfl
 rw[e]
 have h1:D*T≤1000000000000*(9*2 ^ 240):=Nat.mul_le_mul hD hT
 have h2:(2:Nat) ^ 50≤2 ^ 271:=Bb (a:=50) (b:=271) (by omega)
 have h3:(2:Nat) ^ 50=1125899906842624:=by decide
 have h4:0<2 ^ 240:=Nat.two_pow_pos 240
 generalize 2 ^ 240=X at *
 generalize 2 ^ 271=Y at *
 have h5:1125899906842624*X≤Y*X:=Nat.mul_le_mul_right _ (by omega)
 omega
theorem zP {s lv:List Int} (h1:1≤s.length) (h2:s.length≤60) (h3 : ∀x∈s,0≤x∧x≤30) (l1:1≤lv.length) (l2:lv.length≤6) (l3 : ∀x∈lv,0≤x∧x≤8):fF s lv=0:=by
 unfold fF
 have o1:=tk h3
 have o2:=tk (most:=8) l3
 rw[if_neg]
 rintro(c|c|c|c|c|c)
 ·omega
 ·omega
 ·exact o1 c
 ·omega
 ·omega
 ·exact o2 c
def vZ (ws:List Nat) (s:List Int) (level:Int) (i:Nat):Nat:=(wdI (ws.getD i 0)).toNat*2 ^ ((me s - s.getD i 0)*level).toNat
theorem Rp {ws:List Nat} {s:List Int} {level:Int} {i:Nat} (hw : ∀p∈ws,1≤wdI p∧wdI p≤9) (hs : ∀x∈s,0≤x∧x≤30) (hl:0≤level∧level≤8) (hi:i<ws.length) (hi2:i<s.length) :
  1≤vZ ws s level i∧vZ ws s level i≤9*2 ^ 240∧jo s level i (ws.getD i 0)=(vZ ws s level i:Int):=by
 have h1:=hw _ (List.getElem_mem hi)
 have e1:ws.getD i 0=ws[i]:=by rw[List.getD_eq_getElem?_getD,List.getElem?_eq_getElem hi];rfl
 have h2:=hs _ (List.getElem_mem hi2)
 have e2:s.getD i 0=s[i]:=by rw[List.getD_eq_getElem?_getD,List.getElem?_eq_getElem hi2];rfl
 have h3:=hs _ (C7 s (by rintro rfl;simp at hi2))
 have hb:((me s - s[i])*level).toNat≤240:=by
  have:=(Be (p:=level) (q:=me s - s[i]) (by omega) (by omega)).2
  rw[Int.mul_comm]
  omega
 have hp:2 ^ ((me s - s[i])*level).toNat≤2 ^ 240:=Bb hb
 have h0:=Nat.two_pow_pos ((me s - s[i])*level).toNat
 unfold vZ jo tgt
 rw[e1,e2]
 refine⟨Nat.mul_pos (by omega) h0,Nat.mul_le_mul (by omega) hp,?_⟩
 rw[Int.natCast_mul,Int.toNat_of_nonneg (by omega)]
theorem PU {T:Nat} (h:T≤9*2 ^ 240):T<H8:=by
 have:=PH (D:=1) (T:=T) (by omega) h
 omega
theorem tJ {ll:List (List (Nat×Nat))} {ws:List Nat} {s:List Int} {level:Int} (k:KX ll) (hws:ws.length=ll.length) (hsl:s.length=ll.length) (hw : ∀p∈ws,1≤wdI p∧wdI p≤9) (hs : ∀x∈s,0≤x∧x≤30) (hl:0≤level∧level≤8) :
  gN ll ws s level=0 ∧ ∀row∈pT ll ws s level,∃B,MX B row∧60*B<H8:=by
 obtain⟨ok,l4,D,D0,D1,hD⟩:=k
 have l1:=ok.1
 have tb : ∀i,i<ll.length→_:=fun i hi=>Rp (i:=i) hw hs hl (by omega) (by omega)
 have inw : ∀i,i<ll.length→InW (jo s level i (ws.getD i 0)):=fun i hi=>by
  obtain⟨a,b,c⟩:=tb i hi
  have:=PU b
  rw[c]
  exact⟨by omega,by omega⟩
 have lt:(jv (jo s level) ws ws.length).length=ll.length:=by rw[xd,hws]
 have at_ : ∀i,i<ll.length→(jv (jo s level) ws ws.length)[i]?=some (aU (jo s level i (ws.getD i 0))):=fun i hi=>by
  rw[jv,List.getElem?_map,List.getElem?_range (by omega)];rfl
 have wd : ∀i,i<ll.length→wdI (aU (jo s level i (ws.getD i 0)))=(vZ ws s level i:Int):=fun i hi=>by rw[cK (inw i hi)];exact(tb i hi).2.2
 have hp : ∀p∈jv (jo s level) ws ws.length,1≤wdI p:=fun p hp=>by
  obtain⟨i,hi⟩:=List.getElem?_of_mem hp
  have hil:=(List.getElem?_eq_some_iff.1 hi).1
  rw[lt] at hil
  rw[at_ i hil] at hi
  cases hi
  rw[wd i hil]
  have:=(tb i hil).1
  omega
 have hT : ∀i,i<ll.length→0<vZ ws s level i∧kY ((jv (jo s level) ws ws.length).getD i 0)=(vZ ws s level i:Rat):=fun i hi=>by
  refine⟨(tb i hi).1,?_⟩
  rw[List.getD_eq_getElem?_getD,at_ i hi,Option.getD_some]
  unfold kY
  rw[wd i hi];rfl
 have hB : ∀i,i<ll.length→0<D*vZ ws s level i∧60*(D*vZ ws s level i)<H8:=fun i hi=>⟨Nat.mul_pos D0 (tb i hi).1,PH D1 (tb i hi).2.1⟩
 have hq : ∀i,i<ll.length → ∀q∈dA ll (jv (jo s level) ws ws.length) i,QW q∧(shq q).2∣D*vZ ws s level i∧(shq q).1≤(shq q).2∧0<(shq q).2:=fun i hi q hq=>by
  obtain⟨f1,f2,_⟩:=Fz ok lt hp hi
  have f3:=Gs _ f1 q hq
  rw[f2] at f3
  have:=hB i hi
  exact MV (hB i hi).1 (by omega) (f1 q hq) f3 (Fx hD hT hi q hq)
 have fo:xJ ll (jv (jo s level) ws ws.length):=fun i hi q hq'=>(hq i hi q hq').1
 refine⟨?_,fun row dE=>?_⟩
 ·unfold gN
  rw[if_neg (fun x=>x ok)]
  have te:nI ws s level=0:=by
   unfold nI
   rw[if_neg (fun x=>x (zP (by omega) (by omega) hs (by simp) (by simp) (fun x hx=>by rw[List.mem_singleton.1 hx];exact hl))),if_neg,if_pos]
   ·exact fun j hj=>inw j (by omega)
   ·rintro(c|c)
    ·omega
    ·exact c fun n hn=>(hw n hn).1
  rw[te,if_neg (fun x=>x rfl),if_neg (by omega)]
  unfold kF
  rw[if_neg (fun x=>x ok),if_neg,if_pos fo]
  rintro(c|⟨p,h1,h2⟩)
  ·exact c lt
  ·have:=hp p h1
   omega
 ·obtain⟨i,hi⟩:=List.getElem?_of_mem dE
  have hil:=(List.getElem?_eq_some_iff.1 hi).1
  unfold pT at hil hi
  rw[gh] at hil
  rw[zY hil] at hi
  cases hi
  refine⟨D*vZ ws s level i,⟨(hB i hil).1,fun p hp=>?_⟩,(hB i hil).2⟩
  obtain⟨q,hq',rfl⟩:=List.mem_map.1 hp
  exact(hq i hil q hq').2
end Go.Id

namespace Go.Id
open Go
theorem zH {rows:Nat→List (Nat×Nat)} {N:Nat} {P:Nat→Nat→Prop} (hP : ∀i s,i<N→s<18446744073709551616→(mvF (rows i) s).2.2=9∨((mvF (rows i) s).2.2=0∧P i (mvF (rows i) s).1∧(mvF (rows i) s).2.1<18446744073709551616)) :
  ∀(m i:Nat) (p:List Nat) (s:Nat),i+m=N→p.length=i→(∀j,j<i→P j (p.getD j 0))→s<18446744073709551616 →
   mvT rows m i p s=([],0,9) ∨ ∃p' s',mvT rows m i p s=(p',s',0)∧p'.length=N∧(∀j,j<N→P j (p'.getD j 0))∧s'<18446744073709551616
 | 0,i,p,s,him,hl,hp,hs=>.inr ⟨p,s,rfl,by omega,fun j hj=>hp j (by omega),hs⟩
 | m+1,i,p,s,him,hl,hp,hs=>by
  rw[mvT]
  rcases hP i s (by omega) hs with h|⟨h1,h2,h3⟩
  ·left
   rw[h,if_pos (by decide)]
  ·rw[if_neg (fun x=>x h1)]
   refine zH hP m (i+1) _ _ (by omega) (by simp[hl]) (fun j hj=>?_) h3
   rw[zX,hl]
   by_cases c:j=i
   ·subst c;rw[if_pos rfl];exact h2
   ·rw[if_neg c];exact hp j (by omega)
theorem FH {k:Nat} (hk:k≤240) (c:Nat):(mM (shq (exq k)) c).2.2=9∨(mM (shq (exq k)) c).2.2=0:=by
 have qw:=BF hk
 obtain⟨e1,e2⟩:=z9 k
 have hok:=(rN qw).2
 have h1:wdI (shq (exq k)).1=1:=by rw[show wdI (shq (exq k)).1=(exq k).num from cK qw.1,e1]
 have h2:1≤wdI (shq (exq k)).2:=by
  rw[show wdI (shq (exq k)).2=((exq k).den:Int) from cK qw.2]
  have:=(exq k).den_pos
  omega
 unfold mM
 rw[if_neg (fun x=>x hok),if_neg (by omega)]
 split
 ·exact .inl rfl
 ·exact .inr rfl
theorem IV {s lv:List Int} {p:List Nat} {c:Nat} (hs : ∀x∈s,0≤x∧x≤30) (hl : ∀x∈lv,0≤x∧x≤8) (hp:p.length=lv.length) (hx : ∀x∈p,x<s.length) :
  exF s lv p c=([],0,0,9) ∨ ∃q sw c',exF s lv p c=(q,sw,c',0)∧((sw = -1∧q=p) ∨ ∃k:Nat,k+1<lv.length∧sw=k∧q=fl p k):=by
 unfold exF
 by_cases h1:p.length<2
 ·rw[if_pos h1]
  exact .inr ⟨p,-1,c,rfl,.inl ⟨rfl,rfl⟩⟩
 rw[if_neg h1]
 rcases hb:jd (p.length - 1) TR c with _|⟨k,c2⟩
 ·exact .inl rfl
 obtain⟨hk,_⟩:=ub (by omega) hb
 have ga : ∀j,j<lv.length→lv.getD j 0∈lv:=fun j hj=>by
  rw[List.getD_eq_getElem?_getD,List.getElem?_eq_getElem hj];exact List.getElem_mem hj
 have gp : ∀j,j<p.length→p.getD j 0∈p:=fun j hj=>by
  rw[List.getD_eq_getElem?_getD,List.getElem?_eq_getElem hj];exact List.getElem_mem hj
 have kb:=FK (hl _ (ga k (by omega))) (hl _ (ga (k+1) (by omega))) hs (hx _ (gp k (by omega))) (hx _ (gp (k+1) (by omega)))
 have cd:=FH kb c2
 simp only
 generalize mM (shq (exq (chK s (lv.getD k 0) (lv.getD (k+1) 0) (p.getD k 0) (p.getD (k+1) 0)))) c2=C at cd
 rcases cd with h|h
 ·left
  rw[h,if_pos (by decide)]
 ·right
  rw[if_neg (fun x=>x h)]
  by_cases hC:C.1=false
  ·rw[if_pos hC]
   exact⟨p,-1,_,rfl,.inl ⟨rfl,rfl⟩⟩
  ·rw[if_neg hC]
   exact⟨fl p k,k,_,rfl,.inr ⟨k,by omega,rfl,rfl⟩⟩
def rowAt (ll:List (List (Nat×Nat))) (ws:List Nat) (s lv st:List Int) (i:Nat):List (Nat×Nat):=(pT ll ws s (lv.getD i 0)).getD (st.getD i 0).toNat []
theorem Ii {ll:List (List (Nat×Nat))} {ws:List Nat} {s lv st:List Int} {c:Nat} (k:KX ll) (hws:ws.length=ll.length) (hsl:s.length=ll.length) (hw : ∀p∈ws,1≤wdI p∧wdI p≤9) (hs : ∀x∈s,0≤x∧x≤30) (l1:1≤lv.length) (l2:lv.length≤6) (hl : ∀x∈lv,0≤x∧x≤8) (ht:st.length=lv.length) (hst : ∀x∈st,0≤x∧x<ll.length) (hc:c<18446744073709551616) :
  yG ll ws s lv st c=([],0,0,9) ∨ ∃p q sw c',yG ll ws s lv st c=(q,sw,c',0)∧p.length=lv.length∧((sw = -1∧q=p) ∨ ∃k:Nat,k+1<lv.length∧sw=k∧q=fl p k) ∧ ∀j,j<lv.length → ∃pr,(rowAt ll ws s lv st j)[p.getD j 0]?=some pr∧0<rOf pr:=by
 have ok:=k.1
 have lvl : ∀a∈lv,_:=fun a ha=>tJ k hws hsl hw hs (hl a ha)
 have ga : ∀j,j<lv.length→lv.getD j 0∈lv:=fun j hj=>by
  rw[List.getD_eq_getElem?_getD,List.getElem?_eq_getElem hj];exact List.getElem_mem hj
 have gs : ∀j,j<lv.length→st.getD j 0∈st:=fun j hj=>by
  rw[List.getD_eq_getElem?_getD,List.getElem?_eq_getElem (by omega)];exact List.getElem_mem _
 have hr : ∀j,j<lv.length→(pT ll ws s (lv.getD j 0))[(st.getD j 0).toNat]?=some (rowAt ll ws s lv st j):=fun j hj=>by
  have h1:=hst _ (gs j hj)
  have h2:=(mC (lvl _ (ga j hj)).1).2.1
  unfold rowAt
  rw[List.getD_eq_getElem?_getD (l:=pT ll ws s (lv.getD j 0)),List.getElem?_eq_getElem (by omega)];rfl
 have rl : ∀j,j<lv.length→(rowAt ll ws s lv st j).length=ll.length∧gJ (rowAt ll ws s lv st j):=fun j hj=>by
  obtain⟨h1,h2,_⟩:=mC (lvl _ (ga j hj)).1
  have:=h1.2.2 _ (List.mem_of_getElem? (hr j hj))
  rw[h2] at this
  exact this
 have hw8 : ∀i,i<lv.length → ∀p∈rowAt ll ws s lv st i,p.1<H8∧p.1<W8∧p.2<W8:=fun i hi p hp=>by
  obtain⟨B,u,b⟩:=(lvl _ (ga i hi)).2 _ (List.mem_of_getElem? (hr i hi))
  obtain⟨u1,u2,u3⟩:=u.2 p hp
  have:=Nat.le_of_dvd u.1 u1
  have:=bV
  exact⟨by omega,by omega,by omega⟩
 have hP : ∀i z,i<lv.length→z<18446744073709551616→(mvF (rowAt ll ws s lv st i) z).2.2=9∨((mvF (rowAt ll ws s lv st i) z).2.2=0∧(∃pr,(rowAt ll ws s lv st i)[(mvF (rowAt ll ws s lv st i) z).1]?=some pr∧0<rOf pr)∧(mvF (rowAt ll ws s lv st i) z).2.1<18446744073709551616):=fun i z hi hz=>by
  obtain⟨B,u,b⟩:=(lvl _ (ga i hi)).2 _ (List.mem_of_getElem? (hr i hi))
  have:=k.2.1
  obtain⟨a1,a2⟩:=rl i hi
  rcases MW u b (by omega) a2 (fun p hp=>(hw8 i hi p hp).2) hz with h|⟨h1,pr,h2,h3⟩
  ·exact .inl h
  ·refine .inr ⟨h1,⟨pr,h2,?_⟩,(O2 a2 (fun p hp=>(hw8 i hi p hp).2) hz).1⟩
   have hm:=List.mem_of_getElem? h2
   obtain⟨g1,_⟩:=oJ (a2.1 pr hm)
   have e:=(iH g1).1
   rw[gX (hw8 i hi pr hm).1] at e
   have g2:0≤rOf pr:=Rat.num_nonneg.1 (by rw[e];omega)
   have g3:rOf pr≠0:=fun z=>by
    rw[z] at e
    have:(0:Rat).num=0:=rfl
    omega
   grind
 unfold yG
 rw[if_neg (fun x=>x ok),if_neg (fun x=>x (zP (by have:=ok.1;omega) (by have:=k.2.1;omega) hs l1 l2 hl)),if_neg (fun x=>x (Db fun j b _ hb=>(lvl b (List.mem_of_getElem? hb)).1)),if_neg]
 case hnc =>
  rintro(x|x)
  ·exact x ht
  ·exact tk (most:=(ll.length:Int) - 1) (fun y hy=>by have:=hst y hy;omega) x
 simp only
 rcases zH (rows:=fun i=>(pT ll ws s (lv.getD i 0)).getD (st.getD i 0).toNat []) (N:=lv.length) (P:=fun i x => ∃pr,(rowAt ll ws s lv st i)[x]?=some pr∧0<rOf pr) hP lv.length 0 [] c (by omega) rfl (fun j hj=>by omega) hc with h|⟨p,c',h,hl',hpk,hc'⟩
 ·left
  rw[h,if_pos (by decide)]
 ·rw[h,if_neg (fun x=>x rfl)]
  have hx : ∀x∈p,x<s.length:=fun x hx=>by
   obtain⟨j,hj⟩:=List.getElem?_of_mem hx
   have hjl:=(List.getElem?_eq_some_iff.1 hj).1
   obtain⟨pr,h1,_⟩:=hpk j (by omega)
   rw[List.getD_eq_getElem?_getD,hj,Option.getD_some] at h1
   have:=(List.getElem?_eq_some_iff.1 h1).1
   have:=(rl j (by omega)).1
   omega
  rcases IV (s:=s) (lv:=lv) (p:=p) (c:=c') hs hl hl' hx with h|⟨q,sw,c2,h,hq⟩
  ·exact .inl h
  ·exact .inr ⟨p,q,sw,c2,h,hl',hq,hpk⟩
end Go.Id

namespace Go.Id
open Go
theorem xg {ll:List (List (Nat×Nat))} {ws:List Nat} {s:List Int} {lev:Int} (h:gN ll ws s lev=0):nI ws s lev=0∧kF ll (jv (jo s lev) ws ws.length)=0:=by
 unfold gN at h
 split at h
 ·omega
 split at h
 ·omega
 rename_i ht
 split at h
 ·omega
 exact⟨Classical.not_not.1 ht,h⟩
end Go.Id

namespace Go.Id
end Go.Id

namespace Go.Id
open Go
end Go.Id

namespace Go.Id
open Go
end Go.Id

/-
  A filtered kernel is a kernel. Contracts: law 33: Bend.of, Of.
-/
import Derived.Test.YtnanhedgenokpaaGreatTemperFlatBs
import Derived.Test.YtnanhedgenokpaaGreatTemperFlatBr
import Derived.Test.YtnanhedgenokpaaGreatTemperFlatBq
import Derived.Test.YtnanhedgenokpaaGreatTemperFlatBj
import Derived.Test.YtnanhedgenokpaaGreatTemperFlatBe
import Derived.Test.YtnanhedgenokpaaGreatTemperFlatBp
import Derived.Test.YtnanhedgenokpaaGreatTemperFlatBk
import Derived.Test.YtnanhedgenokpaaGreatTemperFlatBl
import Derived.Test.YtnanhedgenokpaaGreatTemperFlatBo
import Init
import Derived.Test.YtnanhedgenokpaaGreatTemperFlatAt
import Derived.Test.YtnanhedgenokpaaGreatTemperFlatBf
import Derived.Test.YtnanhedgenokpaaGreatTemperFlatBb
set_option linter.unusedVariables false
set_option linter.unusedSimpArgs false
set_option linter.defProp false
set_option linter.deprecated false
namespace Go.Id
open Go
theorem rOf_nn {p:Nat×Nat} (h:okS p.1 p.2) (h0:0≤wdI p.1):0≤rOf p:=Rat.num_nonneg.1 (by rw[(rOf_parts h).1];exact h0)
theorem offS_sum (g:Nat→Rat) (i:Nat) : ∀m,offS g i m+qsum ((List.range m).map g)=1+if i<m then g i else 0
 | 0=>by
  rw[offS,if_neg (by omega)]
  show(1:Rat)+0=1+0
  rfl
 | m+1=>by
  have ih:=offS_sum g i m
  rw[List.range_succ,List.map_append,List.map_cons,List.map_nil,qsum_snoc,offS]
  by_cases c:m=i
  ·subst c
   rw[if_pos rfl,if_pos (by omega)]
   rw[if_neg (by omega)] at ih
   grind
  ·rw[if_neg c]
   by_cases c2:i<m
   ·rw[if_pos (show i<m+1 by omega)]
    rw[if_pos c2] at ih
    grind
   ·rw[if_neg (show ¬i<m+1 by omega)]
    rw[if_neg c2] at ih
    grind
theorem set_sum (g:Nat→Rat) (A:Rat) (i:Nat) : ∀m,qsum ((List.range m).map fun j=>if j=i then A else g j)=qsum ((List.range m).map g)+if i<m then A - g i else 0
 | 0=>by
  rw[if_neg (by omega)]
  exact(Rat.add_zero _).symm
 | m+1=>by
  have ih:=set_sum g A i m
  rw[List.range_succ,List.map_append,List.map_append,List.map_cons,List.map_nil,List.map_cons,List.map_nil,qsum_snoc,qsum_snoc,ih]
  by_cases c:m=i
  ·subst c
   rw[if_pos rfl,if_pos (show m<m+1 by omega),if_neg (show ¬m<m by omega)]
   grind
  ·rw[if_neg c]
   by_cases c2:i<m
   ·rw[if_pos (show i<m+1 by omega),if_pos c2]
    grind
   ·rw[if_neg (show ¬i<m+1 by omega),if_neg c2]
    grind
theorem offS_mono {g k:Nat→Rat} {i:Nat} : ∀{m:Nat},(∀j,j<m→g j≤k j)→offS k i m≤offS g i m
 | 0,_=>Rat.le_refl
 | m+1,h=>by
  have ih:=offS_mono (i:=i) (m:=m) fun j hj=>h j (by omega)
  have h1:=h m (by omega)
  rw[offS,offS]
  split
  ·exact ih
  ·grind
theorem row_kAt {ll:List (List (Nat×Nat))} (k:kerOk ll) {i:Nat} (hi:i<ll.length):qsum ((List.range ll.length).map (kAt ll i))=1:=by
 obtain⟨h1,h2⟩:=k.2.2 _ (List.getElem_mem hi)
 rw[←h2.2]
 congr 1
 refine List.ext_getElem? fun j=>?_
 rw[List.getElem?_map,List.getElem?_map]
 by_cases hj:j<ll.length
 ·obtain⟨row,p,e1,e2,e3,_,_,e6⟩:=kerOk_at k hi hj
  rw[List.getElem?_eq_getElem hi] at e1
  cases e1
  rw[List.getElem?_range hj,e3]
  exact congrArg some e6
 ·rw[List.getElem?_eq_none (by simp;omega),List.getElem?_eq_none (by omega)];rfl
theorem filt_kerOk {ll:List (List (Nat×Nat))} {t:List Nat} (k:kerOk ll) (ht:t.length=ll.length) (hp : ∀p∈t,1≤wdI p) (ho:filtOk ll t):kerOk (filtLL ll t):=by
 have hw : ∀i,i<ll.length→0<wrat (t.getD i 0):=fun i hi=>by
  have:=hp _ (List.getElem_mem (show i<t.length by omega))
  rw[List.getD_eq_getElem?_getD,List.getElem?_eq_getElem (by omega),Option.getD_some]
  unfold wrat
  exact Rat.intCast_pos.2 (by omega)
 have hk : ∀i j,i<ll.length→j<ll.length→0≤kAt ll i j:=fun i j hi hj=>by
  obtain⟨_,p,_,_,_,e4,e5,e6⟩:=kerOk_at k hi hj
  rw[e6]
  exact rOf_nn e4 e5
 have hg : ∀i j,i<ll.length→j<ll.length→0≤goQ ll t i j∧goQ ll t i j≤kAt ll i j:=fun i j hi hj=>by
  have h1:=hk i j hi hj
  have h2:=hk j i hj hi
  have w1:=hw i hi
  have w2:=hw j hj
  unfold goQ
  split
  ·rename_i c
   refine⟨?_,Rat.le_of_lt c⟩
   rw[Rat.div_def]
   exact Rat.mul_nonneg (Rat.mul_nonneg h2 (Rat.le_of_lt w2)) (Rat.le_of_lt (Rat.inv_pos.2 w1))
  ·exact⟨h1,Rat.le_refl⟩
 have hq : ∀i j,i<ll.length→j<ll.length→0≤filtQ ll t i j:=fun i j hi hj=>by
  unfold filtQ
  split
  ·have h1:=offS_mono (i:=i) (m:=ll.length) (g:=goQ ll t i) (k:=kAt ll i) fun j hj=>(hg i j hi hj).2
   have h2:=offS_sum (kAt ll i) i ll.length
   rw[row_kAt k hi,if_pos hi] at h2
   have h3:=hk i i hi hi
   grind
  ·exact(hg i j hi hj).1
 have hs : ∀i,i<ll.length→qsum (filtRow ll t i)=1:=fun i hi=>by
  have h1:=set_sum (goQ ll t i) (offS (goQ ll t i) i ll.length) i ll.length
  have h2:=offS_sum (goQ ll t i) i ll.length
  rw[if_pos hi] at h1 h2
  have e:filtRow ll t i=(List.range ll.length).map fun j=>if j=i then offS (goQ ll t i) i ll.length else goQ ll t i j:=rfl
  rw[e,h1]
  grind
 refine⟨by rw[filtLL_len];exact k.1,by rw[filtLL_len];exact k.2.1,fun l hl=>?_⟩
 obtain⟨i,hi,rfl⟩:=List.mem_map.1 hl
 have hi:=List.mem_range.1 hi
 have qw:=ho i hi
 refine⟨by rw[List.length_map,filtRow_len,filtLL_len],fun p hp=>?_,?_⟩
 ·obtain⟨q,hq',rfl⟩:=List.mem_map.1 hp
  have h1:=(shq_rOf (qw q hq')).2
  obtain⟨j,hj⟩:=List.getElem?_of_mem hq'
  have hjl:=(List.getElem?_eq_some_iff.1 hj).1
  rw[filtRow_len] at hjl
  rw[filtRow_at hjl] at hj
  cases hj
  have h2:=hq i j hi hjl
  rintro(c|c)
  ·exact c h1
  ·rw[show wdI (shq (filtQ ll t i j)).1=(filtQ ll t i j).num from wdI_wideN (qw _ hq').1] at c
   have:=Rat.num_nonneg.2 h2
   omega
 ·rw[List.map_map,show((filtRow ll t i).map (rOf ∘ shq))=filtRow ll t i from ?_]
  ·exact hs i hi
  ·refine(List.map_congr_left fun q hq'=>(shq_rOf (qw q hq')).1).trans (List.map_id _)
end Go.Id

namespace Go.Id
open Go
end Go.Id

namespace Go.Id
open Go
end Go.Id

namespace Go.Id
open Go
theorem qsum_fold (l:List Rat) (a:Rat):l.foldl (· + ·) a=a+qsum l:=by
 induction l generalizing a with
 | nil=>exact(Rat.add_zero a).symm
 | cons b l ih =>
  show l.foldl (· + ·) (a+b)=a+l.foldl (· + ·) (0+b)
  rw[ih,ih,Rat.zero_add,Rat.add_assoc]
theorem qsum_cons (q:Rat) (l:List Rat):qsum (q :: l)=q+qsum l:=by
 show l.foldl (· + ·) (0+q)=_
 rw[qsum_fold,Rat.zero_add]
end Go.Id

namespace Go.Id
open Go
end Go.Id

namespace Go.Id
open Go
end Go.Id

namespace Go.Id
open Go
end Go.Id

namespace Go.Id
open Go
end Go.Id

namespace Go.Id
open Go
def kerL (ll:List (List (Nat×Nat))) (ws:List Nat) (s:List Int) (lev:Int):List (List (Nat×Nat)):=filtLL ll (mapZ (tgtZ s lev) ws ws.length)
theorem levE_zero {ll:List (List (Nat×Nat))} {ws:List Nat} {s:List Int} {lev:Int} (h:levE ll ws s lev=0):kerOk (kerL ll ws s lev)∧(kerL ll ws s lev).length=ll.length∧s.length=ll.length:=by
 unfold levE at h
 split at h
 ·omega
 rename_i hk
 have hk:=Classical.not_not.1 hk
 split at h
 ·omega
 split at h
 ·omega
 rename_i hs
 unfold filtE at h
 rw[if_neg (fun x=>x hk)] at h
 split at h
 ·omega
 rename_i hc
 split at h
 ·rename_i ho
  refine⟨filt_kerOk hk (Classical.byContradiction fun hn=>hc (.inl hn)) (fun p hp=>?_) ho,filtLL_len _ _,by omega⟩
  apply Classical.byContradiction
  intro hn
  exact hc (.inr ⟨p,hp,by omega⟩)
 ·omega
theorem any_out {most:Int} {l:List Int} (h : ∀x∈l,0≤x∧x≤most) : ¬l.any (outB most)=true:=fun hn=>by
 obtain⟨x,hx,hb⟩:=List.any_eq_true.1 hn
 have:=h x hx
 simp[outB] at hb
 omega
theorem chanceRes_ok {s:List Int} {a b:Int} {x y:Nat} (h1:1≤s.length) (h2:s.length≤60) (h3 : ∀x∈s,0≤x∧x≤30) (ha:0≤a∧a≤8) (hb:0≤b∧b≤8) (hx:x<s.length) (hy:y<s.length):chanceRes s a b x y=.tuple #[shareV (exq (chK s a b x y)),KI 0]:=by
 have e:ladErr s [a,b]=0:=by
  unfold ladErr
  have o1:=any_out h3
  have o2:=any_out (most:=8) (l:=[a,b]) fun z hz=>by
   rcases List.mem_cons.1 hz with rfl|hz
   ·exact ha
   ·rw[List.mem_singleton.1 hz];exact hb
  rw[if_neg]
  rintro(c|c|c|c|c|c)
  ·omega
  ·omega
  ·exact o1 c
  ·simp at c
  ·simp at c
  ·exact o2 c
 unfold chanceRes
 rw[if_neg (fun h=>h e),if_neg (by omega),Int.toNat_natCast,Int.toNat_natCast]
end Go.Id

namespace Go.Id
open Go
end Go.Id

namespace Go.Id
open Go
end Go.Id

namespace Go.Id
open Go
structure Reps (H:IH) (n1:Nat) (ks:List Nat) (lv:List Int) (kvs:List Value) (at_:Nat→Nat):Prop where
 len:ks.length=kvs.length
 asc : ∀(i j a b:Nat),i<j→ks[i]?=some a→ks[j]?=some b→a<b
 get : ∀(j k:Nat),ks[j]?=some k→n1≤k∧k<H.n ∧ ∃kv,kvs[j]?=some kv∧H.ext.get k=some (.cells [KI (lv.getD j 0),kv,KN (at_ j)] 0 none)
end Go.Id

namespace Go.Id
open Go
def pk (k:Nat):Value:=ptr (2*k) 0
structure RdA (h H:IH) (c b18:Nat) (ll:List (List (Nat×Nat))) (ws:List Nat) (s lv:List Int) (i:Nat) (cpv:Value) (ks:List Nat) (kvs:List Value) (n1:Nat):Prop where
 e:Ext h H
 g11:H.ext.get h.n=some (.cells [K64 c] 0 none)
 g12:H.ext.get (h.n+1)=some (.cells [.slice none 0 0] 0 none)
 g13:H.ext.get (h.n+2)=some (.cells [KI 0] 0 none)
 g14:H.ext.get (h.n+3)=some (.cells [.int .u64 0] 0 none)
 g15:H.ext.get (h.n+4)=some (.cells [KI 0] 0 none)
 bn:h.n+4<b18∧b18<n1∧n1≤H.n
 g18:H.ext.get b18=some (.cells [cpv] 0 none)
 acc:Acc H h.n 1 cpv i (ks.map pk)
 rep:Reps H n1 ks lv kvs (fun _=>0)
 ker : ∀(j:Nat) b,j<i→lv[j]?=some b → ∃kv',kvs[j]?=some kv'∧ShLs H kv' (kerL ll ws s b)∧levE ll ws s b=0
structure RdB (h H:IH) (ci b18:Nat) (sw:Int) (lv:List Int) (cpv:Value) (ks:List Nat) (kvs:List Value) (n1:Nat) (f:Nat→Nat):Prop where
 e:Ext h H
 g11:H.ext.get h.n=some (.cells [K64 ci] 0 none)
 g12:H.ext.get (h.n+1)=some (.cells [.slice none 0 0] 0 none)
 g13:H.ext.get (h.n+2)=some (.cells [KI sw] 0 none)
 g14:H.ext.get (h.n+3)=some (.cells [.int .u64 0] 0 none)
 g15:H.ext.get (h.n+4)=some (.cells [KI 0] 0 none)
 bn:h.n+4<b18∧b18<n1∧n1≤H.n
 g18:H.ext.get b18=some (.cells [cpv] 0 none)
 acc:Acc H h.n 1 cpv lv.length (ks.map pk)
 rep:Reps H n1 ks lv kvs f
end Go.Id

namespace Go.Id
open Go
noncomputable def tb34:FuncId→Option (List Value→Option Value):=tbOf [(10,okT)]
noncomputable abbrev QG:IExit→Fr→IH→Prop:=retK Proofs.Tryz.prog [.tmp 12] fun r _=>r=.bool true
structure TLf (fr:Fr) (w v14 v17:Value) (a b i j:Int) (bx:Nat):Prop where
 f1:fget fr 1=some w
 f2:fget fr 2=some (KI a)
 f3:fget fr 3=some (KI b)
 f4:fget fr 4=some (KI i)
 f5:fget fr 5=some (KI j)
 f6:fget fr 6=some (ptr (2*bx) 0)
 f14:fget fr 14=some v14
 f17:fget fr 17=some v17
section
variable {h hh:IH} {fr:Fr} {sz bx:Nat} {vN vS vL vA vR vQ w:Value} {lN lS lL lA ws:List Nat} {lR lQ:List Int} {a b i j:Int}
end
end Go.Id

namespace Go.Id
open Go
structure LVf (fr:Fr) (w:Value) (l:Int) (bx bb:Nat):Prop where
 f2:fget fr 2=some w
 f3:fget fr 3=some (KI l)
 f4:fget fr 4=some (ptr (2*bx) 0)
 f5:fget fr 5=some (ptr (2*bb) 0)
section
variable {h hh:IH} {fr:Fr} {sz bx bb:Nat} {vN vS vL vA vR vQ w:Value} {lN lS lL lA ws:List Nat} {lR lQ:List Int} {l:Int}
end
end Go.Id

namespace Go.Id
open Go

noncomputable abbrev bodyRd:Code:=Proofs.Tryz.f3.body.getD .skip
structure RDf (fr:Fr) (vr:Value) (bx bb bc:Nat):Prop where
 f3:fget fr 3=some vr
 f4:fget fr 4=some (ptr (2*bx) 0)
 f5:fget fr 5=some (ptr (2*bb) 0)
 f6:fget fr 6=some (ptr (2*bc) 0)
section
variable {h hh:IH} {fr:Fr} {sz bx bb bc s:Nat} {vN vS vL vA vR vQ vr:Value} {lN lS lL lA ws:List Nat} {lR lQ lr:List Int}
end
end Go.Id

namespace Go.Id
open Go
def wholeBy (q:Rat) (B:Nat):Prop:=∃a:Int,q*(B:Rat)=(a:Rat)
theorem rat_mul_den (q:Rat):q*(q.den:Rat)=(q.num:Rat):=by
 have h:((q.num:Int):Rat) / (q.den:Rat)=q:=by
  have:=Rat.num_divInt_den q
  rw[Rat.divInt_eq_div] at this
  exact this
 have hd:(0:Rat)<(q.den:Rat):=Rat.natCast_pos.2 q.den_pos
 grind
theorem wholeBy_den {q:Rat} {B:Nat} (h:q.den∣B):wholeBy q B:=by
 obtain⟨k,rfl⟩:=h
 refine⟨q.num*k,?_⟩
 have h1:q*(q.den:Rat)=(q.num:Rat):=rat_mul_den q
 rw[Rat.natCast_mul,←Rat.mul_assoc,h1,Rat.intCast_mul];rfl
theorem wholeBy.mul {q:Rat} {B:Nat} (h:wholeBy q B) (k:Nat):wholeBy q (B*k):=by
 obtain⟨a,ha⟩:=h
 exact⟨a*k,by rw[Rat.natCast_mul,←Rat.mul_assoc,ha,Rat.intCast_mul];rfl⟩
theorem wholeBy.sub {q r:Rat} {B:Nat} (h:wholeBy q B) (k:wholeBy r B):wholeBy (q - r) B:=by
 obtain⟨a,ha⟩:=h
 obtain⟨b,hb⟩:=k
 exact⟨a - b,by rw[Rat.intCast_sub,←ha,←hb];grind⟩
theorem unit_parts {q:Rat} {B:Nat} (hB:0<B) (h0:0≤q) (h1:q≤1) (h:wholeBy q B):q.den∣B∧0≤q.num∧q.num≤q.den:=by
 have n0:0≤q.num:=Rat.num_nonneg.2 h0
 have n1:q.num≤q.den:=by
  have hd:(0:Rat)<(q.den:Rat):=Rat.natCast_pos.2 q.den_pos
  have e:q*(q.den:Rat)=(q.num:Rat):=rat_mul_den q
  have h2:q*(q.den:Rat)≤1*(q.den:Rat):=Rat.mul_le_mul_of_nonneg_right h1 (Rat.le_of_lt hd)
  rw[e,Rat.one_mul] at h2
  have:((q.num:Int):Rat)≤((q.den:Int):Rat):=h2
  exact Rat.intCast_le_intCast.1 this
 refine⟨?_,n0,n1⟩
 obtain⟨a,ha⟩:=h
 have hBr:(0:Rat)<(B:Rat):=Rat.natCast_pos.2 hB
 have a0:0≤a:=by
  have:(0:Rat)≤(a:Rat):=by rw[←ha];exact Rat.mul_nonneg h0 (Rat.le_of_lt hBr)
  exact_mod_cast this
 obtain⟨y,rfl⟩:=Int.eq_ofNat_of_zero_le a0
 obtain⟨m,_,_,e2⟩:=divInt_parts (y:=y) hB
 have hq:q=Rat.divInt (y:Nat) (B:Nat):=by
  rw[Rat.divInt_eq_div]
  have e1:((B:Int):Rat)=(B:Rat):=rfl
  have e2:(((y:Nat):Int):Rat)=q*(B:Rat):=ha.symm
  rw[e1,e2]
  grind
 rw[←hq] at e2
 exact⟨m,e2⟩
theorem qsum_nn : ∀(l:List Rat),(∀q∈l,0≤q)→0≤qsum l
 | [],_=>by show(0:Rat)≤0;exact Rat.le_refl
 | q :: l,h=>by
  have h1:=h q (by simp)
  have h2:=qsum_nn l fun x hx=>h x (by simp[hx])
  rw[qsum_cons]
  grind
theorem qsum_ge : ∀(l:List Rat),(∀q∈l,0≤q) → ∀q∈l,q≤qsum l
 | [],_,q,hq=>by cases hq
 | a :: l,h,q,hq=>by
  have h1:=h a (by simp)
  have h2:=qsum_nn l fun x hx=>h x (by simp[hx])
  rw[qsum_cons]
  rcases List.mem_cons.1 hq with rfl|hq
  ·grind
  ·have h3:=qsum_ge l (fun x hx=>h x (by simp[hx])) q hq
   grind
theorem filt_facts {ll:List (List (Nat×Nat))} {t:List Nat} (k:kerOk ll) (ht:t.length=ll.length) (hp : ∀p∈t,1≤wdI p) {i:Nat} (hi:i<ll.length):(∀q∈filtRow ll t i,0≤q)∧qsum (filtRow ll t i)=1∧(∀j,j<ll.length→0≤goQ ll t i j∧goQ ll t i j≤kAt ll i j):=by
 have hw : ∀i,i<ll.length→0<wrat (t.getD i 0):=fun i hi=>by
  have:=hp _ (List.getElem_mem (show i<t.length by omega))
  rw[List.getD_eq_getElem?_getD,List.getElem?_eq_getElem (by omega),Option.getD_some]
  unfold wrat
  exact Rat.intCast_pos.2 (by omega)
 have hk : ∀i j,i<ll.length→j<ll.length→0≤kAt ll i j:=fun i j hi hj=>by
  obtain⟨_,p,_,_,_,e4,e5,e6⟩:=kerOk_at k hi hj
  rw[e6]
  exact rOf_nn e4 e5
 have hg : ∀i j,i<ll.length→j<ll.length→0≤goQ ll t i j∧goQ ll t i j≤kAt ll i j:=fun i j hi hj=>by
  have h1:=hk i j hi hj
  have h2:=hk j i hj hi
  have w1:=hw i hi
  have w2:=hw j hj
  unfold goQ
  split
  ·rename_i c
   refine⟨?_,Rat.le_of_lt c⟩
   rw[Rat.div_def]
   exact Rat.mul_nonneg (Rat.mul_nonneg h2 (Rat.le_of_lt w2)) (Rat.le_of_lt (Rat.inv_pos.2 w1))
  ·exact⟨h1,Rat.le_refl⟩
 have hq : ∀i j,i<ll.length→j<ll.length→0≤filtQ ll t i j:=fun i j hi hj=>by
  unfold filtQ
  split
  ·have h1:=offS_mono (i:=i) (m:=ll.length) (g:=goQ ll t i) (k:=kAt ll i) fun j hj=>(hg i j hi hj).2
   have h2:=offS_sum (kAt ll i) i ll.length
   rw[row_kAt k hi,if_pos hi] at h2
   have h3:=hk i i hi hi
   grind
  ·exact(hg i j hi hj).1
 refine⟨fun q hq'=>?_,?_,fun j hj=>hg i j hi hj⟩
 ·obtain⟨j,hj⟩:=List.getElem?_of_mem hq'
  have hjl:=(List.getElem?_eq_some_iff.1 hj).1
  rw[filtRow_len] at hjl
  rw[filtRow_at hjl] at hj
  cases hj
  exact hq i j hi hjl
 ·have h1:=set_sum (goQ ll t i) (offS (goQ ll t i) i ll.length) i ll.length
  have h2:=offS_sum (goQ ll t i) i ll.length
  rw[if_pos hi] at h1 h2
  have e:filtRow ll t i=(List.range ll.length).map fun j=>if j=i then offS (goQ ll t i) i ll.length else goQ ll t i j:=rfl
  rw[e,h1]
  grind
theorem wholeBy.times {q:Rat} {B:Nat} (h:wholeBy q B) (x y:Nat) (hy:0<y):wholeBy (q*(x:Rat) / (y:Rat)) (B*y):=by
 obtain⟨a,ha⟩:=h
 refine⟨a*x,?_⟩
 have hy':(0:Rat)<(y:Rat):=Rat.natCast_pos.2 hy
 rw[Rat.natCast_mul,Rat.intCast_mul,←ha]
 show q*(x:Rat) / (y:Rat)*((B:Rat)*(y:Rat))=q*(B:Rat)*(x:Rat)
 grind
theorem offS_whole {g:Nat→Rat} {B i:Nat} : ∀{m:Nat},(∀j,j<m→wholeBy (g j) B)→wholeBy (offS g i m) B
 | 0,_=>⟨B,by rw[offS,Rat.one_mul];rfl⟩
 | m+1,h=>by
  have ih:=offS_whole (i:=i) (m:=m) fun j hj=>h j (by omega)
  rw[offS]
  split
  ·exact ih
  ·exact ih.sub (h m (by omega))
theorem filt_whole {ll:List (List (Nat×Nat))} {t:List Nat} {D:Nat} (hD : ∀i j,i<ll.length→j<ll.length→wholeBy (kAt ll i j) D) {T:Nat→Nat} (hT : ∀i,i<ll.length→0<T i∧wrat (t.getD i 0)=(T i:Rat)) {i:Nat} (hi:i<ll.length) : ∀q∈filtRow ll t i,wholeBy q (D*T i):=by
 have hg : ∀j,j<ll.length→wholeBy (goQ ll t i j) (D*T i):=fun j hj=>by
  unfold goQ
  split
  ·rw[(hT j hj).2,(hT i hi).2]
   exact(hD j i hj hi).times _ _ (hT i hi).1
  ·exact(hD i j hi hj).mul _
 intro q hq
 obtain⟨j,hj⟩:=List.getElem?_of_mem hq
 have hjl:=(List.getElem?_eq_some_iff.1 hj).1
 rw[filtRow_len] at hjl
 rw[filtRow_at hjl] at hj
 cases hj
 unfold filtQ
 split
 ·exact offS_whole hg
 ·exact hg j hjl
theorem unit_QW {q:Rat} {B:Nat} (hB:0<B) (hB2:B<H8) (h0:0≤q) (h1:q≤1) (h:wholeBy q B):QW q∧(shq q).2∣B∧(shq q).1≤(shq q).2∧0<(shq q).2:=by
 obtain⟨a,b,c⟩:=unit_parts hB h0 h1 h
 have h8:=H8_pos
 have hd:=Nat.le_of_dvd hB a
 have e1:(shq q).1=q.num.toNat:=by show wideN q.num=_;unfold wideN;rw[if_pos b]
 have e2:(shq q).2=q.den:=by show wideN (q.den:Int)=_;unfold wideN;rw[if_pos (by omega),Int.toNat_natCast]
 have dp:=q.den_pos
 refine⟨⟨⟨by omega,by omega⟩,⟨by omega,by omega⟩⟩,by rw[e2];exact a,by rw[e1,e2];omega,by rw[e2];exact dp⟩
def uniR (B:Nat) (l:List (Nat×Nat)):Prop:=0<B ∧ ∀p∈l,p.2∣B∧p.1≤p.2∧0<p.2
end Go.Id

namespace Go.Id
open Go
theorem draft_den : ∀(ll:List (List (Nat×Nat))),(∀x∈ll,∃S,smR S x) → ∃D,0<D∧D≤1000 ^ ll.length ∧ ∀x∈ll,∀p∈x,p.2∣D
 | [],_=>⟨1,by omega,by simp,fun x hx=>by cases hx⟩
 | l :: ll,h=>by
  obtain⟨D,h1,h2,h3⟩:=draft_den ll fun x hx=>h x (by simp[hx])
  obtain⟨S,s1,s2,s3⟩:=h l (by simp)
  refine⟨D*S,Nat.mul_pos h1 s1,?_,fun x hx p hp=>?_⟩
  ·rw[List.length_cons,Nat.pow_succ]
   exact Nat.mul_le_mul h2 s2
  ·rcases List.mem_cons.1 hx with rfl|hx
   ·exact Nat.dvd_trans (s3 p hp).2.2 (Nat.dvd_mul_left _ _)
   ·exact Nat.dvd_trans (h3 x hx p hp) (Nat.dvd_mul_right _ _)
def kerD (ll:List (List (Nat×Nat))):Prop:=kerOk ll∧ll.length≤4 ∧ ∃D,0<D∧D≤1000000000000 ∧ ∀i j,i<ll.length→j<ll.length→wholeBy (kAt ll i j) D
theorem draft_kerD {ll:List (List (Nat×Nat))} (l1:1≤ll.length) (l2:ll.length≤4) (hr : ∀x∈ll,x.length=ll.length∧rowS x):kerD ll:=by
 obtain⟨_,ok⟩:=kerS_ok (ll:=ll) (by omega) (by omega) (fun x hx=>hr x hx)
 obtain⟨D,h1,h2,h3⟩:=draft_den ll fun x hx=>(hr x hx).2.2.1
 refine⟨ok,l2,D,h1,Nat.le_trans h2 (Nat.le_trans (Nat.pow_le_pow_right (by omega) l2) (by decide)),fun i j hi hj=>?_⟩
 obtain⟨row,p,e1,e2,e3,e4,e5,e6⟩:=kerOk_at ok hi hj
 have hm:=List.mem_of_getElem? e1
 have hp:=List.mem_of_getElem? e3
 obtain⟨S,s1,s2,s3⟩:=(hr row hm).2.2.1
 have hS:=s3 p hp
 have hle:=Nat.le_of_dvd s1 hS.2.2
 rw[e6]
 refine wholeBy_den ?_
 have hd:=(rOf_parts e4).2
 rw[wdI_sm (by omega)] at hd
 have:(rOf p).den=p.2:=by omega
 rw[this]
 exact h3 row hm p hp
theorem H8_split {a b:Nat} (h:a+b=511):H8=2 ^ a*2 ^ b:=by rw[H8_pow,←Nat.pow_add,h]
theorem BB_lt {D T:Nat} (hD:D≤1000000000000) (hT:T≤9*2 ^ 240):60*(D*T)<H8:=by
 have e:=H8_split (a:=271) (b:=240) rfl
 rw[e]
 have h1:D*T≤1000000000000*(9*2 ^ 240):=Nat.mul_le_mul hD hT
 have h2:(2:Nat) ^ 50≤2 ^ 271:=pow2_le (a:=50) (b:=271) (by omega)
 have h3:(2:Nat) ^ 50=1125899906842624:=by decide
 have h4:0<2 ^ 240:=Nat.two_pow_pos 240
 generalize 2 ^ 240=X at *
 generalize 2 ^ 271=Y at *
 have h5:1125899906842624*X≤Y*X:=Nat.mul_le_mul_right _ (by omega)
 omega
theorem ladErr_ok {s lv:List Int} (h1:1≤s.length) (h2:s.length≤60) (h3 : ∀x∈s,0≤x∧x≤30) (l1:1≤lv.length) (l2:lv.length≤6) (l3 : ∀x∈lv,0≤x∧x≤8):ladErr s lv=0:=by
 unfold ladErr
 have o1:=any_out h3
 have o2:=any_out (most:=8) l3
 rw[if_neg]
 rintro(c|c|c|c|c|c)
 ·omega
 ·omega
 ·exact o1 c
 ·omega
 ·omega
 ·exact o2 c
def tauN (ws:List Nat) (s:List Int) (level:Int) (i:Nat):Nat:=(wdI (ws.getD i 0)).toNat*2 ^ ((maxL s - s.getD i 0)*level).toNat
theorem tau_b {ws:List Nat} {s:List Int} {level:Int} {i:Nat} (hw : ∀p∈ws,1≤wdI p∧wdI p≤9) (hs : ∀x∈s,0≤x∧x≤30) (hl:0≤level∧level≤8) (hi:i<ws.length) (hi2:i<s.length) :
  1≤tauN ws s level i∧tauN ws s level i≤9*2 ^ 240∧tgtZ s level i (ws.getD i 0)=(tauN ws s level i:Int):=by
 have h1:=hw _ (List.getElem_mem hi)
 have e1:ws.getD i 0=ws[i]:=by rw[List.getD_eq_getElem?_getD,List.getElem?_eq_getElem hi];rfl
 have h2:=hs _ (List.getElem_mem hi2)
 have e2:s.getD i 0=s[i]:=by rw[List.getD_eq_getElem?_getD,List.getElem?_eq_getElem hi2];rfl
 have h3:=hs _ (maxL_mem s (by rintro rfl;simp at hi2))
 have hb:((maxL s - s[i])*level).toNat≤240:=by
  have:=(mul_240 (p:=level) (q:=maxL s - s[i]) (by omega) (by omega)).2
  rw[Int.mul_comm]
  omega
 have hp:2 ^ ((maxL s - s[i])*level).toNat≤2 ^ 240:=pow2_le hb
 have h0:=Nat.two_pow_pos ((maxL s - s[i])*level).toNat
 unfold tauN tgtZ tgt
 rw[e1,e2]
 refine⟨Nat.mul_pos (by omega) h0,Nat.mul_le_mul (by omega) hp,?_⟩
 rw[Int.natCast_mul,Int.toNat_of_nonneg (by omega)]
theorem tau_H8 {T:Nat} (h:T≤9*2 ^ 240):T<H8:=by
 have:=BB_lt (D:=1) (T:=T) (by omega) h
 omega
theorem lev_draft {ll:List (List (Nat×Nat))} {ws:List Nat} {s:List Int} {level:Int} (k:kerD ll) (hws:ws.length=ll.length) (hsl:s.length=ll.length) (hw : ∀p∈ws,1≤wdI p∧wdI p≤9) (hs : ∀x∈s,0≤x∧x≤30) (hl:0≤level∧level≤8) :
  levE ll ws s level=0 ∧ ∀row∈kerL ll ws s level,∃B,uniR B row∧60*B<H8:=by
 obtain⟨ok,l4,D,D0,D1,hD⟩:=k
 have l1:=ok.1
 have tb : ∀i,i<ll.length→_:=fun i hi=>tau_b (i:=i) hw hs hl (by omega) (by omega)
 have inw : ∀i,i<ll.length→InW (tgtZ s level i (ws.getD i 0)):=fun i hi=>by
  obtain⟨a,b,c⟩:=tb i hi
  have:=tau_H8 b
  rw[c]
  exact⟨by omega,by omega⟩
 have lt:(mapZ (tgtZ s level) ws ws.length).length=ll.length:=by rw[mapZ_len,hws]
 have at_ : ∀i,i<ll.length→(mapZ (tgtZ s level) ws ws.length)[i]?=some (wideN (tgtZ s level i (ws.getD i 0))):=fun i hi=>by
  rw[mapZ,List.getElem?_map,List.getElem?_range (by omega)];rfl
 have wd : ∀i,i<ll.length→wdI (wideN (tgtZ s level i (ws.getD i 0)))=(tauN ws s level i:Int):=fun i hi=>by rw[wdI_wideN (inw i hi)];exact(tb i hi).2.2
 have hp : ∀p∈mapZ (tgtZ s level) ws ws.length,1≤wdI p:=fun p hp=>by
  obtain⟨i,hi⟩:=List.getElem?_of_mem hp
  have hil:=(List.getElem?_eq_some_iff.1 hi).1
  rw[lt] at hil
  rw[at_ i hil] at hi
  cases hi
  rw[wd i hil]
  have:=(tb i hil).1
  omega
 have hT : ∀i,i<ll.length→0<tauN ws s level i∧wrat ((mapZ (tgtZ s level) ws ws.length).getD i 0)=(tauN ws s level i:Rat):=fun i hi=>by
  refine⟨(tb i hi).1,?_⟩
  rw[List.getD_eq_getElem?_getD,at_ i hi,Option.getD_some]
  unfold wrat
  rw[wd i hi];rfl
 have hB : ∀i,i<ll.length→0<D*tauN ws s level i∧60*(D*tauN ws s level i)<H8:=fun i hi=>⟨Nat.mul_pos D0 (tb i hi).1,BB_lt D1 (tb i hi).2.1⟩
 have hq : ∀i,i<ll.length → ∀q∈filtRow ll (mapZ (tgtZ s level) ws ws.length) i,QW q∧(shq q).2∣D*tauN ws s level i∧(shq q).1≤(shq q).2∧0<(shq q).2:=fun i hi q hq=>by
  obtain⟨f1,f2,_⟩:=filt_facts ok lt hp hi
  have f3:=qsum_ge _ f1 q hq
  rw[f2] at f3
  have:=hB i hi
  exact unit_QW (hB i hi).1 (by omega) (f1 q hq) f3 (filt_whole hD hT hi q hq)
 have fo:filtOk ll (mapZ (tgtZ s level) ws ws.length):=fun i hi q hq'=>(hq i hi q hq').1
 refine⟨?_,fun row hrow=>?_⟩
 ·unfold levE
  rw[if_neg (fun x=>x ok)]
  have te:tgErr ws s level=0:=by
   unfold tgErr
   rw[if_neg (fun x=>x (ladErr_ok (by omega) (by omega) hs (by simp) (by simp) (fun x hx=>by rw[List.mem_singleton.1 hx];exact hl))),if_neg,if_pos]
   ·exact fun j hj=>inw j (by omega)
   ·rintro(c|c)
    ·omega
    ·exact c fun n hn=>(hw n hn).1
  rw[te,if_neg (fun x=>x rfl),if_neg (by omega)]
  unfold filtE
  rw[if_neg (fun x=>x ok),if_neg,if_pos fo]
  rintro(c|⟨p,h1,h2⟩)
  ·exact c lt
  ·have:=hp p h1
   omega
 ·obtain⟨i,hi⟩:=List.getElem?_of_mem hrow
  have hil:=(List.getElem?_eq_some_iff.1 hi).1
  unfold kerL at hil hi
  rw[filtLL_len] at hil
  rw[filtLL_at hil] at hi
  cases hi
  refine⟨D*tauN ws s level i,⟨(hB i hil).1,fun p hp=>?_⟩,(hB i hil).2⟩
  obtain⟨q,hq',rfl⟩:=List.mem_map.1 hp
  exact(hq i hil q hq').2
end Go.Id

namespace Go.Id
open Go
end Go.Id

namespace Go.Id
open Go
theorem back_same {a b x y:Rat} (hx:0<x) (hy:0<y):(if a*x / y<b then a*x / y else b)*y / x=(if b*y / x<a then b*y / x else a):=by
 have k1:a*x / y<b↔a*x<b*y:=by rw[Rat.div_lt_iff hy]
 have k2:b*y / x<a↔b*y<a*x:=by rw[Rat.div_lt_iff hx]
 simp only[k1,k2]
 by_cases c1:a*x<b*y
 ·rw[if_pos c1,if_neg (by grind)]
  grind
 ·rw[if_neg c1]
  by_cases c2:b*y<a*x
  ·rw[if_pos c2]
  ·rw[if_neg c2]
   have e:b*y=a*x:=by grind
   rw[e]
   grind
theorem offS_congr {g k:Nat→Rat} {i:Nat} : ∀{m:Nat},(∀j,j<m→g j=k j)→offS g i m=offS k i m
 | 0,_=>rfl
 | m+1,h=>by
  rw[offS,offS,offS_congr (m:=m) fun j hj=>h j (by omega),h m (by omega)]
theorem kAt_filt {ll:List (List (Nat×Nat))} {t:List Nat} (ho:filtOk ll t) {i j:Nat} (hi:i<ll.length) (hj:j<ll.length):kAt (filtLL ll t) i j=filtQ ll t i j:=by
 have hq:=ho i hi _ (List.mem_of_getElem? (filtRow_at (ll:=ll) (t:=t) (i:=i) hj))
 unfold kAt
 rw[List.getD_eq_getElem?_getD,List.getD_eq_getElem?_getD,filtLL_at hi,Option.getD_some,List.getElem?_map,filtRow_at hj]
 exact(shq_rOf hq).1
theorem filt_twice {ll:List (List (Nat×Nat))} {t:List Nat} (k:kerOk ll) (ht:t.length=ll.length) (hp : ∀p∈t,1≤wdI p) (ho:filtOk ll t):filtLL (filtLL ll t) t=filtLL ll t∧filtOk (filtLL ll t) t:=by
 have ok2:=filt_kerOk k ht hp ho
 have len2:=filtLL_len ll t
 have hw : ∀i,i<ll.length→0<wrat (t.getD i 0):=fun i hi=>by
  have:=hp _ (List.getElem_mem (show i<t.length by omega))
  rw[List.getD_eq_getElem?_getD,List.getElem?_eq_getElem (by omega),Option.getD_some]
  unfold wrat
  exact Rat.intCast_pos.2 (by omega)
 have hg : ∀i j,i<ll.length→j<ll.length→goQ (filtLL ll t) t i j=kAt (filtLL ll t) i j:=fun i j hi hj=>by
  have wi:=hw i hi
  have wj:=hw j hj
  have e:kAt (filtLL ll t) j i*wrat (t.getD j 0) / wrat (t.getD i 0)=kAt (filtLL ll t) i j:=by
   by_cases c:j=i
   ·subst c;grind
   ·rw[kAt_filt ho hi hj,kAt_filt ho hj hi]
    unfold filtQ
    rw[if_neg c,if_neg (fun h=>c h.symm)]
    exact back_same wi wj
  unfold goQ
  rw[e]
  exact ite_self _
 have hf : ∀i,i<ll.length→filtRow (filtLL ll t) t i=filtRow ll t i:=fun i hi=>by
  refine List.ext_getElem? fun j=>?_
  by_cases hj:j<ll.length
  ·rw[filtRow_at (by omega),filtRow_at hj,←kAt_filt ho hi hj]
   refine congrArg some ?_
   unfold filtQ
   split
   ·rename_i c
    subst c
    rw[offS_congr (k:=kAt (filtLL ll t) j) fun x hx=>hg j x hi (by omega)]
    have h1:=offS_sum (kAt (filtLL ll t) j) j (filtLL ll t).length
    rw[row_kAt ok2 (by omega),if_pos (by omega)] at h1
    grind
   ·exact hg i j hi hj
  ·rw[List.getElem?_eq_none (by rw[filtRow_len];omega),List.getElem?_eq_none (by rw[filtRow_len];omega)]
 refine⟨?_,fun i hi=>?_⟩
 ·refine List.ext_getElem? fun i=>?_
  by_cases hi:i<ll.length
  ·rw[filtLL_at (by omega),filtLL_at hi,hf i hi]
  ·rw[List.getElem?_eq_none (by rw[filtLL_len];omega),List.getElem?_eq_none (by omega)]
 ·rw[len2] at hi
  rw[hf i hi]
  exact ho i hi
theorem mapZ_same {ws:List Nat} {s:List Int} {level:Int} (hw : ∀p∈ws,p<W8) (h : ∀j,j<ws.length→(maxL s - s.getD j 0)*level≤0):mapZ (tgtZ s level) ws ws.length=ws:=by
 refine List.ext_getElem? fun j=>?_
 by_cases hj:j<ws.length
 ·rw[mapZ,List.getElem?_map,List.getElem?_range hj]
  show some (wideN (tgtZ s level j (ws.getD j 0)))=_
  have e:ws.getD j 0=ws[j]:=by rw[List.getD_eq_getElem?_getD,List.getElem?_eq_getElem hj];rfl
  have e2:tgtZ s level j (ws.getD j 0)=wdI (ws.getD j 0):=by
   unfold tgtZ tgt
   have:=h j hj
   rw[show((maxL s - s.getD j 0)*level).toNat=0 by omega]
   show wdI _*1=_
   omega
  rw[e2,e,wideN_wdI (hw _ (List.getElem_mem hj)),List.getElem?_eq_getElem hj]
 ·rw[List.getElem?_eq_none (by rw[mapZ_len];omega),List.getElem?_eq_none (by omega)]
theorem levE_parts {ll:List (List (Nat×Nat))} {ws:List Nat} {s:List Int} {lev:Int} (h:levE ll ws s lev=0):tgErr ws s lev=0∧filtE ll (mapZ (tgtZ s lev) ws ws.length)=0:=by
 unfold levE at h
 split at h
 ·omega
 split at h
 ·omega
 rename_i ht
 split at h
 ·omega
 exact⟨Classical.not_not.1 ht,h⟩
theorem filtE_parts {ll:List (List (Nat×Nat))} {t:List Nat} (h:filtE ll t=0):kerOk ll∧t.length=ll.length∧(∀p∈t,1≤wdI p)∧filtOk ll t:=by
 unfold filtE at h
 split at h
 ·omega
 rename_i hk
 split at h
 ·omega
 rename_i hc
 split at h
 ·rename_i ho
  refine⟨Classical.not_not.1 hk,Classical.byContradiction fun hn=>hc (.inl hn),fun p hp=>?_,ho⟩
  apply Classical.byContradiction
  intro hn
  exact hc (.inr ⟨p,hp,by omega⟩)
 ·omega
theorem lev_flat {ll:List (List (Nat×Nat))} {ws:List Nat} {s:List Int} {lev:Int} (h:levE ll ws s lev=0) (mz:mapZ (tgtZ s lev) ws ws.length=ws):levE (filtLL ll ws) ws s lev=0∧filtLL (filtLL ll ws) ws=filtLL ll ws:=by
 obtain⟨h1,h2⟩:=levE_parts h
 rw[mz] at h2
 obtain⟨k,ht,hp,ho⟩:=filtE_parts h2
 obtain⟨e1,e2⟩:=filt_twice k ht hp ho
 have hs:=(levE_zero h).2.2
 refine⟨?_,e1⟩
 unfold levE
 rw[if_neg (fun x=>x (filt_kerOk k ht hp ho)),if_neg (fun x=>x h1),if_neg (by rw[filtLL_len];omega),mz]
 unfold filtE
 rw[if_neg (fun x=>x (filt_kerOk k ht hp ho)),if_neg,if_pos e2]
 rintro(c|⟨p,c1,c2⟩)
 ·rw[filtLL_len] at c;exact c ht
 ·have:=hp p c1
  omega
end Go.Id

namespace Go.Id
end Go.Id

namespace Go.Id
open Go
theorem mul64_ok {h:IH} (a b:Nat) (ha:a<4294967296) (hb:b<4294967296):WV Proofs.Tryz.prog (.func (.func 180) #[] #[]) [K64 a,K64 b] h fun r h'=>h'=h∧r=.tuple #[K64 0,K64 (a*b)]:=by
 have hab:a*b<18446744073709551616:=by
  have:a*b≤4294967295*4294967295:=Nat.mul_le_mul (by omega) (by omega)
  omega
 have ea:a &&& 4294967295=a:=by rw[Nat.and_two_pow_sub_one_eq_mod a 32];omega
 have eb:b &&& 4294967295=b:=by rw[Nat.and_two_pow_sub_one_eq_mod b 32];omega
 have sa:nshr a 32=0:=by rw[nshr,Nat.shiftRight_eq_div_pow];omega
 have sb:nshr b 32=0:=by rw[nshr,Nat.shiftRight_eq_div_pow];omega
 have e3:nshr (nshr (a*b) 32) 32=0:=by rw[nshr,nshr,Nat.shiftRight_eq_div_pow,Nat.shiftRight_eq_div_pow];omega
 have e4:nshr (a*b) 32 &&& 4294967295=nshr (a*b) 32:=by
  rw[Nat.and_two_pow_sub_one_eq_mod _ 32,nshr,Nat.shiftRight_eq_div_pow];omega
 have e5:=nshr_le (a*b) 32
 have e6:(a:Int)*(b:Int)=((a*b:Nat):Int):=by simp
 generalize hp:a*b=p at *
 generalize hq:nshr p 32=q at *
 have e7 : ∀x:Int,(0:Int)*x=0:=fun x=>Int.zero_mul x
 have e8 : ∀x:Int,x*(0:Int)=0:=fun x=>Int.mul_zero x
 refine enter (nt:=51) (rs:=[.tmp 4,.tmp 5]) Proofs.Tryz.func180 rfl rfl rfl (by simp) ?_
 simp -dsimp (maxSteps:=1000000) (disch:=first|omega|(simp only[new_n,put_n];omega)|decide +kernel|(repeat first|rw[new_n]|rw[put_n])) only[wpS,wpT,Nat.reduceEqDiff,Nat.reduceAdd,Int.reduceToNat,ea,eb,sa,sb,e6,Int.ofNat_zero,e7,e8,Int.zero_add,Int.add_zero,hq,e3,e4]
 rfl
theorem mul_ok {h:IH} (a b:Nat) (ha:a<4294967296) (hb:b<4294967296):WV Proofs.Tryz.prog (.func (.func 100) #[] #[]) [K64 a,K64 b] h fun r h'=>h'=h∧r=.tuple #[K64 0,K64 (a*b)]:=by
 refine enter (nt:=30) (rs:=[.tmp 4,.tmp 5]) Proofs.Tryz.func100 rfl rfl rfl (by simp) ?_
 simp -dsimp (disch:=try exact dx) only[wpS,Nat.reduceEqDiff,Nat.reduceAdd]
 refine call (mul64_ok a b ha hb) ?_
 rintro _ _ ⟨rfl,rfl⟩
 simp -dsimp (disch:=try exact dx) only[wpS,wpT,Nat.reduceEqDiff]
end Go.Id

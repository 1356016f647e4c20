/-
  From the ideal machine to a row: the arguments as they lie in the world; what reads as before. From the ideal machine to a row, storage of any depth: every place of the world has its number; a slice that came in is told by it, and so are the slices within it.
-/
import Derived.Test.YtjhnilfelokpcaaGreatOutlierPathsAl
import Derived.Test.YtjhnilfelokpcaaGreatOutlierPathsAn
import Derived.OpenShut
import Derived.ChangeStays
import Derived.ChangeSame
import Derived.Deep.Slices
import Derived.Test.YtjhnilfelokpcaaGreatRows
import Derived.ProofKit
set_option linter.unusedVariables false
set_option linter.unusedSimpArgs false
set_option linter.defProp false
set_option linter.deprecated false
namespace Go.Id
open Go Go.RowKit Go.ChangeShapes Go.WideShapes Go.Deep
theorem Iw {n:String} {a:List Value} {v:Value} (h:mu n a=some v):n = "math/bits.Add64" ∨ n = "math/bits.Sub64" := by
 unfold mu at h
 split at h
 ·simp only[cond_eq_ite] at h
  split at h
  ·split at h
   ·rename_i hn;exact .inl (by simpa using hn)
   ·split at h
    ·rename_i hn;exact .inr (by simpa using hn)
    ·cases h
  ·cases h
 ·cases h
theorem UO {P:Program} (h1:P.follows .mixedOrders=true) (h2:(P.funcs.toList.all fun fn => !(fn.body.isSome && fn.name == "runtime.NumGoroutine") && (fn.body.isSome || ((fn.name == fn.origin || fn.origin == "") || !(fn.name == "math/bits.Add64" || fn.name == "math/bits.Sub64"))))=true):Sound (E0 P) where
 mixed:=h1
 origin f fn hf hb {args v} hc:=by
  have hm:fn∈P.funcs.toList:=by
   rw[Array.mem_toList_iff];exact Array.mem_of_getElem? hf
  have h:=List.all_eq_true.1 h2 fn hm
  rw[hb] at h
  have hn:fn.name = "math/bits.Add64" ∨ fn.name = "math/bits.Sub64" := Iw hc
  have h':(fn.name == fn.origin || fn.origin == "")=true:=by
   rcases hn with hn|hn<;>rw[hn] at h ⊢ <;> exact(show _ from by simpa using h)
  rw[Bool.or_eq_true,beq_iff_eq,beq_iff_eq] at h'
  exact h'.imp Eq.symm id
 names f fn hf hb:=by
  have hm:fn∈P.funcs.toList:=by
   rw[Array.mem_toList_iff];exact Array.mem_of_getElem? hf
  have:=List.all_eq_true.1 h2 fn hm
  rw[Bool.and_eq_true] at this
  have:=this.1
  rw[hb] at this
  simpa using this
 FZ f g h:=by cases h
 rE f g h:=by cases h
structure SlArg (W:World) (z:Nat) (v:Value) (n:Nat) (cs:List Value):Prop where
 z0:0<z
 len:cs.length=n*z
 sc : ∀x∈cs,bJ x=true
 ex:(v=.slice none 0 0∧n=0) ∨ ∃a cap,v=.slice (some a) n cap∧n≤cap∧(0<n→a.spot=none ∧ ∀j,j<n*z→W.cell? ⟨a.block,a.off+j,none⟩=cs[j]?)
section
variable {H:Type} {enc:TypeId×Value→H} {P:Program} {W:World} {held:Bool}
theorem IE {W W':World} (hk:Below W.heap.size W W') {p:MemPlace} (hp:p.block<W.heap.size):W.sameAt W' p:=by
 cases p with
 | cell b off =>
  show W'.cell? _=W.cell? _
  unfold World.cell?
  rw[hk.block b hp]
 | map b=>exact hk.block b hp
theorem rK {W':World} {T:TypeId→Prop} (K:Kids P T) (hsz : ∀{t e:TypeId},T t→P.underlying t=some (.slice e)→0<P.cellsOf e) (hk:Below W.heap.size W W') {sp:Nat→Bool} :
  ∀{ts:List TypeId} {vs:List Value} {ds:List (DataW H)} {ps:List MemPlace},DataW.TrodAll enc P W 0 (fun _=>true) true ts vs ds ps→(∀t∈ts,T t)→(∀p∈ps,sp p.block=true)→DataW.TrodAll enc P W' 0 sp true ts vs ds ps
 | [],_,_,_,h,_,_=>by
  obtain⟨rfl,rfl,rfl⟩:=trodAll_nil h
  rfl
 | t :: ts,_,_,_,h,hT,hs=>by
  obtain⟨v,vs,d,ds,p,q,rfl,rfl,rfl,⟨fuel,h1⟩,h2⟩:=trodAll_cons h
  refine⟨p,q,⟨fuel,?_⟩,rK K hsz hk h2 (fun t ht=>hT t (by simp[ht])) (fun x hx=>hs x (by simp[hx])),rfl⟩
  exact DataW.trod_stays K hsz (fun h=>by cases h) (hT t (by simp)) h1 (fun x hx=>IE hk (DataW.trod_lt _ _ _ _ h1 x hx)) (fun x hx=>hs x (by simp[hx]))
end
section
variable {H:Type} {enc:TypeId×Value→H} {P:Program} {W:World} {base:Nat} {sp:Nat→Bool} {held:Bool}
theorem nF {t:TypeId} {k:IntKind} {m:Nat} (hk:k.min=0) (hm:k.max=m) (ht:P.underlying t=some (.int k)) {fuel:Nat} {cs:List Value} {x:DataW H×List MemPlace} (h:DataW.trod enc P W base sp held fuel t cs=some x) : ∃i:Nat,cs = [.int k (i:Int)]∧i≤m:=by
 obtain⟨n,rfl,_,hw⟩:=DataW.trod_int ht h
 simp only[Lit.wf,Bool.and_eq_true,decide_eq_true_eq] at hw
 exact⟨n.toNat,by rw[Int.toNat_of_nonneg (by omega)],by omega⟩
end
end Go.Id

namespace Go.Id
open Go Go.RowKit Go.ChangeShapes Go.WideShapes Go.Deep
def sL (r s:Nat):Nat:=(r+s)*(r+s)+s
theorem O1 {a b c d:Nat} (h:sL a b=sL c d):a=c∧b=d:=by
 have key : ∀{x y u v:Nat},u≤x→v≤y→x<y→x*x+u≠y*y+v:=by
  intro x y u v hu hv hxy e
  have h1:(x+1)*(x+1)≤y*y:=Nat.mul_le_mul hxy hxy
  have h2:(x+1)*(x+1)=x*x+2*x+1:=by rw[Nat.add_mul,Nat.mul_add];omega
  omega
 unfold sL at h
 rcases Nat.lt_trichotomy (a+b) (c+d) with hl|he|hg
 ·exact absurd h (key (by omega) (by omega) hl)
 ·rw[he] at h;omega
 ·exact absurd h.symm (key (by omega) (by omega) hg)
open Classical in
noncomputable def plA (i:Nat):Nat×Nat:=if h : ∃p:Nat×Nat,sL p.1 p.2=i then Classical.choose h else (0,0)
theorem O2 (r s:Nat):plA (sL r s)=(r,s):=by
 have h : ∃p:Nat×Nat,sL p.1 p.2=sL r s:=⟨(r,s),rfl⟩
 unfold plA
 rw[dif_pos h]
 obtain⟨h1,h2⟩:=O1 (Classical.choose_spec h)
 exact Prod.ext h1 h2
def fw:Value→Bool
 | .slice (some a) n cap=>n == 0 || (Nat.ble n cap && a.spot.isNone)
 | v=>bJ v
def trV:Value→Value
 | .slice (some a) n cap=>if n=0 then .slice (some ⟨1,0,none⟩) 0 0 else .slice (some ⟨2*(4294967296+sL a.block a.off)+1,0,none⟩) n (2*cap+1)
 | v=>v
theorem N3 {v:Value} (h:bJ v=true):trV v=v:=by
 unfold trV
 split
 ·simp[bJ] at h
 ·rfl
theorem Jb {v:Value} (h:fw v=true):aC (Mp.kQ plA) (trV v) v:=by
 unfold fw at h
 split at h
 ·rename_i a n cap
  simp only[trV]
  by_cases h0:n=0
  ·subst h0
   simp only[if_true]
   exact .lost
  ·simp only[if_neg h0]
   obtain⟨b,o,sp⟩:=a
   simp only[Bool.or_eq_true,beq_iff_eq,h0,false_or,Bool.and_eq_true,Nat.ble_eq,Option.isNone_iff_eq_none] at h
   obtain⟨h1,rfl⟩:=h
   have hm:=Mp.tK plA (sL b o)
   rw[O2] at hm
   exact .slice (m:=Mp.kQ plA) (r:=b) (s:=o) (o:=0) hm (by omega) (by omega) (by omega) (by omega) (by omega)
 ·rename_i hne
  rw[N3 h]
  exact .bJ h
def kP (W:World) (r s:Nat):List Value:=match W.heap[r]? with
 | some (.cells c _ _)=>((c.toList.drop s).takeWhile fw).map trV
 | _ => []
noncomputable def Be (G:Nat→Option (List Value)) (W:World) (b:Nat):Option (List Value):=if b<4294967296 then G b else
 (match W.heap[(plA (b - 4294967296)).1]? with
  | some (.cells c _ _)=>if (plA (b - 4294967296)).2≤c.size then some (kP W (plA (b - 4294967296)).1 (plA (b - 4294967296)).2) else none
  | _=>none)
theorem rM {α:Type} (p:α→Bool) : ∀(l:List α) (i:Nat) (x:α),(l.takeWhile p)[i]?=some x→l[i]?=some x∧p x=true
 | [],i,x,h=>by simp at h
 | a :: l,i,x,h=>by
  rw[List.takeWhile_cons] at h
  by_cases hp:p a=true
  ·rw[if_pos hp] at h
   cases i with
   | zero=>simp at h;subst h;exact⟨rfl,hp⟩
   | succ i=>simpa using rM p l i x (by simpa using h)
  ·rw[if_neg hp] at h;simp at h
theorem pU {α:Type} (p:α→Bool) : ∀(l:List α) (n:Nat),n≤l.length→(∀x∈l.take n,p x=true)→(l.takeWhile p).take n=l.take n∧n≤(l.takeWhile p).length
 | l,0,_,_=>by simp
 | [],n+1,h,_=>by simp at h
 | a :: l,n+1,h,hp=>by
  have h1:p a=true:=hp a (by simp)
  obtain⟨h2,h3⟩:=pU p l n (by simpa using h) (fun x hx=>hp x (by simp[hx]))
  rw[List.takeWhile_cons,if_pos h1]
  simp[h2,h3]
theorem RI {W:World} {G:Nat→Option (List Value)} (hG : ∀b cs,G b=some cs → ∃c el fz,W.heap[b]?=some (.cells c el fz)∧cs.length≤c.size ∧ ∀(j:Nat) (x:Value),cs[j]?=some x→c[j]?=some x∧bJ x=true):IM plA (Be G W) W:=by
 intro b cs hb
 unfold Be at hb
 split at hb
 ·rename_i hlt
  obtain⟨c,el,fz,h1,h2,h3⟩:=hG b cs hb
  refine⟨b,0,Mp.wy _ hlt,c,el,fz,h1,by omega,fun i v hv=>?_⟩
  obtain⟨h4,h5⟩:=h3 i v hv
  exact⟨v,by rw[Nat.zero_add];exact h4,.bJ h5⟩
 ·rename_i hge
  have hm:=Mp.tK plA (b - 4294967296)
  rw[show 4294967296+(b - 4294967296)=b from by omega] at hm
  obtain⟨r,s,hrs⟩ : ∃r s,plA (b - 4294967296)=(r,s):=⟨_,_,rfl⟩
  rw[hrs] at hm hb
  simp only at hb
  split at hb
  ·rename_i c el fz hh
   split at hb
   ·rename_i hs
    cases hb
    refine⟨r,s,hm,c,el,fz,hh,?_,fun i v hv=>?_⟩
    ·have:(kP W r s).length≤(c.toList.drop s).length:=by
      simp only[kP,hh,List.length_map]
      exact(List.takeWhile_sublist _).length_le
     rw[List.length_drop] at this
     have e:c.toList.length=c.size:=Array.length_toList
     have e2:(kP W r s).toArray.size=(kP W r s).length:=rfl
     simp only[Array.length_toList] at *
     omega
    ·simp only[kP,hh,List.getElem?_map,Option.map_eq_some_iff] at hv
     obtain⟨y,hy,rfl⟩:=hv
     obtain⟨h1,h2⟩:=rM _ _ _ _ hy
     rw[List.getElem?_drop,Array.getElem?_toList] at h1
     exact⟨y,h1,Jb h2⟩
   ·cases hb
  ·cases hb
section
variable {H:Type} {enc:TypeId×Value→H} {P:Program} {W:World} {held:Bool}
theorem G3 {t e:TypeId} (ht:P.underlying t=some (.slice e)) {z:Nat} (hz:P.cellsOf e=z) (z0:0<z) {R:List Value→Prop}
  (elem : ∀(n:Nat) (cs:List Value) (x:DataW H×List MemPlace),DataW.trod enc P W 0 (fun _=>true) held n e cs=some x→R cs ∧ ∀y∈cs,fw y=true) (G:Nat→Option (List Value))
  {fuel:Nat} {cs0:List Value} {x:DataW H×List MemPlace} (h:DataW.trod enc P W 0 (fun _=>true) held fuel t cs0=some x) :
  ∃(v:Value) (n:Nat) (cs:List Value),cs0 = [v]∧fw v=true∧n≤maxLen∧bI (IH.start (Be G W)) z (trV v) n (cs.map trV) ∧ ∀i,i<n→R ((cs.drop (i*z)).take z):=by
 rcases open_slice ht h with⟨h1,_⟩|⟨a,len,capp,m,k,D,Pl,h1,_,hl,mB,hm,_,hx⟩
 ·subst h1
  exact⟨_,0,[],rfl,rfl,Nat.zero_le _,bI.nil _ z0,fun i hi=>by omega⟩
 ·subst h1
  simp only[if_true] at hm
  subst hm
  rw[hz] at hx
  rcases Nat.eq_zero_or_pos len with rfl|h0
  ·refine⟨_,0,[],rfl,by simp[fw],Nat.zero_le _,?_,fun i hi=>by omega⟩
   simp only[trV,if_true]
   exact⟨z0,by simp,.inr ⟨1,0,0,rfl,.inl ⟨rfl,rfl⟩⟩⟩
  ·have spot:a.spot=none:=by
    obtain⟨cs',h1,_⟩:=hx 0 (by omega)
    obtain⟨_,hlen,hc⟩:=World.cells?_some h1
    have:=hc 0 z0
    rw[List.getElem?_eq_getElem (by omega),Nat.zero_mul] at this
    unfold World.cell? at this
    simp only[Addr.add,if_true] at this
    split at this
    ·split at this
     ·cases this
     ·rename_i h3;simpa using h3
    ·cases this
   have SM : ∀j,a.add j=⟨a.block,a.off+j,none⟩:=fun j=>by
    unfold Addr.add
    split
    ·rename_i h0;subst h0;rw[←spot];rfl
    ·rfl
   have key : ∀i,i<len → ∃cs':List Value,cs'.length=z∧(∀j,j<z→W.cell? ⟨a.block,a.off+(i*z+j),none⟩=cs'[j]?)∧R cs' ∧ ∀y∈cs',fw y=true:=by
    intro i hi
    obtain⟨cs',h1,h2⟩:=hx i (by omega)
    obtain⟨_,hlen,hc⟩:=World.cells?_some h1
    obtain⟨h4,h5⟩:=elem k cs' _ h2
    refine⟨cs',hlen,fun j hj=>?_,h4,h5⟩
    have h3:=hc j hj
    rw[add_add,SM] at h3
    exact h3
   obtain⟨c,el,fz,hh⟩ : ∃c el fz,W.heap[a.block]?=some (.cells c el fz):=by
    obtain⟨cs',hl0,h1,_⟩:=key 0 h0
    have:=h1 0 z0
    rw[List.getElem?_eq_getElem (by omega)] at this
    unfold World.cell? at this
    split at this
    ·rename_i c el fz hh;exact⟨c,el,fz,hh⟩
    ·cases this
   have cell : ∀j,W.cell? ⟨a.block,j,none⟩=c[j]?:=fun j=>by
    unfold World.cell?
    rw[hh]
    simp
   have hsz:a.off+len*z≤c.size:=by
    obtain⟨cs',hl0,h1,_⟩:=key (len - 1) (by omega)
    have:=h1 (z - 1) (by omega)
    rw[cell,List.getElem?_eq_getElem (by omega)] at this
    have:=(Array.getElem?_eq_some_iff.1 this).1
    have e:(len - 1)*z+z=len*z:=by rw[←Nat.succ_mul];congr 1;omega
    omega
   have hat : ∀j,j<len*z → ∃y,c[a.off+j]?=some y∧fw y=true:=by
    intro j hj
    have hi:j / z<len:=(Nat.div_lt_iff_lt_mul z0).2 hj
    have hr:j % z<z:=Nat.mod_lt _ z0
    have hjz:j / z*z+j % z=j:=by rw[Nat.mul_comm];exact Nat.div_add_mod j z
    obtain⟨cs',hl0,h1,_,h5⟩:=key (j / z) hi
    have:=h1 (j % z) hr
    rw[hjz,cell,List.getElem?_eq_getElem (by omega)] at this
    exact⟨_,this,h5 _ (List.getElem_mem _)⟩
   have fK : ∀y∈(c.toList.drop a.off).take (len*z),fw y=true:=by
    intro y hy
    obtain⟨j,hj⟩:=List.mem_iff_getElem?.1 hy
    rw[List.getElem?_take] at hj
    split at hj
    ·rename_i hjl
     rw[List.getElem?_drop,Array.getElem?_toList] at hj
     obtain⟨y',h1,h2⟩:=hat j hjl
     rw[hj] at h1;cases h1;exact h2
    ·cases hj
   have hdl:len*z≤(c.toList.drop a.off).length:=by rw[List.length_drop,Array.length_toList];omega
   obtain⟨tw1,tw2⟩:=pU fw _ _ hdl fK
   refine⟨_,len,(c.toList.drop a.off).take (len*z),rfl,?_,by omega,?_,fun i hi=>?_⟩
   ·simp[fw,spot,hl]
   ·simp only[trV,if_neg (by omega : ¬len=0)]
    have uw:0<len*z:=Nat.mul_pos h0 z0
    refine⟨z0,by simp[List.length_take];rw[List.length_drop,Array.length_toList] at hdl;omega,.inr ⟨2*(4294967296+sL a.block a.off)+1,0,_,rfl,.inr ⟨by omega,by omega,kP W a.block a.off,.inl ⟨by omega,by omega⟩,?_,?_,?_⟩⟩⟩
    ·have e1:((2*(4294967296+sL a.block a.off)+1) % 2 == 1)=true:=by simp
     have e2:(2*(4294967296+sL a.block a.off)+1) / 2=4294967296+sL a.block a.off:=by omega
     simp only[IH.row,e1,cond_true,e2,IH.start,Be]
     rw[if_neg (by omega),show 4294967296+sL a.block a.off - 4294967296=sL a.block a.off from by omega,O2]
     simp only[hh]
     rw[if_pos (by omega)]
    ·rw[List.drop_zero]
     simp only[kP,hh]
     rw[←List.map_take,tw1]
    ·simp only[kP,hh,List.length_map]
     omega
   ·have hlz:i*z+z≤len*z:=by
     rw[←Nat.succ_mul];exact Nat.mul_le_mul_right _ hi
    obtain⟨cs',hl0,h1,h4,_⟩:=key i hi
    have:(((c.toList.drop a.off).take (len*z)).drop (i*z)).take z=cs':=by
     apply List.ext_getElem?
     intro j
     rw[List.getElem?_take]
     by_cases hj:j<z
     ·rw[if_pos hj,List.getElem?_drop,List.getElem?_take,if_pos (by omega),List.getElem?_drop,Array.getElem?_toList,←cell,h1 j hj]
     ·rw[if_neg hj,List.getElem?_eq_none (by omega)]
    rw[this]
    exact h4
end
end Go.Id

namespace Go.Proofs.YtjhnilfelokpcaaGreat
open Go.ChangeShapes Go.WideShapes Go.ChangeAt Go.RowKit Go.Id
theorem Tryz.own:ownKnob Tryz.prog.godebug=none:=by kernel_rfl
theorem Tryz.laidOut:laidOutB Tryz.prog=true:=by kernel_rfl
theorem Tryz.mapsOut:mapsRowed Tryz.prog=true:=by kernel_rfl
theorem Tryz.kids:Kids Tryz.prog (· < Tryz.prog.types.size):=kids_rows Tryz.laidOut Tryz.mapsOut
theorem Tryz.slices:((List.range Tryz.prog.types.size).all fun t=>match Tryz.prog.underlying t with
 | some (.slice e)=>decide (0<Tryz.prog.cellsOf e)
 | _=>true)=true:=by kernel_rfl
theorem Tryz.pos {t e:TypeId} (h:t<Tryz.prog.types.size) (hu:Tryz.prog.underlying t=some (.slice e)):0<Tryz.prog.cellsOf e:=by
 have:=List.all_eq_true.1 Tryz.slices t (by simpa using h)
 rw[hu] at this
 simpa using this
theorem Tryz.sound:Sound (E0 Tryz.prog):=UO (by kernel_rfl) (by kernel_rfl)
end Go.Proofs.YtjhnilfelokpcaaGreat

namespace Go.Id
open Go
abbrev K64 (n:Nat):Value:=.int .u64 (n:Int)
abbrev KI (n:Int):Value:=.int .i64 n
theorem fC {w:Nat} {a:Nat} (h:a<2 ^ w):(BitVec.ofInt w (a:Int)).toNat=a:=by
 simp[Nat.mod_eq_of_lt h]
theorem bv_and {w a b:Nat} (ha:a<2 ^ w) (hb:b<2 ^ w):(BitVec.ofInt w (a:Int) &&& BitVec.ofInt w (b:Int)).toNat=a &&& b:=by
 rw[BitVec.toNat_and,fC ha,fC hb]
theorem Uh {w a b:Nat} (ha:a<2 ^ w) (hb:b<2 ^ w):(BitVec.ofInt w (a:Int) ||| BitVec.ofInt w (b:Int)).toNat=a ||| b:=by
 rw[BitVec.toNat_or,fC ha,fC hb]
theorem VY {w a b:Nat} (ha:a<2 ^ w) (hb:b<2 ^ w):(BitVec.ofInt w (a:Int) ^^^ BitVec.ofInt w (b:Int)).toNat=a ^^^ b:=by
 rw[BitVec.toNat_xor,fC ha,fC hb]
theorem VZ {w a b:Nat} (ha:a<2 ^ w) (hb:b<2 ^ w):(BitVec.ofInt w (a:Int) &&& ~~~BitVec.ofInt w (b:Int)).toNat=Ms a b:=by
 apply Nat.eq_of_testBit_eq
 intro i
 rw[CK,BitVec.toNat_and,Nat.testBit_and,fC ha,BitVec.testBit_toNat,BitVec.getLsbD_not,←BitVec.testBit_toNat,fC hb]
 by_cases hi:i<w
 ·simp[hi]
 ·rw[Nat.testBit_lt_two_pow (Nat.lt_of_lt_of_le ha (Nat.pow_le_pow_right (by omega) (by omega)))];simp
section
variable (P:Program) (t:TypeId) (ox oy:Operand) {a b:Int}
theorem Q8 (ha:0≤a∧a<18446744073709551616) (hb:0≤b∧b<18446744073709551616):binop P .and t ox oy (.int .u64 a) (.int .u64 b)=some (.int .u64 ((a.toNat &&& b.toNat:Nat):Int)):=by
 obtain⟨m,rfl⟩:=Int.eq_ofNat_of_zero_le ha.1;obtain⟨n,rfl⟩:=Int.eq_ofNat_of_zero_le hb.1
 have h1:m<2 ^ 64:=by omega
 rw[jZ,show(BitVec.ofInt IntKind.u64.bits (m:Int) &&& BitVec.ofInt IntKind.u64.bits (n:Int)).toNat=m &&& n from bv_and (w:=64) h1 (by omega),di (II h1)];rfl
theorem Ul (ha:0≤a∧a<18446744073709551616) (hb:0≤b∧b<18446744073709551616):binop P .or t ox oy (.int .u64 a) (.int .u64 b)=some (.int .u64 ((a.toNat ||| b.toNat:Nat):Int)):=by
 obtain⟨m,rfl⟩:=Int.eq_ofNat_of_zero_le ha.1;obtain⟨n,rfl⟩:=Int.eq_ofNat_of_zero_le hb.1
 have h1:m<2 ^ 64:=by omega
 rw[pj,show(BitVec.ofInt IntKind.u64.bits (m:Int) ||| BitVec.ofInt IntKind.u64.bits (n:Int)).toNat=m ||| n from Uh (w:=64) h1 (by omega),di (O8 h1 (by omega))];rfl
theorem QY (ha:0≤a∧a<18446744073709551616) (hb:0≤b∧b<18446744073709551616):binop P .xor t ox oy (.int .u64 a) (.int .u64 b)=some (.int .u64 ((a.toNat ^^^ b.toNat:Nat):Int)):=by
 obtain⟨m,rfl⟩:=Int.eq_ofNat_of_zero_le ha.1;obtain⟨n,rfl⟩:=Int.eq_ofNat_of_zero_le hb.1
 have h1:m<2 ^ 64:=by omega
 rw[rX,show(BitVec.ofInt IntKind.u64.bits (m:Int) ^^^ BitVec.ofInt IntKind.u64.bits (n:Int)).toNat=m ^^^ n from VY (w:=64) h1 (by omega),di (Nat.xor_lt_two_pow h1 (by omega))];rfl
theorem Q7 (ha:0≤a∧a<18446744073709551616) (hb:0≤b∧b<18446744073709551616):binop P .andNot t ox oy (.int .u64 a) (.int .u64 b)=some (.int .u64 ((Ms a.toNat b.toNat:Nat):Int)):=by
 obtain⟨m,rfl⟩:=Int.eq_ofNat_of_zero_le ha.1;obtain⟨n,rfl⟩:=Int.eq_ofNat_of_zero_le hb.1
 have h1:m<2 ^ 64:=by omega
 rw[wg,show(BitVec.ofInt IntKind.u64.bits (m:Int) &&& ~~~BitVec.ofInt IntKind.u64.bits (n:Int)).toNat=Ms m n from VZ (w:=64) h1 (by omega),di (Sh h1)];rfl
theorem Q9 (ha:0≤a∧a<9223372036854775808) (hb:0≤b∧b<9223372036854775808):binop P .and t ox oy (.int .i64 a) (.int .i64 b)=some (.int .i64 ((a.toNat &&& b.toNat:Nat):Int)):=by
 obtain⟨m,rfl⟩:=Int.eq_ofNat_of_zero_le ha.1;obtain⟨n,rfl⟩:=Int.eq_ofNat_of_zero_le hb.1
 have h1:m<2 ^ 63:=by omega
 rw[jZ,show(BitVec.ofInt IntKind.i64.bits (m:Int) &&& BitVec.ofInt IntKind.i64.bits (n:Int)).toNat=m &&& n from bv_and (w:=64) (by omega) (by omega),kN (II h1)];rfl
theorem Um (ha:0≤a∧a<9223372036854775808) (hb:0≤b∧b<9223372036854775808):binop P .or t ox oy (.int .i64 a) (.int .i64 b)=some (.int .i64 ((a.toNat ||| b.toNat:Nat):Int)):=by
 obtain⟨m,rfl⟩:=Int.eq_ofNat_of_zero_le ha.1;obtain⟨n,rfl⟩:=Int.eq_ofNat_of_zero_le hb.1
 have h1:m<2 ^ 63:=by omega
 rw[pj,show(BitVec.ofInt IntKind.i64.bits (m:Int) ||| BitVec.ofInt IntKind.i64.bits (n:Int)).toNat=m ||| n from Uh (w:=64) (by omega) (by omega),kN (O8 h1 (by omega))];rfl
theorem GF (ha:0<a∧a<9223372036854775808):binop P .and t ox oy (.int .i64 a) (.int .i64 (-a))=some (.int .i64 ((2 ^ 64 - a.toNat &&& a.toNat:Nat):Int)):=by
 obtain⟨m,rfl⟩:=Int.eq_ofNat_of_zero_le (Int.le_of_lt ha.1)
 have h1:m<2 ^ 63:=by omega
 have h2:BitVec.ofInt 64 (-(m:Int))=BitVec.ofInt 64 ((2 ^ 64 - m:Nat):Int):=by
  apply BitVec.eq_of_toNat_eq
  rw[BitVec.toNat_ofInt,BitVec.toNat_ofInt]
  congr 1
  omega
 rw[jZ,show(BitVec.ofInt IntKind.i64.bits (m:Int) &&& BitVec.ofInt IntKind.i64.bits (-(m:Int))).toNat=2 ^ 64 - m &&& m from by
  show(BitVec.ofInt 64 (m:Int) &&& BitVec.ofInt 64 (-(m:Int))).toNat=_
  rw[h2,bv_and (by omega) (by omega),Nat.and_comm],kN (Nat.lt_of_le_of_lt Nat.and_le_right h1)];rfl
theorem Gd (m n:Nat) (k:Nat) (h:m<2 ^ k):Int.fdiv (m:Int) (2 ^ min n k)=((m >>> n:Nat):Int):=by
 have e:(2:Int) ^ min n k=((2 ^ min n k:Nat):Int):=by simp
 rw[e,Int.fdiv_eq_ediv_of_nonneg _ (Int.natCast_nonneg _),←Int.natCast_ediv,Nat.shiftRight_eq_div_pow]
 by_cases hn:n≤k
 ·rw[Nat.min_eq_left hn]
 ·rw[Nat.min_eq_right (by omega),Nat.div_eq_of_lt h,Nat.div_eq_of_lt (Nat.lt_of_lt_of_le h (Nat.pow_le_pow_right (by omega) (by omega)))]
def l8 (a n:Nat):Nat:=a >>> n
theorem Sf (a n:Nat):l8 a n≤a:=Nat.shiftRight_le a n
theorem Oo {j:IntKind} (ha:0≤a∧a<18446744073709551616) (hb:0≤b):binop P .shr t ox oy (.int .u64 a) (.int j b)=some (.int .u64 ((l8 a.toNat b.toNat:Nat):Int)):=by
 obtain⟨m,rfl⟩:=Int.eq_ofNat_of_zero_le ha.1;obtain⟨n,rfl⟩:=Int.eq_ofNat_of_zero_le hb
 rw[vY P t ox oy (by omega)]
 show some (Value.int .u64 (Int.fdiv (m:Int) (2 ^ min n 64)))=_
 rw[Gd m n 64 (by omega)];rfl
theorem TF {j:IntKind} (ha:0≤a∧a<9223372036854775808) (hb:0≤b):binop P .shr t ox oy (.int .i64 a) (.int j b)=some (.int .i64 ((l8 a.toNat b.toNat:Nat):Int)):=by
 obtain⟨m,rfl⟩:=Int.eq_ofNat_of_zero_le ha.1;obtain⟨n,rfl⟩:=Int.eq_ofNat_of_zero_le hb
 rw[vY P t ox oy (by omega)]
 show some (Value.int .i64 (Int.fdiv (m:Int) (2 ^ min n 64)))=_
 rw[Gd m n 64 (by omega)];rfl
theorem Oq {j:IntKind} (hb:0≤b∧b<64):binop P .shl t ox oy (.int .u64 1) (.int j b)=some (.int .u64 ((2 ^ b.toNat:Nat):Int)):=by
 obtain⟨n,rfl⟩:=Int.eq_ofNat_of_zero_le hb.1
 rw[ov P t ox oy (by omega)]
 show some (Value.int .u64 (IntKind.u64.wrap (1*2 ^ min n 64)))=_
 rw[Nat.min_eq_left (by omega),Int.one_mul,show(2:Int) ^ n=((2 ^ n:Nat):Int) from by simp,di (Nat.pow_lt_pow_right (by omega) (by omega))];rfl
theorem Ot {j:IntKind} (hb:0≤b∧b<63):binop P .shl t ox oy (.int .i64 1) (.int j b)=some (.int .i64 ((2 ^ b.toNat:Nat):Int)):=by
 obtain⟨n,rfl⟩:=Int.eq_ofNat_of_zero_le hb.1
 rw[ov P t ox oy (by omega)]
 show some (Value.int .i64 (IntKind.i64.wrap (1*2 ^ min n 64)))=_
 rw[Nat.min_eq_left (by omega),Int.one_mul,show(2:Int) ^ n=((2 ^ n:Nat):Int) from by simp,kN (Nat.pow_lt_pow_right (by omega) (by omega))];rfl
theorem TL (ha:0≤a∧a<9223372036854775808) (hb:0<b):binop P .quo t ox oy (.int .i64 a) (.int .i64 b)=some (.int .i64 (a / b)):=by
 rw[rp P t ox oy (by omega),Int.tdiv_eq_ediv_of_nonneg ha.1]
 have h1:0≤a / b:=Int.ediv_nonneg ha.1 (by omega)
 have h2:a / b≤a:=Int.ediv_le_self _ ha.1
 rw[wrap_i64 (by omega)]
theorem OQ (ha:0≤a∧a<18446744073709551616) (hb:0<b):binop P .quo t ox oy (.int .u64 a) (.int .u64 b)=some (.int .u64 (a / b)):=by
 rw[rp P t ox oy (by omega),Int.tdiv_eq_ediv_of_nonneg ha.1]
 have h1:0≤a / b:=Int.ediv_nonneg ha.1 (by omega)
 have h2:a / b≤a:=Int.ediv_le_self _ ha.1
 rw[tC (by omega)]
theorem OK {k:IntKind} (ha:0≤a) (hb:0<b):binop P .rem t ox oy (.int k a) (.int k b)=some (.int k (a % b)):=by
 rw[rk P t ox oy (by omega),Int.tmod_eq_emod_of_nonneg ha]
end
theorem TJ (h:IH) (b o n:Nat):h.rd b o n=(h.row b).bind fun cs=>if o+n≤cs.length then some ((cs.drop o).take n) else none:=by
 cases hr:h.row b with
 | none=>simp[IH.rd,hr]
 | some cs=>rw[tY hr];rfl
end Go.Id

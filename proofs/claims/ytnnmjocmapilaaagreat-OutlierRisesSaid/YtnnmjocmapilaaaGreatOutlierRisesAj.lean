/-
  From the ideal machine to a row, storage of any depth: every place of the world has its nu
-/
import Derived.Test.YtnnmjocmapilaaaGreatOutlierRisesAi
import Derived.Test.YtnnmjocmapilaaaGreatRows
import Derived.ProofKit
set_option linter.unusedVariables false
set_option linter.unusedSimpArgs false
set_option linter.defProp false
set_option linter.deprecated false
namespace Go.Id
open Go Go.RowKit Go.ChangeShapes Go.WideShapes Go.Deep
def ue (r s:Nat):Nat:=(r+s)*(r+s)+s
def Rn {a b c d:Nat} (h:ue a b=ue c d):a=c∧b=d:=by
 have key : ∀{x y u v:Nat},u≤x→v≤y→x<y→x*x+u≠y*y+v:=by
  intro x y u v hu hv hxy e
  have h1:(x+1)*(x+1)≤y*y:=Nat.mul_le_mul hxy hxy
  have h2:(x+1)*(x+1)=x*x+2*x+1:=by rw[Nat.add_mul,Nat.mul_add];omega
  omega
 unfold ue at h
 rcases Nat.lt_trichotomy (a+b) (c+d) with hl|he|hg
 ·exact absurd h (key (by omega) (by omega) hl)
 ·rw[he] at h;omega
 ·exact absurd h.symm (key (by omega) (by omega) hg)
open Classical in
noncomputable def plA (i:Nat):Nat×Nat:=if h : ∃p:Nat×Nat,ue p.1 p.2=i then Classical.choose h else (0,0)
theorem Ro (r s:Nat):plA (ue r s)=(r,s):=by
 have h : ∃p:Nat×Nat,ue p.1 p.2=ue r s:=⟨(r,s),rfl⟩
 unfold plA
 rw[dif_pos h]
 obtain⟨h1,h2⟩:=Rn (Classical.choose_spec h)
 exact Prod.ext h1 h2
def dB:Value→Bool
 | .slice (some a) n cap=>n == 0 || (Nat.ble n cap && a.spot.isNone)
 | v=>bA v
def trV:Value→Value
 | .slice (some a) n cap=>if n=0 then .slice (some ⟨1,0,none⟩) 0 0 else .slice (some ⟨2*(4294967296+ue a.block a.off)+1,0,none⟩) n (2*cap+1)
 | v=>v
variable {v:Value}
theorem Qv (h:bA v=true):trV v=v:=by
 unfold trV
 split
 ·simp[bA] at h
 ·rfl
def kD (h:dB v=true):aG (Mp.lT plA) (trV v) v:=by
 unfold dB at h
 split at h
 ·rename_i a n cap
  simp only[trV]
  by_cases h0:n=0
  ·subst h0
   simp only[if_true]
   exact .lost
  ·simp only[if_neg h0]
   obtain⟨b,o,sp⟩:=a
   simp only[Bool.or_eq_true,beq_iff_eq,h0,false_or,Bool.and_eq_true,Nat.ble_eq,Option.isNone_iff_eq_none] at h
   obtain⟨h1,rfl⟩:=h
   have hm:=Mp.uV plA (ue b o)
   rw[Ro] at hm
   exact .slice (m:=Mp.lT plA) (r:=b) (s:=o) (o:=0) hm (by omega) (by omega) (by omega) (by omega) (by omega)
 ·rename_i hne
  rw[Qv h]
  exact .bA h
def lP (W:World) (r s:Nat):List Value:=match W.heap[r]? with
 | some (.cells c _ _)=>((c.toList.drop s).takeWhile dB).map trV
 | _ => []
noncomputable def zP (G:Nat→Option (List Value)) (W:World) (b:Nat):Option (List Value):=if b<4294967296 then G b else
 (match W.heap[(plA (b - 4294967296)).1]? with
  | some (.cells c _ _)=>if (plA (b - 4294967296)).2≤c.size then some (lP W (plA (b - 4294967296)).1 (plA (b - 4294967296)).2) else none
  | _=>none)
variable {α:Type}
def tB (p:α→Bool) : ∀(l:List α) (i:Nat) (x:α),(l.takeWhile p)[i]?=some x→l[i]?=some x∧p x=true
 | [],i,x,h=>by simp at h
 | a :: l,i,x,h=>by
  rw[List.takeWhile_cons] at h
  by_cases hp:p a=true
  ·rw[if_pos hp] at h
   cases i with
   | zero=>simp at h;subst h;exact⟨rfl,hp⟩
   | succ i=>simpa using tB p l i x (by simpa using h)
  ·rw[if_neg hp] at h;simp at h
def qM (p:α→Bool) : ∀(l:List α) (n:Nat),n≤l.length→(∀x∈l.take n,p x=true)→(l.takeWhile p).take n=l.take n∧n≤(l.takeWhile p).length
 | l,0,_,_=>by simp
 | [],n+1,h,_=>by simp at h
 | a :: l,n+1,h,hp=>by
  have h1:p a=true:=hp a (by simp)
  obtain⟨h2,h3⟩:=qM p l n (by simpa using h) (fun x hx=>hp x (by simp[hx]))
  rw[List.takeWhile_cons,if_pos h1]
  simp[h2,h3]
def Ug {W:World} {G:Nat→Option (List Value)} (hG : ∀b cs,G b=some cs → ∃c el fz,W.heap[b]?=some (.cells c el fz)∧cs.length≤c.size ∧ ∀(j:Nat) (x:Value),cs[j]?=some x→c[j]?=some x∧bA x=true):Lb plA (zP G W) W:=by
 intro b cs hb
 unfold zP at hb
 split at hb
 ·rename_i hlt
  obtain⟨c,el,fz,h1,h2,h3⟩:=hG b cs hb
  refine⟨b,0,Mp.xO _ hlt,c,el,fz,h1,by omega,fun i v hv=>?_⟩
  obtain⟨h4,h5⟩:=h3 i v hv
  exact⟨v,by rw[Nat.zero_add];exact h4,.bA h5⟩
 ·rename_i hge
  have hm:=Mp.uV plA (b - 4294967296)
  rw[show 4294967296+(b - 4294967296)=b from by omega] at hm
  obtain⟨r,s,hrs⟩ : ∃r s,plA (b - 4294967296)=(r,s):=⟨_,_,rfl⟩
  rw[hrs] at hm hb
  simp only at hb
  split at hb
  ·rename_i c el fz hh
   split at hb
   ·rename_i hs
    cases hb
    refine⟨r,s,hm,c,el,fz,hh,?_,fun i v hv=>?_⟩
    ·have:(lP W r s).length≤(c.toList.drop s).length:=by
      simp only[lP,hh,List.length_map]
      exact(List.takeWhile_sublist _).length_le
     rw[List.length_drop] at this
     have e:c.toList.length=c.size:=Array.length_toList
     have e2:(lP W r s).toArray.size=(lP W r s).length:=rfl
     simp only[Array.length_toList] at *
     omega
    ·simp only[lP,hh,List.getElem?_map,Option.map_eq_some_iff] at hv
     obtain⟨y,hy,rfl⟩:=hv
     obtain⟨h1,h2⟩:=tB _ _ _ _ hy
     rw[List.getElem?_drop,Array.getElem?_toList] at h1
     exact⟨y,h1,kD h2⟩
   ·cases hb
  ·cases hb
section
variable {H:Type} {enc:TypeId×Value→H} {P:Program} {W:World} {held:Bool}
def tY {t e:TypeId} (ht:P.underlying t=some (.slice e)) {z:Nat} (hz:P.cellsOf e=z) (z0:0<z) {R:List Value→Prop}
  (elem : ∀(n:Nat) (cs:List Value) (x:DataW H×List MemPlace),DataW.trod enc P W 0 (fun _=>true) held n e cs=some x→R cs ∧ ∀y∈cs,dB y=true) (G:Nat→Option (List Value))
  {fuel:Nat} {cs0:List Value} {x:DataW H×List MemPlace} (h:DataW.trod enc P W 0 (fun _=>true) held fuel t cs0=some x) :
  ∃(v:Value) (n:Nat) (cs:List Value),cs0 = [v]∧dB v=true∧n≤maxLen∧bH (IH.start (zP G W)) z (trV v) n (cs.map trV) ∧ ∀i,i<n→R ((cs.drop (i*z)).take z):=by
 rcases open_slice ht h with⟨h1,_⟩|⟨a,len,capp,m,k,D,Pl,h1,_,hl,mQ,hm,_,hx⟩
 ·subst h1
  exact⟨_,0,[],rfl,rfl,Nat.zero_le _,bH.nil _ z0,fun i hi=>by omega⟩
 ·subst h1
  simp only[if_true] at hm
  subst hm
  rw[hz] at hx
  rcases Nat.eq_zero_or_pos len with rfl|h0
  ·refine⟨_,0,[],rfl,by simp[dB],Nat.zero_le _,?_,fun i hi=>by omega⟩
   simp only[trV,if_true]
   exact⟨z0,by simp,.inr ⟨1,0,0,rfl,.inl ⟨rfl,rfl⟩⟩⟩
  ·have spot:a.spot=none:=by
    obtain⟨cs',h1,_⟩:=hx 0 (by omega)
    obtain⟨_,hlen,hc⟩:=World.cells?_some h1
    have:=hc 0 z0
    rw[List.getElem?_eq_getElem (by omega),Nat.zero_mul] at this
    unfold World.cell? at this
    simp only[Addr.add,if_true] at this
    split at this
    ·split at this
     ·cases this
     ·rename_i h3;simpa using h3
    ·cases this
   have Vz : ∀j,a.add j=⟨a.block,a.off+j,none⟩:=fun j=>by
    unfold Addr.add
    split
    ·rename_i h0;subst h0;rw[←spot];rfl
    ·rfl
   have key : ∀i,i<len → ∃cs':List Value,cs'.length=z∧(∀j,j<z→W.cell? ⟨a.block,a.off+(i*z+j),none⟩=cs'[j]?)∧R cs' ∧ ∀y∈cs',dB y=true:=by
    intro i hi
    obtain⟨cs',h1,h2⟩:=hx i (by omega)
    obtain⟨_,hlen,hc⟩:=World.cells?_some h1
    obtain⟨h4,h5⟩:=elem k cs' _ h2
    refine⟨cs',hlen,fun j hj=>?_,h4,h5⟩
    have h3:=hc j hj
    rw[add_add,Vz] at h3
    exact h3
   obtain⟨c,el,fz,hh⟩ : ∃c el fz,W.heap[a.block]?=some (.cells c el fz):=by
    obtain⟨cs',hl0,h1,_⟩:=key 0 h0
    have:=h1 0 z0
    rw[List.getElem?_eq_getElem (by omega)] at this
    unfold World.cell? at this
    split at this
    ·rename_i c el fz hh;exact⟨c,el,fz,hh⟩
    ·cases this
   have cell : ∀j,W.cell? ⟨a.block,j,none⟩=c[j]?:=fun j=>by
    unfold World.cell?
    rw[hh]
    simp
   have hsz:a.off+len*z≤c.size:=by
    obtain⟨cs',hl0,h1,_⟩:=key (len - 1) (by omega)
    have:=h1 (z - 1) (by omega)
    rw[cell,List.getElem?_eq_getElem (by omega)] at this
    have:=(Array.getElem?_eq_some_iff.1 this).1
    have e:(len - 1)*z+z=len*z:=by rw[←Nat.succ_mul];congr 1;omega
    omega
   have hat : ∀j,j<len*z → ∃y,c[a.off+j]?=some y∧dB y=true:=by
    intro j hj
    have hi:j / z<len:=(Nat.div_lt_iff_lt_mul z0).2 hj
    have hr:j % z<z:=Nat.mod_lt _ z0
    have hjz:j / z*z+j % z=j:=by rw[Nat.mul_comm];exact Nat.div_add_mod j z
    obtain⟨cs',hl0,h1,_,h5⟩:=key (j / z) hi
    have:=h1 (j % z) hr
    rw[hjz,cell,List.getElem?_eq_getElem (by omega)] at this
    exact⟨_,this,h5 _ (List.getElem_mem _)⟩
   have eF : ∀y∈(c.toList.drop a.off).take (len*z),dB y=true:=by
    intro y hy
    obtain⟨j,hj⟩:=List.mem_iff_getElem?.1 hy
    rw[List.getElem?_take] at hj
    split at hj
    ·rename_i hjl
     rw[List.getElem?_drop,Array.getElem?_toList] at hj
     obtain⟨y',h1,h2⟩:=hat j hjl
     rw[hj] at h1;cases h1;exact h2
    ·cases hj
   have hdl:len*z≤(c.toList.drop a.off).length:=by rw[List.length_drop,Array.length_toList];omega
   obtain⟨tw1,tw2⟩:=qM dB _ _ hdl eF
   refine⟨_,len,(c.toList.drop a.off).take (len*z),rfl,?_,by omega,?_,fun i hi=>?_⟩
   ·simp[dB,spot,hl]
   ·simp only[trV,if_neg (by omega : ¬len=0)]
    have vO:0<len*z:=Nat.mul_pos h0 z0
    refine⟨z0,by simp[List.length_take];rw[List.length_drop,Array.length_toList] at hdl;omega,.inr ⟨2*(4294967296+ue a.block a.off)+1,0,_,rfl,.inr ⟨by omega,by omega,lP W a.block a.off,.inl ⟨by omega,by omega⟩,?_,?_,?_⟩⟩⟩
    ·have e1:((2*(4294967296+ue a.block a.off)+1) % 2 == 1)=true:=by simp
     have e2:(2*(4294967296+ue a.block a.off)+1) / 2=4294967296+ue a.block a.off:=by omega
     simp only[IH.row,e1,cond_true,e2,IH.start,zP]
     rw[if_neg (by omega),show 4294967296+ue a.block a.off - 4294967296=ue a.block a.off from by omega,Ro]
     simp only[hh]
     rw[if_pos (by omega)]
    ·rw[List.drop_zero]
     simp only[lP,hh]
     rw[←List.map_take,tw1]
    ·simp only[lP,hh,List.length_map]
     omega
   ·have hlz:i*z+z≤len*z:=by
     rw[←Nat.succ_mul];exact Nat.mul_le_mul_right _ hi
    obtain⟨cs',hl0,h1,h4,_⟩:=key i hi
    have:(((c.toList.drop a.off).take (len*z)).drop (i*z)).take z=cs':=by
     apply List.ext_getElem?
     intro j
     rw[List.getElem?_take]
     by_cases hj:j<z
     ·rw[if_pos hj,List.getElem?_drop,List.getElem?_take,if_pos (by omega),List.getElem?_drop,Array.getElem?_toList,←cell,h1 j hj]
     ·rw[if_neg hj,List.getElem?_eq_none (by omega)]
    rw[this]
    exact h4
end
end Go.Id
namespace Go.Proofs.YtnnmjocmapilaaaGreat
open Go.ChangeShapes Go.WideShapes Go.ChangeAt Go.RowKit Go.Id
def Tryz.own:ownKnob Tryz.prog.godebug=none:=by kernel_rfl
def Tryz.laidOut:laidOutB Tryz.prog=true:=by kernel_rfl
def Tryz.mapsOut:mapsRowed Tryz.prog=true:=by kernel_rfl
def Tryz.kids:Kids Tryz.prog (· < Tryz.prog.types.size):=kids_rows Tryz.laidOut Tryz.mapsOut
def Tryz.slices:((List.range Tryz.prog.types.size).all fun t=>match Tryz.prog.underlying t with
 | some (.slice e)=>decide (0<Tryz.prog.cellsOf e)
 | _=>true)=true:=by kernel_rfl
def Tryz.pos {t e:TypeId} (h:t<Tryz.prog.types.size) (hu:Tryz.prog.underlying t=some (.slice e)):0<Tryz.prog.cellsOf e:=by
 have:=List.all_eq_true.1 Tryz.slices t (by simpa using h)
 rw[hu] at this
 simpa using this
def Tryz.sound:Sound (E0 Tryz.prog):=XP (by kernel_rfl) (by kernel_rfl)
end Go.Proofs.YtnnmjocmapilaaaGreat
namespace Go.Id
open Go
def Jk (cs:List Value):IH.aJ cs 0 []=cs:=by simp[IH.aJ]
def GQ (c v:Value) (cs vs:List Value):IH.aJ (c :: cs) 0 (v :: vs)=v :: IH.aJ cs 0 vs:=by simp[IH.aJ]
theorem xP (c:Value) (cs vs:List Value) (n:Nat):IH.aJ (c :: cs) (n+1) vs=c :: IH.aJ cs n vs:=by
 simp[IH.aJ,show n+1+vs.length=(n+vs.length)+1 from by omega]
variable {v:Value}{cs:List Value}{n:Nat}
theorem gS (h:n<cs.length):IH.aJ cs n [v]=cs.set n v:=by
 simp only[IH.aJ,List.length_singleton,List.singleton_append]
 exact(List.set_eq_take_append_cons_drop.trans (if_pos h)).symm
def iX {vs:List Value} (h:cs.length=vs.length):IH.aJ cs 0 vs=vs:=by
 simp[IH.aJ,h]
def VK (k:IntKind) (n:Int):aB (.int k n)=true:=rfl
def Iy (b:Bool):aB (.bool b)=true:=rfl
def Pz (a:Option Addr) (n k:Nat):aB (.slice a n k)=true:=rfl
def VI (b o:Nat):aB (ptr b o)=true:=rfl
def Th (f:Fn) (a b:Array Value):aB (.func f a b)=true:=rfl
def VJ (r:Option Nat):aB (.map r)=true:=rfl
def Ix:aB .nilFunc=true:=rfl
def KH:aB (.pointer none)=true:=rfl
def TG (p:Value→Bool):([]:List Value).all p=true:=rfl
def PU (p:Value→Bool) (v:Value) (l:List Value):(v :: l).all p=(p v && l.all p):=rfl
def Zaa (b:Bool):(true && b)=b:=rfl
def Zcd (b:Bool):(false && b)=false:=rfl
def ZcN (b:Bool):(b && true)=b:=by cases b<;>rfl
def RV {α:Type}:([]:List α).length=0:=rfl
def O1 {α:Type} (v:α) (l:List α):(v :: l).length=l.length+1:=rfl
def stE (n:Nat) (h:IH) (k o:Nat) (vs:List Value):Option bI→Option IH
 | some (.cells cs e none)=>if vs.length=n∧vs.all aB=true∧o+n≤cs.length then some (h.put k (.cells (IH.aJ cs o vs) e none)) else none
 | some (.cells cs e (some f))=>if vs.length=n∧vs.all aB=true then h.wr (2*k) o vs else none
 | _=>none
variable {t:TypeId}{P:Program}
def dH (hT:aO P t=some n) (h:IH) (k o:Nat) (v:Value):store P h t (ptr (2*k) o) v=stE n h k o v.cells.toList (h.ext.get k):=by
 have h1:(2*k % 2 == 1)=false:=by simp
 have h2:2*k / 2=k:=by omega
 simp only[store,asAddr,ptr,hT,cond_eq_ite,Bool.and_eq_true,beq_iff_eq]
 rw[show v.cells.size=v.cells.toList.length from by simp]
 generalize v.cells.toList=vs
 cases hg:h.ext.get k with
 | none=>simp[stE,IH.wr,h2,hg]
 | some ob =>
  cases ob with
  | cells cs e f =>
   cases f with
   | none =>
    simp only[stE,IH.wr,h1,h2,hg,cond_eq_ite,Nat.ble_eq,Bool.false_eq_true,if_false]
    by_cases hc:vs.length=n∧vs.all aB=true
    ·rw[if_pos hc]
     obtain⟨rfl,hc2⟩:=hc
     by_cases hl:o+vs.length≤cs.length
     ·rw[if_pos hl,if_pos ⟨rfl,hc2,hl⟩];rfl
     ·rw[if_neg hl,if_neg fun x=>hl x.2.2]
    ·rw[if_neg hc,if_neg fun x=>hc ⟨x.1,x.2.1⟩]
   | some f=>simp[stE]
  | _=>simp[stE,IH.wr,h2,hg]
def XM (n:Nat) (h:IH) (k o:Nat) (vs cs:List Value) (e:Nat):stE n h k o vs (some (.cells cs e none))=if vs.length=n∧vs.all aB=true∧o+n≤cs.length then some (h.put k (.cells (IH.aJ cs o vs) e none)) else none:=rfl
variable {m sz:Nat}
def wy (h:IH) (hz:0<sz) (hl:cs.length=m*sz) (hm:0<m):bH (h.new (.cells cs sz none)) sz (.slice (some ⟨2*h.n,0,none⟩) m (2*m+1)) m cs:=by
 refine⟨hz,hl,.inr ⟨2*h.n,0,2*m+1,rfl,.inr ⟨by omega,by omega,cs,.inr ⟨by omega,by simp,none,?_⟩,?_,?_,by omega⟩⟩⟩
 ·rw[show 2*h.n / 2=h.n from by omega,lY,if_pos rfl]
 ·exact jC _ _ _ _ rfl
 ·rw[List.drop_zero,List.take_of_length_le (by omega)]
variable {h:IH}
def cI {k c:Nat} {f:Option Nat} (hg:h.ext.get k=some (.cells cs sz f)) (hk:k<h.n) (hz:0<sz) (hl:cs.length=n*sz) (hc:0<c) (hn:n≤c / 2):bH h sz (.slice (some ⟨2*k,0,none⟩) n c) n cs:=by
 refine⟨hz,hl,.inr ⟨2*k,0,c,rfl,.inr ⟨hc,hn,cs,.inr ⟨by omega,by omega,f,?_⟩,?_,?_,by omega⟩⟩⟩
 ·rw[show 2*k / 2=k from by omega,hg]
 ·rw[jD];simp[IH.cells,hg]
 ·rw[List.drop_zero,List.take_of_length_le (by omega)]
variable {h0':IH}{bytes n0:Nat}
def Acc.tq (a:Acc h n0 sz v n cs) (hT:jh P t=some (sz,bytes)) {new:List Value} (hm:0<m) (hl:new.length=m*sz)
  (hc:new.all aB=true) (hsz:(n+m)*(bytes+1)≤1099511627776) (h0:n0≤h.n) (e0:Ext h0' h) (hn0:h0'.n≤n0) :
  ∃v' h',append P (h.new (.cells new sz none)) t v (.slice (some ⟨2*h.n,0,none⟩) m (2*m+1))=some (v',h')∧Acc h' n0 sz v' (n+m) (cs ++ new)∧Grow h h'∧Ext h0' h':=by
 have e1:Ext h (h.new (.cells new sz none)):=(Ext.refl h).new _
 obtain⟨v',h',b1,b2,b3,b4,b5⟩:=(a.ext e1).app hT (wy h a.1 hl hm) hm hc hsz (by simp;omega) (e0.trans e1) hn0
 exact⟨v',h',b1,b2,e1.grow.trans b3,b5⟩
variable {x:Value}
def Acc.FU (a:Acc h n0 1 v n cs) (hT:jh P t=some (1,bytes)) 
  (hc:aB x=true) (hsz:(n+1)*(bytes+1)≤1099511627776) (h0:n0≤h.n) (e0:Ext h0' h) (hn0:h0'.n≤n0) :
  ∃v' h',append P (h.new (.cells [x] 1 none)) t v (.slice (some ⟨2*h.n,0,none⟩) 1 3)=some (v',h')∧Acc h' n0 1 v' (n+1) (cs ++ [x])∧Grow h h'∧Ext h0' h' :=
 a.tq hT (m:=1) (new:=[x]) (by omega) rfl (by simp[hc]) hsz h0 e0 hn0
def Acc.app2 (a:Acc h n0 1 v n cs) (hT:jh P t=some (1,bytes)) {y:Value}
  (hc:aB x=true) (hc2:aB y=true) (hsz:(n+2)*(bytes+1)≤1099511627776) (h0:n0≤h.n) (e0:Ext h0' h) (hn0:h0'.n≤n0) :
  ∃v' h',append P (h.new (.cells [x,y] 1 none)) t v (.slice (some ⟨2*h.n,0,none⟩) 2 5)=some (v',h')∧Acc h' n0 1 v' (n+2) (cs ++ [x,y])∧Grow h h'∧Ext h0' h' :=
 a.tq hT (m:=2) (new:=[x,y]) (by omega) rfl (by simp[hc,hc2]) hsz h0 e0 hn0
variable {b:Nat}{z:List Value}
def lX (hT:oN P t=some (n,b,z)) (h:IH) (k j:IntKind) {l c:Int} (h0:0≤l) (h1:l≤c) (h2:c*(b+1)≤1099511627776) :
  makeSlice P h t (.int k l) (.int j c)=some (.slice (some ⟨2*h.n,0,none⟩) l.toNat (2*c.toNat+1),h.new (.cells (bB c.toNat z) n none)):=by
 obtain⟨l,rfl⟩:=Int.eq_ofNat_of_zero_le h0
 obtain⟨c,rfl⟩:=Int.eq_ofNat_of_zero_le (Int.le_trans h0 h1)
 unfold oN at hT
 split at hT
 case h_2=>cases hT
 rename_i e hu
 split at hT
 case h_2=>cases hT
 rename_i zz a1 a2 a3
 simp only[cond_eq_ite,beq_iff_eq] at hT
 split at hT
 case isFalse=>cases hT
 rename_i hz
 cases hT
 have hc2:c*(b+1)≤aN:=by
  have:((c*(b+1):Nat):Int)≤1099511627776:=by simpa using h2
  simp only[aN];omega
 have hcm:c≤aN:=Nat.le_trans (Nat.le_mul_of_pos_right c (by omega)) hc2
 have e1:iQ (.int k (l:Int)) aN=some l:=mi (by omega)
 have e2:iQ (.int j (c:Int)) aN=some c:=mi hcm
 have e3:(Nat.ble l c && Nat.ble (c*(b+1)) aN && z.length == n)=true:=by
  simp[Nat.ble_eq,hz,hc2];omega
 simp only[makeSlice,hu,e1,e2,a1,a2,a3,e3,cond_true,Int.toNat_natCast]
def dA (hT:oN P t=some (n,b,z)) (h:IH) (len:Nat) (ps:List (Nat×Value)) (hl:len*n≤16777216) :
  buildSlice P h t len ps=(ck (fun i=>some (i*n,n)) (bB len z) ps).map fun cells=>(.slice (some ⟨2*h.n,0,none⟩) len (2*len+1),h.new (.cells cells n none)):=by
 unfold oN at hT
 split at hT
 case h_2=>cases hT
 rename_i e hu
 split at hT
 case h_2=>cases hT
 rename_i zz a1 a2 a3
 simp only[cond_eq_ite,beq_iff_eq] at hT
 split at hT
 case isFalse=>cases hT
 rename_i hz
 cases hT
 have e3:(Nat.ble (len*n) jv && z.length == n)=true:=by
  simp[Nat.ble_eq,hz,jv];exact hl
 simp only[buildSlice,hu,a1,a3,e3,cond_true]
 cases ck (fun i=>some (i*n,n)) (bB len z) ps<;>rfl
def Pq (place:Nat→Option (Nat×Nat)) (cs:List Value):ck place cs []=some cs:=rfl
def Kv (place:Nat→Option (Nat×Nat)) (cs:List Value) (i:Nat) (v:Value) (l:List (Nat×Value)) :
  ck place cs ((i,v) :: l)=(place i).bind fun p=>if v.cells.toList.length=p.2∧p.1+p.2≤cs.length then ck place (IH.aJ cs p.1 v.cells.toList) l else none:=by
 simp only[ck]
 cases place i with
 | none=>rfl
 | some p =>
  simp only[Option.bind_some,cond_eq_ite,Bool.and_eq_true,beq_iff_eq,Nat.ble_eq]
  simp
theorem CC (z:List Value):bB 0 z = []:=rfl
theorem wS (n:Nat) (z:List Value):bB (n+1) z=z ++ bB n z:=rfl
theorem Ak (n:Nat) (v:Value):bB n [v]=List.replicate n v:=by
 induction n with
 | zero=>rfl
 | succ n ih=>rw[wS,ih,List.replicate_succ];rfl
def fK (hz:aE P t=some z) (ha:cE P t=true) (ps:List (Nat×Value)):iI P t ps=(ck (placeOf P t) z ps).map fun cs=>.agg cs.toArray:=by
 simp[iI,hz,ha]
variable {fr:Fr}
def fB {fn:FuncId} {nt:Nat} {rd:Option Nat} {a c:Code} {K:Fr→IH→Prop} {Q:bN→Fr→IH→Prop} {b:Bool} (R:Fr→IH→Prop)
  (h1:b=true→Do (wpC P fn nt rd a fr h) (qS (fun fr h=>Pst (R fr h) nx) Q) nx) (h2:b=false→Do (wpC P fn nt rd c fr h) (qS (fun fr h=>Pst (R fr h) nx) Q) nx) (k : ∀fr h,R fr h→K fr h) :
  Bq b (Do (wpC P fn nt rd a fr h) (qS K Q) nx,Do (wpC P fn nt rd c fr h) (qS K Q) nx) nx :=
 au (fun hb=>cut R (h1 hb) k) fun hb=>cut R (h2 hb) k
variable {h':IH}
def GN {o:Op} {x y:IH} (h1:iop P fr o h=some (v,x)) (h2:iop P fr o h'=some (v,y)):gP P fr o h h'=true:=by
 simp[gP,h1,h2,Il]
def ai {a:Operand} {av:Value} (ha:opd fr a=some av) (h1:load P h t av=some v) (h2:load P h' t av=some v):gP P fr (.load t a) h h'=true :=
 GN (by simp[iop,ha,h1];exact⟨rfl,rfl⟩) (by simp[iop,ha,h2];rfl)
theorem ff (P:Program) {α β:Type} (f:α→Sem β) : ∀s:Sem α,ar P (s.bind f)=(ar P s).bind fun a=>ar P (f a)
 | .pure a=>rfl
 | .program k=>ff P f (k P)
 | .load _ _ _=>rfl
 | .store _ _ _ _=>rfl
 | .new _ _=>rfl
 | .shape _ _=>rfl
 | .freeze _ _ _=>rfl
 | .frozen _ _=>rfl
 | .getObj _ _=>rfl
 | .setObj _ _ _=>rfl
 | .choose _ _=>rfl
 | .sys _ _=>rfl
 | .mark _ _=>rfl
 | .halt _=>rfl
theorem Bh (hT:P.underlying t=some .bool) (a b:Bool):ar P (Op.equal t (.bool a) (.bool b))=some (a == b):=by
 show ar P (Sem.bind (underlying t) _)=_
 rw[ja hT];rfl
def BJ (hT:P.underlying t=some .bool) (ox oy:Operand) (a b:Bool):binop P .eql t ox oy (.bool a) (.bool b)=some (.bool (a == b)):=by
 refine cX P t ox oy rfl rfl rfl ?_
 show ar P (Sem.bind (Op.equal t (.bool a) (.bool b)) fun r=>Sem.pure (Value.bool r))=_
 rw[ff,Bh hT];rfl
def BI (hT:P.underlying t=some .bool) (ox oy:Operand) (a b:Bool):binop P .neq t ox oy (.bool a) (.bool b)=some (.bool (!(a == b))):=by
 refine cX P t ox oy rfl rfl rfl ?_
 show ar P (Sem.bind (Op.equal t (.bool a) (.bool b)) fun r=>Sem.pure (Value.bool (!r)))=_
 rw[ff,Bh hT];rfl
theorem LL (P:Program) (t:TypeId) (ox oy:Operand) {j:IntKind} {a:Nat} (h:a*2 ^ b<18446744073709551616) (hb:b≤64):binop P .shl t ox oy (.int .u64 (a:Int)) (.int j (b:Int))=some (.int .u64 ((a*2 ^ b:Nat):Int)):=by
 rw[oZ P t ox oy (by omega)]
 show some (Value.int .u64 (IntKind.u64.wrap ((a:Int)*2 ^ min b 64)))=_
 rw[Nat.min_eq_left hb,show(a:Int)*2 ^ b=((a*2 ^ b:Nat):Int) from by simp,dQ h]
def wh {a b:Int} (h:a<b):decide (a<b)=true:=by simpa using h
def wk {a b:Int} (h : ¬a<b):decide (a<b)=false:=by simpa using h
def SO {a b:Int} (h:a≤b):decide (a≤b)=true:=by simpa using h
def SP {a b:Int} (h : ¬a≤b):decide (a≤b)=false:=by simpa using h
def PM {a b:Int} (h:a=b):(a == b)=true:=by simpa using h
def PN {a b:Int} (h : ¬a=b):(a == b)=false:=by simpa using h
def PH {a b:Int} (h : ¬a=b):(a != b)=true:=by simpa using h
def PI {a b:Int} (h:a=b):(a != b)=false:=by simpa using h
def PL (b:Bool):(b == true)=b:=by cases b<;>rfl
def KU (b:Bool):(b == false) = !b:=by cases b<;>rfl
def OP:(!true)=false:=rfl
def J1:(!false)=true:=rfl
def RD (b:Bool):(!(!b))=b:=by cases b<;>rfl
def SB {α:Type} (a:α):(a=a)=True:=by simp
def wpT:=And.intro @Pq (And.intro @Kv (And.intro @Jk (And.intro @GQ (And.intro @xP (And.intro @CC (And.intro @wS (And.intro @XM (
 And.intro @Zaa (And.intro @Zcd (And.intro @ZcN (And.intro @VK (And.intro @Iy (And.intro @Pz (And.intro @VI (And.intro @Th (
 And.intro @VJ (And.intro @Ix (And.intro @KH (And.intro @TG (And.intro @PU (And.intro @RV (And.intro @O1 (And.intro @SB (
 And.intro @wh (And.intro @wk (And.intro @SO (And.intro @SP (And.intro @PM (And.intro @PN (And.intro @PH (And.intro @PI (
 And.intro @PL (And.intro @KU (And.intro @OP (And.intro @J1 (And.intro @RD (And.intro @true_and (@and_true))))))))))))))))))))))))))))))))))))))
section
variable {P:Program}
variable {α:Type}
theorem cw {β:Type} {s:Sem α} {f:α→Sem β} {a:α} (h:ar P s=some a):ar P (s >>= f)=ar P (f a):=by
 show ar P (s.bind f)=_
 rw[ff,h];rfl
theorem vx (a:α):ar P (pure a:Sem α)=some a:=rfl
variable {t:TypeId}
theorem fw {d:TypeDesc} (h:P.underlying t=some d):ar P (underlying t)=some d:=by
 have e:ar P (underlying t)=ar P ((match P.underlying t with|some d=>(pure d:Sem TypeDesc)|none=>stuck "no such type")):=rfl
 rw[e,h];rfl
variable {e:TypeId}{n:Nat}
theorem CH (h:aO P e=some n):ar P (sizeOf e)=some n:=by
 simp only[aO,Option.map_eq_some_iff] at h
 obtain⟨i,hi,rfl⟩:=h
 have e2:ar P (sizeOf e)=ar P ((match P.info? e with|some i=>(pure i:Sem TypeInfo)|none=>stuck "no such type").bind fun i=>pure i.size):=rfl
 rw[e2,hi];rfl
variable {k:IntKind}
theorem Me (he:P.underlying e=some (.int k)) {cs:Array Value} {off:Nat} {v:Value} (hv:cs[off]?=some v):ar P (part e cs off)=some v:=by
 unfold part
 have h1:ar P (isAgg e)=some false:=by
  unfold isAgg
  rw[cw (fw he)];rfl
 rw[cw h1]
 simp only[Bool.false_eq_true,if_false,hv]
 rfl
theorem ED {j:IntKind} (he:P.underlying e=some (.int j)) (d:Nat) (a b:Int):ar P (Op.equalIn (d+1) e (.int k a) (.int k b))=some (a == b):=by
 unfold Op.equalIn
 rw[cw (fw he)]
 simp only[if_true]
 rfl
def Ik (xs ys:List Int) (is:List Nat):Bool:=is.all fun i=>xs[i]? == ys[i]?
theorem Ri {xs ys:List Int} (body:Nat→Option Bool×Unit→Sem (ForInStep (Option Bool×Unit))) (g:Option Bool×Unit→Sem Bool)
  (hb : ∀i,i<n → ∀r,ar P (body i r)=some (if (xs[i]? == ys[i]?)=true then .yield (none,()) else .done (some false,()))) : ∀is:List Nat,(∀i∈is,i<n) →
  ar P (forIn is ((none,()):Option Bool×Unit) body >>= g)=ar P (g (if Ik xs ys is=true then (none,()) else (some false,()))):=by
 have assoc : ∀(s:Sem (ForInStep (Option Bool×Unit))) (g1:ForInStep (Option Bool×Unit)→Sem (Option Bool×Unit)) (f2:Option Bool×Unit→Sem Bool),ar P ((s >>= g1) >>= f2)=ar P (s >>= fun x=>g1 x >>= f2):=fun s g1 f2=>by
  show ar P ((s.bind g1).bind f2)=ar P (s.bind fun x=>(g1 x).bind f2)
  rw[ff,ff,ff]
  cases ar P s with
  | none=>rfl
  | some a=>simp only[Option.bind_some];rw[ff]
 intro is
 induction is with
 | nil=>intro _;rfl
 | cons i is ih =>
  intro hi
  have h1:=hb i (hi i (by simp)) (none,())
  rw[List.forIn_cons,assoc,cw h1]
  have hz:Ik xs ys (i :: is)=((xs[i]? == ys[i]?) && Ik xs ys is):=rfl
  rw[hz]
  cases hc:(xs[i]? == ys[i]?) with
  | true =>
   rw[Bool.true_and,←ih fun j hj=>hi j (by simp[hj])]
   rfl
  | false =>
   rw[Bool.false_and]
   rfl
theorem pN (hT:P.underlying t=some (.array n e)) (he:P.underlying e=some (.int k)) (hs:aO P e=some 1) (d:Nat) (xs ys:List Int) (hx:xs.length=n) (hy:ys.length=n) :
  ar P (Op.equalIn (d+2) t (.agg (xs.map (.int k)).toArray) (.agg (ys.map (.int k)).toArray))=some (decide (xs=ys)):=by
 unfold Op.equalIn
 rw[cw (fw hT)]
 simp only
 rw[cw (CH hs)]
 simp only[Std.Legacy.Range.forIn_eq_forIn_range',Std.Legacy.Range.size,Nat.sub_zero,Nat.add_one_sub_one,Nat.div_one]
 rw[Ri (n:=n) (xs:=xs) (ys:=ys) _ _ (fun i hin r=>?_) (List.range' 0 n) (fun i hi=>?_)]
 ·have hz:Ik xs ys (List.range' 0 n)=decide (xs=ys):=by
   rw[Bool.eq_iff_iff]
   simp only[Ik,List.all_eq_true,List.mem_range'_1,beq_iff_eq,decide_eq_true_eq]
   constructor
   ·intro h
    apply List.ext_getElem?
    intro i
    by_cases hi:i<n
    ·exact h i ⟨Nat.zero_le _,by omega⟩
    ·rw[List.getElem?_eq_none (by omega),List.getElem?_eq_none (by omega)]
   ·rintro rfl i _;rfl
  rw[hz]
  by_cases h:xs=ys
  ·simp[h];rfl
  ·simp[h];rfl
 ·have hxi:(xs.map (Value.int k)).toArray[i*1]?=some (.int k (xs[i]'(by omega))):=by simp[hx,hin]
  have hyi:(ys.map (Value.int k)).toArray[i*1]?=some (.int k (ys[i]'(by omega))):=by simp[hy,hin]
  rw[cw (Me he hxi),cw (Me he hyi),cw (ED he d _ _)]
  rw[List.getElem?_eq_getElem (show i<xs.length by omega),List.getElem?_eq_getElem (show i<ys.length by omega)]
  rw[show(some (xs[i]'(by omega)) == some (ys[i]'(by omega)))=(xs[i]'(by omega) == ys[i]'(by omega)) from rfl]
  cases(xs[i]'(by omega) == ys[i]'(by omega))<;>rfl
 ·rw[List.mem_range'_1] at hi;omega
theorem Ce (hT:P.underlying t=some (.array n e)) (he:P.underlying e=some (.int k)) (hs:aO P e=some 1) (hg:P.eqGuardType P.depth t=false) (ox oy:Operand) (xs ys:List Int) (hx:xs.length=n) (hy:ys.length=n) :
  binop P .eql t ox oy (.agg (xs.map (.int k)).toArray) (.agg (ys.map (.int k)).toArray)=some (.bool (decide (xs=ys))):=by
 have hp : ∀l:List Int,plain (.agg (l.map (Value.int k)).toArray)=true:=by intro l;simp[plain,bA]
 refine cX P t ox oy (hp _) (hp _) rfl ?_
 have h1:ar P (eqGuard .eql t ox oy (.agg (xs.map (.int k)).toArray) (.agg (ys.map (.int k)).toArray))=some ():=by
  show ar P (if (!P.eqGuardType P.depth t)=true then _ else _)=_
  rw[hg];rfl
 rw[cw h1]
 show ar P (Op.equal t _ _ >>= fun r=>pure (Value.bool r))=_
 have h2:ar P (Op.equal t (.agg (xs.map (.int k)).toArray) (.agg (ys.map (.int k)).toArray))=some (decide (xs=ys)):=pN hT he hs 9998 xs ys hx hy
 rw[cw h2];rfl
theorem Cc (hT:P.underlying t=some (.array n e)) (he:P.underlying e=some (.int k)) (hs:aO P e=some 1) (hg:P.eqGuardType P.depth t=false) (ox oy:Operand) (xs ys:List Int) (hx:xs.length=n) (hy:ys.length=n) :
  binop P .neq t ox oy (.agg (xs.map (.int k)).toArray) (.agg (ys.map (.int k)).toArray)=some (.bool (!decide (xs=ys))):=by
 have hp : ∀l:List Int,plain (.agg (l.map (Value.int k)).toArray)=true:=by intro l;simp[plain,bA]
 refine cX P t ox oy (hp _) (hp _) rfl ?_
 have h1:ar P (eqGuard .neq t ox oy (.agg (xs.map (.int k)).toArray) (.agg (ys.map (.int k)).toArray))=some ():=by
  show ar P (if (!P.eqGuardType P.depth t)=true then _ else _)=_
  rw[hg];rfl
 rw[cw h1]
 show ar P (Op.equal t _ _ >>= fun r=>pure (Value.bool (!r)))=_
 have h2:ar P (Op.equal t (.agg (xs.map (.int k)).toArray) (.agg (ys.map (.int k)).toArray))=some (decide (xs=ys)):=pN hT he hs 9998 xs ys hx hy
 rw[cw h2];rfl
end
def lF (h:IH) (sz:Nat) (v:Value) (n:Nat) (cs:List Value):Prop :=
 0<sz∧cs.length=n*sz∧((v=.slice none 0 0∧n=0) ∨ ∃b o k,v=.slice (some ⟨b,o,none⟩) n k∧(n=0 ∨ ∃row,h.row b=some row∧(row.drop o).take (n*sz)=cs∧o+n*sz≤row.length))
variable {v:Value}{h:IH}{sz:Nat}{cs:List Value}{n:Nat}
def bH.now (s:bH h sz v n cs):lF h sz v n cs:=by
 obtain⟨hz,hl,s|⟨b,o,k,rfl,s⟩⟩:=s
 ·exact⟨hz,hl,.inl s⟩
 ·refine⟨hz,hl,.inr ⟨b,o,k,rfl,?_⟩⟩
  rcases s with⟨h1,_⟩|⟨_,_,row,_,h1,h2,h3⟩
  ·exact .inl h1
  ·exact .inr ⟨row,h1,h2,h3⟩
def lF.form (s:lF h sz v n cs) : ∃a k,v=.slice a n k:=by
 obtain⟨hz,hl,⟨rfl,rfl⟩|⟨b,o,k,rfl,s⟩⟩:=s
 ·exact⟨_,_,rfl⟩
 ·exact⟨_,_,rfl⟩
variable {t e:TypeId}{P:Program}
def Ct (hu:P.underlying t=some (.array n e)) (hs:aO P e=some sz) (hn:0<n) (h:IH) (b o:Nat):cT P h t (ptr b o) none none none=some (.slice (some ⟨b,o,none⟩) n (2*n+1)):=by
 have h1:(2*n+1) / 2=n:=by omega
 have h2:(2*n+1 == 0)=false:=by simp
 have h3:(0 == n)=false:=by simp;omega
 have h4:((2*n+1) % 2 == 1)=true:=by simp
 simp only[cT,hu,hs,asAddr,ptr,dC,fL,Sg,HT,h1,h2,h3,h4,cond_true,cond_false,Bool.true_or]
 simp
variable {o k:Nat}
def VQ {b:Nat} {row:List Value} (hr:h.row b=some row) (hz:0<sz) (hl:cs.length=n*sz) (h1:(row.drop o).take (n*sz)=cs) (h2:o+n*sz≤row.length):lF h sz (.slice (some ⟨b,o,none⟩) n k) n cs :=
 ⟨hz,hl,.inr ⟨b,o,k,rfl,.inr ⟨row,hr,h1,h2⟩⟩⟩
def HC (hu:P.underlying t=some (.slice e)) (ox oy:Operand) (b o:Nat) (n k:Nat):binop P .eql t ox oy (.slice (some ⟨b,o,none⟩) n k) (.slice none 0 0)=some (.bool false):=by
 have h1:plain (.slice (some ⟨b,o,none⟩) n k)=false:=rfl
 simp only[binop,h1,Bool.false_and,cond_false,vG,hu,um,Option.map_some]
def HD (hu:P.underlying t=some (.slice e)) (ox oy:Operand):binop P .eql t ox oy (.slice none 0 0) (.slice none 0 0)=some (.bool true):=by
 refine cX P t ox oy rfl rfl rfl ?_
 show ar P (Op.equal t _ _ >>= fun r=>pure (Value.bool r))=_
 have h2:ar P (Op.equal t (.slice none 0 0) (.slice none 0 0))=some true:=by
  show ar P (Op.equalIn 10000 t _ _)=_
  unfold Op.equalIn
  rw[cw (fw hu)];rfl
 rw[cw h2];rfl
variable {m:Nat}
def rT {bytes:Nat} (hT:jh P t=some (sz,bytes)) (h:IH) {x:Value} {new:List Value} (sx:lF h sz x m new) (hm:0<m) (hc:new.all aB=true) (hsz:m*(bytes+1)≤1099511627776) (b o:Nat) :
  append P h t (.slice (some ⟨b,o,none⟩) 0 1) x=some (.slice (some ⟨2*h.n,0,none⟩) m (2*m),h.new (.cells new sz none)):=by
 unfold jh at hT
 split at hT
 case h_2=>cases hT
 rename_i e hu
 split at hT
 case h_2=>cases hT
 rename_i zs h1 h2 h3
 simp only[cond_eq_ite] at hT
 split at hT
 case isTrue=>cases hT
 rename_i AV
 cases hT
 have jN:(sz == 0 || (!(Nat.ble bytes 65536) || !(zs.length == sz)))=false:=by simpa using AV
 obtain⟨hz,hl,⟨rfl,rfl⟩|⟨b2,o2,k2,rfl,rfl|⟨row,a1,a2,a3⟩⟩⟩:=sx
 ·omega
 ·omega
 have hms : ¬m*sz=0:=by
  have:0<m*sz:=Nat.mul_pos hm hz
  omega
 have tp:(m == 0)=false:=by simp;omega
 have iF:bF h sz m (.slice (some ⟨b2,o2,none⟩) m k2)=some new:=by
  simp only[bF,cond_eq_ite,Nat.ble_eq,Nat.le_refl,if_true,beq_iff_eq,if_neg hms]
  rw[tH a1,if_pos a3,a2]
 have qv:Nat.ble (m*(bytes+1)) aN=true:=by rw[Nat.ble_eq];exact hsz
 have mQ:Nat.ble m (1 / 2)=false:=by
  rw[Bool.eq_false_iff];intro hh;rw[Nat.ble_eq] at hh;omega
 have mP:(1 % 2 == 1)=true:=rfl
 have Vv:bF h sz 0 (.slice (some ⟨b,o,none⟩) 0 1)=some []:=by
  simp[bF];rfl
 simp only[Id.append,hu,h1,h2,h3,lenOf,tp,jN,iF,hc,qv,mQ,mP,Vv,cond_true,cond_false,Bool.not_true,List.nil_append,Nat.zero_add]
def copy_eq (hu:P.underlying t=some (.slice e)) (hS:aO P e=some sz) {dn c:Nat} {e2:Nat} (hg:h.ext.get k=some (.cells cs e2 none)) {s:Value} {sn:Nat} {ss:List Value} (hs:lF h sz s sn ss) (hc:ss.all aB=true)
  (vO:0<min sn dn) (hl:o+min sn dn*sz≤cs.length) (ts:Array TypeId) (ht:ts[0]?=some t) :
  builtin P h .copy ts [.slice (some ⟨2*k,o,none⟩) dn c,s]=some (.int .i64 ((min sn dn:Nat):Int),h.put k (.cells (IH.aJ cs o (ss.take (min sn dn*sz))) e2 none)):=by
 obtain⟨hz,hln,⟨rfl,rfl⟩|⟨b2,o2,k2,rfl,rfl|⟨row,a1,a2,a3⟩⟩⟩:=hs
 ·simp at vO
 ·simp at vO
 have hm:Nat.min sn dn=min sn dn:=rfl
 generalize hmm:min sn dn=m at *
 have hmn:m≤sn:=by omega
 have hms : ¬m*sz=0:=by
  have:0<m*sz:=Nat.mul_pos vO hz
  omega
 have hmle:m*sz≤sn*sz:=Nat.mul_le_mul_right _ hmn
 have hrd:h.rd b2 o2 (m*sz)=some (ss.take (m*sz)):=by
  have hle:o2+m*sz≤row.length:=by omega
  rw[tH a1,←a2,List.take_take,Nat.min_eq_left hmle]
  exact if_pos hle
 have iF:bF h sz m (.slice (some ⟨b2,o2,none⟩) sn k2)=some (ss.take (m*sz)):=by
  have hb:Nat.ble m sn=true:=by rw[Nat.ble_eq];exact hmn
  simp only[bF,hb,cond_eq_ite,beq_iff_eq,if_neg hms,hrd,if_true]
 have hlen:(ss.take (m*sz)).length=m*sz:=by rw[List.length_take];omega
 have hne:(ss.take (m*sz)).isEmpty=false:=by
  cases hx:ss.take (m*sz) with
  | nil=>rw[hx] at hlen;simp at hlen;omega
  | cons a b=>rfl
 have hc2:(ss.take (m*sz)).all aB=true:=by
  rw[List.all_eq_true] at hc ⊢
  intro x hx;exact hc x (List.mem_of_mem_take hx)
 have h1:(2*k % 2 == 1)=false:=by simp
 have h2:2*k / 2=k:=by omega
 have h3:Nat.ble (o+(ss.take (m*sz)).length) cs.length=true:=by rw[Nat.ble_eq,hlen];exact hl
 simp only[builtin,ht,uD,hu,lenOf,hS,hm,iF,hne,hc2,IH.wr,h1,h2,hg,h3,cond_true,cond_false,Bool.not_true,Option.map_some]
 rfl
def zo (hz:0<sz) (hl:cs.length=m*sz) (hm:0<m):Acc (h.new (.cells cs sz none)) h.n sz (.slice (some ⟨2*h.n,0,none⟩) m (2*m)) m cs :=
 ⟨hz,hl,.inr ⟨h.n,none,rfl,hm,Nat.le_refl _,by simp,ah _ _ rfl,trivial⟩⟩
theorem Acc.from {n0 n1:Nat} (a:Acc h n1 sz v n cs) (hn:n0≤n1):Acc h n0 sz v n cs:=by
 obtain⟨hz,hl,a|⟨k,fam,rfl,hn2,h1,h2,h3,h4⟩⟩:=a
 ·exact⟨hz,hl,.inl a⟩
 ·refine⟨hz,hl,.inr ⟨k,fam,rfl,hn2,by omega,h2,h3,?_⟩⟩
  cases fam with
  | none=>trivial
  | some f =>
   obtain⟨a1,a2,rest,a3,a4⟩:=h4
   exact⟨by omega,a2,rest,a3,fun j hj=>by have:=a4 j hj;omega⟩
noncomputable def asc:List (Value×Value)→Value→Option Value
 | [],_=>none
 | e :: l,k=>@ite _ (e.1=k) (Classical.propDecidable _) (some e.2) (asc l k)
section
variable {P:Program}
end
def BD (r:ir):ir:={ r with state:=.busy }
variable {h:IH}{k:Nat}
def gu {r:ir} (hg:h.ext.get k=some (.loop r)):fx h k=some r:=by simp[fx,hg]
structure Mem (m:Nat) (h h':IH):Prop where
 n:h.n≤h'.n
 base:h'.base=h.base
 get : ∀k,k<h.n→k≠m→h'.ext.get k=h.ext.get k
 bP : ∀f,f<h.n→h'.bP.get f=h.bP.get f
def Ext.mem {h':IH} (e:Ext h h') (m:Nat):Mem m h h':=⟨e.n,e.base,fun k hk _=>e.get k hk,e.bP⟩
def Mem.put {m:Nat} {a b:IH} (x:Mem m a b) (hk:a.n≤k∨k=m) (o:bI):Mem m a (b.put k o) :=
 ⟨x.n,x.base,fun j hj hm=>by rw[iT,if_neg (by omega)];exact x.get j hj hm,x.bP⟩

variable {v:Value}{h:IH}{K:Value→IH→Prop}{P:Program}
def Gh {f:FuncId} {fn:Func} {args:List Value} (hf:P.funcs[f]?=some fn) (hb:fn.body=none) (hc:mW fn.name args=some v) (k:K v h):WV P (.func (.func f) #[] #[]) args h K:=by
 refine⟨(v,h),⟨1,fun n hn=>?_⟩,k⟩
 obtain⟨n,rfl⟩ : ∃m,n=m+1:=⟨n - 1,by omega⟩
 simp only[cc,ov,show(E0 P).tk f=none from rfl,show(E0 P).P=P from rfl,hf,hb,List.append_nil,List.nil_append,hc,Option.map_some]
variable {c:Nat}{n:String}
def PD (hn:n = "math/bits.Add64") (x y:Nat) (hc:c≤1):mW n [.int .u64 (x:Int),.int .u64 (y:Int),.int .u64 (c:Int)]=some (.tuple #[.int .u64 ((x+y+c) % 18446744073709551616:Nat),.int .u64 ((x+y+c) / 18446744073709551616:Nat)]):=by
 have h1:Nat.ble c 1=true:=by rw[Nat.ble_eq];exact hc
 subst hn
 show(bif Nat.ble c 1 then _ else none)=_
 rw[h1];rfl
def PB (hn:n = "math/bits.Sub64") (x y:Nat) (hc:c≤1):mW n [.int .u64 (x:Int),.int .u64 (y:Int),.int .u64 (c:Int)]=some (.tuple #[.int .u64 ((x+18446744073709551616 - y - c) % 18446744073709551616:Nat),.int .u64 ((bif Nat.blt x (y+c) then 1 else 0:Nat))]):=by
 have h1:Nat.ble c 1=true:=by rw[Nat.ble_eq];exact hc
 subst hn
 show(bif Nat.ble c 1 then _ else none)=_
 rw[h1];rfl
def WV.and {fv:Value} {vs:List Value} {L:Value→IH→Prop} (a:WV P fv vs h K) (b:WV P fv vs h L):WV P fv vs h fun v h'=>K v h'∧L v h':=by
 obtain⟨x,⟨N,hN⟩,kx⟩:=a
 obtain⟨y,⟨M,hM⟩,ky⟩:=b
 have h1:=hN (max N M) (Nat.le_max_left _ _)
 have h2:=hM (max N M) (Nat.le_max_right _ _)
 rw[h1] at h2
 cases h2
 exact⟨x,⟨N,hN⟩,kx,ky⟩
def dN:Value→Option Nat
 | .slice (some a) _ _=>some a.block
 | _=>none
variable {r:Value}{hi mx lo:Option Value}{x:Value}
def Ai {size:Nat} {b:Bool} (h:dC size b x lo hi mx=some r):dN r=dN x:=by
 unfold dC at h
 split at h
 ·simp only[cond_eq_ite] at h
  split at h
  ·split at h
   ·cases h;rfl
   ·cases h
  ·cases h
 ·split at h
  ·cases h
  ·rename_i b o n c _ _ _ _
   simp only[cond_eq_ite] at h
   repeat' split at h
   all_goals first|(cases h;rfl)|cases h
 ·cases h
variable {t:TypeId}
def xQ {e:TypeId} (hu:P.underlying t=some (.slice e)) (hs:cT P h t x lo hi mx=some r):dN r=dN x:=by
 simp only[cT,hu] at hs
 split at hs
 ·exact Ai hs
 ·cases hs
def bH.putAt {sz:Nat} {n:Nat} {cs:List Value} (s:bH h sz v n cs) {k:Nat} (hk:dN v≠some (2*k)) (o:bI):bH (h.put k o) sz v n cs:=by
 obtain⟨hz,hl,s|⟨b,o2,c,rfl,s⟩⟩:=s
 ·exact⟨hz,hl,.inl s⟩
 ·refine⟨hz,hl,.inr ⟨b,o2,c,rfl,?_⟩⟩
  rcases s with s|⟨h1,h2,row,h3,h4,h5,h6⟩
  ·exact .inl s
  ·have hb:b≠2*k:=fun e=>hk (by rw[e];rfl)
   refine .inr ⟨h1,h2,row,?_,?_,h5,h6⟩
   ·rcases h3 with h3|⟨a1,a2,f,a3⟩
    ·exact .inl h3
    ·exact .inr ⟨a1,a2,f,by rw[ak _ _ (by omega)];exact a3⟩
   ·rw[qU _ _ _ hb];exact h4
def AH {fn:FuncId} {nt:Nat} {rd:Option Nat} {id:Nat} {b:Code} {fr:Fr} {K:Fr→IH→Prop} {Q:bN→Fr→IH→Prop} (R:Fr→IH→Prop)
  (w:Do (yD P fn nt rd b fr h) (mX id (qS (fun fr h=>Pst (R fr h) nx) Q)) nx) (k : ∀fr h,R fr h→K fr h):Do (yD P fn nt rd b fr h) (mX id (qS K Q)) nx :=
 cut (a:=.block id (.loop b)) R w k
def Wo {ox oy:Operand} {j:IntKind} (a:Nat) {b:Int} (hb:0≤b∧b≤64):binop P .shl t ox oy (.int .u64 (a:Int)) (.int j b)=some (.int .u64 ((a*2 ^ b.toNat % 18446744073709551616:Nat):Int)):=by
 rw[oZ P t ox oy hb.1]
 have e:min b.toNat IntKind.u64.bits=b.toNat:=by simp only[IntKind.bits];omega
 rw[e]
 have e2:IntKind.u64.wrap ((a:Int)*2 ^ b.toNat)=((a*2 ^ b.toNat % 18446744073709551616:Nat):Int):=by
  simp[IntKind.wrap,IntKind.bits,IntKind.signed]
 rw[e2]
def QB (k:Nat) (q:Rat):Prop:=q.num.natAbs≤2 ^ k∧q.den≤2 ^ k
variable {x:Rat}{a b:Nat}
def QB.mono (h:QB a x) (k:a≤b):QB b x :=
 ⟨Nat.le_trans h.1 (Nat.pow_le_pow_right (by omega) k),Nat.le_trans h.2 (Nat.pow_le_pow_right (by omega) k)⟩
variable {n d:Int}
def nD (hd:0<d):n / (Int.gcd n d:Int)=(Rat.divInt n d).num∧d / (Int.gcd n d:Int)=(Rat.divInt n d).den:=by
 constructor
 ·rw[Rat.num_divInt,Int.sign_eq_one_of_pos hd,Int.one_mul,Int.gcd_comm d n]
 ·rw[Rat.den_divInt,if_neg (by omega),Int.gcd_comm d n]
  have:(d.natAbs:Int)=d:=by omega
  rw[Int.natCast_ediv,this]
def zd (hd:d<0) : -(n / (Int.gcd n d:Int))=(Rat.divInt n d).num ∧ -(d / (Int.gcd n d:Int))=(Rat.divInt n d).den:=by
 constructor
 ·rw[Rat.num_divInt,Int.sign_eq_neg_one_of_neg hd,Int.gcd_comm d n,Int.neg_one_mul,Int.neg_ediv_of_dvd (Int.gcd_dvd_left ..)]
 ·rw[Rat.den_divInt,if_neg (by omega),Int.gcd_comm d n]
  have:(d.natAbs:Int) = -d:=by omega
  rw[Int.natCast_ediv,this,Int.neg_ediv_of_dvd (Int.gcd_dvd_right ..)]
def AZ (hd:d≠0):(Int.gcd n d:Int)≠0:=by
 intro h
 have:Int.gcd n d=0:=by omega
 rw[Int.gcd_eq_zero_iff] at this
 exact hd this.2
def RR (hd:d≠0):d / (Int.gcd n d:Int)<0↔d<0:=by
 rcases Int.lt_or_gt_of_ne hd with h|h
 ·have:=(zd (n:=n) h).2
  have:=(Rat.divInt n d).den_pos
  omega
 ·have:=(nD (n:=n) h).2
  have:=(Rat.divInt n d).den_pos
  omega
def v8 (n:Int) (g:Nat):(n / (g:Int)).natAbs≤n.natAbs:=by
 rcases Int.le_total 0 n with h|h
 ·have h1:n / (g:Int)≤n:=Int.ediv_le_self _ h
  have h2:0≤n / (g:Int):=Int.ediv_nonneg h (by omega)
  omega
 ·rcases Nat.eq_zero_or_pos g with rfl|hg
  ·simp
  ·have h2:n / (g:Int)≤0:=by
    have:=Int.ediv_le_ediv (c:=(g:Int)) (by omega) h
    simpa using this
   have h3:n≤n / (g:Int):=by
    rw[Int.le_ediv_iff_mul_le (by omega)]
    have:n*(g:Int)≤n*1:=Int.mul_le_mul_of_nonpos_left h (by omega)
    omega
   omega
variable {k:Nat}
def QB.divInt (hd:d≠0) (h1:n.natAbs≤2 ^ k) (h2:d.natAbs≤2 ^ k):QB k (Rat.divInt n d):=by
 have e1:=v8 n (Int.gcd n d)
 have e2:=v8 d (Int.gcd n d)
 rcases Int.lt_or_gt_of_ne hd with h|h
 ·obtain⟨a,b⟩:=zd (n:=n) h
  exact⟨by omega,by omega⟩
 ·obtain⟨a,b⟩:=nD (n:=n) h
  exact⟨by omega,by omega⟩
theorem vo (x y:Rat):x+y=Rat.divInt (x.num*y.den+y.num*x.den) ((x.den:Int)*y.den):=by
 rw[Rat.add_def',←Rat.divInt_ofNat];simp
theorem yV (x y:Rat):x*y=Rat.divInt (x.num*y.num) ((x.den:Int)*y.den):=by
 rw[Rat.mul_def',←Rat.divInt_ofNat];simp
theorem yW (x y:Rat):x / y=Rat.divInt (x.num*y.den) ((x.den:Int)*y.num):=by
 rw[Rat.div_def,Rat.inv_def,←Rat.divInt_mul_divInt,Rat.num_divInt_den]
def Bo (x:Rat):(x.den:Int)≠0:=by have:=x.den_pos;omega
def JZ (h:x≠0):x.num≠0:=fun e=>h (Rat.num_eq_zero.1 e)
def Dx (x y:Rat):(x.den:Int)*y.den≠0:=Int.mul_ne_zero (Bo x) (Bo y)
def bW {x y:Int} (hx:x.natAbs≤2 ^ a) (hy:y.natAbs≤2 ^ b):(x*y).natAbs≤2 ^ (a+b):=by
 rw[Int.natAbs_mul,Nat.pow_add];exact Nat.mul_le_mul hx hy
def TK {x y:Int} (hx:x.natAbs≤2 ^ a) (hy:y.natAbs≤2 ^ a):(x+y).natAbs≤2 ^ (a+1):=by
 have:(x+y).natAbs≤x.natAbs+y.natAbs:=Int.natAbs_add_le _ _
 rw[Nat.pow_succ];omega
def Uc {x:Int} (hx:x.natAbs≤2 ^ a) (h:a≤b):x.natAbs≤2 ^ b:=Nat.le_trans hx (Nat.pow_le_pow_right (by omega) h)
def QB.dU (h:QB a x):(x.den:Int).natAbs≤2 ^ a:=by rw[Int.natAbs_natCast];exact h.2
variable {y:Rat}
def QB.ZI (hx:QB a x) (hy:QB b y):(x.num*y.den+y.num*x.den).natAbs≤2 ^ (a+b+1) :=
 TK (bW hx.1 hy.dU) (by rw[Nat.add_comm];exact bW hy.1 hx.dU)
def QB.add (hx:QB a x) (hy:QB b y):QB (a+b+1) (x+y):=by
 rw[vo]
 exact QB.divInt (Dx x y) (hx.ZI hy) (Uc (bW hx.dU hy.dU) (by omega))
def QB.mul (hx:QB a x) (hy:QB b y):QB (a+b) (x*y):=by
 rw[yV]
 exact QB.divInt (Dx x y) (bW hx.1 hy.1) (bW hx.dU hy.dU)
def QB.div (hx:QB a x) (hy:QB b y) (y0:y≠0):QB (a+b) (x / y):=by
 rw[yW]
 exact QB.divInt (Int.mul_ne_zero (Bo x) (JZ y0)) (bW hx.1 hy.dU) (bW hx.dU hy.1)
def QB.neg (hx:QB a x):QB a (-x):=⟨by rw[Rat.neg_num,Int.natAbs_neg];exact hx.1,hx.2⟩
def QB.int (h:n.natAbs≤2 ^ k):QB k (n:Rat):=⟨h,Nat.pow_pos (by omega)⟩
variable {H0 hi:IH}{t:TypeId}{o:Nat}{P:Program}
def AK (hb:b % 2=1∨b / 2<H0.n) (e:Ext H0 hi):load P hi t (ptr b o)=load P H0 t (ptr b o):=by
 have hr:hi.row b=H0.row b:=e.row (by omega)
 have hr' : ∀n,hi.rd b o n=H0.rd b o n:=fun n=>by simp only[IH.rd,hr]
 simp only[load,asAddr,ptr]
 cases bh P t with
 | none=>rfl
 | some c=>cases c<;>cases aO P t<;>simp only[hr']
def aW {fr:Fr} {a:Operand} {hj:IH} {v:Value} (ha:opd fr a=some (ptr b o)) (hb:b % 2=1∨b / 2<H0.n) (ei:Ext H0 hi) (ej:Ext H0 hj) (hv:load P H0 t (ptr b o)=some v):gP P fr (.load t a) hi hj=true :=
 ai ha ((AK hb ei).trans hv) ((AK hb ej).trans hv)
variable {tr:List (Fr×IH)}{ops:List Oper}
def aw {e e':Nat×List Nat} {l:List (Nat×List Nat)} (h1:cS P ops tr [e]) (h2:cS P ops tr (e' :: l)):cS P ops tr (e :: e' :: l):=kA h1 h2
def aC {i p p':Nat} {l:List Nat} (h1:cS P ops tr [(i,[p])]) (h2:cS P ops tr [(i,p' :: l)]):cS P ops tr [(i,p :: p' :: l)]:=uL h1 h2
def gG (h:IH) (a b c:List Value) : ∃H0,H0=((h.new (.cells a 0 none)).new (.cells b 0 none)).new (.cells c 0 none)∧H0.n=h.n+3∧Ext h H0∧H0.ext.get h.n=some (.cells a 0 none)∧H0.ext.get (h.n+1)=some (.cells b 0 none)∧H0.ext.get (h.n+1+1)=some (.cells c 0 none) :=
 ⟨_,rfl,rfl,(((Ext.refl h).new _).new _).new _,(aq _ _ (by simp<;>omega)).trans ((aq _ _ (by simp<;>omega)).trans (ah _ _ rfl)),(aq _ _ (by simp<;>omega)).trans (ah _ _ rfl),ah _ _ rfl⟩
def ev (h:IH) (a b:List Value) : ∃H0,H0=(h.new (.cells a 0 none)).new (.cells b 0 none)∧H0.n=h.n+2∧Ext h H0∧H0.ext.get h.n=some (.cells a 0 none)∧H0.ext.get (h.n+1)=some (.cells b 0 none) :=
 ⟨_,rfl,rfl,((Ext.refl h).new _).new _,(aq _ _ (by simp<;>omega)).trans (ah _ _ rfl),ah _ _ rfl⟩
theorem aj {h:IH} {cs:List Value} {e:Nat} {f:Option Nat} (hg:h.ext.get b=some (.cells cs e f)):h.row (2*b)=some cs:=by rw[jD];simp only[IH.cells,hg]
def Ext.kept {a b:IH} (e:Ext a b) {o:bI} (hk:k<a.n) (g:a.ext.get k=some o):b.ext.get k=some o:=(e.get k hk).trans g
def tkA (a s b t:Value):List.take 2 (List.drop 0 [a,s,b,t]) = [a,s]:=rfl
def tkB (a s b t:Value):List.take 2 (List.drop 2 [a,s,b,t]) = [b,t]:=rfl
def qL (a s:Value):List.take 2 (List.drop 0 [a,s]) = [a,s]:=rfl
def fF (a s b t:Value):List.take 4 (List.drop 0 [a,s,b,t]) = [a,s,b,t]:=rfl
def ku (R:IH→Value→Rat→Prop) (h:IH):List Rat→List Value→Prop
 | [],cs=>cs = []
 | q :: l,cs => ∃a s b t cs',cs=a :: s :: b :: t :: cs'∧R h (.agg #[a,s,b,t]) q∧ku R h l cs'
def Kept (R:IH→Value→Rat→Prop):Prop:=∀h h' v q,R h v q→aK h h'→R h' v q
variable {h h':IH}{R:IH→Value→Rat→Prop}
def ku.aa (k:Kept R) (e:aK h h') : ∀{l:List Rat} {cs:List Value},ku R h l cs→ku R h' l cs
 | [],_,H=>H
 | _ :: _,_,⟨a,s,b,t,cs',h1,h2,h3⟩=>⟨a,s,b,t,cs',h1,k _ _ _ _ h2 e,ku.aa k e h3⟩
theorem ku.len : ∀{l:List Rat} {cs:List Value},ku R h l cs→cs.length=l.length*4
 | [],_,H=>by cases H;rfl
 | _ :: l,_,⟨a,s,b,t,cs',h1,h2,h3⟩=>by
  have:=ku.len h3
  subst h1
  simp only[List.length_cons,this];omega
theorem ku.at : ∀{l:List Rat} {cs:List Value} {i:Nat} {q:Rat},ku R h l cs→l[i]?=some q → ∃a s b t,(cs.drop (i*4)).take 4 = [a,s,b,t]∧R h (.agg #[a,s,b,t]) q
 | [],_,_,_,_,H=>by simp at H
 | x :: l,_,0,q,⟨a,s,b,t,cs',h1,h2,h3⟩,H=>by
  subst h1
  simp at H;subst H
  exact⟨a,s,b,t,rfl,h2⟩
 | x :: l,_,i+1,q,⟨a,s,b,t,cs',h1,h2,h3⟩,H=>by
  subst h1
  simp at H
  obtain⟨a',s',b',t',e,r⟩:=ku.at h3 H
  refine⟨a',s',b',t',?_,r⟩
  rw[show(i+1)*4=i*4+4 by omega]
  simpa using e
variable {q:Rat}
def ku.snoc {a s b t:Value} (r:R h (.agg #[a,s,b,t]) q) : ∀{l:List Rat} {cs:List Value},ku R h l cs→ku R h (l ++ [q]) (cs ++ [a,s,b,t])
 | [],_,H=>by cases H;exact⟨a,s,b,t,[],rfl,r,rfl⟩
 | _ :: l,_,⟨a',s',b',t',cs',h1,h2,h3⟩=>by
  subst h1
  exact⟨a',s',b',t',cs' ++ [a,s,b,t],rfl,h2,ku.snoc r h3⟩
def oz (R:IH→Value→Rat→Prop) (h:IH) (v:Value) (l:List Rat):Prop:=∃cs,bH h 4 v l.length cs∧ku R h l cs∧l.length≤100000
variable {l:List Rat}{v:Value}
def oz.aa (k:Kept R) (s:oz R h v l) (e:aK h h'):oz R h' v l:=let ⟨cs,a,b,c⟩:=s;⟨cs,a.aa e,b.aa k e,c⟩
variable {i:Nat}
def oz.ld (k:Kept R) (s:oz R h v l) (e:aK h h') (hi:l[i]?=some q) {P:Program} {t:TypeId} (hT:bh P t=some true) (hS:aO P t=some 4) :
  ∃a s b u,load P h' t (aP v (i*4))=some (.agg #[a,s,b,u])∧R h' (.agg #[a,s,b,u]) q:=by
 obtain⟨cs,hs,hc,hl⟩:=s
 have hil:=(List.getElem?_eq_some_iff.1 hi).1
 have hcl:=hc.len
 obtain⟨a,s,b,u,e1,r⟩:=hc.at hi
 exact⟨a,s,b,u,by rw[hs.C6 e (by omega) (by omega) hT hS,e1],k _ _ _ _ r e⟩
def gi (l:List Rat):Rat:=l.foldl (· + ·) 0
theorem jU (l:List Rat) (q:Rat):gi (l ++ [q])=gi l+q:=by simp[gi]
theorem eV {α:Type} {l:List α} {q:α} (h:l[i]?=some q):l.take (i+1)=l.take i ++ [q]:=by
 rw[List.take_add_one,h];rfl
def QB.zero:QB 0 (0:Rat):=⟨by simp,by simp⟩
theorem QB.gi {k:Nat} (h : ∀q∈l,QB k q) : ∀i,i≤l.length→QB (i*(k+1)) (gi (l.take i))
 | 0,_=>by rw[Nat.zero_mul];exact QB.zero
 | i+1,hi=>by
  obtain⟨q,hq⟩:=iC (l:=l) (i:=i) (by omega)
  rw[eV hq,jU]
  exact((QB.gi h i (by omega)).add (h q (List.mem_of_getElem? hq))).mono (by rw[Nat.add_mul];omega)
end Go.Id
namespace Go.Id.B
def aI (ds:List Nat):Nat→Nat
 | 0=>0
 | k+1=>aI ds k+ds.getD k 0*18446744073709551616 ^ k
def ao (ds:List Nat):Nat:=aI ds ds.length
def bJ (ds:List Nat):Prop:=∀d∈ds,d<18446744073709551616
def Norm (ds:List Nat):Prop:=ds = []∨ds.getD (ds.length - 1) 0≠0
variable {ds:List Nat}
def bS (h:bJ ds) (k:Nat):ds.getD k 0<18446744073709551616:=by
 rw[List.getD_eq_getElem?_getD]
 cases hx:ds[k]? with
 | none=>simp
 | some x=>simpa using h x (List.mem_of_getElem? hx)
theorem cW {k:Nat} (h:ds.length≤k):ds.getD k 0=0:=by
 rw[List.getD_eq_getElem?_getD,List.getElem?_eq_none h];rfl
def qZ (k:Nat):0<18446744073709551616 ^ k:=Nat.pow_pos (by omega)
theorem iz (h:bJ ds) : ∀k,aI ds k<18446744073709551616 ^ k
 | 0=>by simp[aI]
 | k+1=>by
  have ih:=iz h k
  have hd:=bS h k
  have h2:ds.getD k 0*18446744073709551616 ^ k≤18446744073709551615*18446744073709551616 ^ k:=Nat.mul_le_mul_right _ (by omega)
  rw[aI,Nat.pow_succ]
  omega
theorem iS : ∀{k:Nat},ds.length≤k→aI ds k=ao ds
 | 0,h=>by
  have:ds = []:=List.length_eq_zero_iff.1 (by omega)
  subst this;rfl
 | k+1,h=>by
  by_cases hk:ds.length≤k
  ·rw[aI,iS hk,cW hk];simp
  ·have:ds.length=k+1:=by omega
   rw[ao,this]
theorem fm {es:List Nat} : ∀{k:Nat},(∀j,j<k→ds.getD j 0=es.getD j 0)→aI ds k=aI es k
 | 0,_=>rfl
 | k+1,h=>by rw[aI,aI,fm fun j hj=>h j (by omega),h k (by omega)]
def jz (h:bJ ds):ao ds<18446744073709551616 ^ ds.length:=iz h _
theorem bJ.append {x:Nat} (h:bJ ds) (hx:x<18446744073709551616):bJ (ds ++ [x]):=by
 intro d hd
 rcases List.mem_append.1 hd with h1|h1
 ·exact h d h1
 ·simp at h1;omega
def bJ.take (h:bJ ds) (n:Nat):bJ (ds.take n):=fun d hd=>h d (List.mem_of_mem_take hd)
theorem oT (ds:List Nat) (n j:Nat):(ds.take n).getD j 0=if j<n then ds.getD j 0 else 0:=by
 simp only[List.getD_eq_getElem?_getD,List.getElem?_take]
 split<;>rfl
theorem jQ (ds:List Nat) (m:Nat) : ∀k,(∀j,m≤j→j<m+k→ds.getD j 0=0)→aI ds (m+k)=aI ds m
 | 0,_=>rfl
 | k+1,h=>by
  rw[show m+(k+1)=(m+k)+1 from rfl,aI,jQ ds m k (fun j a b=>h j a (by omega)),h (m+k) (by omega) (by omega)]
  simp
def wL {m:Nat} (hm:m≤ds.length) (h : ∀j,m≤j→ds.getD j 0=0):ao (ds.take m)=ao ds:=by
 have h1:(ds.take m).length=m:=by simp[hm]
 rw[ao,h1]
 have h2:aI (ds.take m) m=aI ds m:=fm fun j hj=>by rw[oT,if_pos hj]
 rw[h2]
 have:=jQ ds m (ds.length - m) (fun j a _=>h j a)
 rw[show m+(ds.length - m)=ds.length from by omega] at this
 exact this.symm
def Norm.ge (h:Norm ds) (hne:ds ≠ []):18446744073709551616 ^ (ds.length - 1)≤ao ds:=by
 rcases h with h|h
 ·exact absurd h hne
 ·have hl:0<ds.length:=List.length_pos_iff.2 hne
  obtain⟨n,hn⟩ : ∃n,ds.length=n+1:=⟨ds.length - 1,by omega⟩
  rw[ao,hn,aI]
  rw[hn] at h
  simp only[Nat.add_sub_cancel] at h ⊢
  have:1*18446744073709551616 ^ n≤ds.getD n 0*18446744073709551616 ^ n:=Nat.mul_le_mul_right _ (by omega)
  omega
variable {a b:List Nat}
def jX (ha:bJ a) (hb:Norm b) (hl:a.length<b.length):ao a<ao b:=by
 have h1:=jz ha
 have h2:=hb.ge (by intro h;subst h;simp at hl)
 have h3:18446744073709551616 ^ a.length≤18446744073709551616 ^ (b.length - 1):=Nat.pow_le_pow_right (by omega) (by omega)
 omega
variable {i:Nat}
def qI (ha:bJ a) (hi:a.getD i 0<b.getD i 0) : ∀k,(∀j,i<j→j<i+1+k→a.getD j 0=b.getD j 0)→aI a (i+1+k)<aI b (i+1+k)
 | 0,_=>by
  have h1:=iz ha i
  have h2:(a.getD i 0+1)*18446744073709551616 ^ i≤b.getD i 0*18446744073709551616 ^ i:=Nat.mul_le_mul_right _ (by omega)
  rw[Nat.add_mul] at h2
  rw[Nat.add_zero,aI,aI]
  omega
 | k+1,h=>by
  have:=qI ha hi k (fun j x y=>h j x (by omega))
  rw[show i+1+(k+1)=(i+1+k)+1 from rfl,aI,aI,h (i+1+k) (by omega) (by omega)]
  omega
def jW (ha:bJ a) (hl:a.length=b.length) (hn:i<a.length) (hi:a.getD i 0<b.getD i 0) (h : ∀j,i<j→j<a.length→a.getD j 0=b.getD j 0):ao a<ao b:=by
 have:=qI ha hi (a.length - (i+1)) (fun j x y=>h j x (by omega))
 rw[show i+1+(a.length - (i+1))=a.length from by omega] at this
 rw[ao,ao,←hl];exact this
def mj (hl:a.length=b.length) (h : ∀j,j<a.length→a.getD j 0=b.getD j 0):ao a=ao b:=by
 rw[ao,ao,←hl];exact fm h
def Norm.kI (h:Norm ds):ao ds=0↔ds = []:=by
 constructor
 ·intro h0
  apply Classical.byContradiction;intro hne
  have:=h.ge hne
  have:=qZ (ds.length - 1)
  omega
 ·rintro rfl;rfl
def Norm.jd (ha:Norm a) (hb:bJ b) (h:ao a≤ao b):a.length≤b.length:=by
 apply Classical.byContradiction;intro hn
 have:=jX hb ha (by omega)
 omega
theorem oD (d:Nat) (ds:List Nat) : ∀k,aI (d :: ds) (k+1)=d+18446744073709551616*aI ds k
 | 0=>by simp[aI]
 | k+1=>by
  rw[aI,oD d ds k,aI]
  simp only[List.getD_cons_succ,Nat.pow_succ]
  grind
theorem jS (d:Nat) (ds:List Nat):ao (d :: ds)=d+18446744073709551616*ao ds:=oD d ds _
def yc : ∀{a b:List Nat},bJ a→bJ b→Norm a→Norm b→ao a=ao b→a=b:=by
 intro a b ha hb na nb h
 have l1:=na.jd hb (by omega)
 have l2:=nb.jd ha (by omega)
 have hl:a.length=b.length:=by omega
 clear l1 l2 na nb
 induction a generalizing b with
 | nil=>exact(List.length_eq_zero_iff.1 hl.symm).symm
 | cons x a ih =>
  cases b with
  | nil=>simp at hl
  | cons y b =>
   rw[jS,jS] at h
   have hx:x<18446744073709551616:=ha x (by simp)
   have hy:y<18446744073709551616:=hb y (by simp)
   have e1:x=y:=by omega
   have e2:ao a=ao b:=by omega
   rw[e1,ih (b:=b) (fun d hd=>ha d (by simp[hd])) (fun d hd=>hb d (by simp[hd])) e2 (by simpa using hl)]
variable {ds:List Nat}{w k:Nat}
theorem dD (hk:k<ds.length) (j:Nat):(ds.set k w).getD j 0=if j=k then w else ds.getD j 0:=by
 simp only[List.getD_eq_getElem?_getD,List.getElem?_set]
 by_cases h:k=j
 ·subst h;simp[hk]
 ·rw[if_neg h,if_neg (fun x=>h x.symm)]
def qJ {ds:List Nat} {k w:Nat} (hk:k<ds.length) : ∀n,aI (ds.set k w) n+(if k<n then ds.getD k 0*18446744073709551616 ^ k else 0)=aI ds n+(if k<n then w*18446744073709551616 ^ k else 0)
 | 0=>by simp[aI]
 | n+1=>by
  have ih:=qJ (w:=w) hk n
  rw[aI,aI,dD hk]
  by_cases h1:k<n
  ·rw[if_pos h1,if_pos h1] at ih
   rw[if_pos (show k<n+1 by omega),if_pos (show k<n+1 by omega),if_neg (show ¬n=k by omega)]
   omega
  ·rw[if_neg h1,if_neg h1] at ih
   by_cases h2:n=k
   ·subst h2
    rw[if_pos (Nat.lt_succ_self n),if_pos (Nat.lt_succ_self n),if_pos rfl]
    omega
   ·rw[if_neg (show ¬k<n+1 by omega),if_neg (show ¬k<n+1 by omega),if_neg h2]
    omega
def iK (w:Nat) (hk:k<ds.length):ao (ds.set k w)+ds.getD k 0*18446744073709551616 ^ k=ao ds+w*18446744073709551616 ^ k:=by
 have h:=qJ (w:=w) hk ds.length
 rw[if_pos hk,if_pos hk] at h
 rw[ao,ao,List.length_set];exact h
theorem oC (m:Nat) : ∀n,aI (List.replicate m 0) n=0
 | 0=>rfl
 | n+1=>by
  rw[aI,oC m n]
  have:(List.replicate m 0).getD n 0=0:=by
   rw[List.getD_eq_getElem?_getD,List.getElem?_replicate];split<;>rfl
  rw[this];simp
theorem jR (m:Nat):ao (List.replicate m 0)=0:=oC m _
def jZ (m j:Nat):(List.replicate m 0).getD j 0=0:=by
 rw[List.getD_eq_getElem?_getD,List.getElem?_replicate];split<;>rfl
def bJ.set (h:bJ ds) (k:Nat) (hw:w<18446744073709551616):bJ (ds.set k w):=by
 intro d hd
 rcases List.mem_or_eq_of_mem_set hd with h1|h1
 ·exact h d h1
 ·omega
theorem bJ.bB (m:Nat):bJ (List.replicate m 0):=by
 intro d hd
 rw[List.mem_replicate] at hd
 omega
def Norm.MG (h:Norm ds) {m:Nat} (hs:ao ds<18446744073709551616 ^ m):ds.length≤m:=by
 apply Classical.byContradiction;intro hn
 have hne:ds ≠ []:=by intro h0;subst h0;simp at hn
 have h1:=h.ge hne
 have h2:18446744073709551616 ^ m≤18446744073709551616 ^ (ds.length - 1):=Nat.pow_le_pow_right (by omega) (by omega)
 omega
end Go.Id.B
namespace Go.Id
open Go
variable {y0 y1:Nat}
def RH {x1 x0:Nat} (h0:x0<4294967296) (h1:x1<4294967296) (g0:y0<4294967296) (g1:y1<4294967296) :
  x1*y0+x0*y0 / 4294967296<18446744073709551616∧(x1*y0+x0*y0 / 4294967296) % 4294967296+x0*y1<18446744073709551616 ∧
   x1*y1+(x1*y0+x0*y0 / 4294967296) / 4294967296+((x1*y0+x0*y0 / 4294967296) % 4294967296+x0*y1) / 4294967296=(x1*4294967296+x0)*(y1*4294967296+y0) / 18446744073709551616:=by
 have b00:x0*y0≤4294967295*4294967295:=Nat.mul_le_mul (by omega) (by omega)
 have b10:x1*y0≤4294967295*4294967295:=Nat.mul_le_mul (by omega) (by omega)
 have b01:x0*y1≤4294967295*4294967295:=Nat.mul_le_mul (by omega) (by omega)
 have e:(x1*4294967296+x0)*(y1*4294967296+y0)=x1*y1*18446744073709551616+x1*y0*4294967296+x0*y1*4294967296+x0*y0:=by grind
 rw[e]
 generalize x0*y0=a at *
 generalize x1*y0=b at *
 generalize x0*y1=c at *
 generalize x1*y1=d at *
 refine⟨by omega,by omega,by omega⟩
def F9 (y1 y0 u d q r:Nat):Prop:=q*y1+r=u∧(u*4294967296+d) / (y1*4294967296+y0)≤q∧q≤4294967297
variable {u d:Nat}
def Bm (h1:2147483648≤y1) (h0:y0<4294967296) (hu:u<y1*4294967296+y0) (hd:d<4294967296):F9 y1 y0 u d (u / y1) (u % y1):=by
 have e:=Nat.div_add_mod u y1
 have hm:=Nat.mod_lt u (show 0<y1 by omega)
 have e1:u / y1*y1=y1*(u / y1):=Nat.mul_comm _ _
 refine⟨by omega,?_,?_⟩
 ·generalize hq:u / y1=q at *
  rw[Nat.div_le_iff_le_mul_add_pred (by omega)]
  have e2:(y1*4294967296+y0)*q=y1*q*4294967296+y0*q:=by grind
  rw[e2]
  have:0≤y0*q:=Nat.zero_le _
  omega
 ·rw[Nat.div_le_iff_le_mul_add_pred (by omega)]
  omega
variable {r q:Nat}
def Dv (h1:2147483648≤y1) (h0:y0<4294967296) (hu:u<y1*4294967296+y0) (hd:d<4294967296) (J:F9 y1 y0 u d q r) (hc:4294967296≤q∨4294967296*r+d<q*y0):0<q∧F9 y1 y0 u d (q - 1) (r+y1):=by
 obtain⟨j1,j2,j3⟩:=J
 have hlt:(u*4294967296+d) / (y1*4294967296+y0)<q:=by
  rw[Nat.div_lt_iff_lt_mul (by omega)]
  have e2:q*(y1*4294967296+y0)=q*y1*4294967296+q*y0:=by grind
  rw[e2]
  rcases hc with hc|hc
  ·have e3:4294967296*y0≤q*y0:=Nat.mul_le_mul_right _ hc
   have e4:4294967296*y1≤q*y1:=Nat.mul_le_mul_right _ hc
   omega
  ·omega
 have hq:0<q:=Nat.lt_of_le_of_lt (Nat.zero_le _) hlt
 refine⟨hq,?_,Nat.le_sub_one_of_lt hlt,by omega⟩
 have e5:(q - 1)*y1+y1=q*y1:=by
  obtain⟨p,rfl⟩ : ∃p,q=p+1:=⟨q - 1,by omega⟩
  rw[Nat.add_sub_cancel,Nat.add_mul,Nat.one_mul]
 omega
theorem xm (h1:2147483648≤y1) (h0:y0<4294967296) (J:F9 y1 y0 u d q r) (hc:q*y0≤4294967296*r+d):(u*4294967296+d) / (y1*4294967296+y0)=q:=by
 obtain⟨j1,j2,j3⟩:=J
 refine Nat.le_antisymm j2 ?_
 rw[Nat.le_div_iff_mul_le (by omega)]
 have e2:q*(y1*4294967296+y0)=q*y1*4294967296+q*y0:=by grind
 rw[e2];omega
theorem pW (h1:2147483648≤y1) (h0:y0<4294967296) (J:F9 y1 y0 u d q r) (hr:4294967296≤r) (hq:q≤4294967296):(u*4294967296+d) / (y1*4294967296+y0)=q:=by
 refine xm h1 h0 J ?_
 have:q*y0≤4294967296*4294967295:=Nat.mul_le_mul hq (by omega)
 omega
end Go.Id

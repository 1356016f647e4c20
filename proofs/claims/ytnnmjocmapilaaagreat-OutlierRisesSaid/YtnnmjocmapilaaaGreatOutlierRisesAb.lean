/-
  The ideal machine: laws of its heap, and what each change of memory does to the relation w
-/
import Derived.Test.YtnnmjocmapilaaaGreatOutlierRisesAa
import Derived.Laws.Sem
import Derived.Laws.Cells
import Derived.Laws.Entries
set_option linter.unusedVariables false
set_option linter.unusedSimpArgs false
set_option linter.defProp false
set_option linter.deprecated false
namespace Go.Id
open Go Go.RowKit
namespace Tr
variable {α:Type}
def rL (k:Nat):(leaf:Tr α).get k=none:=rfl
def mR (l r:Tr α) (v:Option α) (k:Nat):(node l v r).get k=if k=0 then v else if k % 2=1 then l.get (k / 2) else r.get ((k - 1) / 2):=by
 simp only[get,cond_eq_ite,beq_iff_eq]
theorem Fm : ∀(f n:Nat) (x:α) (k:Nat),n≤f→(one f n x).get k=if k=n then some x else none
 | 0,n,x,k,h=>by
  obtain rfl:n=0:=by omega
  simp only[one,mR,rL]
  by_cases hk:k=0<;>simp[hk]
 | f+1,n,x,k,h=>by
  simp only[one,cond_eq_ite,beq_iff_eq]
  by_cases hn:n=0
  ·subst hn;simp only[if_true,mR,rL]
   by_cases hk:k=0<;>simp[hk]
  ·by_cases ho:n % 2=1
   ·simp only[hn,ho,if_true,if_false,mR,rL]
    by_cases hk:k=0
    ·subst hk;simp;omega
    ·by_cases hk1:k % 2=1
     ·simp only[hk,hk1,if_true,if_false]
      rw[Fm f (n / 2) x (k / 2) (by omega)]
      by_cases e:k / 2=n / 2
      ·rw[if_pos e,if_pos (by omega)]
      ·rw[if_neg e,if_neg (by omega)]
     ·simp only[hk,hk1,if_false]
      rw[if_neg (by omega)]
   ·simp only[hn,ho,if_false,mR,rL]
    by_cases hk:k=0
    ·subst hk;simp;omega
    ·by_cases hk1:k % 2=1
     ·simp only[hk,hk1,if_true,if_false]
      rw[if_neg (by omega)]
     ·simp only[hk,hk1,if_false]
      rw[Fm f ((n - 1) / 2) x ((k - 1) / 2) (by omega)]
      by_cases e:(k - 1) / 2=(n - 1) / 2
      ·rw[if_pos e,if_pos (by omega)]
      ·rw[if_neg e,if_neg (by omega)]
theorem bL : ∀(t:Tr α) (n:Nat) (x:α) (k:Nat),(t.set n x).get k=if k=n then some x else t.get k
 | .leaf,n,x,k=>by simp only[set,Fm n n x k (Nat.le_refl n),rL]
 | .node l v r,n,x,k=>by
  simp only[set,cond_eq_ite,beq_iff_eq]
  by_cases hn:n=0
  ·subst hn;simp only[if_true,mR]
   by_cases hk:k=0<;>simp[hk]
  ·by_cases ho:n % 2=1
   ·simp only[hn,ho,if_true,if_false,mR]
    by_cases hk:k=0
    ·subst hk;simp only[if_true];rw[if_neg (by omega)]
    ·by_cases hk1:k % 2=1
     ·simp only[hk,hk1,if_true,if_false]
      rw[bL l (n / 2) x (k / 2)]
      by_cases e:k / 2=n / 2
      ·rw[if_pos e,if_pos (by omega)]
      ·rw[if_neg e,if_neg (by omega)]
     ·simp only[hk,hk1,if_false]
      rw[if_neg (by omega)]
   ·simp only[hn,ho,if_false,mR]
    by_cases hk:k=0
    ·subst hk;simp only[if_true];rw[if_neg (by omega)]
    ·by_cases hk1:k % 2=1
     ·simp only[hk,hk1,if_true,if_false]
      rw[if_neg (by omega)]
     ·simp only[hk,hk1,if_false]
      rw[bL r ((n - 1) / 2) x ((k - 1) / 2)]
      by_cases e:(k - 1) / 2=(n - 1) / 2
      ·rw[if_pos e,if_pos (by omega)]
      ·rw[if_neg e,if_neg (by omega)]
end Tr
theorem ju : ∀(l:List Nat) (e:Tr bI) (k:Nat),(IH.dJ e l).get k=if k∈l then some .dead else e.get k
 | [],e,k=>by simp[IH.dJ]
 | a :: l,e,k=>by
  rw[IH.dJ,ju l _ k,Tr.bL]
  by_cases h1:k∈l
  ·simp[h1]
  ·by_cases h2:k=a
   ·simp[h2]
   ·simp[h1,h2]
theorem heap_alloc (w:World) (o:Obj) (r:Nat):(w.alloc o).heap[r]?=if r=w.heap.size then some o else w.heap[r]?:=by
 show(w.heap.push o)[r]?=_
 rw[Array.getElem?_push]
theorem size_alloc (w:World) (o:Obj):(w.alloc o).heap.size=w.heap.size+1:=by
 show(w.heap.push o).size=_
 simp
variable {r:Nat}{o:bI}{m:Mp}{s:Nat}{z:Nat×Nat}{w:World}
def fY.mono {m':Mp} {w':World} {z':Nat×Nat} (hm:m.le m') (hw:w'.heap[r]?=w.heap[r]?) (hz:z'=z) (h:fY m w r s z o):fY m' w' r s z' o:=by
 subst hz
 cases o with
 | cells cs t f =>
  obtain⟨c,el,a,⟨b,d⟩,e⟩:=h
  exact⟨c,el,hw.trans a,⟨b,fun i v hv=>let ⟨v',x,y⟩:=d i v hv;⟨v',x,y.mono hm⟩⟩,e⟩
 | map es =>
  obtain⟨h0,c,a,b,d⟩:=h
  exact⟨h0,c,hw.trans a,b,fun i e e' x y=>let ⟨⟨p,q,z⟩,t⟩:=d i e e' x y;⟨⟨p,q,z.mono hm⟩,t⟩⟩
 | loop l =>
  obtain⟨h0,l',a,b⟩:=h
  exact⟨h0,l',hw.trans a,⟨b.state,b.pending,b.fn,fun t v hv=>let ⟨v',x,y⟩:=b.tmps t v hv;⟨v',x,y.mono hm⟩,b.nt,b.params,b.assign,b.body⟩⟩
 | iter k since seen last =>
  obtain⟨h0,rm,a,b⟩:=h
  exact⟨h0,rm,hw.trans a,(hm _ _ b).1⟩
 | num x=>exact h.imp id fun⟨c,el,a,b,d⟩=>⟨c,el,hw.trans a,b,fun i v hv=>let ⟨v',x,y⟩:=d i v hv;⟨v',x,y.mono hm⟩⟩
 | dead=>trivial
def Mp.upd (m:Mp) (b:Nat) (x z:Nat×Nat):Mp:=⟨fun b'=>if b'=b then some x else m b',fun b'=>if b'=b then z else m.ez b'⟩
variable {b:Nat}
def Mp.AM {x:Nat×Nat} (h:m b=none):m.le (m.upd b x z):=by
 intro b' y hy
 unfold Mp.upd
 by_cases e:b'=b
 ·subst e;rw[h] at hy;cases hy
 ·simp[e,hy]
theorem Mp.bj (m:Mp) (b:Nat) (x z:Nat×Nat):m.upd b x z b=some x:=by simp[Mp.upd]
variable {b':Nat}
theorem Mp.bY (m:Mp) (x z:Nat×Nat) (h:b'≠b):m.upd b x z b'=m b':=by simp[Mp.upd,h]
theorem Mp.lZ (m:Mp) (b:Nat) (x z:Nat×Nat):(m.upd b x z).ez b=z:=by simp[Mp.upd]
def Mp.Sx (m:Mp) (x z:Nat×Nat) (h:b'≠b):(m.upd b x z).ez b'=m.ez b':=by simp[Mp.upd,h]
def bI.lone:bI→Bool
 | .cells _ _ (some _)=>false
 | _=>true
variable {w0:World}{B:Nat}
def nQ (h:Below B w0 w) (hs:B≤w.heap.size) (o:Obj):Below B w0 (w.alloc o) :=
 h.alloc hs o
variable {h:IH}{k:Nat}
def ML (hd:h.ext.get h.n=none) {k':Nat} (hk:Kin h k k'):Kin (h.new o) k k':=by
 obtain⟨cs,t,cs',t',f,st,a,b,c,d,e⟩:=hk
 have h1:k≠h.n:=by intro e;rw[e,hd] at a;cases a
 have h2:k'≠h.n:=by intro e;rw[e,hd] at b;cases b
 exact⟨cs,t,cs',t',f,st,by simp[IH.new,Tr.bL,h1,a],by simp[IH.new,Tr.bL,h2,b],c,d,e⟩
def Rel.new (R:Rel B w0 m h w) (o:bI) (o':Obj) (z:Nat×Nat) (hm:m (2*h.n)=none)
  (ho:fY m (w.alloc o') w.heap.size 0 z o) (hl:o.lone=true) :
  Rel B w0 (m.upd (2*h.n) (w.heap.size,0) z) (h.new o) (w.alloc o')∧Step m h w (m.upd (2*h.n) (w.heap.size,0) z) (h.new o) (w.alloc o'):=by
 have hle:m.le (m.upd (2*h.n) (w.heap.size,0) z):=Mp.AM hm
 have hold : ∀r,r<w.heap.size→(w.alloc o').heap[r]?=w.heap[r]?:=fun r hr=>by rw[heap_alloc,if_neg (by omega)]
 have cD : ∀k,(h.new o).ext.get k=if k=h.n then some o else h.ext.get k:=fun k=>Tr.bL _ _ _ _
 have hdn:=R.dom h.n (Nat.le_refl _)
 refine⟨⟨nQ R.below R.size o',by rw[size_alloc];have:=R.size;omega,?_,?_,?_,?_,?_,?_,?_,?_,?_,?_⟩,⟨hle,?_,Nat.le_succ _,rfl,fun r hr _=>hold r hr,?_,by rw[size_alloc];omega,fun k r s hk1 hk2 hk=>by
  obtain rfl:k=h.n:=by have:(h.new o).n=h.n+1:=rfl;omega
  rw[Mp.bj] at hk;cases hk;exact .inl (Nat.le_refl _),fun _ _ _ h=>h⟩⟩
 ·intro b cs hb
  obtain⟨r0,s0,hm0,hb1,c,el,fz,hc,hr⟩:=R.base b cs hb
  refine⟨r0,s0,by rw[Mp.bY _ _ _ (by omega)];exact hm0,hb1,c,el,fz,?_,hr.1,fun i v hv=>let ⟨v',x,y⟩:=hr.2 i v hv;⟨v',x,y.mono hle⟩⟩
  rw[hold r0 (by have:=R.size;omega),hc]
 ·intro b hb
  rw[Mp.bY _ _ _ (by omega)]
  exact R.odd b hb
 ·intro k r s hk
  rw[size_alloc]
  by_cases e:k=h.n
  ·subst e;rw[Mp.bj] at hk;cases hk;exact⟨R.size,by omega⟩
  ·rw[Mp.bY _ _ _ (by omega)] at hk
   have:=R.even k r s hk;omega
 ·intro k hk
  rw[cD,if_neg (by have:(h.new o).n=h.n+1:=rfl;omega)]
  exact R.dom k (by have:(h.new o).n=h.n+1:=rfl;omega)
 ·intro k x r s hk hr
  rw[cD] at hk
  by_cases e:k=h.n
  ·subst e;rw[if_pos rfl] at hk;cases hk
   rw[Mp.bj] at hr;cases hr
   exact ho.mono hle rfl (Mp.lZ _ _ _ _)
  ·rw[if_neg e] at hk;rw[Mp.bY _ _ _ (by omega)] at hr
   exact(R.obj k x r s hk hr).mono hle (hold r (R.even k r s hr).2) (Mp.Sx _ _ _ (by omega))
 ·intro k k' x x' r s s' hne hk hk' ha ha' hr hr'
  rw[cD] at hk hk'
  by_cases e:k=h.n
  ·subst e
   rw[Mp.bj] at hr;cases hr
   rw[Mp.bY _ _ _ (by omega)] at hr'
   have:=R.even _ _ _ hr';omega
  ·by_cases e':k'=h.n
   ·subst e'
    rw[Mp.bj] at hr';cases hr'
    rw[Mp.bY _ _ _ (by omega)] at hr
    have:=R.even _ _ _ hr;omega
   ·rw[if_neg e] at hk;rw[if_neg e'] at hk'
    rw[Mp.bY _ _ _ (by omega)] at hr hr'
    exact(R.own k k' x x' r s s' hne hk hk' ha ha' hr hr').imp (ML hdn) id
 ·intro f st hf
  obtain⟨a,b,c⟩:=R.du f st hf
  exact⟨Nat.lt_succ_of_lt a,fun x hx=>Nat.lt_succ_of_lt (b x hx),c⟩
 ·intro k cs t f hk
  rw[cD] at hk
  by_cases e:k=h.n
  ·rw[if_pos e] at hk;cases hk;simp[bI.lone] at hl
  ·rw[if_neg e] at hk;exact R.fam k cs t f hk
 ·intro f st hf
  have hlt:=(R.du f st hf).2.1
  refine(R.long f st hf).imp_of_mem fun {x y} hx hy hxy=>?_
  have ex:x≠h.n:=by have:=hlt x hx;omega
  have ey:y≠h.n:=by have:=hlt y hy;omega
  intro cs t g cs' t' g' r s s' h1 h2 h3 h4
  rw[cD,if_neg ex] at h1;rw[cD,if_neg ey] at h2
  rw[Mp.bY _ _ _ (by omega)] at h3 h4
  exact hxy cs t g cs' t' g' r s s' h1 h2 h3 h4
 ·intro f st x y hf hx hy
  have hlt:=(R.du f st hf).2.1
  rw[Mp.bY _ _ _ (by have:=hlt x hx;omega),Mp.bY _ _ _ (by have:=hlt y hy;omega)]
  exact R.whole f st x y hf hx hy
 ·intro b hb
  by_cases e:b=2*h.n
  ·exact⟨h.n,e,Nat.le_refl _,Nat.lt_succ_self _⟩
  ·exact absurd (Mp.bY _ _ _ e) hb
 ·intro k hk _
  rw[cD,if_neg (by omega)]
def World.put (w:World) (r:Nat) (o:Obj):World:={ w with heap:=w.heap.setIfInBounds r o }
theorem kW (w:World) (r:Nat) (o:Obj) (r':Nat):(World.put w r o).heap[r']?=if r'=r∧r<w.heap.size then some o else w.heap[r']?:=by
 show(w.heap.setIfInBounds r o)[r']?=_
 rw[Array.getElem?_setIfInBounds]
 by_cases h:r'=r
 ·subst h
  by_cases hr:r'<w.heap.size<;>simp[hr]
 ·rw[if_neg (fun e=>h e.symm),if_neg (fun e=>h e.1)]
theorem jB (w:World) (r:Nat) (o:Obj):(World.put w r o).heap.size=w.heap.size:=by
 show(w.heap.setIfInBounds r o).size=_
 simp
def sW (h:Below B w0 w) (hr:B≤r) (o:Obj):Below B w0 (World.put w r o) :=
 ⟨h.os,h.tape,h.output,by rw[jB];exact h.size,fun k hk=>by rw[kW,if_neg (by omega)];exact h.block k hk⟩
def iD (c:Array Value) (q:Nat):List Value→Array Value
 | []=>c
 | v :: vs=>iD (c.setIfInBounds q v) (q+1) vs
theorem iZ : ∀(vs:List Value) (c:Array Value) (q:Nat),(iD c q vs).size=c.size
 | [],c,q=>rfl
 | v :: vs,c,q=>by rw[iD,iZ vs,Array.size_setIfInBounds]
theorem oS : ∀(vs:List Value) (c:Array Value) (q j:Nat),q+vs.length≤c.size→(iD c q vs)[j]?=if q≤j∧j<q+vs.length then vs[j - q]? else c[j]?
 | [],c,q,j,h=>by simp only[iD,List.length_nil];rw[if_neg (by omega)]
 | v :: vs,c,q,j,h=>by
  simp only[List.length_cons] at h
  rw[iD,oS vs _ _ _ (by rw[Array.size_setIfInBounds];omega),Array.getElem?_setIfInBounds]
  by_cases h1:j=q
  ·subst h1
   rw[if_neg (by omega),if_pos rfl,if_pos (by omega),if_pos (by simp)]
   simp
  ·by_cases h2:q+1≤j∧j<q+1+vs.length
   ·rw[if_pos h2,if_pos (by simp only[List.length_cons];omega)]
    rw[show j - q=(j - (q+1))+1 from by omega,List.getElem?_cons_succ]
   ·rw[if_neg h2,if_neg (fun e=>h1 e.symm),if_neg (by simp only[List.length_cons];omega)]
theorem oo (cs:List Value) (o:Nat) (vs:List Value) (h:o+vs.length≤cs.length):(IH.aJ cs o vs).length=cs.length:=by
 simp[IH.aJ];omega
theorem AY (cs:List Value) (o:Nat) (vs:List Value) (h:o+vs.length≤cs.length) (j:Nat) :
  (IH.aJ cs o vs)[j]?=if o≤j∧j<o+vs.length then vs[j - o]? else cs[j]?:=by
 unfold IH.aJ
 by_cases h1:j<o
 ·rw[List.getElem?_append_left (by simp;omega),List.getElem?_take_of_lt h1,if_neg (by omega)]
 ·rw[List.getElem?_append_right (by simp;omega)]
  have e:(cs.take o).length=o:=by simp;omega
  rw[e]
  by_cases h2:j<o+vs.length
  ·rw[List.getElem?_append_left (by omega),if_pos (by omega)]
  ·rw[List.getElem?_append_right (by omega),if_neg (by omega),List.getElem?_drop]
   congr 1;omega
variable {c:Array Value}{cs:List Value}
def nV.aJ {o:Nat} {vs vs':List Value} (h:nV m cs c s) (ho:o+vs.length≤cs.length) (hv:bw m vs vs') :
  nV m (IH.aJ cs o vs) (iD c (s+o) vs') s:=by
 have hl:=hv.1
 refine⟨by rw[oo cs o vs ho,iZ];exact h.1,fun i v hi=>?_⟩
 rw[AY cs o vs ho] at hi
 rw[oS vs' c _ _ (by have:=h.1;omega)]
 by_cases h1:o≤i∧i<o+vs.length
 ·rw[if_pos h1] at hi;rw[if_pos (by omega)]
  rw[show s+i - (s+o)=i - o from by omega]
  obtain⟨v',a,b⟩:=hv.get hi
  exact⟨v',a,b⟩
 ·rw[if_neg h1] at hi;rw[if_neg (by omega)]
  exact h.2 i v hi
def DJ {v v':Value} (h:aG m v v') (hv:aB v=true):aB v'=true:=by
 cases h<;>simp_all [aB]
theorem GZ (w:World) (r q:Nat) (v:Value) (c:Array Value) (el:TypeId) (h:w.heap[r]?=some (.cells c el)) :
  w.setCell ⟨r,q,none⟩ v=World.put w r (.cells (c.setIfInBounds q v) el):=by
 have hr:r<w.heap.size:=(Array.getElem?_eq_some_iff.1 h).1
 unfold Go.World.setCell World.put
 congr 1
 apply Array.ext_getElem?
 intro i
 rw[Array.getElem?_modify,Array.getElem?_setIfInBounds]
 by_cases hi:r=i
 ·subst hi
  have e:=(Array.getElem?_eq_some_iff.1 h).2
  simp[hr,e]
 ·simp[hi]
theorem UF (w:World) (r:Nat) (a b:Obj):World.put (World.put w r a) r b=World.put w r b:=by
 unfold World.put
 simp
def mz (P:Program) (r p:Nat) (el:TypeId) : ∀(vs:List Value) (i:Nat) (w:World) (c:Array Value),w.heap[r]?=some (.cells c el) →
  p+i+vs.length≤c.size→(∀v∈vs,aB v=true)→(storeCells ⟨r,p,none⟩ vs i).run P w=.ok () (if vs = [] then w else World.put w r (.cells (iD c (p+i) vs) el))
 | [],i,w,c,h,hl,hv=>by simp[storeCells,pure]
 | v :: vs,i,w,c,h,hl,hv=>by
  have hr:r<w.heap.size:=(Array.getElem?_eq_some_iff.1 h).1
  simp only[List.length_cons] at hl
  have ZbV:w.cell? (Addr.add ⟨r,p,none⟩ i)=some (c[p+i]'(by omega)):=by
   have:(Addr.add ⟨r,p,none⟩ i).block=r∧(Addr.add ⟨r,p,none⟩ i).off=p+i∧(Addr.add ⟨r,p,none⟩ i).spot=none:=by
    unfold Addr.add;by_cases h0:i=0<;>simp[h0]
   obtain⟨a,b,d⟩:=this
   simp[World.cell?,a,b,d,h]
  have Vz:Addr.add ⟨r,p,none⟩ i=⟨r,p+i,none⟩:=by unfold Addr.add;by_cases h0:i=0<;>simp[h0]
  have hfz:w.frozen? (Addr.add ⟨r,p,none⟩ i)=false:=by
   rw[Vz];simp[World.frozen?,h]
  have h1:=hv v (by simp)
  have jE:(World.put w r (.cells (c.setIfInBounds (p+i) v) el)).heap[r]?=some (.cells (c.setIfInBounds (p+i) v) el):=by rw[kW,if_pos ⟨rfl,hr⟩]
  have ih:=mz P r p el vs (i+1) (World.put w r (.cells (c.setIfInBounds (p+i) v) el)) (c.setIfInBounds (p+i) v) jE (by rw[Array.size_setIfInBounds];omega) (fun x hx=>hv x (by simp[hx]))
  have YD:(storeCells ⟨r,p,none⟩ (v :: vs) i).run P w=(storeCells ⟨r,p,none⟩ vs (i+1)).run P (w.setCell (Addr.add ⟨r,p,none⟩ i) v):=by
   cases v<;>first
    | (simp[aB] at h1;done)
    | (simp only[storeCells,Go.store,bind,Sem.bind,Sem.run,ZbV,hfz];rfl)
  rw[YD,Vz,GZ w r (p+i) v c el h,ih]
  simp only[reduceCtorEq,if_false]
  rw[iD]
  by_cases hvs:vs = []
  ·subst hvs;simp[iD]
  ·rw[if_neg hvs,UF,show p+(i+1)=p+i+1 from by omega]
def Rel.write (R:Rel B w0 m h w) {t:Nat} {fam:Option Nat} {el:TypeId} {cs':List Value} {c':Array Value}
  (hk:h.ext.get k=some (.cells cs t fam)) (hm:m (2*k)=some (r,s)) (hr:w.heap[r]?=some (.cells c el)) (fA:nV m cs' c' s) (hlen:cs'.length=cs.length) (hsz:c'.size=c.size)
  (vY:Option Nat) (ZbP:vY=fam∨vY=none) (dead:List Nat) (AU:match fam with|none=>dead = []|some f => ∃st,h.bP.get f=some st∧dead=st.filter (· != k)) :
  Rel B w0 m { h with ext:=(IH.dJ h.ext dead).set k (.cells cs' t vY) } (World.put w r (.cells c' el)) ∧
   Step m h w m { h with ext:=(IH.dJ h.ext dead).set k (.cells cs' t vY) } (World.put w r (.cells c' el)):=by
 have hrs:=R.even k r s hm
 have hkn:k<h.n:=by
  rcases Nat.lt_or_ge k h.n with e|e
  ·exact e
  ·have:=R.dom k e;rw[this] at hk;cases hk
 have cD : ∀j,((IH.dJ h.ext dead).set k (.cells cs' t vY)).get j=if j=k then some (.cells cs' t vY) else if j∈dead then some .dead else h.ext.get j:=fun j=>by
  rw[Tr.bL,ju]
 have hdk:k∉dead:=by
  cases fam with
  | none=>simp at AU;simp[AU]
  | some f=>obtain⟨st,_,e⟩:=AU;simp[e]
 have hdd : ∀j,j∈dead → ∃f st,fam=some f∧h.bP.get f=some st∧j∈st:=fun j hj=>by
  cases fam with
  | none=>simp at AU;simp[AU] at hj
  | some f=>obtain⟨st,a,e⟩:=AU;exact⟨f,st,rfl,a,by rw[e] at hj;exact(List.mem_filter.1 hj).1⟩
 have eo : ∀j o s',j≠k→h.ext.get j=some o→o.alive=true→m (2*j)=some (r,s')→j∈dead:=by
  intro j o s' hj ho ha hmj
  obtain⟨_,_,_,_,f,st,a,b,d,e1,e2⟩:=(R.own j k o _ r s' s hj ho hk ha rfl hmj hm).resolve_right fun e=>by cases e.2
  rw[hk] at b;cases b
  obtain⟨st',d',e'⟩:=AU
  rw[d] at d';cases d'
  rw[e'];exact List.mem_filter.2 ⟨e1,by simpa using hj⟩
 have hold : ∀r',r'≠r→(World.put w r (.cells c' el)).heap[r']?=w.heap[r']?:=fun r' h'=>by rw[kW,if_neg (fun e=>h' e.1)]
 have yM:(World.put w r (.cells c' el)).heap[r]?=some (.cells c' el):=by rw[kW,if_pos ⟨rfl,hrs.2⟩]
 refine⟨⟨sW R.below hrs.1 _,by rw[jB];exact R.size,?_,R.odd,fun j r' s' hj=>by rw[jB];exact R.even j r' s' hj,?_,?_,?_,R.du,?_,?_,R.whole⟩,
  ⟨Mp.le_refl m,fun b e=>absurd rfl e,Nat.le_refl _,rfl,?_,?_,by rw[jB];exact Nat.le_refl _,fun k r s a b=>by have:k<h.n:=b;omega,fun _ _ _ h=>h⟩⟩
 ·intro b bs hb
  obtain⟨r0,s0,hm0,hb1,c1,el1,fz,hc,hrw⟩:=R.base b bs hb
  exact⟨r0,s0,hm0,hb1,c1,el1,fz,by rw[hold r0 (by omega)];exact hc,hrw⟩
 ·intro j hj
  have hj':h.n≤j:=hj
  show((IH.dJ h.ext dead).set k (.cells cs' t vY)).get j=none
  rw[cD,if_neg (by omega)]
  by_cases hd:j∈dead
  ·obtain⟨f,st,_,a,e⟩:=hdd j hd
   have:=(R.du f st a).2.1 j e;omega
  ·rw[if_neg hd];exact R.dom j hj'
 ·intro j o r' s' ho hj
  have ho':(if j=k then some (bI.cells cs' t vY) else if j∈dead then some .dead else h.ext.get j)=some o:=by rw[←cD];exact ho
  by_cases e:j=k
  ·subst e
   rw[if_pos rfl] at ho';cases ho'
   rw[hm] at hj;cases hj
   obtain⟨c2,el2,hc2,_,hz1,hz2⟩:=R.obj j _ r s hk hm
   rw[hr] at hc2;cases hc2
   exact⟨c',el,yM,fA,hz1,by rw[hsz];exact hz2⟩
  ·rw[if_neg e] at ho'
   by_cases hd:j∈dead
   ·rw[if_pos hd] at ho';cases ho';trivial
   ·rw[if_neg hd] at ho'
    by_cases hr':r'=r
    ·subst hr'
     cases o with
     | dead=>trivial
     | _=>exact absurd (eo j _ s' e ho' rfl hj) hd
    ·exact(R.obj j o r' s' ho' hj).mono (Mp.le_refl m) (hold r' hr') rfl
 ·intro j j' o o' r' s1 s2 hne ho ho' ha ha' hj hj'
  have e1:(if j=k then some (bI.cells cs' t vY) else if j∈dead then some .dead else h.ext.get j)=some o:=by rw[←cD];exact ho
  have e2:(if j'=k then some (bI.cells cs' t vY) else if j'∈dead then some .dead else h.ext.get j')=some o':=by rw[←cD];exact ho'
  have nd : ∀{i:Nat} {x:bI},i≠k→(if i=k then some (bI.cells cs' t vY) else if i∈dead then some .dead else h.ext.get i)=some x→x.alive=true→i∉dead∧h.ext.get i=some x:=by
   intro i x hi hx hxa
   rw[if_neg hi] at hx
   by_cases hd:i∈dead
   ·rw[if_pos hd] at hx;cases hx;simp[bI.alive] at hxa
   ·rw[if_neg hd] at hx;exact⟨hd,hx⟩
  by_cases c1:j=k
  ·subst c1
   rw[hm] at hj;cases hj
   obtain⟨hd,hx⟩:=nd (fun e=>hne e.symm) e2 ha'
   exact absurd (eo j' o' s2 (fun e=>hne e.symm) hx ha' hj') hd
  ·obtain⟨hd,hx⟩:=nd c1 e1 ha
   by_cases c2:j'=k
   ·subst c2
    rw[hm] at hj';cases hj'
    exact absurd (eo j o s1 c1 hx ha hj) hd
   ·obtain⟨hd',hx'⟩:=nd c2 e2 ha'
    refine(R.own j j' o o' r' s1 s2 hne hx hx' ha ha' hj hj').imp (fun⟨a1,a2,a3,a4,f,st,b1,b2,b3,b4,b5⟩=>?_) id
    exact⟨a1,a2,a3,a4,f,st,by rw[cD,if_neg c1,if_neg hd];exact b1,by rw[cD,if_neg c2,if_neg hd'];exact b2,b3,b4,b5⟩
 ·intro j js t' f hj
  have hj':(if j=k then some (bI.cells cs' t vY) else if j∈dead then some .dead else h.ext.get j)=some (.cells js t' (some f)):=by rw[←cD];exact hj
  by_cases e:j=k
  ·subst e;rw[if_pos rfl] at hj';cases hj'
   rcases ZbP with e|e
   ·subst e;exact R.fam j cs t f hk
   ·cases e
  ·rw[if_neg e] at hj'
   by_cases hd:j∈dead
   ·rw[if_pos hd] at hj';cases hj'
   ·rw[if_neg hd] at hj';exact R.fam j js t' f hj'
 ·intro f st hf
  refine(R.long f st hf).imp fun {x y} hxy=>?_
  have back : ∀(i:Nat) (js:List Value) (t0:Nat) (g:Option Nat),((IH.dJ h.ext dead).set k (.cells cs' t vY)).get i=some (.cells js t0 g) → ∃js' t' g',h.ext.get i=some (.cells js' t' g')∧js'.length=js.length:=by
   intro i js t' g hi
   rw[cD] at hi
   by_cases e:i=k
   ·subst e;rw[if_pos rfl] at hi;cases hi;exact⟨_,_,_,hk,hlen.symm⟩
   ·rw[if_neg e] at hi
    by_cases hd:i∈dead
    ·rw[if_pos hd] at hi;cases hi
    ·rw[if_neg hd] at hi;exact⟨_,_,_,hi,rfl⟩
  intro xs t1 g1 ys t2 g2 r' s1 s2 h1 h2 h3 h4
  obtain⟨xs',t3,g3,b1,b2⟩:=back x xs t1 g1 h1
  obtain⟨ys',t4,g4,b3,b4⟩:=back y ys t2 g2 h2
  rw[←b2,←b4]
  exact hxy xs' t3 g3 ys' t4 g4 r' s1 s2 b1 b3 h3 h4
 ·intro r' hr' hno
  exact hold r' (fun e=>hno k s hkn (e▸hm))
 ·intro j hj hmj
  show((IH.dJ h.ext dead).set k (.cells cs' t vY)).get j=h.ext.get j
  rw[cD]
  have e:j≠k:=fun e=>by subst e;rw[hm] at hmj;cases hmj
  rw[if_neg e,if_neg ?_]
  intro hd
  obtain⟨f,st,e1,a,e2⟩:=hdd j hd
  subst e1
  obtain⟨st',b1,b2⟩:=R.fam k cs t f hk
  rw[a] at b1;cases b1
  have:=R.whole f st k j a b2 e2 (by rw[hm];rfl)
  rw[hmj] at this;cases this
end Go.Id
namespace Go.Id
open Go Go.RowKit
def bI.other:bI→Bool
 | .cells _ _ _=>false
 | .num _=>false
 | _=>true
variable {h:IH}{m:Mp}{w0:World}{B r k s:Nat}{w:World}
def Rel.setObj (R:Rel B w0 m h w) {o o1:bI} {o':Obj}
  (hk:h.ext.get k=some o) (ho:o.other=true) (ha:o.alive=true) (hm:m (2*k)=some (r,s)) (ho1:o1.other=true) (jY : ∀w' z,w'.heap[r]?=some o'→fY m w' r s z o1) :
  Rel B w0 m { h with ext:=h.ext.set k o1 } (World.put w r o')∧Step m h w m { h with ext:=h.ext.set k o1 } (World.put w r o'):=by
 have hrs:=R.even k r s hm
 have hkn:k<h.n:=by
  rcases Nat.lt_or_ge k h.n with e|e
  ·exact e
  ·have:=R.dom k e;rw[this] at hk;cases hk
 have cD : ∀j,(h.ext.set k o1).get j=if j=k then some o1 else h.ext.get j:=fun j=>Tr.bL _ _ _ _
 have hold : ∀r',r'≠r→(World.put w r o').heap[r']?=w.heap[r']?:=fun r' h'=>by rw[kW,if_neg (fun e=>h' e.1)]
 have yM:(World.put w r o').heap[r]?=some o':=by rw[kW,if_pos ⟨rfl,hrs.2⟩]
 have hno : ∀j x s',j≠k→h.ext.get j=some x→x.alive=true→m (2*j)≠some (r,s'):=by
  intro j x s' hj hx hxa hmj
  rcases R.own j k x _ r s' s hj hx hk hxa ha hmj hm with⟨_,_,_,_,f,st,a,b,_⟩|⟨_,u⟩
  ·rw[hk] at b;cases b;simp[bI.other] at ho
  ·cases o<;>simp[bI.other,bI.isNum] at ho u
 have uz : ∀j cs t f,(h.ext.set k o1).get j=some (.cells cs t f)→h.ext.get j=some (.cells cs t f):=by
  intro j cs t f hj
  rw[cD] at hj
  by_cases e:j=k
  ·rw[if_pos e] at hj;cases hj;simp[bI.other] at ho1
  ·rw[if_neg e] at hj;exact hj
 have MZ : ∀j cs t f,h.ext.get j=some (.cells cs t f)→(h.ext.set k o1).get j=some (.cells cs t f):=by
  intro j cs t f hj
  rw[cD,if_neg ?_];exact hj
  intro e;subst e;rw[hk] at hj;cases hj;simp[bI.other] at ho
 refine⟨⟨sW R.below hrs.1 _,by rw[jB];exact R.size,?_,R.odd,fun j r' s' hj=>by rw[jB];exact R.even j r' s' hj,?_,?_,?_,R.du,?_,?_,R.whole⟩,
  ⟨Mp.le_refl m,fun b e=>absurd rfl e,Nat.le_refl _,rfl,?_,?_,by rw[jB];exact Nat.le_refl _,fun k r s a b=>by have:k<h.n:=b;omega,fun _ _ _ h=>h⟩⟩
 ·intro b bs hb
  obtain⟨r0,s0,hm0,hb1,c1,el1,fz,hc,hrw⟩:=R.base b bs hb
  exact⟨r0,s0,hm0,hb1,c1,el1,fz,by rw[hold r0 (by omega)];exact hc,hrw⟩
 ·intro j hj
  show(h.ext.set k o1).get j=none
  rw[cD,if_neg (by have:h.n≤j:=hj;omega)]
  exact R.dom j hj
 ·intro j x r' s' hx hj
  have hx':(if j=k then some o1 else h.ext.get j)=some x:=by rw[←cD];exact hx
  by_cases e:j=k
  ·subst e
   rw[if_pos rfl] at hx';cases hx'
   rw[hm] at hj;cases hj
   exact jY _ _ yM
  ·rw[if_neg e] at hx'
   by_cases hr':r'=r
   ·subst hr'
    cases x with
    | dead=>trivial
    | _=>exact absurd hj (hno j _ s' e hx' rfl)
   ·exact(R.obj j x r' s' hx' hj).mono (Mp.le_refl m) (hold r' hr') rfl
 ·intro j j' x x' r' s1 s2 hne hx hx' hxa hxa' hj hj'
  have e1:(if j=k then some o1 else h.ext.get j)=some x:=by rw[←cD];exact hx
  have e2:(if j'=k then some o1 else h.ext.get j')=some x':=by rw[←cD];exact hx'
  by_cases c1:j=k
  ·subst c1
   rw[if_neg (fun e=>hne e.symm)] at e2
   rw[hm] at hj;cases hj
   exact absurd hj' (hno j' x' s2 (fun e=>hne e.symm) e2 hxa')
  ·rw[if_neg c1] at e1
   by_cases c2:j'=k
   ·subst c2
    rw[hm] at hj';cases hj'
    exact absurd hj (hno j x s1 c1 e1 hxa)
   ·rw[if_neg c2] at e2
    exact(R.own j j' x x' r' s1 s2 hne e1 e2 hxa hxa' hj hj').imp (fun⟨a1,a2,a3,a4,f,st,b1,b2,b3⟩=>⟨a1,a2,a3,a4,f,st,MZ _ _ _ _ b1,MZ _ _ _ _ b2,b3⟩) id
 ·intro j cs t f hj
  exact R.fam j cs t f (uz j cs t _ hj)
 ·intro f st hf
  refine(R.long f st hf).imp fun {x y} hxy=>?_
  intro xs t1 g1 ys t2 g2 r' s1 s2 h1 h2 h3 h4
  exact hxy xs t1 g1 ys t2 g2 r' s1 s2 (uz _ _ _ _ h1) (uz _ _ _ _ h2) h3 h4
 ·intro r' hr' hno
  exact hold r' (fun e=>hno k s hkn (e▸hm))
 ·intro j hj hmj
  show(h.ext.set k o1).get j=h.ext.get j
  rw[cD,if_neg (fun e=>by subst e;rw[hm] at hmj;cases hmj)]
def Xs (h:IH) (k f:Nat) (ch below:List Nat):Option Nat→Prop
 | none=>f=h.n∧ch = []∧below = []
 | some g=>f=g ∧ ∃st,h.bP.get g=some st∧st=ch ++ k :: below
def Rel.grow (R:Rel B w0 m h w) {cs:List Value} {t:Nat} {fam:Option Nat}
  (hk:h.ext.get k=some (.cells cs t fam)) (hm:m (2*k)=some (r,s)) (cH:m (2*h.n)=none)
  (f:Nat) (ch below:List Nat) (Fj:Xs h k f ch below fam)
  (cs':List Value) (t':Nat) (r' s':Nat) (z:Nat×Nat) (w':World)
  (hw:Below B w0 w') (hsz:w.heap.size≤w'.heap.size) (hr':B≤r'∧r'<w'.heap.size)
  (fA : ∃c el,w'.heap[r']?=some (.cells c el)∧nV m cs' c s'∧z.1=t'∧z.2≤c.size)
  (nL:(w.heap.size≤r'∧(∀q,q<w.heap.size→w'.heap[q]?=w.heap[q]?)) ∨
   (r'=r∧s+cs.length≤s'+cs'.length∧(∀q,q<w.heap.size→q≠r→w'.heap[q]?=w.heap[q]?) ∧
    ∀c el,w.heap[r]?=some (.cells c el) → ∃c',w'.heap[r]?=some (.cells c' el)∧c.size≤c'.size ∧ ∀i,i<s+cs.length→c'[i]?=c[i]?)) :
  Rel B w0 (m.upd (2*h.n) (r',s') z) (grown h k f cs t ch below cs' t') w'∧Step m h w (m.upd (2*h.n) (r',s') z) (grown h k f cs t ch below cs' t') w':=by
 have hle:m.le (m.upd (2*h.n) (r',s') z):=Mp.AM cH
 have hkn:k<h.n:=by
  rcases Nat.lt_or_ge k h.n with e|e
  ·exact e
  ·have:=R.dom k e;rw[this] at hk;cases hk
 have hdn:=R.dom h.n (Nat.le_refl _)
 have hrs:=R.even k r s hm
 have hst:(fam=none∧f=h.n∧ch = []∧below = [])∨(fam=some f∧h.bP.get f=some (ch ++ k :: below)):=by
  cases fam with
  | none=>exact .inl ⟨rfl,Fj⟩
  | some g=>obtain⟨e,st,a,b⟩:=Fj;subst e;subst b;exact .inr ⟨rfl,a⟩
 have hka:k∉ch∧k∉below:=by
  rcases hst with⟨_,_,rfl,rfl⟩|⟨_,a⟩
  ·simp
  ·have:=(R.du f _ a).2.2
   rw[List.nodup_append] at this
   obtain⟨_,b,d⟩:=this
   exact⟨fun hx=>d k hx k (by simp) rfl,(List.nodup_cons.1 b).1⟩
 have Sl : ∀j∈ch,fam=some f∧h.bP.get f=some (ch ++ k :: below):=by
  intro j hj
  rcases hst with⟨_,_,rfl,rfl⟩|x
  ·cases hj
  ·exact x
 have cD : ∀j,(grown h k f cs t ch below cs' t').ext.get j=if j=h.n then some (.cells cs' t' (some f)) else if j=k then some (.cells cs t (some f)) else if j∈ch then some .dead else h.ext.get j:=fun j=>by
  show(((IH.dJ h.ext ch).set k (.cells cs t (some f))).set h.n (.cells cs' t' (some f))).get j=_
  rw[Tr.bL,Tr.bL,ju]
 have rI : ∀g,(grown h k f cs t ch below cs' t').bP.get g=if g=f then some (h.n :: k :: below) else h.bP.get g:=fun g=>Tr.bL _ _ _ _
 have AW : ∀j x,j≠h.n→(grown h k f cs t ch below cs' t').ext.get j=some x→x.alive=true→(j∉ch) ∧ ∃y,h.ext.get j=some y∧y.alive=true ∧
   ((j≠k∧x=y)∨(j=k∧x=.cells cs t (some f))):=by
  intro j x hj hx ha
  rw[cD,if_neg hj] at hx
  by_cases e:j=k
  ·subst e;rw[if_pos rfl] at hx;cases hx
   exact⟨hka.1,_,hk,rfl,.inr ⟨rfl,rfl⟩⟩
  ·rw[if_neg e] at hx
   by_cases hd:j∈ch
   ·rw[if_pos hd] at hx;cases hx;simp[bI.alive] at ha
   ·rw[if_neg hd] at hx;exact⟨hd,x,hx,ha,.inl ⟨e,rfl⟩⟩
 have uw : ∀j x s1,j≠h.n→j≠k→j∉ch→h.ext.get j=some x→x.alive=true→m (2*j)=some (r,s1) → ∃js t1,x=.cells js t1 (some f)∧j∈below∧fam=some f∧s1+js.length≤s+cs.length:=by
  intro j x s1 hjn hjk hja hx ha hmj
  obtain⟨a1,a2,a3,a4,g,st,b1,b2,b3,b4,b5⟩:=(R.own j k x _ r s1 s hjk hx hk ha rfl hmj hm).resolve_right fun e=>by cases e.2
  rw[hk] at b2;cases b2
  rcases hst with⟨e,_⟩|⟨e,a⟩
  ·cases e
  ·cases e
   rw[a] at b3;cases b3
   have hjb:j∈below:=by
    rcases List.mem_append.1 b4 with h1|h1
    ·exact absurd h1 hja
    ·rcases List.mem_cons.1 h1 with h2|h2
     ·exact absurd h2 hjk
     ·exact h2
   rw[hx] at b1;cases b1
   have hp:=R.long f _ a
   rw[List.pairwise_append] at hp
   have hq:=(List.pairwise_cons.1 hp.2.1).1 j hjb cs t (some f) a1 a2 (some f) r s s1 hk hx hm hmj
   exact⟨a1,a2,rfl,hjb,rfl,hq⟩
 have Vp : ∀j x q s1,j≠h.n→h.ext.get j=some x→(x.alive=true→j∉ch)→m (2*j)=some (q,s1)→fY (m.upd (2*h.n) (r',s') z) w' q s1 ((m.upd (2*h.n) (r',s') z).ez (2*j)) x:=by
  intro j x q s1 hjn hx hal hq
  have hqs:=R.even j q s1 hq
  have hez:(m.upd (2*h.n) (r',s') z).ez (2*j)=m.ez (2*j):=Mp.Sx _ _ _ (by omega)
  rcases nL with⟨_,eo⟩|⟨_,_,eo,hr⟩
  ·exact(R.obj j x q s1 hx hq).mono hle (eo q hqs.2) hez
  ·by_cases e:q=r
   ·subst e
    cases x with
    | dead=>trivial
    | map es =>
     by_cases hjk:j=k
     ·subst hjk;rw[hk] at hx;cases hx
     ·obtain⟨_,_,e,_⟩:=uw j _ s1 hjn hjk (hal rfl) hx rfl hq;cases e
    | num x1 =>
     by_cases hjk:j=k
     ·subst hjk;rw[hk] at hx;cases hx
     ·obtain⟨_,_,e,_⟩:=uw j _ s1 hjn hjk (hal rfl) hx rfl hq;cases e
    | loop l =>
     by_cases hjk:j=k
     ·subst hjk;rw[hk] at hx;cases hx
     ·obtain⟨_,_,e,_⟩:=uw j _ s1 hjn hjk (hal rfl) hx rfl hq;cases e
    | iter k1 i1 l1 j1 =>
     by_cases hjk:j=k
     ·subst hjk;rw[hk] at hx;cases hx
     ·obtain⟨_,_,e,_⟩:=uw j _ s1 hjn hjk (hal rfl) hx rfl hq;cases e
    | cells js t1 g1 =>
     have hreach:s1+js.length≤s+cs.length:=by
      by_cases hjk:j=k
      ·subst hjk;rw[hk] at hx;cases hx;rw[hm] at hq;cases hq;exact Nat.le_refl _
      ·obtain⟨_,_,e,_,_,d⟩:=uw j _ s1 hjn hjk (hal rfl) hx rfl hq;cases e;exact d
     obtain⟨c,el,hc,hrw,hz1,hz2⟩:=R.obj j _ q s1 hx hq
     obtain⟨c',hc',hcs,hci⟩:=hr c el hc
     refine⟨c',el,hc',⟨Nat.le_trans hrw.1 hcs,fun i v hv=>?_⟩,by rw[hez];exact hz1,by rw[hez];exact Nat.le_trans hz2 hcs⟩
     obtain⟨v',a,b⟩:=hrw.2 i v hv
     have hil:i<js.length:=by
      rcases Nat.lt_or_ge i js.length with h1|h1
      ·exact h1
      ·rw[List.getElem?_eq_none h1] at hv;cases hv
     exact⟨v',by rw[hci (s1+i) (by omega)];exact a,b.mono hle⟩
   ·exact(R.obj j x q s1 hx hq).mono hle (eo q hqs.2 e) hez
 refine⟨⟨hw,Nat.le_trans R.size hsz,?_,?_,?_,?_,?_,?_,?_,?_,?_,?_⟩,⟨hle,?_,Nat.le_succ _,rfl,?_,?_,hsz,fun j q x hj1 hj2 hj=>by
  obtain rfl:j=h.n:=by have:(grown h k f cs t ch below cs' t').n=h.n+1:=rfl;omega
  rw[Mp.bj] at hj;cases hj
  rcases nL with⟨a,_⟩|⟨a,_⟩
  ·exact .inl a
  ·exact .inr ⟨k,s,hkn,a▸hm⟩,fun j hj hmj Vq g st hg=>by
  rw[rI] at hg
  by_cases e:g=f
  ·rw[if_pos e] at hg;cases hg
   intro hx
   rcases List.mem_cons.1 hx with e1|hx
   ·omega
   ·rcases List.mem_cons.1 hx with e1|hx
    ·subst e1;rw[hm] at hmj;cases hmj
    ·rcases hst with⟨_,_,rfl,rfl⟩|⟨_,a⟩
     ·cases hx
     ·exact Vq _ _ a (List.mem_append.2 (.inr (List.mem_cons.2 (.inr hx))))
  ·rw[if_neg e] at hg;exact Vq g st hg⟩⟩
 ·intro b bs hb
  obtain⟨r0,s0,hm0,hb1,c1,el1,fz,hc,hrw⟩:=R.base b bs hb
  refine⟨r0,s0,by rw[Mp.bY _ _ _ (by omega)];exact hm0,hb1,c1,el1,fz,?_,hrw.1,fun i v hv=>let ⟨v',x,y⟩:=hrw.2 i v hv;⟨v',x,y.mono hle⟩⟩
  have hbs:r0<w.heap.size:=by have:=R.size;omega
  rcases nL with⟨_,eo⟩|⟨_,_,eo,_⟩
  ·rw[eo r0 hbs];exact hc
  ·rw[eo r0 hbs (by omega)];exact hc
 ·intro b hb
  rw[Mp.bY _ _ _ (by omega)]
  exact R.odd b hb
 ·intro j q x hj
  by_cases e:j=h.n
  ·subst e;rw[Mp.bj] at hj;cases hj;exact hr'
  ·rw[Mp.bY _ _ _ (by omega)] at hj
   have:=R.even j q x hj;omega
 ·intro j hj
  have hj':h.n+1≤j:=hj
  rw[cD,if_neg (by omega),if_neg (by omega),if_neg ?_]
  ·exact R.dom j (by omega)
  ·intro hx
   have:=(R.du f _ (Sl j hx).2).2.1 j (by simp[hx]);omega
 ·intro j x q s1 hx hj
  by_cases e:j=h.n
  ·subst e
   rw[cD,if_pos rfl] at hx;cases hx
   rw[Mp.bj] at hj;cases hj
   obtain⟨c,el,hc,hrw,hz1,hz2⟩:=fA
   rw[Mp.lZ]
   exact⟨c,el,hc,⟨hrw.1,fun i v hv=>let ⟨v',a,b⟩:=hrw.2 i v hv;⟨v',a,b.mono hle⟩⟩,hz1,hz2⟩
  ·rw[Mp.bY _ _ _ (by omega)] at hj
   cases hxa:x.alive with
   | false=>cases x<;>simp_all [bI.alive,fY]
   | true =>
    obtain⟨hna,y,hy,hya,hc⟩:=AW j x e hx hxa
    have:=Vp j y q s1 e hy (fun _=>hna) hj
    rcases hc with⟨_,rfl⟩|⟨hjk,rfl⟩
    ·exact this
    ·subst hjk;rw[hk] at hy;cases hy;exact this
 ·intro j j' x x' q s1 s2 hne hx hx' ha ha' hj hj'
  have up : ∀i js t1 g,i≠h.n→i∉ch→h.ext.get i=some (.cells js t1 (some g))→(grown h k f cs t ch below cs' t').ext.get i=some (.cells js t1 (some g)):=by
   intro i js t1 g hin hia hi
   rw[cD,if_neg hin]
   by_cases e:i=k
   ·subst e;rw[hk] at hi;cases hi
    rcases hst with⟨e,_⟩|⟨e,_⟩
    ·cases e
    ·cases e;simp
   ·rw[if_neg e,if_neg hia,hi]
  have RG : ∀i y s3,i≠h.n→(grown h k f cs t ch below cs' t').ext.get i=some y→y.alive=true→m (2*i)=some (r',s3)→Kin (grown h k f cs t ch below cs' t') h.n i∧Kin (grown h k f cs t ch below cs' t') i h.n:=by
   intro i y s3 hin hy hya hmi
   have hri:=R.even i r' s3 hmi
   rcases nL with⟨Vy,_⟩|⟨hrr,_,_,_⟩
   ·omega
   ·subst hrr
    obtain⟨hna,z,hz,hza,hc⟩:=AW i y hin hy hya
    by_cases hik:i=k
    ·subst hik
     have g1:(grown h i f cs t ch below cs' t').ext.get h.n=some (.cells cs' t' (some f)):=by rw[cD,if_pos rfl]
     have g2:(grown h i f cs t ch below cs' t').ext.get i=some (.cells cs t (some f)):=by rw[cD,if_neg hin,if_pos rfl]
     have g3:(grown h i f cs t ch below cs' t').bP.get f=some (h.n :: i :: below):=by rw[rI,if_pos rfl]
     exact⟨⟨_,_,_,_,f,_,g1,g2,g3,by simp⟩,⟨_,_,_,_,f,_,g2,g1,g3,by simp⟩⟩
    ·obtain⟨js,t1,e,hb,_,_⟩:=uw i z s3 hin hik hna hz hza hmi
     subst e
     have g1:(grown h k f cs t ch below cs' t').ext.get h.n=some (.cells cs' t' (some f)):=by rw[cD,if_pos rfl]
     have g2:=up i js t1 f hin hna hz
     have g3:(grown h k f cs t ch below cs' t').bP.get f=some (h.n :: k :: below):=by rw[rI,if_pos rfl]
     exact⟨⟨_,_,_,_,f,_,g1,g2,g3,by simp[hb]⟩,⟨_,_,_,_,f,_,g2,g1,g3,by simp[hb]⟩⟩
  by_cases c1:j=h.n
  ·subst c1
   rw[Mp.bj] at hj;cases hj
   rw[Mp.bY _ _ _ (by omega)] at hj'
   exact .inl (RG j' x' s2 (fun e=>hne e.symm) hx' ha' hj').1
  ·by_cases c2:j'=h.n
   ·subst c2
    rw[Mp.bj] at hj';cases hj'
    rw[Mp.bY _ _ _ (by omega)] at hj
    exact .inl (RG j x s1 c1 hx ha hj).2
   ·rw[Mp.bY _ _ _ (by omega)] at hj hj'
    obtain⟨n1,y,hy,hya,hyx⟩:=AW j x c1 hx ha
    obtain⟨n2,y',hy',hya',hyx'⟩:=AW j' x' c2 hx' ha'
    rcases R.own j j' y y' q s1 s2 hne hy hy' hya hya' hj hj' with⟨a1,a2,a3,a4,g,st,b1,b2,b3,b4,b5⟩|⟨u1,u2⟩
    case inr =>
     refine .inr ⟨?_,?_⟩
     ·rcases hyx with⟨_,e⟩|⟨e,_⟩
      ·rw[e];exact u1
      ·rw[e,hk] at hy;cases hy;cases u1
     ·rcases hyx' with⟨_,e⟩|⟨e,_⟩
      ·rw[e];exact u2
      ·rw[e,hk] at hy';cases hy';cases u2
    refine .inl ⟨a1,a2,a3,a4,g,if g=f then h.n :: k :: below else st,up j _ _ _ c1 n1 b1,up j' _ _ _ c2 n2 b2,?_,?_,?_⟩
    ·rw[rI];by_cases e:g=f
     ·simp[e]
     ·simp[e,b3]
    ·by_cases e:g=f
     ·subst e
      rcases hst with⟨_,e,_⟩|⟨_,a⟩
      ·have:=(R.du _ _ b3).1;omega
      ·rw[a] at b3;cases b3
       rw[if_pos rfl]
       rcases List.mem_append.1 b4 with h1|h1
       ·exact absurd h1 n1
       ·simp[List.mem_cons.1 h1]
     ·rw[if_neg e];exact b4
    ·by_cases e:g=f
     ·subst e
      rcases hst with⟨_,e,_⟩|⟨_,a⟩
      ·have:=(R.du _ _ b3).1;omega
      ·rw[a] at b3;cases b3
       rw[if_pos rfl]
       rcases List.mem_append.1 b5 with h1|h1
       ·exact absurd h1 n2
       ·simp[List.mem_cons.1 h1]
     ·rw[if_neg e];exact b5
 ·intro g st hg
  rw[rI] at hg
  by_cases e:g=f
  ·subst e
   rw[if_pos rfl] at hg;cases hg
   rcases hst with⟨_,e,_,rfl⟩|⟨_,a⟩
   ·exact⟨by show g<h.n+1;omega,by simp[grown];omega,by simp;omega⟩
   ·obtain⟨h1,h2,h3⟩:=R.du g _ a
    refine⟨Nat.lt_succ_of_lt h1,?_,?_⟩
    ·intro x hx
     show x<h.n+1
     rcases List.mem_cons.1 hx with e|hx
     ·omega
     ·have:=h2 x (List.mem_append.2 (.inr hx));omega
    ·rw[List.nodup_append] at h3
     exact List.nodup_cons.2 ⟨fun hx=>by have:=h2 h.n (List.mem_append.2 (.inr hx));omega,h3.2.1⟩
  ·rw[if_neg e] at hg
   obtain⟨h1,h2,h3⟩:=R.du g st hg
   exact⟨Nat.lt_succ_of_lt h1,fun x hx=>Nat.lt_succ_of_lt (h2 x hx),h3⟩
 ·intro j js t1 g hj
  rw[cD] at hj
  by_cases e:j=h.n
  ·rw[if_pos e] at hj;cases hj;exact⟨_,by rw[rI,if_pos rfl],by simp[e]⟩
  ·rw[if_neg e] at hj
   by_cases e1:j=k
   ·rw[if_pos e1] at hj;cases hj;exact⟨_,by rw[rI,if_pos rfl],by simp[e1]⟩
   ·rw[if_neg e1] at hj
    by_cases hd:j∈ch
    ·rw[if_pos hd] at hj;cases hj
    ·rw[if_neg hd] at hj
     obtain⟨st,a,b⟩:=R.fam j js t1 g hj
     by_cases e2:g=f
     ·subst e2
      rcases hst with⟨_,e3,_⟩|⟨_,a'⟩
      ·have:=(R.du _ _ a).1;omega
      ·rw[a'] at a;cases a
       refine⟨_,by rw[rI,if_pos rfl],?_⟩
       rcases List.mem_append.1 b with h1|h1
       ·exact absurd h1 hd
       ·exact List.mem_cons.2 (.inr h1)
     ·exact⟨st,by rw[rI,if_neg e2];exact a,b⟩
 ·intro g st hg
  have bk : ∀i is t1 g1,i≠h.n→(grown h k f cs t ch below cs' t').ext.get i=some (.cells is t1 g1) → ∃t2 g2,h.ext.get i=some (.cells is t2 g2):=by
   intro i is t1 g1 hin hi
   obtain⟨_,y,hy,_,hc⟩:=AW i _ hin hi rfl
   rcases hc with⟨_,rfl⟩|⟨e,e2⟩
   ·exact⟨_,_,hy⟩
   ·subst e;cases e2;exact⟨_,_,hk⟩
  rw[rI] at hg
  by_cases e:g=f
  ·subst e
   rw[if_pos rfl] at hg;cases hg
   have Kk : ∀y∈k :: below,y≠h.n∧y∉ch:=by
    intro y hy
    rcases hst with⟨_,_,rfl,rfl⟩|⟨_,a⟩
    ·rcases List.mem_cons.1 hy with rfl|hy
     ·exact⟨by omega,by simp⟩
     ·cases hy
    ·have h2:=(R.du g _ a).2
     refine⟨fun e=>by have:=h2.1 y (List.mem_append.2 (.inr hy));omega,fun hx=>?_⟩
     exact(List.nodup_append.1 h2.2).2.2 y hx y hy rfl
   refine List.pairwise_cons.2 ⟨fun y hy=>?_,?_⟩
   ·intro xs t1 g1 ys t2 g2 q s1 s2 h1 h2 h3 h4
    obtain⟨hyn,hya⟩:=Kk y hy
    rw[cD,if_pos rfl] at h1;cases h1
    rw[Mp.bj] at h3;cases h3
    rw[Mp.bY _ _ _ (by omega)] at h4
    obtain⟨t3,g3,h5⟩:=bk y ys t2 g2 hyn h2
    have hyr:=R.even y _ _ h4
    rcases nL with⟨Vy,_⟩|⟨hrr,rJ,_,_⟩
    ·omega
    ·subst hrr
     by_cases hyk:y=k
     ·subst hyk;rw[hk] at h5;cases h5;rw[hm] at h4;cases h4;exact rJ
     ·obtain⟨_,_,e,_,_,d⟩:=uw y _ s2 hyn hyk hya h5 rfl h4;cases e;omega
   ·rcases hst with⟨_,_,rfl,rfl⟩|⟨_,a⟩
    ·simp
    ·have hp:=(List.pairwise_append.1 (R.long g _ a)).2.1
     refine hp.imp_of_mem fun {x y} hx hy hxy=>?_
     intro xs t1 g1 ys t2 g2 q s1 s2 h1 h2 h3 h4
     obtain⟨hxn,_⟩:=Kk x hx
     obtain⟨hyn,_⟩:=Kk y hy
     obtain⟨t3,g3,h5⟩:=bk x xs t1 g1 hxn h1
     obtain⟨t4,g4,h6⟩:=bk y ys t2 g2 hyn h2
     rw[Mp.bY _ _ _ (by omega)] at h3 h4
     exact hxy xs t3 g3 ys t4 g4 q s1 s2 h5 h6 h3 h4
  ·rw[if_neg e] at hg
   have hlt:=(R.du g st hg).2.1
   refine(R.long g st hg).imp_of_mem fun {x y} hx hy hxy=>?_
   intro xs t1 g1 ys t2 g2 q s1 s2 h1 h2 h3 h4
   have hxn:x≠h.n:=by have:=hlt x hx;omega
   have hyn:y≠h.n:=by have:=hlt y hy;omega
   obtain⟨t3,g3,h5⟩:=bk x xs t1 g1 hxn h1
   obtain⟨t4,g4,h6⟩:=bk y ys t2 g2 hyn h2
   rw[Mp.bY _ _ _ (by omega)] at h3 h4
   exact hxy xs t3 g3 ys t4 g4 q s1 s2 h5 h6 h3 h4
 ·intro g st x y hg hx hy
  rw[rI] at hg
  by_cases e:g=f
  ·subst e
   rw[if_pos rfl] at hg;cases hg
   intro _
   by_cases hyn:y=h.n
   ·subst hyn;rw[Mp.bj];rfl
   ·have hy':y∈k :: below:=by
     rcases List.mem_cons.1 hy with e|e
     ·exact absurd e hyn
     ·exact e
    rw[Mp.bY _ _ _ (by omega)]
    rcases hst with⟨_,_,rfl,rfl⟩|⟨_,a⟩
    ·rcases List.mem_cons.1 hy' with rfl|h1
     ·rw[hm];rfl
     ·cases h1
    ·exact R.whole g _ k y a (by simp) (List.mem_append.2 (.inr hy')) (by rw[hm];rfl)
  ·rw[if_neg e] at hg
   have hlt:=(R.du g st hg).2.1
   rw[Mp.bY _ _ _ (by have:=hlt x hx;omega),Mp.bY _ _ _ (by have:=hlt y hy;omega)]
   exact R.whole g st x y hg hx hy
 ·intro b hb
  by_cases e:b=2*h.n
  ·exact⟨h.n,e,Nat.le_refl _,Nat.lt_succ_self _⟩
  ·exact absurd (Mp.bY _ _ _ e) hb
 ·intro q hq hno
  rcases nL with⟨_,eo⟩|⟨_,_,eo,_⟩
  ·exact eo q hq
  ·exact eo q hq (fun e=>hno k s hkn (e▸hm))
 ·intro j hj hmj
  have e:j≠k:=fun e=>by subst e;rw[hm] at hmj;cases hmj
  rw[cD,if_neg (by omega),if_neg e,if_neg ?_]
  intro hd
  have:=R.whole f _ k j (Sl j hd).2 (by simp) (by simp[hd]) (by rw[hm];rfl)
  rw[hmj] at this;cases this
def jr (P:Program) {α:Type} : ∀(s:Sem α) (a:α),ar P s=some a → ∀w,s.run P w=.ok a w
 | .pure b,a,h,w=>by simp only[ar] at h;cases h;rfl
 | .program k,a,h,w=>by
  rw[ar] at h
  show(k P).run P w=_
  exact jr P (k P) a h w
 | .load ..,a,h,w=>by simp[ar] at h
 | .store ..,a,h,w=>by simp[ar] at h
 | .new ..,a,h,w=>by simp[ar] at h
 | .shape ..,a,h,w=>by simp[ar] at h
 | .freeze ..,a,h,w=>by simp[ar] at h
 | .frozen ..,a,h,w=>by simp[ar] at h
 | .getObj ..,a,h,w=>by simp[ar] at h
 | .setObj ..,a,h,w=>by simp[ar] at h
 | .choose ..,a,h,w=>by simp[ar] at h
 | .sys ..,a,h,w=>by simp[ar] at h
 | .mark ..,a,h,w=>by simp[ar] at h
 | .halt ..,a,h,w=>by simp[ar] at h
def gY {P:Program} {s:Sem Value} {v:Value} (h:cJ P s=some v):plain v=true ∧ ∀w,s.run P w=.ok v w:=by
 unfold cJ at h
 cases hp:ar P s with
 | none=>simp[hp] at h
 | some x =>
  simp only[hp,cond_eq_ite] at h
  by_cases hx:plain x=true
  ·rw[if_pos hx] at h;cases h;exact⟨hx,jr P s _ hp⟩
  ·rw[if_neg hx] at h;cases h
section
variable {P:Program} {t:TypeId} (w:World)
def cd {n:Nat} (h:aO P t=some n):(sizeOf t).run P w=.ok n w:=by
 unfold aO at h
 obtain⟨i,hi,e⟩:=Option.map_eq_some_iff.1 h
 simp[sizeOf,typeInfo,hi,e]
def run_typeInfo {i:TypeInfo} (h:P.info? t=some i):(typeInfo t).run P w=.ok i w:=by
 simp[typeInfo,h]
def dY {z:Value} (h:qz P t=some z):(zeroValue t).run P w=.ok z w:=by
 unfold qz at h
 obtain⟨i,hi,e⟩:=Option.bind_eq_some_iff.1 h
 simp[zeroValue,typeInfo,hi,e]
def pE {b:Bool} (h:bh P t=some b):(isAgg t).run P w=.ok b w:=by
 unfold bh at h
 obtain⟨d,hd,e⟩:=Option.map_eq_some_iff.1 h
 subst e
 cases d<;>simp[isAgg,Go.run_underlying hd]
def dc {zs:List Value} (h:aE P t=some zs) : ∃z,qz P t=some z∧plain z=true∧zs=z.cells.toList:=by
 unfold aE at h
 cases hz:qz P t with
 | none=>simp[hz] at h
 | some z =>
  simp only[hz,cond_eq_ite] at h
  by_cases hp:plain z=true
  ·simp only[hp,if_true] at h;cases h;exact⟨z,rfl,hp,rfl⟩
  ·simp[hp] at h
end
variable {h:IH}{m:Mp}{w0:World}{b B r s:Nat}{cs:List Value}{w:World}
def Rel.row (R:Rel B w0 m h w) (fA:h.row b=some cs) (hm:m b=some (r,s)) :
  ∃c el fz,w.heap[r]?=some (.cells c el fz)∧nV m cs c s:=by
 unfold IH.row at fA
 simp only[cond_eq_ite,beq_iff_eq] at fA
 by_cases hb:b % 2=1
 ·rw[if_pos hb] at fA
  obtain⟨r0,s0,hm0,_,c,el,fz,hc,hr⟩:=R.base _ _ fA
  rw[show 2*(b / 2)+1=b from by omega,hm] at hm0
  cases hm0
  exact⟨c,el,fz,hc,hr⟩
 ·rw[if_neg hb] at fA
  cases hg:h.ext.get (b / 2) with
  | none=>simp[hg] at fA
  | some o =>
   rw[hg] at fA
   cases o with
   | cells cs' t f =>
    simp only at fA;cases fA
    obtain⟨c,el,hc,hr,_⟩:=R.obj (b / 2) _ r s hg (by rw[show 2*(b / 2)=b from by omega];exact hm)
    exact⟨c,el,_,hc,hr⟩
   | map es=>simp at fA
   | loop l=>simp at fA
   | iter _ _ _ _=>simp at fA
   | num _=>simp at fA
   | dead=>simp at fA
theorem kY (r p i:Nat):Addr.add ⟨r,p,none⟩ i=⟨r,p+i,none⟩:=by unfold Addr.add;by_cases h:i=0<;>simp[h]
variable {o:Nat}
theorem Rel.rd (R:Rel B w0 m h w) {n:Nat} (hrd:h.rd b o n=some cs) (hm:m b=some (r,s)) :
  ∃cs',bw m cs cs'∧cs.length=n ∧ ∀j v,cs'[j]?=some v→w.cell? (Addr.add ⟨r,s+o,none⟩ j)=some v:=by
 unfold IH.rd at hrd
 cases hr:h.row b with
 | none=>simp[hr] at hrd
 | some row =>
  simp only[hr,cond_eq_ite,Nat.ble_eq] at hrd
  by_cases hle:o+n≤row.length
  ·rw[if_pos hle] at hrd;cases hrd
   obtain⟨c,el,fz,hc,fA⟩:=R.row hr hm
   have h1:=fA.1
   refine⟨(c.toList.drop (s+o)).take n,⟨by simp;omega,fun i v v' hv hv'=>?_⟩,by simp;omega,fun j v hv=>?_⟩
   ·rw[List.getElem?_take] at hv hv'
    by_cases hi:i<n
    ·simp only[hi,if_true,List.getElem?_drop] at hv hv'
     obtain⟨v'',a,b'⟩:=fA.2 _ _ hv
     rw[←Nat.add_assoc] at a
     simp only[Array.getElem?_toList] at hv'
     rw[hv'] at a;cases a
     exact b'
    ·simp[hi] at hv
   ·rw[List.getElem?_take] at hv
    by_cases hi:j<n
    ·simp only[hi,if_true,List.getElem?_drop,Array.getElem?_toList] at hv
     rw[kY]
     simp[World.cell?,hc,hv]
    ·simp[hi] at hv
  ·simp[hle] at hrd
variable {v:Value}{P:Program}{t:TypeId}{a' a:Value}
theorem Rel.load (R:Rel B w0 m h w) (hl:load P h t a=some v) (ha:aG m a a') :
  ∃v',(Instr.loadAt t a').run P w=.ok v' w∧aG m v v':=by
 unfold Id.load at hl
 cases hA:asAddr a with
 | none=>simp[hA] at hl
 | some bo =>
  obtain⟨b,o⟩:=bo
  have hp:a=.pointer (some ⟨b,o,none⟩):=by
   unfold asAddr at hA;split at hA<;>simp_all
  subst hp
  obtain⟨r,s,hm,rfl⟩:=ha.kH
  cases hG:bh P t with
  | none=>simp[hA,hG] at hl
  | some g =>
   cases g with
   | true =>
    cases hS:aO P t with
    | none=>simp[hA,hG,hS] at hl
    | some n =>
     simp only[hA,hG,hS] at hl
     obtain⟨cs,hrd,rfl⟩:=Option.map_eq_some_iff.1 hl
     obtain⟨cs',hL,hn,hc⟩:=R.rd hrd hm
     refine⟨.agg cs'.toArray,?_,aG.iV (by simpa using hL)⟩
     have hlen:n=cs'.length:=by rw[←hn];exact hL.1
     simp only[Instr.loadAt,Instr.sureAddr,loadVar,Sem.run_bind,Sem.run_pure,Result.andThen_ok,pE w hG,cd w hS,if_true]
     rw[hlen,run_loadCells_list w _ cs' hc]
     rfl
   | false =>
    simp only[hA,hG] at hl
    obtain⟨cs,hrd,hv⟩:=Option.bind_eq_some_iff.1 hl
    obtain⟨cs',hL,hn,hc⟩:=R.rd hrd hm
    have hv0:cs[0]?=some v:=by rw[←List.head?_eq_getElem?];exact hv
    obtain⟨v',hv',hR⟩:=hL.get hv0
    have:=hc 0 v' hv'
    refine⟨v',?_,hR⟩
    simp only[Instr.loadAt,Instr.sureAddr,loadVar,Sem.run_bind,Sem.run_pure,Result.andThen_ok,pE w hG]
    rw[kY,Nat.add_zero] at this
    simp[this]
def Yields (n:Next) (v:Value):Prop:=n=.value v∨(n=.skip∧v=undef)
def IU (B:Nat) (w0:World) (m:Mp) (h:IH) (w:World) (run:Result Next) (v:Value) (h':IH):Prop :=
 ∃nx v' m' w',run=.ok nx w'∧Yields nx v'∧aG m' v v'∧Rel B w0 m' h' w'∧Step m h w m' h' w'
variable {v':Value}
def IU.quiet (R:Rel B w0 m h w) {run:Result Next} (hr:run=.ok (.value v') w) (hv:aG m v v') :
  IU B w0 m h w run v h:=⟨_,v',m,w,hr,.inl rfl,hv,R,Step.refl m h w⟩
variable {h':IH}
theorem Rel.wr (R:Rel B w0 m h w) {vs vs':List Value} (hw:h.wr b o vs=some h') (hm:m b=some (r,s)) (hv:bw m vs vs')
  (hok : ∀v∈vs,aB v=true) (P:Program) :
  ∃w',(storeCells ⟨r,s+o,none⟩ vs').run P w=.ok () w'∧Rel B w0 m h' w'∧Step m h w m h' w':=by
 unfold IH.wr at hw
 simp only[cond_eq_ite,beq_iff_eq] at hw
 by_cases hb:b % 2=1
 ·simp[hb] at hw
 ·rw[if_neg hb] at hw
  cases hg:h.ext.get (b / 2) with
  | none=>simp[hg] at hw
  | some x =>
   rw[hg] at hw
   cases x with
   | map es=>simp at hw
   | loop l=>simp at hw
   | iter _ _ _ _=>simp at hw
   | num _=>simp at hw
   | dead=>simp at hw
   | cells cs t fam =>
    simp only[Nat.ble_eq] at hw
    by_cases hle:o+vs.length≤cs.length
    ·rw[if_pos hle] at hw
     have hmb:m (2*(b / 2))=some (r,s):=by rw[show 2*(b / 2)=b from by omega];exact hm
     obtain⟨c,el,hc,fA,_⟩:=R.obj (b / 2) _ r s hg hmb
     have YJ : ∀v∈vs',aB v=true:=by
      intro v' hv'
      obtain⟨i,hi,e⟩:=List.getElem_of_mem hv'
      have hi':i<vs.length:=hv.1▸hi
      exact DJ (hv.2 i vs[i] v' (List.getElem?_eq_getElem hi') (by rw[List.getElem?_eq_getElem hi,e])) (hok _ (List.getElem_mem hi'))
     have bD:=mz P r (s+o) el vs' 0 w c hc (by have:=fA.1;have:=hv.1;omega) YJ
     have WR:=fA.aJ hle hv
     rw[Nat.add_zero] at bD
     have jE : ∀d:Array Value,d=iD c (s+o) vs'→vs' = []→World.put w r (.cells d el)=w:=by
      intro d hd he
      subst he;subst hd
      unfold World.put
      have hr:r<w.heap.size:=(Array.getElem?_eq_some_iff.1 hc).1
      have e:=(Array.getElem?_eq_some_iff.1 hc).2
      congr 1
      apply Array.ext_getElem?
      intro i
      rw[Array.getElem?_setIfInBounds]
      by_cases hi:r=i
      ·subst hi;simp[hr,e]
      ·simp[hi]
     have Kf:(if vs' = [] then w else World.put w r (.cells (iD c (s+o) vs') el))=World.put w r (.cells (iD c (s+o) vs') el):=by
      by_cases he:vs' = []
      ·rw[if_pos he,jE _ rfl he]
      ·rw[if_neg he]
     rw[Kf] at bD
     cases fam with
     | none =>
      simp only at hw;cases hw
      obtain⟨a,b'⟩:=R.write hg hmb hc WR (oo cs o vs hle) (iZ _ _ _) none (.inr rfl) [] rfl
      exact⟨_,bD,a,b'⟩
     | some f =>
      cases hf:h.bP.get f with
      | none=>simp[hf] at hw
      | some st =>
       simp only[hf] at hw;cases hw
       obtain⟨a,b'⟩:=R.write hg hmb hc WR (oo cs o vs hle) (iZ _ _ _) none (.inr rfl) (st.filter (· != b / 2)) ⟨st,hf,rfl⟩
       exact⟨_,bD,a,b'⟩
    ·simp[hle] at hw
theorem Bx (h:aG m v v'):v'.cells.size=v.cells.size:=by
 have:=h.cells.1
 simpa using this.symm
theorem Rel.store (R:Rel B w0 m h w) (hs:store P h t a v=some h') (ha:aG m a a') (hv:aG m v v') :
  ∃w',(Instr.storeAt t a' v').run P w=.ok () w'∧Rel B w0 m h' w'∧Step m h w m h' w':=by
 unfold Id.store at hs
 cases hA:asAddr a with
 | none=>simp[hA] at hs
 | some bo =>
  obtain⟨b,o⟩:=bo
  have hp:a=.pointer (some ⟨b,o,none⟩):=by
   unfold asAddr at hA;split at hA<;>simp_all
  subst hp
  obtain⟨r,s,hm,rfl⟩:=ha.kH
  cases hS:aO P t with
  | none=>simp[hA,hS] at hs
  | some n =>
   simp only[hA,hS,cond_eq_ite] at hs
   by_cases hc:(v.cells.size == n && v.cells.toList.all aB)=true
   ·rw[if_pos hc] at hs
    simp only[Bool.and_eq_true,beq_iff_eq,List.all_eq_true] at hc
    obtain⟨w',h1,h2,h3⟩:=R.wr hs hm hv.cells (fun x hx=>hc.2 x hx) P
    refine⟨w',?_,h2,h3⟩
    simp only[Instr.storeAt,Instr.sureAddr,storeVar,Sem.run_bind,Sem.run_pure,Result.andThen_ok,cd w hS]
    rw[if_neg (by rw[Bx hv];simp[hc.1])]
    simp[h1]
   ·rw[if_neg hc] at hs;cases hs
def Rel.newRow (R:Rel B w0 m h w) (hm:m (2*h.n)=none) {cs':List Value} (hv:bw m cs cs') (e:Nat) (t:TypeId) :
  Rel B w0 (m.upd (2*h.n) (w.heap.size,0) (e,0)) (h.new (.cells cs e none)) (w.alloc (.cells cs'.toArray t)) ∧
   Step m h w (m.upd (2*h.n) (w.heap.size,0) (e,0)) (h.new (.cells cs e none)) (w.alloc (.cells cs'.toArray t)):=by
 refine R.new _ _ (e,0) hm ⟨cs'.toArray,t,by rw[heap_alloc,if_pos rfl],⟨by simp[hv.1],fun i v hi=>?_⟩,rfl,Nat.zero_le _⟩ rfl
 obtain⟨v',a,b⟩:=hv.get hi
 exact⟨v',by simpa using a,b⟩
end Go.Id

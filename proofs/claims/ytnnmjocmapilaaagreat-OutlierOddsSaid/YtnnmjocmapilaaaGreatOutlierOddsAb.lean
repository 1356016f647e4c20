/-
  The ideal machine: laws of its heap, and what each change of memory does to the relation w
-/
import Derived.Test.YtnnmjocmapilaaaGreatOutlierOddsAa
set_option linter.unusedVariables false
set_option linter.unusedSimpArgs false
set_option linter.defProp false
set_option linter.deprecated false
namespace Go.Id
open Go Go.RowKit
namespace Tr
variable {α:Type}
def we (k:Nat):(leaf:Tr α).get k=none:=rfl
def qF (l r:Tr α) (v:Option α) (k:Nat):(node l v r).get k=if k=0 then v else if k % 2=1 then l.get (k / 2) else r.get ((k - 1) / 2):=by simp only[get,aK,bD]
theorem J4 : ∀(f n:Nat) (x:α) (k:Nat),n≤f→(one f n x).get k=if k=n then some x else none
 | 0,n,x,k,h=>by obtain rfl:n=0:=byOmega;simp only[one,qF,we];by_cases hk:k=0<;>simp[hk]
 | f+1,n,x,k,h=>by
  simp only[one,aK,bD];by_cases hn:n=0;·subst hn;simp only[bS,qF,we];by_cases hk:k=0<;>simp[hk]
  ·by_cases ho:n % 2=1
   ·simp only[hn,ho,bS,cH,qF,we];by_cases hk:k=0
    ·subst hk;simp;omega
    ·by_cases hk1:k % 2=1
     ·simp only[hk,hk1,bS,cH];rw[J4 f (n / 2) x (k / 2) byOmega];by_cases e:k / 2=n / 2
      ·rw[ah e,ah byOmega]
      ·rw[ad e,ad byOmega]
     ·simp only[hk,hk1,cH];rw[ad byOmega]
   ·simp only[hn,ho,cH,qF,we];by_cases hk:k=0
    ·subst hk;simp;omega
    ·by_cases hk1:k % 2=1
     ·simp only[hk,hk1,bS,cH];rw[ad byOmega]
     ·simp only[hk,hk1,cH];rw[J4 f ((n - 1) / 2) x ((k - 1) / 2) byOmega];by_cases e:(k - 1) / 2=(n - 1) / 2
      ·rw[ah e,ah byOmega]
      ·rw[ad e,ad byOmega]
theorem cE : ∀(t:Tr α) (n:Nat) (x:α) (k:Nat),(t.set n x).get k=if k=n then some x else t.get k
 | .leaf,n,x,k=>by simp only[set,J4 n n x k (ar n),we]
 | .node l v r,n,x,k=>by
  simp only[set,aK,bD];by_cases hn:n=0;·subst hn;simp only[bS,qF];by_cases hk:k=0<;>simp[hk]
  ·by_cases ho:n % 2=1
   ·simp only[hn,ho,bS,cH,qF];by_cases hk:k=0
    ·subst hk;simp only[bS];rw[ad byOmega]
    ·by_cases hk1:k % 2=1
     ·simp only[hk,hk1,bS,cH];rw[cE l (n / 2) x (k / 2)];by_cases e:k / 2=n / 2
      ·rw[ah e,ah byOmega]
      ·rw[ad e,ad byOmega]
     ·simp only[hk,hk1,cH];rw[ad byOmega]
   ·simp only[hn,ho,cH,qF];by_cases hk:k=0
    ·subst hk;simp only[bS];rw[ad byOmega]
    ·by_cases hk1:k % 2=1
     ·simp only[hk,hk1,bS,cH];rw[ad byOmega]
     ·simp only[hk,hk1,cH];rw[cE r ((n - 1) / 2) x ((k - 1) / 2)];by_cases e:(k - 1) / 2=(n - 1) / 2
      ·rw[ah e,ah byOmega]
      ·rw[ad e,ad byOmega]
end Tr
theorem mo : ∀(l:List Nat) (e:Tr cB) (k:Nat),(IH.fL e l).get k=if k∈l then some .dead else e.get k
 | [],e,k=>by simp[IH.fL]
 | a :: l,e,k=>by
  rw[IH.fL,mo l _ k,Tr.cE];by_cases h1:k∈l;·simp[h1]
  ·by_cases h2:k=a
   ·simp[h2]
   ·simp[h1,h2]
theorem heap_alloc (w:World) (o:Obj) (r:Nat):(w.alloc o).heap[r]?=if r=w.heap.size then some o else w.heap[r]?:=by show(w.heap.push o)[r]?=_;rw[Array.getElem?_push]
theorem size_alloc (w:World) (o:Obj):(w.alloc o).heap.size=w.heap.size+1:=by show(w.heap.push o).size=_;simp
variable {m:Mp}{r s:Nat}{o:cB}{w:World}{z:Nat×Nat}
def jD.mono {m':Mp} {w':World} {z':Nat×Nat} (hm:m.le m') (hw:w'.heap[r]?=w.heap[r]?) (hz:z'=z) (h:jD m w r s z o):jD m' w' r s z' o:=by
 subst hz;cases o with
 | cells cs t f =>
  obtain⟨c,el,a,⟨b,d⟩,e⟩:=h;exact⟨c,el,hw.trans a,⟨b,fun i v hv=>let ⟨v',x,y⟩:=d i v hv;⟨v',x,y.mono hm⟩⟩,e⟩
 | map es =>
  obtain⟨h0,c,a,b,d⟩:=h;exact⟨h0,c,hw.trans a,b,fun i e e' x y=>let ⟨⟨p,q,z⟩,t⟩:=d i e e' x y;⟨⟨p,q,z.mono hm⟩,t⟩⟩
 | loop l =>
  obtain⟨h0,l',a,b⟩:=h;exact⟨h0,l',hw.trans a,⟨b.state,b.pending,b.fn,fun t v hv=>let ⟨v',x,y⟩:=b.tmps t v hv;⟨v',x,y.mono hm⟩,b.nt,b.params,b.assign,b.body⟩⟩
 | iter k since seen last =>
  obtain⟨h0,rm,a,b⟩:=h;exact⟨h0,rm,hw.trans a,(hm _ _ b).1⟩
 | num x=>exact h.imp id fun⟨c,el,a,b,d⟩=>⟨c,el,hw.trans a,b,fun i v hv=>let ⟨v',x,y⟩:=d i v hv;⟨v',x,y.mono hm⟩⟩
 | dead=>trivial
def Mp.upd (m:Mp) (b:Nat) (x z:Nat×Nat):Mp:=⟨fun b'=>if b'=b then some x else m b',fun b'=>if b'=b then z else m.ez b'⟩
variable {b:Nat}
def Mp.Eu {x:Nat×Nat} (h:m b=none):m.le (m.upd b x z):=by
 intro b' y hy;unfold Mp.upd;by_cases e:b'=b;·subst e;rw[h] at hy;cases hy
 ·simp[e,hy]
theorem Mp.cb (m:Mp) (b:Nat) (x z:Nat×Nat):m.upd b x z b=some x:=by simp[Mp.upd]
variable {b':Nat}
theorem Mp.df (m:Mp) (x z:Nat×Nat) (h:b'≠b):m.upd b x z b'=m b':=by simp[Mp.upd,h]
theorem Mp.pF (m:Mp) (b:Nat) (x z:Nat×Nat):(m.upd b x z).ez b=z:=by simp[Mp.upd]
def Mp.Xn (m:Mp) (x z:Nat×Nat) (h:b'≠b):(m.upd b x z).ez b'=m.ez b':=by simp[Mp.upd,h]
def cB.lone:cB→Bool
 | .cells _ _ (some _)=>false
 | _=>true
variable {B:Nat}{w0:World}
def rH (h:Below B w0 w) (hs:B≤w.heap.size) (o:Obj):Below B w0 (w.alloc o) :=
 h.alloc hs o
variable {k:Nat}{h:IH}
def Rz (hd:h.ext.get h.n=none) {k':Nat} (hk:Kin h k k'):Kin (h.new o) k k':=by
 obtain⟨cs,t,cs',t',f,st,a,b,c,d,e⟩:=hk;have h1:k≠h.n:=by intro e;rw[e,hd] at a;cases a
 have h2:k'≠h.n:=by intro e;rw[e,hd] at b;cases b
 exact⟨cs,t,cs',t',f,st,by simp[IH.new,Tr.cE,h1,a],by simp[IH.new,Tr.cE,h2,b],c,d,e⟩
def Rel.new (R:Rel B w0 m h w) (o:cB) (o':Obj) (z:Nat×Nat) (hm:m (2*h.n)=none)(ho:jD m (w.alloc o') w.heap.size 0 z o) (hl:o.lone=true) :Rel B w0 (m.upd (2*h.n) (w.heap.size,0) z) (h.new o) (w.alloc o')∧Step m h w (m.upd (2*h.n) (w.heap.size,0) z) (h.new o) (w.alloc o'):=by
 have hle:m.le (m.upd (2*h.n) (w.heap.size,0) z):=Mp.Eu hm;have hold : ∀r,r<w.heap.size→(w.alloc o').heap[r]?=w.heap[r]?:=fun r hr=>by rw[heap_alloc,ad byOmega]
 have dM : ∀k,(h.new o).ext.get k=if k=h.n then some o else h.ext.get k:=fun k=>Tr.cE _ _ _ _;have hdn:=R.dom h.n (ar _);refine⟨⟨rH R.below R.size o',by rw[size_alloc];have:=R.size;omega,?_,?_,?_,?_,?_,?_,?_,?_,?_,?_⟩,⟨hle,?_,nc _,rfl,fun r hr _=>hold r hr,?_,by rw[size_alloc];omega,fun k r s hk1 hk2 hk=>by
  obtain rfl:k=h.n:=by have:(h.new o).n=h.n+1:=rfl;omega
  rw[Mp.cb] at hk;cases hk;exact .inl (ar _),fun _ _ _ h=>h⟩⟩
 ·intro b cs hb;obtain⟨r0,s0,hm0,hb1,c,el,fz,hc,hr⟩:=R.base b cs hb;refine⟨r0,s0,by rw[Mp.df _ _ _ byOmega];exact hm0,hb1,c,el,fz,?_,hr.1,fun i v hv=>let ⟨v',x,y⟩:=hr.2 i v hv;⟨v',x,y.mono hle⟩⟩;rw[hold r0 (by have:=R.size;omega),hc]
 ·intro b hb;rw[Mp.df _ _ _ byOmega];exact R.odd b hb
 ·intro k r s hk;rw[size_alloc];by_cases e:k=h.n
  ·subst e;rw[Mp.cb] at hk;cases hk;exact⟨R.size,byOmega⟩
  ·rw[Mp.df _ _ _ byOmega] at hk;have:=R.even k r s hk;omega
 ·intro k hk;rw[dM,ad (by have:(h.new o).n=h.n+1:=rfl;omega)];exact R.dom k (by have:(h.new o).n=h.n+1:=rfl;omega)
 ·intro k x r s hk hr;rw[dM] at hk;by_cases e:k=h.n
  ·subst e;rw[ah rfl] at hk;cases hk;rw[Mp.cb] at hr;cases hr;exact ho.mono hle rfl (Mp.pF _ _ _ _)
  ·rw[ad e] at hk;rw[Mp.df _ _ _ byOmega] at hr;exact(R.obj k x r s hk hr).mono hle (hold r (R.even k r s hr).2) (Mp.Xn _ _ _ byOmega)
 ·intro k k' x x' r s s' hne hk hk' ha ha' hr hr';rw[dM] at hk hk';by_cases e:k=h.n
  ·subst e;rw[Mp.cb] at hr;cases hr;rw[Mp.df _ _ _ byOmega] at hr';have:=R.even _ _ _ hr';omega
  ·by_cases e':k'=h.n
   ·subst e';rw[Mp.cb] at hr';cases hr';rw[Mp.df _ _ _ byOmega] at hr;have:=R.even _ _ _ hr;omega
   ·rw[ad e] at hk;rw[ad e'] at hk';rw[Mp.df _ _ _ byOmega] at hr hr';exact(R.own k k' x x' r s s' hne hk hk' ha ha' hr hr').imp (Rz hdn) id
 ·intro f st hf;obtain⟨a,b,c⟩:=R.fI f st hf;exact⟨rN a,fun x hx=>rN (b x hx),c⟩
 ·intro k cs t f hk;rw[dM] at hk;by_cases e:k=h.n
  ·rw[ah e] at hk;cases hk;simp[cB.lone] at hl
  ·rw[ad e] at hk;exact R.fam k cs t f hk
 ·intro f st hf;have hlt:=(R.fI f st hf).2.1;refine(R.long f st hf).imp_of_mem fun {x y} hx hy hxy=>?_;have ex:x≠h.n:=by have:=hlt x hx;omega
  have ey:y≠h.n:=by have:=hlt y hy;omega
  intro cs t g cs' t' g' r s s' h1 h2 h3 h4;rw[dM,ad ex] at h1;rw[dM,ad ey] at h2;rw[Mp.df _ _ _ byOmega] at h3 h4;exact hxy cs t g cs' t' g' r s s' h1 h2 h3 h4
 ·intro f st x y hf hx hy;have hlt:=(R.fI f st hf).2.1;rw[Mp.df _ _ _ (by have:=hlt x hx;omega),Mp.df _ _ _ (by have:=hlt y hy;omega)];exact R.whole f st x y hf hx hy
 ·intro b hb;by_cases e:b=2*h.n
  ·exact⟨h.n,e,ar _,jR _⟩
  ·exact absurd (Mp.df _ _ _ e) hb
 ·intro k hk _;rw[dM,ad byOmega]
def World.put (w:World) (r:Nat) (o:Obj):World:={ w with heap:=w.heap.setIfInBounds r o }
theorem oE (w:World) (r:Nat) (o:Obj) (r':Nat):(World.put w r o).heap[r']?=if r'=r∧r<w.heap.size then some o else w.heap[r']?:=by
 show(w.heap.setIfInBounds r o)[r']?=_;rw[II];by_cases h:r'=r;·subst h;by_cases hr:r'<w.heap.size<;>simp[hr]
 ·rw[ad (fun e=>h e.symm),ad (fun e=>h e.1)]
theorem mF (w:World) (r:Nat) (o:Obj):(World.put w r o).heap.size=w.heap.size:=by show(w.heap.setIfInBounds r o).size=_;simp
def w8 (h:Below B w0 w) (hr:B≤r) (o:Obj):Below B w0 (World.put w r o) :=
 ⟨h.os,h.tape,h.output,by rw[mF];exact h.size,fun k hk=>by rw[oE,ad byOmega];exact h.block k hk⟩
def kT (c:Array Value) (q:Nat):List Value→Array Value
 | []=>c
 | v :: vs=>kT (c.setIfInBounds q v) (q+1) vs
theorem lZ : ∀(vs:List Value) (c:Array Value) (q:Nat),(kT c q vs).size=c.size
 | [],c,q=>rfl
 | v :: vs,c,q=>by rw[kT,lZ vs,NU]
theorem tf : ∀(vs:List Value) (c:Array Value) (q j:Nat),q+vs.length≤c.size→(kT c q vs)[j]?=if q≤j∧j<q+vs.length then vs[j - q]? else c[j]?
 | [],c,q,j,h=>by simp only[kT,List.length_nil];rw[ad byOmega]
 | v :: vs,c,q,j,h=>by
  simp only[gX] at h;rw[kT,tf vs _ _ _ (by rw[NU];omega),II];by_cases h1:j=q;·subst h1;rw[ad byOmega,ah rfl,ah byOmega,ah aa];simp
  ·by_cases h2:q+1≤j∧j<q+1+vs.length
   ·rw[ah h2,ah (by simp only[gX];omega)];rw[show j - q=(j - (q+1))+1 from by omega,NO]
   ·rw[ad h2,ad (fun e=>h1 e.symm),ad (by simp only[gX];omega)]
theorem se (cs:List Value) (o:Nat) (vs:List Value) (h:o+vs.length≤cs.length):(IH.aI cs o vs).length=cs.length:=by simp[IH.aI];omega
theorem EL (cs:List Value) (o:Nat) (vs:List Value) (h:o+vs.length≤cs.length) (j:Nat) :(IH.aI cs o vs)[j]?=if o≤j∧j<o+vs.length then vs[j - o]? else cs[j]?:=by
 unfold IH.aI;by_cases h1:j<o;·rw[gF bq,List.getElem?_take_of_lt h1,ad byOmega]
 ·rw[jv bq];have e:(cs.take o).length=o:=bq;rw[e];by_cases h2:j<o+vs.length
  ·rw[gF byOmega,ah byOmega]
  ·rw[jv byOmega,ad byOmega,kj];congr 1;omega
variable {c:Array Value}{cs:List Value}
def rK.aI {o:Nat} {vs vs':List Value} (h:rK m cs c s) (ho:o+vs.length≤cs.length) (hv:cg m vs vs') :
  rK m (IH.aI cs o vs) (kT c (s+o) vs') s:=by
 have hl:=hv.1;refine⟨by rw[se cs o vs ho,lZ];exact h.1,fun i v hi=>?_⟩;rw[EL cs o vs ho] at hi;rw[tf vs' c _ _ (by have:=h.1;omega)];by_cases h1:o≤i∧i<o+vs.length;·rw[ah h1] at hi;rw[ah byOmega];rw[show s+i - (s+o)=i - o from by omega];obtain⟨v',a,b⟩:=hv.get hi;exact⟨v',a,b⟩
 ·rw[ad h1] at hi;rw[ad byOmega]
  exact h.2 i v hi
def Ie {v v':Value} (h:aW m v v') (hv:aM v=true):aM v'=true:=by cases h<;>simp_all [aM]
theorem LQ (w:World) (r q:Nat) (v:Value) (c:Array Value) (el:TypeId) (h:w.heap[r]?=some (.cells c el)) :
  w.setCell ⟨r,q,none⟩ v=World.put w r (.cells (c.setIfInBounds q v) el):=by
 have hr:r<w.heap.size:=(kZ.1 h).1;unfold Go.World.setCell World.put;congr 1;apply Array.ext_getElem?;intro i;rw[Array.getElem?_modify,II];by_cases hi:r=i;·subst hi;have e:=(kZ.1 h).2;simp[hr,e]
 ·simp[hi]
theorem ZC (w:World) (r:Nat) (a b:Obj):World.put (World.put w r a) r b=World.put w r b:=by unfold World.put;simp
def qc (P:Program) (r p:Nat) (el:TypeId) : ∀(vs:List Value) (i:Nat) (w:World) (c:Array Value),w.heap[r]?=some (.cells c el) →
  p+i+vs.length≤c.size→(∀v∈vs,aM v=true)→(storeCells ⟨r,p,none⟩ vs i).run P w=.ok () (if vs = [] then w else World.put w r (.cells (kT c (p+i) vs) el))
 | [],i,w,c,h,hl,hv=>by simp[storeCells,pure]
 | v :: vs,i,w,c,h,hl,hv=>by
  have hr:r<w.heap.size:=(kZ.1 h).1;simp only[gX] at hl;have Zf3:w.cell? (Addr.add ⟨r,p,none⟩ i)=some (c[p+i]' byOmega):=by
   have:(Addr.add ⟨r,p,none⟩ i).block=r∧(Addr.add ⟨r,p,none⟩ i).off=p+i∧(Addr.add ⟨r,p,none⟩ i).spot=none:=by unfold Addr.add;by_cases h0:i=0<;>simp[h0]
   obtain⟨a,b,d⟩:=this;simp[World.cell?,a,b,d,h]
  have Zav:Addr.add ⟨r,p,none⟩ i=⟨r,p+i,none⟩:=by unfold Addr.add;by_cases h0:i=0<;>simp[h0]
  have hfz:w.frozen? (Addr.add ⟨r,p,none⟩ i)=false:=by rw[Zav];simp[World.frozen?,h]
  have h1:=hv v aa;have mL:(World.put w r (.cells (c.setIfInBounds (p+i) v) el)).heap[r]?=some (.cells (c.setIfInBounds (p+i) v) el):=by rw[oE,ah ⟨rfl,hr⟩]
  have ih:=qc P r p el vs (i+1) (World.put w r (.cells (c.setIfInBounds (p+i) v) el)) (c.setIfInBounds (p+i) v) mL (by rw[NU];omega) (fun x hx=>hv x (by simp[hx]));have Zdp:(storeCells ⟨r,p,none⟩ (v :: vs) i).run P w=(storeCells ⟨r,p,none⟩ vs (i+1)).run P (w.setCell (Addr.add ⟨r,p,none⟩ i) v):=by
   cases v<;>first
    | (simp[aM] at h1;done)
    | (simp only[storeCells,Go.store,bind,Sem.bind,Sem.run,Zf3,hfz];rfl)
  rw[Zdp,Zav,LQ w r (p+i) v c el h,ih];simp only[reduceCtorEq,cH];rw[kT];by_cases hvs:vs = [];·subst hvs;simp[kT]
  ·rw[ad hvs,ZC,show p+(i+1)=p+i+1 from by omega]
def Rel.write (R:Rel B w0 m h w) {t:Nat} {fam:Option Nat} {el:TypeId} {cs':List Value} {c':Array Value}(hk:h.ext.get k=some (.cells cs t fam)) (hm:m (2*k)=some (r,s)) (hr:w.heap[r]?=some (.cells c el)) (jc:rK m cs' c' s) (hlen:cs'.length=cs.length) (hsz:c'.size=c.size)(zZ:Option Nat) (ZfX:zZ=fam∨zZ=none) (dead:List Nat) (EG:match fam with|none=>dead = []|some f => ∃st,h.cZ.get f=some st∧dead=st.filter (· != k)) :Rel B w0 m { h with ext:=(IH.fL h.ext dead).set k (.cells cs' t zZ) } (World.put w r (.cells c' el)) ∧ Step m h w m { h with ext:=(IH.fL h.ext dead).set k (.cells cs' t zZ) } (World.put w r (.cells c' el)):=by
 have hrs:=R.even k r s hm
 have hkn:k<h.n:=by
  rcases cU k h.n with e|e;·exact e
  ·have:=R.dom k e;rw[this] at hk;cases hk
 have dM : ∀j,((IH.fL h.ext dead).set k (.cells cs' t zZ)).get j=if j=k then some (.cells cs' t zZ) else if j∈dead then some .dead else h.ext.get j:=fun j=>by rw[Tr.cE,mo]
 have hdk:k∉dead:=by
  cases fam with
  | none=>simp at EG;simp[EG]
  | some f=>obtain⟨st,_,e⟩:=EG;simp[e]
 have hdd : ∀j,j∈dead → ∃f st,fam=some f∧h.cZ.get f=some st∧j∈st:=fun j hj=>by
  cases fam with
  | none=>simp at EG;simp[EG] at hj
  | some f=>obtain⟨st,a,e⟩:=EG;exact⟨f,st,rfl,a,by rw[e] at hj;exact(tI.1 hj).1⟩
 have ij : ∀j o s',j≠k→h.ext.get j=some o→o.alive=true→m (2*j)=some (r,s')→j∈dead:=by
  intro j o s' hj ho ha hmj;obtain⟨_,_,_,_,f,st,a,b,d,e1,e2⟩:=(R.own j k o _ r s' s hj ho hk ha rfl hmj hm).resolve_right fun e=>by cases e.2
  rw[hk] at b;cases b;obtain⟨st',d',e'⟩:=EG;rw[d] at d';cases d';rw[e'];exact tI.2 ⟨e1,by simpa using hj⟩
 have hold : ∀r',r'≠r→(World.put w r (.cells c' el)).heap[r']?=w.heap[r']?:=fun r' h'=>by rw[oE,ad (fun e=>h' e.1)]
 have Cj:(World.put w r (.cells c' el)).heap[r]?=some (.cells c' el):=by rw[oE,ah ⟨rfl,hrs.2⟩]
 refine⟨⟨w8 R.below hrs.1 _,by rw[mF];exact R.size,?_,R.odd,fun j r' s' hj=>by rw[mF];exact R.even j r' s' hj,?_,?_,?_,R.fI,?_,?_,R.whole⟩,⟨Mp.le_refl m,fun b e=>absurd rfl e,ar _,rfl,?_,?_,by rw[mF];exact ar _,fun k r s a b=>by have:k<h.n:=b;omega,fun _ _ _ h=>h⟩⟩;·intro b bs hb;obtain⟨r0,s0,hm0,hb1,c1,el1,fz,hc,hrw⟩:=R.base b bs hb;exact⟨r0,s0,hm0,hb1,c1,el1,fz,by rw[hold r0 byOmega];exact hc,hrw⟩
 ·intro j hj;have hj':h.n≤j:=hj;show((IH.fL h.ext dead).set k (.cells cs' t zZ)).get j=none;rw[dM,ad byOmega];by_cases hd:j∈dead
  ·obtain⟨f,st,_,a,e⟩:=hdd j hd;have:=(R.fI f st a).2.1 j e;omega
  ·rw[ad hd];exact R.dom j hj'
 ·intro j o r' s' ho hj;have ho':(if j=k then some (cB.cells cs' t zZ) else if j∈dead then some .dead else h.ext.get j)=some o:=by rw[←dM];exact ho
  by_cases e:j=k;·subst e;rw[ah rfl] at ho';cases ho';rw[hm] at hj;cases hj;obtain⟨c2,el2,hc2,_,hz1,hz2⟩:=R.obj j _ r s hk hm;rw[hr] at hc2;cases hc2;exact⟨c',el,Cj,jc,hz1,by rw[hsz];exact hz2⟩
  ·rw[ad e] at ho';by_cases hd:j∈dead
   ·rw[ah hd] at ho';cases ho';trivial
   ·rw[ad hd] at ho';by_cases hr':r'=r
    ·subst hr';cases o with
     | dead=>trivial
     | _=>exact absurd (ij j _ s' e ho' rfl hj) hd
    ·exact(R.obj j o r' s' ho' hj).mono (Mp.le_refl m) (hold r' hr') rfl
 ·intro j j' o o' r' s1 s2 hne ho ho' ha ha' hj hj';have e1:(if j=k then some (cB.cells cs' t zZ) else if j∈dead then some .dead else h.ext.get j)=some o:=by rw[←dM];exact ho
  have e2:(if j'=k then some (cB.cells cs' t zZ) else if j'∈dead then some .dead else h.ext.get j')=some o':=by rw[←dM];exact ho'
  have nd : ∀{i:Nat} {x:cB},i≠k→(if i=k then some (cB.cells cs' t zZ) else if i∈dead then some .dead else h.ext.get i)=some x→x.alive=true→i∉dead∧h.ext.get i=some x:=by
   intro i x hi hx hxa;rw[ad hi] at hx;by_cases hd:i∈dead;·rw[ah hd] at hx;cases hx;simp[cB.alive] at hxa
   ·rw[ad hd] at hx;exact⟨hd,hx⟩
  by_cases c1:j=k;·subst c1;rw[hm] at hj;cases hj;obtain⟨hd,hx⟩:=nd (fun e=>hne e.symm) e2 ha';exact absurd (ij j' o' s2 (fun e=>hne e.symm) hx ha' hj') hd
  ·obtain⟨hd,hx⟩:=nd c1 e1 ha;by_cases c2:j'=k
   ·subst c2;rw[hm] at hj';cases hj';exact absurd (ij j o s1 c1 hx ha hj) hd
   ·obtain⟨hd',hx'⟩:=nd c2 e2 ha';refine(R.own j j' o o' r' s1 s2 hne hx hx' ha ha' hj hj').imp (fun⟨a1,a2,a3,a4,f,st,b1,b2,b3,b4,b5⟩=>?_) id;exact⟨a1,a2,a3,a4,f,st,by rw[dM,ad c1,ad hd];exact b1,by rw[dM,ad c2,ad hd'];exact b2,b3,b4,b5⟩
 ·intro j js t' f hj;have hj':(if j=k then some (cB.cells cs' t zZ) else if j∈dead then some .dead else h.ext.get j)=some (.cells js t' (some f)):=by rw[←dM];exact hj
  by_cases e:j=k
  ·subst e;rw[ah rfl] at hj';cases hj';rcases ZfX with e|e
   ·subst e;exact R.fam j cs t f hk
   ·cases e
  ·rw[ad e] at hj';by_cases hd:j∈dead
   ·rw[ah hd] at hj';cases hj'
   ·rw[ad hd] at hj';exact R.fam j js t' f hj'
 ·intro f st hf;refine(R.long f st hf).imp fun {x y} hxy=>?_;have back : ∀(i:Nat) (js:List Value) (t0:Nat) (g:Option Nat),((IH.fL h.ext dead).set k (.cells cs' t zZ)).get i=some (.cells js t0 g) → ∃js' t' g',h.ext.get i=some (.cells js' t' g')∧js'.length=js.length:=by
   intro i js t' g hi;rw[dM] at hi;by_cases e:i=k;·subst e;rw[ah rfl] at hi;cases hi;exact⟨_,_,_,hk,hlen.symm⟩
   ·rw[ad e] at hi;by_cases hd:i∈dead
    ·rw[ah hd] at hi;cases hi
    ·rw[ad hd] at hi;exact⟨_,_,_,hi,rfl⟩
  intro xs t1 g1 ys t2 g2 r' s1 s2 h1 h2 h3 h4;obtain⟨xs',t3,g3,b1,b2⟩:=back x xs t1 g1 h1;obtain⟨ys',t4,g4,b3,b4⟩:=back y ys t2 g2 h2;rw[←b2,←b4];exact hxy xs' t3 g3 ys' t4 g4 r' s1 s2 b1 b3 h3 h4
 ·intro r' hr' hno;exact hold r' (fun e=>hno k s hkn (e▸hm))
 ·intro j hj hmj;show((IH.fL h.ext dead).set k (.cells cs' t zZ)).get j=h.ext.get j;rw[dM];have e:j≠k:=fun e=>by subst e;rw[hm] at hmj;cases hmj
  rw[ad e,ad ?_];intro hd;obtain⟨f,st,e1,a,e2⟩:=hdd j hd;subst e1;obtain⟨st',b1,b2⟩:=R.fam k cs t f hk;rw[a] at b1;cases b1;have:=R.whole f st k j a b2 e2 (by rw[hm];rfl);rw[hmj] at this;cases this
end Go.Id
namespace Go.Id
open Go Go.RowKit
def cB.other:cB→Bool
 | .cells _ _ _=>false
 | .num _=>false
 | _=>true
variable {r s k:Nat}{m:Mp}{h:IH}{B:Nat}{w w0:World}
def Rel.setObj (R:Rel B w0 m h w) {o o1:cB} {o':Obj}(hk:h.ext.get k=some o) (ho:o.other=true) (ha:o.alive=true) (hm:m (2*k)=some (r,s)) (ho1:o1.other=true) (nD : ∀w' z,w'.heap[r]?=some o'→jD m w' r s z o1) :
  Rel B w0 m { h with ext:=h.ext.set k o1 } (World.put w r o')∧Step m h w m { h with ext:=h.ext.set k o1 } (World.put w r o'):=by
 have hrs:=R.even k r s hm
 have hkn:k<h.n:=by
  rcases cU k h.n with e|e;·exact e
  ·have:=R.dom k e;rw[this] at hk;cases hk
 have dM : ∀j,(h.ext.set k o1).get j=if j=k then some o1 else h.ext.get j:=fun j=>Tr.cE _ _ _ _;have hold : ∀r',r'≠r→(World.put w r o').heap[r']?=w.heap[r']?:=fun r' h'=>by rw[oE,ad (fun e=>h' e.1)]
 have Cj:(World.put w r o').heap[r]?=some o':=by rw[oE,ah ⟨rfl,hrs.2⟩]
 have hno : ∀j x s',j≠k→h.ext.get j=some x→x.alive=true→m (2*j)≠some (r,s'):=by
  intro j x s' hj hx hxa hmj;rcases R.own j k x _ r s' s hj hx hk hxa ha hmj hm with⟨_,_,_,_,f,st,a,b,_⟩|⟨_,u⟩;·rw[hk] at b;cases b;simp[cB.other] at ho
  ·cases o<;>simp[cB.other,cB.isNum] at ho u
 have yA : ∀j cs t f,(h.ext.set k o1).get j=some (.cells cs t f)→h.ext.get j=some (.cells cs t f):=by
  intro j cs t f hj;rw[dM] at hj;by_cases e:j=k;·rw[ah e] at hj;cases hj;simp[cB.other] at ho1
  ·rw[ad e] at hj;exact hj
 have RL : ∀j cs t f,h.ext.get j=some (.cells cs t f)→(h.ext.set k o1).get j=some (.cells cs t f):=by intro j cs t f hj;rw[dM,ad ?_];exact hj;intro e;subst e;rw[hk] at hj;cases hj;simp[cB.other] at ho
 refine⟨⟨w8 R.below hrs.1 _,by rw[mF];exact R.size,?_,R.odd,fun j r' s' hj=>by rw[mF];exact R.even j r' s' hj,?_,?_,?_,R.fI,?_,?_,R.whole⟩,⟨Mp.le_refl m,fun b e=>absurd rfl e,ar _,rfl,?_,?_,by rw[mF];exact ar _,fun k r s a b=>by have:k<h.n:=b;omega,fun _ _ _ h=>h⟩⟩;·intro b bs hb;obtain⟨r0,s0,hm0,hb1,c1,el1,fz,hc,hrw⟩:=R.base b bs hb;exact⟨r0,s0,hm0,hb1,c1,el1,fz,by rw[hold r0 byOmega];exact hc,hrw⟩
 ·intro j hj
  show(h.ext.set k o1).get j=none;rw[dM,ad (by have:h.n≤j:=hj;omega)];exact R.dom j hj
 ·intro j x r' s' hx hj
  have hx':(if j=k then some o1 else h.ext.get j)=some x:=by rw[←dM];exact hx
  by_cases e:j=k;·subst e;rw[ah rfl] at hx';cases hx';rw[hm] at hj;cases hj;exact nD _ _ Cj
  ·rw[ad e] at hx';by_cases hr':r'=r
   ·subst hr';cases x with
    | dead=>trivial
    | _=>exact absurd hj (hno j _ s' e hx' rfl)
   ·exact(R.obj j x r' s' hx' hj).mono (Mp.le_refl m) (hold r' hr') rfl
 ·intro j j' x x' r' s1 s2 hne hx hx' hxa hxa' hj hj'
  have e1:(if j=k then some o1 else h.ext.get j)=some x:=by rw[←dM];exact hx
  have e2:(if j'=k then some o1 else h.ext.get j')=some x':=by rw[←dM];exact hx'
  by_cases c1:j=k;·subst c1;rw[ad (fun e=>hne e.symm)] at e2;rw[hm] at hj;cases hj;exact absurd hj' (hno j' x' s2 (fun e=>hne e.symm) e2 hxa')
  ·rw[ad c1] at e1;by_cases c2:j'=k
   ·subst c2;rw[hm] at hj';cases hj';exact absurd hj (hno j x s1 c1 e1 hxa)
   ·rw[ad c2] at e2;exact(R.own j j' x x' r' s1 s2 hne e1 e2 hxa hxa' hj hj').imp (fun⟨a1,a2,a3,a4,f,st,b1,b2,b3⟩=>⟨a1,a2,a3,a4,f,st,RL _ _ _ _ b1,RL _ _ _ _ b2,b3⟩) id
 ·intro j cs t f hj
  exact R.fam j cs t f (yA j cs t _ hj)
 ·intro f st hf
  refine(R.long f st hf).imp fun {x y} hxy=>?_
  intro xs t1 g1 ys t2 g2 r' s1 s2 h1 h2 h3 h4;exact hxy xs t1 g1 ys t2 g2 r' s1 s2 (yA _ _ _ _ h1) (yA _ _ _ _ h2) h3 h4
 ·intro r' hr' hno
  exact hold r' (fun e=>hno k s hkn (e▸hm))
 ·intro j hj hmj
  show(h.ext.set k o1).get j=h.ext.get j
  rw[dM,ad (fun e=>by subst e;rw[hm] at hmj;cases hmj)]
def Zcg (h:IH) (k f:Nat) (dB below:List Nat):Option Nat→Prop
 | none=>f=h.n∧dB = []∧below = []
 | some g=>f=g ∧ ∃st,h.cZ.get g=some st∧st=dB ++ k :: below
def Rel.grow (R:Rel B w0 m h w) {cs:List Value} {t:Nat} {fam:Option Nat}(hk:h.ext.get k=some (.cells cs t fam)) (hm:m (2*k)=some (r,s)) (ec:m (2*h.n)=none)(f:Nat) (dB below:List Nat) (Ck:Zcg h k f dB below fam)(cs':List Value) (t':Nat) (r' s':Nat) (z:Nat×Nat) (w':World)(hw:Below B w0 w') (hsz:w.heap.size≤w'.heap.size) (hr':B≤r'∧r'<w'.heap.size)(jc : ∃c el,w'.heap[r']?=some (.cells c el)∧rK m cs' c s'∧z.1=t'∧z.2≤c.size)(rD:(w.heap.size≤r'∧(∀q,q<w.heap.size→w'.heap[q]?=w.heap[q]?)) ∨ (r'=r∧s+cs.length≤s'+cs'.length∧(∀q,q<w.heap.size→q≠r→w'.heap[q]?=w.heap[q]?) ∧∀c el,w.heap[r]?=some (.cells c el) → ∃c',w'.heap[r]?=some (.cells c' el)∧c.size≤c'.size ∧ ∀i,i<s+cs.length→c'[i]?=c[i]?)) :Rel B w0 (m.upd (2*h.n) (r',s') z) (grown h k f cs t dB below cs' t') w'∧Step m h w (m.upd (2*h.n) (r',s') z) (grown h k f cs t dB below cs' t') w':=by
 have hle:m.le (m.upd (2*h.n) (r',s') z):=Mp.Eu ec
 have hkn:k<h.n:=by
  rcases cU k h.n with e|e;·exact e
  ·have:=R.dom k e;rw[this] at hk;cases hk
 have hdn:=R.dom h.n (ar _);have hrs:=R.even k r s hm;have hst:(fam=none∧f=h.n∧dB = []∧below = [])∨(fam=some f∧h.cZ.get f=some (dB ++ k :: below)):=by
  cases fam with
  | none=>exact .inl ⟨rfl,Ck⟩
  | some g=>obtain⟨e,st,a,b⟩:=Ck;subst e;subst b;exact .inr ⟨rfl,a⟩
 have hka:k∉dB∧k∉below:=by
  rcases hst with⟨_,_,rfl,rfl⟩|⟨_,a⟩;·simp
  ·have:=(R.fI f _ a).2.2
   rw[IA] at this;obtain⟨_,b,d⟩:=this;exact⟨fun hx=>d k hx k aa rfl,(Db.1 b).1⟩
 have Xc : ∀j∈dB,fam=some f∧h.cZ.get f=some (dB ++ k :: below):=by
  intro j hj;rcases hst with⟨_,_,rfl,rfl⟩|x;·cases hj
  ·exact x
 have dM : ∀j,(grown h k f cs t dB below cs' t').ext.get j=if j=h.n then some (.cells cs' t' (some f)) else if j=k then some (.cells cs t (some f)) else if j∈dB then some .dead else h.ext.get j:=fun j=>by show(((IH.fL h.ext dB).set k (.cells cs t (some f))).set h.n (.cells cs' t' (some f))).get j=_;rw[Tr.cE,Tr.cE,mo]
 have v8 : ∀g,(grown h k f cs t dB below cs' t').cZ.get g=if g=f then some (h.n :: k :: below) else h.cZ.get g:=fun g=>Tr.cE _ _ _ _;have EI : ∀j x,j≠h.n→(grown h k f cs t dB below cs' t').ext.get j=some x→x.alive=true→(j∉dB) ∧ ∃y,h.ext.get j=some y∧y.alive=true ∧ ((j≠k∧x=y)∨(j=k∧x=.cells cs t (some f))):=by
  intro j x hj hx ha;rw[dM,ad hj] at hx;by_cases e:j=k;·subst e;rw[ah rfl] at hx;cases hx;exact⟨hka.1,_,hk,rfl,.inr ⟨rfl,rfl⟩⟩
  ·rw[ad e] at hx;by_cases hd:j∈dB
   ·rw[ah hd] at hx;cases hx;simp[cB.alive] at ha
   ·rw[ad hd] at hx;exact⟨hd,x,hx,ha,.inl ⟨e,rfl⟩⟩
 have yy : ∀j x s1,j≠h.n→j≠k→j∉dB→h.ext.get j=some x→x.alive=true→m (2*j)=some (r,s1) → ∃js t1,x=.cells js t1 (some f)∧j∈below∧fam=some f∧s1+js.length≤s+cs.length:=by
  intro j x s1 hjn hjk hja hx ha hmj;obtain⟨a1,a2,a3,a4,g,st,b1,b2,b3,b4,b5⟩:=(R.own j k x _ r s1 s hjk hx hk ha rfl hmj hm).resolve_right fun e=>by cases e.2
  rw[hk] at b2;cases b2;rcases hst with⟨e,_⟩|⟨e,a⟩
  ·cases e
  ·cases e;rw[a] at b3;cases b3;have hjb:j∈below:=by
    rcases eE.1 b4 with h1|h1;·exact absurd h1 hja
    ·rcases dD.1 h1 with h2|h2
     ·exact absurd h2 hjk
     ·exact h2
   rw[hx] at b1;cases b1;have hp:=R.long f _ a;rw[List.pairwise_append] at hp;have hq:=(List.pairwise_cons.1 hp.2.1).1 j hjb cs t (some f) a1 a2 (some f) r s s1 hk hx hm hmj;exact⟨a1,a2,rfl,hjb,rfl,hq⟩
 have Zam : ∀j x q s1,j≠h.n→h.ext.get j=some x→(x.alive=true→j∉dB)→m (2*j)=some (q,s1)→jD (m.upd (2*h.n) (r',s') z) w' q s1 ((m.upd (2*h.n) (r',s') z).ez (2*j)) x:=by
  intro j x q s1 hjn hx hal hq;have hqs:=R.even j q s1 hq;have hez:(m.upd (2*h.n) (r',s') z).ez (2*j)=m.ez (2*j):=Mp.Xn _ _ _ byOmega;rcases rD with⟨_,ij⟩|⟨_,_,ij,hr⟩
  ·exact(R.obj j x q s1 hx hq).mono hle (ij q hqs.2) hez
  ·by_cases e:q=r
   ·subst e
    cases x with
    | dead=>trivial
    | map es =>
     by_cases hjk:j=k
     ·subst hjk;rw[hk] at hx;cases hx
     ·obtain⟨_,_,e,_⟩:=yy j _ s1 hjn hjk (hal rfl) hx rfl hq;cases e
    | num x1 =>
     by_cases hjk:j=k
     ·subst hjk;rw[hk] at hx;cases hx
     ·obtain⟨_,_,e,_⟩:=yy j _ s1 hjn hjk (hal rfl) hx rfl hq;cases e
    | loop l =>
     by_cases hjk:j=k
     ·subst hjk;rw[hk] at hx;cases hx
     ·obtain⟨_,_,e,_⟩:=yy j _ s1 hjn hjk (hal rfl) hx rfl hq;cases e
    | iter k1 i1 l1 j1 =>
     by_cases hjk:j=k;·subst hjk;rw[hk] at hx;cases hx
     ·obtain⟨_,_,e,_⟩:=yy j _ s1 hjn hjk (hal rfl) hx rfl hq;cases e
    | cells js t1 g1 =>
     have hreach:s1+js.length≤s+cs.length:=by
      by_cases hjk:j=k;·subst hjk;rw[hk] at hx;cases hx;rw[hm] at hq;cases hq;exact ar _
      ·obtain⟨_,_,e,_,_,d⟩:=yy j _ s1 hjn hjk (hal rfl) hx rfl hq;cases e;exact d
     obtain⟨c,el,hc,hrw,hz1,hz2⟩:=R.obj j _ q s1 hx hq;obtain⟨c',hc',hcs,hci⟩:=hr c el hc;refine⟨c',el,hc',⟨bA hrw.1 hcs,fun i v hv=>?_⟩,by rw[hez];exact hz1,by rw[hez];exact bA hz2 hcs⟩;obtain⟨v',a,b⟩:=hrw.2 i v hv
     have hil:i<js.length:=by
      rcases cU i js.length with h1|h1;·exact h1
      ·rw[cI h1] at hv;cases hv
     exact⟨v',by rw[hci (s1+i) byOmega];exact a,b.mono hle⟩
   ·exact(R.obj j x q s1 hx hq).mono hle (ij q hqs.2 e) hez
 refine⟨⟨hw,bA R.size hsz,?_,?_,?_,?_,?_,?_,?_,?_,?_,?_⟩,⟨hle,?_,nc _,rfl,?_,?_,hsz,fun j q x hj1 hj2 hj=>by
  obtain rfl:j=h.n:=by have:(grown h k f cs t dB below cs' t').n=h.n+1:=rfl;omega
  rw[Mp.cb] at hj;cases hj;rcases rD with⟨a,_⟩|⟨a,_⟩
  ·exact .inl a
  ·exact .inr ⟨k,s,hkn,a▸hm⟩,fun j hj hmj Zan g st hg=>by
  rw[v8] at hg;by_cases e:g=f
  ·rw[ah e] at hg;cases hg;intro hx;rcases dD.1 hx with e1|hx
   ·omega
   ·rcases dD.1 hx with e1|hx
    ·subst e1;rw[hm] at hmj;cases hmj
    ·rcases hst with⟨_,_,rfl,rfl⟩|⟨_,a⟩
     ·cases hx
     ·exact Zan _ _ a (eE.2 (.inr (dD.2 (.inr hx))))
  ·rw[ad e] at hg;exact Zan g st hg⟩⟩
 ·intro b bs hb
  obtain⟨r0,s0,hm0,hb1,c1,el1,fz,hc,hrw⟩:=R.base b bs hb;refine⟨r0,s0,by rw[Mp.df _ _ _ byOmega];exact hm0,hb1,c1,el1,fz,?_,hrw.1,fun i v hv=>let ⟨v',x,y⟩:=hrw.2 i v hv;⟨v',x,y.mono hle⟩⟩;have hbs:r0<w.heap.size:=by have:=R.size;omega
  rcases rD with⟨_,ij⟩|⟨_,_,ij,_⟩;·rw[ij r0 hbs];exact hc
  ·rw[ij r0 hbs byOmega];exact hc
 ·intro b hb;rw[Mp.df _ _ _ byOmega];exact R.odd b hb
 ·intro j q x hj;by_cases e:j=h.n
  ·subst e;rw[Mp.cb] at hj;cases hj;exact hr'
  ·rw[Mp.df _ _ _ byOmega] at hj;have:=R.even j q x hj;omega
 ·intro j hj;have hj':h.n+1≤j:=hj;rw[dM,ad byOmega,ad byOmega,ad ?_]
  ·exact R.dom j byOmega
  ·intro hx;have:=(R.fI f _ (Xc j hx).2).2.1 j (by simp[hx]);omega
 ·intro j x q s1 hx hj;by_cases e:j=h.n
  ·subst e;rw[dM,ah rfl] at hx;cases hx;rw[Mp.cb] at hj;cases hj;obtain⟨c,el,hc,hrw,hz1,hz2⟩:=jc;rw[Mp.pF]
   exact⟨c,el,hc,⟨hrw.1,fun i v hv=>let ⟨v',a,b⟩:=hrw.2 i v hv;⟨v',a,b.mono hle⟩⟩,hz1,hz2⟩
  ·rw[Mp.df _ _ _ byOmega] at hj
   cases hxa:x.alive with
   | false=>cases x<;>simp_all [cB.alive,jD]
   | true =>
    obtain⟨hna,y,hy,hya,hc⟩:=EI j x e hx hxa;have:=Zam j y q s1 e hy (fun _=>hna) hj;rcases hc with⟨_,rfl⟩|⟨hjk,rfl⟩;·exact this
    ·subst hjk;rw[hk] at hy;cases hy;exact this
 ·intro j j' x x' q s1 s2 hne hx hx' ha ha' hj hj';have up : ∀i js t1 g,i≠h.n→i∉dB→h.ext.get i=some (.cells js t1 (some g))→(grown h k f cs t dB below cs' t').ext.get i=some (.cells js t1 (some g)):=by
   intro i js t1 g hin hia hi;rw[dM,ad hin];by_cases e:i=k
   ·subst e;rw[hk] at hi;cases hi;rcases hst with⟨e,_⟩|⟨e,_⟩
    ·cases e
    ·cases e;simp
   ·rw[ad e,ad hia,hi]
  have Wt : ∀i y s3,i≠h.n→(grown h k f cs t dB below cs' t').ext.get i=some y→y.alive=true→m (2*i)=some (r',s3)→Kin (grown h k f cs t dB below cs' t') h.n i∧Kin (grown h k f cs t dB below cs' t') i h.n:=by
   intro i y s3 hin hy hya hmi;have hri:=R.even i r' s3 hmi;rcases rD with⟨Zau,_⟩|⟨hrr,_,_,_⟩;·omega
   ·subst hrr;obtain⟨hna,z,hz,hza,hc⟩:=EI i y hin hy hya;by_cases hik:i=k
    ·subst hik;have g1:(grown h i f cs t dB below cs' t').ext.get h.n=some (.cells cs' t' (some f)):=by rw[dM,ah rfl]
     have g2:(grown h i f cs t dB below cs' t').ext.get i=some (.cells cs t (some f)):=by rw[dM,ad hin,ah rfl]
     have g3:(grown h i f cs t dB below cs' t').cZ.get f=some (h.n :: i :: below):=by rw[v8,ah rfl]
     exact⟨⟨_,_,_,_,f,_,g1,g2,g3,aa⟩,⟨_,_,_,_,f,_,g2,g1,g3,aa⟩⟩
    ·obtain⟨js,t1,e,hb,_,_⟩:=yy i z s3 hin hik hna hz hza hmi;subst e;have g1:(grown h k f cs t dB below cs' t').ext.get h.n=some (.cells cs' t' (some f)):=by rw[dM,ah rfl]
     have g2:=up i js t1 f hin hna hz;have g3:(grown h k f cs t dB below cs' t').cZ.get f=some (h.n :: k :: below):=by rw[v8,ah rfl]
     exact⟨⟨_,_,_,_,f,_,g1,g2,g3,by simp[hb]⟩,⟨_,_,_,_,f,_,g2,g1,g3,by simp[hb]⟩⟩
  by_cases c1:j=h.n;·subst c1;rw[Mp.cb] at hj;cases hj;rw[Mp.df _ _ _ byOmega] at hj';exact .inl (Wt j' x' s2 (fun e=>hne e.symm) hx' ha' hj').1
  ·by_cases c2:j'=h.n
   ·subst c2;rw[Mp.cb] at hj';cases hj';rw[Mp.df _ _ _ byOmega] at hj;exact .inl (Wt j x s1 c1 hx ha hj).2
   ·rw[Mp.df _ _ _ byOmega] at hj hj';obtain⟨n1,y,hy,hya,hyx⟩:=EI j x c1 hx ha;obtain⟨n2,y',hy',hya',hyx'⟩:=EI j' x' c2 hx' ha';rcases R.own j j' y y' q s1 s2 hne hy hy' hya hya' hj hj' with⟨a1,a2,a3,a4,g,st,b1,b2,b3,b4,b5⟩|⟨u1,u2⟩
    case inr =>
     refine .inr ⟨?_,?_⟩
     ·rcases hyx with⟨_,e⟩|⟨e,_⟩
      ·rw[e];exact u1
      ·rw[e,hk] at hy;cases hy;cases u1
     ·rcases hyx' with⟨_,e⟩|⟨e,_⟩
      ·rw[e];exact u2
      ·rw[e,hk] at hy';cases hy';cases u2
    refine .inl ⟨a1,a2,a3,a4,g,if g=f then h.n :: k :: below else st,up j _ _ _ c1 n1 b1,up j' _ _ _ c2 n2 b2,?_,?_,?_⟩
    ·rw[v8];by_cases e:g=f
     ·simp[e]
     ·simp[e,b3]
    ·by_cases e:g=f
     ·subst e;rcases hst with⟨_,e,_⟩|⟨_,a⟩
      ·have:=(R.fI _ _ b3).1;omega
      ·rw[a] at b3;cases b3;rw[ah rfl];rcases eE.1 b4 with h1|h1
       ·exact absurd h1 n1
       ·simp[dD.1 h1]
     ·rw[ad e];exact b4
    ·by_cases e:g=f
     ·subst e;rcases hst with⟨_,e,_⟩|⟨_,a⟩
      ·have:=(R.fI _ _ b3).1;omega
      ·rw[a] at b3;cases b3;rw[ah rfl];rcases eE.1 b5 with h1|h1
       ·exact absurd h1 n2
       ·simp[dD.1 h1]
     ·rw[ad e];exact b5
 ·intro g st hg;rw[v8] at hg;by_cases e:g=f
  ·subst e;rw[ah rfl] at hg;cases hg;rcases hst with⟨_,e,_,rfl⟩|⟨_,a⟩
   ·exact⟨by show g<h.n+1;omega,by simp[grown];omega,bq⟩
   ·obtain⟨h1,h2,h3⟩:=R.fI g _ a;refine⟨rN h1,?_,?_⟩
    ·intro x hx;show x<h.n+1;rcases dD.1 hx with e|hx
     ·omega
     ·have:=h2 x (eE.2 (.inr hx));omega
    ·rw[IA] at h3;exact Db.2 ⟨fun hx=>by have:=h2 h.n (eE.2 (.inr hx));omega,h3.2.1⟩
  ·rw[ad e] at hg;obtain⟨h1,h2,h3⟩:=R.fI g st hg;exact⟨rN h1,fun x hx=>rN (h2 x hx),h3⟩
 ·intro j js t1 g hj;rw[dM] at hj;by_cases e:j=h.n
  ·rw[ah e] at hj;cases hj;exact⟨_,by rw[v8,ah rfl],by simp[e]⟩
  ·rw[ad e] at hj;by_cases e1:j=k
   ·rw[ah e1] at hj;cases hj;exact⟨_,by rw[v8,ah rfl],by simp[e1]⟩
   ·rw[ad e1] at hj;by_cases hd:j∈dB
    ·rw[ah hd] at hj;cases hj
    ·rw[ad hd] at hj;obtain⟨st,a,b⟩:=R.fam j js t1 g hj;by_cases e2:g=f
     ·subst e2;rcases hst with⟨_,e3,_⟩|⟨_,a'⟩
      ·have:=(R.fI _ _ a).1;omega
      ·rw[a'] at a;cases a;refine⟨_,by rw[v8,ah rfl],?_⟩;rcases eE.1 b with h1|h1
       ·exact absurd h1 hd
       ·exact dD.2 (.inr h1)
     ·exact⟨st,by rw[v8,ad e2];exact a,b⟩
 ·intro g st hg
  have bk : ∀i is t1 g1,i≠h.n→(grown h k f cs t dB below cs' t').ext.get i=some (.cells is t1 g1) → ∃t2 g2,h.ext.get i=some (.cells is t2 g2):=by
   intro i is t1 g1 hin hi;obtain⟨_,y,hy,_,hc⟩:=EI i _ hin hi rfl;rcases hc with⟨_,rfl⟩|⟨e,e2⟩;·exact⟨_,_,hy⟩
   ·subst e;cases e2;exact⟨_,_,hk⟩
  rw[v8] at hg;by_cases e:g=f
  ·subst e;rw[ah rfl] at hg;cases hg;have Pv : ∀y∈k :: below,y≠h.n∧y∉dB:=by
    intro y hy;rcases hst with⟨_,_,rfl,rfl⟩|⟨_,a⟩
    ·rcases dD.1 hy with rfl|hy
     ·exact⟨byOmega,aa⟩
     ·cases hy
    ·have h2:=(R.fI g _ a).2;refine⟨fun e=>by have:=h2.1 y (eE.2 (.inr hy));omega,fun hx=>?_⟩;exact(IA.1 h2.2).2.2 y hx y hy rfl
   refine List.pairwise_cons.2 ⟨fun y hy=>?_,?_⟩
   ·intro xs t1 g1 ys t2 g2 q s1 s2 h1 h2 h3 h4;obtain⟨hyn,hya⟩:=Pv y hy;rw[dM,ah rfl] at h1;cases h1;rw[Mp.cb] at h3;cases h3;rw[Mp.df _ _ _ byOmega] at h4;obtain⟨t3,g3,h5⟩:=bk y ys t2 g2 hyn h2;have hyr:=R.even y _ _ h4;rcases rD with⟨Zau,_⟩|⟨hrr,xi,_,_⟩
    ·omega
    ·subst hrr;by_cases hyk:y=k
     ·subst hyk;rw[hk] at h5;cases h5;rw[hm] at h4;cases h4;exact xi
     ·obtain⟨_,_,e,_,_,d⟩:=yy y _ s2 hyn hyk hya h5 rfl h4;cases e;omega
   ·rcases hst with⟨_,_,rfl,rfl⟩|⟨_,a⟩
    ·simp
    ·have hp:=(List.pairwise_append.1 (R.long g _ a)).2.1;refine hp.imp_of_mem fun {x y} hx hy hxy=>?_;intro xs t1 g1 ys t2 g2 q s1 s2 h1 h2 h3 h4;obtain⟨hxn,_⟩:=Pv x hx;obtain⟨hyn,_⟩:=Pv y hy;obtain⟨t3,g3,h5⟩:=bk x xs t1 g1 hxn h1;obtain⟨t4,g4,h6⟩:=bk y ys t2 g2 hyn h2;rw[Mp.df _ _ _ byOmega] at h3 h4;exact hxy xs t3 g3 ys t4 g4 q s1 s2 h5 h6 h3 h4
  ·rw[ad e] at hg;have hlt:=(R.fI g st hg).2.1;refine(R.long g st hg).imp_of_mem fun {x y} hx hy hxy=>?_;intro xs t1 g1 ys t2 g2 q s1 s2 h1 h2 h3 h4;have hxn:x≠h.n:=by have:=hlt x hx;omega
   have hyn:y≠h.n:=by have:=hlt y hy;omega
   obtain⟨t3,g3,h5⟩:=bk x xs t1 g1 hxn h1;obtain⟨t4,g4,h6⟩:=bk y ys t2 g2 hyn h2;rw[Mp.df _ _ _ byOmega] at h3 h4;exact hxy xs t3 g3 ys t4 g4 q s1 s2 h5 h6 h3 h4
 ·intro g st x y hg hx hy;rw[v8] at hg;by_cases e:g=f
  ·subst e;rw[ah rfl] at hg;cases hg;intro _;by_cases hyn:y=h.n
   ·subst hyn;rw[Mp.cb];rfl
   ·have hy':y∈k :: below:=by
     rcases dD.1 hy with e|e;·exact absurd e hyn
     ·exact e
    rw[Mp.df _ _ _ byOmega];rcases hst with⟨_,_,rfl,rfl⟩|⟨_,a⟩
    ·rcases dD.1 hy' with rfl|h1
     ·rw[hm];rfl
     ·cases h1
    ·exact R.whole g _ k y a aa (eE.2 (.inr hy')) (by rw[hm];rfl)
  ·rw[ad e] at hg;have hlt:=(R.fI g st hg).2.1;rw[Mp.df _ _ _ (by have:=hlt x hx;omega),Mp.df _ _ _ (by have:=hlt y hy;omega)];exact R.whole g st x y hg hx hy
 ·intro b hb;by_cases e:b=2*h.n
  ·exact⟨h.n,e,ar _,jR _⟩
  ·exact absurd (Mp.df _ _ _ e) hb
 ·intro q hq hno;rcases rD with⟨_,ij⟩|⟨_,_,ij,_⟩
  ·exact ij q hq
  ·exact ij q hq (fun e=>hno k s hkn (e▸hm))
 ·intro j hj hmj;have e:j≠k:=fun e=>by subst e;rw[hm] at hmj;cases hmj
  rw[dM,ad byOmega,ad e,ad ?_];intro hd;have:=R.whole f _ k j (Xc j hd).2 aa (by simp[hd]) (by rw[hm];rfl);rw[hmj] at this;cases this
def ml (P:Program) {α:Type} : ∀(s:Sem α) (a:α),aD P s=some a → ∀w,s.run P w=.ok a w
 | .pure b,a,h,w=>by simp only[aD] at h;cases h;rfl
 | .program k,a,h,w=>by rw[aD] at h;show(k P).run P w=_;exact ml P (k P) a h w
 | .load ..,a,h,w=>by simp[aD] at h
 | .store ..,a,h,w=>by simp[aD] at h
 | .new ..,a,h,w=>by simp[aD] at h
 | .shape ..,a,h,w=>by simp[aD] at h
 | .freeze ..,a,h,w=>by simp[aD] at h
 | .frozen ..,a,h,w=>by simp[aD] at h
 | .getObj ..,a,h,w=>by simp[aD] at h
 | .setObj ..,a,h,w=>by simp[aD] at h
 | .choose ..,a,h,w=>by simp[aD] at h
 | .sys ..,a,h,w=>by simp[aD] at h
 | .mark ..,a,h,w=>by simp[aD] at h
 | .halt ..,a,h,w=>by simp[aD] at h
def kD {P:Program} {s:Sem Value} {v:Value} (h:dO P s=some v):plain v=true ∧ ∀w,s.run P w=.ok v w:=by
 unfold dO at h
 cases hp:aD P s with
 | none=>simp[hp] at h
 | some x =>
  simp only[hp,aK] at h;by_cases hx:plain x=true;·rw[ah hx] at h;cases h;exact⟨hx,ml P s _ hp⟩
  ·rw[ad hx] at h;cases h
section
variable {P:Program} {t:TypeId} (w:World)
def dA {n:Nat} (h:ba P t=some n):(sizeOf t).run P w=.ok n w:=by unfold ba at h;obtain⟨i,hi,e⟩:=bg.1 h;simp[sizeOf,typeInfo,hi,e]
def run_typeInfo {i:TypeInfo} (h:P.info? t=some i):(typeInfo t).run P w=.ok i w:=by simp[typeInfo,h]
def gT {z:Value} (h:u6 P t=some z):(zeroValue t).run P w=.ok z w:=by unfold u6 at h;obtain⟨i,hi,e⟩:=NL.1 h;simp[zeroValue,typeInfo,hi,e]
def ub {b:Bool} (h:bX P t=some b):(isAgg t).run P w=.ok b w:=by unfold bX at h;obtain⟨d,hd,e⟩:=bg.1 h;subst e;cases d<;>simp[isAgg,cq hd]
def fj {zs:List Value} (h:aT P t=some zs) : ∃z,u6 P t=some z∧plain z=true∧zs=z.cells.toList:=by
 unfold aT at h
 cases hz:u6 P t with
 | none=>simp[hz] at h
 | some z =>
  simp only[hz,aK] at h;by_cases hp:plain z=true;·simp only[hp,bS] at h;cases h;exact⟨z,rfl,hp,rfl⟩
  ·simp[hp] at h
end
variable {cs:List Value}{r s:Nat}{m:Mp}{h:IH}{B:Nat}{w w0:World}{b:Nat}
def Rel.row (R:Rel B w0 m h w) (jc:h.row b=some cs) (hm:m b=some (r,s)) :∃c el fz,w.heap[r]?=some (.cells c el fz)∧rK m cs c s:=by
 unfold IH.row at jc;simp only[aK,bD] at jc;by_cases hb:b % 2=1;·rw[ah hb] at jc;obtain⟨r0,s0,hm0,_,c,el,fz,hc,hr⟩:=R.base _ _ jc;rw[show 2*(b / 2)+1=b from by omega,hm] at hm0;cases hm0;exact⟨c,el,fz,hc,hr⟩
 ·rw[ad hb] at jc;cases hg:h.ext.get (b / 2) with
  | none=>simp[hg] at jc
  | some o =>
   rw[hg] at jc;cases o with
   | cells cs' t f =>
    simp only at jc;cases jc;obtain⟨c,el,hc,hr,_⟩:=R.obj (b / 2) _ r s hg (by rw[show 2*(b / 2)=b from by omega];exact hm);exact⟨c,el,_,hc,hr⟩
   | map es=>simp at jc
   | loop l=>simp at jc
   | iter _ _ _ _=>simp at jc
   | num _=>simp at jc
   | dead=>simp at jc
theorem oG (r p i:Nat):Addr.add ⟨r,p,none⟩ i=⟨r,p+i,none⟩:=by unfold Addr.add;by_cases h:i=0<;>simp[h]
variable {o:Nat}
theorem Rel.rd (R:Rel B w0 m h w) {n:Nat} (hrd:h.rd b o n=some cs) (hm:m b=some (r,s)) :∃cs',cg m cs cs'∧cs.length=n ∧ ∀j v,cs'[j]?=some v→w.cell? (Addr.add ⟨r,s+o,none⟩ j)=some v:=by
 unfold IH.rd at hrd;cases hr:h.row b with
 | none=>simp[hr] at hrd
 | some row =>
  simp only[hr,aK,bI] at hrd;by_cases hle:o+n≤row.length
  ·rw[ah hle] at hrd;cases hrd;obtain⟨c,el,fz,hc,jc⟩:=R.row hr hm;have h1:=jc.1;refine⟨(c.toList.drop (s+o)).take n,⟨bq,fun i v v' hv hv'=>?_⟩,bq,fun j v hv=>?_⟩
   ·rw[iU] at hv hv';by_cases hi:i<n
    ·simp only[hi,bS,kj] at hv hv';obtain⟨v'',a,b'⟩:=jc.2 _ _ hv;rw[←jS] at a;simp only[oS] at hv';rw[hv'] at a;cases a;exact b'
    ·simp[hi] at hv
   ·rw[iU] at hv;by_cases hi:j<n
    ·simp only[hi,bS,kj,oS] at hv;rw[oG];simp[World.cell?,hc,hv]
    ·simp[hi] at hv
  ·simp[hle] at hrd
variable {t:TypeId}{P:Program}{v a' a:Value}
theorem Rel.load (R:Rel B w0 m h w) (hl:load P h t a=some v) (ha:aW m a a') :∃v',(Instr.loadAt t a').run P w=.ok v' w∧aW m v v':=by
 unfold Id.load at hl;cases hA:asAddr a with
 | none=>simp[hA] at hl
 | some bo =>
  obtain⟨b,o⟩:=bo;have hp:a=.pointer (some ⟨b,o,none⟩):=by unfold asAddr at hA;split at hA<;>simp_all
  subst hp;obtain⟨r,s,hm,rfl⟩:=ha.nV;cases hG:bX P t with
  | none=>simp[hA,hG] at hl
  | some g =>
   cases g with
   | true =>
    cases hS:ba P t with
    | none=>simp[hA,hG,hS] at hl
    | some n =>
     simp only[hA,hG,hS] at hl;obtain⟨cs,hrd,rfl⟩:=bg.1 hl;obtain⟨cs',hL,hn,hc⟩:=R.rd hrd hm;refine⟨.agg cs'.toArray,?_,aW.oo (by simpa using hL)⟩;have hlen:n=cs'.length:=by rw[←hn];exact hL.1
     simp only[Instr.loadAt,Instr.sureAddr,loadVar,bt,bT,bQ,ub w hG,dA w hS,bS];rw[hlen,run_loadCells_list w _ cs' hc];rfl
   | false =>
    simp only[hA,hG] at hl;obtain⟨cs,hrd,hv⟩:=NL.1 hl;obtain⟨cs',hL,hn,hc⟩:=R.rd hrd hm;have hv0:cs[0]?=some v:=by rw[←List.head?_eq_getElem?];exact hv
    obtain⟨v',hv',hR⟩:=hL.get hv0;have:=hc 0 v' hv';refine⟨v',?_,hR⟩;simp only[Instr.loadAt,Instr.sureAddr,loadVar,bt,bT,bQ,ub w hG];rw[oG,fR] at this;simp[this]
def Yields (n:Next) (v:Value):Prop:=n=.value v∨(n=.skip∧v=undef)
def NB (B:Nat) (w0:World) (m:Mp) (h:IH) (w:World) (run:Result Next) (v:Value) (h':IH):Prop :=
 ∃nx v' m' w',run=.ok nx w'∧Yields nx v'∧aW m' v v'∧Rel B w0 m' h' w'∧Step m h w m' h' w'
variable {v':Value}
def NB.quiet (R:Rel B w0 m h w) {run:Result Next} (hr:run=.ok (.value v') w) (hv:aW m v v') :NB B w0 m h w run v h:=⟨_,v',m,w,hr,.inl rfl,hv,R,Step.refl m h w⟩
variable {h':IH}
theorem Rel.wr (R:Rel B w0 m h w) {vs vs':List Value} (hw:h.wr b o vs=some h') (hm:m b=some (r,s)) (hv:cg m vs vs')(hok : ∀v∈vs,aM v=true) (P:Program) :∃w',(storeCells ⟨r,s+o,none⟩ vs').run P w=.ok () w'∧Rel B w0 m h' w'∧Step m h w m h' w':=by
 unfold IH.wr at hw;simp only[aK,bD] at hw;by_cases hb:b % 2=1;·simp[hb] at hw
 ·rw[ad hb] at hw;cases hg:h.ext.get (b / 2) with
  | none=>simp[hg] at hw
  | some x =>
   rw[hg] at hw;cases x with
   | map es=>simp at hw
   | loop l=>simp at hw
   | iter _ _ _ _=>simp at hw
   | num _=>simp at hw
   | dead=>simp at hw
   | cells cs t fam =>
    simp only[bI] at hw;by_cases hle:o+vs.length≤cs.length
    ·rw[ah hle] at hw;have hmb:m (2*(b / 2))=some (r,s):=by rw[show 2*(b / 2)=b from by omega];exact hm
     obtain⟨c,el,hc,jc,_⟩:=R.obj (b / 2) _ r s hg hmb;have Zdv : ∀v∈vs',aM v=true:=by intro v' hv';obtain⟨i,hi,e⟩:=List.getElem_of_mem hv';have hi':i<vs.length:=hv.1▸hi;exact Ie (hv.2 i vs[i] v' (bK hi') (by rw[bK hi,e])) (hok _ (iE hi'))
     have cu:=qc P r (s+o) el vs' 0 w c hc (by have:=jc.1;have:=hv.1;omega) Zdv;have ZbQ:=jc.aI hle hv;rw[fR] at cu
     have mL : ∀d:Array Value,d=kT c (s+o) vs'→vs' = []→World.put w r (.cells d el)=w:=by
      intro d hd he;subst he;subst hd;unfold World.put;have hr:r<w.heap.size:=(kZ.1 hc).1;have e:=(kZ.1 hc).2;congr 1;apply Array.ext_getElem?;intro i;rw[II];by_cases hi:r=i;·subst hi;simp[hr,e]
      ·simp[hi]
     have Pq:(if vs' = [] then w else World.put w r (.cells (kT c (s+o) vs') el))=World.put w r (.cells (kT c (s+o) vs') el):=by
      by_cases he:vs' = [];·rw[ah he,mL _ rfl he]
      ·rw[ad he]
     rw[Pq] at cu;cases fam with
     | none =>
      simp only at hw;cases hw;obtain⟨a,b'⟩:=R.write hg hmb hc ZbQ (se cs o vs hle) (lZ _ _ _) none (.inr rfl) [] rfl;exact⟨_,cu,a,b'⟩
     | some f =>
      cases hf:h.cZ.get f with
      | none=>simp[hf] at hw
      | some st =>
       simp only[hf] at hw;cases hw;obtain⟨a,b'⟩:=R.write hg hmb hc ZbQ (se cs o vs hle) (lZ _ _ _) none (.inr rfl) (st.filter (· != b / 2)) ⟨st,hf,rfl⟩;exact⟨_,cu,a,b'⟩
    ·simp[hle] at hw
theorem Fq (h:aW m v v'):v'.cells.size=v.cells.size:=by have:=h.cells.1;simpa using this.symm
theorem Rel.store (R:Rel B w0 m h w) (hs:store P h t a v=some h') (ha:aW m a a') (hv:aW m v v') :∃w',(Instr.storeAt t a' v').run P w=.ok () w'∧Rel B w0 m h' w'∧Step m h w m h' w':=by
 unfold Id.store at hs;cases hA:asAddr a with
 | none=>simp[hA] at hs
 | some bo =>
  obtain⟨b,o⟩:=bo;have hp:a=.pointer (some ⟨b,o,none⟩):=by unfold asAddr at hA;split at hA<;>simp_all
  subst hp
  obtain⟨r,s,hm,rfl⟩:=ha.nV
  cases hS:ba P t with
  | none=>simp[hA,hS] at hs
  | some n =>
   simp only[hA,hS,aK] at hs;by_cases hc:(v.cells.size == n && v.cells.toList.all aM)=true;·rw[ah hc] at hs;simp only[eV,bD,gG] at hc;obtain⟨w',h1,h2,h3⟩:=R.wr hs hm hv.cells (fun x hx=>hc.2 x hx) P;refine⟨w',?_,h2,h3⟩;simp only[Instr.storeAt,Instr.sureAddr,storeVar,bt,bT,bQ,dA w hS];rw[ad (by rw[Fq hv];simp[hc.1])];simp[h1]
   ·rw[ad hc] at hs;cases hs
def Rel.newRow (R:Rel B w0 m h w) (hm:m (2*h.n)=none) {cs':List Value} (hv:cg m cs cs') (e:Nat) (t:TypeId) :Rel B w0 (m.upd (2*h.n) (w.heap.size,0) (e,0)) (h.new (.cells cs e none)) (w.alloc (.cells cs'.toArray t)) ∧ Step m h w (m.upd (2*h.n) (w.heap.size,0) (e,0)) (h.new (.cells cs e none)) (w.alloc (.cells cs'.toArray t)):=by refine R.new _ _ (e,0) hm ⟨cs'.toArray,t,by rw[heap_alloc,ah rfl],⟨by simp[hv.1],fun i v hi=>?_⟩,rfl,dT _⟩ rfl;obtain⟨v',a,b⟩:=hv.get hi;exact⟨v',by simpa using a,b⟩
end Go.Id

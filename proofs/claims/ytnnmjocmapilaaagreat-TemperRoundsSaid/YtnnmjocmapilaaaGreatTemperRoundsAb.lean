/-
  The ideal machine: laws of its heap, and what each change of memory does to the relation w
-/
import Derived.Test.YtnnmjocmapilaaaGreatTemperRoundsAa
set_option linter.unusedVariables false
set_option linter.unusedSimpArgs false
set_option linter.defProp false
set_option linter.deprecated false
namespace Go.Id
open Go Go.RowKit
namespace Tr
variable {α:Type}
def uX (k:Nat):(leaf:Tr α).get k=none:=rfl
def qq (l r:Tr α) (v:Option α) (k:Nat):(node l v r).get k=if k=0 then v else if k % 2=1 then l.get (k / 2) else r.get ((k - 1) / 2):=by simp only[get,aX,bT]
theorem Hs : ∀(f n:Nat) (x:α) (k:Nat),n≤f→(one f n x).get k=if k=n then some x else none
 | 0,n,x,k,h=>by obtain rfl:n=0:=aa;simp only[one,qq,uX];by_cases hk:k=0<;>simp[hk]
 | f+1,n,x,k,h=>by
  simp only[one,aX,bT];by_cases hn:n=0;·subst hn;simp only[cq,qq,uX];by_cases hk:k=0<;>simp[hk]
  ·by_cases ho:n % 2=1
   ·simp only[hn,ho,cq,cE,qq,uX];by_cases hk:k=0
    ·subst hk;simp;omega
    ·by_cases hk1:k % 2=1
     ·simp only[hk,hk1,cq,cE];rw[Hs f (n / 2) x (k / 2) aa];by_cases e:k / 2=n / 2
      ·rw[aq e,aq aa]
      ·rw[ah e,ah aa]
     ·simp only[hk,hk1,cE];rw[ah aa]
   ·simp only[hn,ho,cE,qq,uX];by_cases hk:k=0
    ·subst hk;simp;omega
    ·by_cases hk1:k % 2=1
     ·simp only[hk,hk1,cq,cE];rw[ah aa]
     ·simp only[hk,hk1,cE];rw[Hs f ((n - 1) / 2) x ((k - 1) / 2) aa];by_cases e:(k - 1) / 2=(n - 1) / 2
      ·rw[aq e,aq aa]
      ·rw[ah e,ah aa]
theorem cD : ∀(t:Tr α) (n:Nat) (x:α) (k:Nat),(t.set n x).get k=if k=n then some x else t.get k
 | .leaf,n,x,k=>by simp only[set,Hs n n x k (aA n),uX]
 | .node l v r,n,x,k=>by
  simp only[set,aX,bT];by_cases hn:n=0;·subst hn;simp only[cq,qq];by_cases hk:k=0<;>simp[hk]
  ·by_cases ho:n % 2=1
   ·simp only[hn,ho,cq,cE,qq];by_cases hk:k=0
    ·subst hk;simp only[cq];rw[ah aa]
    ·by_cases hk1:k % 2=1
     ·simp only[hk,hk1,cq,cE];rw[cD l (n / 2) x (k / 2)];by_cases e:k / 2=n / 2
      ·rw[aq e,aq aa]
      ·rw[ah e,ah aa]
     ·simp only[hk,hk1,cE];rw[ah aa]
   ·simp only[hn,ho,cE,qq];by_cases hk:k=0
    ·subst hk;simp only[cq];rw[ah aa]
    ·by_cases hk1:k % 2=1
     ·simp only[hk,hk1,cq,cE];rw[ah aa]
     ·simp only[hk,hk1,cE];rw[cD r ((n - 1) / 2) x ((k - 1) / 2)];by_cases e:(k - 1) / 2=(n - 1) / 2
      ·rw[aq e,aq aa]
      ·rw[ah e,ah aa]
end Tr
theorem kP : ∀(l:List Nat) (e:Tr cX) (k:Nat),(IH.gC e l).get k=if k∈l then some .dead else e.get k
 | [],e,k=>by simp[IH.gC]
 | a :: l,e,k=>by
  rw[IH.gC,kP l _ k,Tr.cD];by_cases h1:k∈l;·simp[h1]
  ·by_cases h2:k=a
   ·simp[h2]
   ·simp[h1,h2]
theorem heap_alloc (w:World) (o:Obj) (r:Nat):(w.alloc o).heap[r]?=if r=w.heap.size then some o else w.heap[r]?:=by show(w.heap.push o)[r]?=_;rw[Array.getElem?_push]
theorem size_alloc (w:World) (o:Obj):(w.alloc o).heap.size=w.heap.size+1:=by show(w.heap.push o).size=_;simp
variable {z:Nat×Nat}{m:Mp}{o:cX}{w:World}{s r:Nat}
def mo.mono {m':Mp} {w':World} {z':Nat×Nat} (hm:m.le m') (hw:w'.heap[r]?=w.heap[r]?) (hz:z'=z) (h:mo m w r s z o):mo m' w' r s z' o:=by
 subst hz;cases o with
 | cells cs t f =>
  obtain⟨c,el,a,⟨b,d⟩,e⟩:=h;exact⟨c,el,hw.trans a,⟨b,fun i v hv=>let ⟨v',x,y⟩:=d i v hv;⟨v',x,y.mono hm⟩⟩,e⟩
 | map es =>
  obtain⟨h0,c,a,b,d⟩:=h;exact⟨h0,c,hw.trans a,b,fun i e e' x y=>let ⟨⟨p,q,z⟩,t⟩:=d i e e' x y;⟨⟨p,q,z.mono hm⟩,t⟩⟩
 | loop l =>
  obtain⟨h0,l',a,b⟩:=h;exact⟨h0,l',hw.trans a,⟨b.state,b.pending,b.fn,fun t v hv=>let ⟨v',x,y⟩:=b.tmps t v hv;⟨v',x,y.mono hm⟩,b.nt,b.params,b.assign,b.body⟩⟩
 | iter k since seen last =>
  obtain⟨h0,rm,a,b⟩:=h;exact⟨h0,rm,hw.trans a,(hm _ _ b).1⟩
 | num x=>exact h.imp id fun⟨c,el,a,b,d⟩=>⟨c,el,hw.trans a,b,fun i v hv=>let ⟨v',x,y⟩:=d i v hv;⟨v',x,y.mono hm⟩⟩
 | dead=>trivial
def Mp.upd (m:Mp) (b:Nat) (x z:Nat×Nat):Mp:=⟨fun b'=>if b'=b then some x else m b',fun b'=>if b'=b then z else m.ez b'⟩
variable {b:Nat}
def Mp.Dl {x:Nat×Nat} (h:m b=none):m.le (m.upd b x z):=by
 intro b' y hy;unfold Mp.upd;by_cases e:b'=b;·subst e;rw[h] at hy;cases hy
 ·simp[e,hy]
theorem Mp.cw (m:Mp) (b:Nat) (x z:Nat×Nat):m.upd b x z b=some x:=by simp[Mp.upd]
variable {b':Nat}
theorem Mp.dH (m:Mp) (x z:Nat×Nat) (h:b'≠b):m.upd b x z b'=m b':=by simp[Mp.upd,h]
theorem Mp.pK (m:Mp) (b:Nat) (x z:Nat×Nat):(m.upd b x z).ez b=z:=by simp[Mp.upd]
def Mp.Sh (m:Mp) (x z:Nat×Nat) (h:b'≠b):(m.upd b x z).ez b'=m.ez b':=by simp[Mp.upd,h]
def cX.lone:cX→Bool
 | .cells _ _ (some _)=>false
 | _=>true
variable {w0:World}{B:Nat}
def qT (h:Below B w0 w) (hs:B≤w.heap.size) (o:Obj):Below B w0 (w.alloc o) :=
 h.alloc hs o
variable {h:IH}{k:Nat}
def Nv (hd:h.ext.get h.n=none) {k':Nat} (hk:Kin h k k'):Kin (h.new o) k k':=by
 obtain⟨cs,t,cs',t',f,st,a,b,c,d,e⟩:=hk;have h1:k≠h.n:=by intro e;rw[e,hd] at a;cases a
 have h2:k'≠h.n:=by intro e;rw[e,hd] at b;cases b
 exact⟨cs,t,cs',t',f,st,by simp[IH.new,Tr.cD,h1,a],by simp[IH.new,Tr.cD,h2,b],c,d,e⟩
def Rel.new (R:Rel B w0 m h w) (o:cX) (o':Obj) (z:Nat×Nat) (hm:m (2*h.n)=none)(ho:mo m (w.alloc o') w.heap.size 0 z o) (hl:o.lone=true) :Rel B w0 (m.upd (2*h.n) (w.heap.size,0) z) (h.new o) (w.alloc o')∧Step m h w (m.upd (2*h.n) (w.heap.size,0) z) (h.new o) (w.alloc o'):=by
 have hle:m.le (m.upd (2*h.n) (w.heap.size,0) z):=Mp.Dl hm;have hold : ∀r,r<w.heap.size→(w.alloc o').heap[r]?=w.heap[r]?:=fun r hr=>by rw[heap_alloc,ah aa]
 have eg : ∀k,(h.new o).ext.get k=if k=h.n then some o else h.ext.get k:=fun k=>Tr.cD _ _ _ _;have hdn:=R.dom h.n (aA _);refine⟨⟨qT R.below R.size o',by rw[size_alloc];have:=R.size;omega,?_,?_,?_,?_,?_,?_,?_,?_,?_,?_⟩,⟨hle,?_,jh _,rfl,fun r hr _=>hold r hr,?_,by rw[size_alloc];omega,fun k r s hk1 hk2 hk=>by
  obtain rfl:k=h.n:=by have:(h.new o).n=h.n+1:=rfl;omega
  rw[Mp.cw] at hk;cases hk;exact .inl (aA _),fun _ _ _ h=>h⟩⟩
 ·intro b cs hb;obtain⟨r0,s0,hm0,hb1,c,el,fz,hc,hr⟩:=R.base b cs hb;refine⟨r0,s0,by rw[Mp.dH _ _ _ aa];exact hm0,hb1,c,el,fz,?_,hr.1,fun i v hv=>let ⟨v',x,y⟩:=hr.2 i v hv;⟨v',x,y.mono hle⟩⟩;rw[hold r0 (by have:=R.size;omega),hc]
 ·intro b hb;rw[Mp.dH _ _ _ aa];exact R.odd b hb
 ·intro k r s hk;rw[size_alloc];by_cases e:k=h.n
  ·subst e;rw[Mp.cw] at hk;cases hk;exact⟨R.size,aa⟩
  ·rw[Mp.dH _ _ _ aa] at hk;have:=R.even k r s hk;omega
 ·intro k hk;rw[eg,ah (by have:(h.new o).n=h.n+1:=rfl;omega)];exact R.dom k (by have:(h.new o).n=h.n+1:=rfl;omega)
 ·intro k x r s hk hr;rw[eg] at hk;by_cases e:k=h.n
  ·subst e;rw[aq rfl] at hk;cases hk;rw[Mp.cw] at hr;cases hr;exact ho.mono hle rfl (Mp.pK _ _ _ _)
  ·rw[ah e] at hk;rw[Mp.dH _ _ _ aa] at hr;exact(R.obj k x r s hk hr).mono hle (hold r (R.even k r s hr).2) (Mp.Sh _ _ _ aa)
 ·intro k k' x x' r s s' hne hk hk' ha ha' hr hr';rw[eg] at hk hk';by_cases e:k=h.n
  ·subst e;rw[Mp.cw] at hr;cases hr;rw[Mp.dH _ _ _ aa] at hr';have:=R.even _ _ _ hr';omega
  ·by_cases e':k'=h.n
   ·subst e';rw[Mp.cw] at hr';cases hr';rw[Mp.dH _ _ _ aa] at hr;have:=R.even _ _ _ hr;omega
   ·rw[ah e] at hk;rw[ah e'] at hk';rw[Mp.dH _ _ _ aa] at hr hr';exact(R.own k k' x x' r s s' hne hk hk' ha ha' hr hr').imp (Nv hdn) id
 ·intro f st hf;obtain⟨a,b,c⟩:=R.iJ f st hf;exact⟨qU a,fun x hx=>qU (b x hx),c⟩
 ·intro k cs t f hk;rw[eg] at hk;by_cases e:k=h.n
  ·rw[aq e] at hk;cases hk;simp[cX.lone] at hl
  ·rw[ah e] at hk;exact R.fam k cs t f hk
 ·intro f st hf;have hlt:=(R.iJ f st hf).2.1;refine(R.long f st hf).imp_of_mem fun {x y} hx hy hxy=>?_;have ex:x≠h.n:=by have:=hlt x hx;omega
  have ey:y≠h.n:=by have:=hlt y hy;omega
  intro cs t g cs' t' g' r s s' h1 h2 h3 h4;rw[eg,ah ex] at h1;rw[eg,ah ey] at h2;rw[Mp.dH _ _ _ aa] at h3 h4;exact hxy cs t g cs' t' g' r s s' h1 h2 h3 h4
 ·intro f st x y hf hx hy;have hlt:=(R.iJ f st hf).2.1;rw[Mp.dH _ _ _ (by have:=hlt x hx;omega),Mp.dH _ _ _ (by have:=hlt y hy;omega)];exact R.whole f st x y hf hx hy
 ·intro b hb;by_cases e:b=2*h.n
  ·exact⟨h.n,e,aA _,lj _⟩
  ·exact absurd (Mp.dH _ _ _ e) hb
 ·intro k hk _;rw[eg,ah aa]
def World.put (w:World) (r:Nat) (o:Obj):World:={ w with heap:=w.heap.setIfInBounds r o }
theorem oN (w:World) (r:Nat) (o:Obj) (r':Nat):(World.put w r o).heap[r']?=if r'=r∧r<w.heap.size then some o else w.heap[r']?:=by
 show(w.heap.setIfInBounds r o)[r']?=_;rw[Gz];by_cases h:r'=r;·subst h;by_cases hr:r'<w.heap.size<;>simp[hr]
 ·rw[ah (fun e=>h e.symm),ah (fun e=>h e.1)]
theorem mV (w:World) (r:Nat) (o:Obj):(World.put w r o).heap.size=w.heap.size:=by show(w.heap.setIfInBounds r o).size=_;simp
def vV (h:Below B w0 w) (hr:B≤r) (o:Obj):Below B w0 (World.put w r o) :=
 ⟨h.os,h.tape,h.output,by rw[mV];exact h.size,fun k hk=>by rw[oN,ah aa];exact h.block k hk⟩
def lf (c:Array Value) (q:Nat):List Value→Array Value
 | []=>c
 | v :: vs=>lf (c.setIfInBounds q v) (q+1) vs
theorem me : ∀(vs:List Value) (c:Array Value) (q:Nat),(lf c q vs).size=c.size
 | [],c,q=>rfl
 | v :: vs,c,q=>by rw[lf,me vs,Kk]
theorem rY : ∀(vs:List Value) (c:Array Value) (q j:Nat),q+vs.length≤c.size→(lf c q vs)[j]?=if q≤j∧j<q+vs.length then vs[j - q]? else c[j]?
 | [],c,q,j,h=>by simp only[lf,List.length_nil];rw[ah aa]
 | v :: vs,c,q,j,h=>by
  simp only[nL] at h;rw[lf,rY vs _ _ _ (by rw[Kk];omega),Gz];by_cases h1:j=q;·subst h1;rw[ah aa,aq rfl,aq aa,aq ab];simp
  ·by_cases h2:q+1≤j∧j<q+1+vs.length
   ·rw[aq h2,aq (by simp only[nL];omega)];rw[show j - q=(j - (q+1))+1 from by omega,Kg]
   ·rw[ah h2,ah (fun e=>h1 e.symm),ah (by simp only[nL];omega)]
theorem rB (cs:List Value) (o:Nat) (vs:List Value) (h:o+vs.length≤cs.length):(IH.bf cs o vs).length=cs.length:=by simp[IH.bf];omega
theorem Dy (cs:List Value) (o:Nat) (vs:List Value) (h:o+vs.length≤cs.length) (j:Nat) :(IH.bf cs o vs)[j]?=if o≤j∧j<o+vs.length then vs[j - o]? else cs[j]?:=by
 unfold IH.bf;by_cases h1:j<o;·rw[ef aT,List.getElem?_take_of_lt h1,ah aa]
 ·rw[gI aT];have e:(cs.take o).length=o:=aT;rw[e];by_cases h2:j<o+vs.length
  ·rw[ef aa,aq aa]
  ·rw[gI aa,ah aa,kh];congr 1;omega
variable {cs:List Value}{c:Array Value}
def wU.bf {o:Nat} {vs vs':List Value} (h:wU m cs c s) (ho:o+vs.length≤cs.length) (hv:dv m vs vs') :
  wU m (IH.bf cs o vs) (lf c (s+o) vs') s:=by
 have hl:=hv.1;refine⟨by rw[rB cs o vs ho,me];exact h.1,fun i v hi=>?_⟩;rw[Dy cs o vs ho] at hi;rw[rY vs' c _ _ (by have:=h.1;omega)];by_cases h1:o≤i∧i<o+vs.length;·rw[aq h1] at hi;rw[aq aa];rw[show s+i - (s+o)=i - o from by omega];obtain⟨v',a,b⟩:=hv.get hi;exact⟨v',a,b⟩
 ·rw[ah h1] at hi;rw[ah aa]
  exact h.2 i v hi
def FZ {v v':Value} (h:bz m v v') (hv:bB v=true):bB v'=true:=by cases h<;>simp_all [bB]
theorem IC (w:World) (r q:Nat) (v:Value) (c:Array Value) (el:TypeId) (h:w.heap[r]?=some (.cells c el)) :
  w.setCell ⟨r,q,none⟩ v=World.put w r (.cells (c.setIfInBounds q v) el):=by
 have hr:r<w.heap.size:=(md.1 h).1;unfold Go.World.setCell World.put;congr 1;apply Array.ext_getElem?;intro i;rw[Array.getElem?_modify,Gz];by_cases hi:r=i;·subst hi;have e:=(md.1 h).2;simp[hr,e]
 ·simp[hi]
theorem T6 (w:World) (r:Nat) (a b:Obj):World.put (World.put w r a) r b=World.put w r b:=by unfold World.put;simp
def qe (P:Program) (r p:Nat) (el:TypeId) : ∀(vs:List Value) (i:Nat) (w:World) (c:Array Value),w.heap[r]?=some (.cells c el) →
  p+i+vs.length≤c.size→(∀v∈vs,bB v=true)→(storeCells ⟨r,p,none⟩ vs i).run P w=.ok () (if vs = [] then w else World.put w r (.cells (lf c (p+i) vs) el))
 | [],i,w,c,h,hl,hv=>by simp[storeCells,pure]
 | v :: vs,i,w,c,h,hl,hv=>by
  have hr:r<w.heap.size:=(md.1 h).1;simp only[nL] at hl;have ZH:w.cell? (Addr.add ⟨r,p,none⟩ i)=some (c[p+i]' aa):=by
   have:(Addr.add ⟨r,p,none⟩ i).block=r∧(Addr.add ⟨r,p,none⟩ i).off=p+i∧(Addr.add ⟨r,p,none⟩ i).spot=none:=by unfold Addr.add;by_cases h0:i=0<;>simp[h0]
   obtain⟨a,b,d⟩:=this;simp[World.cell?,a,b,d,h]
  have UI:Addr.add ⟨r,p,none⟩ i=⟨r,p+i,none⟩:=by unfold Addr.add;by_cases h0:i=0<;>simp[h0]
  have hfz:w.frozen? (Addr.add ⟨r,p,none⟩ i)=false:=by rw[UI];simp[World.frozen?,h]
  have h1:=hv v ab;have mY:(World.put w r (.cells (c.setIfInBounds (p+i) v) el)).heap[r]?=some (.cells (c.setIfInBounds (p+i) v) el):=by rw[oN,aq ⟨rfl,hr⟩]
  have ih:=qe P r p el vs (i+1) (World.put w r (.cells (c.setIfInBounds (p+i) v) el)) (c.setIfInBounds (p+i) v) mY (by rw[Kk];omega) (fun x hx=>hv x (by simp[hx]));have W6:(storeCells ⟨r,p,none⟩ (v :: vs) i).run P w=(storeCells ⟨r,p,none⟩ vs (i+1)).run P (w.setCell (Addr.add ⟨r,p,none⟩ i) v):=by
   cases v<;>first
    | (simp[bB] at h1;done)
    | (simp only[storeCells,Go.store,bind,Sem.bind,Sem.run,ZH,hfz];rfl)
  rw[W6,UI,IC w r (p+i) v c el h,ih];simp only[reduceCtorEq,cE];rw[lf];by_cases hvs:vs = [];·subst hvs;simp[lf]
  ·rw[ah hvs,T6,show p+(i+1)=p+i+1 from by omega]
def Rel.write (R:Rel B w0 m h w) {t:Nat} {fam:Option Nat} {el:TypeId} {cs':List Value} {c':Array Value}(hk:h.ext.get k=some (.cells cs t fam)) (hm:m (2*k)=some (r,s)) (hr:w.heap[r]?=some (.cells c el)) (gO:wU m cs' c' s) (hlen:cs'.length=cs.length) (hsz:c'.size=c.size)(y5:Option Nat) (ZB:y5=fam∨y5=none) (dead:List Nat) (Dw:match fam with|none=>dead = []|some f => ∃st,h.eP.get f=some st∧dead=st.filter (· != k)) :Rel B w0 m { h with ext:=(IH.gC h.ext dead).set k (.cells cs' t y5) } (World.put w r (.cells c' el)) ∧ Step m h w m { h with ext:=(IH.gC h.ext dead).set k (.cells cs' t y5) } (World.put w r (.cells c' el)):=by
 have hrs:=R.even k r s hm
 have hkn:k<h.n:=by
  rcases dr k h.n with e|e;·exact e
  ·have:=R.dom k e;rw[this] at hk;cases hk
 have eg : ∀j,((IH.gC h.ext dead).set k (.cells cs' t y5)).get j=if j=k then some (.cells cs' t y5) else if j∈dead then some .dead else h.ext.get j:=fun j=>by rw[Tr.cD,kP]
 have hdk:k∉dead:=by
  cases fam with
  | none=>simp at Dw;simp[Dw]
  | some f=>obtain⟨st,_,e⟩:=Dw;simp[e]
 have hdd : ∀j,j∈dead → ∃f st,fam=some f∧h.eP.get f=some st∧j∈st:=fun j hj=>by
  cases fam with
  | none=>simp at Dw;simp[Dw] at hj
  | some f=>obtain⟨st,a,e⟩:=Dw;exact⟨f,st,rfl,a,by rw[e] at hj;exact(qY.1 hj).1⟩
 have iH : ∀j o s',j≠k→h.ext.get j=some o→o.alive=true→m (2*j)=some (r,s')→j∈dead:=by
  intro j o s' hj ho ha hmj;obtain⟨_,_,_,_,f,st,a,b,d,e1,e2⟩:=(R.own j k o _ r s' s hj ho hk ha rfl hmj hm).resolve_right fun e=>by cases e.2
  rw[hk] at b;cases b;obtain⟨st',d',e'⟩:=Dw;rw[d] at d';cases d';rw[e'];exact qY.2 ⟨e1,by simpa using hj⟩
 have hold : ∀r',r'≠r→(World.put w r (.cells c' el)).heap[r']?=w.heap[r']?:=fun r' h'=>by rw[oN,ah (fun e=>h' e.1)]
 have Bv:(World.put w r (.cells c' el)).heap[r]?=some (.cells c' el):=by rw[oN,aq ⟨rfl,hrs.2⟩]
 refine⟨⟨vV R.below hrs.1 _,by rw[mV];exact R.size,?_,R.odd,fun j r' s' hj=>by rw[mV];exact R.even j r' s' hj,?_,?_,?_,R.iJ,?_,?_,R.whole⟩,⟨Mp.le_refl m,fun b e=>absurd rfl e,aA _,rfl,?_,?_,by rw[mV];exact aA _,fun k r s a b=>by have:k<h.n:=b;omega,fun _ _ _ h=>h⟩⟩;·intro b bs hb;obtain⟨r0,s0,hm0,hb1,c1,el1,fz,hc,hrw⟩:=R.base b bs hb;exact⟨r0,s0,hm0,hb1,c1,el1,fz,by rw[hold r0 aa];exact hc,hrw⟩
 ·intro j hj;have hj':h.n≤j:=hj;show((IH.gC h.ext dead).set k (.cells cs' t y5)).get j=none;rw[eg,ah aa];by_cases hd:j∈dead
  ·obtain⟨f,st,_,a,e⟩:=hdd j hd;have:=(R.iJ f st a).2.1 j e;omega
  ·rw[ah hd];exact R.dom j hj'
 ·intro j o r' s' ho hj;have ho':(if j=k then some (cX.cells cs' t y5) else if j∈dead then some .dead else h.ext.get j)=some o:=by rw[←eg];exact ho
  by_cases e:j=k;·subst e;rw[aq rfl] at ho';cases ho';rw[hm] at hj;cases hj;obtain⟨c2,el2,hc2,_,hz1,hz2⟩:=R.obj j _ r s hk hm;rw[hr] at hc2;cases hc2;exact⟨c',el,Bv,gO,hz1,by rw[hsz];exact hz2⟩
  ·rw[ah e] at ho';by_cases hd:j∈dead
   ·rw[aq hd] at ho';cases ho';trivial
   ·rw[ah hd] at ho';by_cases hr':r'=r
    ·subst hr';cases o with
     | dead=>trivial
     | _=>exact absurd (iH j _ s' e ho' rfl hj) hd
    ·exact(R.obj j o r' s' ho' hj).mono (Mp.le_refl m) (hold r' hr') rfl
 ·intro j j' o o' r' s1 s2 hne ho ho' ha ha' hj hj';have e1:(if j=k then some (cX.cells cs' t y5) else if j∈dead then some .dead else h.ext.get j)=some o:=by rw[←eg];exact ho
  have e2:(if j'=k then some (cX.cells cs' t y5) else if j'∈dead then some .dead else h.ext.get j')=some o':=by rw[←eg];exact ho'
  have nd : ∀{i:Nat} {x:cX},i≠k→(if i=k then some (cX.cells cs' t y5) else if i∈dead then some .dead else h.ext.get i)=some x→x.alive=true→i∉dead∧h.ext.get i=some x:=by
   intro i x hi hx hxa;rw[ah hi] at hx;by_cases hd:i∈dead;·rw[aq hd] at hx;cases hx;simp[cX.alive] at hxa
   ·rw[ah hd] at hx;exact⟨hd,hx⟩
  by_cases c1:j=k;·subst c1;rw[hm] at hj;cases hj;obtain⟨hd,hx⟩:=nd (fun e=>hne e.symm) e2 ha';exact absurd (iH j' o' s2 (fun e=>hne e.symm) hx ha' hj') hd
  ·obtain⟨hd,hx⟩:=nd c1 e1 ha;by_cases c2:j'=k
   ·subst c2;rw[hm] at hj';cases hj';exact absurd (iH j o s1 c1 hx ha hj) hd
   ·obtain⟨hd',hx'⟩:=nd c2 e2 ha';refine(R.own j j' o o' r' s1 s2 hne hx hx' ha ha' hj hj').imp (fun⟨a1,a2,a3,a4,f,st,b1,b2,b3,b4,b5⟩=>?_) id;exact⟨a1,a2,a3,a4,f,st,by rw[eg,ah c1,ah hd];exact b1,by rw[eg,ah c2,ah hd'];exact b2,b3,b4,b5⟩
 ·intro j js t' f hj;have hj':(if j=k then some (cX.cells cs' t y5) else if j∈dead then some .dead else h.ext.get j)=some (.cells js t' (some f)):=by rw[←eg];exact hj
  by_cases e:j=k
  ·subst e;rw[aq rfl] at hj';cases hj';rcases ZB with e|e
   ·subst e;exact R.fam j cs t f hk
   ·cases e
  ·rw[ah e] at hj';by_cases hd:j∈dead
   ·rw[aq hd] at hj';cases hj'
   ·rw[ah hd] at hj';exact R.fam j js t' f hj'
 ·intro f st hf;refine(R.long f st hf).imp fun {x y} hxy=>?_;have back : ∀(i:Nat) (js:List Value) (t0:Nat) (g:Option Nat),((IH.gC h.ext dead).set k (.cells cs' t y5)).get i=some (.cells js t0 g) → ∃js' t' g',h.ext.get i=some (.cells js' t' g')∧js'.length=js.length:=by
   intro i js t' g hi;rw[eg] at hi;by_cases e:i=k;·subst e;rw[aq rfl] at hi;cases hi;exact⟨_,_,_,hk,hlen.symm⟩
   ·rw[ah e] at hi;by_cases hd:i∈dead
    ·rw[aq hd] at hi;cases hi
    ·rw[ah hd] at hi;exact⟨_,_,_,hi,rfl⟩
  intro xs t1 g1 ys t2 g2 r' s1 s2 h1 h2 h3 h4;obtain⟨xs',t3,g3,b1,b2⟩:=back x xs t1 g1 h1;obtain⟨ys',t4,g4,b3,b4⟩:=back y ys t2 g2 h2;rw[←b2,←b4];exact hxy xs' t3 g3 ys' t4 g4 r' s1 s2 b1 b3 h3 h4
 ·intro r' hr' hno;exact hold r' (fun e=>hno k s hkn (e▸hm))
 ·intro j hj hmj;show((IH.gC h.ext dead).set k (.cells cs' t y5)).get j=h.ext.get j;rw[eg];have e:j≠k:=fun e=>by subst e;rw[hm] at hmj;cases hmj
  rw[ah e,ah ?_];intro hd;obtain⟨f,st,e1,a,e2⟩:=hdd j hd;subst e1;obtain⟨st',b1,b2⟩:=R.fam k cs t f hk;rw[a] at b1;cases b1;have:=R.whole f st k j a b2 e2 (by rw[hm];rfl);rw[hmj] at this;cases this
end Go.Id
namespace Go.Id
open Go Go.RowKit
section
def cX.other:cX→Bool
 | .cells _ _ _=>false
 | .num _=>false
 | _=>true
variable {k:Nat}{h:IH}{m:Mp}{w w0:World}{s B r:Nat}
def Rel.setObj (R:Rel B w0 m h w) {o o1:cX} {o':Obj}(hk:h.ext.get k=some o) (ho:o.other=true) (ha:o.alive=true) (hm:m (2*k)=some (r,s)) (ho1:o1.other=true) (ml : ∀w' z,w'.heap[r]?=some o'→mo m w' r s z o1) :
  Rel B w0 m { h with ext:=h.ext.set k o1 } (World.put w r o')∧Step m h w m { h with ext:=h.ext.set k o1 } (World.put w r o'):=by
 have hrs:=R.even k r s hm
 have hkn:k<h.n:=by
  rcases dr k h.n with e|e;·exact e
  ·have:=R.dom k e;rw[this] at hk;cases hk
 have eg : ∀j,(h.ext.set k o1).get j=if j=k then some o1 else h.ext.get j:=fun j=>Tr.cD _ _ _ _;have hold : ∀r',r'≠r→(World.put w r o').heap[r']?=w.heap[r']?:=fun r' h'=>by rw[oN,ah (fun e=>h' e.1)]
 have Bv:(World.put w r o').heap[r]?=some o':=by rw[oN,aq ⟨rfl,hrs.2⟩]
 have hno : ∀j x s',j≠k→h.ext.get j=some x→x.alive=true→m (2*j)≠some (r,s'):=by
  intro j x s' hj hx hxa hmj;rcases R.own j k x _ r s' s hj hx hk hxa ha hmj hm with⟨_,_,_,_,f,st,a,b,_⟩|⟨_,u⟩;·rw[hk] at b;cases b;simp[cX.other] at ho
  ·cases o<;>simp[cX.other,cX.isNum] at ho u
 have xQ : ∀j cs t f,(h.ext.set k o1).get j=some (.cells cs t f)→h.ext.get j=some (.cells cs t f):=by
  intro j cs t f hj;rw[eg] at hj;by_cases e:j=k;·rw[aq e] at hj;cases hj;simp[cX.other] at ho1
  ·rw[ah e] at hj;exact hj
 have Nz : ∀j cs t f,h.ext.get j=some (.cells cs t f)→(h.ext.set k o1).get j=some (.cells cs t f):=by intro j cs t f hj;rw[eg,ah ?_];exact hj;intro e;subst e;rw[hk] at hj;cases hj;simp[cX.other] at ho
 refine⟨⟨vV R.below hrs.1 _,by rw[mV];exact R.size,?_,R.odd,fun j r' s' hj=>by rw[mV];exact R.even j r' s' hj,?_,?_,?_,R.iJ,?_,?_,R.whole⟩,⟨Mp.le_refl m,fun b e=>absurd rfl e,aA _,rfl,?_,?_,by rw[mV];exact aA _,fun k r s a b=>by have:k<h.n:=b;omega,fun _ _ _ h=>h⟩⟩;·intro b bs hb;obtain⟨r0,s0,hm0,hb1,c1,el1,fz,hc,hrw⟩:=R.base b bs hb;exact⟨r0,s0,hm0,hb1,c1,el1,fz,by rw[hold r0 aa];exact hc,hrw⟩
 ·intro j hj
  show(h.ext.set k o1).get j=none;rw[eg,ah (by have:h.n≤j:=hj;omega)];exact R.dom j hj
 ·intro j x r' s' hx hj
  have hx':(if j=k then some o1 else h.ext.get j)=some x:=by rw[←eg];exact hx
  by_cases e:j=k;·subst e;rw[aq rfl] at hx';cases hx';rw[hm] at hj;cases hj;exact ml _ _ Bv
  ·rw[ah e] at hx';by_cases hr':r'=r
   ·subst hr';cases x with
    | dead=>trivial
    | _=>exact absurd hj (hno j _ s' e hx' rfl)
   ·exact(R.obj j x r' s' hx' hj).mono (Mp.le_refl m) (hold r' hr') rfl
 ·intro j j' x x' r' s1 s2 hne hx hx' hxa Zb hj hj'
  have e1:(if j=k then some o1 else h.ext.get j)=some x:=by rw[←eg];exact hx
  have e2:(if j'=k then some o1 else h.ext.get j')=some x':=by rw[←eg];exact hx'
  by_cases c1:j=k;·subst c1;rw[ah (fun e=>hne e.symm)] at e2;rw[hm] at hj;cases hj;exact absurd hj' (hno j' x' s2 (fun e=>hne e.symm) e2 Zb)
  ·rw[ah c1] at e1;by_cases c2:j'=k
   ·subst c2;rw[hm] at hj';cases hj';exact absurd hj (hno j x s1 c1 e1 hxa)
   ·rw[ah c2] at e2;exact(R.own j j' x x' r' s1 s2 hne e1 e2 hxa Zb hj hj').imp (fun⟨a1,a2,a3,a4,f,st,b1,b2,b3⟩=>⟨a1,a2,a3,a4,f,st,Nz _ _ _ _ b1,Nz _ _ _ _ b2,b3⟩) id
 ·intro j cs t f hj
  exact R.fam j cs t f (xQ j cs t _ hj)
 ·intro f st hf
  refine(R.long f st hf).imp fun {x y} hxy=>?_
  intro xs t1 g1 ys t2 g2 r' s1 s2 h1 h2 h3 h4;exact hxy xs t1 g1 ys t2 g2 r' s1 s2 (xQ _ _ _ _ h1) (xQ _ _ _ _ h2) h3 h4
 ·intro r' hr' hno
  exact hold r' (fun e=>hno k s hkn (e▸hm))
 ·intro j hj hmj
  show(h.ext.set k o1).get j=h.ext.get j
  rw[eg,ah (fun e=>by subst e;rw[hm] at hmj;cases hmj)]
def Wl (h:IH) (k f:Nat) (fg below:List Nat):Option Nat→Prop
 | none=>f=h.n∧fg = []∧below = []
 | some g=>f=g ∧ ∃st,h.eP.get g=some st∧st=fg ++ k :: below
def Rel.grow (R:Rel B w0 m h w) {cs:List Value} {t:Nat} {fam:Option Nat}(hk:h.ext.get k=some (.cells cs t fam)) (hm:m (2*k)=some (r,s)) (fh:m (2*h.n)=none)(f:Nat) (fg below:List Nat) (Bw:Wl h k f fg below fam)(cs':List Value) (t':Nat) (r' s':Nat) (z:Nat×Nat) (w':World)(hw:Below B w0 w') (hsz:w.heap.size≤w'.heap.size) (hr':B≤r'∧r'<w'.heap.size)(gO : ∃c el,w'.heap[r']?=some (.cells c el)∧wU m cs' c s'∧z.1=t'∧z.2≤c.size)(wM:(w.heap.size≤r'∧(∀q,q<w.heap.size→w'.heap[q]?=w.heap[q]?)) ∨ (r'=r∧s+cs.length≤s'+cs'.length∧(∀q,q<w.heap.size→q≠r→w'.heap[q]?=w.heap[q]?) ∧∀c el,w.heap[r]?=some (.cells c el) → ∃c',w'.heap[r]?=some (.cells c' el)∧c.size≤c'.size ∧ ∀i,i<s+cs.length→c'[i]?=c[i]?)) :Rel B w0 (m.upd (2*h.n) (r',s') z) (grown h k f cs t fg below cs' t') w'∧Step m h w (m.upd (2*h.n) (r',s') z) (grown h k f cs t fg below cs' t') w':=by
 have hle:m.le (m.upd (2*h.n) (r',s') z):=Mp.Dl fh
 have hkn:k<h.n:=by
  rcases dr k h.n with e|e;·exact e
  ·have:=R.dom k e;rw[this] at hk;cases hk
 have hdn:=R.dom h.n (aA _);have hrs:=R.even k r s hm;have hst:(fam=none∧f=h.n∧fg = []∧below = [])∨(fam=some f∧h.eP.get f=some (fg ++ k :: below)):=by
  cases fam with
  | none=>exact .inl ⟨rfl,Bw⟩
  | some g=>obtain⟨e,st,a,b⟩:=Bw;subst e;subst b;exact .inr ⟨rfl,a⟩
 have hka:k∉fg∧k∉below:=by
  rcases hst with⟨_,_,rfl,rfl⟩|⟨_,a⟩;·simp
  ·have:=(R.iJ f _ a).2.2
   rw[Gr] at this;obtain⟨_,b,d⟩:=this;exact⟨fun hx=>d k hx k ab rfl,(Ce.1 b).1⟩
 have RS : ∀j∈fg,fam=some f∧h.eP.get f=some (fg ++ k :: below):=by
  intro j hj;rcases hst with⟨_,_,rfl,rfl⟩|x;·cases hj
  ·exact x
 have eg : ∀j,(grown h k f cs t fg below cs' t').ext.get j=if j=h.n then some (.cells cs' t' (some f)) else if j=k then some (.cells cs t (some f)) else if j∈fg then some .dead else h.ext.get j:=fun j=>by show(((IH.gC h.ext fg).set k (.cells cs t (some f))).set h.n (.cells cs' t' (some f))).get j=_;rw[Tr.cD,Tr.cD,kP]
 have uT : ∀g,(grown h k f cs t fg below cs' t').eP.get g=if g=f then some (h.n :: k :: below) else h.eP.get g:=fun g=>Tr.cD _ _ _ _;have Dx : ∀j x,j≠h.n→(grown h k f cs t fg below cs' t').ext.get j=some x→x.alive=true→(j∉fg) ∧ ∃y,h.ext.get j=some y∧y.alive=true ∧ ((j≠k∧x=y)∨(j=k∧x=.cells cs t (some f))):=by
  intro j x hj hx ha;rw[eg,ah hj] at hx;by_cases e:j=k;·subst e;rw[aq rfl] at hx;cases hx;exact⟨hka.1,_,hk,rfl,.inr ⟨rfl,rfl⟩⟩
  ·rw[ah e] at hx;by_cases hd:j∈fg
   ·rw[aq hd] at hx;cases hx;simp[cX.alive] at ha
   ·rw[ah hd] at hx;exact⟨hd,x,hx,ha,.inl ⟨e,rfl⟩⟩
 have xO : ∀j x s1,j≠h.n→j≠k→j∉fg→h.ext.get j=some x→x.alive=true→m (2*j)=some (r,s1) → ∃js t1,x=.cells js t1 (some f)∧j∈below∧fam=some f∧s1+js.length≤s+cs.length:=by
  intro j x s1 hjn hjk hja hx ha hmj;obtain⟨a1,a2,a3,a4,g,st,b1,b2,b3,b4,b5⟩:=(R.own j k x _ r s1 s hjk hx hk ha rfl hmj hm).resolve_right fun e=>by cases e.2
  rw[hk] at b2;cases b2;rcases hst with⟨e,_⟩|⟨e,a⟩
  ·cases e
  ·cases e;rw[a] at b3;cases b3;have hjb:j∈below:=by
    rcases fC.1 b4 with h1|h1;·exact absurd h1 hja
    ·rcases dV.1 h1 with h2|h2
     ·exact absurd h2 hjk
     ·exact h2
   rw[hx] at b1;cases b1;have hp:=R.long f _ a;rw[List.pairwise_append] at hp;have hq:=(List.pairwise_cons.1 hp.2.1).1 j hjb cs t (some f) a1 a2 (some f) r s s1 hk hx hm hmj;exact⟨a1,a2,rfl,hjb,rfl,hq⟩
 have UA : ∀j x q s1,j≠h.n→h.ext.get j=some x→(x.alive=true→j∉fg)→m (2*j)=some (q,s1)→mo (m.upd (2*h.n) (r',s') z) w' q s1 ((m.upd (2*h.n) (r',s') z).ez (2*j)) x:=by
  intro j x q s1 hjn hx hal hq;have hqs:=R.even j q s1 hq;have hez:(m.upd (2*h.n) (r',s') z).ez (2*j)=m.ez (2*j):=Mp.Sh _ _ _ aa;rcases wM with⟨_,iH⟩|⟨_,_,iH,hr⟩
  ·exact(R.obj j x q s1 hx hq).mono hle (iH q hqs.2) hez
  ·by_cases e:q=r
   ·subst e
    cases x with
    | dead=>trivial
    | map es =>
     by_cases hjk:j=k
     ·subst hjk;rw[hk] at hx;cases hx
     ·obtain⟨_,_,e,_⟩:=xO j _ s1 hjn hjk (hal rfl) hx rfl hq;cases e
    | num x1 =>
     by_cases hjk:j=k
     ·subst hjk;rw[hk] at hx;cases hx
     ·obtain⟨_,_,e,_⟩:=xO j _ s1 hjn hjk (hal rfl) hx rfl hq;cases e
    | loop l =>
     by_cases hjk:j=k
     ·subst hjk;rw[hk] at hx;cases hx
     ·obtain⟨_,_,e,_⟩:=xO j _ s1 hjn hjk (hal rfl) hx rfl hq;cases e
    | iter k1 i1 l1 j1 =>
     by_cases hjk:j=k;·subst hjk;rw[hk] at hx;cases hx
     ·obtain⟨_,_,e,_⟩:=xO j _ s1 hjn hjk (hal rfl) hx rfl hq;cases e
    | cells js t1 g1 =>
     have hreach:s1+js.length≤s+cs.length:=by
      by_cases hjk:j=k;·subst hjk;rw[hk] at hx;cases hx;rw[hm] at hq;cases hq;exact aA _
      ·obtain⟨_,_,e,_,_,d⟩:=xO j _ s1 hjn hjk (hal rfl) hx rfl hq;cases e;exact d
     obtain⟨c,el,hc,hrw,hz1,hz2⟩:=R.obj j _ q s1 hx hq;obtain⟨c',hc',hcs,hci⟩:=hr c el hc;refine⟨c',el,hc',⟨bV hrw.1 hcs,fun i v hv=>?_⟩,by rw[hez];exact hz1,by rw[hez];exact bV hz2 hcs⟩;obtain⟨v',a,b⟩:=hrw.2 i v hv
     have hil:i<js.length:=by
      rcases dr i js.length with h1|h1;·exact h1
      ·rw[cy h1] at hv;cases hv
     exact⟨v',by rw[hci (s1+i) aa];exact a,b.mono hle⟩
   ·exact(R.obj j x q s1 hx hq).mono hle (iH q hqs.2 e) hez
 refine⟨⟨hw,bV R.size hsz,?_,?_,?_,?_,?_,?_,?_,?_,?_,?_⟩,⟨hle,?_,jh _,rfl,?_,?_,hsz,fun j q x hj1 hj2 hj=>by
  obtain rfl:j=h.n:=by have:(grown h k f cs t fg below cs' t').n=h.n+1:=rfl;omega
  rw[Mp.cw] at hj;cases hj;rcases wM with⟨a,_⟩|⟨a,_⟩
  ·exact .inl a
  ·exact .inr ⟨k,s,hkn,a▸hm⟩,fun j hj hmj UB g st hg=>by
  rw[uT] at hg;by_cases e:g=f
  ·rw[aq e] at hg;cases hg;intro hx;rcases dV.1 hx with e1|hx
   ·omega
   ·rcases dV.1 hx with e1|hx
    ·subst e1;rw[hm] at hmj;cases hmj
    ·rcases hst with⟨_,_,rfl,rfl⟩|⟨_,a⟩
     ·cases hx
     ·exact UB _ _ a (fC.2 (.inr (dV.2 (.inr hx))))
  ·rw[ah e] at hg;exact UB g st hg⟩⟩
 ·intro b bs hb
  obtain⟨r0,s0,hm0,hb1,c1,el1,fz,hc,hrw⟩:=R.base b bs hb;refine⟨r0,s0,by rw[Mp.dH _ _ _ aa];exact hm0,hb1,c1,el1,fz,?_,hrw.1,fun i v hv=>let ⟨v',x,y⟩:=hrw.2 i v hv;⟨v',x,y.mono hle⟩⟩;have hbs:r0<w.heap.size:=by have:=R.size;omega
  rcases wM with⟨_,iH⟩|⟨_,_,iH,_⟩;·rw[iH r0 hbs];exact hc
  ·rw[iH r0 hbs aa];exact hc
 ·intro b hb;rw[Mp.dH _ _ _ aa];exact R.odd b hb
 ·intro j q x hj;by_cases e:j=h.n
  ·subst e;rw[Mp.cw] at hj;cases hj;exact hr'
  ·rw[Mp.dH _ _ _ aa] at hj;have:=R.even j q x hj;omega
 ·intro j hj;have hj':h.n+1≤j:=hj;rw[eg,ah aa,ah aa,ah ?_]
  ·exact R.dom j aa
  ·intro hx;have:=(R.iJ f _ (RS j hx).2).2.1 j (by simp[hx]);omega
 ·intro j x q s1 hx hj;by_cases e:j=h.n
  ·subst e;rw[eg,aq rfl] at hx;cases hx;rw[Mp.cw] at hj;cases hj;obtain⟨c,el,hc,hrw,hz1,hz2⟩:=gO;rw[Mp.pK]
   exact⟨c,el,hc,⟨hrw.1,fun i v hv=>let ⟨v',a,b⟩:=hrw.2 i v hv;⟨v',a,b.mono hle⟩⟩,hz1,hz2⟩
  ·rw[Mp.dH _ _ _ aa] at hj
   cases hxa:x.alive with
   | false=>cases x<;>simp_all [cX.alive,mo]
   | true =>
    obtain⟨hna,y,hy,hya,hc⟩:=Dx j x e hx hxa;have:=UA j y q s1 e hy (fun _=>hna) hj;rcases hc with⟨_,rfl⟩|⟨hjk,rfl⟩;·exact this
    ·subst hjk;rw[hk] at hy;cases hy;exact this
 ·intro j j' x x' q s1 s2 hne hx hx' ha ha' hj hj';have up : ∀i js t1 g,i≠h.n→i∉fg→h.ext.get i=some (.cells js t1 (some g))→(grown h k f cs t fg below cs' t').ext.get i=some (.cells js t1 (some g)):=by
   intro i js t1 g hin hia hi;rw[eg,ah hin];by_cases e:i=k
   ·subst e;rw[hk] at hi;cases hi;rcases hst with⟨e,_⟩|⟨e,_⟩
    ·cases e
    ·cases e;simp
   ·rw[ah e,ah hia,hi]
  have Rh : ∀i y s3,i≠h.n→(grown h k f cs t fg below cs' t').ext.get i=some y→y.alive=true→m (2*i)=some (r',s3)→Kin (grown h k f cs t fg below cs' t') h.n i∧Kin (grown h k f cs t fg below cs' t') i h.n:=by
   intro i y s3 hin hy hya hmi;have hri:=R.even i r' s3 hmi;rcases wM with⟨hbig,_⟩|⟨hrr,_,_,_⟩;·omega
   ·subst hrr;obtain⟨hna,z,hz,hza,hc⟩:=Dx i y hin hy hya;by_cases hik:i=k
    ·subst hik;have g1:(grown h i f cs t fg below cs' t').ext.get h.n=some (.cells cs' t' (some f)):=by rw[eg,aq rfl]
     have g2:(grown h i f cs t fg below cs' t').ext.get i=some (.cells cs t (some f)):=by rw[eg,ah hin,aq rfl]
     have g3:(grown h i f cs t fg below cs' t').eP.get f=some (h.n :: i :: below):=by rw[uT,aq rfl]
     exact⟨⟨_,_,_,_,f,_,g1,g2,g3,ab,ab⟩,⟨_,_,_,_,f,_,g2,g1,g3,ab,ab⟩⟩
    ·obtain⟨js,t1,e,hb,_,_⟩:=xO i z s3 hin hik hna hz hza hmi;subst e;have g1:(grown h k f cs t fg below cs' t').ext.get h.n=some (.cells cs' t' (some f)):=by rw[eg,aq rfl]
     have g2:=up i js t1 f hin hna hz;have g3:(grown h k f cs t fg below cs' t').eP.get f=some (h.n :: k :: below):=by rw[uT,aq rfl]
     exact⟨⟨_,_,_,_,f,_,g1,g2,g3,ab,by simp[hb]⟩,⟨_,_,_,_,f,_,g2,g1,g3,by simp[hb],ab⟩⟩
  by_cases c1:j=h.n;·subst c1;rw[Mp.cw] at hj;cases hj;rw[Mp.dH _ _ _ aa] at hj';exact .inl (Rh j' x' s2 (fun e=>hne e.symm) hx' ha' hj').1
  ·by_cases c2:j'=h.n
   ·subst c2;rw[Mp.cw] at hj';cases hj';rw[Mp.dH _ _ _ aa] at hj;exact .inl (Rh j x s1 c1 hx ha hj).2
   ·rw[Mp.dH _ _ _ aa] at hj hj';obtain⟨n1,y,hy,hya,hyx⟩:=Dx j x c1 hx ha;obtain⟨n2,y',hy',hya',hyx'⟩:=Dx j' x' c2 hx' ha';rcases R.own j j' y y' q s1 s2 hne hy hy' hya hya' hj hj' with⟨a1,a2,a3,a4,g,st,b1,b2,b3,b4,b5⟩|⟨u1,u2⟩
    case inr =>
     refine .inr ⟨?_,?_⟩
     ·rcases hyx with⟨_,e⟩|⟨e,_⟩
      ·rw[e];exact u1
      ·rw[e,hk] at hy;cases hy;cases u1
     ·rcases hyx' with⟨_,e⟩|⟨e,_⟩
      ·rw[e];exact u2
      ·rw[e,hk] at hy';cases hy';cases u2
    refine .inl ⟨a1,a2,a3,a4,g,if g=f then h.n :: k :: below else st,up j _ _ _ c1 n1 b1,up j' _ _ _ c2 n2 b2,?_,?_,?_⟩
    ·rw[uT];by_cases e:g=f
     ·simp[e]
     ·simp[e,b3]
    ·by_cases e:g=f
     ·subst e;rcases hst with⟨_,e,_⟩|⟨_,a⟩
      ·have:=(R.iJ _ _ b3).1;omega
      ·rw[a] at b3;cases b3;rw[aq rfl];rcases fC.1 b4 with h1|h1
       ·exact absurd h1 n1
       ·simp[dV.1 h1]
     ·rw[ah e];exact b4
    ·by_cases e:g=f
     ·subst e;rcases hst with⟨_,e,_⟩|⟨_,a⟩
      ·have:=(R.iJ _ _ b3).1;omega
      ·rw[a] at b3;cases b3;rw[aq rfl];rcases fC.1 b5 with h1|h1
       ·exact absurd h1 n2
       ·simp[dV.1 h1]
     ·rw[ah e];exact b5
 ·intro g st hg;rw[uT] at hg;by_cases e:g=f
  ·subst e;rw[aq rfl] at hg;cases hg;rcases hst with⟨_,e,_,rfl⟩|⟨_,a⟩
   ·exact⟨by show g<h.n+1;omega,by simp[grown];omega,aT⟩
   ·obtain⟨h1,h2,h3⟩:=R.iJ g _ a;refine⟨qU h1,?_,?_⟩
    ·intro x hx;show x<h.n+1;rcases dV.1 hx with e|hx
     ·omega
     ·have:=h2 x (fC.2 (.inr hx));omega
    ·rw[Gr] at h3;exact Ce.2 ⟨fun hx=>by have:=h2 h.n (fC.2 (.inr hx));omega,h3.2.1⟩
  ·rw[ah e] at hg;obtain⟨h1,h2,h3⟩:=R.iJ g st hg;exact⟨qU h1,fun x hx=>qU (h2 x hx),h3⟩
 ·intro j js t1 g hj;rw[eg] at hj;by_cases e:j=h.n
  ·rw[aq e] at hj;cases hj;exact⟨_,by rw[uT,aq rfl],by simp[e]⟩
  ·rw[ah e] at hj;by_cases e1:j=k
   ·rw[aq e1] at hj;cases hj;exact⟨_,by rw[uT,aq rfl],by simp[e1]⟩
   ·rw[ah e1] at hj;by_cases hd:j∈fg
    ·rw[aq hd] at hj;cases hj
    ·rw[ah hd] at hj;obtain⟨st,a,b⟩:=R.fam j js t1 g hj;by_cases e2:g=f
     ·subst e2;rcases hst with⟨_,e3,_⟩|⟨_,a'⟩
      ·have:=(R.iJ _ _ a).1;omega
      ·rw[a'] at a;cases a;refine⟨_,by rw[uT,aq rfl],?_⟩;rcases fC.1 b with h1|h1
       ·exact absurd h1 hd
       ·exact dV.2 (.inr h1)
     ·exact⟨st,by rw[uT,ah e2];exact a,b⟩
 ·intro g st hg
  have bk : ∀i is t1 g1,i≠h.n→(grown h k f cs t fg below cs' t').ext.get i=some (.cells is t1 g1) → ∃t2 g2,h.ext.get i=some (.cells is t2 g2):=by
   intro i is t1 g1 hin hi;obtain⟨_,y,hy,_,hc⟩:=Dx i _ hin hi rfl;rcases hc with⟨_,rfl⟩|⟨e,e2⟩;·exact⟨_,_,hy⟩
   ·subst e;cases e2;exact⟨_,_,hk⟩
  rw[uT] at hg;by_cases e:g=f
  ·subst e;rw[aq rfl] at hg;cases hg;have LS : ∀y∈k :: below,y≠h.n∧y∉fg:=by
    intro y hy;rcases hst with⟨_,_,rfl,rfl⟩|⟨_,a⟩
    ·rcases dV.1 hy with rfl|hy
     ·exact⟨aa,ab⟩
     ·cases hy
    ·have h2:=(R.iJ g _ a).2;refine⟨fun e=>by have:=h2.1 y (fC.2 (.inr hy));omega,fun hx=>?_⟩;exact(Gr.1 h2.2).2.2 y hx y hy rfl
   refine List.pairwise_cons.2 ⟨fun y hy=>?_,?_⟩
   ·intro xs t1 g1 ys t2 g2 q s1 s2 h1 h2 h3 h4;obtain⟨hyn,hya⟩:=LS y hy;rw[eg,aq rfl] at h1;cases h1;rw[Mp.cw] at h3;cases h3;rw[Mp.dH _ _ _ aa] at h4;obtain⟨t3,g3,h5⟩:=bk y ys t2 g2 hyn h2;have hyr:=R.even y _ _ h4;rcases wM with⟨hbig,_⟩|⟨hrr,ud,_,_⟩
    ·omega
    ·subst hrr;by_cases hyk:y=k
     ·subst hyk;rw[hk] at h5;cases h5;rw[hm] at h4;cases h4;exact ud
     ·obtain⟨_,_,e,_,_,d⟩:=xO y _ s2 hyn hyk hya h5 rfl h4;cases e;omega
   ·rcases hst with⟨_,_,rfl,rfl⟩|⟨_,a⟩
    ·simp
    ·have hp:=(List.pairwise_append.1 (R.long g _ a)).2.1;refine hp.imp_of_mem fun {x y} hx hy hxy=>?_;intro xs t1 g1 ys t2 g2 q s1 s2 h1 h2 h3 h4;obtain⟨hxn,_⟩:=LS x hx;obtain⟨hyn,_⟩:=LS y hy;obtain⟨t3,g3,h5⟩:=bk x xs t1 g1 hxn h1;obtain⟨t4,g4,h6⟩:=bk y ys t2 g2 hyn h2;rw[Mp.dH _ _ _ aa] at h3 h4;exact hxy xs t3 g3 ys t4 g4 q s1 s2 h5 h6 h3 h4
  ·rw[ah e] at hg;have hlt:=(R.iJ g st hg).2.1;refine(R.long g st hg).imp_of_mem fun {x y} hx hy hxy=>?_;intro xs t1 g1 ys t2 g2 q s1 s2 h1 h2 h3 h4;have hxn:x≠h.n:=by have:=hlt x hx;omega
   have hyn:y≠h.n:=by have:=hlt y hy;omega
   obtain⟨t3,g3,h5⟩:=bk x xs t1 g1 hxn h1;obtain⟨t4,g4,h6⟩:=bk y ys t2 g2 hyn h2;rw[Mp.dH _ _ _ aa] at h3 h4;exact hxy xs t3 g3 ys t4 g4 q s1 s2 h5 h6 h3 h4
 ·intro g st x y hg hx hy;rw[uT] at hg;by_cases e:g=f
  ·subst e;rw[aq rfl] at hg;cases hg;intro _;by_cases hyn:y=h.n
   ·subst hyn;rw[Mp.cw];rfl
   ·have hy':y∈k :: below:=by
     rcases dV.1 hy with e|e;·exact absurd e hyn
     ·exact e
    rw[Mp.dH _ _ _ aa];rcases hst with⟨_,_,rfl,rfl⟩|⟨_,a⟩
    ·rcases dV.1 hy' with rfl|h1
     ·rw[hm];rfl
     ·cases h1
    ·exact R.whole g _ k y a ab (fC.2 (.inr hy')) (by rw[hm];rfl)
  ·rw[ah e] at hg;have hlt:=(R.iJ g st hg).2.1;rw[Mp.dH _ _ _ (by have:=hlt x hx;omega),Mp.dH _ _ _ (by have:=hlt y hy;omega)];exact R.whole g st x y hg hx hy
 ·intro b hb;by_cases e:b=2*h.n
  ·exact⟨h.n,e,aA _,lj _⟩
  ·exact absurd (Mp.dH _ _ _ e) hb
 ·intro q hq hno;rcases wM with⟨_,iH⟩|⟨_,_,iH,_⟩
  ·exact iH q hq
  ·exact iH q hq (fun e=>hno k s hkn (e▸hm))
 ·intro j hj hmj;have e:j≠k:=fun e=>by subst e;rw[hm] at hmj;cases hmj
  rw[eg,ah aa,ah e,ah ?_];intro hd;have:=R.whole f _ k j (RS j hd).2 ab (by simp[hd]) (by rw[hm];rfl);rw[hmj] at this;cases this
end
section
def my (P:Program) {α:Type} : ∀(s:Sem α) (a:α),aI P s=some a → ∀w,s.run P w=.ok a w
 | .pure b,a,h,w=>by simp only[aI] at h;cases h;rfl
 | .program k,a,h,w=>by rw[aI] at h;show(k P).run P w=_;exact my P (k P) a h w
 | .load ..,a,h,w=>by simp[aI] at h
 | .store ..,a,h,w=>by simp[aI] at h
 | .new ..,a,h,w=>by simp[aI] at h
 | .shape ..,a,h,w=>by simp[aI] at h
 | .freeze ..,a,h,w=>by simp[aI] at h
 | .frozen ..,a,h,w=>by simp[aI] at h
 | .getObj ..,a,h,w=>by simp[aI] at h
 | .setObj ..,a,h,w=>by simp[aI] at h
 | .choose ..,a,h,w=>by simp[aI] at h
 | .sys ..,a,h,w=>by simp[aI] at h
 | .mark ..,a,h,w=>by simp[aI] at h
 | .halt ..,a,h,w=>by simp[aI] at h
def kK {P:Program} {s:Sem Value} {v:Value} (h:fb P s=some v):plain v=true ∧ ∀w,s.run P w=.ok v w:=by
 unfold fb at h
 cases hp:aI P s with
 | none=>simp[hp] at h
 | some x =>
  simp only[hp,aX] at h;by_cases hx:plain x=true;·rw[aq hx] at h;cases h;exact⟨hx,my P s _ hp⟩
  ·rw[ah hx] at h;cases h
section
variable {P:Program} {t:TypeId} (w:World)
def dO {n:Nat} (h:bK P t=some n):(sizeOf t).run P w=.ok n w:=by unfold bK at h;obtain⟨i,hi,e⟩:=bI.1 h;simp[sizeOf,typeInfo,hi,e]
def run_typeInfo {i:TypeInfo} (h:P.info? t=some i):(typeInfo t).run P w=.ok i w:=by simp[typeInfo,h]
def hP {z:Value} (h:tS P t=some z):(zeroValue t).run P w=.ok z w:=by unfold tS at h;obtain⟨i,hi,e⟩:=Kc.1 h;simp[zeroValue,typeInfo,hi,e]
def tk {b:Bool} (h:cu P t=some b):(isAgg t).run P w=.ok b w:=by unfold cu at h;obtain⟨d,hd,e⟩:=bI.1 h;subst e;cases d<;>simp[isAgg,cG hd]
def fT {zs:List Value} (h:bC P t=some zs) : ∃z,tS P t=some z∧plain z=true∧zs=z.cells.toList:=by
 unfold bC at h
 cases hz:tS P t with
 | none=>simp[hz] at h
 | some z =>
  simp only[hz,aX] at h;by_cases hp:plain z=true;·simp only[hp,cq] at h;cases h;exact⟨z,rfl,hp,rfl⟩
  ·simp[hp] at h
end
variable {b:Nat}{h:IH}{cs:List Value}{m:Mp}{w w0:World}{s B r:Nat}
def Rel.row (R:Rel B w0 m h w) (gO:h.row b=some cs) (hm:m b=some (r,s)) :∃c el fz,w.heap[r]?=some (.cells c el fz)∧wU m cs c s:=by
 unfold IH.row at gO;simp only[aX,bT] at gO;by_cases hb:b % 2=1;·rw[aq hb] at gO;obtain⟨r0,s0,hm0,_,c,el,fz,hc,hr⟩:=R.base _ _ gO;rw[show 2*(b / 2)+1=b from by omega,hm] at hm0;cases hm0;exact⟨c,el,fz,hc,hr⟩
 ·rw[ah hb] at gO;cases hg:h.ext.get (b / 2) with
  | none=>simp[hg] at gO
  | some o =>
   rw[hg] at gO;cases o with
   | cells cs' t f =>
    simp only at gO;cases gO;obtain⟨c,el,hc,hr,_⟩:=R.obj (b / 2) _ r s hg (by rw[show 2*(b / 2)=b from by omega];exact hm);exact⟨c,el,_,hc,hr⟩
   | map es=>simp at gO
   | loop l=>simp at gO
   | iter _ _ _ _=>simp at gO
   | num _=>simp at gO
   | dead=>simp at gO
theorem oS (r p i:Nat):Addr.add ⟨r,p,none⟩ i=⟨r,p+i,none⟩:=by unfold Addr.add;by_cases h:i=0<;>simp[h]
variable {o:Nat}
def Rel.rd (R:Rel B w0 m h w) {n:Nat} (hrd:h.rd b o n=some cs) (hm:m b=some (r,s)) :∃cs',dv m cs cs'∧cs.length=n ∧ ∀j v,cs'[j]?=some v→w.cell? (Addr.add ⟨r,s+o,none⟩ j)=some v:=by
 unfold IH.rd at hrd;cases hr:h.row b with
 | none=>simp[hr] at hrd
 | some row =>
  simp only[hr,aX,ch] at hrd;by_cases hle:o+n≤row.length
  ·rw[aq hle] at hrd;cases hrd;obtain⟨c,el,fz,hc,gO⟩:=R.row hr hm;have h1:=gO.1;refine⟨(c.toList.drop (s+o)).take n,⟨aT,fun i v v' hv hv'=>?_⟩,aT,fun j v hv=>?_⟩
   ·rw[gR] at hv hv';by_cases hi:i<n
    ·simp only[hi,cq,kh] at hv hv';obtain⟨v'',a,b'⟩:=gO.2 _ _ hv;rw[←ma] at a;simp only[rf] at hv';rw[hv'] at a;cases a;exact b'
    ·simp[hi] at hv
   ·rw[gR] at hv;by_cases hi:j<n
    ·simp only[hi,cq,kh,rf] at hv;rw[oS];simp[World.cell?,hc,hv]
    ·simp[hi] at hv
  ·simp[hle] at hrd
variable {a' v:Value}{P:Program}{a:Value}{t:TypeId}
def Rel.load (R:Rel B w0 m h w) (hl:load P h t a=some v) (ha:bz m a a') :∃v',(Instr.loadAt t a').run P w=.ok v' w∧bz m v v':=by
 unfold Id.load at hl;cases hA:asAddr a with
 | none=>simp[hA] at hl
 | some bo =>
  obtain⟨b,o⟩:=bo;have hp:a=.pointer (some ⟨b,o,none⟩):=by unfold asAddr at hA;split at hA<;>simp_all
  subst hp;obtain⟨r,s,hm,rfl⟩:=ha.ou;cases hG:cu P t with
  | none=>simp[hA,hG] at hl
  | some g =>
   cases g with
   | true =>
    cases hS:bK P t with
    | none=>simp[hA,hG,hS] at hl
    | some n =>
     simp only[hA,hG,hS] at hl;obtain⟨cs,hrd,rfl⟩:=bI.1 hl;obtain⟨cs',hL,hn,hc⟩:=R.rd hrd hm;refine⟨.agg cs'.toArray,?_,bz.vX (by simpa using hL)⟩;have hlen:n=cs'.length:=by rw[←hn];exact hL.1
     simp only[Instr.loadAt,Instr.sureAddr,loadVar,bJ,ck,bW,tk w hG,dO w hS,cq];rw[hlen,run_loadCells_list w _ cs' hc];rfl
   | false =>
    simp only[hA,hG] at hl;obtain⟨cs,hrd,hv⟩:=Kc.1 hl;obtain⟨cs',hL,hn,hc⟩:=R.rd hrd hm;have hv0:cs[0]?=some v:=by rw[←List.head?_eq_getElem?];exact hv
    obtain⟨v',hv',hR⟩:=hL.get hv0;have:=hc 0 v' hv';refine⟨v',?_,hR⟩;simp only[Instr.loadAt,Instr.sureAddr,loadVar,bJ,ck,bW,tk w hG];rw[oS,gN] at this;simp[this]
def Yields (n:Next) (v:Value):Prop:=n=.value v∨(n=.skip∧v=undef)
def J6 (B:Nat) (w0:World) (m:Mp) (h:IH) (w:World) (run:Result Next) (v:Value) (h':IH):Prop :=
 ∃nx v' m' w',run=.ok nx w'∧Yields nx v'∧bz m' v v'∧Rel B w0 m' h' w'∧Step m h w m' h' w'
variable {v':Value}
def J6.quiet (R:Rel B w0 m h w) {run:Result Next} (hr:run=.ok (.value v') w) (hv:bz m v v') :J6 B w0 m h w run v h:=⟨_,v',m,w,hr,.inl rfl,hv,R,Step.refl m h w⟩
variable {h':IH}
theorem Rel.wr (R:Rel B w0 m h w) {vs vs':List Value} (hw:h.wr b o vs=some h') (hm:m b=some (r,s)) (hv:dv m vs vs')(hok : ∀v∈vs,bB v=true) (P:Program) :∃w',(storeCells ⟨r,s+o,none⟩ vs').run P w=.ok () w'∧Rel B w0 m h' w'∧Step m h w m h' w':=by
 unfold IH.wr at hw;simp only[aX,bT] at hw;by_cases hb:b % 2=1;·simp[hb] at hw
 ·rw[ah hb] at hw;cases hg:h.ext.get (b / 2) with
  | none=>simp[hg] at hw
  | some x =>
   rw[hg] at hw;cases x with
   | map es=>simp at hw
   | loop l=>simp at hw
   | iter _ _ _ _=>simp at hw
   | num _=>simp at hw
   | dead=>simp at hw
   | cells cs t fam =>
    simp only[ch] at hw;by_cases hle:o+vs.length≤cs.length
    ·rw[aq hle] at hw;have hmb:m (2*(b / 2))=some (r,s):=by rw[show 2*(b / 2)=b from by omega];exact hm
     obtain⟨c,el,hc,gO,_⟩:=R.obj (b / 2) _ r s hg hmb;have Xd : ∀v∈vs',bB v=true:=by intro v' hv';obtain⟨i,hi,e⟩:=List.getElem_of_mem hv';have hi':i<vs.length:=hv.1▸hi;exact FZ (hv.2 i vs[i] v' (aK hi') (by rw[aK hi,e])) (hok _ (mO hi'))
     have cH:=qe P r (s+o) el vs' 0 w c hc (by have:=gO.1;have:=hv.1;omega) Xd;have VS:=gO.bf hle hv;rw[gN] at cH
     have mY : ∀d:Array Value,d=lf c (s+o) vs'→vs' = []→World.put w r (.cells d el)=w:=by
      intro d hd he;subst he;subst hd;unfold World.put;have hr:r<w.heap.size:=(md.1 hc).1;have e:=(md.1 hc).2;congr 1;apply Array.ext_getElem?;intro i;rw[Gz];by_cases hi:r=i;·subst hi;simp[hr,e]
      ·simp[hi]
     have LM:(if vs' = [] then w else World.put w r (.cells (lf c (s+o) vs') el))=World.put w r (.cells (lf c (s+o) vs') el):=by
      by_cases he:vs' = [];·rw[aq he,mY _ rfl he]
      ·rw[ah he]
     rw[LM] at cH;cases fam with
     | none =>
      simp only at hw;cases hw;obtain⟨a,b'⟩:=R.write hg hmb hc VS (rB cs o vs hle) (me _ _ _) none (.inr rfl) [] rfl;exact⟨_,cH,a,b'⟩
     | some f =>
      cases hf:h.eP.get f with
      | none=>simp[hf] at hw
      | some st =>
       simp only[hf] at hw;cases hw;obtain⟨a,b'⟩:=R.write hg hmb hc VS (rB cs o vs hle) (me _ _ _) none (.inr rfl) (st.filter (· != b / 2)) ⟨st,hf,rfl⟩;exact⟨_,cH,a,b'⟩
    ·simp[hle] at hw
theorem DO (h:bz m v v'):v'.cells.size=v.cells.size:=by have:=h.cells.1;simpa using this.symm
def Rel.store (R:Rel B w0 m h w) (hs:store P h t a v=some h') (ha:bz m a a') (hv:bz m v v') :∃w',(Instr.storeAt t a' v').run P w=.ok () w'∧Rel B w0 m h' w'∧Step m h w m h' w':=by
 unfold Id.store at hs;cases hA:asAddr a with
 | none=>simp[hA] at hs
 | some bo =>
  obtain⟨b,o⟩:=bo;have hp:a=.pointer (some ⟨b,o,none⟩):=by unfold asAddr at hA;split at hA<;>simp_all
  subst hp
  obtain⟨r,s,hm,rfl⟩:=ha.ou
  cases hS:bK P t with
  | none=>simp[hA,hS] at hs
  | some n =>
   simp only[hA,hS,aX] at hs;by_cases hc:(v.cells.size == n && v.cells.toList.all bB)=true;·rw[aq hc] at hs;simp only[fK,bT,ji] at hc;obtain⟨w',h1,h2,h3⟩:=R.wr hs hm hv.cells (fun x hx=>hc.2 x hx) P;refine⟨w',?_,h2,h3⟩;simp only[Instr.storeAt,Instr.sureAddr,storeVar,bJ,ck,bW,dO w hS];rw[ah (by rw[DO hv];simp[hc.1])];simp[h1]
   ·rw[ah hc] at hs;cases hs
def Rel.newRow (R:Rel B w0 m h w) (hm:m (2*h.n)=none) {cs':List Value} (hv:dv m cs cs') (e:Nat) (t:TypeId) :Rel B w0 (m.upd (2*h.n) (w.heap.size,0) (e,0)) (h.new (.cells cs e none)) (w.alloc (.cells cs'.toArray t)) ∧ Step m h w (m.upd (2*h.n) (w.heap.size,0) (e,0)) (h.new (.cells cs e none)) (w.alloc (.cells cs'.toArray t)):=by refine R.new _ _ (e,0) hm ⟨cs'.toArray,t,by rw[heap_alloc,aq rfl],⟨by simp[hv.1],fun i v hi=>?_⟩,rfl,dQ _⟩ rfl;obtain⟨v',a,b⟩:=hv.get hi;exact⟨v',by simpa using a,b⟩
end
end Go.Id

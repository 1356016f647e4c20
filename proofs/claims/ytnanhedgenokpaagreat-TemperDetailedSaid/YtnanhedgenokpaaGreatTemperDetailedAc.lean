/-
  The ideal machine: laws of its heap, and what each change of memory does to the relation with the world.
-/
import Derived.Test.YtnanhedgenokpaaGreatTemperDetailedAb
set_option linter.unusedVariables false
set_option linter.unusedSimpArgs false
set_option linter.defProp false
set_option linter.deprecated false
namespace Go.Id
open Go Go.RowKit
namespace Tr
variable {α:Type}
theorem get_leaf (k:Nat):(leaf:Tr α).get k=none:=rfl
theorem get_node (l r:Tr α) (v:Option α) (k:Nat):(node l v r).get k=if k=0 then v else if k % 2=1 then l.get (k / 2) else r.get ((k - 1) / 2):=by
 simp only[get,cond_eq_ite,beq_iff_eq]
theorem get_one : ∀(f n:Nat) (x:α) (k:Nat),n≤f→(one f n x).get k=if k=n then some x else none
 | 0,n,x,k,h=>by
  obtain rfl:n=0:=by omega
  simp only[one,get_node,get_leaf]
  by_cases hk:k=0<;>simp[hk]
 | f+1,n,x,k,h=>by
  simp only[one,cond_eq_ite,beq_iff_eq]
  by_cases hn:n=0
  ·subst hn;simp only[if_true,get_node,get_leaf]
   by_cases hk:k=0<;>simp[hk]
  ·by_cases ho:n % 2=1
   ·simp only[hn,ho,if_true,if_false,get_node,get_leaf]
    by_cases hk:k=0
    ·subst hk;simp;omega
    ·by_cases hk1:k % 2=1
     ·simp only[hk,hk1,if_true,if_false]
      rw[get_one f (n / 2) x (k / 2) (by omega)]
      by_cases e:k / 2=n / 2
      ·rw[if_pos e,if_pos (by omega)]
      ·rw[if_neg e,if_neg (by omega)]
     ·simp only[hk,hk1,if_false]
      rw[if_neg (by omega)]
   ·simp only[hn,ho,if_false,get_node,get_leaf]
    by_cases hk:k=0
    ·subst hk;simp;omega
    ·by_cases hk1:k % 2=1
     ·simp only[hk,hk1,if_true,if_false]
      rw[if_neg (by omega)]
     ·simp only[hk,hk1,if_false]
      rw[get_one f ((n - 1) / 2) x ((k - 1) / 2) (by omega)]
      by_cases e:(k - 1) / 2=(n - 1) / 2
      ·rw[if_pos e,if_pos (by omega)]
      ·rw[if_neg e,if_neg (by omega)]
theorem get_set : ∀(t:Tr α) (n:Nat) (x:α) (k:Nat),(t.set n x).get k=if k=n then some x else t.get k
 | .leaf,n,x,k=>by simp only[set,get_one n n x k (Nat.le_refl n),get_leaf]
 | .node l v r,n,x,k=>by
  simp only[set,cond_eq_ite,beq_iff_eq]
  by_cases hn:n=0
  ·subst hn;simp only[if_true,get_node]
   by_cases hk:k=0<;>simp[hk]
  ·by_cases ho:n % 2=1
   ·simp only[hn,ho,if_true,if_false,get_node]
    by_cases hk:k=0
    ·subst hk;simp only[if_true];rw[if_neg (by omega)]
    ·by_cases hk1:k % 2=1
     ·simp only[hk,hk1,if_true,if_false]
      rw[get_set l (n / 2) x (k / 2)]
      by_cases e:k / 2=n / 2
      ·rw[if_pos e,if_pos (by omega)]
      ·rw[if_neg e,if_neg (by omega)]
     ·simp only[hk,hk1,if_false]
      rw[if_neg (by omega)]
   ·simp only[hn,ho,if_false,get_node]
    by_cases hk:k=0
    ·subst hk;simp only[if_true];rw[if_neg (by omega)]
    ·by_cases hk1:k % 2=1
     ·simp only[hk,hk1,if_true,if_false]
      rw[if_neg (by omega)]
     ·simp only[hk,hk1,if_false]
      rw[get_set r ((n - 1) / 2) x ((k - 1) / 2)]
      by_cases e:(k - 1) / 2=(n - 1) / 2
      ·rw[if_pos e,if_pos (by omega)]
      ·rw[if_neg e,if_neg (by omega)]
end Tr
theorem get_killAll : ∀(l:List Nat) (e:Tr IObj) (k:Nat),(IH.killAll e l).get k=if k∈l then some .dead else e.get k
 | [],e,k=>by simp[IH.killAll]
 | a :: l,e,k=>by
  rw[IH.killAll,get_killAll l _ k,Tr.get_set]
  by_cases h1:k∈l
  ·simp[h1]
  ·by_cases h2:k=a
   ·simp[h2]
   ·simp[h1,h2]
theorem heap_alloc (w:World) (o:Obj) (r:Nat):(w.alloc o).heap[r]?=if r=w.heap.size then some o else w.heap[r]?:=by
 show(w.heap.push o)[r]?=_
 rw[Array.getElem?_push]
theorem size_alloc (w:World) (o:Obj):(w.alloc o).heap.size=w.heap.size+1:=by
 show(w.heap.push o).size=_
 simp
theorem ObjRel.mono {m m':Mp} {w w':World} {r s:Nat} {z z':Nat×Nat} {o:IObj} (hm:m.le m') (hw:w'.heap[r]?=w.heap[r]?) (hz:z'=z) (h:ObjRel m w r s z o):ObjRel m' w' r s z' o:=by
 subst hz
 cases o with
 | cells cs t f =>
  obtain⟨c,el,a,⟨b,d⟩,e⟩:=h
  exact⟨c,el,hw.trans a,⟨b,fun i v hv=>let ⟨v',x,y⟩:=d i v hv;⟨v',x,y.mono hm⟩⟩,e⟩
 | map es =>
  obtain⟨h0,c,a,b,d⟩:=h
  exact⟨h0,c,hw.trans a,b,fun i e e' x y=>let ⟨⟨p,q,z⟩,t⟩:=d i e e' x y;⟨⟨p,q,z.mono hm⟩,t⟩⟩
 | loop l =>
  obtain⟨h0,l',a,b⟩:=h
  exact⟨h0,l',hw.trans a,⟨b.state,b.pending,b.fn,fun t v hv=>let ⟨v',x,y⟩:=b.tmps t v hv;⟨v',x,y.mono hm⟩,b.nt,b.params,b.assign,b.body⟩⟩
 | iter k since seen last =>
  obtain⟨h0,rm,a,b⟩:=h
  exact⟨h0,rm,hw.trans a,(hm _ _ b).1⟩
 | num x=>exact h.imp id fun⟨c,el,a,b,d⟩=>⟨c,el,hw.trans a,b,fun i v hv=>let ⟨v',x,y⟩:=d i v hv;⟨v',x,y.mono hm⟩⟩
 | dead=>trivial
def Mp.upd (m:Mp) (b:Nat) (x z:Nat×Nat):Mp:=⟨fun b'=>if b'=b then some x else m b',fun b'=>if b'=b then z else m.ez b'⟩
theorem Mp.le_upd {m:Mp} {b:Nat} {x z:Nat×Nat} (h:m b=none):m.le (m.upd b x z):=by
 intro b' y hy
 unfold Mp.upd
 by_cases e:b'=b
 ·subst e;rw[h] at hy;cases hy
 ·simp[e,hy]
theorem Mp.upd_self (m:Mp) (b:Nat) (x z:Nat×Nat):m.upd b x z b=some x:=by simp[Mp.upd]
theorem Mp.upd_ne (m:Mp) {b b':Nat} (x z:Nat×Nat) (h:b'≠b):m.upd b x z b'=m b':=by simp[Mp.upd,h]
theorem Mp.ez_self (m:Mp) (b:Nat) (x z:Nat×Nat):(m.upd b x z).ez b=z:=by simp[Mp.upd]
theorem Mp.ez_ne (m:Mp) {b b':Nat} (x z:Nat×Nat) (h:b'≠b):(m.upd b x z).ez b'=m.ez b':=by simp[Mp.upd,h]
def IObj.lone:IObj→Bool
 | .cells _ _ (some _)=>false
 | _=>true
theorem below_alloc {B:Nat} {w0 w:World} (h:Below B w0 w) (hs:B≤w.heap.size) (o:Obj):Below B w0 (w.alloc o) :=
 h.alloc hs o
theorem kin_new {h:IH} {o:IObj} (hd:h.ext.get h.n=none) {k k':Nat} (hk:Kin h k k'):Kin (h.new o) k k':=by
 obtain⟨cs,t,cs',t',f,st,a,b,c,d,e⟩:=hk
 have h1:k≠h.n:=by intro e;rw[e,hd] at a;cases a
 have h2:k'≠h.n:=by intro e;rw[e,hd] at b;cases b
 exact⟨cs,t,cs',t',f,st,by simp[IH.new,Tr.get_set,h1,a],by simp[IH.new,Tr.get_set,h2,b],c,d,e⟩
theorem Rel.new {B:Nat} {w0:World} {m:Mp} {h:IH} {w:World} (R:Rel B w0 m h w) (o:IObj) (o':Obj) (z:Nat×Nat) (hm:m (2*h.n)=none)
  (ho:ObjRel m (w.alloc o') w.heap.size 0 z o) (hl:o.lone=true) :
  Rel B w0 (m.upd (2*h.n) (w.heap.size,0) z) (h.new o) (w.alloc o')∧Step m h w (m.upd (2*h.n) (w.heap.size,0) z) (h.new o) (w.alloc o'):=by
 have hle:m.le (m.upd (2*h.n) (w.heap.size,0) z):=Mp.le_upd hm
 have hold : ∀r,r<w.heap.size→(w.alloc o').heap[r]?=w.heap[r]?:=fun r hr=>by rw[heap_alloc,if_neg (by omega)]
 have hget : ∀k,(h.new o).ext.get k=if k=h.n then some o else h.ext.get k:=fun k=>Tr.get_set _ _ _ _
 have hdn:=R.dom h.n (Nat.le_refl _)
 refine⟨⟨below_alloc R.below R.size o',by rw[size_alloc];have:=R.size;omega,?_,?_,?_,?_,?_,?_,?_,?_,?_,?_⟩,⟨hle,?_,Nat.le_succ _,rfl,fun r hr _=>hold r hr,?_,by rw[size_alloc];omega,fun k r s hk1 hk2 hk=>by
  obtain rfl:k=h.n:=by have:(h.new o).n=h.n+1:=rfl;omega
  rw[Mp.upd_self] at hk;cases hk;exact .inl (Nat.le_refl _),fun _ _ _ h=>h⟩⟩
 ·intro b cs hb
  obtain⟨r0,s0,hm0,hb1,c,el,fz,hc,hr⟩:=R.base b cs hb
  refine⟨r0,s0,by rw[Mp.upd_ne _ _ _ (by omega)];exact hm0,hb1,c,el,fz,?_,hr.1,fun i v hv=>let ⟨v',x,y⟩:=hr.2 i v hv;⟨v',x,y.mono hle⟩⟩
  rw[hold r0 (by have:=R.size;omega),hc]
 ·intro b hb
  rw[Mp.upd_ne _ _ _ (by omega)]
  exact R.odd b hb
 ·intro k r s hk
  rw[size_alloc]
  by_cases e:k=h.n
  ·subst e;rw[Mp.upd_self] at hk;cases hk;exact⟨R.size,by omega⟩
  ·rw[Mp.upd_ne _ _ _ (by omega)] at hk
   have:=R.even k r s hk;omega
 ·intro k hk
  rw[hget,if_neg (by have:(h.new o).n=h.n+1:=rfl;omega)]
  exact R.dom k (by have:(h.new o).n=h.n+1:=rfl;omega)
 ·intro k x r s hk hr
  rw[hget] at hk
  by_cases e:k=h.n
  ·subst e;rw[if_pos rfl] at hk;cases hk
   rw[Mp.upd_self] at hr;cases hr
   exact ho.mono hle rfl (Mp.ez_self _ _ _ _)
  ·rw[if_neg e] at hk;rw[Mp.upd_ne _ _ _ (by omega)] at hr
   exact(R.obj k x r s hk hr).mono hle (hold r (R.even k r s hr).2) (Mp.ez_ne _ _ _ (by omega))
 ·intro k k' x x' r s s' hne hk hk' ha ha' hr hr'
  rw[hget] at hk hk'
  by_cases e:k=h.n
  ·subst e
   rw[Mp.upd_self] at hr;cases hr
   rw[Mp.upd_ne _ _ _ (by omega)] at hr'
   have:=R.even _ _ _ hr';omega
  ·by_cases e':k'=h.n
   ·subst e'
    rw[Mp.upd_self] at hr';cases hr'
    rw[Mp.upd_ne _ _ _ (by omega)] at hr
    have:=R.even _ _ _ hr;omega
   ·rw[if_neg e] at hk;rw[if_neg e'] at hk'
    rw[Mp.upd_ne _ _ _ (by omega)] at hr hr'
    exact(R.own k k' x x' r s s' hne hk hk' ha ha' hr hr').imp (kin_new hdn) id
 ·intro f st hf
  obtain⟨a,b,c⟩:=R.famdom f st hf
  exact⟨Nat.lt_succ_of_lt a,fun x hx=>Nat.lt_succ_of_lt (b x hx),c⟩
 ·intro k cs t f hk
  rw[hget] at hk
  by_cases e:k=h.n
  ·rw[if_pos e] at hk;cases hk;simp[IObj.lone] at hl
  ·rw[if_neg e] at hk;exact R.fam k cs t f hk
 ·intro f st hf
  have hlt:=(R.famdom f st hf).2.1
  refine(R.long f st hf).imp_of_mem fun {x y} hx hy hxy=>?_
  have ex:x≠h.n:=by have:=hlt x hx;omega
  have ey:y≠h.n:=by have:=hlt y hy;omega
  intro cs t g cs' t' g' r s s' h1 h2 h3 h4
  rw[hget,if_neg ex] at h1;rw[hget,if_neg ey] at h2
  rw[Mp.upd_ne _ _ _ (by omega)] at h3 h4
  exact hxy cs t g cs' t' g' r s s' h1 h2 h3 h4
 ·intro f st x y hf hx hy
  have hlt:=(R.famdom f st hf).2.1
  rw[Mp.upd_ne _ _ _ (by have:=hlt x hx;omega),Mp.upd_ne _ _ _ (by have:=hlt y hy;omega)]
  exact R.whole f st x y hf hx hy
 ·intro b hb
  by_cases e:b=2*h.n
  ·exact⟨h.n,e,Nat.le_refl _,Nat.lt_succ_self _⟩
  ·exact absurd (Mp.upd_ne _ _ _ e) hb
 ·intro k hk _
  rw[hget,if_neg (by omega)]
def World.put (w:World) (r:Nat) (o:Obj):World:={ w with heap:=w.heap.setIfInBounds r o }
theorem heap_put (w:World) (r:Nat) (o:Obj) (r':Nat):(World.put w r o).heap[r']?=if r'=r∧r<w.heap.size then some o else w.heap[r']?:=by
 show(w.heap.setIfInBounds r o)[r']?=_
 rw[Array.getElem?_setIfInBounds]
 by_cases h:r'=r
 ·subst h
  by_cases hr:r'<w.heap.size<;>simp[hr]
 ·rw[if_neg (fun e=>h e.symm),if_neg (fun e=>h e.1)]
theorem size_put (w:World) (r:Nat) (o:Obj):(World.put w r o).heap.size=w.heap.size:=by
 show(w.heap.setIfInBounds r o).size=_
 simp
theorem below_put {B:Nat} {w0 w:World} (h:Below B w0 w) {r:Nat} (hr:B≤r) (o:Obj):Below B w0 (World.put w r o) :=
 ⟨h.os,h.tape,h.output,by rw[size_put];exact h.size,fun k hk=>by rw[heap_put,if_neg (by omega)];exact h.block k hk⟩
def setsA (c:Array Value) (q:Nat):List Value→Array Value
 | []=>c
 | v :: vs=>setsA (c.setIfInBounds q v) (q+1) vs
theorem size_setsA : ∀(vs:List Value) (c:Array Value) (q:Nat),(setsA c q vs).size=c.size
 | [],c,q=>rfl
 | v :: vs,c,q=>by rw[setsA,size_setsA vs,Array.size_setIfInBounds]
theorem get_setsA : ∀(vs:List Value) (c:Array Value) (q j:Nat),q+vs.length≤c.size→(setsA c q vs)[j]?=if q≤j∧j<q+vs.length then vs[j - q]? else c[j]?
 | [],c,q,j,h=>by simp only[setsA,List.length_nil];rw[if_neg (by omega)]
 | v :: vs,c,q,j,h=>by
  simp only[List.length_cons] at h
  rw[setsA,get_setsA vs _ _ _ (by rw[Array.size_setIfInBounds];omega),Array.getElem?_setIfInBounds]
  by_cases h1:j=q
  ·subst h1
   rw[if_neg (by omega),if_pos rfl,if_pos (by omega),if_pos (by simp)]
   simp
  ·by_cases h2:q+1≤j∧j<q+1+vs.length
   ·rw[if_pos h2,if_pos (by simp only[List.length_cons];omega)]
    rw[show j - q=(j - (q+1))+1 from by omega,List.getElem?_cons_succ]
   ·rw[if_neg h2,if_neg (fun e=>h1 e.symm),if_neg (by simp only[List.length_cons];omega)]
theorem length_splice (cs:List Value) (o:Nat) (vs:List Value) (h:o+vs.length≤cs.length):(IH.splice cs o vs).length=cs.length:=by
 simp[IH.splice];omega
theorem get_splice (cs:List Value) (o:Nat) (vs:List Value) (h:o+vs.length≤cs.length) (j:Nat) :
  (IH.splice cs o vs)[j]?=if o≤j∧j<o+vs.length then vs[j - o]? else cs[j]?:=by
 unfold IH.splice
 by_cases h1:j<o
 ·rw[List.getElem?_append_left (by simp;omega),List.getElem?_take_of_lt h1,if_neg (by omega)]
 ·rw[List.getElem?_append_right (by simp;omega)]
  have e:(cs.take o).length=o:=by simp;omega
  rw[e]
  by_cases h2:j<o+vs.length
  ·rw[List.getElem?_append_left (by omega),if_pos (by omega)]
  ·rw[List.getElem?_append_right (by omega),if_neg (by omega),List.getElem?_drop]
   congr 1;omega
theorem RowAt.splice {m:Mp} {cs:List Value} {c:Array Value} {s o:Nat} {vs vs':List Value} (h:RowAt m cs c s) (ho:o+vs.length≤cs.length) (hv:LRel m vs vs') :
  RowAt m (IH.splice cs o vs) (setsA c (s+o) vs') s:=by
 have hl:=hv.1
 refine⟨by rw[length_splice cs o vs ho,size_setsA];exact h.1,fun i v hi=>?_⟩
 rw[get_splice cs o vs ho] at hi
 rw[get_setsA vs' c _ _ (by have:=h.1;omega)]
 by_cases h1:o≤i∧i<o+vs.length
 ·rw[if_pos h1] at hi;rw[if_pos (by omega)]
  rw[show s+i - (s+o)=i - o from by omega]
  obtain⟨v',a,b⟩:=hv.get hi
  exact⟨v',a,b⟩
 ·rw[if_neg h1] at hi;rw[if_neg (by omega)]
  exact h.2 i v hi
theorem cellOK_of {m:Mp} {v v':Value} (h:VRel m v v') (hv:cellOK v=true):cellOK v'=true:=by
 cases h<;>simp_all [cellOK]
theorem setCell_put (w:World) (r q:Nat) (v:Value) (c:Array Value) (el:TypeId) (h:w.heap[r]?=some (.cells c el)) :
  w.setCell ⟨r,q,none⟩ v=World.put w r (.cells (c.setIfInBounds q v) el):=by
 have hr:r<w.heap.size:=(Array.getElem?_eq_some_iff.1 h).1
 unfold Go.World.setCell World.put
 congr 1
 apply Array.ext_getElem?
 intro i
 rw[Array.getElem?_modify,Array.getElem?_setIfInBounds]
 by_cases hi:r=i
 ·subst hi
  have e:=(Array.getElem?_eq_some_iff.1 h).2
  simp[hr,e]
 ·simp[hi]
theorem put_put (w:World) (r:Nat) (a b:Obj):World.put (World.put w r a) r b=World.put w r b:=by
 unfold World.put
 simp
theorem run_storeCells (P:Program) (r p:Nat) (el:TypeId) : ∀(vs:List Value) (i:Nat) (w:World) (c:Array Value),w.heap[r]?=some (.cells c el) →
  p+i+vs.length≤c.size→(∀v∈vs,cellOK v=true)→(storeCells ⟨r,p,none⟩ vs i).run P w=.ok () (if vs = [] then w else World.put w r (.cells (setsA c (p+i) vs) el))
 | [],i,w,c,h,hl,hv=>by simp[storeCells,pure]
 | v :: vs,i,w,c,h,hl,hv=>by
  have hr:r<w.heap.size:=(Array.getElem?_eq_some_iff.1 h).1
  simp only[List.length_cons] at hl
  have hcell:w.cell? (Addr.add ⟨r,p,none⟩ i)=some (c[p+i]'(by omega)):=by
   have:(Addr.add ⟨r,p,none⟩ i).block=r∧(Addr.add ⟨r,p,none⟩ i).off=p+i∧(Addr.add ⟨r,p,none⟩ i).spot=none:=by
    unfold Addr.add;by_cases h0:i=0<;>simp[h0]
   obtain⟨a,b,d⟩:=this
   simp[World.cell?,a,b,d,h]
  have hadd:Addr.add ⟨r,p,none⟩ i=⟨r,p+i,none⟩:=by unfold Addr.add;by_cases h0:i=0<;>simp[h0]
  have hfz:w.frozen? (Addr.add ⟨r,p,none⟩ i)=false:=by
   rw[hadd];simp[World.frozen?,h]
  have h1:=hv v (by simp)
  have hput:(World.put w r (.cells (c.setIfInBounds (p+i) v) el)).heap[r]?=some (.cells (c.setIfInBounds (p+i) v) el):=by rw[heap_put,if_pos ⟨rfl,hr⟩]
  have ih:=run_storeCells P r p el vs (i+1) (World.put w r (.cells (c.setIfInBounds (p+i) v) el)) (c.setIfInBounds (p+i) v) hput (by rw[Array.size_setIfInBounds];omega) (fun x hx=>hv x (by simp[hx]))
  have hstore:(storeCells ⟨r,p,none⟩ (v :: vs) i).run P w=(storeCells ⟨r,p,none⟩ vs (i+1)).run P (w.setCell (Addr.add ⟨r,p,none⟩ i) v):=by
   cases v<;>first
    | (simp[cellOK] at h1;done)
    | (simp only[storeCells,Go.store,bind,Sem.bind,Sem.run,hcell,hfz];rfl)
  rw[hstore,hadd,setCell_put w r (p+i) v c el h,ih]
  simp only[reduceCtorEq,if_false]
  rw[setsA]
  by_cases hvs:vs = []
  ·subst hvs;simp[setsA]
  ·rw[if_neg hvs,put_put,show p+(i+1)=p+i+1 from by omega]
theorem Rel.write {B:Nat} {w0:World} {m:Mp} {h:IH} {w:World} (R:Rel B w0 m h w) {k r s:Nat} {cs:List Value} {t:Nat} {fam:Option Nat} {c:Array Value} {el:TypeId} {cs':List Value} {c':Array Value}
  (hk:h.ext.get k=some (.cells cs t fam)) (hm:m (2*k)=some (r,s)) (hr:w.heap[r]?=some (.cells c el)) (hrow:RowAt m cs' c' s) (hlen:cs'.length=cs.length) (hsz:c'.size=c.size)
  (fam':Option Nat) (hfam':fam'=fam∨fam'=none) (dead:List Nat) (hdead:match fam with|none=>dead = []|some f => ∃st,h.fams.get f=some st∧dead=st.filter (· != k)) :
  Rel B w0 m { h with ext:=(IH.killAll h.ext dead).set k (.cells cs' t fam') } (World.put w r (.cells c' el)) ∧
   Step m h w m { h with ext:=(IH.killAll h.ext dead).set k (.cells cs' t fam') } (World.put w r (.cells c' el)):=by
 have hrs:=R.even k r s hm
 have hkn:k<h.n:=by
  rcases Nat.lt_or_ge k h.n with e|e
  ·exact e
  ·have:=R.dom k e;rw[this] at hk;cases hk
 have hget : ∀j,((IH.killAll h.ext dead).set k (.cells cs' t fam')).get j=if j=k then some (.cells cs' t fam') else if j∈dead then some .dead else h.ext.get j:=fun j=>by
  rw[Tr.get_set,get_killAll]
 have hdk:k∉dead:=by
  cases fam with
  | none=>simp at hdead;simp[hdead]
  | some f=>obtain⟨st,_,e⟩:=hdead;simp[e]
 have hdd : ∀j,j∈dead → ∃f st,fam=some f∧h.fams.get f=some st∧j∈st:=fun j hj=>by
  cases fam with
  | none=>simp at hdead;simp[hdead] at hj
  | some f=>obtain⟨st,a,e⟩:=hdead;exact⟨f,st,rfl,a,by rw[e] at hj;exact(List.mem_filter.1 hj).1⟩
 have hsame : ∀j o s',j≠k→h.ext.get j=some o→o.alive=true→m (2*j)=some (r,s')→j∈dead:=by
  intro j o s' hj ho ha hmj
  obtain⟨_,_,_,_,f,st,a,b,d,e1,e2⟩:=(R.own j k o _ r s' s hj ho hk ha rfl hmj hm).resolve_right fun e=>by cases e.2
  rw[hk] at b;cases b
  obtain⟨st',d',e'⟩:=hdead
  rw[d] at d';cases d'
  rw[e'];exact List.mem_filter.2 ⟨e1,by simpa using hj⟩
 have hold : ∀r',r'≠r→(World.put w r (.cells c' el)).heap[r']?=w.heap[r']?:=fun r' h'=>by rw[heap_put,if_neg (fun e=>h' e.1)]
 have hnew:(World.put w r (.cells c' el)).heap[r]?=some (.cells c' el):=by rw[heap_put,if_pos ⟨rfl,hrs.2⟩]
 refine⟨⟨below_put R.below hrs.1 _,by rw[size_put];exact R.size,?_,R.odd,fun j r' s' hj=>by rw[size_put];exact R.even j r' s' hj,?_,?_,?_,R.famdom,?_,?_,R.whole⟩,
  ⟨Mp.le_refl m,fun b e=>absurd rfl e,Nat.le_refl _,rfl,?_,?_,by rw[size_put];exact Nat.le_refl _,fun k r s a b=>by have:k<h.n:=b;omega,fun _ _ _ h=>h⟩⟩
 ·intro b bs hb
  obtain⟨r0,s0,hm0,hb1,c1,el1,fz,hc,hrw⟩:=R.base b bs hb
  exact⟨r0,s0,hm0,hb1,c1,el1,fz,by rw[hold r0 (by omega)];exact hc,hrw⟩
 ·intro j hj
  have hj':h.n≤j:=hj
  show((IH.killAll h.ext dead).set k (.cells cs' t fam')).get j=none
  rw[hget,if_neg (by omega)]
  by_cases hd:j∈dead
  ·obtain⟨f,st,_,a,e⟩:=hdd j hd
   have:=(R.famdom f st a).2.1 j e;omega
  ·rw[if_neg hd];exact R.dom j hj'
 ·intro j o r' s' ho hj
  have ho':(if j=k then some (IObj.cells cs' t fam') else if j∈dead then some .dead else h.ext.get j)=some o:=by rw[←hget];exact ho
  by_cases e:j=k
  ·subst e
   rw[if_pos rfl] at ho';cases ho'
   rw[hm] at hj;cases hj
   obtain⟨c2,el2,hc2,_,hz1,hz2⟩:=R.obj j _ r s hk hm
   rw[hr] at hc2;cases hc2
   exact⟨c',el,hnew,hrow,hz1,by rw[hsz];exact hz2⟩
  ·rw[if_neg e] at ho'
   by_cases hd:j∈dead
   ·rw[if_pos hd] at ho';cases ho';trivial
   ·rw[if_neg hd] at ho'
    by_cases hr':r'=r
    ·subst hr'
     cases o with
     | dead=>trivial
     | _=>exact absurd (hsame j _ s' e ho' rfl hj) hd
    ·exact(R.obj j o r' s' ho' hj).mono (Mp.le_refl m) (hold r' hr') rfl
 ·intro j j' o o' r' s1 s2 hne ho ho' ha ha' hj hj'
  have e1:(if j=k then some (IObj.cells cs' t fam') else if j∈dead then some .dead else h.ext.get j)=some o:=by rw[←hget];exact ho
  have e2:(if j'=k then some (IObj.cells cs' t fam') else if j'∈dead then some .dead else h.ext.get j')=some o':=by rw[←hget];exact ho'
  have nd : ∀{i:Nat} {x:IObj},i≠k→(if i=k then some (IObj.cells cs' t fam') else if i∈dead then some .dead else h.ext.get i)=some x→x.alive=true→i∉dead∧h.ext.get i=some x:=by
   intro i x hi hx hxa
   rw[if_neg hi] at hx
   by_cases hd:i∈dead
   ·rw[if_pos hd] at hx;cases hx;simp[IObj.alive] at hxa
   ·rw[if_neg hd] at hx;exact⟨hd,hx⟩
  by_cases c1:j=k
  ·subst c1
   rw[hm] at hj;cases hj
   obtain⟨hd,hx⟩:=nd (fun e=>hne e.symm) e2 ha'
   exact absurd (hsame j' o' s2 (fun e=>hne e.symm) hx ha' hj') hd
  ·obtain⟨hd,hx⟩:=nd c1 e1 ha
   by_cases c2:j'=k
   ·subst c2
    rw[hm] at hj';cases hj'
    exact absurd (hsame j o s1 c1 hx ha hj) hd
   ·obtain⟨hd',hx'⟩:=nd c2 e2 ha'
    refine(R.own j j' o o' r' s1 s2 hne hx hx' ha ha' hj hj').imp (fun⟨a1,a2,a3,a4,f,st,b1,b2,b3,b4,b5⟩=>?_) id
    exact⟨a1,a2,a3,a4,f,st,by rw[hget,if_neg c1,if_neg hd];exact b1,by rw[hget,if_neg c2,if_neg hd'];exact b2,b3,b4,b5⟩
 ·intro j js t' f hj
  have hj':(if j=k then some (IObj.cells cs' t fam') else if j∈dead then some .dead else h.ext.get j)=some (.cells js t' (some f)):=by rw[←hget];exact hj
  by_cases e:j=k
  ·subst e;rw[if_pos rfl] at hj';cases hj'
   rcases hfam' with e|e
   ·subst e;exact R.fam j cs t f hk
   ·cases e
  ·rw[if_neg e] at hj'
   by_cases hd:j∈dead
   ·rw[if_pos hd] at hj';cases hj'
   ·rw[if_neg hd] at hj';exact R.fam j js t' f hj'
 ·intro f st hf
  refine(R.long f st hf).imp fun {x y} hxy=>?_
  have back : ∀(i:Nat) (js:List Value) (t0:Nat) (g:Option Nat),((IH.killAll h.ext dead).set k (.cells cs' t fam')).get i=some (.cells js t0 g) → ∃js' t' g',h.ext.get i=some (.cells js' t' g')∧js'.length=js.length:=by
   intro i js t' g hi
   rw[hget] at hi
   by_cases e:i=k
   ·subst e;rw[if_pos rfl] at hi;cases hi;exact⟨_,_,_,hk,hlen.symm⟩
   ·rw[if_neg e] at hi
    by_cases hd:i∈dead
    ·rw[if_pos hd] at hi;cases hi
    ·rw[if_neg hd] at hi;exact⟨_,_,_,hi,rfl⟩
  intro xs t1 g1 ys t2 g2 r' s1 s2 h1 h2 h3 h4
  obtain⟨xs',t3,g3,b1,b2⟩:=back x xs t1 g1 h1
  obtain⟨ys',t4,g4,b3,b4⟩:=back y ys t2 g2 h2
  rw[←b2,←b4]
  exact hxy xs' t3 g3 ys' t4 g4 r' s1 s2 b1 b3 h3 h4
 ·intro r' hr' hno
  exact hold r' (fun e=>hno k s hkn (e▸hm))
 ·intro j hj hmj
  show((IH.killAll h.ext dead).set k (.cells cs' t fam')).get j=h.ext.get j
  rw[hget]
  have e:j≠k:=fun e=>by subst e;rw[hm] at hmj;cases hmj
  rw[if_neg e,if_neg ?_]
  intro hd
  obtain⟨f,st,e1,a,e2⟩:=hdd j hd
  subst e1
  obtain⟨st',b1,b2⟩:=R.fam k cs t f hk
  rw[a] at b1;cases b1
  have:=R.whole f st k j a b2 e2 (by rw[hm];rfl)
  rw[hmj] at this;cases this
end Go.Id

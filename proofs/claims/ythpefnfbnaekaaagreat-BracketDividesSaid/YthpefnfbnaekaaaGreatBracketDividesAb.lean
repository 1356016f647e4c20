/-
  The ideal machine: changes of maps and loops; an append that may or may not share its memory. The ideal machine: each operation that calls no function, first part: reading, writing, making.
-/
import Derived.Test.YthpefnfbnaekaaaGreatBracketDividesAa
import Derived.Laws.Sem
import Derived.Laws.Cells
import Derived.Laws.Entries
import Derived.Laws.Tables
import Derived.Laws.BitsLemmas
set_option linter.unusedVariables false
set_option linter.unusedSimpArgs false
set_option linter.defProp false
set_option linter.deprecated false
namespace Go.Id
open Go Go.RowKit
def IObj.other:IObj→Bool
 | .cells _ _ _=>false
 | _=>true
theorem Rel.setObj {B:Nat} {w0:World} {m:Mp} {h:IH} {w:World} (R:Rel B w0 m h w) {k r s:Nat} {o o1:IObj} {o':Obj}
  (hk:h.ext.get k=some o) (ho:o.other=true) (ha:o.alive=true) (hm:m (2*k)=some (r,s)) (ho1:o1.other=true) (hrel : ∀w' z,w'.heap[r]?=some o'→ObjRel m w' r s z o1) :
  Rel B w0 m { h with ext:=h.ext.set k o1 } (World.put w r o')∧Step m h w m { h with ext:=h.ext.set k o1 } (World.put w r o'):=by
 have hrs:=R.even k r s hm
 have hkn:k<h.n:=by
  rcases Nat.lt_or_ge k h.n with e|e
  ·exact e
  ·have:=R.dom k e;rw[this] at hk;cases hk
 have hget : ∀j,(h.ext.set k o1).get j=if j=k then some o1 else h.ext.get j:=fun j=>Tr.get_set _ _ _ _
 have hold : ∀r',r'≠r→(World.put w r o').heap[r']?=w.heap[r']?:=fun r' h'=>by rw[heap_put,if_neg (fun e=>h' e.1)]
 have hnew:(World.put w r o').heap[r]?=some o':=by rw[heap_put,if_pos ⟨rfl,hrs.2⟩]
 have hno : ∀j x s',j≠k→h.ext.get j=some x→x.alive=true→m (2*j)≠some (r,s'):=by
  intro j x s' hj hx hxa hmj
  obtain⟨_,_,_,_,f,st,a,b,_⟩:=R.own j k x _ r s' s hj hx hk hxa ha hmj hm
  rw[hk] at b;cases b;simp[IObj.other] at ho
 have hcells : ∀j cs t f,(h.ext.set k o1).get j=some (.cells cs t f)→h.ext.get j=some (.cells cs t f):=by
  intro j cs t f hj
  rw[hget] at hj
  by_cases e:j=k
  ·rw[if_pos e] at hj;cases hj;simp[IObj.other] at ho1
  ·rw[if_neg e] at hj;exact hj
 have hcells' : ∀j cs t f,h.ext.get j=some (.cells cs t f)→(h.ext.set k o1).get j=some (.cells cs t f):=by
  intro j cs t f hj
  rw[hget,if_neg ?_];exact hj
  intro e;subst e;rw[hk] at hj;cases hj;simp[IObj.other] at ho
 refine⟨⟨below_put R.below hrs.1 _,by rw[size_put];exact R.size,?_,R.odd,fun j r' s' hj=>by rw[size_put];exact R.even j r' s' hj,?_,?_,?_,R.famdom,?_,?_,R.whole⟩,
  ⟨Mp.le_refl m,fun b e=>absurd rfl e,Nat.le_refl _,rfl,?_,?_,by rw[size_put];exact Nat.le_refl _,fun k r s a b=>by have:k<h.n:=b;omega,fun _ _ _ h=>h⟩⟩
 ·intro b bs hb
  obtain⟨r0,s0,hm0,hb1,c1,el1,fz,hc,hrw⟩:=R.base b bs hb
  exact⟨r0,s0,hm0,hb1,c1,el1,fz,by rw[hold r0 (by omega)];exact hc,hrw⟩
 ·intro j hj
  show(h.ext.set k o1).get j=none
  rw[hget,if_neg (by have:h.n≤j:=hj;omega)]
  exact R.dom j hj
 ·intro j x r' s' hx hj
  have hx':(if j=k then some o1 else h.ext.get j)=some x:=by rw[←hget];exact hx
  by_cases e:j=k
  ·subst e
   rw[if_pos rfl] at hx';cases hx'
   rw[hm] at hj;cases hj
   exact hrel _ _ hnew
  ·rw[if_neg e] at hx'
   by_cases hr':r'=r
   ·subst hr'
    cases x with
    | dead=>trivial
    | _=>exact absurd hj (hno j _ s' e hx' rfl)
   ·exact(R.obj j x r' s' hx' hj).mono (Mp.le_refl m) (hold r' hr') rfl
 ·intro j j' x x' r' s1 s2 hne hx hx' hxa hxa' hj hj'
  have e1:(if j=k then some o1 else h.ext.get j)=some x:=by rw[←hget];exact hx
  have e2:(if j'=k then some o1 else h.ext.get j')=some x':=by rw[←hget];exact hx'
  by_cases c1:j=k
  ·subst c1
   rw[if_neg (fun e=>hne e.symm)] at e2
   rw[hm] at hj;cases hj
   exact absurd hj' (hno j' x' s2 (fun e=>hne e.symm) e2 hxa')
  ·rw[if_neg c1] at e1
   by_cases c2:j'=k
   ·subst c2
    rw[hm] at hj';cases hj'
    exact absurd hj (hno j x s1 c1 e1 hxa)
   ·rw[if_neg c2] at e2
    obtain⟨a1,a2,a3,a4,f,st,b1,b2,b3⟩:=R.own j j' x x' r' s1 s2 hne e1 e2 hxa hxa' hj hj'
    exact⟨a1,a2,a3,a4,f,st,hcells' _ _ _ _ b1,hcells' _ _ _ _ b2,b3⟩
 ·intro j cs t f hj
  exact R.fam j cs t f (hcells j cs t _ hj)
 ·intro f st hf
  refine(R.long f st hf).imp fun {x y} hxy=>?_
  intro xs t1 g1 ys t2 g2 r' s1 s2 h1 h2 h3 h4
  exact hxy xs t1 g1 ys t2 g2 r' s1 s2 (hcells _ _ _ _ h1) (hcells _ _ _ _ h2) h3 h4
 ·intro r' hr' hno
  exact hold r' (fun e=>hno k s hkn (e▸hm))
 ·intro j hj hmj
  show(h.ext.set k o1).get j=h.ext.get j
  rw[hget,if_neg (fun e=>by subst e;rw[hm] at hmj;cases hmj)]
def FamIs (h:IH) (k f:Nat) (above below:List Nat):Option Nat→Prop
 | none=>f=h.n∧above = []∧below = []
 | some g=>f=g ∧ ∃st,h.fams.get g=some st∧st=above ++ k :: below
theorem Rel.grow {B:Nat} {w0:World} {m:Mp} {h:IH} {w:World} (R:Rel B w0 m h w) {k r s:Nat} {cs:List Value} {t:Nat} {fam:Option Nat}
  (hk:h.ext.get k=some (.cells cs t fam)) (hm:m (2*k)=some (r,s)) (hfresh:m (2*h.n)=none)
  (f:Nat) (above below:List Nat) (hfam:FamIs h k f above below fam)
  (cs':List Value) (t':Nat) (r' s':Nat) (z:Nat×Nat) (w':World)
  (hw:Below B w0 w') (hsz:w.heap.size≤w'.heap.size) (hr':B≤r'∧r'<w'.heap.size)
  (hrow : ∃c el,w'.heap[r']?=some (.cells c el)∧RowAt m cs' c s'∧z.1=t'∧z.2≤c.size)
  (hcase:(w.heap.size≤r'∧(∀q,q<w.heap.size→w'.heap[q]?=w.heap[q]?)) ∨
   (r'=r∧s+cs.length≤s'+cs'.length∧(∀q,q<w.heap.size→q≠r→w'.heap[q]?=w.heap[q]?) ∧
    ∀c el,w.heap[r]?=some (.cells c el) → ∃c',w'.heap[r]?=some (.cells c' el)∧c.size≤c'.size ∧ ∀i,i<s+cs.length→c'[i]?=c[i]?)) :
  Rel B w0 (m.upd (2*h.n) (r',s') z) (grown h k f cs t above below cs' t') w'∧Step m h w (m.upd (2*h.n) (r',s') z) (grown h k f cs t above below cs' t') w':=by
 have hle:m.le (m.upd (2*h.n) (r',s') z):=Mp.le_upd hfresh
 have hkn:k<h.n:=by
  rcases Nat.lt_or_ge k h.n with e|e
  ·exact e
  ·have:=R.dom k e;rw[this] at hk;cases hk
 have hdn:=R.dom h.n (Nat.le_refl _)
 have hrs:=R.even k r s hm
 have hst:(fam=none∧f=h.n∧above = []∧below = [])∨(fam=some f∧h.fams.get f=some (above ++ k :: below)):=by
  cases fam with
  | none=>exact .inl ⟨rfl,hfam⟩
  | some g=>obtain⟨e,st,a,b⟩:=hfam;subst e;subst b;exact .inr ⟨rfl,a⟩
 have hka:k∉above∧k∉below:=by
  rcases hst with⟨_,_,rfl,rfl⟩|⟨_,a⟩
  ·simp
  ·have:=(R.famdom f _ a).2.2
   rw[List.nodup_append] at this
   obtain⟨_,b,d⟩:=this
   exact⟨fun hx=>d k hx k (by simp) rfl,(List.nodup_cons.1 b).1⟩
 have habove : ∀j∈above,fam=some f∧h.fams.get f=some (above ++ k :: below):=by
  intro j hj
  rcases hst with⟨_,_,rfl,rfl⟩|x
  ·cases hj
  ·exact x
 have hget : ∀j,(grown h k f cs t above below cs' t').ext.get j=if j=h.n then some (.cells cs' t' (some f)) else if j=k then some (.cells cs t (some f)) else if j∈above then some .dead else h.ext.get j:=fun j=>by
  show(((IH.killAll h.ext above).set k (.cells cs t (some f))).set h.n (.cells cs' t' (some f))).get j=_
  rw[Tr.get_set,Tr.get_set,get_killAll]
 have hfams : ∀g,(grown h k f cs t above below cs' t').fams.get g=if g=f then some (h.n :: k :: below) else h.fams.get g:=fun g=>Tr.get_set _ _ _ _
 have hback : ∀j x,j≠h.n→(grown h k f cs t above below cs' t').ext.get j=some x→x.alive=true→(j∉above) ∧ ∃y,h.ext.get j=some y∧y.alive=true ∧
   ((j≠k∧x=y)∨(j=k∧x=.cells cs t (some f))):=by
  intro j x hj hx ha
  rw[hget,if_neg hj] at hx
  by_cases e:j=k
  ·subst e;rw[if_pos rfl] at hx;cases hx
   exact⟨hka.1,_,hk,rfl,.inr ⟨rfl,rfl⟩⟩
  ·rw[if_neg e] at hx
   by_cases hd:j∈above
   ·rw[if_pos hd] at hx;cases hx;simp[IObj.alive] at ha
   ·rw[if_neg hd] at hx;exact⟨hd,x,hx,ha,.inl ⟨e,rfl⟩⟩
 have hshare : ∀j x s1,j≠h.n→j≠k→j∉above→h.ext.get j=some x→x.alive=true→m (2*j)=some (r,s1) → ∃js t1,x=.cells js t1 (some f)∧j∈below∧fam=some f∧s1+js.length≤s+cs.length:=by
  intro j x s1 hjn hjk hja hx ha hmj
  obtain⟨a1,a2,a3,a4,g,st,b1,b2,b3,b4,b5⟩:=R.own j k x _ r s1 s hjk hx hk ha rfl hmj hm
  rw[hk] at b2;cases b2
  rcases hst with⟨e,_⟩|⟨e,a⟩
  ·cases e
  ·cases e
   rw[a] at b3;cases b3
   have hjb:j∈below:=by
    rcases List.mem_append.1 b4 with h1|h1
    ·exact absurd h1 hja
    ·rcases List.mem_cons.1 h1 with h2|h2
     ·exact absurd h2 hjk
     ·exact h2
   rw[hx] at b1;cases b1
   have hp:=R.long f _ a
   rw[List.pairwise_append] at hp
   have hq:=(List.pairwise_cons.1 hp.2.1).1 j hjb cs t (some f) a1 a2 (some f) r s s1 hk hx hm hmj
   exact⟨a1,a2,rfl,hjb,rfl,hq⟩
 have hobjold : ∀j x q s1,j≠h.n→h.ext.get j=some x→(x.alive=true→j∉above)→m (2*j)=some (q,s1)→ObjRel (m.upd (2*h.n) (r',s') z) w' q s1 ((m.upd (2*h.n) (r',s') z).ez (2*j)) x:=by
  intro j x q s1 hjn hx hal hq
  have hqs:=R.even j q s1 hq
  have hez:(m.upd (2*h.n) (r',s') z).ez (2*j)=m.ez (2*j):=Mp.ez_ne _ _ _ (by omega)
  rcases hcase with⟨_,hsame⟩|⟨_,_,hsame,hr⟩
  ·exact(R.obj j x q s1 hx hq).mono hle (hsame q hqs.2) hez
  ·by_cases e:q=r
   ·subst e
    cases x with
    | dead=>trivial
    | map es =>
     by_cases hjk:j=k
     ·subst hjk;rw[hk] at hx;cases hx
     ·obtain⟨_,_,e,_⟩:=hshare j _ s1 hjn hjk (hal rfl) hx rfl hq;cases e
    | loop l =>
     by_cases hjk:j=k
     ·subst hjk;rw[hk] at hx;cases hx
     ·obtain⟨_,_,e,_⟩:=hshare j _ s1 hjn hjk (hal rfl) hx rfl hq;cases e
    | iter k1 i1 l1 j1 =>
     by_cases hjk:j=k
     ·subst hjk;rw[hk] at hx;cases hx
     ·obtain⟨_,_,e,_⟩:=hshare j _ s1 hjn hjk (hal rfl) hx rfl hq;cases e
    | cells js t1 g1 =>
     have hreach:s1+js.length≤s+cs.length:=by
      by_cases hjk:j=k
      ·subst hjk;rw[hk] at hx;cases hx;rw[hm] at hq;cases hq;exact Nat.le_refl _
      ·obtain⟨_,_,e,_,_,d⟩:=hshare j _ s1 hjn hjk (hal rfl) hx rfl hq;cases e;exact d
     obtain⟨c,el,hc,hrw,hz1,hz2⟩:=R.obj j _ q s1 hx hq
     obtain⟨c',hc',hcs,hci⟩:=hr c el hc
     refine⟨c',el,hc',⟨Nat.le_trans hrw.1 hcs,fun i v hv=>?_⟩,by rw[hez];exact hz1,by rw[hez];exact Nat.le_trans hz2 hcs⟩
     obtain⟨v',a,b⟩:=hrw.2 i v hv
     have hil:i<js.length:=by
      rcases Nat.lt_or_ge i js.length with h1|h1
      ·exact h1
      ·rw[List.getElem?_eq_none h1] at hv;cases hv
     exact⟨v',by rw[hci (s1+i) (by omega)];exact a,b.mono hle⟩
   ·exact(R.obj j x q s1 hx hq).mono hle (hsame q hqs.2 e) hez
 refine⟨⟨hw,Nat.le_trans R.size hsz,?_,?_,?_,?_,?_,?_,?_,?_,?_,?_⟩,⟨hle,?_,Nat.le_succ _,rfl,?_,?_,hsz,fun j q x hj1 hj2 hj=>by
  obtain rfl:j=h.n:=by have:(grown h k f cs t above below cs' t').n=h.n+1:=rfl;omega
  rw[Mp.upd_self] at hj;cases hj
  rcases hcase with⟨a,_⟩|⟨a,_⟩
  ·exact .inl a
  ·exact .inr ⟨k,s,hkn,a▸hm⟩,fun j hj hmj hnot g st hg=>by
  rw[hfams] at hg
  by_cases e:g=f
  ·rw[if_pos e] at hg;cases hg
   intro hx
   rcases List.mem_cons.1 hx with e1|hx
   ·omega
   ·rcases List.mem_cons.1 hx with e1|hx
    ·subst e1;rw[hm] at hmj;cases hmj
    ·rcases hst with⟨_,_,rfl,rfl⟩|⟨_,a⟩
     ·cases hx
     ·exact hnot _ _ a (List.mem_append.2 (.inr (List.mem_cons.2 (.inr hx))))
  ·rw[if_neg e] at hg;exact hnot g st hg⟩⟩
 ·intro b bs hb
  obtain⟨r0,s0,hm0,hb1,c1,el1,fz,hc,hrw⟩:=R.base b bs hb
  refine⟨r0,s0,by rw[Mp.upd_ne _ _ _ (by omega)];exact hm0,hb1,c1,el1,fz,?_,hrw.1,fun i v hv=>let ⟨v',x,y⟩:=hrw.2 i v hv;⟨v',x,y.mono hle⟩⟩
  have hbs:r0<w.heap.size:=by have:=R.size;omega
  rcases hcase with⟨_,hsame⟩|⟨_,_,hsame,_⟩
  ·rw[hsame r0 hbs];exact hc
  ·rw[hsame r0 hbs (by omega)];exact hc
 ·intro b hb
  rw[Mp.upd_ne _ _ _ (by omega)]
  exact R.odd b hb
 ·intro j q x hj
  by_cases e:j=h.n
  ·subst e;rw[Mp.upd_self] at hj;cases hj;exact hr'
  ·rw[Mp.upd_ne _ _ _ (by omega)] at hj
   have:=R.even j q x hj;omega
 ·intro j hj
  have hj':h.n+1≤j:=hj
  rw[hget,if_neg (by omega),if_neg (by omega),if_neg ?_]
  ·exact R.dom j (by omega)
  ·intro hx
   have:=(R.famdom f _ (habove j hx).2).2.1 j (by simp[hx]);omega
 ·intro j x q s1 hx hj
  by_cases e:j=h.n
  ·subst e
   rw[hget,if_pos rfl] at hx;cases hx
   rw[Mp.upd_self] at hj;cases hj
   obtain⟨c,el,hc,hrw,hz1,hz2⟩:=hrow
   rw[Mp.ez_self]
   exact⟨c,el,hc,⟨hrw.1,fun i v hv=>let ⟨v',a,b⟩:=hrw.2 i v hv;⟨v',a,b.mono hle⟩⟩,hz1,hz2⟩
  ·rw[Mp.upd_ne _ _ _ (by omega)] at hj
   cases hxa:x.alive with
   | false=>cases x<;>simp_all [IObj.alive,ObjRel]
   | true =>
    obtain⟨hna,y,hy,hya,hc⟩:=hback j x e hx hxa
    have:=hobjold j y q s1 e hy (fun _=>hna) hj
    rcases hc with⟨_,rfl⟩|⟨hjk,rfl⟩
    ·exact this
    ·subst hjk;rw[hk] at hy;cases hy;exact this
 ·intro j j' x x' q s1 s2 hne hx hx' ha ha' hj hj'
  have up : ∀i js t1 g,i≠h.n→i∉above→h.ext.get i=some (.cells js t1 (some g))→(grown h k f cs t above below cs' t').ext.get i=some (.cells js t1 (some g)):=by
   intro i js t1 g hin hia hi
   rw[hget,if_neg hin]
   by_cases e:i=k
   ·subst e;rw[hk] at hi;cases hi
    rcases hst with⟨e,_⟩|⟨e,_⟩
    ·cases e
    ·cases e;simp
   ·rw[if_neg e,if_neg hia,hi]
  have newkin : ∀i y s3,i≠h.n→(grown h k f cs t above below cs' t').ext.get i=some y→y.alive=true→m (2*i)=some (r',s3)→Kin (grown h k f cs t above below cs' t') h.n i∧Kin (grown h k f cs t above below cs' t') i h.n:=by
   intro i y s3 hin hy hya hmi
   have hri:=R.even i r' s3 hmi
   rcases hcase with⟨hbig,_⟩|⟨hrr,_,_,_⟩
   ·omega
   ·subst hrr
    obtain⟨hna,z,hz,hza,hc⟩:=hback i y hin hy hya
    by_cases hik:i=k
    ·subst hik
     have g1:(grown h i f cs t above below cs' t').ext.get h.n=some (.cells cs' t' (some f)):=by rw[hget,if_pos rfl]
     have g2:(grown h i f cs t above below cs' t').ext.get i=some (.cells cs t (some f)):=by rw[hget,if_neg hin,if_pos rfl]
     have g3:(grown h i f cs t above below cs' t').fams.get f=some (h.n :: i :: below):=by rw[hfams,if_pos rfl]
     exact⟨⟨_,_,_,_,f,_,g1,g2,g3,by simp,by simp⟩,⟨_,_,_,_,f,_,g2,g1,g3,by simp,by simp⟩⟩
    ·obtain⟨js,t1,e,hb,_,_⟩:=hshare i z s3 hin hik hna hz hza hmi
     subst e
     have g1:(grown h k f cs t above below cs' t').ext.get h.n=some (.cells cs' t' (some f)):=by rw[hget,if_pos rfl]
     have g2:=up i js t1 f hin hna hz
     have g3:(grown h k f cs t above below cs' t').fams.get f=some (h.n :: k :: below):=by rw[hfams,if_pos rfl]
     exact⟨⟨_,_,_,_,f,_,g1,g2,g3,by simp,by simp[hb]⟩,⟨_,_,_,_,f,_,g2,g1,g3,by simp[hb],by simp⟩⟩
  by_cases c1:j=h.n
  ·subst c1
   rw[Mp.upd_self] at hj;cases hj
   rw[Mp.upd_ne _ _ _ (by omega)] at hj'
   exact(newkin j' x' s2 (fun e=>hne e.symm) hx' ha' hj').1
  ·by_cases c2:j'=h.n
   ·subst c2
    rw[Mp.upd_self] at hj';cases hj'
    rw[Mp.upd_ne _ _ _ (by omega)] at hj
    exact(newkin j x s1 c1 hx ha hj).2
   ·rw[Mp.upd_ne _ _ _ (by omega)] at hj hj'
    obtain⟨n1,y,hy,hya,_⟩:=hback j x c1 hx ha
    obtain⟨n2,y',hy',hya',_⟩:=hback j' x' c2 hx' ha'
    obtain⟨a1,a2,a3,a4,g,st,b1,b2,b3,b4,b5⟩:=R.own j j' y y' q s1 s2 hne hy hy' hya hya' hj hj'
    refine⟨a1,a2,a3,a4,g,if g=f then h.n :: k :: below else st,up j _ _ _ c1 n1 b1,up j' _ _ _ c2 n2 b2,?_,?_,?_⟩
    ·rw[hfams];by_cases e:g=f
     ·simp[e]
     ·simp[e,b3]
    ·by_cases e:g=f
     ·subst e
      rcases hst with⟨_,e,_⟩|⟨_,a⟩
      ·have:=(R.famdom _ _ b3).1;omega
      ·rw[a] at b3;cases b3
       rw[if_pos rfl]
       rcases List.mem_append.1 b4 with h1|h1
       ·exact absurd h1 n1
       ·simp[List.mem_cons.1 h1]
     ·rw[if_neg e];exact b4
    ·by_cases e:g=f
     ·subst e
      rcases hst with⟨_,e,_⟩|⟨_,a⟩
      ·have:=(R.famdom _ _ b3).1;omega
      ·rw[a] at b3;cases b3
       rw[if_pos rfl]
       rcases List.mem_append.1 b5 with h1|h1
       ·exact absurd h1 n2
       ·simp[List.mem_cons.1 h1]
     ·rw[if_neg e];exact b5
 ·intro g st hg
  rw[hfams] at hg
  by_cases e:g=f
  ·subst e
   rw[if_pos rfl] at hg;cases hg
   rcases hst with⟨_,e,_,rfl⟩|⟨_,a⟩
   ·exact⟨by show g<h.n+1;omega,by simp[grown];omega,by simp;omega⟩
   ·obtain⟨h1,h2,h3⟩:=R.famdom g _ a
    refine⟨Nat.lt_succ_of_lt h1,?_,?_⟩
    ·intro x hx
     show x<h.n+1
     rcases List.mem_cons.1 hx with e|hx
     ·omega
     ·have:=h2 x (List.mem_append.2 (.inr hx));omega
    ·rw[List.nodup_append] at h3
     exact List.nodup_cons.2 ⟨fun hx=>by have:=h2 h.n (List.mem_append.2 (.inr hx));omega,h3.2.1⟩
  ·rw[if_neg e] at hg
   obtain⟨h1,h2,h3⟩:=R.famdom g st hg
   exact⟨Nat.lt_succ_of_lt h1,fun x hx=>Nat.lt_succ_of_lt (h2 x hx),h3⟩
 ·intro j js t1 g hj
  rw[hget] at hj
  by_cases e:j=h.n
  ·rw[if_pos e] at hj;cases hj;exact⟨_,by rw[hfams,if_pos rfl],by simp[e]⟩
  ·rw[if_neg e] at hj
   by_cases e1:j=k
   ·rw[if_pos e1] at hj;cases hj;exact⟨_,by rw[hfams,if_pos rfl],by simp[e1]⟩
   ·rw[if_neg e1] at hj
    by_cases hd:j∈above
    ·rw[if_pos hd] at hj;cases hj
    ·rw[if_neg hd] at hj
     obtain⟨st,a,b⟩:=R.fam j js t1 g hj
     by_cases e2:g=f
     ·subst e2
      rcases hst with⟨_,e3,_⟩|⟨_,a'⟩
      ·have:=(R.famdom _ _ a).1;omega
      ·rw[a'] at a;cases a
       refine⟨_,by rw[hfams,if_pos rfl],?_⟩
       rcases List.mem_append.1 b with h1|h1
       ·exact absurd h1 hd
       ·exact List.mem_cons.2 (.inr h1)
     ·exact⟨st,by rw[hfams,if_neg e2];exact a,b⟩
 ·intro g st hg
  have bk : ∀i is t1 g1,i≠h.n→(grown h k f cs t above below cs' t').ext.get i=some (.cells is t1 g1) → ∃t2 g2,h.ext.get i=some (.cells is t2 g2):=by
   intro i is t1 g1 hin hi
   obtain⟨_,y,hy,_,hc⟩:=hback i _ hin hi rfl
   rcases hc with⟨_,rfl⟩|⟨e,e2⟩
   ·exact⟨_,_,hy⟩
   ·subst e;cases e2;exact⟨_,_,hk⟩
  rw[hfams] at hg
  by_cases e:g=f
  ·subst e
   rw[if_pos rfl] at hg;cases hg
   have hbelow : ∀y∈k :: below,y≠h.n∧y∉above:=by
    intro y hy
    rcases hst with⟨_,_,rfl,rfl⟩|⟨_,a⟩
    ·rcases List.mem_cons.1 hy with rfl|hy
     ·exact⟨by omega,by simp⟩
     ·cases hy
    ·have h2:=(R.famdom g _ a).2
     refine⟨fun e=>by have:=h2.1 y (List.mem_append.2 (.inr hy));omega,fun hx=>?_⟩
     exact(List.nodup_append.1 h2.2).2.2 y hx y hy rfl
   refine List.pairwise_cons.2 ⟨fun y hy=>?_,?_⟩
   ·intro xs t1 g1 ys t2 g2 q s1 s2 h1 h2 h3 h4
    obtain⟨hyn,hya⟩:=hbelow y hy
    rw[hget,if_pos rfl] at h1;cases h1
    rw[Mp.upd_self] at h3;cases h3
    rw[Mp.upd_ne _ _ _ (by omega)] at h4
    obtain⟨t3,g3,h5⟩:=bk y ys t2 g2 hyn h2
    have hyr:=R.even y _ _ h4
    rcases hcase with⟨hbig,_⟩|⟨hrr,hend,_,_⟩
    ·omega
    ·subst hrr
     by_cases hyk:y=k
     ·subst hyk;rw[hk] at h5;cases h5;rw[hm] at h4;cases h4;exact hend
     ·obtain⟨_,_,e,_,_,d⟩:=hshare y _ s2 hyn hyk hya h5 rfl h4;cases e;omega
   ·rcases hst with⟨_,_,rfl,rfl⟩|⟨_,a⟩
    ·simp
    ·have hp:=(List.pairwise_append.1 (R.long g _ a)).2.1
     refine hp.imp_of_mem fun {x y} hx hy hxy=>?_
     intro xs t1 g1 ys t2 g2 q s1 s2 h1 h2 h3 h4
     obtain⟨hxn,_⟩:=hbelow x hx
     obtain⟨hyn,_⟩:=hbelow y hy
     obtain⟨t3,g3,h5⟩:=bk x xs t1 g1 hxn h1
     obtain⟨t4,g4,h6⟩:=bk y ys t2 g2 hyn h2
     rw[Mp.upd_ne _ _ _ (by omega)] at h3 h4
     exact hxy xs t3 g3 ys t4 g4 q s1 s2 h5 h6 h3 h4
  ·rw[if_neg e] at hg
   have hlt:=(R.famdom g st hg).2.1
   refine(R.long g st hg).imp_of_mem fun {x y} hx hy hxy=>?_
   intro xs t1 g1 ys t2 g2 q s1 s2 h1 h2 h3 h4
   have hxn:x≠h.n:=by have:=hlt x hx;omega
   have hyn:y≠h.n:=by have:=hlt y hy;omega
   obtain⟨t3,g3,h5⟩:=bk x xs t1 g1 hxn h1
   obtain⟨t4,g4,h6⟩:=bk y ys t2 g2 hyn h2
   rw[Mp.upd_ne _ _ _ (by omega)] at h3 h4
   exact hxy xs t3 g3 ys t4 g4 q s1 s2 h5 h6 h3 h4
 ·intro g st x y hg hx hy
  rw[hfams] at hg
  by_cases e:g=f
  ·subst e
   rw[if_pos rfl] at hg;cases hg
   intro _
   by_cases hyn:y=h.n
   ·subst hyn;rw[Mp.upd_self];rfl
   ·have hy':y∈k :: below:=by
     rcases List.mem_cons.1 hy with e|e
     ·exact absurd e hyn
     ·exact e
    rw[Mp.upd_ne _ _ _ (by omega)]
    rcases hst with⟨_,_,rfl,rfl⟩|⟨_,a⟩
    ·rcases List.mem_cons.1 hy' with rfl|h1
     ·rw[hm];rfl
     ·cases h1
    ·exact R.whole g _ k y a (by simp) (List.mem_append.2 (.inr hy')) (by rw[hm];rfl)
  ·rw[if_neg e] at hg
   have hlt:=(R.famdom g st hg).2.1
   rw[Mp.upd_ne _ _ _ (by have:=hlt x hx;omega),Mp.upd_ne _ _ _ (by have:=hlt y hy;omega)]
   exact R.whole g st x y hg hx hy
 ·intro b hb
  by_cases e:b=2*h.n
  ·exact⟨h.n,e,Nat.le_refl _,Nat.lt_succ_self _⟩
  ·exact absurd (Mp.upd_ne _ _ _ e) hb
 ·intro q hq hno
  rcases hcase with⟨_,hsame⟩|⟨_,_,hsame,_⟩
  ·exact hsame q hq
  ·exact hsame q hq (fun e=>hno k s hkn (e▸hm))
 ·intro j hj hmj
  have e:j≠k:=fun e=>by subst e;rw[hm] at hmj;cases hmj
  rw[hget,if_neg (by omega),if_neg e,if_neg ?_]
  intro hd
  have:=R.whole f _ k j (habove j hd).2 (by simp) (by simp[hd]) (by rw[hm];rfl)
  rw[hmj] at this;cases this
end Go.Id

namespace Go.Id
open Go Go.RowKit
theorem pureRun_run (P:Program) {α:Type} : ∀(s:Sem α) (a:α),pureRun P s=some a → ∀w,s.run P w=.ok a w
 | .pure b,a,h,w=>by simp only[pureRun] at h;cases h;rfl
 | .program k,a,h,w=>by
  rw[pureRun] at h
  show(k P).run P w=_
  exact pureRun_run P (k P) a h w
 | .load ..,a,h,w=>by simp[pureRun] at h
 | .store ..,a,h,w=>by simp[pureRun] at h
 | .new ..,a,h,w=>by simp[pureRun] at h
 | .shape ..,a,h,w=>by simp[pureRun] at h
 | .freeze ..,a,h,w=>by simp[pureRun] at h
 | .frozen ..,a,h,w=>by simp[pureRun] at h
 | .getObj ..,a,h,w=>by simp[pureRun] at h
 | .setObj ..,a,h,w=>by simp[pureRun] at h
 | .choose ..,a,h,w=>by simp[pureRun] at h
 | .sys ..,a,h,w=>by simp[pureRun] at h
 | .mark ..,a,h,w=>by simp[pureRun] at h
 | .halt ..,a,h,w=>by simp[pureRun] at h
theorem pureVal_run {P:Program} {s:Sem Value} {v:Value} (h:pureVal P s=some v):plain v=true ∧ ∀w,s.run P w=.ok v w:=by
 unfold pureVal at h
 cases hp:pureRun P s with
 | none=>simp[hp] at h
 | some x =>
  simp only[hp,cond_eq_ite] at h
  by_cases hx:plain x=true
  ·rw[if_pos hx] at h;cases h;exact⟨hx,pureRun_run P s _ hp⟩
  ·rw[if_neg hx] at h;cases h
section
variable {P:Program} {t:TypeId} (w:World)
theorem run_sizeT {n:Nat} (h:sizeT P t=some n):(sizeOf t).run P w=.ok n w:=by
 unfold sizeT at h
 obtain⟨i,hi,e⟩:=Option.map_eq_some_iff.1 h
 simp[sizeOf,typeInfo,hi,e]
theorem run_typeInfo {i:TypeInfo} (h:P.info? t=some i):(typeInfo t).run P w=.ok i w:=by
 simp[typeInfo,h]
theorem run_zeroT {z:Value} (h:zeroT P t=some z):(zeroValue t).run P w=.ok z w:=by
 unfold zeroT at h
 obtain⟨i,hi,e⟩:=Option.bind_eq_some_iff.1 h
 simp[zeroValue,typeInfo,hi,e]
theorem run_isAggT {b:Bool} (h:isAggT P t=some b):(isAgg t).run P w=.ok b w:=by
 unfold isAggT at h
 obtain⟨d,hd,e⟩:=Option.map_eq_some_iff.1 h
 subst e
 cases d<;>simp[isAgg,Go.run_underlying hd]
theorem zeroCellsT_spec {zs:List Value} (h:zeroCellsT P t=some zs) : ∃z,zeroT P t=some z∧plain z=true∧zs=z.cells.toList:=by
 unfold zeroCellsT at h
 cases hz:zeroT P t with
 | none=>simp[hz] at h
 | some z =>
  simp only[hz,cond_eq_ite] at h
  by_cases hp:plain z=true
  ·simp only[hp,if_true] at h;cases h;exact⟨z,rfl,hp,rfl⟩
  ·simp[hp] at h
end
theorem Rel.row {B:Nat} {w0:World} {m:Mp} {h:IH} {w:World} (R:Rel B w0 m h w) {b r s:Nat} {cs:List Value} (hrow:h.row b=some cs) (hm:m b=some (r,s)) :
  ∃c el fz,w.heap[r]?=some (.cells c el fz)∧RowAt m cs c s:=by
 unfold IH.row at hrow
 simp only[cond_eq_ite,beq_iff_eq] at hrow
 by_cases hb:b % 2=1
 ·rw[if_pos hb] at hrow
  obtain⟨r0,s0,hm0,_,c,el,fz,hc,hr⟩:=R.base _ _ hrow
  rw[show 2*(b / 2)+1=b from by omega,hm] at hm0
  cases hm0
  exact⟨c,el,fz,hc,hr⟩
 ·rw[if_neg hb] at hrow
  cases hg:h.ext.get (b / 2) with
  | none=>simp[hg] at hrow
  | some o =>
   rw[hg] at hrow
   cases o with
   | cells cs' t f =>
    simp only at hrow;cases hrow
    obtain⟨c,el,hc,hr,_⟩:=R.obj (b / 2) _ r s hg (by rw[show 2*(b / 2)=b from by omega];exact hm)
    exact⟨c,el,_,hc,hr⟩
   | map es=>simp at hrow
   | loop l=>simp at hrow
   | iter _ _ _ _=>simp at hrow
   | dead=>simp at hrow
theorem addr_add (r p i:Nat):Addr.add ⟨r,p,none⟩ i=⟨r,p+i,none⟩:=by unfold Addr.add;by_cases h:i=0<;>simp[h]
theorem Rel.rd {B:Nat} {w0:World} {m:Mp} {h:IH} {w:World} (R:Rel B w0 m h w) {b o n r s:Nat} {cs:List Value} (hrd:h.rd b o n=some cs) (hm:m b=some (r,s)) :
  ∃cs',LRel m cs cs'∧cs.length=n ∧ ∀j v,cs'[j]?=some v→w.cell? (Addr.add ⟨r,s+o,none⟩ j)=some v:=by
 unfold IH.rd at hrd
 cases hr:h.row b with
 | none=>simp[hr] at hrd
 | some row =>
  simp only[hr,cond_eq_ite,Nat.ble_eq] at hrd
  by_cases hle:o+n≤row.length
  ·rw[if_pos hle] at hrd;cases hrd
   obtain⟨c,el,fz,hc,hrow⟩:=R.row hr hm
   have h1:=hrow.1
   refine⟨(c.toList.drop (s+o)).take n,⟨by simp;omega,fun i v v' hv hv'=>?_⟩,by simp;omega,fun j v hv=>?_⟩
   ·rw[List.getElem?_take] at hv hv'
    by_cases hi:i<n
    ·simp only[hi,if_true,List.getElem?_drop] at hv hv'
     obtain⟨v'',a,b'⟩:=hrow.2 _ _ hv
     rw[←Nat.add_assoc] at a
     simp only[Array.getElem?_toList] at hv'
     rw[hv'] at a;cases a
     exact b'
    ·simp[hi] at hv
   ·rw[List.getElem?_take] at hv
    by_cases hi:j<n
    ·simp only[hi,if_true,List.getElem?_drop,Array.getElem?_toList] at hv
     rw[addr_add]
     simp[World.cell?,hc,hv]
    ·simp[hi] at hv
  ·simp[hle] at hrd
theorem Rel.load {B:Nat} {w0:World} {m:Mp} {h:IH} {w:World} (R:Rel B w0 m h w) {P:Program} {t:TypeId} {a a' v:Value} (hl:load P h t a=some v) (ha:VRel m a a') :
  ∃v',(Instr.loadAt t a').run P w=.ok v' w∧VRel m v v':=by
 unfold Id.load at hl
 cases hA:asAddr a with
 | none=>simp[hA] at hl
 | some bo =>
  obtain⟨b,o⟩:=bo
  have hp:a=.pointer (some ⟨b,o,none⟩):=by
   unfold asAddr at hA;split at hA<;>simp_all
  subst hp
  obtain⟨r,s,hm,rfl⟩:=ha.ptr_inv
  cases hG:isAggT P t with
  | none=>simp[hA,hG] at hl
  | some g =>
   cases g with
   | true =>
    cases hS:sizeT P t with
    | none=>simp[hA,hG,hS] at hl
    | some n =>
     simp only[hA,hG,hS] at hl
     obtain⟨cs,hrd,rfl⟩:=Option.map_eq_some_iff.1 hl
     obtain⟨cs',hL,hn,hc⟩:=R.rd hrd hm
     refine⟨.agg cs'.toArray,?_,VRel.agg_iff (by simpa using hL)⟩
     have hlen:n=cs'.length:=by rw[←hn];exact hL.1
     simp only[Instr.loadAt,Instr.sureAddr,loadVar,Sem.run_bind,Sem.run_pure,Result.andThen_ok,run_isAggT w hG,run_sizeT w hS,if_true]
     rw[hlen,run_loadCells_list w _ cs' hc]
     rfl
   | false =>
    simp only[hA,hG] at hl
    obtain⟨cs,hrd,hv⟩:=Option.bind_eq_some_iff.1 hl
    obtain⟨cs',hL,hn,hc⟩:=R.rd hrd hm
    have hv0:cs[0]?=some v:=by rw[←List.head?_eq_getElem?];exact hv
    obtain⟨v',hv',hR⟩:=hL.get hv0
    have:=hc 0 v' hv'
    refine⟨v',?_,hR⟩
    simp only[Instr.loadAt,Instr.sureAddr,loadVar,Sem.run_bind,Sem.run_pure,Result.andThen_ok,run_isAggT w hG]
    rw[addr_add,Nat.add_zero] at this
    simp[this]
def Yields (n:Next) (v:Value):Prop:=n=.value v∨(n=.skip∧v=undef)
def SimOp (B:Nat) (w0:World) (m:Mp) (h:IH) (w:World) (run:Result Next) (v:Value) (h':IH):Prop :=
 ∃nx v' m' w',run=.ok nx w'∧Yields nx v'∧VRel m' v v'∧Rel B w0 m' h' w'∧Step m h w m' h' w'
theorem SimOp.quiet {B:Nat} {w0:World} {m:Mp} {h:IH} {w:World} (R:Rel B w0 m h w) {run:Result Next} {v v':Value} (hr:run=.ok (.value v') w) (hv:VRel m v v') :
  SimOp B w0 m h w run v h:=⟨_,v',m,w,hr,.inl rfl,hv,R,Step.refl m h w⟩
theorem Rel.wr {B:Nat} {w0:World} {m:Mp} {h h':IH} {w:World} (R:Rel B w0 m h w) {b o r s:Nat} {vs vs':List Value} (hw:h.wr b o vs=some h') (hm:m b=some (r,s)) (hv:LRel m vs vs')
  (hok : ∀v∈vs,cellOK v=true) (P:Program) :
  ∃w',(storeCells ⟨r,s+o,none⟩ vs').run P w=.ok () w'∧Rel B w0 m h' w'∧Step m h w m h' w':=by
 unfold IH.wr at hw
 simp only[cond_eq_ite,beq_iff_eq] at hw
 by_cases hb:b % 2=1
 ·simp[hb] at hw
 ·rw[if_neg hb] at hw
  cases hg:h.ext.get (b / 2) with
  | none=>simp[hg] at hw
  | some x =>
   rw[hg] at hw
   cases x with
   | map es=>simp at hw
   | loop l=>simp at hw
   | iter _ _ _ _=>simp at hw
   | dead=>simp at hw
   | cells cs t fam =>
    simp only[Nat.ble_eq] at hw
    by_cases hle:o+vs.length≤cs.length
    ·rw[if_pos hle] at hw
     have hmb:m (2*(b / 2))=some (r,s):=by rw[show 2*(b / 2)=b from by omega];exact hm
     obtain⟨c,el,hc,hrow,_⟩:=R.obj (b / 2) _ r s hg hmb
     have hok' : ∀v∈vs',cellOK v=true:=by
      intro v' hv'
      obtain⟨i,hi,e⟩:=List.getElem_of_mem hv'
      have hi':i<vs.length:=hv.1▸hi
      exact cellOK_of (hv.2 i vs[i] v' (List.getElem?_eq_getElem hi') (by rw[List.getElem?_eq_getElem hi,e])) (hok _ (List.getElem_mem hi'))
     have hrun:=run_storeCells P r (s+o) el vs' 0 w c hc (by have:=hrow.1;have:=hv.1;omega) hok'
     have hrow':=hrow.splice hle hv
     rw[Nat.add_zero] at hrun
     have hput : ∀d:Array Value,d=setsA c (s+o) vs'→vs' = []→World.put w r (.cells d el)=w:=by
      intro d hd he
      subst he;subst hd
      unfold World.put
      have hr:r<w.heap.size:=(Array.getElem?_eq_some_iff.1 hc).1
      have e:=(Array.getElem?_eq_some_iff.1 hc).2
      congr 1
      apply Array.ext_getElem?
      intro i
      rw[Array.getElem?_setIfInBounds]
      by_cases hi:r=i
      ·subst hi;simp[hr,e]
      ·simp[hi]
     have hres:(if vs' = [] then w else World.put w r (.cells (setsA c (s+o) vs') el))=World.put w r (.cells (setsA c (s+o) vs') el):=by
      by_cases he:vs' = []
      ·rw[if_pos he,hput _ rfl he]
      ·rw[if_neg he]
     rw[hres] at hrun
     cases fam with
     | none =>
      simp only at hw;cases hw
      obtain⟨a,b'⟩:=R.write hg hmb hc hrow' (length_splice cs o vs hle) (size_setsA _ _ _) none (.inr rfl) [] rfl
      exact⟨_,hrun,a,b'⟩
     | some f =>
      cases hf:h.fams.get f with
      | none=>simp[hf] at hw
      | some st =>
       simp only[hf] at hw;cases hw
       obtain⟨a,b'⟩:=R.write hg hmb hc hrow' (length_splice cs o vs hle) (size_setsA _ _ _) none (.inr rfl) (st.filter (· != b / 2)) ⟨st,hf,rfl⟩
       exact⟨_,hrun,a,b'⟩
    ·simp[hle] at hw
theorem cells_size {m:Mp} {v v':Value} (h:VRel m v v'):v'.cells.size=v.cells.size:=by
 have:=h.cells.1
 simpa using this.symm
theorem Rel.store {B:Nat} {w0:World} {m:Mp} {h h':IH} {w:World} (R:Rel B w0 m h w) {P:Program} {t:TypeId} {a a' v v':Value} (hs:store P h t a v=some h') (ha:VRel m a a') (hv:VRel m v v') :
  ∃w',(Instr.storeAt t a' v').run P w=.ok () w'∧Rel B w0 m h' w'∧Step m h w m h' w':=by
 unfold Id.store at hs
 cases hA:asAddr a with
 | none=>simp[hA] at hs
 | some bo =>
  obtain⟨b,o⟩:=bo
  have hp:a=.pointer (some ⟨b,o,none⟩):=by
   unfold asAddr at hA;split at hA<;>simp_all
  subst hp
  obtain⟨r,s,hm,rfl⟩:=ha.ptr_inv
  cases hS:sizeT P t with
  | none=>simp[hA,hS] at hs
  | some n =>
   simp only[hA,hS,cond_eq_ite] at hs
   by_cases hc:(v.cells.size == n && v.cells.toList.all cellOK)=true
   ·rw[if_pos hc] at hs
    simp only[Bool.and_eq_true,beq_iff_eq,List.all_eq_true] at hc
    obtain⟨w',h1,h2,h3⟩:=R.wr hs hm hv.cells (fun x hx=>hc.2 x hx) P
    refine⟨w',?_,h2,h3⟩
    simp only[Instr.storeAt,Instr.sureAddr,storeVar,Sem.run_bind,Sem.run_pure,Result.andThen_ok,run_sizeT w hS]
    rw[if_neg (by rw[cells_size hv];simp[hc.1])]
    simp[h1]
   ·rw[if_neg hc] at hs;cases hs
theorem Rel.newRow {B:Nat} {w0:World} {m:Mp} {h:IH} {w:World} (R:Rel B w0 m h w) (hm:m (2*h.n)=none) {cs cs':List Value} (hv:LRel m cs cs') (e:Nat) (t:TypeId) :
  Rel B w0 (m.upd (2*h.n) (w.heap.size,0) (e,0)) (h.new (.cells cs e none)) (w.alloc (.cells cs'.toArray t)) ∧
   Step m h w (m.upd (2*h.n) (w.heap.size,0) (e,0)) (h.new (.cells cs e none)) (w.alloc (.cells cs'.toArray t)):=by
 refine R.new _ _ (e,0) hm ⟨cs'.toArray,t,by rw[heap_alloc,if_pos rfl],⟨by simp[hv.1],fun i v hi=>?_⟩,rfl,Nat.zero_le _⟩ rfl
 obtain⟨v',a,b⟩:=hv.get hi
 exact⟨v',by simpa using a,b⟩
end Go.Id

namespace Go.Id
open Go Go.RowKit
theorem Rel.congr {B:Nat} {w0:World} {m:Mp} {h:IH} {w w':World} (R:Rel B w0 m h w) (hh:w'.heap=w.heap) (hb:Below B w0 w'):Rel B w0 m h w' :=
 ⟨hb,by rw[hh];exact R.size,fun b cs hx=>let ⟨r0,s0,m0,a,c,el,fz,d,e⟩:=R.base b cs hx;⟨r0,s0,m0,a,c,el,fz,by rw[hh];exact d,e⟩,R.odd,fun k r s hk=>by rw[hh];exact R.even k r s hk,R.dom,
  fun k o r s a b=>(R.obj k o r s a b).mono (Mp.le_refl m) (by rw[hh]) rfl,R.own,R.famdom,R.fam,R.long,R.whole⟩
theorem Step.congr {m m':Mp} {h h':IH} {w w1 w':World} (S:Step m h w1 m' h' w') (hh:w1.heap=w.heap):Step m h w m' h' w' :=
 ⟨S.le,S.new,S.n,S.base,fun r hr hk=>by rw[S.frame r (by rw[hh];exact hr) hk,hh],S.idle,by rw[←hh];exact S.size,fun k r s a b c=>by rw[←hh];exact S.img k r s a b c,S.idleF⟩
theorem below_drew {B:Nat} {w0 w:World} (h:Below B w0 w) (d:Nat):Below B w0 { w with drawn:=d }:=⟨h.os,h.tape,h.output,h.size,h.block⟩
theorem VRel.slice_inv {m:Mp} {b o len k:Nat} {v':Value} (h:VRel m (.slice (some ⟨b,o,none⟩) len k) v') :
  (∃r s cap,m b=some (r,s)∧0<k∧len≤k / 2∧k / 2≤cap∧(k % 2=1→cap=k / 2)∧(k % 2=0→s+o+cap*(m.ez b).1≤(m.ez b).2)∧v'=.slice (some ⟨r,s+o,none⟩) len cap)∨(len=0∧k=0 ∧ ∃a cap,v'=.slice (some a) 0 cap):=by
 cases h with
 | scal h=>simp[Id.scal] at h
 | slice hm a b c d e=>exact .inl ⟨_,_,_,hm,a,b,c,d,e,rfl⟩
 | lost=>exact .inr ⟨rfl,rfl,_,_,rfl⟩
theorem VRel.nil_inv {m:Mp} {n c:Nat} {v':Value} (h:VRel m (.slice none n c) v'):n=0∧c=0∧v'=.slice none 0 0:=by
 cases h with
 | scal h=>simp[Id.scal] at h;obtain⟨rfl,rfl⟩:=h;exact⟨rfl,rfl,rfl⟩
theorem lenOf_rel {m:Mp} {x x':Value} {n:Nat} (h:VRel m x x') (hn:Id.lenOf x=some n) : ∃a c,x'=.slice a n c:=by
 cases h with
 | scal h =>
  unfold Id.lenOf at hn
  split at hn
  ·cases hn;exact⟨_,_,rfl⟩
  ·cases hn
 | slice=>simp only[Id.lenOf] at hn;cases hn;exact⟨_,_,rfl⟩
 | lost=>simp only[Id.lenOf] at hn;cases hn;exact⟨_,_,rfl⟩
 | _=>simp[Id.lenOf] at hn
theorem cell?_congr {w w2:World} (hh:w2.heap=w.heap) (a:Addr):w2.cell? a=w.cell? a:=by unfold World.cell?;rw[hh]
theorem Rel.first {B:Nat} {w0:World} {m:Mp} {h:IH} {w:World} (R:Rel B w0 m h w) (P:Program) {size n:Nat} {x x':Value} {cs:List Value} (hx:VRel m x x') (hf:firstOf h size n x=some cs) :
  ∃cs',(∀w2:World,w2.heap=w.heap→(Builtin.firstCells size n x').run P w2=.ok cs'.toArray w2)∧LRel m cs cs'∧(x=.slice none 0 0∨cs.length=n*size):=by
 unfold firstOf at hf
 split at hf
 ·cases hf
  obtain⟨rfl,rfl,rfl⟩:=hx.nil_inv
  exact⟨[],fun _ _=>rfl,.nil m,.inl rfl⟩
 ·rename_i b o len k
  simp only[cond_eq_ite,Nat.ble_eq,beq_iff_eq] at hf
  by_cases hn:n≤len
  ·rw[if_pos hn] at hf
   by_cases h0:n*size=0
   ·rw[if_pos h0] at hf;cases hf
    refine⟨[],fun w2 _=>?_,.nil m,.inr (by simp[h0])⟩
    rcases hx.slice_inv with⟨r,s,cap,_,_,_,_,_,_,rfl⟩|⟨_,_,a,cap,rfl⟩
    ·simp only[Builtin.firstCells,h0];rfl
    ·simp only[Builtin.firstCells,h0];rfl
   ·rw[if_neg h0] at hf
    rcases hx.slice_inv with⟨r,s,cap,hm,_,_,_,_,_,rfl⟩|⟨hl,_,_⟩
    ·obtain⟨cs',hL,hlen,hc⟩:=R.rd hf hm
     refine⟨cs',fun w2 hh=>?_,hL,.inr hlen⟩
     show(loadCells ⟨r,s+o,none⟩ (n*size)).run P w2=_
     rw[show n*size=cs'.length from by rw[←hlen];exact hL.1]
     exact run_loadCells_list w2 _ cs' (fun j v hv=>by rw[cell?_congr hh];exact hc j v hv)
    ·exfalso;apply h0;rw[show n=0 by omega];simp
  ·simp[hn] at hf
 ·cases hf
theorem growBy_le (newLen:Nat) : ∀(rounds c:Nat),Builtin.growBy newLen rounds c≤max c (newLen+(newLen+768) / 4)
 | 0,c=>by simp only[Builtin.growBy];omega
 | rounds+1,c=>by
  rw[Builtin.growBy]
  by_cases h:c ≥ newLen
  ·rw[if_pos h];omega
  ·rw[if_neg h]
   have:=growBy_le newLen rounds (c+(c+768) / 4)
   omega
theorem nextslicecap_le (need old:Nat) (h:old<need):Builtin.nextslicecap need old≤2*need+1024:=by
 unfold Builtin.nextslicecap
 split
 ·omega
 ·split
  ·omega
  ·have:=growBy_le need 4 old;omega
theorem run_append_new (P:Program) (w:World) (ts:Array TypeId) (ty:TypeId) (st xt elem xe:TypeId) (a x':Value) (size bytes:Nat) (z:Value) (base:Option Addr) (len cap n:Nat) (old new:List Value)
  (h0:ts[0]?=some st) (h1:ts[1]?=some xt) (hst:P.underlying st=some (.slice elem)) (hxt:P.underlying xt=some (.slice xe)) (hsz:sizeT P elem=some size) (hby:bytesT P elem=some bytes) (hz:zeroT P elem=some z)
  (ha:a=.slice base len cap) (hn : ∃xa xc,x'=.slice xa n xc) (hneed:cap<len+n) (hb:bytes≤65536) (hmost:(len+n)*(bytes+1)≤sizeMost)
  (hold' : ∀d,(Builtin.firstCells size len a).run P { w with drawn:=d }=.ok old.toArray { w with drawn:=d }) (hnew : ∀d,(Builtin.firstCells size n x').run P { w with drawn:=d }=.ok new.toArray { w with drawn:=d }) :
  ∃d newCap rest,(Builtin.append_ ts ty #[a,x']).run P w=.ok (.slice (some ⟨w.heap.size,0,none⟩) (len+n) newCap) ((({ w with drawn:=d }:World)).alloc (.cells ((old ++ new) ++ rest).toArray elem))∧len+n≤newCap∧rest.length=(newCap - (len+n))*z.cells.size:=by
 obtain⟨xa,xc,rfl⟩:=hn
 subst ha
 unfold bytesT at hby
 obtain⟨i,hi,hib⟩:=Option.map_eq_some_iff.1 hby
 have hcap : ¬(len+n≤cap):=by omega
 have hN:=nextslicecap_le (len+n) cap (by omega)
 have hlim : ¬(Builtin.nextslicecap (len+n) cap*bytes > 2 ^ 48):=by
  have h2:Builtin.nextslicecap (len+n) cap*bytes≤(2*(len+n)+1024)*bytes:=Nat.mul_le_mul_right _ hN
  have h3:(2*(len+n)+1024)*bytes=2*((len+n)*bytes)+1024*bytes:=by rw[Nat.add_mul,Nat.mul_assoc]
  have h4:(len+n)*(bytes+1)=(len+n)*bytes+(len+n):=by rw[Nat.mul_add,Nat.mul_one]
  unfold sizeMost at hmost
  omega
 have hi64 : ¬((len+n:Nat):Int) > IntKind.i64.max:=by
  have:len+n≤(len+n)*(bytes+1):=Nat.le_mul_of_pos_right _ (by omega)
  unfold sizeMost at hmost
  have e:IntKind.i64.max=9223372036854775807:=by decide
  rw[e];omega
 let q:=Question.appendCap (len+n) cap elem
 have hcut:len+n≤q.cut (w.tape w.drawn q):=Nat.le_add_right _ _
 refine⟨w.drawn+1,q.cut (w.tape w.drawn q),(Builtin.zeroCells z.cells (q.cut (w.tape w.drawn q) - (len+n))).toList,?_,hcut,by simp[Builtin.zeroCells]⟩
 have e0:(#[Value.slice base len cap,Value.slice xa n xc]:Array Value)[0]?=some (.slice base len cap):=rfl
 have e1:(#[Value.slice base len cap,Value.slice xa n xc]:Array Value)[1]?=some (.slice xa n xc):=rfl
 simp only[Builtin.append_,h0,h1,e0,e1,Sem.run_bind,Go.run_underlying hst,Result.andThen_ok,run_sizeT w hsz,Go.run_underlying hxt,Sem.run_pure,Builtin.lenOf,Bool.false_eq_true,if_false,hcap,Bool.not_false,if_true,false_or,Sem.run_ite,run_typeInfo w hi,hib]
 rw[if_neg (by intro h;exact hi64 h.1)]
 rw[if_neg hlim]
 simp only[Result.andThen_ok,run_choose,Question.forced,Bool.false_eq_true,if_false,run_askRoom,run_typeInfo _ hi,hold',hnew,run_zeroT _ hz,Go.newRow,Sem.run_bind,run_newObj,Sem.run_pure]
 have earr : ∀Z:Array Value,old.toArray ++ new.toArray ++ Z=((old ++ new) ++ Z.toList).toArray:=fun Z=>by rw[←Array.toList_inj];simp
 rw[earr]
 rfl
theorem run_append_in (P:Program) (w w':World) (ts:Array TypeId) (ty:TypeId) (st xt elem xe:TypeId) (x':Value) (size n len cap:Nat) (base:Option Addr) (new:List Value)
  (h0:ts[0]?=some st) (h1:ts[1]?=some xt) (hst:P.underlying st=some (.slice elem)) (hxt:P.underlying xt=some (.slice xe)) (hsz:sizeT P elem=some size)
  (hn : ∃xa xc,x'=.slice xa n xc) (hneed:len+n≤cap) (hnew:(Builtin.firstCells size n x').run P w=.ok new.toArray w)
  (hst' : ∀a,base=some a→(storeCells (a.add (len*size)) new).run P w=.ok () w') (hnone:base=none→w'=w) :
  (Builtin.append_ ts ty #[.slice base len cap,x']).run P w=.ok (.slice base (len+n) cap) w':=by
 obtain⟨xa,xc,rfl⟩:=hn
 have e0:(#[Value.slice base len cap,Value.slice xa n xc]:Array Value)[0]?=some (.slice base len cap):=rfl
 have e1:(#[Value.slice base len cap,Value.slice xa n xc]:Array Value)[1]?=some (.slice xa n xc):=rfl
 simp only[Builtin.append_,h0,h1,e0,e1,Sem.run_bind,Go.run_underlying hst,Result.andThen_ok,run_sizeT w hsz,Go.run_underlying hxt,Sem.run_pure,Builtin.lenOf,Bool.false_eq_true,if_false,hneed,Bool.not_false,if_true,hnew]
 cases base with
 | none=>rw[hnone rfl];rfl
 | some a=>simp[hst' a rfl]
theorem takeWhile_drop (k:Nat) : ∀(l:List Nat),k∈l→l=l.takeWhile (· != k) ++ k :: (l.dropWhile (· != k)).drop 1
 | [],h=>by cases h
 | a :: l,h=>by
  by_cases e:a=k
  ·subst e;simp
  ·have h':k∈l:=by
    rcases List.mem_cons.1 h with h|h
    ·exact absurd h.symm e
    ·exact h
   have:=takeWhile_drop k l h'
   simp only[List.takeWhile_cons,List.dropWhile_cons,bne_iff_ne,ne_eq,e,not_false_eq_true,if_true,List.cons_append]
   rw[←this]
theorem Rel.append {B:Nat} {w0:World} {m:Mp} {h h':IH} {w:World} (R:Rel B w0 m h w) (P:Program) {ts:Array TypeId} {ty st xt xe:TypeId} {s s' x x' v:Value}
  (h0:ts[0]?=some st) (h1:ts[1]?=some xt) (hxt:P.underlying xt=some (.slice xe)) (ha:append P h st s x=some (v,h')) (hs:VRel m s s') (hx:VRel m x x') (hfresh:Fresh m h.n h'.n) :
  ∃v' m' w',(Builtin.append_ ts ty #[s',x']).run P w=.ok v' w'∧VRel m' v v'∧Rel B w0 m' h' w'∧Step m h w m' h' w':=by
 unfold Id.append at ha
 cases hst:P.underlying st with
 | none=>simp[hst] at ha
 | some d =>
  rw[hst] at ha
  cases d with
  | slice elem =>
   cases hsz:sizeT P elem with
   | none=>simp[hsz] at ha
   | some size =>
   cases hby:bytesT P elem with
   | none=>simp[hsz,hby] at ha
   | some bytes =>
   cases hz:zeroCellsT P elem with
   | none=>simp[hsz,hby,hz] at ha
   | some zs =>
   cases hn:Id.lenOf x with
   | none=>simp[hsz,hby,hz,hn] at ha
   | some n =>
   obtain⟨z,hz0,_,hzs⟩:=zeroCellsT_spec hz
   obtain⟨xa,xc,hx'⟩:=lenOf_rel hx hn
   simp only[hsz,hby,hz,hn,cond_eq_ite,beq_iff_eq] at ha
   by_cases hn0:n=0
   ·-- nothing is appended
    subst hn0
    rw[if_pos rfl] at ha
    have hf0:(Builtin.firstCells size 0 x').run P w=.ok ([]:List Value).toArray w:=by
     subst hx'
     cases xa with
     | none=>rfl
     | some a=>show(loadCells a (0*size)).run P w=_;rw[Nat.zero_mul];rfl
    split at ha
    ·rename_i a c
     by_cases hac:(a == 0 && c == 0)=true
     ·rw[if_pos hac] at ha;cases ha
      obtain⟨rfl,rfl,rfl⟩:=hs.nil_inv
      refine⟨_,m,w,run_append_in P w w ts ty st xt elem xe x' size 0 0 0 none [] h0 h1 hst hxt hsz ⟨_,_,hx'⟩ (by omega) hf0 (by simp) (fun _=>rfl),hs,R,Step.refl _ _ _⟩
     ·rw[if_neg hac] at ha;cases ha
    ·rename_i b o len k
     cases ha
     have hlc : ∃a len' cap,s'=.slice (some a) len' cap∧len'≤cap:=by
      rcases hs.slice_inv with⟨r,q,cap,_,_,h2,h3,_,_,rfl⟩|⟨rfl,rfl,a,cap,rfl⟩
      ·exact⟨_,_,_,rfl,Nat.le_trans h2 h3⟩
      ·exact⟨_,_,_,rfl,Nat.zero_le _⟩
     obtain⟨a,len',cap,rfl,hle⟩:=hlc
     exact⟨_,m,w,run_append_in P w w ts ty st xt elem xe x' size 0 len' cap (some a) [] h0 h1 hst hxt hsz ⟨_,_,hx'⟩ (by omega) hf0 (by intro a' _;rfl) (by simp),hs,R,Step.refl _ _ _⟩
    ·cases ha
   ·rw[if_neg hn0] at ha
    by_cases hsb:(size == 0 || (!(Nat.ble bytes 65536) || !(zs.length == size)))=true
    ·rw[if_pos hsb] at ha;cases ha
    ·rw[if_neg hsb] at ha
     simp only[Bool.or_eq_true,beq_iff_eq,Bool.not_eq_true',not_or,Bool.not_eq_false,beq_eq_false_iff_ne,ne_eq,Decidable.not_not] at hsb
     obtain⟨hsize,hb65,hzlen⟩:=hsb
     have hb65:bytes≤65536:=Nat.le_of_ble_eq_true hb65
     have hzc:z.cells.size=size:=by rw[←hzlen,hzs];simp
     cases hfi:firstOf h size n x with
     | none=>simp[hfi] at ha
     | some new =>
     simp only[hfi] at ha
     by_cases hall:(!(new.all cellOK))=true
     ·rw[if_pos hall] at ha;cases ha
     rw[if_neg hall] at ha
     have hok : ∀c∈new,cellOK c=true:=by simpa using hall
     have hxlen:x≠.slice none 0 0:=by
      intro e;subst e;simp only[Id.lenOf] at hn;cases hn;exact hn0 rfl
     obtain⟨new',hnewrun,hnewL,hnewlen⟩:=R.first P hx hfi
     have hnewlen:new.length=n*size:=hnewlen.resolve_left hxlen
     have hdrew : ∀d,Rel B w0 m h { w with drawn:=d }:=fun d=>R.congr rfl (below_drew R.below d)
     split at ha
     ·-- onto nil
      rename_i a c
      by_cases hc:(a == 0 && c == 0 && Nat.ble (n*(bytes+1)) sizeMost)=true
      ·rw[if_pos hc] at ha;cases ha
       simp only[Bool.and_eq_true,beq_iff_eq,Nat.ble_eq] at hc
       obtain⟨rfl,rfl,rfl⟩:=hs.nil_inv
       obtain⟨d,newCap,rest,hrun,hcap,hrest⟩:=run_append_new P w ts ty st xt elem xe (.slice none 0 0) x' size bytes z none 0 0 n [] new' h0 h1 hst hxt hsz hby hz0 rfl ⟨_,_,hx'⟩ (by omega) hb65
        (by rw[Nat.zero_add];exact hc.2) (fun d=>rfl) (fun d=>hnewrun _ rfl)
       rw[Nat.zero_add] at hrun hcap hrest
       simp only[List.nil_append] at hrun
       have hm0:m (2*h.n)=none:=hfresh h.n (Nat.le_refl _) (Nat.lt_succ_self _)
       obtain⟨R1,S1⟩:=(hdrew d).new (.cells new size none) (.cells (new' ++ rest).toArray elem) (size,(new' ++ rest).length) hm0
        ⟨(new' ++ rest).toArray,elem,by rw[heap_alloc,if_pos rfl],⟨by simp[hnewL.1],fun i v hi=>by
         obtain⟨v',a,b⟩:=hnewL.get hi
         refine⟨v',?_,b⟩
         have hi':i<new'.length:=by
          rcases Nat.lt_or_ge i new'.length with h|h
          ·exact h
          ·rw[List.getElem?_eq_none h] at a;cases a
         simp only[List.getElem?_toArray,Nat.zero_add]
         rw[List.getElem?_append_left hi'];exact a⟩,rfl,by simp⟩ rfl
       refine⟨_,_,_,hrun,?_,R1,S1.congr rfl⟩
       have hp:0<n:=Nat.pos_of_ne_zero hn0
       have:=VRel.slice (m:=m.upd (2*h.n) (w.heap.size,0) (size,(new' ++ rest).length)) (b:=2*h.n) (o:=0) (r:=w.heap.size) (s:=0) (len:=n) (k:=2*n) (cap:=newCap) (Mp.upd_self _ _ _ _) (by omega) (by omega) (by omega) (by omega) (by intro _;rw[Mp.ez_self];simp only[List.length_append,hrest,hzc,←hnewL.1,hnewlen];rw[←Nat.add_mul];simp only[Nat.zero_add,Nat.add_zero];exact Nat.mul_le_mul_right _ (by omega))
       exact this
      ·rw[if_neg hc] at ha;cases ha
     ·rename_i b o len k
      by_cases hmost:(!(Nat.ble ((len+n)*(bytes+1)) sizeMost))=true
      ·rw[if_pos hmost] at ha;cases ha
      ·rw[if_neg hmost] at ha
       have hmost':(len+n)*(bytes+1)≤sizeMost:=by
        simp only[Bool.not_eq_true',Bool.not_eq_false] at hmost
        exact Nat.le_of_ble_eq_true hmost
       by_cases hin:Nat.ble (len+n) (k / 2)=true
       ·-- there is room for sure
        rw[if_pos hin] at ha
        have hin':=Nat.le_of_ble_eq_true hin
        obtain⟨h1w,hw1,hv1⟩:=Option.map_eq_some_iff.1 ha
        cases hv1
        rcases hs.slice_inv with⟨r,q,cap,hmb,hk0,hl,hkc,hx1,hz1,rfl⟩|⟨_,hk,_⟩
        ·obtain⟨w',hr1,R1,S1⟩:=R.wr hw1 hmb hnewL hok P
         refine⟨_,m,w',run_append_in P w w' ts ty st xt elem xe x' size n len cap _ new' h0 h1 hst hxt hsz ⟨_,_,hx'⟩ (by omega) (hnewrun w rfl) (fun a e=>?_) (by simp),?_,R1,S1⟩
         ·cases e;rw[addr_add,Nat.add_assoc];exact hr1
         ·exact .slice hmb hk0 hin' hkc hx1 hz1
        ·omega
       ·rw[if_neg hin] at ha
        have hin' : ¬len+n≤k / 2:=fun e=>hin (by simpa using e)
        by_cases hodd:k % 2=1
        ·-- there is none for sure
         rw[if_pos hodd] at ha
         cases hfo:firstOf h size len (.slice (some ⟨b,o,none⟩) len k) with
         | none=>simp[hfo] at ha
         | some old =>
          simp only[hfo] at ha;cases ha
          obtain⟨old',holdrun,holdL,holdlen⟩:=R.first P hs hfo
          have holdlen:old.length=len*size:=holdlen.resolve_left (by simp)
          have hcase : ∃base cap,s'=.slice base len cap∧cap<len+n:=by
           rcases hs.slice_inv with⟨r,q,cap,_,_,_,_,hx1,_,rfl⟩|⟨_,hk,_⟩
           ·exact⟨_,cap,rfl,by have:=hx1 hodd;omega⟩
           ·omega
          obtain⟨base,cap,rfl,hcl⟩:=hcase
          obtain⟨d,newCap,rest,hrun,hcap,hrest⟩:=run_append_new P w ts ty st xt elem xe _ x' size bytes z base len cap n old' new' h0 h1 hst hxt hsz hby hz0 rfl ⟨_,_,hx'⟩ hcl hb65 hmost'
           (fun d=>holdrun _ rfl) (fun d=>hnewrun _ rfl)
          have hm0:m (2*h.n)=none:=hfresh h.n (Nat.le_refl _) (Nat.lt_succ_self _)
          have hon:=holdL.append hnewL
          obtain⟨R1,S1⟩:=(hdrew d).new (.cells (old ++ new) size none) (.cells (old' ++ new' ++ rest).toArray elem) (size,(old' ++ new' ++ rest).length) hm0
           ⟨(old' ++ new' ++ rest).toArray,elem,by rw[heap_alloc,if_pos rfl],⟨by simp[holdL.1,hnewL.1],fun i v hi=>by
            obtain⟨v',a,b⟩:=hon.get hi
            refine⟨v',?_,b⟩
            have hi':i<(old' ++ new').length:=by
             rcases Nat.lt_or_ge i (old' ++ new').length with h|h
             ·exact h
             ·rw[List.getElem?_eq_none h] at a;cases a
            simp only[List.getElem?_toArray,Nat.zero_add]
            rw[List.getElem?_append_left hi'];exact a⟩,rfl,by simp⟩ rfl
          refine⟨_,_,_,hrun,?_,R1,S1.congr rfl⟩
          have:=VRel.slice (m:=m.upd (2*h.n) (w.heap.size,0) (size,(old' ++ new' ++ rest).length)) (b:=2*h.n) (o:=0) (r:=w.heap.size) (s:=0) (len:=len+n) (k:=2*(len+n)) (cap:=newCap) (Mp.upd_self _ _ _ _) (by omega) (by omega) (by omega) (by omega)
           (by intro _;rw[Mp.ez_self];simp only[List.length_append,hrest,hzc,←holdL.1,holdlen,←hnewL.1,hnewlen];rw[←Nat.add_mul,←Nat.add_mul];simp only[Nat.zero_add,Nat.add_zero];exact Nat.mul_le_mul_right _ (by omega))
          exact this
        ·rw[if_neg hodd] at ha
         by_cases hend:(len == k / 2 && Nat.blt 0 len && b % 2 == 0)=true
         ·rw[if_pos hend] at ha
          simp only[Bool.and_eq_true,beq_iff_eq,Nat.blt_eq] at hend
          obtain⟨⟨hlk,hl0⟩,hb2⟩:=hend
          cases hg:h.ext.get (b / 2) with
          | none=>simp[hg] at ha
          | some ob =>
           rw[hg] at ha
           cases ob with
           | map es=>simp at ha
           | loop l=>simp at ha
           | iter _ _ _ _=>simp at ha
           | dead=>simp at ha
           | cells cs t fam =>
            simp only at ha
            by_cases hce:(o+len*size == cs.length && t == size)=true
            ·rw[if_pos hce] at ha
             simp only[Bool.and_eq_true,beq_iff_eq] at hce
             obtain⟨hce,rfl⟩:=hce
             have hb':2*(b / 2)=b:=by omega
             have hm0:m (2*h.n)=none:=hfresh h.n (Nat.le_refl _) (by
              cases fam with
              | none=>simp only[Option.some.injEq,Prod.mk.injEq] at ha;rw[←ha.2];exact Nat.lt_succ_self _
              | some f=>cases hf:h.fams.get f with
               | none=>simp[hf] at ha
               | some stk=>simp only[hf,Option.some.injEq,Prod.mk.injEq] at ha;rw[←ha.2];exact Nat.lt_succ_self _)
             have hform : ∃f above below,v=.slice (some ⟨2*h.n,0,none⟩) (len+n) (2*(len+n))∧h'=grown h (b / 2) f cs t above below (cs.drop o ++ new) t ∧
               FamIs h (b / 2) f above below fam:=by
              cases fam with
              | none=>simp only[Option.some.injEq,Prod.mk.injEq] at ha;exact⟨h.n,[],[],ha.1.symm,ha.2.symm,rfl,rfl,rfl⟩
              | some f=>cases hf:h.fams.get f with
               | none=>simp[hf] at ha
               | some stk =>
                simp only[hf,Option.some.injEq,Prod.mk.injEq] at ha
                obtain⟨st2,hst2,hmem⟩:=R.fam (b / 2) cs t f hg
                rw[hf] at hst2;cases hst2
                exact⟨f,_,_,ha.1.symm,ha.2.symm,rfl,stk,hf,takeWhile_drop _ _ hmem⟩
             obtain⟨f,above,below,rfl,rfl,hfam⟩:=hform
             rcases hs.slice_inv with⟨r,q,cap,hmb,hk0,hl,hkc,hx1,hz1,rfl⟩|⟨_,hk,_⟩
             ·have hmb':m (2*(b / 2))=some (r,q):=by rw[hb'];exact hmb
              obtain⟨c,el,hc,hrow,he1,he2⟩:=R.obj (b / 2) _ r q hg hmb'
              rw[hb'] at he1 he2
              have hroom:=hz1 (by omega)
              rw[he1] at hroom
              have hr1:=hrow.1
              have hdl:(cs.drop o).length=len*t:=by simp;omega
              by_cases hfit:len+n≤cap
              ·-- in place
               have hmul:(len+n)*t≤cap*t:=Nat.mul_le_mul_right _ hfit
               rw[Nat.add_mul] at hmul
               have hok' : ∀x∈new',cellOK x=true:=by
                intro x hx
                obtain⟨i,hi,e⟩:=List.getElem_of_mem hx
                have hi':i<new.length:=hnewL.1▸hi
                exact cellOK_of (hnewL.2 i new[i] x (List.getElem?_eq_getElem hi') (by rw[List.getElem?_eq_getElem hi,e])) (hok _ (List.getElem_mem hi'))
               have hlen':new'.length=n*t:=by rw[←hnewL.1,hnewlen]
               have hsto:=run_storeCells P r (q+o+len*t) el new' 0 w c hc (by omega) hok'
               have hne:new' ≠ []:=by
                intro e
                have:n*t=0:=by rw[←hlen',e];rfl
                rcases Nat.mul_eq_zero.1 this with e|e
                ·exact hn0 e
                ·exact hsize e
               rw[if_neg hne,Nat.add_zero] at hsto
               have hrw:=hrow.1
               have hrs:=R.even (b / 2) r q hmb'
               have hput:(World.put w r (.cells (setsA c (q+o+len*t) new') el)).heap[r]?=some (.cells (setsA c (q+o+len*t) new') el):=by rw[heap_put,if_pos ⟨rfl,hrs.2⟩]
               have hpn : ∀p,p≠r→(World.put w r (.cells (setsA c (q+o+len*t) new') el)).heap[p]?=w.heap[p]?:=fun p hp=>by rw[heap_put,if_neg (fun e=>hp e.1)]
               obtain⟨R1,S1⟩:=R.grow hg hmb' hm0 f above below hfam (cs.drop o ++ new) t r (q+o) (t,(m.ez b).2) (World.put w r (.cells (setsA c (q+o+len*t) new') el))
                (below_put R.below hrs.1 _) (by rw[size_put];exact Nat.le_refl _) ⟨hrs.1,by rw[size_put];exact hrs.2⟩
                ⟨_,el,hput,⟨by rw[List.length_append,hdl,size_setsA];omega,fun i x hi=>by
                 rw[get_setsA new' c _ _ (by omega)]
                 by_cases h2:i<(cs.drop o).length
                 ·rw[List.getElem?_append_left h2,List.getElem?_drop] at hi
                  rw[if_neg (by omega)]
                  have:=hrow.2 _ _ hi
                  rw[←Nat.add_assoc] at this
                  exact this
                 ·rw[List.getElem?_append_right (by omega)] at hi
                  obtain⟨x',a1,a2⟩:=hnewL.get hi
                  have hlt:i - (cs.drop o).length<new'.length:=by
                   rcases Nat.lt_or_ge (i - (cs.drop o).length) new'.length with e|e
                   ·exact e
                   ·rw[List.getElem?_eq_none e] at a1;cases a1
                  rw[if_pos (by omega)]
                  refine⟨x',?_,a2⟩
                  rw[show q+o+i - (q+o+len*t)=i - (cs.drop o).length from by omega];exact a1⟩,rfl,by rw[size_setsA];exact he2⟩
                (.inr ⟨rfl,by rw[List.length_append,hdl];omega,fun p hp hpr=>hpn p hpr,fun c2 el2 hc2=>by
                 rw[hc] at hc2;cases hc2
                 exact⟨_,hput,by rw[size_setsA];exact Nat.le_refl _,fun i hi=>by rw[get_setsA new' c _ _ (by omega),if_neg (by omega)]⟩⟩)
               refine⟨_,_,_,run_append_in P w _ ts ty st xt elem xe x' t n len cap _ new' h0 h1 hst hxt hsz ⟨_,_,hx'⟩ hfit (hnewrun w rfl) (fun a e=>?_) (by simp),?_,R1,S1⟩
               ·cases e;rw[addr_add];exact hsto
               ·have:=VRel.slice (m:=m.upd (2*h.n) (r,q+o) (t,(m.ez b).2)) (b:=2*h.n) (o:=0) (r:=r) (s:=q+o) (len:=len+n) (k:=2*(len+n)) (cap:=cap) (Mp.upd_self _ _ _ _) (by omega) (by omega) (by omega) (by omega)
                 (by intro _;rw[Mp.ez_self];simp only[Nat.add_zero];exact hroom)
                rw[Nat.add_zero] at this
                exact this
              ·-- in new memory
               have hfo:firstOf h t len (.slice (some ⟨b,o,none⟩) len k)=some (cs.drop o):=by
                unfold firstOf
                have hb0 : ¬b % 2=1:=by omega
                have h00 : ¬len*t=0:=by
                 intro e
                 rcases Nat.mul_eq_zero.1 e with e|e
                 ·omega
                 ·exact hsize e
                simp only[cond_eq_ite,Nat.ble_eq,Nat.le_refl,if_true,beq_iff_eq,h00,if_false,IH.rd,IH.row,hb0,hg]
                rw[if_pos (by omega),List.take_of_length_le (by omega)]
               obtain⟨old',holdrun,holdL,_⟩:=R.first P hs hfo
               obtain⟨d,newCap,rest,hrun,hcap,hrest⟩:=run_append_new P w ts ty st xt elem xe _ x' t bytes z _ len cap n old' new' h0 h1 hst hxt hsz hby hz0 rfl ⟨_,_,hx'⟩ (by omega) hb65 hmost'
                (fun d=>holdrun _ rfl) (fun d=>hnewrun _ rfl)
               have hon:=holdL.append hnewL
               have hsz1:(({ w with drawn:=d }:World).alloc (.cells (old' ++ new' ++ rest).toArray elem)).heap.size=w.heap.size+1:=size_alloc _ _
               have hat:(({ w with drawn:=d }:World).alloc (.cells (old' ++ new' ++ rest).toArray elem)).heap[w.heap.size]?=some (.cells (old' ++ new' ++ rest).toArray elem):=by rw[heap_alloc];exact if_pos rfl
               obtain⟨R1,S1⟩:=R.grow hg hmb' hm0 f above below hfam (cs.drop o ++ new) t w.heap.size 0 (t,(old' ++ new' ++ rest).length) (({ w with drawn:=d }:World).alloc (.cells (old' ++ new' ++ rest).toArray elem))
                (below_alloc (below_drew R.below d) R.size _) (by rw[hsz1];omega) ⟨R.size,by rw[hsz1];omega⟩
                ⟨_,elem,hat,⟨by simp only[List.length_append,Nat.zero_add,←holdL.1,←hnewL.1,List.size_toArray];omega,fun i x hi=>by
                 obtain⟨x',a1,a2⟩:=hon.get hi
                 refine⟨x',?_,a2⟩
                 have hi':i<(old' ++ new').length:=by
                  rcases Nat.lt_or_ge i (old' ++ new').length with h|h
                  ·exact h
                  ·rw[List.getElem?_eq_none h] at a1;cases a1
                 simp only[List.getElem?_toArray,Nat.zero_add]
                 rw[List.getElem?_append_left hi'];exact a1⟩,rfl,by simp⟩
                (.inl ⟨Nat.le_refl _,fun p hp=>by rw[heap_alloc];exact if_neg (Nat.ne_of_lt hp)⟩)
               refine⟨_,_,_,hrun,?_,R1,S1⟩
               have:=VRel.slice (m:=m.upd (2*h.n) (w.heap.size,0) (t,(old' ++ new' ++ rest).length)) (b:=2*h.n) (o:=0) (r:=w.heap.size) (s:=0) (len:=len+n) (k:=2*(len+n)) (cap:=newCap) (Mp.upd_self _ _ _ _) (by omega) (by omega) (by omega) (by omega)
                (by intro _;rw[Mp.ez_self];simp only[List.length_append,hrest,hzc,←holdL.1,hdl,←hnewL.1,hnewlen];rw[←Nat.add_mul,←Nat.add_mul];simp only[Nat.zero_add,Nat.add_zero];exact Nat.mul_le_mul_right _ (by omega))
               exact this
             ·omega
            ·rw[if_neg hce] at ha;cases ha
         ·rw[if_neg hend] at ha;cases ha
     ·cases ha
  | _=>simp at ha
theorem Rel.copy {B:Nat} {w0:World} {m:Mp} {h h':IH} {w:World} (R:Rel B w0 m h w) (P:Program) {ts:Array TypeId} {ty dt:TypeId} {d d' x x' v:Value}
  (h0:ts[0]?=some dt) (hc:copyOp P h dt d x=some (v,h')) (hd:VRel m d d') (hx:VRel m x x') :
  ∃w',(Builtin.copy_ ts ty #[d',x']).run P w=.ok v w'∧VRel m v v∧Rel B w0 m h' w'∧Step m h w m h' w':=by
 unfold copyOp at hc
 cases hdt:P.underlying dt with
 | none=>simp[hdt] at hc
 | some td =>
  rw[hdt] at hc
  cases td with
  | slice e =>
   cases hdn:Id.lenOf d with
   | none=>simp[hdn] at hc
   | some dn =>
   cases hsn:Id.lenOf x with
   | none=>simp[hdn,hsn] at hc
   | some sn =>
   cases hsz:sizeT P e with
   | none=>simp[hdn,hsn,hsz] at hc
   | some size =>
   simp only[hdn,hsn,hsz] at hc
   cases hfi:firstOf h size (Nat.min sn dn) x with
   | none=>simp[hfi] at hc
   | some cs =>
   simp only[hfi,cond_eq_ite] at hc
   obtain⟨xa,xc,rfl⟩:=lenOf_rel hx hsn
   obtain⟨cs',hrun,hL,_⟩:=R.first P hx hfi
   have hlen:(Builtin.lenOf (.slice xa sn xc)).run P w=.ok sn w:=rfl
   have e0 : ∀y:Value,(#[y,Value.slice xa sn xc]:Array Value)[0]?=some y:=fun _=>rfl
   have e1 : ∀y:Value,(#[y,Value.slice xa sn xc]:Array Value)[1]?=some (.slice xa sn xc):=fun _=>rfl
   split at hc
   ·rename_i a b
    cases hc
    obtain⟨rfl,rfl,rfl⟩:=hd.nil_inv
    simp only[Id.lenOf] at hdn;cases hdn
    refine⟨w,?_,.scal rfl,R,Step.refl _ _ _⟩
    have hmin:Nat.min sn 0=0:=Nat.min_zero sn
    simp only[hmin] at hrun ⊢
    simp only[Builtin.copy_,h0,e0,e1,Sem.run_bind,Go.run_underlying hdt,Result.andThen_ok,hlen,run_sizeT w hsz,hmin,hrun w rfl,Sem.run_pure]
    rfl
   ·rename_i b o dl dk
    simp only[Id.lenOf] at hdn;cases hdn
    have hdv : ∃r q cap a,d'=.slice (some a) dn cap∧(0<dk→m b=some (r,q)∧a=⟨r,q+o,none⟩)∧(dk=0→dn=0):=by
     rcases hd.slice_inv with⟨r,q,cap,hm,h1,_,_,_,_,rfl⟩|⟨hl,hk,a,cap,rfl⟩
     ·exact⟨r,q,cap,_,rfl,fun _=>⟨hm,rfl⟩,fun e=>by omega⟩
     ·subst hl;exact⟨0,0,cap,a,rfl,fun e=>by omega,fun _=>rfl⟩
    obtain⟨r,q,cap,a,rfl,hpos,hzero⟩:=hdv
    by_cases hemp:cs.isEmpty=true
    ·rw[if_pos hemp] at hc;cases hc
     have hcs:cs = []:=by simpa using hemp
     subst hcs
     have hcs':cs' = []:=by have:=hL.1;simpa using this.symm
     subst hcs'
     refine⟨w,?_,.scal rfl,R,Step.refl _ _ _⟩
     simp only[Builtin.copy_,h0,e0,e1,Sem.run_bind,Go.run_underlying hdt,Result.andThen_ok,hlen,run_sizeT w hsz,hrun w rfl,Sem.run_pure]
     rfl
    ·rw[if_neg hemp] at hc
     by_cases hall:(!(cs.all cellOK))=true
     ·rw[if_pos hall] at hc;cases hc
     rw[if_neg hall] at hc
     obtain⟨h1w,hw1,hv1⟩:=Option.map_eq_some_iff.1 hc
     cases hv1
     have hk:0<dk:=by
      rcases Nat.eq_zero_or_pos dk with e|e
      ·have:=hzero e;subst this
       exfalso;apply hemp
       have hmin:Nat.min sn 0=0:=Nat.min_zero sn
       rw[hmin] at hfi
       unfold firstOf at hfi
       split at hfi
       ·cases hfi;rfl
       ·simp only[cond_eq_ite,Nat.ble_eq,Nat.zero_le,if_true,Nat.zero_mul,beq_self_eq_true] at hfi;cases hfi;rfl
       ·cases hfi
      ·exact e
     obtain⟨hm,rfl⟩:=hpos hk
     obtain⟨w',hr1,R1,S1⟩:=R.wr hw1 hm hL (by simpa using hall) P
     refine⟨w',?_,.scal rfl,R1,S1⟩
     simp only[Builtin.copy_,h0,e0,e1,Sem.run_bind,Go.run_underlying hdt,Result.andThen_ok,hlen,run_sizeT w hsz,hrun w rfl,hr1,Sem.run_pure]
     rfl
   ·cases hc
  | _=>simp at hc
end Go.Id

namespace Go.Id
open Go Go.RowKit
theorem toList_setsA (c:Array Value) (q:Nat) (vs:List Value) (h:q+vs.length≤c.size):(setsA c q vs).toList=IH.splice c.toList q vs:=by
 apply List.ext_getElem?
 intro i
 rw[Array.getElem?_toList (xs:=setsA c q vs),get_setsA _ _ _ _ h,get_splice _ _ _ (by simpa using h)]
 split<;>simp
theorem fold_setsA (off:Nat) : ∀(l:List Value) (k:Nat) (c:Array Value),(l.zipIdx k).foldl (fun cs p=>cs.setIfInBounds (off+p.2) p.1) c=setsA c (off+k) l
 | [],k,c=>rfl
 | v :: l,k,c=>by
  rw[List.zipIdx_cons,List.foldl_cons,fold_setsA off l (k+1),setsA,Nat.add_assoc]
def PartRel (m:Mp) (a b:Nat×Value):Prop:=b.1=a.1∧VRel m a.2 b.2
theorem LRel.splice {m:Mp} {a a' b b':List Value} (h:LRel m a a') (k:LRel m b b') (o:Nat) (hb:o+b.length≤a.length):LRel m (IH.splice a o b) (IH.splice a' o b'):=by
 have h1:=h.1;have h2:=k.1
 unfold IH.splice
 rw[←h2]
 exact(h.take o).append (k.append (h.drop _))
theorem fill_rel {m:Mp} (place:Nat→Option (Nat×Nat)) : ∀(ps ps':List (Nat×Value)) (cs:List Value) (c':Array Value) (r:List Value),LRel m cs c'.toList →
  ps.length=ps'.length→(∀(i:Nat) (a b:Nat×Value),ps[i]?=some a→ps'[i]?=some b→PartRel m a b)→fillP place cs ps=some r → ∃r',Instr.fill place c' ps'=some r'∧LRel m r r'.toList
 | [],[],cs,c',r,h,_,_,hf=>by simp only[fillP] at hf;cases hf;exact⟨c',rfl,h⟩
 | [],_ :: _,_,_,_,_,hl,_,_=>by simp at hl
 | _ :: _,[],_,_,_,_,hl,_,_=>by simp at hl
 | (i,v) :: ps,(i',v') :: ps',cs,c',r,h,hl,hp,hf=>by
  obtain⟨h1,h2⟩:=hp 0 _ _ rfl rfl
  simp only at h1 h2;subst h1
  rw[fillP] at hf
  cases hpl:place i' with
  | none=>simp[hpl] at hf
  | some on =>
   obtain⟨o,n⟩:=on
   simp only[hpl,cond_eq_ite] at hf
   by_cases hc:(v.cells.size == n && Nat.ble (o+n) cs.length)=true
   ·rw[if_pos hc] at hf
    simp only[Bool.and_eq_true,beq_iff_eq,Nat.ble_eq] at hc
    have hcs:c'.size=cs.length:=by have:=h.1;simp at this;omega
    have hv':=cells_size h2
    have hlen:o+v'.cells.toList.length≤c'.size:=by rw[Array.length_toList,hv',hc.1,hcs];exact hc.2
    have hfold:v'.cells.zipIdx.foldl (fun cs x=>match x with|(c,j)=>cs.setIfInBounds (o+j) c) c'=setsA c' o v'.cells.toList:=by
     rw[←Array.foldl_toList,Array.toList_zipIdx]
     exact fold_setsA o v'.cells.toList 0 c'
    rw[Instr.fill,hpl]
    simp only
    rw[hfold,if_neg (by simp only[ne_eq,Bool.or_eq_true,decide_eq_true_eq,not_or,Decidable.not_not,gt_iff_lt,Nat.not_lt];exact⟨by rw[hv',hc.1],by rw[hv',hc.1,hcs];exact hc.2⟩)]
    refine fill_rel place ps ps' _ _ r ?_ (by simpa using hl) (fun j a b ha hb=>hp (j+1) a b (by simpa using ha) (by simpa using hb)) hf
    rw[toList_setsA _ _ _ hlen]
    exact h.splice h2.cells o (by rw[Array.length_toList,hc.1];exact hc.2)
   ·rw[if_neg hc] at hf;cases hf
theorem partsOf_rel {m:Mp} {fr:Fr} {ρ:Operand→Value} (hρ : ∀x v,opd fr x=some v→VRel m v (ρ x)) : ∀(l:List (Nat×Operand)) (ps:List (Nat×Value)),partsOf fr l=some ps →
  ps.length=l.length ∧ ∀(i:Nat) (a b:Nat×Value),ps[i]?=some a→(l.map fun p=>(p.1,ρ p.2))[i]?=some b→PartRel m a b
 | [],ps,h=>by simp only[partsOf] at h;cases h;exact⟨rfl,by simp⟩
 | (i,x) :: l,ps,h=>by
  rw[partsOf] at h
  cases hx:opd fr x with
  | none=>simp[hx] at h
  | some v =>
   cases hl:partsOf fr l with
   | none=>simp[hx,hl] at h
   | some vs =>
    simp only[hx,hl] at h;cases h
    obtain⟨h1,h2⟩:=partsOf_rel hρ l vs hl
    refine⟨by simp[h1],fun j a b ha hb=>?_⟩
    cases j with
    | zero=>simp at ha hb;subst ha;subst hb;exact⟨rfl,hρ x v hx⟩
    | succ j=>simp at ha hb;exact h2 j a b ha (by simpa using hb)
theorem sim_build {m:Mp} {P:Program} {t:TypeId} {fr:Fr} {ρ:Operand→Value} (hρ : ∀x v,opd fr x=some v→VRel m v (ρ x)) {parts:Array (Nat×Operand)} {z cs:List Value} {ps:List (Nat×Value)}
  (hz:zeroCellsT P t=some z) (hps:partsOf fr parts.toList=some ps) (ha:allSized P t=true) (hf:fillP (placeOf P t) z ps=some cs) (w:World) :
  ∃cs',(Instr.build t (parts.map fun(i,x)=>(i,ρ x))).run P w=.ok (.agg cs') w∧VRel m (.agg cs.toArray) (.agg cs'):=by
 obtain⟨zv,hz1,hz2,rfl⟩:=zeroCellsT_spec hz
 unfold zeroT at hz1
 obtain⟨it,hit,hz3⟩:=Option.bind_eq_some_iff.1 hz1
 obtain⟨hl,hp⟩:=partsOf_rel hρ _ _ hps
 have hL0:LRel m zv.cells.toList zv.cells.toList:=(VRel.plain_mk hz2).cells
 have hmap:(parts.map fun(x:Nat×Operand)=>match x with|(i,x)=>(i,ρ x)).toList=parts.toList.map fun p=>(p.1,ρ p.2):=by rw[Array.toList_map]
 have key : ∀place:Nat→Option (Nat×Nat),(∀i p,placeOf P t i=some p→place i=some p) → ∃r',Instr.fill place zv.cells (parts.toList.map fun p=>(p.1,ρ p.2))=some r'∧LRel m cs r'.toList:=by
  intro place hplace
  have up : ∀(ps:List (Nat×Value)) (a r:List Value),fillP (placeOf P t) a ps=some r→fillP place a ps=some r:=by
   intro ps
   induction ps with
   | nil=>intro a r h;exact h
   | cons p ps ih =>
    obtain⟨i,v⟩:=p
    intro a r h
    rw[fillP] at h ⊢
    cases hpi:placeOf P t i with
    | none=>simp[hpi] at h
    | some on =>
     rw[hplace i on hpi]
     rw[hpi] at h
     obtain⟨o,n⟩:=on
     simp only[cond_eq_ite] at h ⊢
     by_cases hc:(v.cells.size == n && Nat.ble (o+n) a.length)=true
     ·rw[if_pos hc] at h ⊢;exact ih _ _ h
     ·rw[if_neg hc] at h;cases h
  exact fill_rel place ps _ _ _ _ hL0 (by simp[hl]) hp (up ps _ _ hf)
 have hb : ∃r',P.built t (parts.map fun(x:Nat×Operand)=>match x with|(i,x)=>(i,ρ x)).toList=some r'∧LRel m cs r'.toList:=by
  rw[hmap]
  unfold Program.built allSized at *
  cases hu:P.underlying t with
  | none=>simp[hu] at ha
  | some d =>
   rw[hu] at ha
   cases d with
   | array n e =>
    simp only[Option.isSome_iff_exists] at ha
    obtain⟨ie,hie⟩:=ha
    obtain⟨r',h1,h2⟩:=key (fun i=>some (i*ie.size,ie.size)) (by
     intro i p hpi
     simp only[placeOf,hu,sizeT,hie,Option.map_some] at hpi
     exact hpi)
    refine⟨r',?_,h2⟩
    simp only[hit,hz3,hie]
    exact h1
   | struct fs =>
    simp only[Array.all_eq_true_iff_forall_mem,Option.isSome_iff_exists] at ha
    have hpl : ∀(l:List Field),(∀f∈l,∃i,P.info? f.type=some i) → ∃pl,l.mapM (fun f=>(P.info? f.type).map fun i=>(f.offset,i.size))=some pl ∧ ∀(j:Nat) (f:Field),l[j]?=some f → ∃i,P.info? f.type=some i∧pl[j]?=some (f.offset,i.size):=by
     intro l
     induction l with
     | nil=>intro _;exact⟨[],rfl,by simp⟩
     | cons f l ih =>
      intro h
      obtain⟨i,hi⟩:=h f (by simp)
      obtain⟨pl,h1,h2⟩:=ih (fun g hg=>h g (by simp[hg]))
      refine⟨(f.offset,i.size) :: pl,by simp[List.mapM_cons,hi,h1],fun j g hj=>?_⟩
      cases j with
      | zero=>simp at hj;subst hj;exact⟨i,hi,rfl⟩
      | succ j=>simp at hj;obtain⟨i',a,b⟩:=h2 j g hj;exact⟨i',a,by simpa using b⟩
    obtain⟨pl,hpl1,hpl2⟩:=hpl fs.toList (fun f hf=>ha f (by simpa using hf))
    obtain⟨r',h1,h2⟩:=key (pl.toArray[·]?) (by
     intro i p hpi
     simp only[placeOf,hu] at hpi
     cases hfi:fs[i]? with
     | none=>simp[hfi] at hpi
     | some f =>
      simp only[hfi,sizeT] at hpi
      obtain⟨i',a,b⟩:=hpl2 i f (by simpa using hfi)
      rw[a] at hpi
      simp only[Option.map_some] at hpi
      rw[←hpi]
      simpa using b)
    refine⟨r',?_,h2⟩
    simp only[hit,hz3,hpl1]
    exact h1
   | _=>simp at ha
 obtain⟨r',h1,h2⟩:=hb
 exact⟨r',run_build w t _ r' h1,VRel.agg_iff (by simpa using h2)⟩
end Go.Id

namespace Go.Id
open Go Go.RowKit
theorem natOf_spec {m:Mp} {v v':Value} {most n:Nat} (h:natOf v most=some n) (hv:VRel m v v') : ∃k,v'=.int k (n:Int)∧n≤most:=by
 unfold natOf at h
 split at h
 ·rename_i k i
  have hv':=hv.scal_eq rfl
  subst hv'
  cases i with
  | ofNat j =>
   simp only[cond_eq_ite,Nat.ble_eq] at h
   by_cases hj:j≤most
   ·rw[if_pos hj] at h;cases h;exact⟨k,rfl,hj⟩
   ·rw[if_neg hj] at h;cases h
  | negSucc j=>simp at h
 ·cases h
theorem run_bound (P:Program) (w:World) (k:IntKind) (n y:Nat) (code:BoundsCode) (h:n≤y):(Instr.sliceBound (.int k (n:Int)) y code).run P w=.ok n w:=by
 simp only[Instr.sliceBound,asIntOf,Sem.run_bind,Sem.run_pure,Result.andThen_ok]
 rw[if_pos (by omega)]
 simp
def OptRel (m:Mp):Option Value→Option Value→Prop
 | none,none=>True
 | some v,some v'=>VRel m v v'
 | _,_=>False
theorem OptRel.none_inv {m:Mp} {x:Option Value} (h:OptRel m none x):x=none:=by cases x<;>simp_all [OptRel]
theorem OptRel.some_inv {m:Mp} {v:Value} {x:Option Value} (h:OptRel m (some v) x) : ∃v',x=some v'∧VRel m v v':=by
 cases x with
 | none=>simp[OptRel] at h
 | some v'=>exact⟨v',rfl,h⟩
theorem boundsOf_sim (P:Program) (w:World) {m:Mp} (isSlice:Bool) {len cap c:Nat} {lo hi mx lo' hi' mx':Option Value} (hlo:OptRel m lo lo') (hhi:OptRel m hi hi') (hmx:OptRel m mx mx')
  {l h:Nat} {om:Option Nat} (hb:boundsOf len c lo hi mx=some (l,h,om)) (hc:c≤cap) (hlen:len≤c) :
  (Instr.sliceBounds isSlice len cap lo' hi' mx').run P w=.ok (l,h,om.getD cap) w∧l≤h∧h≤om.getD c∧om.getD c≤c:=by
 have low : ∀{h l:Nat},loOf lo h=some l→l≤h ∧ ∀code,(match lo' with|some v=>Instr.sliceBound v h code|none=>pure 0:Sem Nat).run P w=.ok l w:=by
  intro h l hl
  unfold loOf at hl
  cases lo with
  | none=>rw[hlo.none_inv];simp only at hl;cases hl;exact⟨Nat.zero_le _,fun _=>rfl⟩
  | some v =>
   obtain⟨v',rfl,hv⟩:=hlo.some_inv
   obtain⟨k,rfl,hle⟩:=natOf_spec hl hv
   exact⟨hle,fun code=>run_bound P w k l h code hle⟩
 unfold boundsOf at hb
 cases mx with
 | none =>
  rw[hmx.none_inv]
  simp only at hb
  cases hh:hiOf hi len c with
  | none=>simp[hh] at hb
  | some h1 =>
   simp only[hh] at hb
   cases hl:loOf lo h1 with
   | none=>simp[hl] at hb
   | some l1 =>
    simp only[hl] at hb;cases hb
    obtain⟨h2,hrun⟩:=low hl
    unfold hiOf at hh
    cases hi with
    | none =>
     rw[hhi.none_inv]
     simp only at hh;cases hh
     refine⟨?_,h2,hlen,Nat.le_refl _⟩
     have:=hrun .sliceB
     cases lo'<;>simp_all [Instr.sliceBounds]
    | some v =>
     obtain⟨v',rfl,hv⟩:=hhi.some_inv
     obtain⟨k,rfl,hle⟩:=natOf_spec hh hv
     refine⟨?_,h2,hle,Nat.le_refl _⟩
     have hb:=fun code=>run_bound P w k h cap code (by omega)
     have:=hrun .sliceB
     cases lo'<;>simp_all [Instr.sliceBounds]
 | some mv =>
  obtain⟨mv',rfl,hmv⟩:=hmx.some_inv
  simp only at hb
  cases hm:natOf mv c with
  | none=>simp[hm] at hb
  | some mm =>
   simp only[hm] at hb
   obtain⟨k,rfl,hmc⟩:=natOf_spec hm hmv
   have hb1:=fun code=>run_bound P w k mm cap code (by omega)
   cases hi with
   | none=>simp at hb
   | some hv =>
    obtain⟨hv',rfl,hhv⟩:=hhi.some_inv
    simp only at hb
    cases hh:natOf hv mm with
    | none=>simp[hh] at hb
    | some h1 =>
     simp only[hh] at hb
     obtain⟨k2,rfl,hhm⟩:=natOf_spec hh hhv
     have hb2:=fun code=>run_bound P w k2 h1 mm code hhm
     cases hl:loOf lo h1 with
     | none=>simp[hl] at hb
     | some l1 =>
      simp only[hl] at hb;cases hb
      obtain⟨h2,hrun⟩:=low hl
      refine⟨?_,h2,hhm,hmc⟩
      have:=hrun .slice3C
      cases lo'<;>simp_all [Instr.sliceBounds]
theorem addr_add' (r p n:Nat):Addr.add ⟨r,p,none⟩ n=⟨r,p+n,none⟩:=addr_add r p n
theorem resliced_sim {m:Mp} {size:Nat} {room:Bool} {b o len k r s cap:Nat} {lo hi mx lo' hi' mx':Option Value} {v:Value} (hr:resliced size room (.slice (some ⟨b,o,none⟩) len k) lo hi mx=some v)
  (hm:m b=some (r,s)) (hk0:0<k) (hl:len≤k / 2) (hkc:k / 2≤cap) (hx:k % 2=1→cap=k / 2) (hz:k % 2=0→s+o+cap*(m.ez b).1≤(m.ez b).2) (hroom:room=true→(m.ez b).1=size)
  (hlo:OptRel m lo lo') (hhi:OptRel m hi hi') (hmx:OptRel m mx mx') (P:Program) (isSlice:Bool) (w:World) :
  ∃l h mm,(Instr.sliceBounds isSlice len cap lo' hi' mx').run P w=.ok (l,h,mm) w∧VRel m v (.slice (some (if mm=l then ⟨r,s+o,none⟩ else Addr.add ⟨r,s+o,none⟩ (l*size))) (h - l) (mm - l)):=by
 unfold resliced at hr
 cases hb:boundsOf len (k / 2) lo hi mx with
 | none=>simp[hb] at hr
 | some lhm =>
  obtain⟨l,h,om⟩:=lhm
  simp only[hb,cond_eq_ite,beq_iff_eq] at hr
  obtain⟨hrun,h1,h2,h3⟩:=boundsOf_sim P w isSlice hlo hhi hmx hb hkc hl
  rw[if_neg (by omega)] at hr
  refine⟨l,h,_,hrun,?_⟩
  cases om with
  | none =>
   simp only[Option.getD_none] at hr h2 h3 ⊢
   by_cases hlk:l=k / 2
   ·rw[if_pos hlk] at hr
    have hh0:h - l=0:=by omega
    rw[hh0]
    by_cases hodd:k % 2=1
    ·rw[if_pos hodd] at hr;cases hr
     have:=hx hodd
     rw[if_pos (by omega)]
     rw[show cap - l=0 from by omega]
     exact .slice hm (by omega) (by omega) (by omega) (by intro _;rfl) (by intro e;omega)
    ·rw[if_neg hodd] at hr;cases hr
     exact .lost
   ·rw[if_neg hlk] at hr
    by_cases hod:(k % 2 == 1 || room)=true
    ·rw[if_pos hod] at hr;cases hr
     rw[if_neg (by omega),addr_add']
     have e1:s+o+l*size=s+(o+l*size):=by omega
     rw[e1]
     refine .slice hm (by omega) (by omega) (by omega) (fun e=>by have:=hx (by omega);omega) (fun e=>?_)
     have hev:k % 2=0:=by omega
     have hrm:room=true:=by
      simp only[Bool.or_eq_true,beq_iff_eq] at hod
      rcases hod with h|h
      ·omega
      ·exact h
     have hsz:=hroom hrm
     have h1:=hz hev
     rw[hsz] at h1 ⊢
     have:(cap - l)*size+l*size=cap*size:=by rw[←Nat.add_mul];congr 1;omega
     omega
    ·rw[if_neg hod] at hr;cases hr
  | some mm =>
   simp only[Option.getD_some] at hr h2 h3 ⊢
   by_cases hlm:l=mm
   ·rw[if_pos hlm] at hr;cases hr
    rw[if_pos hlm.symm,show h - l=0 from by omega,show mm - l=0 from by omega]
    exact .slice hm (by omega) (by omega) (by omega) (by intro _;rfl) (by intro e;omega)
   ·rw[if_neg hlm] at hr;cases hr
    rw[if_neg (fun e=>hlm e.symm),addr_add']
    have e1:s+o+l*size=s+(o+l*size):=by omega
    rw[e1]
    exact .slice hm (by omega) (by omega) (by omega) (by intro _;omega) (by intro e;omega)
theorem roomy_spec {B:Nat} {w0:World} {m:Mp} {h:IH} {w:World} (R:Rel B w0 m h w) {size b o len k r s:Nat} (hr:roomy h size (.slice (some ⟨b,o,none⟩) len k)=true) (hm:m b=some (r,s)):(m.ez b).1=size:=by
 unfold roomy at hr
 simp only[Bool.and_eq_true,beq_iff_eq] at hr
 obtain⟨hb,hr⟩:=hr
 cases hg:h.ext.get (b / 2) with
 | none=>simp[hg] at hr
 | some x =>
  rw[hg] at hr
  cases x with
  | cells cs e f =>
   simp only[beq_iff_eq] at hr
   have hb':2*(b / 2)=b:=by omega
   obtain⟨c,el,_,_,h1,_⟩:=R.obj (b / 2) _ r s hg (by rw[hb'];exact hm)
   rw[hb'] at h1
   rw[h1,hr]
  | _=>simp at hr
theorem Rel.sliceOp {B:Nat} {w0:World} {m:Mp} {h:IH} {w:World} (R:Rel B w0 m h w) (P:Program) {t:TypeId} {x x' v:Value} {lo hi mx lo' hi' mx':Option Value} (hs:sliceOp P h t x lo hi mx=some v)
  (hx:VRel m x x') (hlo:OptRel m lo lo') (hhi:OptRel m hi hi') (hmx:OptRel m mx mx') :
  ∃v',(Instr.sliceAt t x' lo' hi' mx').run P w=.ok v' w∧VRel m v v':=by
 unfold Id.sliceOp at hs
 cases hu:P.underlying t with
 | none=>simp[hu] at hs
 | some d =>
  rw[hu] at hs
  cases d with
  | slice e =>
   simp only at hs
   cases hsz:sizeT P e with
   | none=>simp[hsz] at hs
   | some size =>
    simp only[hsz] at hs
    cases x with
    | slice a len k =>
     cases a with
     | none =>
      obtain⟨rfl,rfl,rfl⟩:=hx.nil_inv
      unfold resliced at hs
      simp only[beq_self_eq_true,Bool.and_self,cond_true] at hs
      cases hb:boundsOf 0 0 lo hi mx with
      | none=>simp[hb] at hs
      | some lhm =>
       obtain⟨l,hh,om⟩:=lhm
       simp only[hb] at hs;cases hs
       obtain⟨hrun,h1,h2,h3⟩:=boundsOf_sim P w true hlo hhi hmx hb (Nat.le_refl 0) (Nat.le_refl 0)
       have hl0:l=0:=by omega
       have hh0:hh=0:=by omega
       subst hl0;subst hh0
       refine⟨.slice none 0 0,?_,.scal rfl⟩
       have hm0:om.getD 0=0:=by omega
       rw[hm0] at hrun
       simp[Instr.sliceAt,Go.run_underlying hu,Instr.slice,hrun,run_sizeT w hsz]
     | some a =>
      obtain⟨b,o,sp⟩:=a
      cases sp with
      | some q=>simp[resliced] at hs
      | none =>
      rcases hx.slice_inv with⟨r,s,cap,hm,h1,h2,h3,h4,h5,rfl⟩|⟨rfl,rfl,a,cap,rfl⟩
      ·obtain⟨l,hh,mm,hrun,hv⟩:=resliced_sim hs hm h1 h2 h3 h4 h5 (fun e=>roomy_spec R e hm) hlo hhi hmx P true w
       refine⟨_,?_,hv⟩
       simp[Instr.sliceAt,Go.run_underlying hu,Instr.slice,hrun,run_sizeT w hsz]
       split<;>simp
      ·-- a lost slice: it stays one
       unfold resliced at hs
       cases hb:boundsOf 0 (0 / 2) lo hi mx with
       | none=>simp[hb] at hs
       | some lhm =>
        obtain⟨l,hh,om⟩:=lhm
        simp only[hb,beq_self_eq_true,cond_true] at hs;cases hs
        obtain⟨hrun,h1,h2,h3⟩:=boundsOf_sim P w (cap:=cap) true hlo hhi hmx hb (by omega) (by omega)
        have hl0:l=0:=by omega
        have hh0:hh=0:=by omega
        subst hl0;subst hh0
        refine⟨.slice (some (if om.getD cap=0 then a else a.add (0*size))) 0 (om.getD cap - 0),?_,.lost⟩
        simp[Instr.sliceAt,Go.run_underlying hu,Instr.slice,hrun,run_sizeT w hsz]
        split<;>simp
    | _=>simp[resliced] at hs
  | array n e =>
   simp only at hs
   cases hsz:sizeT P e with
   | none=>simp[hsz] at hs
   | some size =>
    cases hA:asAddr x with
    | none=>simp[hsz,hA] at hs
    | some bo =>
     obtain⟨b,o⟩:=bo
     have hp:x=.pointer (some ⟨b,o,none⟩):=by unfold asAddr at hA;split at hA<;>simp_all
     subst hp
     obtain⟨r,s,hm,rfl⟩:=hx.ptr_inv
     simp only[hsz,hA] at hs
     obtain⟨l,hh,mm,hrun,hv⟩:=resliced_sim hs hm (by omega) (by omega) (cap:=n) (by omega) (by omega) (by omega) (by simp) hlo hhi hmx P false w
     refine⟨_,?_,hv⟩
     simp[Instr.sliceAt,Go.run_underlying hu,Instr.sureAddr,hrun,run_sizeT w hsz]
  | pointer arr =>
   simp only at hs
   cases hua:P.underlying arr with
   | none=>simp[hua] at hs
   | some da =>
    rw[hua] at hs
    cases da with
    | array n e =>
     simp only at hs
     cases hsz:sizeT P e with
     | none=>simp[hsz] at hs
     | some size =>
      cases hA:Id.asAddr x with
      | none=>simp[hsz,hA] at hs
      | some bo =>
       obtain⟨b,o⟩:=bo
       have hp:x=.pointer (some ⟨b,o,none⟩):=by unfold Id.asAddr at hA;split at hA<;>simp_all
       subst hp
       obtain⟨r,s,hm,rfl⟩:=hx.ptr_inv
       simp only[hsz,hA] at hs
       obtain⟨l,hh,mm,hrun,hv⟩:=resliced_sim hs hm (by omega) (by omega) (cap:=n) (by omega) (by omega) (by omega) (by simp) hlo hhi hmx P false w
       refine⟨_,?_,hv⟩
       simp[Instr.sliceAt,Go.run_underlying hu,Instr.slice,Go.asAddr,Go.run_underlying hua,hrun,run_sizeT w hsz]
    | _=>simp at hs
  | string =>
   simp only[cond_eq_ite] at hs
   by_cases hp:(plain x && (lo.all plain && hi.all plain && mx.all plain))=true
   ·rw[if_pos hp] at hs
    simp only[Bool.and_eq_true] at hp
    have e0:=hx.plain_eq hp.1
    have ep : ∀{a b:Option Value},OptRel m a b→a.all plain=true→b=a:=by
     intro a b hab ha
     cases a with
     | none=>exact hab.none_inv
     | some v=>obtain⟨v',rfl,hv⟩:=hab.some_inv;rw[hv.plain_eq (by simpa using ha)]
    rw[e0,ep hlo hp.2.1.1,ep hhi hp.2.1.2,ep hmx hp.2.2]
    obtain⟨hpv,hrun⟩:=pureVal_run hs
    refine⟨v,?_,.plain_mk hpv⟩
    have this:=hrun w
    simp only[Instr.sliceAt,Sem.run_bind,Go.run_underlying hu,Result.andThen_ok]
    exact this
   ·rw[if_neg hp] at hs;cases hs
  | _=>simp at hs
theorem repl_get (z:List Value) (hz:z ≠ []) : ∀(n i:Nat),(repl n z)[i]?=if i<n*z.length then z[i % z.length]? else none
 | 0,i=>by simp[repl]
 | n+1,i=>by
  have hpos:0<z.length:=List.length_pos_iff.2 hz
  rw[repl]
  by_cases h:i<z.length
  ·rw[List.getElem?_append_left h,if_pos (by rw[Nat.add_mul];omega),Nat.mod_eq_of_lt h]
  ·rw[List.getElem?_append_right (by omega),repl_get z hz n (i - z.length)]
   have e:(i - z.length) % z.length=i % z.length:=by rw[Nat.mod_eq_sub_mod (a:=i) (by omega)]
   rw[e]
   by_cases h2:i - z.length<n*z.length
   ·rw[if_pos h2,if_pos (by rw[Nat.add_mul];omega)]
   ·rw[if_neg h2,if_neg (by rw[Nat.add_mul];omega)]
theorem repl_length (z:List Value) : ∀n,(repl n z).length=n*z.length
 | 0=>by simp[repl]
 | n+1=>by rw[repl,List.length_append,repl_length z n,Nat.add_mul];omega
theorem range_repl (z:Array Value) (n:Nat) (hz:z.size≠0):((Array.range (n*z.size)).map (fun i=>z[i % z.size]!)).toList=repl n z.toList:=by
 apply List.ext_getElem?
 intro i
 have hz':z.toList ≠ []:=by intro e;apply hz;have:=congrArg List.length e;simpa using this
 rw[repl_get z.toList hz' n i,Array.getElem?_toList,Array.getElem?_map,Array.length_toList]
 by_cases h:i<n*z.size
 ·rw[if_pos h]
  have hm:i % z.size<z.size:=Nat.mod_lt _ (by omega)
  simp[h,hm]
 ·rw[if_neg h]
  simp[h]
theorem wrap64_nat (n:Nat) (h:n≤1099511627776):IntKind.i64.wrap (n:Int)=(n:Int):=by
 rw[IntKind.wrap_i64];omega
theorem LRel.repl {m:Mp} {z:List Value} (h:LRel m z z) : ∀n,LRel m (Id.repl n z) (Id.repl n z)
 | 0=>.nil m
 | n+1=>h.append (LRel.repl h n)
def MakesRow (m:Mp) (w:World) (h h':IH) (run:Result Value) (v:Value):Prop :=
 ∃cs cs' e t v',h'=h.new (.cells cs e none)∧LRel m cs cs'∧run=.ok v' (w.alloc (.cells cs'.toArray t)) ∧ ∀m':Mp,m' (2*h.n)=some (w.heap.size,0)→VRel m' v v'
theorem makeSlice_makes (P:Program) {m:Mp} {h h':IH} {t:TypeId} {l l' c c' v:Value} (hs:makeSlice P h t l c=some (v,h')) (hl:VRel m l l') (hc:VRel m c c') (w:World) :
  MakesRow m w h h' ((Instr.makeSlice t l' c').run P w) v:=by
 unfold Id.makeSlice at hs
 cases hu:P.underlying t with
 | none=>simp[hu] at hs
 | some d =>
  rw[hu] at hs
  cases d with
  | slice e =>
   simp only at hs
   cases hln:natOf l sizeMost with
   | none=>simp[hln] at hs
   | some ln =>
   cases hcn:natOf c sizeMost with
   | none=>simp[hln,hcn] at hs
   | some cn =>
   cases hsz:sizeT P e with
   | none=>simp[hln,hcn,hsz] at hs
   | some n =>
   cases hby:bytesT P e with
   | none=>simp[hln,hcn,hsz,hby] at hs
   | some by_ =>
   cases hz:zeroCellsT P e with
   | none=>simp[hln,hcn,hsz,hby,hz] at hs
   | some z =>
   simp only[hln,hcn,hsz,hby,hz,cond_eq_ite] at hs
   by_cases hcond:(Nat.ble ln cn && Nat.ble (cn*(by_+1)) sizeMost && z.length == n)=true
   ·rw[if_pos hcond] at hs;cases hs
    simp only[Bool.and_eq_true,Nat.ble_eq,beq_iff_eq] at hcond
    obtain⟨⟨hlc,hmost⟩,hzn⟩:=hcond
    obtain⟨zv,hz0,hzp,rfl⟩:=zeroCellsT_spec hz
    obtain⟨kl,rfl,hl1⟩:=natOf_spec hln hl
    obtain⟨kc,rfl,hc1⟩:=natOf_spec hcn hc
    unfold bytesT at hby
    obtain⟨i,hi,hib⟩:=Option.map_eq_some_iff.1 hby
    have hmul:cn*(by_+1)=cn*by_+cn:=by rw[Nat.mul_add,Nat.mul_one]
    have hbc:by_*cn=cn*by_:=Nat.mul_comm _ _
    unfold sizeMost at hmost hl1 hc1
    have hwrapl:=wrap64_nat ln hl1
    have hwrapc:=wrap64_nat cn hc1
    have hcells : ∃cells:Array Value,(if cn*n=0 then pure #[] else do pure (←zeroValue e).cells:Sem (Array Value)).run P w=.ok cells w∧((Array.range (cn*n)).map (fun i=>cells[i % cells.size]!)).toList=repl cn zv.cells.toList:=by
     by_cases h0:cn*n=0
     ·rw[if_pos h0]
      refine⟨#[],rfl,?_⟩
      rw[h0]
      have:(repl cn zv.cells.toList).length=0:=by rw[repl_length,hzn,h0]
      rw[List.length_eq_zero_iff.1 this];simp
     ·rw[if_neg h0]
      refine⟨zv.cells,by simp[run_zeroT w hz0],?_⟩
      have hs:zv.cells.size=n:=by simpa using hzn
      rw[←hs]
      exact range_repl zv.cells cn (by rw[hs];intro e;apply h0;rw[e,Nat.mul_zero])
    obtain⟨cells,hcrun,hclist⟩:=hcells
    have hLz:LRel m (repl cn zv.cells.toList) (repl cn zv.cells.toList):=LRel.repl (VRel.plain_mk (m:=m) hzp).cells cn
    refine⟨_,_,n,e,.slice (some ⟨w.heap.size,0,none⟩) ln cn,rfl,hLz,?_,fun m' hm=>?_⟩
    ·have e1:(Array.range (cn*n)).map (fun i=>cells[i % cells.size]!)=(repl cn zv.cells.toList).toArray:=by rw[←hclist]
     simp only[Instr.makeSlice,Sem.run_bind,Go.run_underlying hu,Result.andThen_ok,asInt,asIntOf,Sem.run_pure,run_typeInfo w hi,hib,hwrapl,hwrapc]
     have hprod:(by_:Int)*(cn:Int)=((by_*cn:Nat):Int):=by simp
     have hno : ¬((decide ((cn:Int)<0) || decide ((by_:Int)*(cn:Int) > 2 ^ 48) || decide ((ln:Int)<0) || decide ((ln:Int) > (cn:Int)))=true):=by
      simp only[Bool.or_eq_true,decide_eq_true_eq,hprod];omega
     rw[if_neg hno]
     simp only[Int.toNat_natCast,Sem.run_bind,run_askRoom,Result.andThen_ok,run_sizeT w hsz]
     by_cases h0:cn*n=0
     ·rw[if_pos h0] at hcrun ⊢
      simp only[Sem.run_pure] at hcrun;cases hcrun
      simp only[Sem.run_bind,Sem.run_pure,Result.andThen_ok,Go.newRow,run_newObj]
      rw[e1];rfl
     ·rw[if_neg h0] at hcrun ⊢
      simp only[Sem.run_bind,run_zeroT w hz0,Result.andThen_ok,Sem.run_pure] at hcrun;cases hcrun
      simp only[Sem.run_bind,run_zeroT w hz0,Sem.run_pure,Result.andThen_ok,Go.newRow,run_newObj]
      rw[e1];rfl
    ·exact .slice (s:=0) hm (by omega) (by omega) (by omega) (by intro _;omega) (by intro e;omega)
   ·rw[if_neg hcond] at hs;cases hs
  | _=>simp at hs
theorem MakesRow.rel {B:Nat} {w0:World} {m:Mp} {h h':IH} {w:World} {run:Result Value} {v:Value} (M:MakesRow m w h h' run v) (R:Rel B w0 m h w) (hfresh:Fresh m h.n h'.n) :
  ∃v' m' w',run=.ok v' w'∧VRel m' v v'∧Rel B w0 m' h' w'∧Step m h w m' h' w':=by
 obtain⟨cs,cs',e,t,v',rfl,hL,hrun,hv⟩:=M
 obtain⟨R1,S1⟩:=R.newRow (hfresh h.n (Nat.le_refl _) (Nat.lt_succ_self _)) hL e t
 exact⟨v',_,_,hrun,hv _ (Mp.upd_self _ _ _ _),R1,S1⟩
end Go.Id

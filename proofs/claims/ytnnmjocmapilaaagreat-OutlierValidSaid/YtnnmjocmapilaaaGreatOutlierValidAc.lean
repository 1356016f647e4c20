/-
  The ideal machine: changes of maps and loops
-/
import Derived.Test.YtnnmjocmapilaaaGreatOutlierValidAb
import Derived.Laws.Sem
import Derived.Laws.Cells
import Derived.Laws.Entries
set_option linter.unusedVariables false
set_option linter.unusedSimpArgs false
set_option linter.defProp false
set_option linter.deprecated false
namespace Go.Id
open Go Go.RowKit
def bz.other:bz→Bool
 | .cells _ _ _=>false
 | .num _=>false
 | _=>true
theorem Rel.setObj {B:Nat} {w0:World} {m:Mp} {h:IH} {w:World} (R:Rel B w0 m h w) {k r s:Nat} {o o1:bz} {o':Obj}
  (hk:h.ext.get k=some o) (ho:o.other=true) (ha:o.alive=true) (hm:m (2*k)=some (r,s)) (ho1:o1.other=true) (jJ : ∀w' z,w'.heap[r]?=some o'→fQ m w' r s z o1) :
  Rel B w0 m { h with ext:=h.ext.set k o1 } (World.put w r o')∧Step m h w m { h with ext:=h.ext.set k o1 } (World.put w r o'):=by
 have hrs:=R.even k r s hm
 have hkn:k<h.n:=by
  rcases Nat.lt_or_ge k h.n with e|e
  ·exact e
  ·have:=R.dom k e;rw[this] at hk;cases hk
 have cC : ∀j,(h.ext.set k o1).get j=if j=k then some o1 else h.ext.get j:=fun j=>Tr.bK _ _ _ _
 have hold : ∀r',r'≠r→(World.put w r o').heap[r']?=w.heap[r']?:=fun r' h'=>by rw[kF,if_neg (fun e=>h' e.1)]
 have xZ:(World.put w r o').heap[r]?=some o':=by rw[kF,if_pos ⟨rfl,hrs.2⟩]
 have hno : ∀j x s',j≠k→h.ext.get j=some x→x.alive=true→m (2*j)≠some (r,s'):=by
  intro j x s' hj hx hxa hmj
  rcases R.own j k x _ r s' s hj hx hk hxa ha hmj hm with⟨_,_,_,_,f,st,a,b,_⟩|⟨_,u⟩
  ·rw[hk] at b;cases b;simp[bz.other] at ho
  ·cases o<;>simp[bz.other,bz.isNum] at ho u
 have tN : ∀j cs t f,(h.ext.set k o1).get j=some (.cells cs t f)→h.ext.get j=some (.cells cs t f):=by
  intro j cs t f hj
  rw[cC] at hj
  by_cases e:j=k
  ·rw[if_pos e] at hj;cases hj;simp[bz.other] at ho1
  ·rw[if_neg e] at hj;exact hj
 have Lv : ∀j cs t f,h.ext.get j=some (.cells cs t f)→(h.ext.set k o1).get j=some (.cells cs t f):=by
  intro j cs t f hj
  rw[cC,if_neg ?_];exact hj
  intro e;subst e;rw[hk] at hj;cases hj;simp[bz.other] at ho
 refine⟨⟨rS R.below hrs.1 _,by rw[ji];exact R.size,?_,R.odd,fun j r' s' hj=>by rw[ji];exact R.even j r' s' hj,?_,?_,?_,R.cY,?_,?_,R.whole⟩,
  ⟨Mp.le_refl m,fun b e=>absurd rfl e,Nat.le_refl _,rfl,?_,?_,by rw[ji];exact Nat.le_refl _,fun k r s a b=>by have:k<h.n:=b;omega,fun _ _ _ h=>h⟩⟩
 ·intro b bs hb
  obtain⟨r0,s0,hm0,hb1,c1,el1,fz,hc,hrw⟩:=R.base b bs hb
  exact⟨r0,s0,hm0,hb1,c1,el1,fz,by rw[hold r0 (by omega)];exact hc,hrw⟩
 ·intro j hj
  show(h.ext.set k o1).get j=none
  rw[cC,if_neg (by have:h.n≤j:=hj;omega)]
  exact R.dom j hj
 ·intro j x r' s' hx hj
  have hx':(if j=k then some o1 else h.ext.get j)=some x:=by rw[←cC];exact hx
  by_cases e:j=k
  ·subst e
   rw[if_pos rfl] at hx';cases hx'
   rw[hm] at hj;cases hj
   exact jJ _ _ xZ
  ·rw[if_neg e] at hx'
   by_cases hr':r'=r
   ·subst hr'
    cases x with
    | dead=>trivial
    | _=>exact absurd hj (hno j _ s' e hx' rfl)
   ·exact(R.obj j x r' s' hx' hj).mono (Mp.le_refl m) (hold r' hr') rfl
 ·intro j j' x x' r' s1 s2 hne hx hx' hxa Zf hj hj'
  have e1:(if j=k then some o1 else h.ext.get j)=some x:=by rw[←cC];exact hx
  have e2:(if j'=k then some o1 else h.ext.get j')=some x':=by rw[←cC];exact hx'
  by_cases c1:j=k
  ·subst c1
   rw[if_neg (fun e=>hne e.symm)] at e2
   rw[hm] at hj;cases hj
   exact absurd hj' (hno j' x' s2 (fun e=>hne e.symm) e2 Zf)
  ·rw[if_neg c1] at e1
   by_cases c2:j'=k
   ·subst c2
    rw[hm] at hj';cases hj'
    exact absurd hj (hno j x s1 c1 e1 hxa)
   ·rw[if_neg c2] at e2
    exact(R.own j j' x x' r' s1 s2 hne e1 e2 hxa Zf hj hj').imp (fun⟨a1,a2,a3,a4,f,st,b1,b2,b3⟩=>⟨a1,a2,a3,a4,f,st,Lv _ _ _ _ b1,Lv _ _ _ _ b2,b3⟩) id
 ·intro j cs t f hj
  exact R.fam j cs t f (tN j cs t _ hj)
 ·intro f st hf
  refine(R.long f st hf).imp fun {x y} hxy=>?_
  intro xs t1 g1 ys t2 g2 r' s1 s2 h1 h2 h3 h4
  exact hxy xs t1 g1 ys t2 g2 r' s1 s2 (tN _ _ _ _ h1) (tN _ _ _ _ h2) h3 h4
 ·intro r' hr' hno
  exact hold r' (fun e=>hno k s hkn (e▸hm))
 ·intro j hj hmj
  show(h.ext.set k o1).get j=h.ext.get j
  rw[cC,if_neg (fun e=>by subst e;rw[hm] at hmj;cases hmj)]
def VM (h:IH) (k f:Nat) (bX below:List Nat):Option Nat→Prop
 | none=>f=h.n∧bX = []∧below = []
 | some g=>f=g ∧ ∃st,h.bT.get g=some st∧st=bX ++ k :: below
theorem Rel.grow {B:Nat} {w0:World} {m:Mp} {h:IH} {w:World} (R:Rel B w0 m h w) {k r s:Nat} {cs:List Value} {t:Nat} {fam:Option Nat}
  (hk:h.ext.get k=some (.cells cs t fam)) (hm:m (2*k)=some (r,s)) (ct:m (2*h.n)=none)
  (f:Nat) (bX below:List Nat) (DT:VM h k f bX below fam)
  (cs':List Value) (t':Nat) (r' s':Nat) (z:Nat×Nat) (w':World)
  (hw:Below B w0 w') (hsz:w.heap.size≤w'.heap.size) (hr':B≤r'∧r'<w'.heap.size)
  (fl : ∃c el,w'.heap[r']?=some (.cells c el)∧ng m cs' c s'∧z.1=t'∧z.2≤c.size)
  (mV:(w.heap.size≤r'∧(∀q,q<w.heap.size→w'.heap[q]?=w.heap[q]?)) ∨
   (r'=r∧s+cs.length≤s'+cs'.length∧(∀q,q<w.heap.size→q≠r→w'.heap[q]?=w.heap[q]?) ∧
    ∀c el,w.heap[r]?=some (.cells c el) → ∃c',w'.heap[r]?=some (.cells c' el)∧c.size≤c'.size ∧ ∀i,i<s+cs.length→c'[i]?=c[i]?)) :
  Rel B w0 (m.upd (2*h.n) (r',s') z) (grown h k f cs t bX below cs' t') w'∧Step m h w (m.upd (2*h.n) (r',s') z) (grown h k f cs t bX below cs' t') w':=by
 have hle:m.le (m.upd (2*h.n) (r',s') z):=Mp.zX ct
 have hkn:k<h.n:=by
  rcases Nat.lt_or_ge k h.n with e|e
  ·exact e
  ·have:=R.dom k e;rw[this] at hk;cases hk
 have hdn:=R.dom h.n (Nat.le_refl _)
 have hrs:=R.even k r s hm
 have hst:(fam=none∧f=h.n∧bX = []∧below = [])∨(fam=some f∧h.bT.get f=some (bX ++ k :: below)):=by
  cases fam with
  | none=>exact .inl ⟨rfl,DT⟩
  | some g=>obtain⟨e,st,a,b⟩:=DT;subst e;subst b;exact .inr ⟨rfl,a⟩
 have hka:k∉bX∧k∉below:=by
  rcases hst with⟨_,_,rfl,rfl⟩|⟨_,a⟩
  ·simp
  ·have:=(R.cY f _ a).2.2
   rw[List.nodup_append] at this
   obtain⟨_,b,d⟩:=this
   exact⟨fun hx=>d k hx k (by simp) rfl,(List.nodup_cons.1 b).1⟩
 have QZ : ∀j∈bX,fam=some f∧h.bT.get f=some (bX ++ k :: below):=by
  intro j hj
  rcases hst with⟨_,_,rfl,rfl⟩|x
  ·cases hj
  ·exact x
 have cC : ∀j,(grown h k f cs t bX below cs' t').ext.get j=if j=h.n then some (.cells cs' t' (some f)) else if j=k then some (.cells cs t (some f)) else if j∈bX then some .dead else h.ext.get j:=fun j=>by
  show(((IH.dJ h.ext bX).set k (.cells cs t (some f))).set h.n (.cells cs' t' (some f))).get j=_
  rw[Tr.bK,Tr.bK,jc]
 have qR : ∀g,(grown h k f cs t bX below cs' t').bT.get g=if g=f then some (h.n :: k :: below) else h.bT.get g:=fun g=>Tr.bK _ _ _ _
 have Ac : ∀j x,j≠h.n→(grown h k f cs t bX below cs' t').ext.get j=some x→x.alive=true→(j∉bX) ∧ ∃y,h.ext.get j=some y∧y.alive=true ∧
   ((j≠k∧x=y)∨(j=k∧x=.cells cs t (some f))):=by
  intro j x hj hx ha
  rw[cC,if_neg hj] at hx
  by_cases e:j=k
  ·subst e;rw[if_pos rfl] at hx;cases hx
   exact⟨hka.1,_,hk,rfl,.inr ⟨rfl,rfl⟩⟩
  ·rw[if_neg e] at hx
   by_cases hd:j∈bX
   ·rw[if_pos hd] at hx;cases hx;simp[bz.alive] at ha
   ·rw[if_neg hd] at hx;exact⟨hd,x,hx,ha,.inl ⟨e,rfl⟩⟩
 have tK : ∀j x s1,j≠h.n→j≠k→j∉bX→h.ext.get j=some x→x.alive=true→m (2*j)=some (r,s1) → ∃js t1,x=.cells js t1 (some f)∧j∈below∧fam=some f∧s1+js.length≤s+cs.length:=by
  intro j x s1 hjn hjk hja hx ha hmj
  obtain⟨a1,a2,a3,a4,g,st,b1,b2,b3,b4,b5⟩:=(R.own j k x _ r s1 s hjk hx hk ha rfl hmj hm).resolve_right fun e=>by cases e.2
  rw[hk] at b2;cases b2
  rcases hst with⟨e,_⟩|⟨e,a⟩
  ·cases e
  ·cases e
   rw[a] at b3;cases b3
   have hjb:j∈below:=by
    rcases List.mem_append.1 b4 with h1|h1
    ·exact absurd h1 hja
    ·rcases List.mem_cons.1 h1 with h2|h2
     ·exact absurd h2 hjk
     ·exact h2
   rw[hx] at b1;cases b1
   have hp:=R.long f _ a
   rw[List.pairwise_append] at hp
   have hq:=(List.pairwise_cons.1 hp.2.1).1 j hjb cs t (some f) a1 a2 (some f) r s s1 hk hx hm hmj
   exact⟨a1,a2,rfl,hjb,rfl,hq⟩
 have TW : ∀j x q s1,j≠h.n→h.ext.get j=some x→(x.alive=true→j∉bX)→m (2*j)=some (q,s1)→fQ (m.upd (2*h.n) (r',s') z) w' q s1 ((m.upd (2*h.n) (r',s') z).ez (2*j)) x:=by
  intro j x q s1 hjn hx hal hq
  have hqs:=R.even j q s1 hq
  have hez:(m.upd (2*h.n) (r',s') z).ez (2*j)=m.ez (2*j):=Mp.Rc _ _ _ (by omega)
  rcases mV with⟨_,dW⟩|⟨_,_,dW,hr⟩
  ·exact(R.obj j x q s1 hx hq).mono hle (dW q hqs.2) hez
  ·by_cases e:q=r
   ·subst e
    cases x with
    | dead=>trivial
    | map es =>
     by_cases hjk:j=k
     ·subst hjk;rw[hk] at hx;cases hx
     ·obtain⟨_,_,e,_⟩:=tK j _ s1 hjn hjk (hal rfl) hx rfl hq;cases e
    | num x1 =>
     by_cases hjk:j=k
     ·subst hjk;rw[hk] at hx;cases hx
     ·obtain⟨_,_,e,_⟩:=tK j _ s1 hjn hjk (hal rfl) hx rfl hq;cases e
    | loop l =>
     by_cases hjk:j=k
     ·subst hjk;rw[hk] at hx;cases hx
     ·obtain⟨_,_,e,_⟩:=tK j _ s1 hjn hjk (hal rfl) hx rfl hq;cases e
    | iter k1 i1 l1 j1 =>
     by_cases hjk:j=k
     ·subst hjk;rw[hk] at hx;cases hx
     ·obtain⟨_,_,e,_⟩:=tK j _ s1 hjn hjk (hal rfl) hx rfl hq;cases e
    | cells js t1 g1 =>
     have hreach:s1+js.length≤s+cs.length:=by
      by_cases hjk:j=k
      ·subst hjk;rw[hk] at hx;cases hx;rw[hm] at hq;cases hq;exact Nat.le_refl _
      ·obtain⟨_,_,e,_,_,d⟩:=tK j _ s1 hjn hjk (hal rfl) hx rfl hq;cases e;exact d
     obtain⟨c,el,hc,hrw,hz1,hz2⟩:=R.obj j _ q s1 hx hq
     obtain⟨c',hc',hcs,hci⟩:=hr c el hc
     refine⟨c',el,hc',⟨Nat.le_trans hrw.1 hcs,fun i v hv=>?_⟩,by rw[hez];exact hz1,by rw[hez];exact Nat.le_trans hz2 hcs⟩
     obtain⟨v',a,b⟩:=hrw.2 i v hv
     have hil:i<js.length:=by
      rcases Nat.lt_or_ge i js.length with h1|h1
      ·exact h1
      ·rw[List.getElem?_eq_none h1] at hv;cases hv
     exact⟨v',by rw[hci (s1+i) (by omega)];exact a,b.mono hle⟩
   ·exact(R.obj j x q s1 hx hq).mono hle (dW q hqs.2 e) hez
 refine⟨⟨hw,Nat.le_trans R.size hsz,?_,?_,?_,?_,?_,?_,?_,?_,?_,?_⟩,⟨hle,?_,Nat.le_succ _,rfl,?_,?_,hsz,fun j q x hj1 hj2 hj=>by
  obtain rfl:j=h.n:=by have:(grown h k f cs t bX below cs' t').n=h.n+1:=rfl;omega
  rw[Mp.bh] at hj;cases hj
  rcases mV with⟨a,_⟩|⟨a,_⟩
  ·exact .inl a
  ·exact .inr ⟨k,s,hkn,a▸hm⟩,fun j hj hmj TX g st hg=>by
  rw[qR] at hg
  by_cases e:g=f
  ·rw[if_pos e] at hg;cases hg
   intro hx
   rcases List.mem_cons.1 hx with e1|hx
   ·omega
   ·rcases List.mem_cons.1 hx with e1|hx
    ·subst e1;rw[hm] at hmj;cases hmj
    ·rcases hst with⟨_,_,rfl,rfl⟩|⟨_,a⟩
     ·cases hx
     ·exact TX _ _ a (List.mem_append.2 (.inr (List.mem_cons.2 (.inr hx))))
  ·rw[if_neg e] at hg;exact TX g st hg⟩⟩
 ·intro b bs hb
  obtain⟨r0,s0,hm0,hb1,c1,el1,fz,hc,hrw⟩:=R.base b bs hb
  refine⟨r0,s0,by rw[Mp.bR _ _ _ (by omega)];exact hm0,hb1,c1,el1,fz,?_,hrw.1,fun i v hv=>let ⟨v',x,y⟩:=hrw.2 i v hv;⟨v',x,y.mono hle⟩⟩
  have hbs:r0<w.heap.size:=by have:=R.size;omega
  rcases mV with⟨_,dW⟩|⟨_,_,dW,_⟩
  ·rw[dW r0 hbs];exact hc
  ·rw[dW r0 hbs (by omega)];exact hc
 ·intro b hb
  rw[Mp.bR _ _ _ (by omega)]
  exact R.odd b hb
 ·intro j q x hj
  by_cases e:j=h.n
  ·subst e;rw[Mp.bh] at hj;cases hj;exact hr'
  ·rw[Mp.bR _ _ _ (by omega)] at hj
   have:=R.even j q x hj;omega
 ·intro j hj
  have hj':h.n+1≤j:=hj
  rw[cC,if_neg (by omega),if_neg (by omega),if_neg ?_]
  ·exact R.dom j (by omega)
  ·intro hx
   have:=(R.cY f _ (QZ j hx).2).2.1 j (by simp[hx]);omega
 ·intro j x q s1 hx hj
  by_cases e:j=h.n
  ·subst e
   rw[cC,if_pos rfl] at hx;cases hx
   rw[Mp.bh] at hj;cases hj
   obtain⟨c,el,hc,hrw,hz1,hz2⟩:=fl
   rw[Mp.lz]
   exact⟨c,el,hc,⟨hrw.1,fun i v hv=>let ⟨v',a,b⟩:=hrw.2 i v hv;⟨v',a,b.mono hle⟩⟩,hz1,hz2⟩
  ·rw[Mp.bR _ _ _ (by omega)] at hj
   cases hxa:x.alive with
   | false=>cases x<;>simp_all [bz.alive,fQ]
   | true =>
    obtain⟨hna,y,hy,hya,hc⟩:=Ac j x e hx hxa
    have:=TW j y q s1 e hy (fun _=>hna) hj
    rcases hc with⟨_,rfl⟩|⟨hjk,rfl⟩
    ·exact this
    ·subst hjk;rw[hk] at hy;cases hy;exact this
 ·intro j j' x x' q s1 s2 hne hx hx' ha ha' hj hj'
  have up : ∀i js t1 g,i≠h.n→i∉bX→h.ext.get i=some (.cells js t1 (some g))→(grown h k f cs t bX below cs' t').ext.get i=some (.cells js t1 (some g)):=by
   intro i js t1 g hin hia hi
   rw[cC,if_neg hin]
   by_cases e:i=k
   ·subst e;rw[hk] at hi;cases hi
    rcases hst with⟨e,_⟩|⟨e,_⟩
    ·cases e
    ·cases e;simp
   ·rw[if_neg e,if_neg hia,hi]
  have Qo : ∀i y s3,i≠h.n→(grown h k f cs t bX below cs' t').ext.get i=some y→y.alive=true→m (2*i)=some (r',s3)→Kin (grown h k f cs t bX below cs' t') h.n i∧Kin (grown h k f cs t bX below cs' t') i h.n:=by
   intro i y s3 hin hy hya hmi
   have hri:=R.even i r' s3 hmi
   rcases mV with⟨Ud,_⟩|⟨hrr,_,_,_⟩
   ·omega
   ·subst hrr
    obtain⟨hna,z,hz,hza,hc⟩:=Ac i y hin hy hya
    by_cases hik:i=k
    ·subst hik
     have g1:(grown h i f cs t bX below cs' t').ext.get h.n=some (.cells cs' t' (some f)):=by rw[cC,if_pos rfl]
     have g2:(grown h i f cs t bX below cs' t').ext.get i=some (.cells cs t (some f)):=by rw[cC,if_neg hin,if_pos rfl]
     have g3:(grown h i f cs t bX below cs' t').bT.get f=some (h.n :: i :: below):=by rw[qR,if_pos rfl]
     exact⟨⟨_,_,_,_,f,_,g1,g2,g3,by simp⟩,⟨_,_,_,_,f,_,g2,g1,g3,by simp⟩⟩
    ·obtain⟨js,t1,e,hb,_,_⟩:=tK i z s3 hin hik hna hz hza hmi
     subst e
     have g1:(grown h k f cs t bX below cs' t').ext.get h.n=some (.cells cs' t' (some f)):=by rw[cC,if_pos rfl]
     have g2:=up i js t1 f hin hna hz
     have g3:(grown h k f cs t bX below cs' t').bT.get f=some (h.n :: k :: below):=by rw[qR,if_pos rfl]
     exact⟨⟨_,_,_,_,f,_,g1,g2,g3,by simp[hb]⟩,⟨_,_,_,_,f,_,g2,g1,g3,by simp[hb]⟩⟩
  by_cases c1:j=h.n
  ·subst c1
   rw[Mp.bh] at hj;cases hj
   rw[Mp.bR _ _ _ (by omega)] at hj'
   exact .inl (Qo j' x' s2 (fun e=>hne e.symm) hx' ha' hj').1
  ·by_cases c2:j'=h.n
   ·subst c2
    rw[Mp.bh] at hj';cases hj'
    rw[Mp.bR _ _ _ (by omega)] at hj
    exact .inl (Qo j x s1 c1 hx ha hj).2
   ·rw[Mp.bR _ _ _ (by omega)] at hj hj'
    obtain⟨n1,y,hy,hya,hyx⟩:=Ac j x c1 hx ha
    obtain⟨n2,y',hy',hya',hyx'⟩:=Ac j' x' c2 hx' ha'
    rcases R.own j j' y y' q s1 s2 hne hy hy' hya hya' hj hj' with⟨a1,a2,a3,a4,g,st,b1,b2,b3,b4,b5⟩|⟨u1,u2⟩
    case inr =>
     refine .inr ⟨?_,?_⟩
     ·rcases hyx with⟨_,e⟩|⟨e,_⟩
      ·rw[e];exact u1
      ·rw[e,hk] at hy;cases hy;cases u1
     ·rcases hyx' with⟨_,e⟩|⟨e,_⟩
      ·rw[e];exact u2
      ·rw[e,hk] at hy';cases hy';cases u2
    refine .inl ⟨a1,a2,a3,a4,g,if g=f then h.n :: k :: below else st,up j _ _ _ c1 n1 b1,up j' _ _ _ c2 n2 b2,?_,?_,?_⟩
    ·rw[qR];by_cases e:g=f
     ·simp[e]
     ·simp[e,b3]
    ·by_cases e:g=f
     ·subst e
      rcases hst with⟨_,e,_⟩|⟨_,a⟩
      ·have:=(R.cY _ _ b3).1;omega
      ·rw[a] at b3;cases b3
       rw[if_pos rfl]
       rcases List.mem_append.1 b4 with h1|h1
       ·exact absurd h1 n1
       ·simp[List.mem_cons.1 h1]
     ·rw[if_neg e];exact b4
    ·by_cases e:g=f
     ·subst e
      rcases hst with⟨_,e,_⟩|⟨_,a⟩
      ·have:=(R.cY _ _ b3).1;omega
      ·rw[a] at b3;cases b3
       rw[if_pos rfl]
       rcases List.mem_append.1 b5 with h1|h1
       ·exact absurd h1 n2
       ·simp[List.mem_cons.1 h1]
     ·rw[if_neg e];exact b5
 ·intro g st hg
  rw[qR] at hg
  by_cases e:g=f
  ·subst e
   rw[if_pos rfl] at hg;cases hg
   rcases hst with⟨_,e,_,rfl⟩|⟨_,a⟩
   ·exact⟨by show g<h.n+1;omega,by simp[grown];omega,by simp;omega⟩
   ·obtain⟨h1,h2,h3⟩:=R.cY g _ a
    refine⟨Nat.lt_succ_of_lt h1,?_,?_⟩
    ·intro x hx
     show x<h.n+1
     rcases List.mem_cons.1 hx with e|hx
     ·omega
     ·have:=h2 x (List.mem_append.2 (.inr hx));omega
    ·rw[List.nodup_append] at h3
     exact List.nodup_cons.2 ⟨fun hx=>by have:=h2 h.n (List.mem_append.2 (.inr hx));omega,h3.2.1⟩
  ·rw[if_neg e] at hg
   obtain⟨h1,h2,h3⟩:=R.cY g st hg
   exact⟨Nat.lt_succ_of_lt h1,fun x hx=>Nat.lt_succ_of_lt (h2 x hx),h3⟩
 ·intro j js t1 g hj
  rw[cC] at hj
  by_cases e:j=h.n
  ·rw[if_pos e] at hj;cases hj;exact⟨_,by rw[qR,if_pos rfl],by simp[e]⟩
  ·rw[if_neg e] at hj
   by_cases e1:j=k
   ·rw[if_pos e1] at hj;cases hj;exact⟨_,by rw[qR,if_pos rfl],by simp[e1]⟩
   ·rw[if_neg e1] at hj
    by_cases hd:j∈bX
    ·rw[if_pos hd] at hj;cases hj
    ·rw[if_neg hd] at hj
     obtain⟨st,a,b⟩:=R.fam j js t1 g hj
     by_cases e2:g=f
     ·subst e2
      rcases hst with⟨_,e3,_⟩|⟨_,a'⟩
      ·have:=(R.cY _ _ a).1;omega
      ·rw[a'] at a;cases a
       refine⟨_,by rw[qR,if_pos rfl],?_⟩
       rcases List.mem_append.1 b with h1|h1
       ·exact absurd h1 hd
       ·exact List.mem_cons.2 (.inr h1)
     ·exact⟨st,by rw[qR,if_neg e2];exact a,b⟩
 ·intro g st hg
  have bk : ∀i is t1 g1,i≠h.n→(grown h k f cs t bX below cs' t').ext.get i=some (.cells is t1 g1) → ∃t2 g2,h.ext.get i=some (.cells is t2 g2):=by
   intro i is t1 g1 hin hi
   obtain⟨_,y,hy,_,hc⟩:=Ac i _ hin hi rfl
   rcases hc with⟨_,rfl⟩|⟨e,e2⟩
   ·exact⟨_,_,hy⟩
   ·subst e;cases e2;exact⟨_,_,hk⟩
  rw[qR] at hg
  by_cases e:g=f
  ·subst e
   rw[if_pos rfl] at hg;cases hg
   have Jb : ∀y∈k :: below,y≠h.n∧y∉bX:=by
    intro y hy
    rcases hst with⟨_,_,rfl,rfl⟩|⟨_,a⟩
    ·rcases List.mem_cons.1 hy with rfl|hy
     ·exact⟨by omega,by simp⟩
     ·cases hy
    ·have h2:=(R.cY g _ a).2
     refine⟨fun e=>by have:=h2.1 y (List.mem_append.2 (.inr hy));omega,fun hx=>?_⟩
     exact(List.nodup_append.1 h2.2).2.2 y hx y hy rfl
   refine List.pairwise_cons.2 ⟨fun y hy=>?_,?_⟩
   ·intro xs t1 g1 ys t2 g2 q s1 s2 h1 h2 h3 h4
    obtain⟨hyn,hya⟩:=Jb y hy
    rw[cC,if_pos rfl] at h1;cases h1
    rw[Mp.bh] at h3;cases h3
    rw[Mp.bR _ _ _ (by omega)] at h4
    obtain⟨t3,g3,h5⟩:=bk y ys t2 g2 hyn h2
    have hyr:=R.even y _ _ h4
    rcases mV with⟨Ud,_⟩|⟨hrr,vc,_,_⟩
    ·omega
    ·subst hrr
     by_cases hyk:y=k
     ·subst hyk;rw[hk] at h5;cases h5;rw[hm] at h4;cases h4;exact vc
     ·obtain⟨_,_,e,_,_,d⟩:=tK y _ s2 hyn hyk hya h5 rfl h4;cases e;omega
   ·rcases hst with⟨_,_,rfl,rfl⟩|⟨_,a⟩
    ·simp
    ·have hp:=(List.pairwise_append.1 (R.long g _ a)).2.1
     refine hp.imp_of_mem fun {x y} hx hy hxy=>?_
     intro xs t1 g1 ys t2 g2 q s1 s2 h1 h2 h3 h4
     obtain⟨hxn,_⟩:=Jb x hx
     obtain⟨hyn,_⟩:=Jb y hy
     obtain⟨t3,g3,h5⟩:=bk x xs t1 g1 hxn h1
     obtain⟨t4,g4,h6⟩:=bk y ys t2 g2 hyn h2
     rw[Mp.bR _ _ _ (by omega)] at h3 h4
     exact hxy xs t3 g3 ys t4 g4 q s1 s2 h5 h6 h3 h4
  ·rw[if_neg e] at hg
   have hlt:=(R.cY g st hg).2.1
   refine(R.long g st hg).imp_of_mem fun {x y} hx hy hxy=>?_
   intro xs t1 g1 ys t2 g2 q s1 s2 h1 h2 h3 h4
   have hxn:x≠h.n:=by have:=hlt x hx;omega
   have hyn:y≠h.n:=by have:=hlt y hy;omega
   obtain⟨t3,g3,h5⟩:=bk x xs t1 g1 hxn h1
   obtain⟨t4,g4,h6⟩:=bk y ys t2 g2 hyn h2
   rw[Mp.bR _ _ _ (by omega)] at h3 h4
   exact hxy xs t3 g3 ys t4 g4 q s1 s2 h5 h6 h3 h4
 ·intro g st x y hg hx hy
  rw[qR] at hg
  by_cases e:g=f
  ·subst e
   rw[if_pos rfl] at hg;cases hg
   intro _
   by_cases hyn:y=h.n
   ·subst hyn;rw[Mp.bh];rfl
   ·have hy':y∈k :: below:=by
     rcases List.mem_cons.1 hy with e|e
     ·exact absurd e hyn
     ·exact e
    rw[Mp.bR _ _ _ (by omega)]
    rcases hst with⟨_,_,rfl,rfl⟩|⟨_,a⟩
    ·rcases List.mem_cons.1 hy' with rfl|h1
     ·rw[hm];rfl
     ·cases h1
    ·exact R.whole g _ k y a (by simp) (List.mem_append.2 (.inr hy')) (by rw[hm];rfl)
  ·rw[if_neg e] at hg
   have hlt:=(R.cY g st hg).2.1
   rw[Mp.bR _ _ _ (by have:=hlt x hx;omega),Mp.bR _ _ _ (by have:=hlt y hy;omega)]
   exact R.whole g st x y hg hx hy
 ·intro b hb
  by_cases e:b=2*h.n
  ·exact⟨h.n,e,Nat.le_refl _,Nat.lt_succ_self _⟩
  ·exact absurd (Mp.bR _ _ _ e) hb
 ·intro q hq hno
  rcases mV with⟨_,dW⟩|⟨_,_,dW,_⟩
  ·exact dW q hq
  ·exact dW q hq (fun e=>hno k s hkn (e▸hm))
 ·intro j hj hmj
  have e:j≠k:=fun e=>by subst e;rw[hm] at hmj;cases hmj
  rw[cC,if_neg (by omega),if_neg e,if_neg ?_]
  intro hd
  have:=R.whole f _ k j (QZ j hd).2 (by simp) (by simp[hd]) (by rw[hm];rfl)
  rw[hmj] at this;cases this
theorem ja (P:Program) {α:Type} : ∀(s:Sem α) (a:α),aw P s=some a → ∀w,s.run P w=.ok a w
 | .pure b,a,h,w=>by simp only[aw] at h;cases h;rfl
 | .program k,a,h,w=>by
  rw[aw] at h
  show(k P).run P w=_
  exact ja P (k P) a h w
 | .load ..,a,h,w=>by simp[aw] at h
 | .store ..,a,h,w=>by simp[aw] at h
 | .new ..,a,h,w=>by simp[aw] at h
 | .shape ..,a,h,w=>by simp[aw] at h
 | .freeze ..,a,h,w=>by simp[aw] at h
 | .frozen ..,a,h,w=>by simp[aw] at h
 | .getObj ..,a,h,w=>by simp[aw] at h
 | .setObj ..,a,h,w=>by simp[aw] at h
 | .choose ..,a,h,w=>by simp[aw] at h
 | .sys ..,a,h,w=>by simp[aw] at h
 | .mark ..,a,h,w=>by simp[aw] at h
 | .halt ..,a,h,w=>by simp[aw] at h
theorem gJ {P:Program} {s:Sem Value} {v:Value} (h:cw P s=some v):plain v=true ∧ ∀w,s.run P w=.ok v w:=by
 unfold cw at h
 cases hp:aw P s with
 | none=>simp[hp] at h
 | some x =>
  simp only[hp,cond_eq_ite] at h
  by_cases hx:plain x=true
  ·rw[if_pos hx] at h;cases h;exact⟨hx,ja P s _ hp⟩
  ·rw[if_neg hx] at h;cases h
section
variable {P:Program} {t:TypeId} (w:World)
theorem bV {n:Nat} (h:aK P t=some n):(sizeOf t).run P w=.ok n w:=by
 unfold aK at h
 obtain⟨i,hi,e⟩:=Option.map_eq_some_iff.1 h
 simp[sizeOf,typeInfo,hi,e]
theorem run_typeInfo {i:TypeInfo} (h:P.info? t=some i):(typeInfo t).run P w=.ok i w:=by
 simp[typeInfo,h]
theorem dP {z:Value} (h:pT P t=some z):(zeroValue t).run P w=.ok z w:=by
 unfold pT at h
 obtain⟨i,hi,e⟩:=Option.bind_eq_some_iff.1 h
 simp[zeroValue,typeInfo,hi,e]
theorem oP {b:Bool} (h:bj P t=some b):(isAgg t).run P w=.ok b w:=by
 unfold bj at h
 obtain⟨d,hd,e⟩:=Option.map_eq_some_iff.1 h
 subst e
 cases d<;>simp[isAgg,Go.run_underlying hd]
theorem cP {zs:List Value} (h:aC P t=some zs) : ∃z,pT P t=some z∧plain z=true∧zs=z.cells.toList:=by
 unfold aC at h
 cases hz:pT P t with
 | none=>simp[hz] at h
 | some z =>
  simp only[hz,cond_eq_ite] at h
  by_cases hp:plain z=true
  ·simp only[hp,if_true] at h;cases h;exact⟨z,rfl,hp,rfl⟩
  ·simp[hp] at h
end
theorem Rel.row {B:Nat} {w0:World} {m:Mp} {h:IH} {w:World} (R:Rel B w0 m h w) {b r s:Nat} {cs:List Value} (fl:h.row b=some cs) (hm:m b=some (r,s)) :
  ∃c el fz,w.heap[r]?=some (.cells c el fz)∧ng m cs c s:=by
 unfold IH.row at fl
 simp only[cond_eq_ite,beq_iff_eq] at fl
 by_cases hb:b % 2=1
 ·rw[if_pos hb] at fl
  obtain⟨r0,s0,hm0,_,c,el,fz,hc,hr⟩:=R.base _ _ fl
  rw[show 2*(b / 2)+1=b from by omega,hm] at hm0
  cases hm0
  exact⟨c,el,fz,hc,hr⟩
 ·rw[if_neg hb] at fl
  cases hg:h.ext.get (b / 2) with
  | none=>simp[hg] at fl
  | some o =>
   rw[hg] at fl
   cases o with
   | cells cs' t f =>
    simp only at fl;cases fl
    obtain⟨c,el,hc,hr,_⟩:=R.obj (b / 2) _ r s hg (by rw[show 2*(b / 2)=b from by omega];exact hm)
    exact⟨c,el,_,hc,hr⟩
   | map es=>simp at fl
   | loop l=>simp at fl
   | iter _ _ _ _=>simp at fl
   | num _=>simp at fl
   | dead=>simp at fl
theorem kH (r p i:Nat):Addr.add ⟨r,p,none⟩ i=⟨r,p+i,none⟩:=by unfold Addr.add;by_cases h:i=0<;>simp[h]
theorem Rel.rd {B:Nat} {w0:World} {m:Mp} {h:IH} {w:World} (R:Rel B w0 m h w) {b o n r s:Nat} {cs:List Value} (hrd:h.rd b o n=some cs) (hm:m b=some (r,s)) :
  ∃cs',bm m cs cs'∧cs.length=n ∧ ∀j v,cs'[j]?=some v→w.cell? (Addr.add ⟨r,s+o,none⟩ j)=some v:=by
 unfold IH.rd at hrd
 cases hr:h.row b with
 | none=>simp[hr] at hrd
 | some row =>
  simp only[hr,cond_eq_ite,Nat.ble_eq] at hrd
  by_cases hle:o+n≤row.length
  ·rw[if_pos hle] at hrd;cases hrd
   obtain⟨c,el,fz,hc,fl⟩:=R.row hr hm
   have h1:=fl.1
   refine⟨(c.toList.drop (s+o)).take n,⟨by simp;omega,fun i v v' hv hv'=>?_⟩,by simp;omega,fun j v hv=>?_⟩
   ·rw[List.getElem?_take] at hv hv'
    by_cases hi:i<n
    ·simp only[hi,if_true,List.getElem?_drop] at hv hv'
     obtain⟨v'',a,b'⟩:=fl.2 _ _ hv
     rw[←Nat.add_assoc] at a
     simp only[Array.getElem?_toList] at hv'
     rw[hv'] at a;cases a
     exact b'
    ·simp[hi] at hv
   ·rw[List.getElem?_take] at hv
    by_cases hi:j<n
    ·simp only[hi,if_true,List.getElem?_drop,Array.getElem?_toList] at hv
     rw[kH]
     simp[World.cell?,hc,hv]
    ·simp[hi] at hv
  ·simp[hle] at hrd
theorem Rel.load {B:Nat} {w0:World} {m:Mp} {h:IH} {w:World} (R:Rel B w0 m h w) {P:Program} {t:TypeId} {a a' v:Value} (hl:load P h t a=some v) (ha:aD m a a') :
  ∃v',(Instr.loadAt t a').run P w=.ok v' w∧aD m v v':=by
 unfold Id.load at hl
 cases hA:asAddr a with
 | none=>simp[hA] at hl
 | some bo =>
  obtain⟨b,o⟩:=bo
  have hp:a=.pointer (some ⟨b,o,none⟩):=by
   unfold asAddr at hA;split at hA<;>simp_all
  subst hp
  obtain⟨r,s,hm,rfl⟩:=ha.jY
  cases hG:bj P t with
  | none=>simp[hA,hG] at hl
  | some g =>
   cases g with
   | true =>
    cases hS:aK P t with
    | none=>simp[hA,hG,hS] at hl
    | some n =>
     simp only[hA,hG,hS] at hl
     obtain⟨cs,hrd,rfl⟩:=Option.map_eq_some_iff.1 hl
     obtain⟨cs',hL,hn,hc⟩:=R.rd hrd hm
     refine⟨.agg cs'.toArray,?_,aD.kf (by simpa using hL)⟩
     have hlen:n=cs'.length:=by rw[←hn];exact hL.1
     simp only[Instr.loadAt,Instr.sureAddr,loadVar,Sem.run_bind,Sem.run_pure,Result.andThen_ok,oP w hG,bV w hS,if_true]
     rw[hlen,run_loadCells_list w _ cs' hc]
     rfl
   | false =>
    simp only[hA,hG] at hl
    obtain⟨cs,hrd,hv⟩:=Option.bind_eq_some_iff.1 hl
    obtain⟨cs',hL,hn,hc⟩:=R.rd hrd hm
    have hv0:cs[0]?=some v:=by rw[←List.head?_eq_getElem?];exact hv
    obtain⟨v',hv',hR⟩:=hL.get hv0
    have:=hc 0 v' hv'
    refine⟨v',?_,hR⟩
    simp only[Instr.loadAt,Instr.sureAddr,loadVar,Sem.run_bind,Sem.run_pure,Result.andThen_ok,oP w hG]
    rw[kH,Nat.add_zero] at this
    simp[this]
def Yields (n:Next) (v:Value):Prop:=n=.value v∨(n=.skip∧v=undef)
def Hv (B:Nat) (w0:World) (m:Mp) (h:IH) (w:World) (run:Result Next) (v:Value) (h':IH):Prop :=
 ∃nx v' m' w',run=.ok nx w'∧Yields nx v'∧aD m' v v'∧Rel B w0 m' h' w'∧Step m h w m' h' w'
theorem Hv.quiet {B:Nat} {w0:World} {m:Mp} {h:IH} {w:World} (R:Rel B w0 m h w) {run:Result Next} {v v':Value} (hr:run=.ok (.value v') w) (hv:aD m v v') :
  Hv B w0 m h w run v h:=⟨_,v',m,w,hr,.inl rfl,hv,R,Step.refl m h w⟩
theorem Rel.wr {B:Nat} {w0:World} {m:Mp} {h h':IH} {w:World} (R:Rel B w0 m h w) {b o r s:Nat} {vs vs':List Value} (hw:h.wr b o vs=some h') (hm:m b=some (r,s)) (hv:bm m vs vs')
  (hok : ∀v∈vs,aA v=true) (P:Program) :
  ∃w',(storeCells ⟨r,s+o,none⟩ vs').run P w=.ok () w'∧Rel B w0 m h' w'∧Step m h w m h' w':=by
 unfold IH.wr at hw
 simp only[cond_eq_ite,beq_iff_eq] at hw
 by_cases hb:b % 2=1
 ·simp[hb] at hw
 ·rw[if_neg hb] at hw
  cases hg:h.ext.get (b / 2) with
  | none=>simp[hg] at hw
  | some x =>
   rw[hg] at hw
   cases x with
   | map es=>simp at hw
   | loop l=>simp at hw
   | iter _ _ _ _=>simp at hw
   | num _=>simp at hw
   | dead=>simp at hw
   | cells cs t fam =>
    simp only[Nat.ble_eq] at hw
    by_cases hle:o+vs.length≤cs.length
    ·rw[if_pos hle] at hw
     have hmb:m (2*(b / 2))=some (r,s):=by rw[show 2*(b / 2)=b from by omega];exact hm
     obtain⟨c,el,hc,fl,_⟩:=R.obj (b / 2) _ r s hg hmb
     have WT : ∀v∈vs',aA v=true:=by
      intro v' hv'
      obtain⟨i,hi,e⟩:=List.getElem_of_mem hv'
      have hi':i<vs.length:=hv.1▸hi
      exact CK (hv.2 i vs[i] v' (List.getElem?_eq_getElem hi') (by rw[List.getElem?_eq_getElem hi,e])) (hok _ (List.getElem_mem hi'))
     have bw:=lX P r (s+o) el vs' 0 w c hc (by have:=fl.1;have:=hv.1;omega) WT
     have Vn:=fl.aG hle hv
     rw[Nat.add_zero] at bw
     have jn : ∀d:Array Value,d=gZ c (s+o) vs'→vs' = []→World.put w r (.cells d el)=w:=by
      intro d hd he
      subst he;subst hd
      unfold World.put
      have hr:r<w.heap.size:=(Array.getElem?_eq_some_iff.1 hc).1
      have e:=(Array.getElem?_eq_some_iff.1 hc).2
      congr 1
      apply Array.ext_getElem?
      intro i
      rw[Array.getElem?_setIfInBounds]
      by_cases hi:r=i
      ·subst hi;simp[hr,e]
      ·simp[hi]
     have I6:(if vs' = [] then w else World.put w r (.cells (gZ c (s+o) vs') el))=World.put w r (.cells (gZ c (s+o) vs') el):=by
      by_cases he:vs' = []
      ·rw[if_pos he,jn _ rfl he]
      ·rw[if_neg he]
     rw[I6] at bw
     cases fam with
     | none =>
      simp only at hw;cases hw
      obtain⟨a,b'⟩:=R.write hg hmb hc Vn (nA cs o vs hle) (iJ _ _ _) none (.inr rfl) [] rfl
      exact⟨_,bw,a,b'⟩
     | some f =>
      cases hf:h.bT.get f with
      | none=>simp[hf] at hw
      | some st =>
       simp only[hf] at hw;cases hw
       obtain⟨a,b'⟩:=R.write hg hmb hc Vn (nA cs o vs hle) (iJ _ _ _) none (.inr rfl) (st.filter (· != b / 2)) ⟨st,hf,rfl⟩
       exact⟨_,bw,a,b'⟩
    ·simp[hle] at hw
theorem AD {m:Mp} {v v':Value} (h:aD m v v'):v'.cells.size=v.cells.size:=by
 have:=h.cells.1
 simpa using this.symm
theorem Rel.store {B:Nat} {w0:World} {m:Mp} {h h':IH} {w:World} (R:Rel B w0 m h w) {P:Program} {t:TypeId} {a a' v v':Value} (hs:store P h t a v=some h') (ha:aD m a a') (hv:aD m v v') :
  ∃w',(Instr.storeAt t a' v').run P w=.ok () w'∧Rel B w0 m h' w'∧Step m h w m h' w':=by
 unfold Id.store at hs
 cases hA:asAddr a with
 | none=>simp[hA] at hs
 | some bo =>
  obtain⟨b,o⟩:=bo
  have hp:a=.pointer (some ⟨b,o,none⟩):=by
   unfold asAddr at hA;split at hA<;>simp_all
  subst hp
  obtain⟨r,s,hm,rfl⟩:=ha.jY
  cases hS:aK P t with
  | none=>simp[hA,hS] at hs
  | some n =>
   simp only[hA,hS,cond_eq_ite] at hs
   by_cases hc:(v.cells.size == n && v.cells.toList.all aA)=true
   ·rw[if_pos hc] at hs
    simp only[Bool.and_eq_true,beq_iff_eq,List.all_eq_true] at hc
    obtain⟨w',h1,h2,h3⟩:=R.wr hs hm hv.cells (fun x hx=>hc.2 x hx) P
    refine⟨w',?_,h2,h3⟩
    simp only[Instr.storeAt,Instr.sureAddr,storeVar,Sem.run_bind,Sem.run_pure,Result.andThen_ok,bV w hS]
    rw[if_neg (by rw[AD hv];simp[hc.1])]
    simp[h1]
   ·rw[if_neg hc] at hs;cases hs
theorem Rel.newRow {B:Nat} {w0:World} {m:Mp} {h:IH} {w:World} (R:Rel B w0 m h w) (hm:m (2*h.n)=none) {cs cs':List Value} (hv:bm m cs cs') (e:Nat) (t:TypeId) :
  Rel B w0 (m.upd (2*h.n) (w.heap.size,0) (e,0)) (h.new (.cells cs e none)) (w.alloc (.cells cs'.toArray t)) ∧
   Step m h w (m.upd (2*h.n) (w.heap.size,0) (e,0)) (h.new (.cells cs e none)) (w.alloc (.cells cs'.toArray t)):=by
 refine R.new _ _ (e,0) hm ⟨cs'.toArray,t,by rw[heap_alloc,if_pos rfl],⟨by simp[hv.1],fun i v hi=>?_⟩,rfl,Nat.zero_le _⟩ rfl
 obtain⟨v',a,b⟩:=hv.get hi
 exact⟨v',by simpa using a,b⟩
end Go.Id

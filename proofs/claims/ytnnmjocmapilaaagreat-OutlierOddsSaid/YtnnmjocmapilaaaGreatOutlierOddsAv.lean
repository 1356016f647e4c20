/-
  The ideal machine: functions on numbers of any length that are not evaluated by their text
-/
import Derived.Test.YtnnmjocmapilaaaGreatOutlierOddsAr
set_option linter.unusedVariables false
set_option linter.unusedSimpArgs false
set_option linter.defProp false
set_option linter.deprecated false
namespace Go.Id
open Go Go.RowKit
def j6 (x:Nat):Nat:=(wu x).length
def qP (b x:Nat):Value:=.slice (some ⟨b,0,some 0⟩) (j6 x) 0
theorem nK:wu 0 = []:=by rw[wu];simp
def jN {x:Nat}:j6 x=0↔x=0:=by
 unfold j6;constructor
 ·intro h;rw[wu] at h;split at h
  ·assumption
  ·simp at h
 ·rintro rfl;rw[nK];rfl
theorem mg (x:Nat):(jx x).length=j6 x:=by simp[jx,j6]
theorem IS:jx 0 = []:=by unfold jx;rw[nK];rfl
def jB (xs:List Nat) (b:Nat):Option (List Value):=match xs[b - 4294967296]? with
 | some x=>if 4294967296≤b∧x≠0 then some (jx x) else none
 | none=>none
def FP (xs:List Nat) (i:Nat) (u:Value):Prop:=∃x,xs[i]?=some x∧((x=0∧(u=.slice none 0 0∨u=.slice (some ⟨0,0,none⟩) 0 0))∨(x≠0 ∧ ∃cap,j6 x≤cap∧u=.slice (some ⟨2*(4294967296+i)+1,0,none⟩) (j6 x) (2*cap+1)))
def Para (mk:List Value→Value) (n:Nat):Prop:=∀(m:Mp) (ss:List Value) (v':Value),ss.length=n→aW m (mk ss) v' → ∃ss',cg m ss ss' ∧ ∀(m2:Mp) (us:List Value),cg m2 us ss'→aW m2 (mk us) v'
def St (mk:List Value→List Value) (n:Nat):Prop:=∀(m:Mp) (ss vs':List Value),ss.length=n→cg m (mk ss) vs' → ∃ss',cg m ss ss' ∧ ∀(m2:Mp) (us:List Value),cg m2 us ss'→cg m2 (mk us) vs'
variable {m:Mp}{n:Nat}
def aW.Qx {b:Nat} {v':Value} (h:aW m (.slice (some ⟨b,0,some 0⟩) n 0) v') : ∃a cap,v'=.slice a n cap∧n≤cap∧((n=0∧(a=none→cap=0)) ∨ ∃r s,m b=some (r,s)∧a=some ⟨r,s,none⟩):=by
 cases h with
 | ct h=>simp[Id.ct] at h
 | tok hc h=>exact⟨_,_,rfl,hc,h⟩
def UQ (h:IH) (bs xs:List Nat):Prop:=bs.length=xs.length ∧ ∀(i b x:Nat),bs[i]?=some b→xs[i]?=some x→b % 2=0∧h.ext.get (b / 2)=some (.num x)
def lY:List Nat→List Nat→List Value
 | b :: bs,x :: xs=>qP b x :: lY bs xs
 | _,_ => []
theorem tU : ∀(bs xs:List Nat) (i b x:Nat),bs[i]?=some b→xs[i]?=some x→(lY bs xs)[i]?=some (qP b x)
 | [],_,_,_,_,h,_=>by simp at h
 | _ :: _,[],_,_,_,_,h=>by simp at h
 | b :: bs,x :: xs,0,b',x',h1,h2=>by simp at h1 h2;subst h1;subst h2;rfl
 | b :: bs,x :: xs,i+1,b',x',h1,h2=>by simp at h1 h2;exact tU bs xs i b' x' h1 h2
theorem tT : ∀(bs xs:List Nat),bs.length=xs.length→(lY bs xs).length=xs.length
 | [],[],_=>rfl
 | [],_ :: _,h=>by simp at h
 | _ :: _,[],h=>by simp at h
 | b :: bs,x :: xs,h=>by show(lY bs xs).length+1=xs.length+1;rw[tT bs xs (by simpa using h)]
variable {h:IH}{B:Nat}{w:World}{xs:List Nat}{w0:World}{bs:List Nat}
def Rel.xf (R:Rel B w0 m h w) (T:UQ h bs xs) {ss':List Value} (hs:cg m (lY bs xs) ss') :∃m2:Mp,(∀k,m2 (2*k)=none)∧(∀(i b x:Nat),bs[i]?=some b→xs[i]?=some x→x≠0→m2 (2*(4294967296+i)+1)=m b)∧Rel w.heap.size w m2 (IH.start (jB xs)) w ∧ ∃us,us.length=xs.length∧cg m2 us ss' ∧ ∀(i:Nat) (u:Value),us[i]?=some u→FP xs i u:=by
 have loc : ∀(i b x:Nat),bs[i]?=some b→xs[i]?=some x→x≠0 → ∃r s c el,m b=some (r,s)∧r<w.heap.size∧w.heap[r]?=some (.cells c el)∧rK m (jx x) c s:=by
  intro i b x hb hx x0;obtain⟨v',h1,h2⟩:=hs.get (tU bs xs i b x hb hx);obtain⟨a,cap,rfl,hc,⟨e,_⟩|⟨r,s,hm,rfl⟩⟩:=h2.Qx;·exact absurd (jN.1 e) x0
  ·obtain⟨t1,t2⟩:=T.2 i b x hb hx
   have hm2:m (2*(b / 2))=some (r,s):=by rw[show 2*(b / 2)=b from by omega];exact hm
   rcases R.obj (b / 2) _ r s t2 hm2 with h3|⟨c,el,h3,h4⟩;·exact absurd h3 x0
   ·exact⟨r,s,c,el,hm,(R.even _ r s hm2).2,h3,h4⟩
 refine⟨⟨fun j=>if j % 2=0 then none else if j / 2<4294967296 then m j else match bs[j / 2 - 4294967296]? with|some b=>m b|none=>none,m.ez⟩,fun k=>?_,fun i b x hb hx x0=>?_,?_,?_⟩;·show(if 2*k % 2=0 then none else _)=none;rw[ah byOmega]
 ·show(if (2*(4294967296+i)+1) % 2=0 then none else if (2*(4294967296+i)+1) / 2<4294967296 then m (2*(4294967296+i)+1) else match bs[(2*(4294967296+i)+1) / 2 - 4294967296]? with|some b=>m b|none=>none)=m b;rw[ad byOmega,ad byOmega,show(2*(4294967296+i)+1) / 2 - 4294967296=i from by omega,hb]
 ·have leaf : ∀{α:Type} (k:Nat),(Tr.leaf:Tr α).get k=none:=fun k=>rfl;have even : ∀k x,(⟨fun j=>if j % 2=0 then none else if j / 2<4294967296 then m j else match bs[j / 2 - 4294967296]? with|some b=>m b|none=>none,m.ez⟩:Mp) (2*k)=some x→False:=by intro k x h;have h1:(if 2*k % 2=0 then none else _)=some x:=h;rw[ah byOmega] at h1;cases h1
  refine⟨Below.refl _ _,ar _,?_,fun b hb=>?_,?_,fun k _=>leaf k,?_,?_,?_,?_,?_,?_⟩
  ·intro b cs hcs;have hcs:jB xs b=some cs:=hcs;unfold jB at hcs;split at hcs
   case h_2=>cases hcs
   rename_i x hx;split at hcs
   case isFalse=>cases hcs
   rename_i hb;cases hcs;have hi:b - 4294967296<bs.length:=by rw[T.1];exact(bZ.1 hx).1
   obtain⟨b',hb'⟩ : ∃b',bs[b - 4294967296]?=some b':=⟨_,bK hi⟩;obtain⟨r,s,c,el,h1,h2,h3,h4⟩:=loc _ b' x hb' hx hb.2;refine⟨r,s,?_,h2,c,el,_,h3,h4.1,fun i v hv=>?_⟩
   ·show(if (2*b+1) % 2=0 then none else if (2*b+1) / 2<4294967296 then m (2*b+1) else match bs[(2*b+1) / 2 - 4294967296]? with|some b=>m b|none=>none)=some (r,s);rw[ad byOmega,ad byOmega,show(2*b+1) / 2 - 4294967296=b - 4294967296 from by omega,hb'];exact h1
   ·obtain⟨v',a,e⟩:=h4.2 i v hv;unfold jx at hv;rw[cm] at hv;obtain⟨d,_,rfl⟩:=bg.1 hv;exact⟨v',a,by rw[e.dN rfl];exact .ct rfl⟩
  ·show(if (2*b+1) % 2=0 then none else if (2*b+1) / 2<4294967296 then m (2*b+1) else _)=some (b,0)
   rw[ad byOmega,ah byOmega]
   exact R.odd b hb
  ·intro k r s h;exact(even _ _ h).elim
  ·intro k o r s h;cases h
  ·intro k k' o o' r s s' _ h;cases h
  ·intro f st h;cases h
  ·intro k cs t f h;cases h
  ·intro f st h;cases h
  ·intro f st x y h;cases h
 ·-- the arguments
  obtain⟨m2,hm2⟩:=bm (⟨fun j=>if j % 2=0 then none else if j / 2<4294967296 then m j else match bs[j / 2 - 4294967296]? with|some b=>m b|none=>none,m.ez⟩:Mp);rw[←hm2];have at2 : ∀(i b:Nat),bs[i]?=some b→m2 (2*(4294967296+i)+1)=m b:=by intro i b hb;rw[hm2];show(if (2*(4294967296+i)+1) % 2=0 then none else if (2*(4294967296+i)+1) / 2<4294967296 then m (2*(4294967296+i)+1) else match bs[(2*(4294967296+i)+1) / 2 - 4294967296]? with|some b=>m b|none=>none)=m b;rw[ad byOmega,ad byOmega,show(2*(4294967296+i)+1) / 2 - 4294967296=i from by omega,hb]
  have lt:=tT bs xs T.1;have ex : ∀i,i<xs.length → ∃u s',ss'[i]?=some s'∧aW m2 u s'∧FP xs i u:=by
   intro i hi;obtain⟨x,hx⟩:=fJ (l:=xs) (i:=i) hi;obtain⟨b,hb⟩:=fJ (l:=bs) (i:=i) (by rw[T.1];exact hi);obtain⟨v',h1,h2⟩:=hs.get (tU bs xs i b x hb hx);obtain⟨a,cap,rfl,hc,rD⟩:=h2.Qx;by_cases x0:x=0
   ·subst x0;have w0:j6 0=0:=jN.2 rfl;rw[w0] at h1 h2 hc rD;cases a with
    | none =>
     have c0:cap=0:=by
      rcases rD with⟨_,h3⟩|⟨_,_,_,h3⟩;·exact h3 rfl
      ·cases h3
     subst c0;exact⟨.slice none 0 0,_,h1,.ct rfl,0,hx,.inl ⟨rfl,.inl rfl⟩⟩
    | some a=>exact⟨.slice (some ⟨0,0,none⟩) 0 0,_,h1,.lost,0,hx,.inl ⟨rfl,.inr rfl⟩⟩
   ·rcases rD with⟨e,_⟩|⟨r,s,hm,rfl⟩
    ·exact absurd (jN.1 e) x0
    ·refine⟨.slice (some ⟨2*(4294967296+i)+1,0,none⟩) (j6 x) (2*cap+1),_,h1,?_,x,hx,.inr ⟨x0,cap,hc,rfl⟩⟩;have:=aW.slice (m:=m2) (b:=2*(4294967296+i)+1) (o:=0) (r:=r) (s:=s) (len:=j6 x) (k:=2*cap+1) (cap:=cap) ((at2 i b hb).trans hm) byOmega byOmega byOmega (fun _=>byOmega) (fun h9=>byOmega);exact this
  have key:=fun i (hi:i<xs.length)=>(ex i hi);refine⟨(List.range xs.length).map fun i=>if hi:i<xs.length then Classical.choose (ex i hi) else .slice none 0 0,aa,⟨by rw[cd,Dd,←hs.1,lt],fun i v v' hv hv'=>?_⟩,fun i u hu=>?_⟩;·rw[cm] at hv;obtain⟨j,hj,rfl⟩:=bg.1 hv;obtain⟨hj1,hj2⟩:=bZ.1 hj;rw[Dd] at hj1;rw[List.getElem_range] at hj2;subst hj2;rw[dif_pos hj1];obtain⟨s',e1,e2,_⟩:=NT (ex i hj1);rw[hv'] at e1;cases e1;exact e2
  ·rw[cm] at hu
   obtain⟨j,hj,rfl⟩:=bg.1 hu;obtain⟨hj1,hj2⟩:=bZ.1 hj;rw[Dd] at hj1;rw[List.getElem_range] at hj2;subst hj2;rw[dif_pos hj1];obtain⟨s',_,_,e3⟩:=NT (ex i hj1);exact e3
def j5 (h:IH):List Nat→IH
 | []=>h
 | y :: ys=>j5 (h.new (.num y)) ys
theorem w9 : ∀(ys:List Nat) (h:IH),(j5 h ys).n=h.n+ys.length
 | [],h=>rfl
 | y :: ys,h=>by show(j5 (h.new (.num y)) ys).n=_;rw[w9 ys];show h.n+1+ys.length=h.n+(ys.length+1);omega
theorem gP : ∀(ys:List Nat) (h:IH),(j5 h ys).base=h.base∧(j5 h ys).cZ=h.cZ
 | [],h=>⟨rfl,rfl⟩
 | y :: ys,h=>gP ys (h.new (.num y))
theorem oH : ∀(ys:List Nat) (h:IH) (k:Nat),(j5 h ys).ext.get k=if h.n≤k∧k<h.n+ys.length then (ys[k - h.n]?).map .num else h.ext.get k
 | [],h,k=>by rw[ad aa];rfl
 | y :: ys,h,k=>by
  show(j5 (h.new (.num y)) ys).ext.get k=_;rw[oH ys];have n1:(h.new (.num y)).n=h.n+1:=rfl;have g1:(h.new (.num y)).ext.get k=if k=h.n then some (.num y) else h.ext.get k:=by show(h.ext.set h.n _).get k=_;rw[Tr.cE]
  rw[n1,g1,gX];by_cases c:h.n+1≤k∧k<h.n+1+ys.length;·rw[ah c,ah ⟨byOmega,byOmega⟩,show k - h.n=(k - (h.n+1))+1 from by omega,NO]
  ·rw[ad c];by_cases e:k=h.n
   ·rw[ah e,ah ⟨byOmega,byOmega⟩,e,xQ];rfl
   ·rw[ad e,ad byOmega]
variable {f:FuncId}{mk:List Value→List Value}{args':Array Value}{P:Program}
def G8 (S:Sound (E0 P)) (R:Rel B w0 m h w) (T:UQ h bs xs) (par:St mk xs.length) (ha:cg m (mk (lY bs xs)) args'.toList)(hb : ∃fn,P.funcs[f]?=some fn∧fn.body.isSome=true) {K:Value→IH→Prop} (hw : ∀us,us.length=xs.length→(∀(i:Nat) (u:Value),us[i]?=some u→FP xs i u)→WV P (.func (.func f) #[] #[]) (mk us) (IH.start (jB xs)) K) :
  ∃m2:Mp,(∀k,m2 (2*k)=none)∧(∀(i b x:Nat),bs[i]?=some b→xs[i]?=some x→x≠0→m2 (2*(4294967296+i)+1)=m b) ∧ ∃r h2,K r h2∧oq P f args' w.heap.size w m2 (IH.start (jB xs)) w r h2:=by
 obtain⟨ss',h1,h2⟩:=par m (lY bs xs) args'.toList (tT bs xs T.1) ha;obtain⟨m2,e1,e2,R2,us,e3,e4,e5⟩:=R.xf T h1;obtain⟨⟨r,hh⟩,⟨N,hN⟩,hK⟩:=hw us e3 e5;refine⟨m2,e1,e2,r,hh,hK,?_⟩;have hc:dj (E0 P) (N+1) (.func (.func f) #[] #[]) (mk us) (IH.start (jB xs))=some (r,hh):=hN (N+1) byOmega;unfold dj at hc;obtain⟨fn,hfn,hb⟩:=hb;rcases yI S (tv S N) (kH S N) hc R2 (args':=args') (by simpa using h2 m2 us e4) (fun k _ _=>e1 k) with⟨_,k⟩|⟨fn',k1,k2,_⟩;·exact k
 ·have k3:P.funcs[f]?=some fn':=k1
  rw[hfn] at k3;cases k3;rw[k2] at hb;cases hb
variable {m':Mp}{w':World}
def Rel.Zei {h':IH} (R:Rel B w0 m h w) (R':Rel w.heap.size w m' h' w'):Rel B w0 m h w'∧Step m h w m h w':=by
 have same : ∀r,r<w.heap.size→w'.heap[r]?=w.heap[r]?:=fun r hr=>R'.below.block r hr;refine⟨⟨R.below.trans (R'.below.mono R.size),bA R.size R'.size,fun b cs hb=>?_,R.odd,fun k r s hk=>?_,R.dom,fun k o r s hk hm=>?_,R.own,R.fI,R.fam,R.long,R.whole⟩,⟨Mp.le_refl m,fun b hb=>absurd rfl hb,ar _,rfl,fun r hr _=>same r hr,fun _ _ _=>rfl,R'.size,fun k r s h1 h2=>byOmega,fun _ _ _ hh=>hh⟩⟩;·obtain⟨r,s,h1,h2,c,el,fz,h3,h4⟩:=R.base b cs hb;exact⟨r,s,h1,h2,c,el,fz,by rw[same r (by have:=R.size;omega)];exact h3,h4⟩
 ·have:=R.even k r s hk
  have:=R'.size;exact⟨byOmega,byOmega⟩
 ·exact(R.obj k o r s hk hm).same (same r (R.even k r s hm).2)
def TE (S:Sound (E0 P)) (R:Rel B w0 m h w) (T:UQ h bs xs) (par:St mk xs.length) (ha:cg m (mk (lY bs xs)) args'.toList)(hb : ∃fn,P.funcs[f]?=some fn∧fn.body.isSome=true) {v:Value} (hv:qj v=true) (hw : ∀us,us.length=xs.length→(∀(i:Nat) (u:Value),us[i]?=some u→FP xs i u)→WV P (.func (.func f) #[] #[]) (mk us) (IH.start (jB xs)) fun r _=>r=v):oq P f args' B w0 m h w v h:=by obtain⟨m2,_,_,r,hh,rfl,key⟩:=G8 S R T par ha hb hw;refine key.mono fun e' w' ⟨v',m',he,hvr,R',S'⟩=>?_;obtain⟨R2,S2⟩:=R.Zei R';exact⟨v',m,he,by rw[hvr.G0 hv];exact .GZ hv,R2,S2⟩
def Ap (h:IH) (u:Value) (y:Nat):Prop:=cA h 1 u (j6 y) (jx y)
def Hc (n k:Nat):List Nat:=(List.range k).map fun j=>2*(n+j)
theorem TJ {k j:Nat} (h:j<k):(Hc n k)[j]?=some (2*(n+j)):=by unfold Hc;rw[cm,kY h];rfl
theorem TI (n k:Nat):(Hc n k).length=k:=by simp[Hc]
structure KJ (m:Mp) (w w':World) (bs xs:List Nat) (y:Nat) (r s:Nat):Prop where
 lt:r<w'.heap.size
 row : ∃c el,w'.heap[r]?=some (.cells c el)∧rK m (jx y) c s
 src:w.heap.size≤r ∨ ∃(i b x s0:Nat),bs[i]?=some b∧xs[i]?=some x∧m b=some (r,s0)
def LU {row ws:List Value} {c:Array Value} {q o:Nat} (hr:rK m' row c q) (hw:(row.drop o).take ws.length=ws) (hle:o+ws.length≤row.length) (hs : ∀v∈ws,ct v=true):rK m ws c (q+o):=by
 refine⟨by have:=hr.1;omega,fun i v hv=>?_⟩;have hi:=(bZ.1 hv).1;have hv2:row[o+i]?=some v:=by rw[←hw,List.getElem?_take_of_lt hi,kj] at hv;exact hv
 obtain⟨v',a,b⟩:=hr.2 _ v hv2;have sc:=hs v (bN hv);exact⟨v',by rw[jS];exact a,by rw[b.dN sc];exact .ct sc⟩
def Ds (x:Nat) : ∀v∈jx x,ct v=true:=by intro v hv;obtain⟨d,_,rfl⟩:=ju.1 hv;rfl
def ZX {m2:Mp} {h2:IH} (R:Rel B w0 m h w) (T:UQ h bs xs) (qR : ∀(i b x:Nat),bs[i]?=some b→xs[i]?=some x→x≠0→m2 (2*(4294967296+i)+1)=m b)(R':Rel w.heap.size w m' h2 w') (S':Step m2 (IH.start (jB xs)) w m' h2 w') {u u':Value} {y:Nat} (hu:Ap h2 u y) (hv:aW m' u u') :∃a cap,u'=.slice a (j6 y) cap∧j6 y≤cap∧((y=0∧(a=none→cap=0))∨(y≠0 ∧ ∃r s,a=some ⟨r,s,none⟩∧KJ m w w' bs xs y r s)):=by
 obtain⟨_,hl,⟨rfl,n0⟩|⟨b,o,k,rfl,⟨n0,k0⟩|⟨k0,hn,row,hb,jc,htk,hle⟩⟩⟩:=hu;·obtain⟨_,_,rfl⟩:=hv.pB;exact⟨none,0,by rw[n0],byOmega,.inl ⟨jN.1 n0,fun _=>rfl⟩⟩
 ·subst k0;rcases hv.gf with⟨r,s,cap,_,h0,_⟩|⟨_,_,a,cap,rfl⟩
  ·omega
  ·exact⟨some a,cap,by rw[n0],byOmega,.inl ⟨jN.1 n0,fun h=>by cases h⟩⟩
 ·rcases hv.gf with⟨r,q,cap,hm,_,_,qS,_,_,rfl⟩|⟨_,e,_⟩
  ·refine⟨_,cap,rfl,byOmega,?_⟩;by_cases y0:y=0
   ·exact .inl ⟨y0,fun h=>by cases h⟩
   ·refine .inr ⟨y0,r,q+o,rfl,?_⟩;have htk':(row.drop o).take (jx y).length=jx y:=by rw[mg];rw[dG] at htk;exact htk
    have W5:o+(jx y).length≤row.length:=by rw[mg];omega
    by_cases bo:b % 2=1
    ·have hr2:h2.base (b / 2)=some row:=by
      unfold IH.row at jc;simpa [bo] using jc
     rw[S'.base] at hr2;have hr2:jB xs (b / 2)=some row:=hr2;unfold jB at hr2;split at hr2
     case h_2=>cases hr2
     rename_i x hx;split at hr2
     case isFalse=>cases hr2
     rename_i Zau;cases hr2;obtain⟨b',hb'⟩ : ∃b',bs[b / 2 - 4294967296]?=some b':=⟨_,bK (by rw[T.1];exact(bZ.1 hx).1)⟩;have e1:=qR _ b' x hb' hx Zau.2;rw[show 2*(4294967296+(b / 2 - 4294967296))+1=b from by omega] at e1;have e2:m' b=m2 b:=dW fun hne=>by obtain⟨k9,e9,_⟩:=S'.new b hne;omega
     have hmb:m b'=some (r,q):=by rw[←e1,←e2];exact hm
     obtain⟨t1,t2⟩:=T.2 _ b' x hb' hx;have hmb2:m (2*(b' / 2))=some (r,q):=by rw[show 2*(b' / 2)=b' from by omega];exact hmb
     have hev:=R.even _ r q hmb2;rcases R.obj (b' / 2) _ r q t2 hmb2 with h3|⟨c,el,h3,h4⟩;·exact absurd h3 Zau.2
     ·have same:w'.heap[r]?=w.heap[r]?:=R'.below.block r hev.2
      exact⟨by have:=R'.size;omega,⟨c,el,by rw[same];exact h3,LU h4 htk' W5 (Ds y)⟩,.inr ⟨_,b',x,q,hb',hx,hmb⟩⟩
    ·rcases hb with hb|⟨hb,hlt,f,hg⟩
     ·omega
     ·have hm2:m' (2*(b / 2))=some (r,q):=by rw[show 2*(b / 2)=b from by omega];exact hm
      obtain⟨c,el,hc,hrw,_⟩:=R'.obj (b / 2) _ r q hg hm2;have hr2:h2.row b=some row:=jc;have hev:=R'.even _ r q hm2;refine⟨hev.2,⟨c,el,hc,LU hrw htk' W5 (Ds y)⟩,.inl ?_⟩;rcases S'.img (b / 2) r q (dT _) byOmega hm2 with h3|⟨k9,_,h9,_⟩;·exact h3
      ·exact absurd h9 (Nat.not_lt_zero _)
  ·omega
def Wm {P:Program} (S:Sound (E0 P)) {B:Nat} {w0:World} {m:Mp} {h:IH} {w:World} (R:Rel B w0 m h w) {bs xs:List Nat} (T:UQ h bs xs) {mk:List Value→List Value} (par:St mk xs.length) {args':Array Value} (ha:cg m (mk (lY bs xs)) args'.toList){f:FuncId} (hb : ∃fn,P.funcs[f]?=some fn∧fn.body.isSome=true) {ys:List Nat} {mkR:List Value→Value} (parR:Para mkR ys.length)(hw : ∀us,us.length=xs.length→(∀(i:Nat) (u:Value),us[i]?=some u→FP xs i u)→WV P (.func (.func f) #[] #[]) (mk us) (IH.start (jB xs)) fun r h2 => ∃ss,ss.length=ys.length∧r=mkR ss ∧ ∀(j:Nat) (y:Nat) (s:Value),ys[j]?=some y→ss[j]?=some s→Ap h2 s y)(fr:iA m h.n (h.n+ys.length)):oq P f args' B w0 m h w (mkR (lY (Hc h.n ys.length) ys)) (j5 h ys):=by
 obtain⟨m2,even2,odd2,r,h2,⟨ss,ls,rfl,hss⟩,key⟩:=G8 S R T par ha hb hw;refine key.mono fun e' w' ⟨v',m',he,hvr,R',S'⟩=>?_;obtain⟨ss',l1,l2⟩:=parR m' ss v' ls hvr;have ls':ss'.length=ys.length:=by rw[←l1.1,ls]
 have same : ∀r,r<w.heap.size→w'.heap[r]?=w.heap[r]?:=fun r hr=>R'.below.block r hr;have loc : ∀(j y:Nat),ys[j]?=some y → ∃a cap,ss'[j]?=some (.slice a (j6 y) cap)∧j6 y≤cap∧((y=0∧(a=none→cap=0))∨(y≠0 ∧ ∃r s,a=some ⟨r,s,none⟩∧KJ m w w' bs xs y r s)):=by intro j y hy;have hj:=(bZ.1 hy).1;obtain⟨s,hs⟩:=fJ (l:=ss) (i:=j) byOmega;obtain⟨s',h1,h3⟩:=l1.get hs;obtain⟨a,cap,rfl,q1,q2⟩:=ZX R T odd2 R' S' (hss j y s hy hs) h3;exact⟨a,cap,h1,q1,q2⟩
 obtain⟨lf,hlf⟩ : ∃lf:Nat→Option (Nat×Nat),∀j,lf j=match ys[j]?,ss'[j]? with|some y,some (.slice (some ⟨r,s,none⟩) _ _)=>if y=0 then none else some (r,s)|_,_=>none:=⟨_,fun _=>rfl⟩
 have CC : ∀j r s,lf j=some (r,s) → ∃y,ys[j]?=some y∧y≠0∧KJ m w w' bs xs y r s:=by
  intro j r s hj;rw[hlf] at hj;cases hy:ys[j]? with
  | none=>simp[hy] at hj
  | some y =>
   obtain⟨a,cap,h1,_,h3⟩:=loc j y hy;rw[hy,h1] at hj;rcases h3 with⟨rfl,_⟩|⟨y0,r',s',rfl,hl⟩
   ·exfalso;cases a with
    | none=>simp at hj
    | some a =>
     obtain⟨a1,a2,a3⟩:=a;cases a3<;>simp at hj
   ·simp only[ad y0] at hj;cases hj;exact⟨y,rfl,y0,hl⟩
 have Zfg : ∀j y r s cap,ys[j]?=some y→y≠0→ss'[j]?=some (.slice (some ⟨r,s,none⟩) (j6 y) cap)→lf j=some (r,s):=by intro j y r s cap hy y0 hs;rw[hlf,hy,hs];exact ad y0
 obtain⟨m3,hm3⟩:=bm (⟨fun b=>if b % 2=0∧h.n≤b / 2∧b / 2<h.n+ys.length then lf (b / 2 - h.n) else m b,m.ez⟩:Mp);have MJ : ∀b,¬(b % 2=0∧h.n≤b / 2∧b / 2<h.n+ys.length)→m3 b=m b:=by intro b hb;rw[hm3];exact ad hb
 have Hg : ∀j,j<ys.length→m3 (2*(h.n+j))=lf j:=by intro j hj;rw[hm3];show(if 2*(h.n+j) % 2=0∧h.n≤2*(h.n+j) / 2∧2*(h.n+j) / 2<h.n+ys.length then lf (2*(h.n+j) / 2 - h.n) else m (2*(h.n+j)))=lf j;rw[ah ⟨byOmega,byOmega,byOmega⟩,show 2*(h.n+j) / 2 - h.n=j from by omega]
 have ez3:m3.ez=m.ez:=by rw[hm3]
 have le3:m.le m3:=by intro b x hb;refine⟨?_,by rw[ez3]⟩;rw[MJ b ?_];exact hb;rintro⟨h1,h2',h3⟩;have:=fr (b / 2) h2' h3;rw[show 2*(b / 2)=b from by omega,hb] at this;cases this
 have nn:(j5 h ys).n=h.n+ys.length:=w9 ys h;have gnew : ∀j y,ys[j]?=some y→(j5 h ys).ext.get (h.n+j)=some (.num y):=by intro j y hy;have hj:=(bZ.1 hy).1;rw[oH,ah ⟨byOmega,byOmega⟩,show h.n+j - h.n=j from by omega,hy];rfl
 have EK : ∀k,k<h.n→(j5 h ys).ext.get k=h.ext.get k:=fun k hk=>by rw[oH,ad byOmega]
 have EB : ∀k o,(j5 h ys).ext.get k=some o→k<h.n ∨ ∃j y,k=h.n+j∧ys[j]?=some y∧o=.num y:=by
  intro k o hk;rcases cU k h.n with h1|h1;·exact .inl h1
  ·right;rw[oH] at hk;by_cases c:h.n≤k∧k<h.n+ys.length
   ·rw[ah c] at hk;obtain⟨y,hy,rfl⟩:=bg.1 hk;exact⟨k - h.n,y,byOmega,hy,rfl⟩
   ·rw[ad c,R.dom k h1] at hk;cases hk
 have JL : ∀k,k<h.n→m3 (2*k)=m (2*k):=fun k hk=>MJ _ (by rintro⟨_,h2',_⟩;omega)
 have oldn : ∀k o,h.ext.get k=some o→k<h.n:=by
  intro k o hk;rcases cU k h.n with e|e;·exact e
  ·rw[R.dom k e] at hk;cases hk
 have srcB : ∀y r s,KJ m w w' bs xs y r s→B≤r∧r<w'.heap.size:=by
  intro y r s hl;refine⟨?_,hl.lt⟩;rcases hl.src with h1|⟨i,b,x,s0,hb1,hx1,hm1⟩;·have:=R.size;omega
  ·obtain⟨t1,t2⟩:=T.2 i b x hb1 hx1
   exact(R.even (b / 2) r s0 (by rw[show 2*(b / 2)=b from by omega];exact hm1)).1
 refine⟨v',m3,he,l2 m3 _ ?_,⟨R.below.trans (R'.below.mono R.size),bA R.size R'.size,?_,fun b hb=>?_,?_,?_,?_,?_,?_,?_,?_,?_⟩,⟨le3,?_,by rw[nn];omega,(gP ys h).1,fun r hr _=>same r hr,fun k hk _=>EK k hk,R'.size,?_,?_⟩⟩
 ·-- the value
  refine⟨by rw[tT _ _ (TI _ _),ls'],fun j v x hv hx=>?_⟩;have hj:j<ys.length:=by have:=(bZ.1 hx).1;omega
  obtain⟨y,hy⟩:=fJ (l:=ys) (i:=j) hj;rw[tU _ _ j _ y (TJ hj) hy] at hv;cases hv;obtain⟨a,cap,h1,h3,h4⟩:=loc j y hy;rw[hx] at h1;cases h1;refine .tok h3 ?_;rcases h4 with⟨rfl,h5⟩|⟨y0,r,s,rfl,_⟩
  ·exact .inl ⟨jN.2 rfl,h5⟩
  ·exact .inr ⟨r,s,by rw[Hg j hj];exact Zfg j y r s cap hy y0 hx,rfl⟩
 ·intro b cs hcs;rw[(gP ys h).1] at hcs;obtain⟨r,s,h1,h3,c,el,fz,h4,h5,h6⟩:=R.base b cs hcs;exact⟨r,s,(le3 _ _ h1).1,h3,c,el,fz,by rw[same r (by have:=R.size;omega)];exact h4,h5,fun i v hv=>let ⟨v',a,e⟩:=h6 i v hv;⟨v',a,e.mono le3⟩⟩
 ·rw[MJ _ (by rintro⟨h1,_⟩;omega)];exact R.odd b hb
 ·intro k r s hk;by_cases c:h.n≤k∧k<h.n+ys.length
  ·have:=Hg (k - h.n) byOmega;rw[show h.n+(k - h.n)=k from by omega,hk] at this;obtain⟨y,_,_,hl⟩:=CC _ r s this.symm;exact srcB y r s hl
  ·rw[MJ _ (by rintro⟨_,h2',h3⟩;exact c ⟨byOmega,byOmega⟩)] at hk;have:=R.even k r s hk;have:=R'.size;exact⟨byOmega,byOmega⟩
 ·intro k hk;rw[nn] at hk;rw[oH,ad byOmega];exact R.dom k byOmega
 ·intro k o r s hk hm;rcases EB k o hk with hkn|⟨j,y,rfl,hy,rfl⟩
  ·rw[EK k hkn] at hk;rw[JL k hkn] at hm;exact(R.obj k o r s hk hm).mono le3 (same r (R.even k r s hm).2) (by rw[ez3])
  ·rw[Hg j (bZ.1 hy).1] at hm;obtain⟨y',hy',y0,hl⟩:=CC _ r s hm;rw[hy] at hy';cases hy';obtain⟨c,el,h1,h3,h4⟩:=hl.row;exact .inr ⟨c,el,h1,h3,fun i v hv=>let ⟨v',a,e⟩:=h4 i v hv;⟨v',a,e.mono le3⟩⟩
 ·-- who shares memory
  have one : ∀j y k o r s s',ys[j]?=some y→k<h.n→h.ext.get k=some o→o.alive=true→lf j=some (r,s)→m (2*k)=some (r,s')→o.isNum=true:=by
   intro j y k o r s s' hy hkn hk ha hj hm;obtain⟨y',_,_,hl⟩:=CC j r s hj;rcases hl.src with h1|⟨i,b,x,s0,hb1,hx1,hm1⟩;·have:=(R.even k r s' hm).2;omega
   ·obtain⟨t1,t2⟩:=T.2 i b x hb1 hx1;have hmb:m (2*(b / 2))=some (r,s0):=by rw[show 2*(b / 2)=b from by omega];exact hm1
    by_cases e:b / 2=k;·rw[e,hk] at t2;cases t2;rfl
    ·rcases R.own (b / 2) k _ o r s0 s' e t2 hk rfl ha hmb hm with⟨_,_,_,_,_,_,e1,_⟩|⟨_,e2⟩
     ·rw[t2] at e1;cases e1
     ·exact e2
  intro k k' o o' r s s' hne hk hk' ha ha' hm hm';rcases EB k o hk with hkn|⟨j,y,rfl,hy,rfl⟩
  ·rcases EB k' o' hk' with Ps|⟨j',y',rfl,hy',rfl⟩
   ·rw[EK k hkn] at hk;rw[EK k' Ps] at hk';rw[JL k hkn] at hm;rw[JL k' Ps] at hm';refine(R.own k k' o o' r s s' hne hk hk' ha ha' hm hm').imp (fun⟨c1,t1,c2,t2,f,st,e1,e2,e3,e4,e5⟩=>⟨c1,t1,c2,t2,f,st,?_,?_,?_,e4,e5⟩) id
    ·rw[EK k hkn];exact e1
    ·rw[EK k' Ps];exact e2
    ·rw[(gP ys h).2];exact e3
   ·rw[EK k hkn] at hk;rw[JL k hkn] at hm;rw[Hg j' (bZ.1 hy').1] at hm';exact .inr ⟨one j' y' k o r s' s hy' hkn hk ha hm' hm,rfl⟩
  ·rcases EB k' o' hk' with Ps|⟨j',y',rfl,hy',rfl⟩
   ·rw[EK k' Ps] at hk';rw[JL k' Ps] at hm';rw[Hg j (bZ.1 hy).1] at hm;exact .inr ⟨rfl,one j y k' o' r s s' hy Ps hk' ha' hm hm'⟩
   ·exact .inr ⟨rfl,rfl⟩
 ·intro f st hf;rw[(gP ys h).2] at hf;obtain⟨a,b,c⟩:=R.fI f st hf;rw[nn];exact⟨byOmega,fun x hx=>by have:=b x hx;omega,c⟩
 ·intro k cs t f hk;rcases EB k _ hk with hkn|⟨j,y,_,_,e⟩
  ·rw[EK k hkn] at hk;rw[(gP ys h).2];exact R.fam k cs t f hk
  ·cases e
 ·intro f st hf;rw[(gP ys h).2] at hf;refine(R.long f st hf).imp fun {x y} hxy=>?_;intro cs t g cs' t' g' r s s' h1 h3 h4 h5
  have c1:x<h.n:=by
   rcases EB x _ h1 with h6|⟨_,_,_,_,e⟩;·exact h6
   ·cases e
  have c2:y<h.n:=by
   rcases EB y _ h3 with h6|⟨_,_,_,_,e⟩;·exact h6
   ·cases e
  rw[EK x c1] at h1;rw[EK y c2] at h3;rw[JL x c1] at h4;rw[JL y c2] at h5;exact hxy cs t g cs' t' g' r s s' h1 h3 h4 h5
 ·intro f st x y hf hx hy hs;rw[(gP ys h).2] at hf;have b:=(R.fI f st hf).2.1;rw[JL x (b x hx)] at hs;rw[JL y (b y hy)];exact R.whole f st x y hf hx hy hs
 ·intro b hb;refine⟨b / 2,?_⟩;rw[nn];by_cases c:b % 2=0∧h.n≤b / 2∧b / 2<h.n+ys.length
  ·exact⟨byOmega,c.2⟩
  ·exact absurd (MJ b c) hb
 ·intro k r s h1 h3 h4;rw[nn] at h3;have:=Hg (k - h.n) byOmega;rw[show h.n+(k - h.n)=k from by omega,h4] at this;obtain⟨y,_,_,hl⟩:=CC _ r s this.symm;rcases hl.src with h5|⟨i,b,x,s0,hb1,hx1,hm1⟩
  ·exact .inl h5
  ·obtain⟨t1,t2⟩:=T.2 i b x hb1 hx1;exact .inr ⟨b / 2,s0,oldn _ _ t2,by rw[show 2*(b / 2)=b from by omega];exact hm1⟩
 ·intro k hk hm hn f st hf;rw[(gP ys h).2] at hf;exact hn f st hf
end Go.Id
namespace Go.Id
open Go
open Go renaming Operand→QY,Program→QX,TypeId→QZ,Value→QQ
open Nat renaming reduceAdd→zA,reduceEqDiff→zE,reduceLeDiff→zL
open Nat (reduceMul)
set_option maxHeartbeats 16000000
variable {x:Nat}
theorem pL (h:x≠0):wu x=x % 18446744073709551616 :: wu (x / 18446744073709551616):=by rw[wu,dif_neg h]
theorem Aa (x:Nat):B.ay (wu x)=x:=by
 induction x using Nat.strongRecOn with
 | ind x ih =>
  by_cases h:x=0
  ·subst h;rw[nK];rfl
  ·rw[pL h,B.ns,ih _ (C3 byOmega aP)]
   exact Nat.mod_add_div x _
def Be (x:Nat):B.cG (wu x):=by
 induction x using Nat.strongRecOn with
 | ind x ih =>
  by_cases h:x=0;·subst h;rw[nK];intro d hd;cases hd
  ·rw[pL h];intro d hd;rcases dD.1 hd with rfl|hd
   ·exact gE _ aP
   ·exact ih _ (C3 byOmega aP) d hd
def HP (x:Nat):B.Norm (wu x):=by
 induction x using Nat.strongRecOn with
 | ind x ih =>
  by_cases h:x=0;·subst h;rw[nK];exact .inl rfl
  ·rw[pL h];right;have ih:=ih _ (C3 byOmega (by decide:1<18446744073709551616));by_cases h2:x / 18446744073709551616=0
   ·rw[h2,nK];show x % 18446744073709551616≠0;have:=Nat.mod_add_div x 18446744073709551616;rw[h2] at this;omega
   ·rcases ih with e|e
    ·have:=Aa (x / 18446744073709551616);rw[e] at this;exact absurd this.symm h2
    ·have hl:0<(wu (x / 18446744073709551616)).length:=by rw[pL h2];simp
     rw[gX,show(wu (x / 18446744073709551616)).length+1 - 1=((wu (x / 18446744073709551616)).length - 1)+1 from by omega,NP];exact e
def YT (x:Nat):x<18446744073709551616 ^ j6 x:=by have:=B.lJ (Be x);rwa [Aa] at this
noncomputable def wlK (f:Nat):Nat→Nat:=Nat.rec (motive:=fun _=>Nat→Nat) (fun _=>0) (fun _ ih x=>Bool.rec (motive:=fun _=>Nat) (fN (Nat.div x 18446744073709551616) fun y=>Nat.succ (ih y)) 0 (Nat.beq x 0)) f
theorem Sz (h:x≠0):j6 x=j6 (x / 18446744073709551616)+1:=by unfold j6;rw[pL h,gX]
theorem U5 : ∀(f x:Nat),x≤f→wlK f x=j6 x
 | 0,x,h=>by obtain rfl:x=0:=byOmega;exact(jN.2 rfl).symm
 | f+1,x,h=>by
  show Bool.rec (motive:=fun _=>Nat) (fN (Nat.div x 18446744073709551616) fun y=>Nat.succ (wlK f y)) 0 (Nat.beq x 0)=_;rw[gR];show Bool.rec (motive:=fun _=>Nat) (wlK f (x / 18446744073709551616)+1) 0 (Nat.beq x 0)=_;by_cases hx:x=0;·subst hx;exact(jN.2 rfl).symm
  ·have hlt:x / 18446744073709551616<x:=C3 byOmega aP;rw[U5 f _ byOmega,Sz hx];cases hb:Nat.beq x 0 with
   | true=>exact absurd (my.mp hb) hx
   | false=>rfl
noncomputable def Bv (x:Nat):Nat:=wlK x x
theorem KW (x:Nat):Bv x=j6 x:=U5 x x (ar x)
open Go.Proofs.Tryz (prog)
inductive NK where
 | val|long|rat
inductive NV where
 | val (v:QQ)
 | long (n:Bool) (b x:Nat)
 | rat (n:Bool) (b x c y:Nat)
def sint (n:Bool) (x:Nat):Int:=if n=true then -(x:Int) else x
def oC (n:Bool) (x y:Nat):Rat:=Rat.divInt (sint n x) y
theorem lu (n:Bool) (x:Nat):(sint n x).natAbs=x:=by unfold sint;split<;>omega
variable {x:Nat}
theorem LH {n:Bool} (h:n=true→x≠0):decide (sint n x<0)=n:=by
 unfold sint;cases n;·simp
 ·have:=h rfl
  simp;omega
variable {s:QQ}{h:IH}
def Zcj (w:Wrd h s x):Ap h s x:=by obtain⟨ds,a,b,c⟩:=w;obtain⟨a1,a2,a3⟩:=a;have e:ds=wu x:=B.BP a2 (Be x) b (HP x) (by rw[c,Aa]);subst e;exact a1
def Oq (w:Ap h s x) (hl:j6 x≤1100000):Wrd h s x:=⟨wu x,⟨w,Be x,hl⟩,HP x,Aa x⟩
def Wo {xs:List Nat} {i:Nat} {u:QQ} (h:FP xs i u) (hx:xs[i]?=some x):Ap (IH.start (jB xs)) u x:=by
 obtain⟨x',hx',h⟩:=h;rw[hx] at hx';cases hx';rcases h with⟨rfl,rfl|rfl⟩|⟨x0,cap,hc,rfl⟩
 ·exact⟨byOmega,by rw[mg,dG],.inl ⟨rfl,jN.2 rfl⟩⟩
 ·unfold Ap;rw[jN.2 rfl,IS];exact⟨byOmega,rfl,.inr ⟨0,0,0,rfl,.inl ⟨rfl,rfl⟩⟩⟩
 ·refine⟨byOmega,by rw[mg,dG],.inr ⟨_,_,_,rfl,.inr ⟨byOmega,byOmega,jx x,.inl ⟨byOmega,byOmega⟩,?_,?_,?_⟩⟩⟩
  ·unfold IH.row;have e1:((2*(4294967296+i)+1) % 2 == 1)=true:=aa;rw[e1];show jB xs ((2*(4294967296+i)+1) / 2)=_;unfold jB;rw[show(2*(4294967296+i)+1) / 2 - 4294967296=i from by omega,hx];exact ah ⟨byOmega,x0⟩
  ·rw[cp,dr (by rw[mg];omega)]
  ·rw[mg];omega
noncomputable section
def numOf (h:IH) (v:QQ):Option (Nat×Nat):=match v with
 | .slice (some ⟨b,0,some 0⟩) l 0=>match yW h.ext (Nat.div b 2) with
  | some (.num x)=>iB (Nat.beq (Nat.mod b 2) 0) (iB (Nat.beq l (Bv x)) (iB (Nat.ble l 64) (some (b,x)) none) none) none
  | _=>none
 | _=>none
variable {α:Type}{x:Option α}{b:Bool}
def CF {v:α} (h:iB b x none=some v):b=true∧x=some v:=by
 cases b;·cases h
 ·exact⟨rfl,h⟩
def JW {v:α} (h:iB b none x=some v):b=false∧x=some v:=by
 cases b;·exact⟨rfl,h⟩
 ·cases h
variable {h:IH}{v:QQ}
def yo {b x:Nat} (e:numOf h v=some (b,x)):v=qP b x∧(b % 2=0∧h.ext.get (b / 2)=some (.num x))∧j6 x≤64:=by
 unfold numOf at e;split at e
 ·rename_i b' l;split at e
  ·rename_i x' hx;obtain⟨h1,e⟩:=CF e;obtain⟨h2,e⟩:=CF e;obtain⟨h3,e⟩:=CF e;cases e;have h2:=my.mp h2;rw[KW] at h2;subst h2;rw[pY] at hx;exact⟨rfl,⟨my.mp h1,hx⟩,Ix h3⟩
  ·cases e
 ·cases e
def decode (h:IH) (k:NK) (v:QQ):Option NV:=match k,v with
 | .val,v=>bif plain v then some (.val v) else none
 | .long,.agg cs=>match cs.toList with
  | [.bool n,s]=>match numOf h s with
   | some (b,x)=>iB (iB n (Nat.beq x 0) false) none (some (.long n b x))
   | none=>none
  | _=>none
 | .rat,.agg cs=>match cs.toList with
  | [.bool n,s,.bool false,t]=>match numOf h s with
   | some (b,x)=>match numOf h t with
    | some (c,y)=>iB (iB n (Nat.beq x 0) false) none (iB (Nat.beq y 0) none (iB (Nat.beq (Nat.gcd x y) 1) (some (.rat n b x c y)) none))
    | none=>none
   | none=>none
  | _=>none
 | _,_=>none
def NV.value:NV→QQ
 | .val v=>v
 | .long n b x=>.agg #[.bool n,qP b x]
 | .rat n b x c y=>.agg #[.bool n,qP b x,.bool false,qP c y]
def NV.mM:NV→Prop
 | .val v=>plain v=true
 | .long n _ x=>(n=true→x≠0)∧j6 x≤64
 | .rat n _ x _ y=>((n=true→x≠0)∧(y≠0∧Nat.gcd x y=1))∧j6 x≤64∧j6 y≤64
def NV.at_ (h:IH):NV→Prop
 | .val _=>True
 | .long _ b x=>b % 2=0∧h.ext.get (b / 2)=some (.num x)
 | .rat _ b x c y=>(b % 2=0∧h.ext.get (b / 2)=some (.num x))∧c % 2=0∧h.ext.get (c / 2)=some (.num y)
def Nc {k:NK} {a:NV} (e:decode h k v=some a):v=a.value∧a.mM∧a.at_ h:=by
 unfold decode at e;split at e
 ·rename_i v';simp only[aK] at e;split at e
  ·cases e;rename_i hp;exact⟨rfl,hp,trivial⟩
  ·cases e
 ·rename_i cs;split at e
  ·rename_i n s hcs;split at e
   ·rename_i b x hx;obtain⟨hn,e⟩:=JW e;cases e;obtain⟨h1,h2,h3⟩:=yo hx;refine⟨?_,⟨(fun h4 h5=>by rw[h4,h5] at hn;cases hn),h3⟩,h2⟩;show QQ.agg cs=QQ.agg #[.bool n,qP b x];rw[←h1];congr 1;exact Array.ext' hcs
   ·cases e
  ·cases e
 ·rename_i cs;split at e
  ·rename_i n s t hcs;split at e
   ·rename_i b x hx;split at e
    ·rename_i c y hy;obtain⟨hn,e⟩:=JW e;obtain⟨hm,e⟩:=JW e;obtain⟨hk,e⟩:=CF e;cases e;obtain⟨h1,h2,h3⟩:=yo hx;obtain⟨h4,h5,h6⟩:=yo hy;refine⟨?_,⟨⟨(fun h7 h8=>by rw[h7,h8] at hn;cases hn),(fun h7=>by rw[h7] at hm;cases hm),my.mp hk⟩,h3,h6⟩,h2,h5⟩;show QQ.agg cs=QQ.agg #[.bool n,qP b x,.bool false,qP c y];rw[←h1,←h4];congr 1;exact Array.ext' hcs
    ·cases e
   ·cases e
  ·cases e
 ·cases e
def NV.bs:NV→List Nat
 | .val _ => []
 | .long _ b _ => [b]
 | .rat _ b _ c _ => [b,c]
def NV.xs:NV→List Nat
 | .val _ => []
 | .long _ _ x => [x]
 | .rat _ _ x _ y => [x,y]
def bsL:List NV→List Nat
 | [] => []
 | a :: l=>a.bs ++ bsL l
def xsL:List NV→List Nat
 | [] => []
 | a :: l=>a.xs ++ xsL l
def rG:List NV→List QQ→List QQ
 | [],_ => []
 | .val v :: l,ss=>v :: rG l ss
 | .long n _ _ :: l,s :: ss=>.agg #[.bool n,s] :: rG l ss
 | .rat n _ _ _ _ :: l,s :: t :: ss=>.agg #[.bool n,s,.bool false,t] :: rG l ss
 | _ :: l,_=>undef :: rG l []
theorem ur : ∀al:List NV,rG al (lY (bsL al) (xsL al))=al.map NV.value
 | []=>rfl
 | .val v :: l=>by show v :: rG l (lY (bsL l) (xsL l))=v :: l.map NV.value;rw[ur l]
 | .long n b x :: l=>by show QQ.agg #[.bool n,qP b x] :: rG l (lY (bsL l) (xsL l))=QQ.agg #[.bool n,qP b x] :: l.map NV.value;rw[ur l]
 | .rat n b x c y :: l=>by show QQ.agg #[.bool n,qP b x,.bool false,qP c y] :: rG l (lY (bsL l) (xsL l))=QQ.agg #[.bool n,qP b x,.bool false,qP c y] :: l.map NV.value;rw[ur l]
variable {m:Mp}{vs':List QQ}
def jl {l:List QQ} (h:cg m (v :: l) vs') : ∃v' l',vs'=v' :: l'∧aW m v v'∧cg m l l':=by
 match vs',h with
 | [],h=>have:=h.1;simp at this
 | v' :: l',h=>exact⟨v',l',rfl,h.2 0 v v' rfl rfl,by have:=h.1;simpa using this,fun i a b ha hb=>h.2 (i+1) a b (by simpa using ha) (by simpa using hb)⟩
def zK (h:cg m [] vs'):vs' = []:=fC.1 h.1.symm
def nJ : ∀al:List NV,(∀a∈al,a.mM)→St (rG al) (xsL al).length
 | [],_=>fun m ss vs' hl h=>by obtain rfl:=zK h;obtain rfl:ss = []:=fC.1 hl;exact⟨[],.nil m,fun m2 us _=>.nil m2⟩
 | .val v :: l,hg=>fun m ss vs' hl h=>by obtain⟨v',l',rfl,h1,h2⟩:=jl (l:=rG l ss) h;obtain⟨ss',h3,h4⟩:=nJ l (fun a ha=>hg a (pR _ ha)) m ss l' hl h2;have hp:plain v=true:=hg (.val v) oM;obtain rfl:=h1.fx hp;exact⟨ss',h3,fun m2 us hu=>.cons (.cY hp) (h4 m2 us hu)⟩
 | .long n b x :: l,hg=>fun m ss vs' hl h=>by
  match ss,hl with
  | s :: ss,hl =>
   obtain⟨v',l',rfl,h1,h2⟩:=jl (v:=.agg #[.bool n,s]) (l:=rG l ss) h;obtain⟨ss',h3,h4⟩:=nJ l (fun a ha=>hg a (pR _ ha)) m ss l' (by simpa [xsL,NV.xs] using hl) h2;obtain⟨cs',rfl,h5⟩:=h1.uB;obtain⟨b',r',e1,h6,h7⟩:=jl h5;obtain⟨s',r2,rfl,h8,h9⟩:=jl h7;obtain rfl:=zK h9;have hb:=h6.dN rfl;subst hb;refine⟨s' :: ss',.cons h8 h3,fun m2 us hu=>?_⟩
   match us,hu with
   | [],hu=>have:=hu.1;simp at this
   | u :: us,hu =>
    refine .cons (.oo ?_) (h4 m2 us ⟨by have:=hu.1;simpa using this,fun i a c ha hc=>hu.2 (i+1) a c (by simpa using ha) (by simpa using hc)⟩);rw[e1];exact .cons (.ct rfl) (.cons (hu.2 0 u s' rfl rfl) (.nil m2))
  | [],hl=>simp[xsL,NV.xs] at hl
 | .rat n b x c y :: l,hg=>fun m ss vs' hl h=>by
  match ss,hl with
  | s :: t :: ss,hl =>
   obtain⟨v',l',rfl,h1,h2⟩:=jl (v:=.agg #[.bool n,s,.bool false,t]) (l:=rG l ss) h;obtain⟨ss',h3,h4⟩:=nJ l (fun a ha=>hg a (pR _ ha)) m ss l' (by simpa [xsL,NV.xs] using hl) h2;obtain⟨cs',rfl,h5⟩:=h1.uB;obtain⟨b',r',e1,h6,h7⟩:=jl h5;obtain⟨s',r2,rfl,h8,h9⟩:=jl h7;obtain⟨b2,r3,rfl,h10,h11⟩:=jl h9;obtain⟨t',r4,rfl,h12,h13⟩:=jl h11;obtain rfl:=zK h13;have hb:=h6.dN rfl;subst hb;have hb2:=h10.dN rfl;subst hb2;refine⟨s' :: t' :: ss',.cons h8 (.cons h12 h3),fun m2 us hu=>?_⟩
   match us,hu with
   | [],hu=>have:=hu.1;simp at this
   | [_],hu=>have:=hu.1;simp at this
   | u :: u2 :: us,hu =>
    refine .cons (.oo ?_) (h4 m2 us ⟨by have:=hu.1;simpa using this,fun i a c ha hc=>hu.2 (i+2) a c (by simpa using ha) (by simpa using hc)⟩);rw[e1];exact .cons (.ct rfl) (.cons (hu.2 0 u s' rfl rfl) (.cons (.ct rfl) (.cons (hu.2 1 u2 t' rfl rfl) (.nil m2))))
  | [_],hl=>simp[xsL,NV.xs] at hl
  | [],hl=>simp[xsL,NV.xs] at hl
end
noncomputable section
def NV.real (h:IH):NV→QQ→Prop
 | .val v,u=>u=v
 | .long n _ x,u=>bW h u (sint n x)
 | .rat n _ x _ y,u=>ch h u (oC n x y)
def ND (h:IH):List NV→List QQ→Prop
 | [],[]=>True
 | a :: al,u :: us=>a.real h u∧ND h al us
 | _,_=>False
variable {s:QQ}{h:IH}{n:Bool}{x:Nat}
def JQ (hn:n=true→x≠0) (w:Wrd h s x):bW h (.agg #[.bool n,s]) (sint n x):=⟨s,by rw[LH hn],by rw[lu];exact w⟩
variable {y:Nat}
def yj (hy:y≠0) (hg:Nat.gcd x y=1):(oC n x y).num=sint n x∧(oC n x y).den=y:=by
 unfold oC;have e:Nat.gcd (sint n x).natAbs y=1:=by rw[lu];exact hg
 have:=Is (sint n x) y;rw[show Rat.divInt (sint n x) (y:Int)=mkRat (sint n x) y from Is (sint n x) y];rw[←Rat.mk_eq_mkRat (sint n x) y hy e];exact⟨rfl,rfl⟩
def Zc0 {t:QQ} (hn:n=true→x≠0) (hy:y≠0) (hg:Nat.gcd x y=1) (w:Wrd h s x) (u:Wrd h t y):ch h (.agg #[.bool n,s,.bool false,t]) (oC n x y):=by
 obtain⟨e1,e2⟩:=yj (n:=n) hy hg;refine⟨_,_,_,_,rfl,?_,?_⟩;·rw[e1];exact JQ hn w
 ·rw[e2];exact JQ (n:=false) (fun h=>by cases h) u
def uf (hB:IH) : ∀(al:List NV) (us:List QQ),us.length=(xsL al).length→(∀(i x:Nat) (u:QQ),(xsL al)[i]?=some x→us[i]?=some u→Ap hB u x)→(∀a∈al,a.mM)→ND hB al (rG al us)
 | [],_,_,_,_=>trivial
 | .val v :: l,us,hl,h,hg=>⟨rfl,uf hB l us hl h fun a ha=>hg a (pR _ ha)⟩
 | .long n b x :: l,us,hl,h,hg=>by
  have g:(n=true→x≠0)∧j6 x≤64:=hg _ oM
  match us,hl,h with
  | [],hl,_=>simp[xsL,NV.xs] at hl
  | u :: us,hl,h =>
   exact⟨JQ g.1 (Oq (h 0 x u rfl rfl) (bA g.2 aP)),uf hB l us (by simpa [xsL,NV.xs] using hl) (fun i x' u' hx hu=>h (i+1) x' u' hx (by simpa using hu)) fun a ha=>hg a (pR _ ha)⟩
 | .rat n b x c y :: l,us,hl,h,hg=>by
  have g:((n=true→x≠0)∧(y≠0∧Nat.gcd x y=1))∧j6 x≤64∧j6 y≤64:=hg _ oM
  match us,hl,h with
  | [],hl,_=>simp[xsL,NV.xs] at hl
  | [_],hl,_=>simp[xsL,NV.xs] at hl
  | u :: u2 :: us,hl,h =>
   exact⟨Zc0 g.1.1 g.1.2.1 g.1.2.2 (Oq (h 0 x u rfl rfl) (bA g.2.1 aP)) (Oq (h 1 y u2 rfl rfl) (bA g.2.2 aP)),uf hB l us (by simpa [xsL,NV.xs] using hl) (fun i x' u' hx hu=>h (i+2) x' u' hx (by simpa using hu)) fun a ha=>hg a (pR _ ha)⟩
inductive NR where
 | val (v:QQ)
 | long (n:Bool) (x:Nat)
 | rat (n:Bool) (x y:Nat)
 | two (n:Bool) (x:Nat) (k:Bool) (y:Nat)
def NR.real (h:IH):NR→QQ→Prop
 | .val v0,v=>v=v0
 | .long n x,v=>bW h v (sint n x)
 | .rat n x y,v=>ch h v (oC n x y)
 | .two n x k y,v => ∃a b,v=.tuple #[a,b]∧bW h a (sint n x)∧bW h b (sint k y)
def NR.mM:NR→Prop
 | .val v=>qj v=true
 | .long n x=>n=true→x≠0
 | .rat n x y=>(n=true→x≠0)∧y≠0∧Nat.gcd x y=1
 | .two n x k y=>(n=true→x≠0)∧(k=true→y≠0)
def NR.xf:NR→List Nat
 | .val _ => []
 | .long _ x => [x]
 | .rat _ x y => [x,y]
 | .two _ x _ y => [x,y]
def Cf (b x:Nat):QQ:=.slice (some ⟨b,0,some 0⟩) (Bv x) 0
theorem yX (b x:Nat):Cf b x=qP b x:=by unfold Cf qP;rw[KW]
def NR.value (n0:Nat):NR→QQ
 | .val v=>v
 | .long n x=>.agg #[.bool n,Cf (2*n0) x]
 | .rat n x y=>.agg #[.bool n,Cf (2*n0) x,.bool false,Cf (2*(n0+1)) y]
 | .two n x k y=>.tuple #[.agg #[.bool n,Cf (2*n0) x],.agg #[.bool k,Cf (2*(n0+1)) y]]
def NR.fill:NR→List QQ→QQ
 | .val v,_=>v
 | .long n _,ss=>.agg #[.bool n,ss.headD undef]
 | .rat n _ _,ss=>.agg #[.bool n,ss.headD undef,.bool false,(ss.drop 1).headD undef]
 | .two n _ k _,ss=>.tuple #[.agg #[.bool n,ss.headD undef],.agg #[.bool k,(ss.drop 1).headD undef]]
theorem NR.Ug (r:NR) (n0:Nat):r.fill (lY (Hc n0 r.xf.length) r.xf)=r.value n0:=by
 cases r with
 | val v=>rfl
 | long n x=>show QQ.agg #[.bool n,qP (2*(n0+0)) x]=.agg #[.bool n,Cf (2*n0) x];rw[yX,fR]
 | rat n x y=>show QQ.agg #[.bool n,qP (2*(n0+0)) x,.bool false,qP (2*(n0+1)) y]=.agg #[.bool n,Cf (2*n0) x,.bool false,Cf (2*(n0+1)) y];rw[yX,yX,fR]
 | two n x k y=>show QQ.tuple #[.agg #[.bool n,qP (2*(n0+0)) x],.agg #[.bool k,qP (2*(n0+1)) y]]=.tuple #[.agg #[.bool n,Cf (2*n0) x],.agg #[.bool k,Cf (2*(n0+1)) y]];rw[yX,yX,fR]
variable {m:Mp}
def Er {v':QQ} (h:aW m (.agg #[.bool n,s]) v') : ∃s',aW m s s' ∧ ∀(m2:Mp) (u:QQ),aW m2 u s'→aW m2 (.agg #[.bool n,u]) v':=by obtain⟨cs',rfl,h5⟩:=h.uB;obtain⟨b',r',e1,h6,h7⟩:=jl h5;obtain⟨s',r2,rfl,h8,h9⟩:=jl h7;obtain rfl:=zK h9;have hb:=h6.dN rfl;subst hb;refine⟨s',h8,fun m2 u hu=>.oo ?_⟩;rw[e1];exact .cons (.ct rfl) (.cons hu (.nil m2))
def NR.para (r:NR) (hv : ∀v,r≠.val v):Para r.fill r.xf.length:=by
 intro m ss v' hl h;cases r with
 | val v=>exact absurd rfl (hv v)
 | long n x =>
  match ss,hl with
  | [s],_ =>
   obtain⟨s',h1,h2⟩:=Er h;refine⟨[s'],.cons h1 (.nil m),fun m2 us hu=>?_⟩
   match us,hu with
   | [u],hu=>exact h2 m2 u (hu.2 0 u s' rfl rfl)
   | [],hu=>have:=hu.1;simp at this
   | _ :: _ :: _,hu=>have:=hu.1;simp at this
  | [],hl=>simp[NR.xf] at hl
  | _ :: _ :: _,hl=>simp[NR.xf] at hl
 | rat n x y =>
  match ss,hl with
  | [s,t],_ =>
   obtain⟨ss',h1,h2⟩:=nJ [.rat n 0 1 0 1] (fun a ha=>by
    simp at ha;subst ha;refine⟨⟨fun _=>aP,aP,aP⟩,?_⟩;have:j6 1≤64:=by unfold j6;rw[pL aP,show 1 / 18446744073709551616=0 from rfl,nK];decide
    exact⟨this,this⟩) m [s,t] [v'] rfl (.cons h (.nil m))
   exact⟨ss',h1,fun m2 us hu=>by
    have h3:=h2 m2 us hu
    match us,hu with
    | [u,w],hu=>exact h3.2 0 _ _ rfl rfl
    | [],hu=>have a:=hu.1;have b:=h1.1;rw[←a] at b;simp at b
    | [_],hu=>have a:=hu.1;have b:=h1.1;rw[←a] at b;simp at b
    | _ :: _ :: _ :: _,hu=>have a:=hu.1;have b:=h1.1;rw[←a] at b;simp at b⟩
  | [],hl=>simp[NR.xf] at hl
  | [_],hl=>simp[NR.xf] at hl
  | _ :: _ :: _ :: _,hl=>simp[NR.xf] at hl
 | two n x k y =>
  match ss,hl with
  | [s,t],_ =>
   obtain⟨cs',rfl,h5⟩:=h.sF;obtain⟨v1,r1,e1,h6,h7⟩:=jl h5;obtain⟨v2,r2,rfl,h8,h9⟩:=jl h7;obtain rfl:=zK h9;obtain⟨s',a1,a2⟩:=Er h6;obtain⟨t',b1,b2⟩:=Er h8;refine⟨[s',t'],.cons a1 (.cons b1 (.nil m)),fun m2 us hu=>?_⟩
   match us,hu with
   | [u,w],hu =>
    refine .ji ?_;rw[e1];exact .cons (a2 m2 u (hu.2 0 u s' rfl rfl)) (.cons (b2 m2 w (hu.2 1 w t' rfl rfl)) (.nil m2))
   | [],hu=>have:=hu.1;simp at this
   | [_],hu=>have:=hu.1;simp at this
   | _ :: _ :: _ :: _,hu=>have:=hu.1;simp at this
  | [],hl=>simp[NR.xf] at hl
  | [_],hl=>simp[NR.xf] at hl
  | _ :: _ :: _ :: _,hl=>simp[NR.xf] at hl
variable {v:QQ}
def zQ (hn:n=true→x≠0) (p:bW h v (sint n x)) : ∃s,v=.agg #[.bool n,s]∧Ap h s x:=by obtain⟨s,rfl,w⟩:=p;rw[lu] at w;rw[LH hn];exact⟨s,rfl,Zcj w⟩
def NR.Td {r:NR} (hv : ∀v,r≠.val v) (hg:r.mM) (p:r.real h v) : ∃ss,ss.length=r.xf.length∧v=r.fill ss ∧ ∀(j y:Nat) (s:QQ),r.xf[j]?=some y→ss[j]?=some s→Ap h s y:=by
 cases r with
 | val v=>exact absurd rfl (hv v)
 | long n x =>
  obtain⟨s,rfl,w⟩:=zQ hg p;refine⟨[s],rfl,rfl,fun j y s' hy hs=>?_⟩
  match j with
  | 0=>cases hy;cases hs;exact w
  | j+1=>simp at hs
 | rat n x y =>
  obtain⟨a,s,b,t,rfl,p1,p2⟩:=p;obtain⟨e1,e2⟩:=yj (n:=n) hg.2.1 hg.2.2;rw[e1] at p1;rw[e2] at p2;obtain⟨s1,q1,w1⟩:=zQ hg.1 p1;obtain⟨s2,q2,w2⟩:=zQ (n:=false) (x:=y) (fun h=>by cases h) p2;cases q1;cases q2;refine⟨[s,t],rfl,rfl,fun j z s' hy hs=>?_⟩
  match j with
  | 0=>cases hy;cases hs;exact w1
  | 1=>cases hy;cases hs;exact w2
  | j+2=>simp at hs
 | two n x k y =>
  obtain⟨a,b,rfl,p1,p2⟩:=p;obtain⟨s1,rfl,w1⟩:=zQ hg.1 p1;obtain⟨s2,rfl,w2⟩:=zQ hg.2 p2;refine⟨[s1,s2],rfl,rfl,fun j z s' hy hs=>?_⟩
  match j with
  | 0=>cases hy;cases hs;exact w1
  | 1=>cases hy;cases hs;exact w2
  | j+2=>simp at hs
structure xM (P:QX) (f:FuncId) (sem:List NV→Option NR):Prop where
 body : ∃fn,P.funcs[f]?=some fn∧fn.body.isSome=true
 right : ∀al r,(∀a∈al,a.mM)→sem al=some r→r.mM ∧ ∀h us,ND h al us→WV P (.func (.func f) #[] #[]) us h fun v h'=>r.real h' v
def CI (h:IH):List NK→List QQ→Option (List NV)
 | [],[]=>some []
 | k :: ks,v :: vs=>match decode h k v with
  | some a=>match CI h ks vs with
   | some al=>some (a :: al)
   | none=>none
  | none=>none
 | _,_=>none
def Ab : ∀{ks:List NK} {vs:List QQ} {al:List NV},CI h ks vs=some al→vs=al.map NV.value∧(∀a∈al,a.mM) ∧ ∀a∈al,a.at_ h
 | [],[],al,e=>by cases e;exact⟨rfl,(fun a ha=>by cases ha),(fun a ha=>by cases ha)⟩
 | [],_ :: _,_,e=>by cases e
 | _ :: _,[],_,e=>by cases e
 | k :: ks,v :: vs,al,e=>by
  unfold CI at e;split at e
  ·rename_i a ha;split at e
   ·rename_i l hl;cases e;obtain⟨h1,h2,h3⟩:=Nc ha;obtain⟨h4,h5,h6⟩:=Ab hl;refine⟨by rw[h1,h4];rfl,fun b hb=>?_,fun b hb=>?_⟩
    ·rcases dD.1 hb with rfl|hb
     ·exact h2
     ·exact h5 b hb
    ·rcases dD.1 hb with rfl|hb
     ·exact h3
     ·exact h6 b hb
   ·cases e
  ·cases e
def Qw : ∀(al:List NV),(∀a∈al,a.at_ h)→UQ h (bsL al) (xsL al)
 | [],_=>⟨rfl,fun i b x hb=>by simp[bsL] at hb⟩
 | a :: l,hg=>by
  obtain⟨h1,h2⟩:=Qw l fun b hb=>hg b (pR _ hb);have ha:=hg a oM;cases a with
  | val v=>exact⟨h1,h2⟩
  | long n b x =>
   refine⟨by show(bsL l).length+1=(xsL l).length+1;rw[h1],fun i c y hc hy=>?_⟩
   match i with
   | 0=>cases hc;cases hy;exact ha
   | i+1=>exact h2 i c y hc hy
  | rat n b x c y =>
   refine⟨by show(bsL l).length+1+1=(xsL l).length+1+1;rw[h1],fun i d z hd hz=>?_⟩
   match i with
   | 0=>cases hd;cases hz;exact ha.1
   | 1=>cases hd;cases hz;exact ha.2
   | i+2=>exact h2 i d z hd hz
def Mr {α:Type} (l:List Nat) (h:IH) (k:IH→α):α:=List.rec (motive:=fun _=>IH→α) k (fun y _ ih h=>TH h (.num y) fun _ h'=>ih h') l h
theorem Mq {α:Type} : ∀(l:List Nat) (h:IH) (k:IH→α),Mr l h k=k (j5 h l)
 | [],_,_=>rfl
 | y :: l,h,k=>by show TH h (.num y) (fun _ h'=>Mr l h' k)=_;rw[CA,Mq l];rfl
def Zc6 (r:NR) (h:IH):Option (QQ×IH):=match r with
 | .val v=>some (v,h)
 | .long n x=>fN (Nat.mul 2 h.n) fun a=>fN (Bv x) fun i=>Mr [x] h fun h'=>some (.agg ⟨[.bool n,.slice (some ⟨a,0,some 0⟩) i 0]⟩,h')
 | .rat n x y=>fN (Nat.mul 2 h.n) fun a=>fN (Nat.mul 2 (Nat.succ h.n)) fun b=>fN (Bv x) fun i=>fN (Bv y) fun j=>Mr [x,y] h fun h'=>some (.agg ⟨[.bool n,.slice (some ⟨a,0,some 0⟩) i 0,.bool false,.slice (some ⟨b,0,some 0⟩) j 0]⟩,h')
 | .two n x k y=>fN (Nat.mul 2 h.n) fun a=>fN (Nat.mul 2 (Nat.succ h.n)) fun b=>fN (Bv x) fun i=>fN (Bv y) fun j=>Mr [x,y] h fun h'=>some (.tuple ⟨[.agg ⟨[.bool n,.slice (some ⟨a,0,some 0⟩) i 0]⟩,.agg ⟨[.bool k,.slice (some ⟨b,0,some 0⟩) j 0]⟩]⟩,h')
theorem Rd (r:NR) (h:IH):Zc6 r h=some (r.value h.n,j5 h r.xf):=by unfold Zc6;cases r<;>simp only[gR,Mq]<;>rfl
def Pd (ks:List NK) (sem:List NV→Option NR) (args:List QQ) (h:IH):Option (QQ×IH):=match CI h ks args with
 | some al=>match sem al with
  | some r=>Zc6 r h
  | none=>none
 | none=>none
variable {P:QX}
def Pc (S:Sound (E0 P)) {f:FuncId} {ks:List NK} {sem:List NV→Option NR} (F:xM P f sem) {args:List QQ} {h':IH} (e:Pd ks sem args h=some (v,h'))
  {B:Nat} {w0:World} {w:World} {args':Array QQ} (R:Rel B w0 m h w) (ha:cg m args args'.toList) (fr:iA m h.n h'.n):oq P f args' B w0 m h w v h':=by
 unfold Pd at e;split at e
 case h_2=>cases e
 rename_i al has;split at e
 case h_2=>cases e
 rename_i r hr;rw[Rd] at e;cases e;obtain⟨e1,e2,e3⟩:=Ab has;obtain⟨g,W⟩:=F.right al r e2 hr;have T:=Qw al e3;rw[e1,←ur] at ha;have hw : ∀us,us.length=(xsL al).length→(∀(i:Nat) (u:QQ),us[i]?=some u→FP (xsL al) i u)→WV P (.func (.func f) #[] #[]) (rG al us) (IH.start (jB (xsL al))) fun v h'=>r.real h' v :=
  fun us hl hu=>W _ _ (uf _ al us hl (fun i x u hx h2=>Wo (hu i u h2) hx) e2)
 by_cases c : ∃v,r=.val v;·obtain⟨v,rfl⟩:=c;exact TE S R T (nJ al e2) ha F.body g hw
 ·have nv : ∀v,r≠.val v:=fun v e=>c ⟨v,e⟩
  have:=Wm S R T (nJ al e2) ha F.body (r.para nv) (fun us hl hu=>(hw us hl hu).mono fun v h' p=>NR.Td nv g p) (by rw[w9] at fr;exact fr);rw[NR.Ug] at this;exact this
def E2 (P:QX) (tb:FuncId→Option (List QQ→Option QQ)) (tn:FuncId→Option (List QQ→IH→Option (QQ×IH))):Env:=⟨P,fun _ _=>none,fun f=>match tn f with
 | some g=>some g
 | none=>(E1 P tb).xh f⟩
def ZcM {tb:FuncId→Option (List QQ→Option QQ)} {tn:FuncId→Option (List QQ→IH→Option (QQ×IH))} (S0:Sound (E0 P)) (S:Sound (E1 P tb)) (hn : ∀f g,tn f=some g → ∃ks sem,g=Pd ks sem∧xM P f sem):Sound (E2 P tb tn) where
 mixed:=S.mixed
 names:=S.names
 origin:=S.origin
 MV:=fun f g hg args h v h' e=>by
  have hg:(match tn f with|some g=>some g|none=>(E1 P tb).xh f)=some g:=hg;split at hg
  ·rename_i g' hg';cases hg;obtain⟨ks,sem,rfl,F⟩:=hn f _ hg';unfold Pd at e;split at e
   case h_2=>cases e
   split at e
   case h_2=>cases e
   rw[Rd] at e;cases e;rw[w9];omega
  ·exact S.MV f g hg args h v h' e
 xh:=fun f g hg=>by
  have hg:(match tn f with|some g=>some g|none=>(E1 P tb).xh f)=some g:=hg;split at hg;·rename_i g' hg';cases hg;obtain⟨ks,sem,rfl,F⟩:=hn f _ hg';exact⟨F.body,fun args h v h' e B w0 m w args' R ha fr=>Pc S0 F e R ha fr⟩
  ·exact S.xh f g hg
end
noncomputable section
def iN {α:Type} (a:Int) (k:Bool→Nat→α):α:=Int.rec (motive:=fun _=>α) (fun n=>fN n (k false)) (fun n=>fN (Nat.succ n) (k true)) a
theorem MY {α:Type} (a:Int) (k:Bool→Nat→α):iN a k=k (decide (a<0)) a.natAbs:=by
 cases a with
 | ofNat n =>
  show fN n (k false)=k (decide ((n:Int)<0)) n;rw[gR,aY byOmega]
 | negSucc n =>
  show fN (n+1) (k true)=k (decide (Int.negSucc n<0)) (n+1);rw[gR,bf byOmega]
def sI (n:Bool) (x:Nat):Int:=iB n (Int.neg (Int.ofNat x)) (Int.ofNat x)
theorem mj (n:Bool) (x:Nat):sI n x=sint n x:=by cases n<;>rfl
def zR (a:Int):NR:=iN a NR.long
def D3 (a:Int) (d:Nat):NR:=iN a fun s x=>fN (Nat.gcd x d) fun g=>fN (Nat.div x g) fun x=>fN (Nat.div d g) fun y=>.rat s x y
def Vl (a b:Int):NR:=iN a fun s x=>iN b fun k y=>.two s x k y
theorem wL (a:Int):sint (decide (a<0)) a.natAbs=a:=by
 unfold sint;by_cases h:a<0;·rw[ah (bf h)];omega
 ·rw[ad (by simpa using h)];omega
theorem Vy (s:Bool) (x g:Nat):sint s (x*g)=sint s x*g:=by
 unfold sint;split;·rw[oP,Int.neg_mul]
 ·rw[oP]
theorem MK (a:Int):zR a=.long (decide (a<0)) a.natAbs:=by unfold zR;rw[MY]
theorem Qt (a b:Int):Vl a b=.two (decide (a<0)) a.natAbs (decide (b<0)) b.natAbs:=by unfold Vl;rw[MY,MY]
variable {a:Int}
def JK (h:decide (a<0)=true):a.natAbs≠0:=by have:=Au h;omega
def qz (a:Int):(zR a).mM:=by rw[MK];exact JK
variable {h:IH}{v:QQ}
def qv (p:bW h v a):(zR a).real h v:=by rw[MK];show bW h v (sint _ _);rw[wL];exact p
def SG (a b:Int):(Vl a b).mM:=by rw[Qt];exact⟨JK,JK⟩
def SF {b:Int} (p : ∃q t,v=.tuple #[q,t]∧bW h q a∧bW h t b):(Vl a b).real h v:=by rw[Qt];show ∃q t,v=.tuple #[q,t]∧bW h q (sint _ _)∧bW h t (sint _ _);rw[wL,wL];exact p
variable {d:Nat}
def QU (a:Int) (hd:0<d) : ∃x y,D3 a d=.rat (decide (a<0)) x y∧sint (decide (a<0)) x=(Rat.divInt a d).num∧y=(Rat.divInt a d).den∧(a<0→x≠0):=by
 have g0:0<Nat.gcd a.natAbs d:=Nat.gcd_pos_of_pos_right _ hd;have k1:a.natAbs / Nat.gcd a.natAbs d*Nat.gcd a.natAbs d=a.natAbs:=Nat.div_mul_cancel (Nat.gcd_dvd_left _ _);have k2:d / Nat.gcd a.natAbs d*Nat.gcd a.natAbs d=d:=Nat.div_mul_cancel (Iy _ _);obtain⟨l1,l2⟩:=rq (n:=a) (d:=d) byOmega;have eg:Int.gcd a d=Nat.gcd a.natAbs d:=by unfold Int.gcd;rw[jU]
 rw[eg] at l1 l2;refine⟨a.natAbs / Nat.gcd a.natAbs d,d / Nat.gcd a.natAbs d,?_,?_,?_,fun h e=>?_⟩;·unfold D3;rw[MY,gR,gR,gR];rfl
 ·rw[←l1];have:a=sint (decide (a<0)) (a.natAbs / Nat.gcd a.natAbs d)*(Nat.gcd a.natAbs d:Nat):=by rw[←Vy,k1,wL]
  exact(Int.ediv_eq_of_eq_mul_left byOmega this).symm
 ·rw[←Dg] at l2;exact Int.ofNat.inj l2
 ·rw[e] at k1;omega
def pJ (a:Int) (hd:0<d):(D3 a d).mM:=by
 obtain⟨x,y,e,e1,e2,e3⟩:=QU a hd;rw[e];refine⟨fun h=>e3 (Au h),?_,?_⟩;·rw[e2];exact Rat.den_nz _
 ·have r:=(Rat.divInt a d).reduced
  rw[←e1,←e2,lu] at r;exact r
def pH (hd:0<d) (p:ch h v (Rat.divInt a d)):(D3 a d).real h v:=by obtain⟨x,y,e,e1,e2,e3⟩:=QU a hd;rw[e];show ch h v (oC _ _ _);unfold oC;rw[e1,e2,uS];exact p
theorem VZ (n:Bool) (x:Nat):oC n x 1=(sint n x:Rat):=uS ((sint n x:Int):Rat)
variable {x:Nat}
def Yo {k:Nat} (h:j6 x≤64) (hk:64*64≤k):x≤2 ^ k:=by
 have a:=YT x;have p:(18446744073709551616:Nat) ^ j6 x=2 ^ (64*j6 x):=by rw[CU]
 rw[p] at a;exact bA (pO a) (fQ byOmega byOmega)
def KE (h:j6 x≤64):x≤2 ^ 4096:=Yo (k:=4096) h (ar _)
variable {c:Nat}{n:Bool}{y b:Nat}
theorem zr (g:(NV.rat n b x c y).mM):(oC n x y).num=sint n x∧(oC n x y).den=y:=yj g.1.2.1 g.1.2.2
def rV (g:(NV.rat n b x c y).mM):QB 4096 (oC n x y):=by obtain⟨e1,e2⟩:=zr g;exact⟨by rw[e1,lu];exact KE g.2.1,by rw[e2];exact KE g.2.2⟩
def AZ (g:(NV.long n b x).mM):Im (sint n x):=bB (k:=4096) (by rw[lu];exact KE g.2) byOmega
def jb (g:(NV.long n b x).mM):bE (sint n x):=(AZ g).small
variable {us:List QQ}
def OH {a:NV} (R:ND h [a] us) : ∃v,us = [v]∧a.real h v:=by
 match us,R with
 | [],R=>exact R.elim
 | [v],R=>exact⟨v,rfl,R.1⟩
 | _ :: _ :: _,R=>exact R.2.elim
def VS {a b:NV} (R:ND h [a,b] us) : ∃v w,us = [v,w]∧a.real h v∧b.real h w:=by
 match us,R with
 | [],R=>exact R.elim
 | [_],R=>exact R.2.elim
 | [v,w],R=>exact⟨v,w,rfl,R.1,R.2.1⟩
 | _ :: _ :: _ :: _,R=>exact R.2.2.elim
def onV (k:QQ→Option NR) (l:List NV):Option NR:=match l with
 | [.val v]=>k v
 | _=>none
def onL (k:Bool→Nat→Option NR) (l:List NV):Option NR:=match l with
 | [.long n _ x]=>k n x
 | _=>none
def onQ (k:Bool→Nat→Nat→Option NR) (l:List NV):Option NR:=match l with
 | [.rat n _ x _ y]=>k n x y
 | _=>none
def Ml (k:Bool→Nat→Bool→Nat→Option NR) (l:List NV):Option NR:=match l with
 | [.long n _ x,.long m _ y]=>k n x m y
 | _=>none
def OY (k:Bool→Nat→Nat→Bool→Nat→Nat→Option NR) (l:List NV):Option NR:=match l with
 | [.rat n _ x _ y,.rat m _ u _ w]=>k n x y m u w
 | _=>none
variable {P:Program}{f:FuncId}
def Rl {k:QQ→Option NR} (hb : ∃fn,P.funcs[f]?=some fn∧fn.body.isSome=true)(w : ∀v r,k v=some r→r.mM ∧ ∀h,WV P (.func (.func f) #[] #[]) [v] h fun u h'=>r.real h' u):xM P f (onV k) where
 body:=hb
 right:=fun al r hg e=>by
  unfold onV at e;split at e
  case h_2=>cases e
  obtain⟨h1,h2⟩:=w _ _ e;refine⟨h1,fun h us R=>?_⟩;obtain⟨v,rfl,rfl⟩:=OH R;exact h2 h
def Rn {k:Bool→Nat→Option NR} (hb : ∃fn,P.funcs[f]?=some fn∧fn.body.isSome=true)(w : ∀n b x r,(NV.long n b x).mM→k n x=some r→r.mM ∧ ∀h v,bW h v (sint n x)→WV P (.func (.func f) #[] #[]) [v] h fun u h'=>r.real h' u):xM P f (onL k) where
 body:=hb
 right:=fun al r hg e=>by
  unfold onL at e;split at e
  case h_2=>cases e
  obtain⟨h1,h2⟩:=w _ _ _ _ (hg _ oM) e;refine⟨h1,fun h us R=>?_⟩;obtain⟨v,rfl,p⟩:=OH R;exact h2 h v p
def ZbA {k:Bool→Nat→Nat→Option NR} (hb : ∃fn,P.funcs[f]?=some fn∧fn.body.isSome=true)(w : ∀n b x c y r,(NV.rat n b x c y).mM→k n x y=some r→r.mM ∧ ∀h v,ch h v (oC n x y)→WV P (.func (.func f) #[] #[]) [v] h fun u h'=>r.real h' u):xM P f (onQ k) where
 body:=hb
 right:=fun al r hg e=>by
  unfold onQ at e;split at e
  case h_2=>cases e
  obtain⟨h1,h2⟩:=w _ _ _ _ _ _ (hg _ oM) e;refine⟨h1,fun h us R=>?_⟩;obtain⟨v,rfl,p⟩:=OH R;exact h2 h v p
def AY {k:Bool→Nat→Bool→Nat→Option NR} (hb : ∃fn,P.funcs[f]?=some fn∧fn.body.isSome=true)(w : ∀n b x m c y r,(NV.long n b x).mM→(NV.long m c y).mM→k n x m y=some r→r.mM ∧ ∀h v v2,bW h v (sint n x)→bW h v2 (sint m y)→WV P (.func (.func f) #[] #[]) [v,v2] h fun u h'=>r.real h' u):xM P f (Ml k) where
 body:=hb
 right:=fun al r hg e=>by
  unfold Ml at e;split at e
  case h_2=>cases e
  obtain⟨h1,h2⟩:=w _ _ _ _ _ _ _ (hg _ oM) (hg _ (pR _ oM)) e;refine⟨h1,fun h us R=>?_⟩;obtain⟨v,v2,rfl,p,q⟩:=VS R;exact h2 h v v2 p q
def Ei {k:Bool→Nat→Nat→Bool→Nat→Nat→Option NR} (hb : ∃fn,P.funcs[f]?=some fn∧fn.body.isSome=true)(w : ∀n b x c y m d u e z r,(NV.rat n b x c y).mM→(NV.rat m d u e z).mM→k n x y m u z=some r→r.mM ∧ ∀h v v2,ch h v (oC n x y)→ch h v2 (oC m u z)→WV P (.func (.func f) #[] #[]) [v,v2] h fun u h'=>r.real h' u):xM P f (OY k) where
 body:=hb
 right:=fun al r hg e=>by
  unfold OY at e;split at e
  case h_2=>cases e
  obtain⟨h1,h2⟩:=w _ _ _ _ _ _ _ _ _ _ _ (hg _ oM) (hg _ (pR _ oM)) e;refine⟨h1,fun h us R=>?_⟩;obtain⟨v,v2,rfl,p,q⟩:=VS R;exact h2 h v v2 p q
def SW (z:Int):NR:=Int.rec (motive:=fun _=>NR) (fun n=>Nat.rec (motive:=fun _=>NR) (.val (.int .i64 (Int.ofNat 0))) (fun _ _=>.val (.int .i64 (Int.ofNat 1))) n) (fun _=>.val (.int .i64 (Int.negSucc 0))) z
theorem Jf (x y:Int):SW (Int.sub x y)=.val (KI (if x<y then -1 else if x=y then 0 else 1)):=by
 unfold SW;have e:Int.sub x y=x - y:=rfl;rw[e];cases h:x - y with
 | ofNat n =>
  have h:x - y=(n:Int):=h;cases n with
  | zero=>rw[ad byOmega,ah byOmega];rfl
  | succ m=>rw[ad byOmega,ad byOmega];rfl
 | negSucc n=>rw[ah byOmega];rfl
theorem SV (x:Int):SW x=.val (KI (if x<0 then -1 else if x=0 then 0 else 1)):=by rw[←Jf x 0];congr 1;exact(Int.sub_zero x).symm
def Zby (n d:Int):Option QQ:=some (.tuple #[.int .i64 n,.int .i64 d])
def Zc9 (k:Int→Int→Option NR) (v:QQ):Option NR:=match v with
 | .tuple cs=>match cs.toList with
  | [.int _ n,.int _ d]=>k n d
  | _=>none
 | _=>none
def Mm (k:Int→Option NR) (v:QQ):Option NR:=match v with
 | .int .i64 n=>k n
 | _=>none
def Zbt:List NV→Option NR:=onV fun v=>bO (yg v Zby) (Zc9 fun n d=>iB (okF n d) (iN d fun _ y=>some (D3 n y)) none)
def VP:List NV→Option NR:=onV (Mm fun n=>iB (MW n) (some (D3 n 1)) none)
def U7:List NV→Option NR:=onL fun n x=>some (.rat n x 1)
def VK:List NV→Option NR:=onQ fun n x y=>some (.val (Bx (sI n x) (Int.ofNat y)))
def VJ:List NV→Option NR:=onQ fun n x y=>some (.rat (iB n false (Nat.ble 1 x)) x y)
def VM:List NV→Option NR:=OY fun n x y m u z=>some (D3 (Int.add (Int.mul (sI n x) (Int.ofNat z)) (Int.mul (sI m u) (Int.ofNat y))) (Nat.mul y z))
def QR:List NV→Option NR:=OY fun n x y m u z=>some (D3 (Int.sub (Int.mul (sI n x) (Int.ofNat z)) (Int.mul (sI m u) (Int.ofNat y))) (Nat.mul y z))
def QM:List NV→Option NR:=OY fun n x y m u z=>some (D3 (Int.mul (sI n x) (sI m u)) (Nat.mul y z))
def VN:List NV→Option NR:=OY fun n x y m u z=>iB (Nat.beq u 0) none (some (D3 (Int.mul (sI n x) (sI m z)) (Nat.mul y u)))
def Zbv:List NV→Option NR:=OY fun n x y m u z=>some (SW (Int.sub (Int.mul (sI n x) (Int.ofNat z)) (Int.mul (sI m u) (Int.ofNat y))))
def KV:List NV→Option NR:=onV fun v=>bO (Gs v fun n=>some (.int .i64 n)) (Mm fun n=>some (zR n))
def U8:List NV→Option NR:=onV (Mm fun n=>iB (MW n) (some (zR n)) none)
def UY:List NV→Option NR:=onL fun n x=>iB (inF (sI n x)) (some (.val (.tuple #[.agg ⟨vf 8 (Qj (sI n x)) []⟩,.int .i64 0]))) (some (.val (.tuple #[.agg ⟨vf 8 0 []⟩,.int .i64 6])))
def UX:List NV→Option NR:=onL fun n x=>some (.long (iB n false (Nat.ble 1 x)) x)
def UZ:List NV→Option NR:=onL fun n x=>some (SW (sI n x))
def U3:List NV→Option NR:=Ml fun n x m y=>some (zR (Int.add (sI n x) (sI m y)))
def Qk:List NV→Option NR:=Ml fun n x m y=>some (zR (Int.sub (sI n x) (sI m y)))
def Qg:List NV→Option NR:=Ml fun n x m y=>some (zR (Int.mul (sI n x) (sI m y)))
def Zbc:List NV→Option NR:=Ml fun n x m y=>some (SW (Int.sub (sI n x) (sI m y)))
def Lc:List NV→Option NR:=Ml fun _ x _ y=>some (.long false (Nat.gcd x y))
def Qh:List NV→Option NR:=Ml fun n x m y=>iB (Nat.beq y 0) none (some (Vl (Int.ediv (sI n x) (sI m y)) (Int.emod (sI n x) (sI m y))))
end
end Go.Id

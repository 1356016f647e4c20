/-
  The ideal machine: functions on numbers of any length that are not evaluated by their text. A number's words lie in a block of their own that nobody writes; the call is carried out on a memory that has no more than the words of its arguments. The ideal machine: functions that give numbers of any length.
-/
import Derived.Test.YtjhnilfelokpcaaGreatOutlierPathsBb
import Derived.Test.YtjhnilfelokpcaaGreatOutlierPathsAn
import Derived.Test.YtjhnilfelokpcaaGreatOutlierPathsAq
import Derived.Test.YtjhnilfelokpcaaGreatOutlierPathsBc
import Derived.Test.YtjhnilfelokpcaaGreatOutlierPathsAz
set_option linter.unusedVariables false
set_option linter.unusedSimpArgs false
set_option linter.defProp false
set_option linter.deprecated false
namespace Go.Id
open Go Go.RowKit
def gf (x:Nat):Nat:=(qE x).length
def my (b x:Nat):Value:=.slice (some ⟨b,0,some 0⟩) (gf x) 0
theorem jM:qE 0 = []:=by rw[qE];simp
theorem fV {x:Nat}:gf x=0↔x=0:=by
 unfold gf
 constructor
 ·intro h
  rw[qE] at h
  split at h
  ·assumption
  ·simp at h
 ·rintro rfl;rw[jM];rfl
theorem iS (x:Nat):(fG x).length=gf x:=by simp[fG,gf]
theorem CA:fG 0 = []:=by unfold fG;rw[jM];rfl
def fI (xs:List Nat) (b:Nat):Option (List Value):=match xs[b - 4294967296]? with
 | some x=>if 4294967296≤b∧x≠0 then some (fG x) else none
 | none=>none
def Ax (xs:List Nat) (i:Nat) (u:Value):Prop:=∃x,xs[i]?=some x∧((x=0∧(u=.slice none 0 0∨u=.slice (some ⟨0,0,none⟩) 0 0))∨(x≠0 ∧ ∃cap,gf x≤cap∧u=.slice (some ⟨2*(4294967296+i)+1,0,none⟩) (gf x) (2*cap+1)))
def Yx (mk:List Value→Value) (n:Nat):Prop:=∀(m:Mp) (ss:List Value) (v':Value),ss.length=n→aC m (mk ss) v' → ∃ss',bz m ss ss' ∧ ∀(m2:Mp) (us:List Value),bz m2 us ss'→aC m2 (mk us) v'
def KS (mk:List Value→List Value) (n:Nat):Prop:=∀(m:Mp) (ss vs':List Value),ss.length=n→bz m (mk ss) vs' → ∃ss',bz m ss ss' ∧ ∀(m2:Mp) (us:List Value),bz m2 us ss'→bz m2 (mk us) vs'
theorem aC.Jd {m:Mp} {b n:Nat} {v':Value} (h:aC m (.slice (some ⟨b,0,some 0⟩) n 0) v') : ∃a cap,v'=.slice a n cap∧n≤cap∧((n=0∧(a=none→cap=0)) ∨ ∃r s,m b=some (r,s)∧a=some ⟨r,s,none⟩):=by
 cases h with
 | bJ h=>simp[Id.bJ] at h
 | tok hc h=>exact⟨_,_,rfl,hc,h⟩
def Ns (h:IH) (bs xs:List Nat):Prop:=bs.length=xs.length ∧ ∀(i b x:Nat),bs[i]?=some b→xs[i]?=some x→b % 2=0∧h.ext.get (b / 2)=some (.num x)
def iG:List Nat→List Nat→List Value
 | b :: bs,x :: xs=>my b x :: iG bs xs
 | _,_ => []
theorem oD : ∀(bs xs:List Nat) (i b x:Nat),bs[i]?=some b→xs[i]?=some x→(iG bs xs)[i]?=some (my b x)
 | [],_,_,_,_,h,_=>by simp at h
 | _ :: _,[],_,_,_,_,h=>by simp at h
 | b :: bs,x :: xs,0,b',x',h1,h2=>by simp at h1 h2;subst h1;subst h2;rfl
 | b :: bs,x :: xs,i+1,b',x',h1,h2=>by
  simp at h1 h2
  exact oD bs xs i b' x' h1 h2
theorem oC : ∀(bs xs:List Nat),bs.length=xs.length→(iG bs xs).length=xs.length
 | [],[],_=>rfl
 | [],_ :: _,h=>by simp at h
 | _ :: _,[],h=>by simp at h
 | b :: bs,x :: xs,h=>by
  show(iG bs xs).length+1=xs.length+1
  rw[oC bs xs (by simpa using h)]
theorem Rel.rC {B:Nat} {w0:World} {m:Mp} {h:IH} {w:World} (R:Rel B w0 m h w) {bs xs:List Nat} (T:Ns h bs xs) {ss':List Value} (hs:bz m (iG bs xs) ss') :
  ∃m2:Mp,(∀k,m2 (2*k)=none)∧(∀(i b x:Nat),bs[i]?=some b→xs[i]?=some x→x≠0→m2 (2*(4294967296+i)+1)=m b)∧Rel w.heap.size w m2 (IH.start (fI xs)) w ∧ ∃us,us.length=xs.length∧bz m2 us ss' ∧ ∀(i:Nat) (u:Value),us[i]?=some u→Ax xs i u:=by
 have loc : ∀(i b x:Nat),bs[i]?=some b→xs[i]?=some x→x≠0 → ∃r s c el,m b=some (r,s)∧r<w.heap.size∧w.heap[r]?=some (.cells c el)∧mX m (fG x) c s:=by
  intro i b x hb hx x0
  obtain⟨v',h1,h2⟩:=hs.get (oD bs xs i b x hb hx)
  obtain⟨a,cap,rfl,hc,⟨e,_⟩|⟨r,s,hm,rfl⟩⟩:=h2.Jd
  ·exact absurd (fV.1 e) x0
  ·obtain⟨t1,t2⟩:=T.2 i b x hb hx
   have hm2:m (2*(b / 2))=some (r,s):=by rw[show 2*(b / 2)=b from by omega];exact hm
   rcases R.obj (b / 2) _ r s t2 hm2 with h3|⟨c,el,h3,h4⟩
   ·exact absurd h3 x0
   ·exact⟨r,s,c,el,hm,(R.even _ r s hm2).2,h3,h4⟩
 refine⟨⟨fun j=>if j % 2=0 then none else if j / 2<4294967296 then m j else match bs[j / 2 - 4294967296]? with|some b=>m b|none=>none,m.ez⟩,fun k=>?_,fun i b x hb hx x0=>?_,?_,?_⟩
 ·show(if 2*k % 2=0 then none else _)=none
  rw[if_pos (by omega)]
 ·show(if (2*(4294967296+i)+1) % 2=0 then none else if (2*(4294967296+i)+1) / 2<4294967296 then m (2*(4294967296+i)+1) else match bs[(2*(4294967296+i)+1) / 2 - 4294967296]? with|some b=>m b|none=>none)=m b
  rw[if_neg (by omega),if_neg (by omega),show(2*(4294967296+i)+1) / 2 - 4294967296=i from by omega,hb]
 ·have leaf : ∀{α:Type} (k:Nat),(Tr.leaf:Tr α).get k=none:=fun k=>rfl
  have even : ∀k x,(⟨fun j=>if j % 2=0 then none else if j / 2<4294967296 then m j else match bs[j / 2 - 4294967296]? with|some b=>m b|none=>none,m.ez⟩:Mp) (2*k)=some x→False:=by
   intro k x h
   have h1:(if 2*k % 2=0 then none else _)=some x:=h
   rw[if_pos (by omega)] at h1;cases h1
  refine⟨Below.refl _ _,Nat.le_refl _,?_,fun b hb=>?_,?_,fun k _=>leaf k,?_,?_,?_,?_,?_,?_⟩
  ·intro b cs hcs
   have hcs:fI xs b=some cs:=hcs
   unfold fI at hcs
   split at hcs
   case h_2=>cases hcs
   rename_i x hx
   split at hcs
   case isFalse=>cases hcs
   rename_i hb
   cases hcs
   have hi:b - 4294967296<bs.length:=by rw[T.1];exact(List.getElem?_eq_some_iff.1 hx).1
   obtain⟨b',hb'⟩ : ∃b',bs[b - 4294967296]?=some b':=⟨_,List.getElem?_eq_getElem hi⟩
   obtain⟨r,s,c,el,h1,h2,h3,h4⟩:=loc _ b' x hb' hx hb.2
   refine⟨r,s,?_,h2,c,el,_,h3,h4.1,fun i v hv=>?_⟩
   ·show(if (2*b+1) % 2=0 then none else if (2*b+1) / 2<4294967296 then m (2*b+1) else match bs[(2*b+1) / 2 - 4294967296]? with|some b=>m b|none=>none)=some (r,s)
    rw[if_neg (by omega),if_neg (by omega),show(2*b+1) / 2 - 4294967296=b - 4294967296 from by omega,hb']
    exact h1
   ·obtain⟨v',a,e⟩:=h4.2 i v hv
    unfold fG at hv
    rw[List.getElem?_map] at hv
    obtain⟨d,_,rfl⟩:=Option.map_eq_some_iff.1 hv
    exact⟨v',a,by rw[e.ct rfl];exact .bJ rfl⟩
  ·show(if (2*b+1) % 2=0 then none else if (2*b+1) / 2<4294967296 then m (2*b+1) else _)=some (b,0)
   rw[if_neg (by omega),if_pos (by omega)]
   exact R.odd b hb
  ·intro k r s h;exact(even _ _ h).elim
  ·intro k o r s h;cases h
  ·intro k k' o o' r s s' _ h;cases h
  ·intro f st h;cases h
  ·intro k cs t f h;cases h
  ·intro f st h;cases h
  ·intro f st x y h;cases h
 ·-- the arguments
  obtain⟨m2,hm2⟩ : ∃m2:Mp,m2=⟨fun j=>if j % 2=0 then none else if j / 2<4294967296 then m j else match bs[j / 2 - 4294967296]? with|some b=>m b|none=>none,m.ez⟩:=⟨_,rfl⟩
  rw[←hm2]
  have at2 : ∀(i b:Nat),bs[i]?=some b→m2 (2*(4294967296+i)+1)=m b:=by
   intro i b hb
   rw[hm2]
   show(if (2*(4294967296+i)+1) % 2=0 then none else if (2*(4294967296+i)+1) / 2<4294967296 then m (2*(4294967296+i)+1) else match bs[(2*(4294967296+i)+1) / 2 - 4294967296]? with|some b=>m b|none=>none)=m b
   rw[if_neg (by omega),if_neg (by omega),show(2*(4294967296+i)+1) / 2 - 4294967296=i from by omega,hb]
  have lt:=oC bs xs T.1
  have ex : ∀i,i<xs.length → ∃u s',ss'[i]?=some s'∧aC m2 u s'∧Ax xs i u:=by
   intro i hi
   obtain⟨x,hx⟩ : ∃x,xs[i]?=some x:=⟨_,List.getElem?_eq_getElem hi⟩
   obtain⟨b,hb⟩ : ∃b,bs[i]?=some b:=⟨_,List.getElem?_eq_getElem (by rw[T.1];exact hi)⟩
   obtain⟨v',h1,h2⟩:=hs.get (oD bs xs i b x hb hx)
   obtain⟨a,cap,rfl,hc,mR⟩:=h2.Jd
   by_cases x0:x=0
   ·subst x0
    have w0:gf 0=0:=fV.2 rfl
    rw[w0] at h1 h2 hc mR
    cases a with
    | none =>
     have c0:cap=0:=by
      rcases mR with⟨_,h3⟩|⟨_,_,_,h3⟩
      ·exact h3 rfl
      ·cases h3
     subst c0
     exact⟨.slice none 0 0,_,h1,.bJ rfl,0,hx,.inl ⟨rfl,.inl rfl⟩⟩
    | some a=>exact⟨.slice (some ⟨0,0,none⟩) 0 0,_,h1,.lost,0,hx,.inl ⟨rfl,.inr rfl⟩⟩
   ·rcases mR with⟨e,_⟩|⟨r,s,hm,rfl⟩
    ·exact absurd (fV.1 e) x0
    ·refine⟨.slice (some ⟨2*(4294967296+i)+1,0,none⟩) (gf x) (2*cap+1),_,h1,?_,x,hx,.inr ⟨x0,cap,hc,rfl⟩⟩
     have:=aC.slice (m:=m2) (b:=2*(4294967296+i)+1) (o:=0) (r:=r) (s:=s) (len:=gf x) (k:=2*cap+1) (cap:=cap) ((at2 i b hb).trans hm) (by omega) (by omega) (by omega) (fun _=>by omega) (fun h9=>by omega)
     exact this
  have key:=fun i (hi:i<xs.length)=>(ex i hi)
  refine⟨(List.range xs.length).map fun i=>if hi:i<xs.length then Classical.choose (ex i hi) else .slice none 0 0,by simp,⟨by rw[List.length_map,List.length_range,←hs.1,lt],fun i v v' hv hv'=>?_⟩,fun i u hu=>?_⟩
  ·rw[List.getElem?_map] at hv
   obtain⟨j,hj,rfl⟩:=Option.map_eq_some_iff.1 hv
   obtain⟨hj1,hj2⟩:=List.getElem?_eq_some_iff.1 hj
   rw[List.length_range] at hj1
   rw[List.getElem_range] at hj2
   subst hj2
   rw[dif_pos hj1]
   obtain⟨s',e1,e2,_⟩:=Classical.choose_spec (ex i hj1)
   rw[hv'] at e1;cases e1
   exact e2
  ·rw[List.getElem?_map] at hu
   obtain⟨j,hj,rfl⟩:=Option.map_eq_some_iff.1 hu
   obtain⟨hj1,hj2⟩:=List.getElem?_eq_some_iff.1 hj
   rw[List.length_range] at hj1
   rw[List.getElem_range] at hj2
   subst hj2
   rw[dif_pos hj1]
   obtain⟨s',_,_,e3⟩:=Classical.choose_spec (ex i hj1)
   exact e3
def fZ (h:IH):List Nat→IH
 | []=>h
 | y :: ys=>fZ (h.new (.num y)) ys
theorem ru : ∀(ys:List Nat) (h:IH),(fZ h ys).n=h.n+ys.length
 | [],h=>rfl
 | y :: ys,h=>by
  show(fZ (h.new (.num y)) ys).n=_
  rw[ru ys]
  show h.n+1+ys.length=h.n+(ys.length+1)
  omega
theorem dL : ∀(ys:List Nat) (h:IH),(fZ h ys).base=h.base∧(fZ h ys).bQ=h.bQ
 | [],h=>⟨rfl,rfl⟩
 | y :: ys,h=>dL ys (h.new (.num y))
theorem kF : ∀(ys:List Nat) (h:IH) (k:Nat),(fZ h ys).ext.get k=if h.n≤k∧k<h.n+ys.length then (ys[k - h.n]?).map .num else h.ext.get k
 | [],h,k=>by rw[if_neg (by simp)];rfl
 | y :: ys,h,k=>by
  show(fZ (h.new (.num y)) ys).ext.get k=_
  rw[kF ys]
  have n1:(h.new (.num y)).n=h.n+1:=rfl
  have g1:(h.new (.num y)).ext.get k=if k=h.n then some (.num y) else h.ext.get k:=by
   show(h.ext.set h.n _).get k=_
   rw[Tr.bA]
  rw[n1,g1,List.length_cons]
  by_cases c:h.n+1≤k∧k<h.n+1+ys.length
  ·rw[if_pos c,if_pos ⟨by omega,by omega⟩,show k - h.n=(k - (h.n+1))+1 from by omega,List.getElem?_cons_succ]
  ·rw[if_neg c]
   by_cases e:k=h.n
   ·rw[if_pos e,if_pos ⟨by omega,by omega⟩,e,Nat.sub_self];rfl
   ·rw[if_neg e,if_neg (by omega)]
theorem BH {P:Program} (S:Sound (E0 P)) {B:Nat} {w0:World} {m:Mp} {h:IH} {w:World} (R:Rel B w0 m h w) {bs xs:List Nat} (T:Ns h bs xs) {mk:List Value→List Value} (par:KS mk xs.length) {args':Array Value} (ha:bz m (mk (iG bs xs)) args'.toList)
  {f:FuncId} (hb : ∃fn,P.funcs[f]?=some fn∧fn.body.isSome=true) {K:Value→IH→Prop} (hw : ∀us,us.length=xs.length→(∀(i:Nat) (u:Value),us[i]?=some u→Ax xs i u)→WV P (.func (.func f) #[] #[]) (mk us) (IH.start (fI xs)) K) :
  ∃m2:Mp,(∀k,m2 (2*k)=none)∧(∀(i b x:Nat),bs[i]?=some b→xs[i]?=some x→x≠0→m2 (2*(4294967296+i)+1)=m b) ∧ ∃r h2,K r h2∧j5 P f args' w.heap.size w m2 (IH.start (fI xs)) w r h2:=by
 obtain⟨ss',h1,h2⟩:=par m (iG bs xs) args'.toList (oC bs xs T.1) ha
 obtain⟨m2,e1,e2,R2,us,e3,e4,e5⟩:=R.rC T h1
 obtain⟨⟨r,hh⟩,⟨N,hN⟩,hK⟩:=hw us e3 e5
 refine⟨m2,e1,e2,r,hh,hK,?_⟩
 have hc:cb (E0 P) (N+1) (.func (.func f) #[] #[]) (mk us) (IH.start (fI xs))=some (r,hh):=hN (N+1) (by omega)
 unfold cb at hc
 obtain⟨fn,hfn,hb⟩:=hb
 rcases tv S (oj S N) (gL S N) hc R2 (args':=args') (by simpa using h2 m2 us e4) (fun k _ _=>e1 k) with⟨_,k⟩|⟨fn',k1,k2,_⟩
 ·exact k
 ·have k3:P.funcs[f]?=some fn':=k1
  rw[hfn] at k3;cases k3
  rw[k2] at hb;cases hb
theorem Rel.V9 {B:Nat} {w0:World} {m m':Mp} {h h':IH} {w w':World} (R:Rel B w0 m h w) (R':Rel w.heap.size w m' h' w'):Rel B w0 m h w'∧Step m h w m h w':=by
 have same : ∀r,r<w.heap.size→w'.heap[r]?=w.heap[r]?:=fun r hr=>R'.below.block r hr
 refine⟨⟨R.below.trans (R'.below.mono R.size),Nat.le_trans R.size R'.size,fun b cs hb=>?_,R.odd,fun k r s hk=>?_,R.dom,fun k o r s hk hm=>?_,R.own,R.de,R.fam,R.long,R.whole⟩,
  ⟨Mp.le_refl m,fun b hb=>absurd rfl hb,Nat.le_refl _,rfl,fun r hr _=>same r hr,fun _ _ _=>rfl,R'.size,fun k r s h1 h2=>by omega,fun _ _ _ hh=>hh⟩⟩
 ·obtain⟨r,s,h1,h2,c,el,fz,h3,h4⟩:=R.base b cs hb
  exact⟨r,s,h1,h2,c,el,fz,by rw[same r (by have:=R.size;omega)];exact h3,h4⟩
 ·have:=R.even k r s hk
  have:=R'.size
  exact⟨by omega,by omega⟩
 ·exact(R.obj k o r s hk hm).same (same r (R.even k r s hm).2)
theorem Ml {P:Program} (S:Sound (E0 P)) {B:Nat} {w0:World} {m:Mp} {h:IH} {w:World} (R:Rel B w0 m h w) {bs xs:List Nat} (T:Ns h bs xs) {mk:List Value→List Value} (par:KS mk xs.length) {args':Array Value} (ha:bz m (mk (iG bs xs)) args'.toList)
  {f:FuncId} (hb : ∃fn,P.funcs[f]?=some fn∧fn.body.isSome=true) {v:Value} (hv:lY v=true) (hw : ∀us,us.length=xs.length→(∀(i:Nat) (u:Value),us[i]?=some u→Ax xs i u)→WV P (.func (.func f) #[] #[]) (mk us) (IH.start (fI xs)) fun r _=>r=v):j5 P f args' B w0 m h w v h:=by
 obtain⟨m2,_,_,r,hh,rfl,key⟩:=BH S R T par ha hb hw
 refine key.mono fun e' w' ⟨v',m',he,hvr,R',S'⟩=>?_
 obtain⟨R2,S2⟩:=R.V9 R'
 exact⟨v',m,he,by rw[hvr.BC hv];exact .BB hv,R2,S2⟩
def uV (h:IH) (u:Value) (y:Nat):Prop:=bI h 1 u (gf y) (fG y)
def BJ (n k:Nat):List Nat:=(List.range k).map fun j=>2*(n+j)
theorem Mr {n k j:Nat} (h:j<k):(BJ n k)[j]?=some (2*(n+j)):=by unfold BJ;rw[List.getElem?_map,List.getElem?_range h];rfl
theorem Mq (n k:Nat):(BJ n k).length=k:=by simp[BJ]
structure DZ (m:Mp) (w w':World) (bs xs:List Nat) (y:Nat) (r s:Nat):Prop where
 lt:r<w'.heap.size
 row : ∃c el,w'.heap[r]?=some (.cells c el)∧mX m (fG y) c s
 src:w.heap.size≤r ∨ ∃(i b x s0:Nat),bs[i]?=some b∧xs[i]?=some x∧m b=some (r,s0)
theorem EX {m m':Mp} {row ws:List Value} {c:Array Value} {q o:Nat} (hr:mX m' row c q) (hw:(row.drop o).take ws.length=ws) (hle:o+ws.length≤row.length) (hs : ∀v∈ws,bJ v=true):mX m ws c (q+o):=by
 refine⟨by have:=hr.1;omega,fun i v hv=>?_⟩
 have hi:=(List.getElem?_eq_some_iff.1 hv).1
 have hv2:row[o+i]?=some v:=by
  rw[←hw,List.getElem?_take_of_lt hi,List.getElem?_drop] at hv
  exact hv
 obtain⟨v',a,b⟩:=hr.2 _ v hv2
 have sc:=hs v (List.mem_of_getElem? hv)
 exact⟨v',by rw[Nat.add_assoc];exact a,by rw[b.ct sc];exact .bJ sc⟩
theorem yq (x:Nat) : ∀v∈fG x,bJ v=true:=by
 intro v hv
 obtain⟨d,_,rfl⟩:=List.mem_map.1 hv
 rfl
theorem Se {B:Nat} {w0:World} {m m2 m':Mp} {h h2:IH} {w w':World} (R:Rel B w0 m h w) {bs xs:List Nat} (T:Ns h bs xs) (mA : ∀(i b x:Nat),bs[i]?=some b→xs[i]?=some x→x≠0→m2 (2*(4294967296+i)+1)=m b)
  (R':Rel w.heap.size w m' h2 w') (S':Step m2 (IH.start (fI xs)) w m' h2 w') {u u':Value} {y:Nat} (hu:uV h2 u y) (hv:aC m' u u') :
  ∃a cap,u'=.slice a (gf y) cap∧gf y≤cap∧((y=0∧(a=none→cap=0))∨(y≠0 ∧ ∃r s,a=some ⟨r,s,none⟩∧DZ m w w' bs xs y r s)):=by
 obtain⟨_,hl,⟨rfl,n0⟩|⟨b,o,k,rfl,⟨n0,k0⟩|⟨k0,hn,row,hb,fJ,htk,hle⟩⟩⟩:=hu
 ·obtain⟨_,_,rfl⟩:=hv.kU
  exact⟨none,0,by rw[n0],by omega,.inl ⟨fV.1 n0,fun _=>rfl⟩⟩
 ·subst k0
  rcases hv.dA with⟨r,s,cap,_,h0,_⟩|⟨_,_,a,cap,rfl⟩
  ·omega
  ·exact⟨some a,cap,by rw[n0],by omega,.inl ⟨fV.1 n0,fun h=>by cases h⟩⟩
 ·rcases hv.dA with⟨r,q,cap,hm,_,_,mB,_,_,rfl⟩|⟨_,e,_⟩
  ·refine⟨_,cap,rfl,by omega,?_⟩
   by_cases y0:y=0
   ·exact .inl ⟨y0,fun h=>by cases h⟩
   ·refine .inr ⟨y0,r,q+o,rfl,?_⟩
    have W7:(row.drop o).take (fG y).length=fG y:=by rw[iS];rw[Nat.mul_one] at htk;exact htk
    have PR:o+(fG y).length≤row.length:=by rw[iS];omega
    by_cases bo:b % 2=1
    ·have hr2:h2.base (b / 2)=some row:=by
      unfold IH.row at fJ
      simpa [bo] using fJ
     rw[S'.base] at hr2
     have hr2:fI xs (b / 2)=some row:=hr2
     unfold fI at hr2
     split at hr2
     case h_2=>cases hr2
     rename_i x hx
     split at hr2
     case isFalse=>cases hr2
     rename_i SL
     cases hr2
     obtain⟨b',hb'⟩ : ∃b',bs[b / 2 - 4294967296]?=some b':=⟨_,List.getElem?_eq_getElem (by rw[T.1];exact(List.getElem?_eq_some_iff.1 hx).1)⟩
     have e1:=mA _ b' x hb' hx SL.2
     rw[show 2*(4294967296+(b / 2 - 4294967296))+1=b from by omega] at e1
     have e2:m' b=m2 b:=Classical.byContradiction fun hne=>by
      obtain⟨k9,e9,_⟩:=S'.new b hne
      omega
     have hmb:m b'=some (r,q):=by rw[←e1,←e2];exact hm
     obtain⟨t1,t2⟩:=T.2 _ b' x hb' hx
     have Xn:m (2*(b' / 2))=some (r,q):=by rw[show 2*(b' / 2)=b' from by omega];exact hmb
     have hev:=R.even _ r q Xn
     rcases R.obj (b' / 2) _ r q t2 Xn with h3|⟨c,el,h3,h4⟩
     ·exact absurd h3 SL.2
     ·have same:w'.heap[r]?=w.heap[r]?:=R'.below.block r hev.2
      exact⟨by have:=R'.size;omega,⟨c,el,by rw[same];exact h3,EX h4 W7 PR (yq y)⟩,.inr ⟨_,b',x,q,hb',hx,hmb⟩⟩
    ·rcases hb with hb|⟨hb,hlt,f,hg⟩
     ·omega
     ·have hm2:m' (2*(b / 2))=some (r,q):=by rw[show 2*(b / 2)=b from by omega];exact hm
      obtain⟨c,el,hc,hrw,_⟩:=R'.obj (b / 2) _ r q hg hm2
      have hr2:h2.row b=some row:=fJ
      have hev:=R'.even _ r q hm2
      refine⟨hev.2,⟨c,el,hc,EX hrw W7 PR (yq y)⟩,.inl ?_⟩
      rcases S'.img (b / 2) r q (Nat.zero_le _) (by omega) hm2 with h3|⟨k9,_,h9,_⟩
      ·exact h3
      ·exact absurd h9 (Nat.not_lt_zero _)
  ·omega
end Go.Id

namespace Go.Id
open Go Go.RowKit
theorem Pe {P:Program} (S:Sound (E0 P)) {B:Nat} {w0:World} {m:Mp} {h:IH} {w:World} (R:Rel B w0 m h w) {bs xs:List Nat} (T:Ns h bs xs) {mk:List Value→List Value} (par:KS mk xs.length) {args':Array Value} (ha:bz m (mk (iG bs xs)) args'.toList)
  {f:FuncId} (hb : ∃fn,P.funcs[f]?=some fn∧fn.body.isSome=true) {ys:List Nat} {mkR:List Value→Value} (Za:Yx mkR ys.length)
  (hw : ∀us,us.length=xs.length→(∀(i:Nat) (u:Value),us[i]?=some u→Ax xs i u)→WV P (.func (.func f) #[] #[]) (mk us) (IH.start (fI xs)) fun r h2 => ∃ss,ss.length=ys.length∧r=mkR ss ∧ ∀(j:Nat) (y:Nat) (s:Value),ys[j]?=some y→ss[j]?=some s→uV h2 s y)
  (fr:dX m h.n (h.n+ys.length)):j5 P f args' B w0 m h w (mkR (iG (BJ h.n ys.length) ys)) (fZ h ys):=by
 obtain⟨m2,even2,Zc,r,h2,⟨ss,ls,rfl,hss⟩,key⟩:=BH S R T par ha hb hw
 refine key.mono fun e' w' ⟨v',m',he,hvr,R',S'⟩=>?_
 obtain⟨ss',l1,l2⟩:=Za m' ss v' ls hvr
 have ls':ss'.length=ys.length:=by rw[←l1.1,ls]
 have same : ∀r,r<w.heap.size→w'.heap[r]?=w.heap[r]?:=fun r hr=>R'.below.block r hr
 have loc : ∀(j y:Nat),ys[j]?=some y → ∃a cap,ss'[j]?=some (.slice a (gf y) cap)∧gf y≤cap∧((y=0∧(a=none→cap=0))∨(y≠0 ∧ ∃r s,a=some ⟨r,s,none⟩∧DZ m w w' bs xs y r s)):=by
  intro j y hy
  have hj:=(List.getElem?_eq_some_iff.1 hy).1
  obtain⟨s,hs⟩ : ∃s,ss[j]?=some s:=⟨_,List.getElem?_eq_getElem (by omega)⟩
  obtain⟨s',h1,h3⟩:=l1.get hs
  obtain⟨a,cap,rfl,q1,q2⟩:=Se R T Zc R' S' (hss j y s hy hs) h3
  exact⟨a,cap,h1,q1,q2⟩
 obtain⟨lf,hlf⟩ : ∃lf:Nat→Option (Nat×Nat),∀j,lf j=match ys[j]?,ss'[j]? with|some y,some (.slice (some ⟨r,s,none⟩) _ _)=>if y=0 then none else some (r,s)|_,_=>none:=⟨_,fun _=>rfl⟩
 have xX : ∀j r s,lf j=some (r,s) → ∃y,ys[j]?=some y∧y≠0∧DZ m w w' bs xs y r s:=by
  intro j r s hj
  rw[hlf] at hj
  cases hy:ys[j]? with
  | none=>simp[hy] at hj
  | some y =>
   obtain⟨a,cap,h1,_,h3⟩:=loc j y hy
   rw[hy,h1] at hj
   rcases h3 with⟨rfl,_⟩|⟨y0,r',s',rfl,hl⟩
   ·exfalso
    cases a with
    | none=>simp at hj
    | some a =>
     obtain⟨a1,a2,a3⟩:=a
     cases a3<;>simp at hj
   ·simp only[if_neg y0] at hj
    cases hj
    exact⟨y,rfl,y0,hl⟩
 have WN : ∀j y r s cap,ys[j]?=some y→y≠0→ss'[j]?=some (.slice (some ⟨r,s,none⟩) (gf y) cap)→lf j=some (r,s):=by
  intro j y r s cap hy y0 hs
  rw[hlf,hy,hs]
  exact if_neg y0
 obtain⟨m3,hm3⟩ : ∃m3:Mp,m3=⟨fun b=>if b % 2=0∧h.n≤b / 2∧b / 2<h.n+ys.length then lf (b / 2 - h.n) else m b,m.ez⟩:=⟨_,rfl⟩
 have FK : ∀b,¬(b % 2=0∧h.n≤b / 2∧b / 2<h.n+ys.length)→m3 b=m b:=by
  intro b hb;rw[hm3];exact if_neg hb
 have BM : ∀j,j<ys.length→m3 (2*(h.n+j))=lf j:=by
  intro j hj
  rw[hm3]
  show(if 2*(h.n+j) % 2=0∧h.n≤2*(h.n+j) / 2∧2*(h.n+j) / 2<h.n+ys.length then lf (2*(h.n+j) / 2 - h.n) else m (2*(h.n+j)))=lf j
  rw[if_pos ⟨by omega,by omega,by omega⟩,show 2*(h.n+j) / 2 - h.n=j from by omega]
 have ez3:m3.ez=m.ez:=by rw[hm3]
 have le3:m.le m3:=by
  intro b x hb
  refine⟨?_,by rw[ez3]⟩
  rw[FK b ?_];exact hb
  rintro⟨h1,h2',h3⟩
  have:=fr (b / 2) h2' h3
  rw[show 2*(b / 2)=b from by omega,hb] at this;cases this
 have nn:(fZ h ys).n=h.n+ys.length:=ru ys h
 have gnew : ∀j y,ys[j]?=some y→(fZ h ys).ext.get (h.n+j)=some (.num y):=by
  intro j y hy
  have hj:=(List.getElem?_eq_some_iff.1 hy).1
  rw[kF,if_pos ⟨by omega,by omega⟩,show h.n+j - h.n=j from by omega,hy];rfl
 have zO : ∀k,k<h.n→(fZ h ys).ext.get k=h.ext.get k:=fun k hk=>by rw[kF,if_neg (by omega)]
 have zH : ∀k o,(fZ h ys).ext.get k=some o→k<h.n ∨ ∃j y,k=h.n+j∧ys[j]?=some y∧o=.num y:=by
  intro k o hk
  rcases Nat.lt_or_ge k h.n with h1|h1
  ·exact .inl h1
  ·right
   rw[kF] at hk
   by_cases c:h.n≤k∧k<h.n+ys.length
   ·rw[if_pos c] at hk
    obtain⟨y,hy,rfl⟩:=Option.map_eq_some_iff.1 hk
    exact⟨k - h.n,y,by omega,hy,rfl⟩
   ·rw[if_neg c,R.dom k h1] at hk;cases hk
 have De : ∀k,k<h.n→m3 (2*k)=m (2*k):=fun k hk=>FK _ (by rintro⟨_,h2',_⟩;omega)
 have Zb : ∀k o,h.ext.get k=some o→k<h.n:=by
  intro k o hk
  rcases Nat.lt_or_ge k h.n with e|e
  ·exact e
  ·rw[R.dom k e] at hk;cases hk
 have YT : ∀y r s,DZ m w w' bs xs y r s→B≤r∧r<w'.heap.size:=by
  intro y r s hl
  refine⟨?_,hl.lt⟩
  rcases hl.src with h1|⟨i,b,x,s0,hb1,hx1,hm1⟩
  ·have:=R.size;omega
  ·obtain⟨t1,t2⟩:=T.2 i b x hb1 hx1
   exact(R.even (b / 2) r s0 (by rw[show 2*(b / 2)=b from by omega];exact hm1)).1
 refine⟨v',m3,he,l2 m3 _ ?_,⟨R.below.trans (R'.below.mono R.size),Nat.le_trans R.size R'.size,?_,fun b hb=>?_,?_,?_,?_,?_,?_,?_,?_,?_⟩,⟨le3,?_,by rw[nn];omega,(dL ys h).1,fun r hr _=>same r hr,fun k hk _=>zO k hk,R'.size,?_,?_⟩⟩
 ·-- the value
  refine⟨by rw[oC _ _ (Mq _ _),ls'],fun j v x hv hx=>?_⟩
  have hj:j<ys.length:=by
   have:=(List.getElem?_eq_some_iff.1 hx).1
   omega
  obtain⟨y,hy⟩ : ∃y,ys[j]?=some y:=⟨_,List.getElem?_eq_getElem hj⟩
  rw[oD _ _ j _ y (Mr hj) hy] at hv
  cases hv
  obtain⟨a,cap,h1,h3,h4⟩:=loc j y hy
  rw[hx] at h1;cases h1
  refine .tok h3 ?_
  rcases h4 with⟨rfl,h5⟩|⟨y0,r,s,rfl,_⟩
  ·exact .inl ⟨fV.2 rfl,h5⟩
  ·exact .inr ⟨r,s,by rw[BM j hj];exact WN j y r s cap hy y0 hx,rfl⟩
 ·intro b cs hcs
  rw[(dL ys h).1] at hcs
  obtain⟨r,s,h1,h3,c,el,fz,h4,h5,h6⟩:=R.base b cs hcs
  exact⟨r,s,(le3 _ _ h1).1,h3,c,el,fz,by rw[same r (by have:=R.size;omega)];exact h4,h5,fun i v hv=>let ⟨v',a,e⟩:=h6 i v hv;⟨v',a,e.mono le3⟩⟩
 ·rw[FK _ (by rintro⟨h1,_⟩;omega)];exact R.odd b hb
 ·intro k r s hk
  by_cases c:h.n≤k∧k<h.n+ys.length
  ·have:=BM (k - h.n) (by omega)
   rw[show h.n+(k - h.n)=k from by omega,hk] at this
   obtain⟨y,_,_,hl⟩:=xX _ r s this.symm
   exact YT y r s hl
  ·rw[FK _ (by rintro⟨_,h2',h3⟩;exact c ⟨by omega,by omega⟩)] at hk
   have:=R.even k r s hk
   have:=R'.size
   exact⟨by omega,by omega⟩
 ·intro k hk
  rw[nn] at hk
  rw[kF,if_neg (by omega)]
  exact R.dom k (by omega)
 ·intro k o r s hk hm
  rcases zH k o hk with hkn|⟨j,y,rfl,hy,rfl⟩
  ·rw[zO k hkn] at hk
   rw[De k hkn] at hm
   exact(R.obj k o r s hk hm).mono le3 (same r (R.even k r s hm).2) (by rw[ez3])
  ·rw[BM j (List.getElem?_eq_some_iff.1 hy).1] at hm
   obtain⟨y',hy',y0,hl⟩:=xX _ r s hm
   rw[hy] at hy';cases hy'
   obtain⟨c,el,h1,h3,h4⟩:=hl.row
   exact .inr ⟨c,el,h1,h3,fun i v hv=>let ⟨v',a,e⟩:=h4 i v hv;⟨v',a,e.mono le3⟩⟩
 ·-- who shares memory
  have one : ∀j y k o r s s',ys[j]?=some y→k<h.n→h.ext.get k=some o→o.alive=true→lf j=some (r,s)→m (2*k)=some (r,s')→o.isNum=true:=by
   intro j y k o r s s' hy hkn hk ha hj hm
   obtain⟨y',_,_,hl⟩:=xX j r s hj
   rcases hl.src with h1|⟨i,b,x,s0,hb1,hx1,hm1⟩
   ·have:=(R.even k r s' hm).2;omega
   ·obtain⟨t1,t2⟩:=T.2 i b x hb1 hx1
    have hmb:m (2*(b / 2))=some (r,s0):=by rw[show 2*(b / 2)=b from by omega];exact hm1
    by_cases e:b / 2=k
    ·rw[e,hk] at t2;cases t2;rfl
    ·rcases R.own (b / 2) k _ o r s0 s' e t2 hk rfl ha hmb hm with⟨_,_,_,_,_,_,e1,_⟩|⟨_,e2⟩
     ·rw[t2] at e1;cases e1
     ·exact e2
  intro k k' o o' r s s' hne hk hk' ha ha' hm hm'
  rcases zH k o hk with hkn|⟨j,y,rfl,hy,rfl⟩
  ·rcases zH k' o' hk' with HZ|⟨j',y',rfl,hy',rfl⟩
   ·rw[zO k hkn] at hk
    rw[zO k' HZ] at hk'
    rw[De k hkn] at hm
    rw[De k' HZ] at hm'
    refine(R.own k k' o o' r s s' hne hk hk' ha ha' hm hm').imp (fun⟨c1,t1,c2,t2,f,st,e1,e2,e3,e4,e5⟩=>⟨c1,t1,c2,t2,f,st,?_,?_,?_,e4,e5⟩) id
    ·rw[zO k hkn];exact e1
    ·rw[zO k' HZ];exact e2
    ·rw[(dL ys h).2];exact e3
   ·rw[zO k hkn] at hk
    rw[De k hkn] at hm
    rw[BM j' (List.getElem?_eq_some_iff.1 hy').1] at hm'
    exact .inr ⟨one j' y' k o r s' s hy' hkn hk ha hm' hm,rfl⟩
  ·rcases zH k' o' hk' with HZ|⟨j',y',rfl,hy',rfl⟩
   ·rw[zO k' HZ] at hk'
    rw[De k' HZ] at hm'
    rw[BM j (List.getElem?_eq_some_iff.1 hy).1] at hm
    exact .inr ⟨rfl,one j y k' o' r s s' hy HZ hk' ha' hm hm'⟩
   ·exact .inr ⟨rfl,rfl⟩
 ·intro f st hf
  rw[(dL ys h).2] at hf
  obtain⟨a,b,c⟩:=R.de f st hf
  rw[nn]
  exact⟨by omega,fun x hx=>by have:=b x hx;omega,c⟩
 ·intro k cs t f hk
  rcases zH k _ hk with hkn|⟨j,y,_,_,e⟩
  ·rw[zO k hkn] at hk
   rw[(dL ys h).2]
   exact R.fam k cs t f hk
  ·cases e
 ·intro f st hf
  rw[(dL ys h).2] at hf
  refine(R.long f st hf).imp fun {x y} hxy=>?_
  intro cs t g cs' t' g' r s s' h1 h3 h4 h5
  have c1:x<h.n:=by
   rcases zH x _ h1 with h6|⟨_,_,_,_,e⟩
   ·exact h6
   ·cases e
  have c2:y<h.n:=by
   rcases zH y _ h3 with h6|⟨_,_,_,_,e⟩
   ·exact h6
   ·cases e
  rw[zO x c1] at h1
  rw[zO y c2] at h3
  rw[De x c1] at h4
  rw[De y c2] at h5
  exact hxy cs t g cs' t' g' r s s' h1 h3 h4 h5
 ·intro f st x y hf hx hy hs
  rw[(dL ys h).2] at hf
  have b:=(R.de f st hf).2.1
  rw[De x (b x hx)] at hs
  rw[De y (b y hy)]
  exact R.whole f st x y hf hx hy hs
 ·intro b hb
  refine⟨b / 2,?_⟩
  rw[nn]
  by_cases c:b % 2=0∧h.n≤b / 2∧b / 2<h.n+ys.length
  ·exact⟨by omega,c.2⟩
  ·exact absurd (FK b c) hb
 ·intro k r s h1 h3 h4
  rw[nn] at h3
  have:=BM (k - h.n) (by omega)
  rw[show h.n+(k - h.n)=k from by omega,h4] at this
  obtain⟨y,_,_,hl⟩:=xX _ r s this.symm
  rcases hl.src with h5|⟨i,b,x,s0,hb1,hx1,hm1⟩
  ·exact .inl h5
  ·obtain⟨t1,t2⟩:=T.2 i b x hb1 hx1
   exact .inr ⟨b / 2,s0,Zb _ _ t2,by rw[show 2*(b / 2)=b from by omega];exact hm1⟩
 ·intro k hk hm hn f st hf
  rw[(dL ys h).2] at hf
  exact hn f st hf
end Go.Id

namespace Go.Id
open Go
theorem lC {x:Nat} (h:x≠0):qE x=x % 18446744073709551616 :: qE (x / 18446744073709551616):=by
 rw[qE,dif_neg h]
theorem uH (x:Nat):B.au (qE x)=x:=by
 induction x using Nat.strongRecOn with
 | ind x ih =>
  by_cases h:x=0
  ·subst h;rw[jM];rfl
  ·rw[lC h,B.jD,ih _ (Nat.div_lt_self (by omega) (by decide))]
   exact Nat.mod_add_div x _
theorem vO (x:Nat):B.bH (qE x):=by
 induction x using Nat.strongRecOn with
 | ind x ih =>
  by_cases h:x=0
  ·subst h;rw[jM];intro d hd;cases hd
  ·rw[lC h]
   intro d hd
   rcases List.mem_cons.1 hd with rfl|hd
   ·exact Nat.mod_lt _ (by decide)
   ·exact ih _ (Nat.div_lt_self (by omega) (by decide)) d hd
theorem Cb (x:Nat):B.Norm (qE x):=by
 induction x using Nat.strongRecOn with
 | ind x ih =>
  by_cases h:x=0
  ·subst h;rw[jM];exact .inl rfl
  ·rw[lC h]
   right
   have ih:=ih _ (Nat.div_lt_self (by omega) (by decide:1<18446744073709551616))
   by_cases h2:x / 18446744073709551616=0
   ·rw[h2,jM]
    show x % 18446744073709551616≠0
    have:=Nat.mod_add_div x 18446744073709551616
    rw[h2] at this;omega
   ·rcases ih with e|e
    ·have:=uH (x / 18446744073709551616)
     rw[e] at this
     exact absurd this.symm h2
    ·have hl:0<(qE (x / 18446744073709551616)).length:=by
      rw[lC h2];simp
     rw[List.length_cons,show(qE (x / 18446744073709551616)).length+1 - 1=((qE (x / 18446744073709551616)).length - 1)+1 from by omega,List.getD_cons_succ]
     exact e
theorem Rx (x:Nat):x<18446744073709551616 ^ gf x:=by
 have:=B.iC (vO x)
 rwa [uH] at this
noncomputable def wlK (f:Nat):Nat→Nat:=Nat.rec (motive:=fun _=>Nat→Nat) (fun _=>0) (fun _ ih x=>Bool.rec (motive:=fun _=>Nat) (fN (Nat.div x 18446744073709551616) fun y=>Nat.succ (ih y)) 0 (Nat.beq x 0)) f
theorem K2 {x:Nat} (h:x≠0):gf x=gf (x / 18446744073709551616)+1:=by
 unfold gf
 rw[lC h,List.length_cons]
theorem NI : ∀(f x:Nat),x≤f→wlK f x=gf x
 | 0,x,h=>by
  obtain rfl:x=0:=by omega
  exact(fV.2 rfl).symm
 | f+1,x,h=>by
  show Bool.rec (motive:=fun _=>Nat) (fN (Nat.div x 18446744073709551616) fun y=>Nat.succ (wlK f y)) 0 (Nat.beq x 0)=_
  rw[dN]
  show Bool.rec (motive:=fun _=>Nat) (wlK f (x / 18446744073709551616)+1) 0 (Nat.beq x 0)=_
  by_cases hx:x=0
  ·subst hx
   exact(fV.2 rfl).symm
  ·have hlt:x / 18446744073709551616<x:=Nat.div_lt_self (by omega) (by decide)
   rw[NI f _ (by omega),K2 hx]
   cases hb:Nat.beq x 0 with
   | true=>exact absurd (Nat.beq_eq.mp hb) hx
   | false=>rfl
noncomputable def wk (x:Nat):Nat:=wlK x x
theorem Ef (x:Nat):wk x=gf x:=NI x x (Nat.le_refl x)
end Go.Id

namespace Go.Id
open Go
inductive NK where
 | val|long|rat
inductive NV where
 | val (v:Value)
 | long (n:Bool) (b x:Nat)
 | rat (n:Bool) (b x c y:Nat)
def sint (n:Bool) (x:Nat):Int:=if n=true then -(x:Int) else x
def ko (n:Bool) (x y:Nat):Rat:=Rat.divInt (sint n x) y
theorem il (n:Bool) (x:Nat):(sint n x).natAbs=x:=by unfold sint;split<;>omega
theorem EK {n:Bool} {x:Nat} (h:n=true→x≠0):decide (sint n x<0)=n:=by
 unfold sint
 cases n
 ·simp
 ·have:=h rfl
  simp;omega
theorem Uw {h:IH} {s:Value} {x:Nat} (w:Wrd h s x):uV h s x:=by
 obtain⟨ds,a,b,c⟩:=w
 obtain⟨a1,a2,a3⟩:=a
 have e:ds=qE x:=B.wO a2 (vO x) b (Cb x) (by rw[c,uH])
 subst e
 exact a1
theorem Hf {h:IH} {s:Value} {x:Nat} (w:uV h s x) (hl:gf x≤1100000):Wrd h s x:=⟨qE x,⟨w,vO x,hl⟩,Cb x,uH x⟩
theorem Pf {xs:List Nat} {i:Nat} {u:Value} {x:Nat} (h:Ax xs i u) (hx:xs[i]?=some x):uV (IH.start (fI xs)) u x:=by
 obtain⟨x',hx',h⟩:=h
 rw[hx] at hx';cases hx'
 rcases h with⟨rfl,rfl|rfl⟩|⟨x0,cap,hc,rfl⟩
 ·exact⟨by omega,by rw[iS,Nat.mul_one],.inl ⟨rfl,fV.2 rfl⟩⟩
 ·unfold uV
  rw[fV.2 rfl,CA]
  exact⟨by omega,rfl,.inr ⟨0,0,0,rfl,.inl ⟨rfl,rfl⟩⟩⟩
 ·refine⟨by omega,by rw[iS,Nat.mul_one],.inr ⟨_,_,_,rfl,.inr ⟨by omega,by omega,fG x,.inl ⟨by omega,by omega⟩,?_,?_,?_⟩⟩⟩
  ·unfold IH.row
   have e1:((2*(4294967296+i)+1) % 2 == 1)=true:=by simp
   rw[e1]
   show fI xs ((2*(4294967296+i)+1) / 2)=_
   unfold fI
   rw[show(2*(4294967296+i)+1) / 2 - 4294967296=i from by omega,hx]
   exact if_pos ⟨by omega,x0⟩
  ·rw[List.drop_zero,List.take_of_length_le (by rw[iS];omega)]
  ·rw[iS];omega
noncomputable section
def numOf (h:IH) (v:Value):Option (Nat×Nat):=match v with
 | .slice (some ⟨b,0,some 0⟩) l 0=>match tG h.ext (Nat.div b 2) with
  | some (.num x)=>iB (Nat.beq (Nat.mod b 2) 0) (iB (Nat.beq l (wk x)) (iB (Nat.ble l 64) (some (b,x)) none) none) none
  | _=>none
 | _=>none
theorem xZ {α:Type} {b:Bool} {x:Option α} {v:α} (h:iB b x none=some v):b=true∧x=some v:=by
 cases b
 ·cases h
 ·exact⟨rfl,h⟩
theorem Dq {α:Type} {b:Bool} {x:Option α} {v:α} (h:iB b none x=some v):b=false∧x=some v:=by
 cases b
 ·exact⟨rfl,h⟩
 ·cases h
theorem sN {h:IH} {v:Value} {b x:Nat} (e:numOf h v=some (b,x)):v=my b x∧(b % 2=0∧h.ext.get (b / 2)=some (.num x))∧gf x≤64:=by
 unfold numOf at e
 split at e
 ·rename_i b' l
  split at e
  ·rename_i x' hx
   obtain⟨h1,e⟩:=xZ e
   obtain⟨h2,e⟩:=xZ e
   obtain⟨h3,e⟩:=xZ e
   cases e
   have h2:=Nat.beq_eq.mp h2
   rw[Ef] at h2
   subst h2
   rw[lO] at hx
   exact⟨rfl,⟨Nat.beq_eq.mp h1,hx⟩,Nat.le_of_ble_eq_true h3⟩
  ·cases e
 ·cases e
def decode (h:IH) (k:NK) (v:Value):Option NV:=match k,v with
 | .val,v=>bif plain v then some (.val v) else none
 | .long,.agg cs=>match cs.toList with
  | [.bool n,s]=>match numOf h s with
   | some (b,x)=>iB (iB n (Nat.beq x 0) false) none (some (.long n b x))
   | none=>none
  | _=>none
 | .rat,.agg cs=>match cs.toList with
  | [.bool n,s,.bool false,t]=>match numOf h s with
   | some (b,x)=>match numOf h t with
    | some (c,y)=>iB (iB n (Nat.beq x 0) false) none (iB (Nat.beq y 0) none (iB (Nat.beq (Nat.gcd x y) 1) (some (.rat n b x c y)) none))
    | none=>none
   | none=>none
  | _=>none
 | _,_=>none
def NV.value:NV→Value
 | .val v=>v
 | .long n b x=>.agg #[.bool n,my b x]
 | .rat n b x c y=>.agg #[.bool n,my b x,.bool false,my c y]
def NV.jm:NV→Prop
 | .val v=>plain v=true
 | .long n _ x=>(n=true→x≠0)∧gf x≤64
 | .rat n _ x _ y=>((n=true→x≠0)∧(y≠0∧Nat.gcd x y=1))∧gf x≤64∧gf y≤64
def NV.at_ (h:IH):NV→Prop
 | .val _=>True
 | .long _ b x=>b % 2=0∧h.ext.get (b / 2)=some (.num x)
 | .rat _ b x c y=>(b % 2=0∧h.ext.get (b / 2)=some (.num x))∧c % 2=0∧h.ext.get (c / 2)=some (.num y)
theorem Gk {h:IH} {k:NK} {v:Value} {a:NV} (e:decode h k v=some a):v=a.value∧a.jm∧a.at_ h:=by
 unfold decode at e
 split at e
 ·rename_i v'
  simp only[cond_eq_ite] at e
  split at e
  ·cases e;rename_i hp;exact⟨rfl,hp,trivial⟩
  ·cases e
 ·rename_i cs
  split at e
  ·rename_i n s hcs
   split at e
   ·rename_i b x hx
    obtain⟨hn,e⟩:=Dq e
    cases e
    obtain⟨h1,h2,h3⟩:=sN hx
    refine⟨?_,⟨(fun h4 h5=>by rw[h4,h5] at hn;cases hn),h3⟩,h2⟩
    show Value.agg cs=Value.agg #[.bool n,my b x]
    rw[←h1]
    congr 1
    exact Array.ext' hcs
   ·cases e
  ·cases e
 ·rename_i cs
  split at e
  ·rename_i n s t hcs
   split at e
   ·rename_i b x hx
    split at e
    ·rename_i c y hy
     obtain⟨hn,e⟩:=Dq e
     obtain⟨hm,e⟩:=Dq e
     obtain⟨hk,e⟩:=xZ e
     cases e
     obtain⟨h1,h2,h3⟩:=sN hx
     obtain⟨h4,h5,h6⟩:=sN hy
     refine⟨?_,⟨⟨(fun h7 h8=>by rw[h7,h8] at hn;cases hn),(fun h7=>by rw[h7] at hm;cases hm),Nat.beq_eq.mp hk⟩,h3,h6⟩,h2,h5⟩
     show Value.agg cs=Value.agg #[.bool n,my b x,.bool false,my c y]
     rw[←h1,←h4]
     congr 1
     exact Array.ext' hcs
    ·cases e
   ·cases e
  ·cases e
 ·cases e
def NV.bs:NV→List Nat
 | .val _ => []
 | .long _ b _ => [b]
 | .rat _ b _ c _ => [b,c]
def NV.xs:NV→List Nat
 | .val _ => []
 | .long _ _ x => [x]
 | .rat _ _ x _ y => [x,y]
def bsL:List NV→List Nat
 | [] => []
 | a :: l=>a.bs ++ bsL l
def xsL:List NV→List Nat
 | [] => []
 | a :: l=>a.xs ++ xsL l
def mT:List NV→List Value→List Value
 | [],_ => []
 | .val v :: l,ss=>v :: mT l ss
 | .long n _ _ :: l,s :: ss=>.agg #[.bool n,s] :: mT l ss
 | .rat n _ _ _ _ :: l,s :: t :: ss=>.agg #[.bool n,s,.bool false,t] :: mT l ss
 | _ :: l,_=>undef :: mT l []
theorem oW : ∀al:List NV,mT al (iG (bsL al) (xsL al))=al.map NV.value
 | []=>rfl
 | .val v :: l=>by
  show v :: mT l (iG (bsL l) (xsL l))=v :: l.map NV.value
  rw[oW l]
 | .long n b x :: l=>by
  show Value.agg #[.bool n,my b x] :: mT l (iG (bsL l) (xsL l))=Value.agg #[.bool n,my b x] :: l.map NV.value
  rw[oW l]
 | .rat n b x c y :: l=>by
  show Value.agg #[.bool n,my b x,.bool false,my c y] :: mT l (iG (bsL l) (xsL l))=Value.agg #[.bool n,my b x,.bool false,my c y] :: l.map NV.value
  rw[oW l]
theorem fA {m:Mp} {v:Value} {l vs':List Value} (h:bz m (v :: l) vs') : ∃v' l',vs'=v' :: l'∧aC m v v'∧bz m l l':=by
 match vs',h with
 | [],h=>have:=h.1;simp at this
 | v' :: l',h=>exact⟨v',l',rfl,h.2 0 v v' rfl rfl,by have:=h.1;simpa using this,fun i a b ha hb=>h.2 (i+1) a b (by simpa using ha) (by simpa using hb)⟩
theorem ui {m:Mp} {vs':List Value} (h:bz m [] vs'):vs' = []:=List.length_eq_zero_iff.1 h.1.symm
theorem jL : ∀al:List NV,(∀a∈al,a.jm)→KS (mT al) (xsL al).length
 | [],_=>fun m ss vs' hl h=>by
  obtain rfl:=ui h
  obtain rfl:ss = []:=List.length_eq_zero_iff.1 hl
  exact⟨[],.nil m,fun m2 us _=>.nil m2⟩
 | .val v :: l,hg=>fun m ss vs' hl h=>by
  obtain⟨v',l',rfl,h1,h2⟩:=fA (l:=mT l ss) h
  obtain⟨ss',h3,h4⟩:=jL l (fun a ha=>hg a (List.mem_cons_of_mem _ ha)) m ss l' hl h2
  have hp:plain v=true:=hg (.val v) List.mem_cons_self
  obtain rfl:=h1.cW hp
  exact⟨ss',h3,fun m2 us hu=>.cons (.bT hp) (h4 m2 us hu)⟩
 | .long n b x :: l,hg=>fun m ss vs' hl h=>by
  match ss,hl with
  | s :: ss,hl =>
   obtain⟨v',l',rfl,h1,h2⟩:=fA (v:=.agg #[.bool n,s]) (l:=mT l ss) h
   obtain⟨ss',h3,h4⟩:=jL l (fun a ha=>hg a (List.mem_cons_of_mem _ ha)) m ss l' (by simpa [xsL,NV.xs] using hl) h2
   obtain⟨cs',rfl,h5⟩:=h1.pk
   obtain⟨b',r',e1,h6,h7⟩:=fA h5
   obtain⟨s',r2,rfl,h8,h9⟩:=fA h7
   obtain rfl:=ui h9
   have hb:=h6.ct rfl
   subst hb
   refine⟨s' :: ss',.cons h8 h3,fun m2 us hu=>?_⟩
   match us,hu with
   | [],hu=>have:=hu.1;simp at this
   | u :: us,hu =>
    refine .cons (.kY ?_) (h4 m2 us ⟨by have:=hu.1;simpa using this,fun i a c ha hc=>hu.2 (i+1) a c (by simpa using ha) (by simpa using hc)⟩)
    rw[e1]
    exact .cons (.bJ rfl) (.cons (hu.2 0 u s' rfl rfl) (.nil m2))
  | [],hl=>simp[xsL,NV.xs] at hl
 | .rat n b x c y :: l,hg=>fun m ss vs' hl h=>by
  match ss,hl with
  | s :: t :: ss,hl =>
   obtain⟨v',l',rfl,h1,h2⟩:=fA (v:=.agg #[.bool n,s,.bool false,t]) (l:=mT l ss) h
   obtain⟨ss',h3,h4⟩:=jL l (fun a ha=>hg a (List.mem_cons_of_mem _ ha)) m ss l' (by simpa [xsL,NV.xs] using hl) h2
   obtain⟨cs',rfl,h5⟩:=h1.pk
   obtain⟨b',r',e1,h6,h7⟩:=fA h5
   obtain⟨s',r2,rfl,h8,h9⟩:=fA h7
   obtain⟨b2,r3,rfl,h10,h11⟩:=fA h9
   obtain⟨t',r4,rfl,h12,h13⟩:=fA h11
   obtain rfl:=ui h13
   have hb:=h6.ct rfl
   subst hb
   have hb2:=h10.ct rfl
   subst hb2
   refine⟨s' :: t' :: ss',.cons h8 (.cons h12 h3),fun m2 us hu=>?_⟩
   match us,hu with
   | [],hu=>have:=hu.1;simp at this
   | [_],hu=>have:=hu.1;simp at this
   | u :: u2 :: us,hu =>
    refine .cons (.kY ?_) (h4 m2 us ⟨by have:=hu.1;simpa using this,fun i a c ha hc=>hu.2 (i+2) a c (by simpa using ha) (by simpa using hc)⟩)
    rw[e1]
    exact .cons (.bJ rfl) (.cons (hu.2 0 u s' rfl rfl) (.cons (.bJ rfl) (.cons (hu.2 1 u2 t' rfl rfl) (.nil m2))))
  | [_],hl=>simp[xsL,NV.xs] at hl
  | [],hl=>simp[xsL,NV.xs] at hl
end
end Go.Id

/-
  The ideal machine: functions on numbers of any length that are not evaluated by their text. A number's words lie in a block of their own that nobody writes; the call is carried out on a memory that has no more than the words of its arguments. The ideal machine: functions that give numbers of any length.
-/
import Derived.Test.YtnanhedgenokpaaGreatTemperDetailedBf
import Derived.Test.YtnanhedgenokpaaGreatTemperDetailedAq
import Derived.Test.YtnanhedgenokpaaGreatTemperDetailedAt
import Derived.Test.YtnanhedgenokpaaGreatTemperDetailedBg
set_option linter.unusedVariables false
set_option linter.unusedSimpArgs false
set_option linter.defProp false
set_option linter.deprecated false
namespace Go.Id
open Go Go.RowKit
def wlen (x:Nat):Nat:=(digs x).length
def tokV (b x:Nat):Value:=.slice (some ⟨b,0,some 0⟩) (wlen x) 0
theorem digs_zero:digs 0 = []:=by rw[digs];simp
theorem wlen_zero {x:Nat}:wlen x=0↔x=0:=by
 unfold wlen
 constructor
 ·intro h
  rw[digs] at h
  split at h
  ·assumption
  ·simp at h
 ·rintro rfl;rw[digs_zero];rfl
theorem wordsOf_len (x:Nat):(wordsOf x).length=wlen x:=by simp[wordsOf,wlen]
theorem wordsOf_zero:wordsOf 0 = []:=by unfold wordsOf;rw[digs_zero];rfl
def numBase (xs:List Nat) (b:Nat):Option (List Value):=match xs[b - 4294967296]? with
 | some x=>if 4294967296≤b∧x≠0 then some (wordsOf x) else none
 | none=>none
def NumAt (xs:List Nat) (i:Nat) (u:Value):Prop:=∃x,xs[i]?=some x∧((x=0∧(u=.slice none 0 0∨u=.slice (some ⟨0,0,none⟩) 0 0))∨(x≠0 ∧ ∃cap,wlen x≤cap∧u=.slice (some ⟨2*(4294967296+i)+1,0,none⟩) (wlen x) (2*cap+1)))
def Para (mk:List Value→Value) (n:Nat):Prop:=∀(m:Mp) (ss:List Value) (v':Value),ss.length=n→VRel m (mk ss) v' → ∃ss',LRel m ss ss' ∧ ∀(m2:Mp) (us:List Value),LRel m2 us ss'→VRel m2 (mk us) v'
def ParaL (mk:List Value→List Value) (n:Nat):Prop:=∀(m:Mp) (ss vs':List Value),ss.length=n→LRel m (mk ss) vs' → ∃ss',LRel m ss ss' ∧ ∀(m2:Mp) (us:List Value),LRel m2 us ss'→LRel m2 (mk us) vs'
theorem VRel.tok_inv {m:Mp} {b n:Nat} {v':Value} (h:VRel m (.slice (some ⟨b,0,some 0⟩) n 0) v') : ∃a cap,v'=.slice a n cap∧n≤cap∧((n=0∧(a=none→cap=0)) ∨ ∃r s,m b=some (r,s)∧a=some ⟨r,s,none⟩):=by
 cases h with
 | scal h=>simp[Id.scal] at h
 | tok hc h=>exact⟨_,_,rfl,hc,h⟩
def Toks (h:IH) (bs xs:List Nat):Prop:=bs.length=xs.length ∧ ∀(i b x:Nat),bs[i]?=some b→xs[i]?=some x→b % 2=0∧h.ext.get (b / 2)=some (.num x)
def toksOf:List Nat→List Nat→List Value
 | b :: bs,x :: xs=>tokV b x :: toksOf bs xs
 | _,_ => []
theorem toksOf_get : ∀(bs xs:List Nat) (i b x:Nat),bs[i]?=some b→xs[i]?=some x→(toksOf bs xs)[i]?=some (tokV b x)
 | [],_,_,_,_,h,_=>by simp at h
 | _ :: _,[],_,_,_,_,h=>by simp at h
 | b :: bs,x :: xs,0,b',x',h1,h2=>by simp at h1 h2;subst h1;subst h2;rfl
 | b :: bs,x :: xs,i+1,b',x',h1,h2=>by
  simp at h1 h2
  exact toksOf_get bs xs i b' x' h1 h2
theorem toksOf_len : ∀(bs xs:List Nat),bs.length=xs.length→(toksOf bs xs).length=xs.length
 | [],[],_=>rfl
 | [],_ :: _,h=>by simp at h
 | _ :: _,[],h=>by simp at h
 | b :: bs,x :: xs,h=>by
  show(toksOf bs xs).length+1=xs.length+1
  rw[toksOf_len bs xs (by simpa using h)]
theorem Rel.nums {B:Nat} {w0:World} {m:Mp} {h:IH} {w:World} (R:Rel B w0 m h w) {bs xs:List Nat} (T:Toks h bs xs) {ss':List Value} (hs:LRel m (toksOf bs xs) ss') :
  ∃m2:Mp,(∀k,m2 (2*k)=none)∧(∀(i b x:Nat),bs[i]?=some b→xs[i]?=some x→x≠0→m2 (2*(4294967296+i)+1)=m b)∧Rel w.heap.size w m2 (IH.start (numBase xs)) w ∧ ∃us,us.length=xs.length∧LRel m2 us ss' ∧ ∀(i:Nat) (u:Value),us[i]?=some u→NumAt xs i u:=by
 have loc : ∀(i b x:Nat),bs[i]?=some b→xs[i]?=some x→x≠0 → ∃r s c el,m b=some (r,s)∧r<w.heap.size∧w.heap[r]?=some (.cells c el)∧RowAt m (wordsOf x) c s:=by
  intro i b x hb hx x0
  obtain⟨v',h1,h2⟩:=hs.get (toksOf_get bs xs i b x hb hx)
  obtain⟨a,cap,rfl,hc,⟨e,_⟩|⟨r,s,hm,rfl⟩⟩:=h2.tok_inv
  ·exact absurd (wlen_zero.1 e) x0
  ·obtain⟨t1,t2⟩:=T.2 i b x hb hx
   have hm2:m (2*(b / 2))=some (r,s):=by rw[show 2*(b / 2)=b from by omega];exact hm
   rcases R.obj (b / 2) _ r s t2 hm2 with h3|⟨c,el,h3,h4⟩
   ·exact absurd h3 x0
   ·exact⟨r,s,c,el,hm,(R.even _ r s hm2).2,h3,h4⟩
 refine⟨⟨fun j=>if j % 2=0 then none else if j / 2<4294967296 then m j else match bs[j / 2 - 4294967296]? with|some b=>m b|none=>none,m.ez⟩,fun k=>?_,fun i b x hb hx x0=>?_,?_,?_⟩
 ·show(if 2*k % 2=0 then none else _)=none
  rw[if_pos (by omega)]
 ·show(if (2*(4294967296+i)+1) % 2=0 then none else if (2*(4294967296+i)+1) / 2<4294967296 then m (2*(4294967296+i)+1) else match bs[(2*(4294967296+i)+1) / 2 - 4294967296]? with|some b=>m b|none=>none)=m b
  rw[if_neg (by omega),if_neg (by omega),show(2*(4294967296+i)+1) / 2 - 4294967296=i from by omega,hb]
 ·have leaf : ∀{α:Type} (k:Nat),(Tr.leaf:Tr α).get k=none:=fun k=>rfl
  have even : ∀k x,(⟨fun j=>if j % 2=0 then none else if j / 2<4294967296 then m j else match bs[j / 2 - 4294967296]? with|some b=>m b|none=>none,m.ez⟩:Mp) (2*k)=some x→False:=by
   intro k x h
   have h1:(if 2*k % 2=0 then none else _)=some x:=h
   rw[if_pos (by omega)] at h1;cases h1
  refine⟨Below.refl _ _,Nat.le_refl _,?_,fun b hb=>?_,?_,fun k _=>leaf k,?_,?_,?_,?_,?_,?_⟩
  ·intro b cs hcs
   have hcs:numBase xs b=some cs:=hcs
   unfold numBase at hcs
   split at hcs
   case h_2=>cases hcs
   rename_i x hx
   split at hcs
   case isFalse=>cases hcs
   rename_i hb
   cases hcs
   have hi:b - 4294967296<bs.length:=by rw[T.1];exact(List.getElem?_eq_some_iff.1 hx).1
   obtain⟨b',hb'⟩ : ∃b',bs[b - 4294967296]?=some b':=⟨_,List.getElem?_eq_getElem hi⟩
   obtain⟨r,s,c,el,h1,h2,h3,h4⟩:=loc _ b' x hb' hx hb.2
   refine⟨r,s,?_,h2,c,el,_,h3,h4.1,fun i v hv=>?_⟩
   ·show(if (2*b+1) % 2=0 then none else if (2*b+1) / 2<4294967296 then m (2*b+1) else match bs[(2*b+1) / 2 - 4294967296]? with|some b=>m b|none=>none)=some (r,s)
    rw[if_neg (by omega),if_neg (by omega),show(2*b+1) / 2 - 4294967296=b - 4294967296 from by omega,hb']
    exact h1
   ·obtain⟨v',a,e⟩:=h4.2 i v hv
    unfold wordsOf at hv
    rw[List.getElem?_map] at hv
    obtain⟨d,_,rfl⟩:=Option.map_eq_some_iff.1 hv
    exact⟨v',a,by rw[e.scal_eq rfl];exact .scal rfl⟩
  ·show(if (2*b+1) % 2=0 then none else if (2*b+1) / 2<4294967296 then m (2*b+1) else _)=some (b,0)
   rw[if_neg (by omega),if_pos (by omega)]
   exact R.odd b hb
  ·intro k r s h;exact(even _ _ h).elim
  ·intro k o r s h;cases h
  ·intro k k' o o' r s s' _ h;cases h
  ·intro f st h;cases h
  ·intro k cs t f h;cases h
  ·intro f st h;cases h
  ·intro f st x y h;cases h
 ·-- the arguments
  obtain⟨m2,hm2⟩ : ∃m2:Mp,m2=⟨fun j=>if j % 2=0 then none else if j / 2<4294967296 then m j else match bs[j / 2 - 4294967296]? with|some b=>m b|none=>none,m.ez⟩:=⟨_,rfl⟩
  rw[←hm2]
  have at2 : ∀(i b:Nat),bs[i]?=some b→m2 (2*(4294967296+i)+1)=m b:=by
   intro i b hb
   rw[hm2]
   show(if (2*(4294967296+i)+1) % 2=0 then none else if (2*(4294967296+i)+1) / 2<4294967296 then m (2*(4294967296+i)+1) else match bs[(2*(4294967296+i)+1) / 2 - 4294967296]? with|some b=>m b|none=>none)=m b
   rw[if_neg (by omega),if_neg (by omega),show(2*(4294967296+i)+1) / 2 - 4294967296=i from by omega,hb]
  have lt:=toksOf_len bs xs T.1
  have ex : ∀i,i<xs.length → ∃u s',ss'[i]?=some s'∧VRel m2 u s'∧NumAt xs i u:=by
   intro i hi
   obtain⟨x,hx⟩ : ∃x,xs[i]?=some x:=⟨_,List.getElem?_eq_getElem hi⟩
   obtain⟨b,hb⟩ : ∃b,bs[i]?=some b:=⟨_,List.getElem?_eq_getElem (by rw[T.1];exact hi)⟩
   obtain⟨v',h1,h2⟩:=hs.get (toksOf_get bs xs i b x hb hx)
   obtain⟨a,cap,rfl,hc,hcase⟩:=h2.tok_inv
   by_cases x0:x=0
   ·subst x0
    have w0:wlen 0=0:=wlen_zero.2 rfl
    rw[w0] at h1 h2 hc hcase
    cases a with
    | none =>
     have c0:cap=0:=by
      rcases hcase with⟨_,h3⟩|⟨_,_,_,h3⟩
      ·exact h3 rfl
      ·cases h3
     subst c0
     exact⟨.slice none 0 0,_,h1,.scal rfl,0,hx,.inl ⟨rfl,.inl rfl⟩⟩
    | some a=>exact⟨.slice (some ⟨0,0,none⟩) 0 0,_,h1,.lost,0,hx,.inl ⟨rfl,.inr rfl⟩⟩
   ·rcases hcase with⟨e,_⟩|⟨r,s,hm,rfl⟩
    ·exact absurd (wlen_zero.1 e) x0
    ·refine⟨.slice (some ⟨2*(4294967296+i)+1,0,none⟩) (wlen x) (2*cap+1),_,h1,?_,x,hx,.inr ⟨x0,cap,hc,rfl⟩⟩
     have:=VRel.slice (m:=m2) (b:=2*(4294967296+i)+1) (o:=0) (r:=r) (s:=s) (len:=wlen x) (k:=2*cap+1) (cap:=cap) ((at2 i b hb).trans hm) (by omega) (by omega) (by omega) (fun _=>by omega) (fun h9=>by omega)
     exact this
  have key:=fun i (hi:i<xs.length)=>(ex i hi)
  refine⟨(List.range xs.length).map fun i=>if hi:i<xs.length then Classical.choose (ex i hi) else .slice none 0 0,by simp,⟨by rw[List.length_map,List.length_range,←hs.1,lt],fun i v v' hv hv'=>?_⟩,fun i u hu=>?_⟩
  ·rw[List.getElem?_map] at hv
   obtain⟨j,hj,rfl⟩:=Option.map_eq_some_iff.1 hv
   obtain⟨hj1,hj2⟩:=List.getElem?_eq_some_iff.1 hj
   rw[List.length_range] at hj1
   rw[List.getElem_range] at hj2
   subst hj2
   rw[dif_pos hj1]
   obtain⟨s',e1,e2,_⟩:=Classical.choose_spec (ex i hj1)
   rw[hv'] at e1;cases e1
   exact e2
  ·rw[List.getElem?_map] at hu
   obtain⟨j,hj,rfl⟩:=Option.map_eq_some_iff.1 hu
   obtain⟨hj1,hj2⟩:=List.getElem?_eq_some_iff.1 hj
   rw[List.length_range] at hj1
   rw[List.getElem_range] at hj2
   subst hj2
   rw[dif_pos hj1]
   obtain⟨s',_,_,e3⟩:=Classical.choose_spec (ex i hj1)
   exact e3
def addNums (h:IH):List Nat→IH
 | []=>h
 | y :: ys=>addNums (h.new (.num y)) ys
theorem addNums_n : ∀(ys:List Nat) (h:IH),(addNums h ys).n=h.n+ys.length
 | [],h=>rfl
 | y :: ys,h=>by
  show(addNums (h.new (.num y)) ys).n=_
  rw[addNums_n ys]
  show h.n+1+ys.length=h.n+(ys.length+1)
  omega
theorem addNums_base : ∀(ys:List Nat) (h:IH),(addNums h ys).base=h.base∧(addNums h ys).fams=h.fams
 | [],h=>⟨rfl,rfl⟩
 | y :: ys,h=>addNums_base ys (h.new (.num y))
theorem addNums_get : ∀(ys:List Nat) (h:IH) (k:Nat),(addNums h ys).ext.get k=if h.n≤k∧k<h.n+ys.length then (ys[k - h.n]?).map .num else h.ext.get k
 | [],h,k=>by rw[if_neg (by simp)];rfl
 | y :: ys,h,k=>by
  show(addNums (h.new (.num y)) ys).ext.get k=_
  rw[addNums_get ys]
  have n1:(h.new (.num y)).n=h.n+1:=rfl
  have g1:(h.new (.num y)).ext.get k=if k=h.n then some (.num y) else h.ext.get k:=by
   show(h.ext.set h.n _).get k=_
   rw[Tr.get_set]
  rw[n1,g1,List.length_cons]
  by_cases c:h.n+1≤k∧k<h.n+1+ys.length
  ·rw[if_pos c,if_pos ⟨by omega,by omega⟩,show k - h.n=(k - (h.n+1))+1 from by omega,List.getElem?_cons_succ]
  ·rw[if_neg c]
   by_cases e:k=h.n
   ·rw[if_pos e,if_pos ⟨by omega,by omega⟩,e,Nat.sub_self];rfl
   ·rw[if_neg e,if_neg (by omega)]
theorem num_calls {P:Program} (S:Sound (E0 P)) {B:Nat} {w0:World} {m:Mp} {h:IH} {w:World} (R:Rel B w0 m h w) {bs xs:List Nat} (T:Toks h bs xs) {mk:List Value→List Value} (par:ParaL mk xs.length) {args':Array Value} (ha:LRel m (mk (toksOf bs xs)) args'.toList)
  {f:FuncId} (hb : ∃fn,P.funcs[f]?=some fn∧fn.body.isSome=true) {K:Value→IH→Prop} (hw : ∀us,us.length=xs.length→(∀(i:Nat) (u:Value),us[i]?=some u→NumAt xs i u)→WV P (.func (.func f) #[] #[]) (mk us) (IH.start (numBase xs)) K) :
  ∃m2:Mp,(∀k,m2 (2*k)=none)∧(∀(i b x:Nat),bs[i]?=some b→xs[i]?=some x→x≠0→m2 (2*(4294967296+i)+1)=m b) ∧ ∃r h2,K r h2∧CallsTo P f args' w.heap.size w m2 (IH.start (numBase xs)) w r h2:=by
 obtain⟨ss',h1,h2⟩:=par m (toksOf bs xs) args'.toList (toksOf_len bs xs T.1) ha
 obtain⟨m2,e1,e2,R2,us,e3,e4,e5⟩:=R.nums T h1
 obtain⟨⟨r,hh⟩,⟨N,hN⟩,hK⟩:=hw us e3 e5
 refine⟨m2,e1,e2,r,hh,hK,?_⟩
 have hc:callV (E0 P) (N+1) (.func (.func f) #[] #[]) (mk us) (IH.start (numBase xs))=some (r,hh):=hN (N+1) (by omega)
 unfold callV at hc
 obtain⟨fn,hfn,hb⟩:=hb
 rcases callFn_sim S (callV_sim S N) (callV_mono S N) hc R2 (args':=args') (by simpa using h2 m2 us e4) (fun k _ _=>e1 k) with⟨_,k⟩|⟨fn',k1,k2,_⟩
 ·exact k
 ·have k3:P.funcs[f]?=some fn':=k1
  rw[hfn] at k3;cases k3
  rw[k2] at hb;cases hb
theorem Rel.aside2 {B:Nat} {w0:World} {m m':Mp} {h h':IH} {w w':World} (R:Rel B w0 m h w) (R':Rel w.heap.size w m' h' w'):Rel B w0 m h w'∧Step m h w m h w':=by
 have same : ∀r,r<w.heap.size→w'.heap[r]?=w.heap[r]?:=fun r hr=>R'.below.block r hr
 refine⟨⟨R.below.trans (R'.below.mono R.size),Nat.le_trans R.size R'.size,fun b cs hb=>?_,R.odd,fun k r s hk=>?_,R.dom,fun k o r s hk hm=>?_,R.own,R.famdom,R.fam,R.long,R.whole⟩,
  ⟨Mp.le_refl m,fun b hb=>absurd rfl hb,Nat.le_refl _,rfl,fun r hr _=>same r hr,fun _ _ _=>rfl,R'.size,fun k r s h1 h2=>by omega,fun _ _ _ hh=>hh⟩⟩
 ·obtain⟨r,s,h1,h2,c,el,fz,h3,h4⟩:=R.base b cs hb
  exact⟨r,s,h1,h2,c,el,fz,by rw[same r (by have:=R.size;omega)];exact h3,h4⟩
 ·have:=R.even k r s hk
  have:=R'.size
  exact⟨by omega,by omega⟩
 ·exact(R.obj k o r s hk hm).same (same r (R.even k r s hm).2)
theorem num_plain {P:Program} (S:Sound (E0 P)) {B:Nat} {w0:World} {m:Mp} {h:IH} {w:World} (R:Rel B w0 m h w) {bs xs:List Nat} (T:Toks h bs xs) {mk:List Value→List Value} (par:ParaL mk xs.length) {args':Array Value} (ha:LRel m (mk (toksOf bs xs)) args'.toList)
  {f:FuncId} (hb : ∃fn,P.funcs[f]?=some fn∧fn.body.isSome=true) {v:Value} (hv:plainT v=true) (hw : ∀us,us.length=xs.length→(∀(i:Nat) (u:Value),us[i]?=some u→NumAt xs i u)→WV P (.func (.func f) #[] #[]) (mk us) (IH.start (numBase xs)) fun r _=>r=v):CallsTo P f args' B w0 m h w v h:=by
 obtain⟨m2,_,_,r,hh,rfl,key⟩:=num_calls S R T par ha hb hw
 refine key.mono fun e' w' ⟨v',m',he,hvr,R',S'⟩=>?_
 obtain⟨R2,S2⟩:=R.aside2 R'
 exact⟨v',m,he,by rw[hvr.plainT_eq hv];exact .plainT_mk hv,R2,S2⟩
def NumSl (h:IH) (u:Value) (y:Nat):Prop:=SlOf h 1 u (wlen y) (wordsOf y)
def newBs (n k:Nat):List Nat:=(List.range k).map fun j=>2*(n+j)
theorem newBs_get {n k j:Nat} (h:j<k):(newBs n k)[j]?=some (2*(n+j)):=by unfold newBs;rw[List.getElem?_map,List.getElem?_range h];rfl
theorem newBs_len (n k:Nat):(newBs n k).length=k:=by simp[newBs]
structure NumLoc (m:Mp) (w w':World) (bs xs:List Nat) (y:Nat) (r s:Nat):Prop where
 lt:r<w'.heap.size
 row : ∃c el,w'.heap[r]?=some (.cells c el)∧RowAt m (wordsOf y) c s
 src:w.heap.size≤r ∨ ∃(i b x s0:Nat),bs[i]?=some b∧xs[i]?=some x∧m b=some (r,s0)
theorem row_part {m m':Mp} {row ws:List Value} {c:Array Value} {q o:Nat} (hr:RowAt m' row c q) (hw:(row.drop o).take ws.length=ws) (hle:o+ws.length≤row.length) (hs : ∀v∈ws,scal v=true):RowAt m ws c (q+o):=by
 refine⟨by have:=hr.1;omega,fun i v hv=>?_⟩
 have hi:=(List.getElem?_eq_some_iff.1 hv).1
 have hv2:row[o+i]?=some v:=by
  rw[←hw,List.getElem?_take_of_lt hi,List.getElem?_drop] at hv
  exact hv
 obtain⟨v',a,b⟩:=hr.2 _ v hv2
 have sc:=hs v (List.mem_of_getElem? hv)
 exact⟨v',by rw[Nat.add_assoc];exact a,by rw[b.scal_eq sc];exact .scal sc⟩
theorem words_scal (x:Nat) : ∀v∈wordsOf x,scal v=true:=by
 intro v hv
 obtain⟨d,_,rfl⟩:=List.mem_map.1 hv
 rfl
theorem num_loc {B:Nat} {w0:World} {m m2 m':Mp} {h h2:IH} {w w':World} (R:Rel B w0 m h w) {bs xs:List Nat} (T:Toks h bs xs) (hodd : ∀(i b x:Nat),bs[i]?=some b→xs[i]?=some x→x≠0→m2 (2*(4294967296+i)+1)=m b)
  (R':Rel w.heap.size w m' h2 w') (S':Step m2 (IH.start (numBase xs)) w m' h2 w') {u u':Value} {y:Nat} (hu:NumSl h2 u y) (hv:VRel m' u u') :
  ∃a cap,u'=.slice a (wlen y) cap∧wlen y≤cap∧((y=0∧(a=none→cap=0))∨(y≠0 ∧ ∃r s,a=some ⟨r,s,none⟩∧NumLoc m w w' bs xs y r s)):=by
 obtain⟨_,hl,⟨rfl,n0⟩|⟨b,o,k,rfl,⟨n0,k0⟩|⟨k0,hn,row,hb,hrow,htk,hle⟩⟩⟩:=hu
 ·obtain⟨_,_,rfl⟩:=hv.nil_inv
  exact⟨none,0,by rw[n0],by omega,.inl ⟨wlen_zero.1 n0,fun _=>rfl⟩⟩
 ·subst k0
  rcases hv.slice_inv with⟨r,s,cap,_,h0,_⟩|⟨_,_,a,cap,rfl⟩
  ·omega
  ·exact⟨some a,cap,by rw[n0],by omega,.inl ⟨wlen_zero.1 n0,fun h=>by cases h⟩⟩
 ·rcases hv.slice_inv with⟨r,q,cap,hm,_,_,hcap,_,_,rfl⟩|⟨_,e,_⟩
  ·refine⟨_,cap,rfl,by omega,?_⟩
   by_cases y0:y=0
   ·exact .inl ⟨y0,fun h=>by cases h⟩
   ·refine .inr ⟨y0,r,q+o,rfl,?_⟩
    have htk':(row.drop o).take (wordsOf y).length=wordsOf y:=by rw[wordsOf_len];rw[Nat.mul_one] at htk;exact htk
    have hle':o+(wordsOf y).length≤row.length:=by rw[wordsOf_len];omega
    by_cases bo:b % 2=1
    ·have hr2:h2.base (b / 2)=some row:=by
      unfold IH.row at hrow
      simpa [bo] using hrow
     rw[S'.base] at hr2
     have hr2:numBase xs (b / 2)=some row:=hr2
     unfold numBase at hr2
     split at hr2
     case h_2=>cases hr2
     rename_i x hx
     split at hr2
     case isFalse=>cases hr2
     rename_i hbig
     cases hr2
     obtain⟨b',hb'⟩ : ∃b',bs[b / 2 - 4294967296]?=some b':=⟨_,List.getElem?_eq_getElem (by rw[T.1];exact(List.getElem?_eq_some_iff.1 hx).1)⟩
     have e1:=hodd _ b' x hb' hx hbig.2
     rw[show 2*(4294967296+(b / 2 - 4294967296))+1=b from by omega] at e1
     have e2:m' b=m2 b:=Classical.byContradiction fun hne=>by
      obtain⟨k9,e9,_⟩:=S'.new b hne
      omega
     have hmb:m b'=some (r,q):=by rw[←e1,←e2];exact hm
     obtain⟨t1,t2⟩:=T.2 _ b' x hb' hx
     have hmb2:m (2*(b' / 2))=some (r,q):=by rw[show 2*(b' / 2)=b' from by omega];exact hmb
     have hev:=R.even _ r q hmb2
     rcases R.obj (b' / 2) _ r q t2 hmb2 with h3|⟨c,el,h3,h4⟩
     ·exact absurd h3 hbig.2
     ·have same:w'.heap[r]?=w.heap[r]?:=R'.below.block r hev.2
      exact⟨by have:=R'.size;omega,⟨c,el,by rw[same];exact h3,row_part h4 htk' hle' (words_scal y)⟩,.inr ⟨_,b',x,q,hb',hx,hmb⟩⟩
    ·rcases hb with hb|⟨hb,hlt,f,hg⟩
     ·omega
     ·have hm2:m' (2*(b / 2))=some (r,q):=by rw[show 2*(b / 2)=b from by omega];exact hm
      obtain⟨c,el,hc,hrw,_⟩:=R'.obj (b / 2) _ r q hg hm2
      have hr2:h2.row b=some row:=hrow
      have hev:=R'.even _ r q hm2
      refine⟨hev.2,⟨c,el,hc,row_part hrw htk' hle' (words_scal y)⟩,.inl ?_⟩
      rcases S'.img (b / 2) r q (Nat.zero_le _) (by omega) hm2 with h3|⟨k9,_,h9,_⟩
      ·exact h3
      ·exact absurd h9 (Nat.not_lt_zero _)
  ·omega
end Go.Id

namespace Go.Id
open Go Go.RowKit
theorem num_nums {P:Program} (S:Sound (E0 P)) {B:Nat} {w0:World} {m:Mp} {h:IH} {w:World} (R:Rel B w0 m h w) {bs xs:List Nat} (T:Toks h bs xs) {mk:List Value→List Value} (par:ParaL mk xs.length) {args':Array Value} (ha:LRel m (mk (toksOf bs xs)) args'.toList)
  {f:FuncId} (hb : ∃fn,P.funcs[f]?=some fn∧fn.body.isSome=true) {ys:List Nat} {mkR:List Value→Value} (parR:Para mkR ys.length)
  (hw : ∀us,us.length=xs.length→(∀(i:Nat) (u:Value),us[i]?=some u→NumAt xs i u)→WV P (.func (.func f) #[] #[]) (mk us) (IH.start (numBase xs)) fun r h2 => ∃ss,ss.length=ys.length∧r=mkR ss ∧ ∀(j:Nat) (y:Nat) (s:Value),ys[j]?=some y→ss[j]?=some s→NumSl h2 s y)
  (fr:Fresh m h.n (h.n+ys.length)):CallsTo P f args' B w0 m h w (mkR (toksOf (newBs h.n ys.length) ys)) (addNums h ys):=by
 obtain⟨m2,even2,odd2,r,h2,⟨ss,ls,rfl,hss⟩,key⟩:=num_calls S R T par ha hb hw
 refine key.mono fun e' w' ⟨v',m',he,hvr,R',S'⟩=>?_
 obtain⟨ss',l1,l2⟩:=parR m' ss v' ls hvr
 have ls':ss'.length=ys.length:=by rw[←l1.1,ls]
 have same : ∀r,r<w.heap.size→w'.heap[r]?=w.heap[r]?:=fun r hr=>R'.below.block r hr
 have loc : ∀(j y:Nat),ys[j]?=some y → ∃a cap,ss'[j]?=some (.slice a (wlen y) cap)∧wlen y≤cap∧((y=0∧(a=none→cap=0))∨(y≠0 ∧ ∃r s,a=some ⟨r,s,none⟩∧NumLoc m w w' bs xs y r s)):=by
  intro j y hy
  have hj:=(List.getElem?_eq_some_iff.1 hy).1
  obtain⟨s,hs⟩ : ∃s,ss[j]?=some s:=⟨_,List.getElem?_eq_getElem (by omega)⟩
  obtain⟨s',h1,h3⟩:=l1.get hs
  obtain⟨a,cap,rfl,q1,q2⟩:=num_loc R T odd2 R' S' (hss j y s hy hs) h3
  exact⟨a,cap,h1,q1,q2⟩
 obtain⟨lf,hlf⟩ : ∃lf:Nat→Option (Nat×Nat),∀j,lf j=match ys[j]?,ss'[j]? with|some y,some (.slice (some ⟨r,s,none⟩) _ _)=>if y=0 then none else some (r,s)|_,_=>none:=⟨_,fun _=>rfl⟩
 have lf_some : ∀j r s,lf j=some (r,s) → ∃y,ys[j]?=some y∧y≠0∧NumLoc m w w' bs xs y r s:=by
  intro j r s hj
  rw[hlf] at hj
  cases hy:ys[j]? with
  | none=>simp[hy] at hj
  | some y =>
   obtain⟨a,cap,h1,_,h3⟩:=loc j y hy
   rw[hy,h1] at hj
   rcases h3 with⟨rfl,_⟩|⟨y0,r',s',rfl,hl⟩
   ·exfalso
    cases a with
    | none=>simp at hj
    | some a =>
     obtain⟨a1,a2,a3⟩:=a
     cases a3<;>simp at hj
   ·simp only[if_neg y0] at hj
    cases hj
    exact⟨y,rfl,y0,hl⟩
 have lf_at : ∀j y r s cap,ys[j]?=some y→y≠0→ss'[j]?=some (.slice (some ⟨r,s,none⟩) (wlen y) cap)→lf j=some (r,s):=by
  intro j y r s cap hy y0 hs
  rw[hlf,hy,hs]
  exact if_neg y0
 obtain⟨m3,hm3⟩ : ∃m3:Mp,m3=⟨fun b=>if b % 2=0∧h.n≤b / 2∧b / 2<h.n+ys.length then lf (b / 2 - h.n) else m b,m.ez⟩:=⟨_,rfl⟩
 have m3old : ∀b,¬(b % 2=0∧h.n≤b / 2∧b / 2<h.n+ys.length)→m3 b=m b:=by
  intro b hb;rw[hm3];exact if_neg hb
 have m3new : ∀j,j<ys.length→m3 (2*(h.n+j))=lf j:=by
  intro j hj
  rw[hm3]
  show(if 2*(h.n+j) % 2=0∧h.n≤2*(h.n+j) / 2∧2*(h.n+j) / 2<h.n+ys.length then lf (2*(h.n+j) / 2 - h.n) else m (2*(h.n+j)))=lf j
  rw[if_pos ⟨by omega,by omega,by omega⟩,show 2*(h.n+j) / 2 - h.n=j from by omega]
 have ez3:m3.ez=m.ez:=by rw[hm3]
 have le3:m.le m3:=by
  intro b x hb
  refine⟨?_,by rw[ez3]⟩
  rw[m3old b ?_];exact hb
  rintro⟨h1,h2',h3⟩
  have:=fr (b / 2) h2' h3
  rw[show 2*(b / 2)=b from by omega,hb] at this;cases this
 have nn:(addNums h ys).n=h.n+ys.length:=addNums_n ys h
 have gnew : ∀j y,ys[j]?=some y→(addNums h ys).ext.get (h.n+j)=some (.num y):=by
  intro j y hy
  have hj:=(List.getElem?_eq_some_iff.1 hy).1
  rw[addNums_get,if_pos ⟨by omega,by omega⟩,show h.n+j - h.n=j from by omega,hy];rfl
 have gold : ∀k,k<h.n→(addNums h ys).ext.get k=h.ext.get k:=fun k hk=>by rw[addNums_get,if_neg (by omega)]
 have isnew : ∀k o,(addNums h ys).ext.get k=some o→k<h.n ∨ ∃j y,k=h.n+j∧ys[j]?=some y∧o=.num y:=by
  intro k o hk
  rcases Nat.lt_or_ge k h.n with h1|h1
  ·exact .inl h1
  ·right
   rw[addNums_get] at hk
   by_cases c:h.n≤k∧k<h.n+ys.length
   ·rw[if_pos c] at hk
    obtain⟨y,hy,rfl⟩:=Option.map_eq_some_iff.1 hk
    exact⟨k - h.n,y,by omega,hy,rfl⟩
   ·rw[if_neg c,R.dom k h1] at hk;cases hk
 have mold : ∀k,k<h.n→m3 (2*k)=m (2*k):=fun k hk=>m3old _ (by rintro⟨_,h2',_⟩;omega)
 have oldn : ∀k o,h.ext.get k=some o→k<h.n:=by
  intro k o hk
  rcases Nat.lt_or_ge k h.n with e|e
  ·exact e
  ·rw[R.dom k e] at hk;cases hk
 have srcB : ∀y r s,NumLoc m w w' bs xs y r s→B≤r∧r<w'.heap.size:=by
  intro y r s hl
  refine⟨?_,hl.lt⟩
  rcases hl.src with h1|⟨i,b,x,s0,hb1,hx1,hm1⟩
  ·have:=R.size;omega
  ·obtain⟨t1,t2⟩:=T.2 i b x hb1 hx1
   exact(R.even (b / 2) r s0 (by rw[show 2*(b / 2)=b from by omega];exact hm1)).1
 refine⟨v',m3,he,l2 m3 _ ?_,⟨R.below.trans (R'.below.mono R.size),Nat.le_trans R.size R'.size,?_,fun b hb=>?_,?_,?_,?_,?_,?_,?_,?_,?_⟩,⟨le3,?_,by rw[nn];omega,(addNums_base ys h).1,fun r hr _=>same r hr,fun k hk _=>gold k hk,R'.size,?_,?_⟩⟩
 ·-- the value
  refine⟨by rw[toksOf_len _ _ (newBs_len _ _),ls'],fun j v x hv hx=>?_⟩
  have hj:j<ys.length:=by
   have:=(List.getElem?_eq_some_iff.1 hx).1
   omega
  obtain⟨y,hy⟩ : ∃y,ys[j]?=some y:=⟨_,List.getElem?_eq_getElem hj⟩
  rw[toksOf_get _ _ j _ y (newBs_get hj) hy] at hv
  cases hv
  obtain⟨a,cap,h1,h3,h4⟩:=loc j y hy
  rw[hx] at h1;cases h1
  refine .tok h3 ?_
  rcases h4 with⟨rfl,h5⟩|⟨y0,r,s,rfl,_⟩
  ·exact .inl ⟨wlen_zero.2 rfl,h5⟩
  ·exact .inr ⟨r,s,by rw[m3new j hj];exact lf_at j y r s cap hy y0 hx,rfl⟩
 ·intro b cs hcs
  rw[(addNums_base ys h).1] at hcs
  obtain⟨r,s,h1,h3,c,el,fz,h4,h5,h6⟩:=R.base b cs hcs
  exact⟨r,s,(le3 _ _ h1).1,h3,c,el,fz,by rw[same r (by have:=R.size;omega)];exact h4,h5,fun i v hv=>let ⟨v',a,e⟩:=h6 i v hv;⟨v',a,e.mono le3⟩⟩
 ·rw[m3old _ (by rintro⟨h1,_⟩;omega)];exact R.odd b hb
 ·intro k r s hk
  by_cases c:h.n≤k∧k<h.n+ys.length
  ·have:=m3new (k - h.n) (by omega)
   rw[show h.n+(k - h.n)=k from by omega,hk] at this
   obtain⟨y,_,_,hl⟩:=lf_some _ r s this.symm
   exact srcB y r s hl
  ·rw[m3old _ (by rintro⟨_,h2',h3⟩;exact c ⟨by omega,by omega⟩)] at hk
   have:=R.even k r s hk
   have:=R'.size
   exact⟨by omega,by omega⟩
 ·intro k hk
  rw[nn] at hk
  rw[addNums_get,if_neg (by omega)]
  exact R.dom k (by omega)
 ·intro k o r s hk hm
  rcases isnew k o hk with hkn|⟨j,y,rfl,hy,rfl⟩
  ·rw[gold k hkn] at hk
   rw[mold k hkn] at hm
   exact(R.obj k o r s hk hm).mono le3 (same r (R.even k r s hm).2) (by rw[ez3])
  ·rw[m3new j (List.getElem?_eq_some_iff.1 hy).1] at hm
   obtain⟨y',hy',y0,hl⟩:=lf_some _ r s hm
   rw[hy] at hy';cases hy'
   obtain⟨c,el,h1,h3,h4⟩:=hl.row
   exact .inr ⟨c,el,h1,h3,fun i v hv=>let ⟨v',a,e⟩:=h4 i v hv;⟨v',a,e.mono le3⟩⟩
 ·-- who shares memory
  have one : ∀j y k o r s s',ys[j]?=some y→k<h.n→h.ext.get k=some o→o.alive=true→lf j=some (r,s)→m (2*k)=some (r,s')→o.isNum=true:=by
   intro j y k o r s s' hy hkn hk ha hj hm
   obtain⟨y',_,_,hl⟩:=lf_some j r s hj
   rcases hl.src with h1|⟨i,b,x,s0,hb1,hx1,hm1⟩
   ·have:=(R.even k r s' hm).2;omega
   ·obtain⟨t1,t2⟩:=T.2 i b x hb1 hx1
    have hmb:m (2*(b / 2))=some (r,s0):=by rw[show 2*(b / 2)=b from by omega];exact hm1
    by_cases e:b / 2=k
    ·rw[e,hk] at t2;cases t2;rfl
    ·rcases R.own (b / 2) k _ o r s0 s' e t2 hk rfl ha hmb hm with⟨_,_,_,_,_,_,e1,_⟩|⟨_,e2⟩
     ·rw[t2] at e1;cases e1
     ·exact e2
  intro k k' o o' r s s' hne hk hk' ha ha' hm hm'
  rcases isnew k o hk with hkn|⟨j,y,rfl,hy,rfl⟩
  ·rcases isnew k' o' hk' with hkn'|⟨j',y',rfl,hy',rfl⟩
   ·rw[gold k hkn] at hk
    rw[gold k' hkn'] at hk'
    rw[mold k hkn] at hm
    rw[mold k' hkn'] at hm'
    refine(R.own k k' o o' r s s' hne hk hk' ha ha' hm hm').imp (fun⟨c1,t1,c2,t2,f,st,e1,e2,e3,e4,e5⟩=>⟨c1,t1,c2,t2,f,st,?_,?_,?_,e4,e5⟩) id
    ·rw[gold k hkn];exact e1
    ·rw[gold k' hkn'];exact e2
    ·rw[(addNums_base ys h).2];exact e3
   ·rw[gold k hkn] at hk
    rw[mold k hkn] at hm
    rw[m3new j' (List.getElem?_eq_some_iff.1 hy').1] at hm'
    exact .inr ⟨one j' y' k o r s' s hy' hkn hk ha hm' hm,rfl⟩
  ·rcases isnew k' o' hk' with hkn'|⟨j',y',rfl,hy',rfl⟩
   ·rw[gold k' hkn'] at hk'
    rw[mold k' hkn'] at hm'
    rw[m3new j (List.getElem?_eq_some_iff.1 hy).1] at hm
    exact .inr ⟨rfl,one j y k' o' r s s' hy hkn' hk' ha' hm hm'⟩
   ·exact .inr ⟨rfl,rfl⟩
 ·intro f st hf
  rw[(addNums_base ys h).2] at hf
  obtain⟨a,b,c⟩:=R.famdom f st hf
  rw[nn]
  exact⟨by omega,fun x hx=>by have:=b x hx;omega,c⟩
 ·intro k cs t f hk
  rcases isnew k _ hk with hkn|⟨j,y,_,_,e⟩
  ·rw[gold k hkn] at hk
   rw[(addNums_base ys h).2]
   exact R.fam k cs t f hk
  ·cases e
 ·intro f st hf
  rw[(addNums_base ys h).2] at hf
  refine(R.long f st hf).imp fun {x y} hxy=>?_
  intro cs t g cs' t' g' r s s' h1 h3 h4 h5
  have c1:x<h.n:=by
   rcases isnew x _ h1 with h6|⟨_,_,_,_,e⟩
   ·exact h6
   ·cases e
  have c2:y<h.n:=by
   rcases isnew y _ h3 with h6|⟨_,_,_,_,e⟩
   ·exact h6
   ·cases e
  rw[gold x c1] at h1
  rw[gold y c2] at h3
  rw[mold x c1] at h4
  rw[mold y c2] at h5
  exact hxy cs t g cs' t' g' r s s' h1 h3 h4 h5
 ·intro f st x y hf hx hy hs
  rw[(addNums_base ys h).2] at hf
  have b:=(R.famdom f st hf).2.1
  rw[mold x (b x hx)] at hs
  rw[mold y (b y hy)]
  exact R.whole f st x y hf hx hy hs
 ·intro b hb
  refine⟨b / 2,?_⟩
  rw[nn]
  by_cases c:b % 2=0∧h.n≤b / 2∧b / 2<h.n+ys.length
  ·exact⟨by omega,c.2⟩
  ·exact absurd (m3old b c) hb
 ·intro k r s h1 h3 h4
  rw[nn] at h3
  have:=m3new (k - h.n) (by omega)
  rw[show h.n+(k - h.n)=k from by omega,h4] at this
  obtain⟨y,_,_,hl⟩:=lf_some _ r s this.symm
  rcases hl.src with h5|⟨i,b,x,s0,hb1,hx1,hm1⟩
  ·exact .inl h5
  ·obtain⟨t1,t2⟩:=T.2 i b x hb1 hx1
   exact .inr ⟨b / 2,s0,oldn _ _ t2,by rw[show 2*(b / 2)=b from by omega];exact hm1⟩
 ·intro k hk hm hn f st hf
  rw[(addNums_base ys h).2] at hf
  exact hn f st hf
end Go.Id

namespace Go.Id
open Go
theorem digs_step {x:Nat} (h:x≠0):digs x=x % 18446744073709551616 :: digs (x / 18446744073709551616):=by
 rw[digs,dif_neg h]
theorem digs_val (x:Nat):B.valD (digs x)=x:=by
 induction x using Nat.strongRecOn with
 | ind x ih =>
  by_cases h:x=0
  ·subst h;rw[digs_zero];rfl
  ·rw[digs_step h,B.valD_cons,ih _ (Nat.div_lt_self (by omega) (by decide))]
   exact Nat.mod_add_div x _
theorem digs_digs (x:Nat):B.Digs (digs x):=by
 induction x using Nat.strongRecOn with
 | ind x ih =>
  by_cases h:x=0
  ·subst h;rw[digs_zero];intro d hd;cases hd
  ·rw[digs_step h]
   intro d hd
   rcases List.mem_cons.1 hd with rfl|hd
   ·exact Nat.mod_lt _ (by decide)
   ·exact ih _ (Nat.div_lt_self (by omega) (by decide)) d hd
theorem digs_norm (x:Nat):B.Norm (digs x):=by
 induction x using Nat.strongRecOn with
 | ind x ih =>
  by_cases h:x=0
  ·subst h;rw[digs_zero];exact .inl rfl
  ·rw[digs_step h]
   right
   have ih:=ih _ (Nat.div_lt_self (by omega) (by decide:1<18446744073709551616))
   by_cases h2:x / 18446744073709551616=0
   ·rw[h2,digs_zero]
    show x % 18446744073709551616≠0
    have:=Nat.mod_add_div x 18446744073709551616
    rw[h2] at this;omega
   ·rcases ih with e|e
    ·have:=digs_val (x / 18446744073709551616)
     rw[e] at this
     exact absurd this.symm h2
    ·have hl:0<(digs (x / 18446744073709551616)).length:=by
      rw[digs_step h2];simp
     rw[List.length_cons,show(digs (x / 18446744073709551616)).length+1 - 1=((digs (x / 18446744073709551616)).length - 1)+1 from by omega,List.getD_cons_succ]
     exact e
theorem wlen_lt (x:Nat):x<18446744073709551616 ^ wlen x:=by
 have:=B.valD_lt (digs_digs x)
 rwa [digs_val] at this
noncomputable def wlK (f:Nat):Nat→Nat:=Nat.rec (motive:=fun _=>Nat→Nat) (fun _=>0) (fun _ ih x=>Bool.rec (motive:=fun _=>Nat) (fN (Nat.div x 18446744073709551616) fun y=>Nat.succ (ih y)) 0 (Nat.beq x 0)) f
theorem wlen_step {x:Nat} (h:x≠0):wlen x=wlen (x / 18446744073709551616)+1:=by
 unfold wlen
 rw[digs_step h,List.length_cons]
theorem wlK_eq : ∀(f x:Nat),x≤f→wlK f x=wlen x
 | 0,x,h=>by
  obtain rfl:x=0:=by omega
  exact(wlen_zero.2 rfl).symm
 | f+1,x,h=>by
  show Bool.rec (motive:=fun _=>Nat) (fN (Nat.div x 18446744073709551616) fun y=>Nat.succ (wlK f y)) 0 (Nat.beq x 0)=_
  rw[fN_eq]
  show Bool.rec (motive:=fun _=>Nat) (wlK f (x / 18446744073709551616)+1) 0 (Nat.beq x 0)=_
  by_cases hx:x=0
  ·subst hx
   exact(wlen_zero.2 rfl).symm
  ·have hlt:x / 18446744073709551616<x:=Nat.div_lt_self (by omega) (by decide)
   rw[wlK_eq f _ (by omega),wlen_step hx]
   cases hb:Nat.beq x 0 with
   | true=>exact absurd (Nat.beq_eq.mp hb) hx
   | false=>rfl
noncomputable def wlenK (x:Nat):Nat:=wlK x x
theorem wlenK_eq (x:Nat):wlenK x=wlen x:=wlK_eq x x (Nat.le_refl x)
end Go.Id

/-
  The rows' common part: wide numbers, bytes, integers, drafted kernels that came in.
-/
import Derived.Test.YtnnmjocmapilaaaGreatOutlierRisesAs
set_option linter.unusedVariables false
set_option linter.unusedSimpArgs false
set_option linter.defProp false
set_option linter.deprecated false
namespace Go.Proofs.YtnnmjocmapilaaaGreat
open Go.ChangeShapes Go.WideShapes Go.ChangeAt Go.RowKit Go.Id
def Z6:Tryz.prog.underlying 22=some (.slice 5):=by kernel_rfl
def zJ:Tryz.prog.underlying 24=some (.struct { toList:=[{ name := "Size",type:=5,offset:=0,embedded:=false,tag := "",pkgPath := "",byteOffset:=0 },{ name := "N",type:=22,offset:=1,embedded:=false,tag := "",pkgPath := "",byteOffset:=8 }] }):=by kernel_rfl
theorem c_u8:Tryz.prog.cellsOf 5=1:=by kernel_rfl
theorem Zco:Tryz.prog.cellsOf 22=1:=by kernel_rfl
theorem Tp:Tryz.prog.cellsOf 24=2:=by kernel_rfl
def Hy {f:Nat→Value} {m:Nat} : ∀(n:Nat) (cs:List Value),cs.length=n*1→(∀i,i<n → ∃p,p<m∧(cs.drop (i*1)).take 1 = [f p]) → ∃ps:List Nat,ps.length=n∧cs=ps.map f ∧ ∀p∈ps,p<m
 | 0,cs,h,_=>⟨[],rfl,by simpa using h,fun p hp=>by cases hp⟩
 | n+1,[],h,_=>by simp at h
 | n+1,c :: cs,h,k=>by
  obtain⟨p,h1,h2⟩:=k 0 (by omega)
  obtain⟨ps,h3,h4,h5⟩:=Hy n cs (by simp at h ⊢;omega) fun i hi=>by
   obtain⟨q,h6,h7⟩:=k (i+1) (by omega)
   exact⟨q,h6,by simpa using h7⟩
  refine⟨p :: ps,by simp[h3],?_,fun q hq=>?_⟩
  ·simp at h2;rw[List.map_cons,h2,h4]
  ·rcases List.mem_cons.1 hq with rfl|hq
   ·exact h1
   ·exact h5 q hq
section
variable {H:Type} {enc:TypeId×Value→H} {W:World} {held:Bool}
variable {fuel:Nat}{x:DataW H×List MemPlace}
def Jf (G:Nat→Option (List Value)) {cs0:List Value} (h:DataW.trod enc Tryz.prog W 0 (fun _=>true) held fuel 22 cs0=some x) :
  ∃v l,cs0 = [v]∧dB v=true∧xK (IH.start (zP G W)) (trV v) l:=by
 obtain⟨v,n,cs,e1,ht,hn,hs,hR⟩:=tY (R:=fun cs => ∃p:Nat,p<256∧cs.map trV = [B8 p]) Z6 c_u8 (by omega) (fun n cs x hx=>by
  obtain⟨i,rfl,hi⟩:=uQ (m:=255) rfl rfl XE hx
  exact⟨⟨i,by omega,rfl⟩,fun y hy=>by rw[List.mem_singleton.1 hy];rfl⟩) G h
 obtain⟨ps,h1,h2,h3⟩:=Hy (f:=B8) (m:=256) n (cs.map trV) hs.2.1 fun i hi=>by
  obtain⟨p,hp,e⟩:=hR i hi
  exact⟨p,hp,by rw[←List.map_drop,←List.map_take];exact e⟩
 subst h1
 exact⟨v,ps,e1,ht,h2▸hs,Nat.lt_of_le_of_lt hn (by decide),h3⟩
def Vc {α:Type} : ∀{l:List α},l.length=2 → ∃a b,l = [a,b]
 | [a,b],_=>⟨a,b,rfl⟩
def C7 (G:Nat→Option (List Value)) {cs:List Value} (h:DataW.trod enc Tryz.prog W 0 (fun _=>true) held fuel 24 cs=some x) :
  ∃k y l,cs = [B8 k,y]∧k<256∧dB y=true∧xK (IH.start (zP G W)) (trV y) l:=by
 obtain⟨xs,m,_,_,hl,hn,hf⟩:=DataW.trod_struct zJ h
 rw[Tp] at hl
 have hn2:xs.length=2:=hn
 obtain⟨x0,hx0⟩:=iC (l:=xs) (i:=0) (by omega)
 have f0:DataW.trod enc Tryz.prog W 0 (fun _=>true) held m 5 ((cs.drop 0).take (Tryz.prog.cellsOf 5))=some x0:=(hf 0 { name := "Size",type:=5,offset:=0,embedded:=false,tag := "",pkgPath := "",byteOffset:=0 } rfl).trans hx0
 obtain⟨x1,hx1⟩:=iC (l:=xs) (i:=1) (by omega)
 have f1:DataW.trod enc Tryz.prog W 0 (fun _=>true) held m 22 ((cs.drop 1).take (Tryz.prog.cellsOf 22))=some x1:=(hf 1 { name := "N",type:=22,offset:=1,embedded:=false,tag := "",pkgPath := "",byteOffset:=8 } rfl).trans hx1
 rw[c_u8] at f0
 rw[Zco] at f1
 obtain⟨a,b,rfl⟩:=Vc hl
 obtain⟨k,e0,hk⟩:=uQ (m:=255) rfl rfl XE f0
 obtain⟨v,l,e1,t1,s1⟩:=Jf G f1
 cases e0;cases e1
 exact⟨k,_,l,rfl,by omega,t1,s1⟩
end
def Bi {H:Type} {enc:TypeId×Value→H} {W:World} {held:Bool} (G:Nat→Option (List Value)) {fuel:Nat} {cs:List Value} {x:DataW H×List MemPlace} (h:DataW.trod enc Tryz.prog W 0 (fun _=>true) held fuel 58 cs=some x) :
  ∃b1 y1 n1 b2 y2 n2,cs = [.bool b1,y1,.int .u32 n1,.bool b2,y2,.int .u32 n2]∧(dB y1=true∧dB y2=true)∧(aB (trV y1)=true∧aB (trV y2)=true∧(0≤n1∧n1<4294967296)∧(0≤n2∧n2<4294967296)):=by
 obtain⟨xs,m,_,_,hl,hn,hf⟩:=DataW.trod_struct uP h
 rw[FK] at hl
 have hn2:xs.length=2:=hn
 obtain⟨x0,hx0⟩:=iC (l:=xs) (i:=0) (by omega)
 have f0:DataW.trod enc Tryz.prog W 0 (fun _=>true) held m 56 ((cs.drop 0).take (Tryz.prog.cellsOf 56))=some x0:=(hf 0 { name := "N",type:=56,offset:=0,embedded:=false,tag := "",pkgPath := "",byteOffset:=0 } rfl).trans hx0
 obtain⟨x1,hx1⟩:=iC (l:=xs) (i:=1) (by omega)
 have f1:DataW.trod enc Tryz.prog W 0 (fun _=>true) held m 56 ((cs.drop 3).take (Tryz.prog.cellsOf 56))=some x1:=(hf 1 { name := "D",type:=56,offset:=3,embedded:=false,tag := "",pkgPath := "",byteOffset:=40 } rfl).trans hx1
 rw[BB] at f0 f1
 obtain⟨a,b,c,d,e,f,rfl⟩:=len6 hl
 obtain⟨b1,y1,n1,e0,o1,t1,r1⟩:=zi G f0
 obtain⟨b2,y2,n2,e1,o2,t2,r2⟩:=zi G f1
 cases e0;cases e1
 exact⟨b1,_,n1,b2,_,n2,rfl,⟨t1,t2⟩,o1,o2,r1,r2⟩
end Go.Proofs.YtnnmjocmapilaaaGreat
namespace Go.Id
open Go Go.RowKit
def gK (x:Nat):Nat:=(rQ x).length
def mZ (b x:Nat):Value:=.slice (some ⟨b,0,some 0⟩) (gK x) 0
theorem ke:rQ 0 = []:=by rw[rQ];simp
def gA {x:Nat}:gK x=0↔x=0:=by
 unfold gK
 constructor
 ·intro h
  rw[rQ] at h
  split at h
  ·assumption
  ·simp at h
 ·rintro rfl;rw[ke];rfl
theorem jj (x:Nat):(fS x).length=gK x:=by simp[fS,gK]
theorem DX:fS 0 = []:=by unfold fS;rw[ke];rfl
def fV (xs:List Nat) (b:Nat):Option (List Value):=match xs[b - 4294967296]? with
 | some x=>if 4294967296≤b∧x≠0 then some (fS x) else none
 | none=>none
def BQ (xs:List Nat) (i:Nat) (u:Value):Prop:=∃x,xs[i]?=some x∧((x=0∧(u=.slice none 0 0∨u=.slice (some ⟨0,0,none⟩) 0 0))∨(x≠0 ∧ ∃cap,gK x≤cap∧u=.slice (some ⟨2*(4294967296+i)+1,0,none⟩) (gK x) (2*cap+1)))
def Para (mk:List Value→Value) (n:Nat):Prop:=∀(m:Mp) (ss:List Value) (v':Value),ss.length=n→aG m (mk ss) v' → ∃ss',bw m ss ss' ∧ ∀(m2:Mp) (us:List Value),bw m2 us ss'→aG m2 (mk us) v'
def NJ (mk:List Value→List Value) (n:Nat):Prop:=∀(m:Mp) (ss vs':List Value),ss.length=n→bw m (mk ss) vs' → ∃ss',bw m ss ss' ∧ ∀(m2:Mp) (us:List Value),bw m2 us ss'→bw m2 (mk us) vs'
variable {n:Nat}{m:Mp}
def aG.Lz {b:Nat} {v':Value} (h:aG m (.slice (some ⟨b,0,some 0⟩) n 0) v') : ∃a cap,v'=.slice a n cap∧n≤cap∧((n=0∧(a=none→cap=0)) ∨ ∃r s,m b=some (r,s)∧a=some ⟨r,s,none⟩):=by
 cases h with
 | bA h=>simp[Id.bA] at h
 | tok hc h=>exact⟨_,_,rfl,hc,h⟩
def P0 (h:IH) (bs xs:List Nat):Prop:=bs.length=xs.length ∧ ∀(i b x:Nat),bs[i]?=some b→xs[i]?=some x→b % 2=0∧h.ext.get (b / 2)=some (.num x)
def iW:List Nat→List Nat→List Value
 | b :: bs,x :: xs=>mZ b x :: iW bs xs
 | _,_ => []
theorem pj : ∀(bs xs:List Nat) (i b x:Nat),bs[i]?=some b→xs[i]?=some x→(iW bs xs)[i]?=some (mZ b x)
 | [],_,_,_,_,h,_=>by simp at h
 | _ :: _,[],_,_,_,_,h=>by simp at h
 | b :: bs,x :: xs,0,b',x',h1,h2=>by simp at h1 h2;subst h1;subst h2;rfl
 | b :: bs,x :: xs,i+1,b',x',h1,h2=>by
  simp at h1 h2
  exact pj bs xs i b' x' h1 h2
theorem ph : ∀(bs xs:List Nat),bs.length=xs.length→(iW bs xs).length=xs.length
 | [],[],_=>rfl
 | [],_ :: _,h=>by simp at h
 | _ :: _,[],h=>by simp at h
 | b :: bs,x :: xs,h=>by
  show(iW bs xs).length+1=xs.length+1
  rw[ph bs xs (by simpa using h)]
variable {xs:List Nat}{h:IH}{bs:List Nat}{w0 w:World}{B:Nat}
def Rel.tc (R:Rel B w0 m h w) (T:P0 h bs xs) {ss':List Value} (hs:bw m (iW bs xs) ss') :
  ∃m2:Mp,(∀k,m2 (2*k)=none)∧(∀(i b x:Nat),bs[i]?=some b→xs[i]?=some x→x≠0→m2 (2*(4294967296+i)+1)=m b)∧Rel w.heap.size w m2 (IH.start (fV xs)) w ∧ ∃us,us.length=xs.length∧bw m2 us ss' ∧ ∀(i:Nat) (u:Value),us[i]?=some u→BQ xs i u:=by
 have loc : ∀(i b x:Nat),bs[i]?=some b→xs[i]?=some x→x≠0 → ∃r s c el,m b=some (r,s)∧r<w.heap.size∧w.heap[r]?=some (.cells c el)∧nV m (fS x) c s:=by
  intro i b x hb hx x0
  obtain⟨v',h1,h2⟩:=hs.get (pj bs xs i b x hb hx)
  obtain⟨a,cap,rfl,hc,⟨e,_⟩|⟨r,s,hm,rfl⟩⟩:=h2.Lz
  ·exact absurd (gA.1 e) x0
  ·obtain⟨t1,t2⟩:=T.2 i b x hb hx
   have hm2:m (2*(b / 2))=some (r,s):=by rw[show 2*(b / 2)=b from by omega];exact hm
   rcases R.obj (b / 2) _ r s t2 hm2 with h3|⟨c,el,h3,h4⟩
   ·exact absurd h3 x0
   ·exact⟨r,s,c,el,hm,(R.even _ r s hm2).2,h3,h4⟩
 refine⟨⟨fun j=>if j % 2=0 then none else if j / 2<4294967296 then m j else match bs[j / 2 - 4294967296]? with|some b=>m b|none=>none,m.ez⟩,fun k=>?_,fun i b x hb hx x0=>?_,?_,?_⟩
 ·show(if 2*k % 2=0 then none else _)=none
  rw[if_pos (by omega)]
 ·show(if (2*(4294967296+i)+1) % 2=0 then none else if (2*(4294967296+i)+1) / 2<4294967296 then m (2*(4294967296+i)+1) else match bs[(2*(4294967296+i)+1) / 2 - 4294967296]? with|some b=>m b|none=>none)=m b
  rw[if_neg (by omega),if_neg (by omega),show(2*(4294967296+i)+1) / 2 - 4294967296=i from by omega,hb]
 ·have leaf : ∀{α:Type} (k:Nat),(Tr.leaf:Tr α).get k=none:=fun k=>rfl
  have even : ∀k x,(⟨fun j=>if j % 2=0 then none else if j / 2<4294967296 then m j else match bs[j / 2 - 4294967296]? with|some b=>m b|none=>none,m.ez⟩:Mp) (2*k)=some x→False:=by
   intro k x h
   have h1:(if 2*k % 2=0 then none else _)=some x:=h
   rw[if_pos (by omega)] at h1;cases h1
  refine⟨Below.refl _ _,Nat.le_refl _,?_,fun b hb=>?_,?_,fun k _=>leaf k,?_,?_,?_,?_,?_,?_⟩
  ·intro b cs hcs
   have hcs:fV xs b=some cs:=hcs
   unfold fV at hcs
   split at hcs
   case h_2=>cases hcs
   rename_i x hx
   split at hcs
   case isFalse=>cases hcs
   rename_i hb
   cases hcs
   have hi:b - 4294967296<bs.length:=by rw[T.1];exact(List.getElem?_eq_some_iff.1 hx).1
   obtain⟨b',hb'⟩ : ∃b',bs[b - 4294967296]?=some b':=⟨_,List.getElem?_eq_getElem hi⟩
   obtain⟨r,s,c,el,h1,h2,h3,h4⟩:=loc _ b' x hb' hx hb.2
   refine⟨r,s,?_,h2,c,el,_,h3,h4.1,fun i v hv=>?_⟩
   ·show(if (2*b+1) % 2=0 then none else if (2*b+1) / 2<4294967296 then m (2*b+1) else match bs[(2*b+1) / 2 - 4294967296]? with|some b=>m b|none=>none)=some (r,s)
    rw[if_neg (by omega),if_neg (by omega),show(2*b+1) / 2 - 4294967296=b - 4294967296 from by omega,hb']
    exact h1
   ·obtain⟨v',a,e⟩:=h4.2 i v hv
    unfold fS at hv
    rw[List.getElem?_map] at hv
    obtain⟨d,_,rfl⟩:=Option.map_eq_some_iff.1 hv
    exact⟨v',a,by rw[e.cu rfl];exact .bA rfl⟩
  ·show(if (2*b+1) % 2=0 then none else if (2*b+1) / 2<4294967296 then m (2*b+1) else _)=some (b,0)
   rw[if_neg (by omega),if_pos (by omega)]
   exact R.odd b hb
  ·intro k r s h;exact(even _ _ h).elim
  ·intro k o r s h;cases h
  ·intro k k' o o' r s s' _ h;cases h
  ·intro f st h;cases h
  ·intro k cs t f h;cases h
  ·intro f st h;cases h
  ·intro f st x y h;cases h
 ·-- the arguments
  obtain⟨m2,hm2⟩:=aT (⟨fun j=>if j % 2=0 then none else if j / 2<4294967296 then m j else match bs[j / 2 - 4294967296]? with|some b=>m b|none=>none,m.ez⟩:Mp)
  rw[←hm2]
  have at2 : ∀(i b:Nat),bs[i]?=some b→m2 (2*(4294967296+i)+1)=m b:=by
   intro i b hb
   rw[hm2]
   show(if (2*(4294967296+i)+1) % 2=0 then none else if (2*(4294967296+i)+1) / 2<4294967296 then m (2*(4294967296+i)+1) else match bs[(2*(4294967296+i)+1) / 2 - 4294967296]? with|some b=>m b|none=>none)=m b
   rw[if_neg (by omega),if_neg (by omega),show(2*(4294967296+i)+1) / 2 - 4294967296=i from by omega,hb]
  have lt:=ph bs xs T.1
  have ex : ∀i,i<xs.length → ∃u s',ss'[i]?=some s'∧aG m2 u s'∧BQ xs i u:=by
   intro i hi
   obtain⟨x,hx⟩:=iC (l:=xs) (i:=i) hi
   obtain⟨b,hb⟩:=iC (l:=bs) (i:=i) (by rw[T.1];exact hi)
   obtain⟨v',h1,h2⟩:=hs.get (pj bs xs i b x hb hx)
   obtain⟨a,cap,rfl,hc,nL⟩:=h2.Lz
   by_cases x0:x=0
   ·subst x0
    have w0:gK 0=0:=gA.2 rfl
    rw[w0] at h1 h2 hc nL
    cases a with
    | none =>
     have c0:cap=0:=by
      rcases nL with⟨_,h3⟩|⟨_,_,_,h3⟩
      ·exact h3 rfl
      ·cases h3
     subst c0
     exact⟨.slice none 0 0,_,h1,.bA rfl,0,hx,.inl ⟨rfl,.inl rfl⟩⟩
    | some a=>exact⟨.slice (some ⟨0,0,none⟩) 0 0,_,h1,.lost,0,hx,.inl ⟨rfl,.inr rfl⟩⟩
   ·rcases nL with⟨e,_⟩|⟨r,s,hm,rfl⟩
    ·exact absurd (gA.1 e) x0
    ·refine⟨.slice (some ⟨2*(4294967296+i)+1,0,none⟩) (gK x) (2*cap+1),_,h1,?_,x,hx,.inr ⟨x0,cap,hc,rfl⟩⟩
     have:=aG.slice (m:=m2) (b:=2*(4294967296+i)+1) (o:=0) (r:=r) (s:=s) (len:=gK x) (k:=2*cap+1) (cap:=cap) ((at2 i b hb).trans hm) (by omega) (by omega) (by omega) (fun _=>by omega) (fun h9=>by omega)
     exact this
  have key:=fun i (hi:i<xs.length)=>(ex i hi)
  refine⟨(List.range xs.length).map fun i=>if hi:i<xs.length then Classical.choose (ex i hi) else .slice none 0 0,by simp,⟨by rw[List.length_map,List.length_range,←hs.1,lt],fun i v v' hv hv'=>?_⟩,fun i u hu=>?_⟩
  ·rw[List.getElem?_map] at hv
   obtain⟨j,hj,rfl⟩:=Option.map_eq_some_iff.1 hv
   obtain⟨hj1,hj2⟩:=List.getElem?_eq_some_iff.1 hj
   rw[List.length_range] at hj1
   rw[List.getElem_range] at hj2
   subst hj2
   rw[dif_pos hj1]
   obtain⟨s',e1,e2,_⟩:=Classical.choose_spec (ex i hj1)
   rw[hv'] at e1;cases e1
   exact e2
  ·rw[List.getElem?_map] at hu
   obtain⟨j,hj,rfl⟩:=Option.map_eq_some_iff.1 hu
   obtain⟨hj1,hj2⟩:=List.getElem?_eq_some_iff.1 hj
   rw[List.length_range] at hj1
   rw[List.getElem_range] at hj2
   subst hj2
   rw[dif_pos hj1]
   obtain⟨s',_,_,e3⟩:=Classical.choose_spec (ex i hj1)
   exact e3
def gJ (h:IH):List Nat→IH
 | []=>h
 | y :: ys=>gJ (h.new (.num y)) ys
theorem sX : ∀(ys:List Nat) (h:IH),(gJ h ys).n=h.n+ys.length
 | [],h=>rfl
 | y :: ys,h=>by
  show(gJ (h.new (.num y)) ys).n=_
  rw[sX ys]
  show h.n+1+ys.length=h.n+(ys.length+1)
  omega
theorem dV : ∀(ys:List Nat) (h:IH),(gJ h ys).base=h.base∧(gJ h ys).bP=h.bP
 | [],h=>⟨rfl,rfl⟩
 | y :: ys,h=>dV ys (h.new (.num y))
theorem kZ : ∀(ys:List Nat) (h:IH) (k:Nat),(gJ h ys).ext.get k=if h.n≤k∧k<h.n+ys.length then (ys[k - h.n]?).map .num else h.ext.get k
 | [],h,k=>by rw[if_neg (by simp)];rfl
 | y :: ys,h,k=>by
  show(gJ (h.new (.num y)) ys).ext.get k=_
  rw[kZ ys]
  have n1:(h.new (.num y)).n=h.n+1:=rfl
  have g1:(h.new (.num y)).ext.get k=if k=h.n then some (.num y) else h.ext.get k:=by
   show(h.ext.set h.n _).get k=_
   rw[Tr.bL]
  rw[n1,g1,List.length_cons]
  by_cases c:h.n+1≤k∧k<h.n+1+ys.length
  ·rw[if_pos c,if_pos ⟨by omega,by omega⟩,show k - h.n=(k - (h.n+1))+1 from by omega,List.getElem?_cons_succ]
  ·rw[if_neg c]
   by_cases e:k=h.n
   ·rw[if_pos e,if_pos ⟨by omega,by omega⟩,e,Nat.sub_self];rfl
   ·rw[if_neg e,if_neg (by omega)]
variable {f:FuncId}{args':Array Value}{P:Program}{mk:List Value→List Value}
def CR (S:Sound (E0 P)) (R:Rel B w0 m h w) (T:P0 h bs xs) (par:NJ mk xs.length) (ha:bw m (mk (iW bs xs)) args'.toList)
  (hb : ∃fn,P.funcs[f]?=some fn∧fn.body.isSome=true) {K:Value→IH→Prop} (hw : ∀us,us.length=xs.length→(∀(i:Nat) (u:Value),us[i]?=some u→BQ xs i u)→WV P (.func (.func f) #[] #[]) (mk us) (IH.start (fV xs)) K) :
  ∃m2:Mp,(∀k,m2 (2*k)=none)∧(∀(i b x:Nat),bs[i]?=some b→xs[i]?=some x→x≠0→m2 (2*(4294967296+i)+1)=m b) ∧ ∃r h2,K r h2∧kO P f args' w.heap.size w m2 (IH.start (fV xs)) w r h2:=by
 obtain⟨ss',h1,h2⟩:=par m (iW bs xs) args'.toList (ph bs xs T.1) ha
 obtain⟨m2,e1,e2,R2,us,e3,e4,e5⟩:=R.tc T h1
 obtain⟨⟨r,hh⟩,⟨N,hN⟩,hK⟩:=hw us e3 e5
 refine⟨m2,e1,e2,r,hh,hK,?_⟩
 have hc:cc (E0 P) (N+1) (.func (.func f) #[] #[]) (mk us) (IH.start (fV xs))=some (r,hh):=hN (N+1) (by omega)
 unfold cc at hc
 obtain⟨fn,hfn,hb⟩:=hb
 rcases uF S (oX S N) (ig S N) hc R2 (args':=args') (by simpa using h2 m2 us e4) (fun k _ _=>e1 k) with⟨_,k⟩|⟨fn',k1,k2,_⟩
 ·exact k
 ·have k3:P.funcs[f]?=some fn':=k1
  rw[hfn] at k3;cases k3
  rw[k2] at hb;cases hb
variable {m':Mp}{w':World}
def Rel.ZB {h':IH} (R:Rel B w0 m h w) (R':Rel w.heap.size w m' h' w'):Rel B w0 m h w'∧Step m h w m h w':=by
 have same : ∀r,r<w.heap.size→w'.heap[r]?=w.heap[r]?:=fun r hr=>R'.below.block r hr
 refine⟨⟨R.below.trans (R'.below.mono R.size),Nat.le_trans R.size R'.size,fun b cs hb=>?_,R.odd,fun k r s hk=>?_,R.dom,fun k o r s hk hm=>?_,R.own,R.du,R.fam,R.long,R.whole⟩,
  ⟨Mp.le_refl m,fun b hb=>absurd rfl hb,Nat.le_refl _,rfl,fun r hr _=>same r hr,fun _ _ _=>rfl,R'.size,fun k r s h1 h2=>by omega,fun _ _ _ hh=>hh⟩⟩
 ·obtain⟨r,s,h1,h2,c,el,fz,h3,h4⟩:=R.base b cs hb
  exact⟨r,s,h1,h2,c,el,fz,by rw[same r (by have:=R.size;omega)];exact h3,h4⟩
 ·have:=R.even k r s hk
  have:=R'.size
  exact⟨by omega,by omega⟩
 ·exact(R.obj k o r s hk hm).same (same r (R.even k r s hm).2)
def OO (S:Sound (E0 P)) (R:Rel B w0 m h w) (T:P0 h bs xs) (par:NJ mk xs.length) (ha:bw m (mk (iW bs xs)) args'.toList)
  (hb : ∃fn,P.funcs[f]?=some fn∧fn.body.isSome=true) {v:Value} (hv:mF v=true) (hw : ∀us,us.length=xs.length→(∀(i:Nat) (u:Value),us[i]?=some u→BQ xs i u)→WV P (.func (.func f) #[] #[]) (mk us) (IH.start (fV xs)) fun r _=>r=v):kO P f args' B w0 m h w v h:=by
 obtain⟨m2,_,_,r,hh,rfl,key⟩:=CR S R T par ha hb hw
 refine key.mono fun e' w' ⟨v',m',he,hvr,R',S'⟩=>?_
 obtain⟨R2,S2⟩:=R.ZB R'
 exact⟨v',m,he,by rw[hvr.CN hv];exact .CM hv,R2,S2⟩
def wG (h:IH) (u:Value) (y:Nat):Prop:=bH h 1 u (gK y) (fS y)
def CT (n k:Nat):List Nat:=(List.range k).map fun j=>2*(n+j)
theorem OT {k j:Nat} (h:j<k):(CT n k)[j]?=some (2*(n+j)):=by unfold CT;rw[List.getElem?_map,List.getElem?_range h];rfl
theorem OS (n k:Nat):(CT n k).length=k:=by simp[CT]
structure FY (m:Mp) (w w':World) (bs xs:List Nat) (y:Nat) (r s:Nat):Prop where
 lt:r<w'.heap.size
 row : ∃c el,w'.heap[r]?=some (.cells c el)∧nV m (fS y) c s
 src:w.heap.size≤r ∨ ∃(i b x s0:Nat),bs[i]?=some b∧xs[i]?=some x∧m b=some (r,s0)
def G8 {row ws:List Value} {c:Array Value} {q o:Nat} (hr:nV m' row c q) (hw:(row.drop o).take ws.length=ws) (hle:o+ws.length≤row.length) (hs : ∀v∈ws,bA v=true):nV m ws c (q+o):=by
 refine⟨by have:=hr.1;omega,fun i v hv=>?_⟩
 have hi:=(List.getElem?_eq_some_iff.1 hv).1
 have hv2:row[o+i]?=some v:=by
  rw[←hw,List.getElem?_take_of_lt hi,List.getElem?_drop] at hv
  exact hv
 obtain⟨v',a,b⟩:=hr.2 _ v hv2
 have sc:=hs v (List.mem_of_getElem? hv)
 exact⟨v',by rw[Nat.add_assoc];exact a,by rw[b.cu sc];exact .bA sc⟩
def zB (x:Nat) : ∀v∈fS x,bA v=true:=by
 intro v hv
 obtain⟨d,_,rfl⟩:=List.mem_map.1 hv
 rfl
def UY {m2:Mp} {h2:IH} (R:Rel B w0 m h w) (T:P0 h bs xs) (mP : ∀(i b x:Nat),bs[i]?=some b→xs[i]?=some x→x≠0→m2 (2*(4294967296+i)+1)=m b)
  (R':Rel w.heap.size w m' h2 w') (S':Step m2 (IH.start (fV xs)) w m' h2 w') {u u':Value} {y:Nat} (hu:wG h2 u y) (hv:aG m' u u') :
  ∃a cap,u'=.slice a (gK y) cap∧gK y≤cap∧((y=0∧(a=none→cap=0))∨(y≠0 ∧ ∃r s,a=some ⟨r,s,none⟩∧FY m w w' bs xs y r s)):=by
 obtain⟨_,hl,⟨rfl,n0⟩|⟨b,o,k,rfl,⟨n0,k0⟩|⟨k0,hn,row,hb,fA,htk,hle⟩⟩⟩:=hu
 ·obtain⟨_,_,rfl⟩:=hv.lV
  exact⟨none,0,by rw[n0],by omega,.inl ⟨gA.1 n0,fun _=>rfl⟩⟩
 ·subst k0
  rcases hv.dI with⟨r,s,cap,_,h0,_⟩|⟨_,_,a,cap,rfl⟩
  ·omega
  ·exact⟨some a,cap,by rw[n0],by omega,.inl ⟨gA.1 n0,fun h=>by cases h⟩⟩
 ·rcases hv.dI with⟨r,q,cap,hm,_,_,mQ,_,_,rfl⟩|⟨_,e,_⟩
  ·refine⟨_,cap,rfl,by omega,?_⟩
   by_cases y0:y=0
   ·exact .inl ⟨y0,fun h=>by cases h⟩
   ·refine .inr ⟨y0,r,q+o,rfl,?_⟩
    have htk':(row.drop o).take (fS y).length=fS y:=by rw[jj];rw[Nat.mul_one] at htk;exact htk
    have Se:o+(fS y).length≤row.length:=by rw[jj];omega
    by_cases bo:b % 2=1
    ·have hr2:h2.base (b / 2)=some row:=by
      unfold IH.row at fA
      simpa [bo] using fA
     rw[S'.base] at hr2
     have hr2:fV xs (b / 2)=some row:=hr2
     unfold fV at hr2
     split at hr2
     case h_2=>cases hr2
     rename_i x hx
     split at hr2
     case isFalse=>cases hr2
     rename_i Vy
     cases hr2
     obtain⟨b',hb'⟩ : ∃b',bs[b / 2 - 4294967296]?=some b':=⟨_,List.getElem?_eq_getElem (by rw[T.1];exact(List.getElem?_eq_some_iff.1 hx).1)⟩
     have e1:=mP _ b' x hb' hx Vy.2
     rw[show 2*(4294967296+(b / 2 - 4294967296))+1=b from by omega] at e1
     have e2:m' b=m2 b:=Classical.byContradiction fun hne=>by
      obtain⟨k9,e9,_⟩:=S'.new b hne
      omega
     have hmb:m b'=some (r,q):=by rw[←e1,←e2];exact hm
     obtain⟨t1,t2⟩:=T.2 _ b' x hb' hx
     have hmb2:m (2*(b' / 2))=some (r,q):=by rw[show 2*(b' / 2)=b' from by omega];exact hmb
     have hev:=R.even _ r q hmb2
     rcases R.obj (b' / 2) _ r q t2 hmb2 with h3|⟨c,el,h3,h4⟩
     ·exact absurd h3 Vy.2
     ·have same:w'.heap[r]?=w.heap[r]?:=R'.below.block r hev.2
      exact⟨by have:=R'.size;omega,⟨c,el,by rw[same];exact h3,G8 h4 htk' Se (zB y)⟩,.inr ⟨_,b',x,q,hb',hx,hmb⟩⟩
    ·rcases hb with hb|⟨hb,hlt,f,hg⟩
     ·omega
     ·have hm2:m' (2*(b / 2))=some (r,q):=by rw[show 2*(b / 2)=b from by omega];exact hm
      obtain⟨c,el,hc,hrw,_⟩:=R'.obj (b / 2) _ r q hg hm2
      have hr2:h2.row b=some row:=fA
      have hev:=R'.even _ r q hm2
      refine⟨hev.2,⟨c,el,hc,G8 hrw htk' Se (zB y)⟩,.inl ?_⟩
      rcases S'.img (b / 2) r q (Nat.zero_le _) (by omega) hm2 with h3|⟨k9,_,h9,_⟩
      ·exact h3
      ·exact absurd h9 (Nat.not_lt_zero _)
  ·omega
def Rz {P:Program} (S:Sound (E0 P)) {B:Nat} {w0:World} {m:Mp} {h:IH} {w:World} (R:Rel B w0 m h w) {bs xs:List Nat} (T:P0 h bs xs) {mk:List Value→List Value} (par:NJ mk xs.length) {args':Array Value} (ha:bw m (mk (iW bs xs)) args'.toList)
  {f:FuncId} (hb : ∃fn,P.funcs[f]?=some fn∧fn.body.isSome=true) {ys:List Nat} {mkR:List Value→Value} (parR:Para mkR ys.length)
  (hw : ∀us,us.length=xs.length→(∀(i:Nat) (u:Value),us[i]?=some u→BQ xs i u)→WV P (.func (.func f) #[] #[]) (mk us) (IH.start (fV xs)) fun r h2 => ∃ss,ss.length=ys.length∧r=mkR ss ∧ ∀(j:Nat) (y:Nat) (s:Value),ys[j]?=some y→ss[j]?=some s→wG h2 s y)
  (fr:eH m h.n (h.n+ys.length)):kO P f args' B w0 m h w (mkR (iW (CT h.n ys.length) ys)) (gJ h ys):=by
 obtain⟨m2,even2,odd2,r,h2,⟨ss,ls,rfl,hss⟩,key⟩:=CR S R T par ha hb hw
 refine key.mono fun e' w' ⟨v',m',he,hvr,R',S'⟩=>?_
 obtain⟨ss',l1,l2⟩:=parR m' ss v' ls hvr
 have ls':ss'.length=ys.length:=by rw[←l1.1,ls]
 have same : ∀r,r<w.heap.size→w'.heap[r]?=w.heap[r]?:=fun r hr=>R'.below.block r hr
 have loc : ∀(j y:Nat),ys[j]?=some y → ∃a cap,ss'[j]?=some (.slice a (gK y) cap)∧gK y≤cap∧((y=0∧(a=none→cap=0))∨(y≠0 ∧ ∃r s,a=some ⟨r,s,none⟩∧FY m w w' bs xs y r s)):=by
  intro j y hy
  have hj:=(List.getElem?_eq_some_iff.1 hy).1
  obtain⟨s,hs⟩:=iC (l:=ss) (i:=j) (by omega)
  obtain⟨s',h1,h3⟩:=l1.get hs
  obtain⟨a,cap,rfl,q1,q2⟩:=UY R T odd2 R' S' (hss j y s hy hs) h3
  exact⟨a,cap,h1,q1,q2⟩
 obtain⟨lf,hlf⟩ : ∃lf:Nat→Option (Nat×Nat),∀j,lf j=match ys[j]?,ss'[j]? with|some y,some (.slice (some ⟨r,s,none⟩) _ _)=>if y=0 then none else some (r,s)|_,_=>none:=⟨_,fun _=>rfl⟩
 have ze : ∀j r s,lf j=some (r,s) → ∃y,ys[j]?=some y∧y≠0∧FY m w w' bs xs y r s:=by
  intro j r s hj
  rw[hlf] at hj
  cases hy:ys[j]? with
  | none=>simp[hy] at hj
  | some y =>
   obtain⟨a,cap,h1,_,h3⟩:=loc j y hy
   rw[hy,h1] at hj
   rcases h3 with⟨rfl,_⟩|⟨y0,r',s',rfl,hl⟩
   ·exfalso
    cases a with
    | none=>simp at hj
    | some a =>
     obtain⟨a1,a2,a3⟩:=a
     cases a3<;>simp at hj
   ·simp only[if_neg y0] at hj
    cases hj
    exact⟨y,rfl,y0,hl⟩
 have Za2 : ∀j y r s cap,ys[j]?=some y→y≠0→ss'[j]?=some (.slice (some ⟨r,s,none⟩) (gK y) cap)→lf j=some (r,s):=by
  intro j y r s cap hy y0 hs
  rw[hlf,hy,hs]
  exact if_neg y0
 obtain⟨m3,hm3⟩:=aT (⟨fun b=>if b % 2=0∧h.n≤b / 2∧b / 2<h.n+ys.length then lf (b / 2 - h.n) else m b,m.ez⟩:Mp)
 have HQ : ∀b,¬(b % 2=0∧h.n≤b / 2∧b / 2<h.n+ys.length)→m3 b=m b:=by
  intro b hb;rw[hm3];exact if_neg hb
 have CY : ∀j,j<ys.length→m3 (2*(h.n+j))=lf j:=by
  intro j hj
  rw[hm3]
  show(if 2*(h.n+j) % 2=0∧h.n≤2*(h.n+j) / 2∧2*(h.n+j) / 2<h.n+ys.length then lf (2*(h.n+j) / 2 - h.n) else m (2*(h.n+j)))=lf j
  rw[if_pos ⟨by omega,by omega,by omega⟩,show 2*(h.n+j) / 2 - h.n=j from by omega]
 have ez3:m3.ez=m.ez:=by rw[hm3]
 have le3:m.le m3:=by
  intro b x hb
  refine⟨?_,by rw[ez3]⟩
  rw[HQ b ?_];exact hb
  rintro⟨h1,h2',h3⟩
  have:=fr (b / 2) h2' h3
  rw[show 2*(b / 2)=b from by omega,hb] at this;cases this
 have nn:(gJ h ys).n=h.n+ys.length:=sX ys h
 have gnew : ∀j y,ys[j]?=some y→(gJ h ys).ext.get (h.n+j)=some (.num y):=by
  intro j y hy
  have hj:=(List.getElem?_eq_some_iff.1 hy).1
  rw[kZ,if_pos ⟨by omega,by omega⟩,show h.n+j - h.n=j from by omega,hy];rfl
 have AX : ∀k,k<h.n→(gJ h ys).ext.get k=h.ext.get k:=fun k hk=>by rw[kZ,if_neg (by omega)]
 have AQ : ∀k o,(gJ h ys).ext.get k=some o→k<h.n ∨ ∃j y,k=h.n+j∧ys[j]?=some y∧o=.num y:=by
  intro k o hk
  rcases Nat.lt_or_ge k h.n with h1|h1
  ·exact .inl h1
  ·right
   rw[kZ] at hk
   by_cases c:h.n≤k∧k<h.n+ys.length
   ·rw[if_pos c] at hk
    obtain⟨y,hy,rfl⟩:=Option.map_eq_some_iff.1 hk
    exact⟨k - h.n,y,by omega,hy,rfl⟩
   ·rw[if_neg c,R.dom k h1] at hk;cases hk
 have ET : ∀k,k<h.n→m3 (2*k)=m (2*k):=fun k hk=>HQ _ (by rintro⟨_,h2',_⟩;omega)
 have oldn : ∀k o,h.ext.get k=some o→k<h.n:=by
  intro k o hk
  rcases Nat.lt_or_ge k h.n with e|e
  ·exact e
  ·rw[R.dom k e] at hk;cases hk
 have srcB : ∀y r s,FY m w w' bs xs y r s→B≤r∧r<w'.heap.size:=by
  intro y r s hl
  refine⟨?_,hl.lt⟩
  rcases hl.src with h1|⟨i,b,x,s0,hb1,hx1,hm1⟩
  ·have:=R.size;omega
  ·obtain⟨t1,t2⟩:=T.2 i b x hb1 hx1
   exact(R.even (b / 2) r s0 (by rw[show 2*(b / 2)=b from by omega];exact hm1)).1
 refine⟨v',m3,he,l2 m3 _ ?_,⟨R.below.trans (R'.below.mono R.size),Nat.le_trans R.size R'.size,?_,fun b hb=>?_,?_,?_,?_,?_,?_,?_,?_,?_⟩,⟨le3,?_,by rw[nn];omega,(dV ys h).1,fun r hr _=>same r hr,fun k hk _=>AX k hk,R'.size,?_,?_⟩⟩
 ·-- the value
  refine⟨by rw[ph _ _ (OS _ _),ls'],fun j v x hv hx=>?_⟩
  have hj:j<ys.length:=by
   have:=(List.getElem?_eq_some_iff.1 hx).1
   omega
  obtain⟨y,hy⟩:=iC (l:=ys) (i:=j) hj
  rw[pj _ _ j _ y (OT hj) hy] at hv
  cases hv
  obtain⟨a,cap,h1,h3,h4⟩:=loc j y hy
  rw[hx] at h1;cases h1
  refine .tok h3 ?_
  rcases h4 with⟨rfl,h5⟩|⟨y0,r,s,rfl,_⟩
  ·exact .inl ⟨gA.2 rfl,h5⟩
  ·exact .inr ⟨r,s,by rw[CY j hj];exact Za2 j y r s cap hy y0 hx,rfl⟩
 ·intro b cs hcs
  rw[(dV ys h).1] at hcs
  obtain⟨r,s,h1,h3,c,el,fz,h4,h5,h6⟩:=R.base b cs hcs
  exact⟨r,s,(le3 _ _ h1).1,h3,c,el,fz,by rw[same r (by have:=R.size;omega)];exact h4,h5,fun i v hv=>let ⟨v',a,e⟩:=h6 i v hv;⟨v',a,e.mono le3⟩⟩
 ·rw[HQ _ (by rintro⟨h1,_⟩;omega)];exact R.odd b hb
 ·intro k r s hk
  by_cases c:h.n≤k∧k<h.n+ys.length
  ·have:=CY (k - h.n) (by omega)
   rw[show h.n+(k - h.n)=k from by omega,hk] at this
   obtain⟨y,_,_,hl⟩:=ze _ r s this.symm
   exact srcB y r s hl
  ·rw[HQ _ (by rintro⟨_,h2',h3⟩;exact c ⟨by omega,by omega⟩)] at hk
   have:=R.even k r s hk
   have:=R'.size
   exact⟨by omega,by omega⟩
 ·intro k hk
  rw[nn] at hk
  rw[kZ,if_neg (by omega)]
  exact R.dom k (by omega)
 ·intro k o r s hk hm
  rcases AQ k o hk with hkn|⟨j,y,rfl,hy,rfl⟩
  ·rw[AX k hkn] at hk
   rw[ET k hkn] at hm
   exact(R.obj k o r s hk hm).mono le3 (same r (R.even k r s hm).2) (by rw[ez3])
  ·rw[CY j (List.getElem?_eq_some_iff.1 hy).1] at hm
   obtain⟨y',hy',y0,hl⟩:=ze _ r s hm
   rw[hy] at hy';cases hy'
   obtain⟨c,el,h1,h3,h4⟩:=hl.row
   exact .inr ⟨c,el,h1,h3,fun i v hv=>let ⟨v',a,e⟩:=h4 i v hv;⟨v',a,e.mono le3⟩⟩
 ·-- who shares memory
  have one : ∀j y k o r s s',ys[j]?=some y→k<h.n→h.ext.get k=some o→o.alive=true→lf j=some (r,s)→m (2*k)=some (r,s')→o.isNum=true:=by
   intro j y k o r s s' hy hkn hk ha hj hm
   obtain⟨y',_,_,hl⟩:=ze j r s hj
   rcases hl.src with h1|⟨i,b,x,s0,hb1,hx1,hm1⟩
   ·have:=(R.even k r s' hm).2;omega
   ·obtain⟨t1,t2⟩:=T.2 i b x hb1 hx1
    have hmb:m (2*(b / 2))=some (r,s0):=by rw[show 2*(b / 2)=b from by omega];exact hm1
    by_cases e:b / 2=k
    ·rw[e,hk] at t2;cases t2;rfl
    ·rcases R.own (b / 2) k _ o r s0 s' e t2 hk rfl ha hmb hm with⟨_,_,_,_,_,_,e1,_⟩|⟨_,e2⟩
     ·rw[t2] at e1;cases e1
     ·exact e2
  intro k k' o o' r s s' hne hk hk' ha ha' hm hm'
  rcases AQ k o hk with hkn|⟨j,y,rfl,hy,rfl⟩
  ·rcases AQ k' o' hk' with Kh|⟨j',y',rfl,hy',rfl⟩
   ·rw[AX k hkn] at hk
    rw[AX k' Kh] at hk'
    rw[ET k hkn] at hm
    rw[ET k' Kh] at hm'
    refine(R.own k k' o o' r s s' hne hk hk' ha ha' hm hm').imp (fun⟨c1,t1,c2,t2,f,st,e1,e2,e3,e4,e5⟩=>⟨c1,t1,c2,t2,f,st,?_,?_,?_,e4,e5⟩) id
    ·rw[AX k hkn];exact e1
    ·rw[AX k' Kh];exact e2
    ·rw[(dV ys h).2];exact e3
   ·rw[AX k hkn] at hk
    rw[ET k hkn] at hm
    rw[CY j' (List.getElem?_eq_some_iff.1 hy').1] at hm'
    exact .inr ⟨one j' y' k o r s' s hy' hkn hk ha hm' hm,rfl⟩
  ·rcases AQ k' o' hk' with Kh|⟨j',y',rfl,hy',rfl⟩
   ·rw[AX k' Kh] at hk'
    rw[ET k' Kh] at hm'
    rw[CY j (List.getElem?_eq_some_iff.1 hy).1] at hm
    exact .inr ⟨rfl,one j y k' o' r s s' hy Kh hk' ha' hm hm'⟩
   ·exact .inr ⟨rfl,rfl⟩
 ·intro f st hf
  rw[(dV ys h).2] at hf
  obtain⟨a,b,c⟩:=R.du f st hf
  rw[nn]
  exact⟨by omega,fun x hx=>by have:=b x hx;omega,c⟩
 ·intro k cs t f hk
  rcases AQ k _ hk with hkn|⟨j,y,_,_,e⟩
  ·rw[AX k hkn] at hk
   rw[(dV ys h).2]
   exact R.fam k cs t f hk
  ·cases e
 ·intro f st hf
  rw[(dV ys h).2] at hf
  refine(R.long f st hf).imp fun {x y} hxy=>?_
  intro cs t g cs' t' g' r s s' h1 h3 h4 h5
  have c1:x<h.n:=by
   rcases AQ x _ h1 with h6|⟨_,_,_,_,e⟩
   ·exact h6
   ·cases e
  have c2:y<h.n:=by
   rcases AQ y _ h3 with h6|⟨_,_,_,_,e⟩
   ·exact h6
   ·cases e
  rw[AX x c1] at h1
  rw[AX y c2] at h3
  rw[ET x c1] at h4
  rw[ET y c2] at h5
  exact hxy cs t g cs' t' g' r s s' h1 h3 h4 h5
 ·intro f st x y hf hx hy hs
  rw[(dV ys h).2] at hf
  have b:=(R.du f st hf).2.1
  rw[ET x (b x hx)] at hs
  rw[ET y (b y hy)]
  exact R.whole f st x y hf hx hy hs
 ·intro b hb
  refine⟨b / 2,?_⟩
  rw[nn]
  by_cases c:b % 2=0∧h.n≤b / 2∧b / 2<h.n+ys.length
  ·exact⟨by omega,c.2⟩
  ·exact absurd (HQ b c) hb
 ·intro k r s h1 h3 h4
  rw[nn] at h3
  have:=CY (k - h.n) (by omega)
  rw[show h.n+(k - h.n)=k from by omega,h4] at this
  obtain⟨y,_,_,hl⟩:=ze _ r s this.symm
  rcases hl.src with h5|⟨i,b,x,s0,hb1,hx1,hm1⟩
  ·exact .inl h5
  ·obtain⟨t1,t2⟩:=T.2 i b x hb1 hx1
   exact .inr ⟨b / 2,s0,oldn _ _ t2,by rw[show 2*(b / 2)=b from by omega];exact hm1⟩
 ·intro k hk hm hn f st hf
  rw[(dV ys h).2] at hf
  exact hn f st hf
end Go.Id
namespace Go.Id
open Go
variable {x:Nat}
theorem ml (h:x≠0):rQ x=x % 18446744073709551616 :: rQ (x / 18446744073709551616):=by
 rw[rQ,dif_neg h]
theorem we (x:Nat):B.ao (rQ x)=x:=by
 induction x using Nat.strongRecOn with
 | ind x ih =>
  by_cases h:x=0
  ·subst h;rw[ke];rfl
  ·rw[ml h,B.jS,ih _ (Nat.div_lt_self (by omega) (by decide))]
   exact Nat.mod_add_div x _
def xn (x:Nat):B.bJ (rQ x):=by
 induction x using Nat.strongRecOn with
 | ind x ih =>
  by_cases h:x=0
  ·subst h;rw[ke];intro d hd;cases hd
  ·rw[ml h]
   intro d hd
   rcases List.mem_cons.1 hd with rfl|hd
   ·exact Nat.mod_lt _ (by decide)
   ·exact ih _ (Nat.div_lt_self (by omega) (by decide)) d hd
def Dw (x:Nat):B.Norm (rQ x):=by
 induction x using Nat.strongRecOn with
 | ind x ih =>
  by_cases h:x=0
  ·subst h;rw[ke];exact .inl rfl
  ·rw[ml h]
   right
   have ih:=ih _ (Nat.div_lt_self (by omega) (by decide:1<18446744073709551616))
   by_cases h2:x / 18446744073709551616=0
   ·rw[h2,ke]
    show x % 18446744073709551616≠0
    have:=Nat.mod_add_div x 18446744073709551616
    rw[h2] at this;omega
   ·rcases ih with e|e
    ·have:=we (x / 18446744073709551616)
     rw[e] at this
     exact absurd this.symm h2
    ·have hl:0<(rQ (x / 18446744073709551616)).length:=by
      rw[ml h2];simp
     rw[List.length_cons,show(rQ (x / 18446744073709551616)).length+1 - 1=((rQ (x / 18446744073709551616)).length - 1)+1 from by omega,List.getD_cons_succ]
     exact e
def TY (x:Nat):x<18446744073709551616 ^ gK x:=by
 have:=B.jz (xn x)
 rwa [we] at this
noncomputable def wlK (f:Nat):Nat→Nat:=Nat.rec (motive:=fun _=>Nat→Nat) (fun _=>0) (fun _ ih x=>Bool.rec (motive:=fun _=>Nat) (fN (Nat.div x 18446744073709551616) fun y=>Nat.succ (ih y)) 0 (Nat.beq x 0)) f
theorem NQ (h:x≠0):gK x=gK (x / 18446744073709551616)+1:=by
 unfold gK
 rw[ml h,List.length_cons]
theorem Qd : ∀(f x:Nat),x≤f→wlK f x=gK x
 | 0,x,h=>by
  obtain rfl:x=0:=by omega
  exact(gA.2 rfl).symm
 | f+1,x,h=>by
  show Bool.rec (motive:=fun _=>Nat) (fN (Nat.div x 18446744073709551616) fun y=>Nat.succ (wlK f y)) 0 (Nat.beq x 0)=_
  rw[dX]
  show Bool.rec (motive:=fun _=>Nat) (wlK f (x / 18446744073709551616)+1) 0 (Nat.beq x 0)=_
  by_cases hx:x=0
  ·subst hx
   exact(gA.2 rfl).symm
  ·have hlt:x / 18446744073709551616<x:=Nat.div_lt_self (by omega) (by decide)
   rw[Qd f _ (by omega),NQ hx]
   cases hb:Nat.beq x 0 with
   | true=>exact absurd (Nat.beq_eq.mp hb) hx
   | false=>rfl
noncomputable def xL (x:Nat):Nat:=wlK x x
theorem Gm (x:Nat):xL x=gK x:=Qd x x (Nat.le_refl x)
inductive NK where
 | val|long|rat
inductive NV where
 | val (v:Value)
 | long (n:Bool) (b x:Nat)
 | rat (n:Bool) (b x c y:Nat)
def sint (n:Bool) (x:Nat):Int:=if n=true then -(x:Int) else x
def kU (n:Bool) (x y:Nat):Rat:=Rat.divInt (sint n x) y
theorem iL (n:Bool) (x:Nat):(sint n x).natAbs=x:=by unfold sint;split<;>omega
variable {x:Nat}
theorem GS {n:Bool} (h:n=true→x≠0):decide (sint n x<0)=n:=by
 unfold sint
 cases n
 ·simp
 ·have:=h rfl
  simp;omega
variable {s:Value}{h:IH}
def Xu (w:Wrd h s x):wG h s x:=by
 obtain⟨ds,a,b,c⟩:=w
 obtain⟨a1,a2,a3⟩:=a
 have e:ds=rQ x:=B.yc a2 (xn x) b (Dw x) (by rw[c,we])
 subst e
 exact a1
def Jm (w:wG h s x) (hl:gK x≤1100000):Wrd h s x:=⟨rQ x,⟨w,xn x,hl⟩,Dw x,we x⟩
def RB {xs:List Nat} {i:Nat} {u:Value} (h:BQ xs i u) (hx:xs[i]?=some x):wG (IH.start (fV xs)) u x:=by
 obtain⟨x',hx',h⟩:=h
 rw[hx] at hx';cases hx'
 rcases h with⟨rfl,rfl|rfl⟩|⟨x0,cap,hc,rfl⟩
 ·exact⟨by omega,by rw[jj,Nat.mul_one],.inl ⟨rfl,gA.2 rfl⟩⟩
 ·unfold wG
  rw[gA.2 rfl,DX]
  exact⟨by omega,rfl,.inr ⟨0,0,0,rfl,.inl ⟨rfl,rfl⟩⟩⟩
 ·refine⟨by omega,by rw[jj,Nat.mul_one],.inr ⟨_,_,_,rfl,.inr ⟨by omega,by omega,fS x,.inl ⟨by omega,by omega⟩,?_,?_,?_⟩⟩⟩
  ·unfold IH.row
   have e1:((2*(4294967296+i)+1) % 2 == 1)=true:=by simp
   rw[e1]
   show fV xs ((2*(4294967296+i)+1) / 2)=_
   unfold fV
   rw[show(2*(4294967296+i)+1) / 2 - 4294967296=i from by omega,hx]
   exact if_pos ⟨by omega,x0⟩
  ·rw[List.drop_zero,List.take_of_length_le (by rw[jj];omega)]
  ·rw[jj];omega
noncomputable section
def numOf (h:IH) (v:Value):Option (Nat×Nat):=match v with
 | .slice (some ⟨b,0,some 0⟩) l 0=>match uR h.ext (Nat.div b 2) with
  | some (.num x)=>iB (Nat.beq (Nat.mod b 2) 0) (iB (Nat.beq l (xL x)) (iB (Nat.ble l 64) (some (b,x)) none) none) none
  | _=>none
 | _=>none
variable {α:Type}{x:Option α}{b:Bool}
def zg {v:α} (h:iB b x none=some v):b=true∧x=some v:=by
 cases b
 ·cases h
 ·exact⟨rfl,h⟩
def Fe {v:α} (h:iB b none x=some v):b=false∧x=some v:=by
 cases b
 ·exact⟨rfl,h⟩
 ·cases h
variable {v:Value}{h:IH}
def uk {b x:Nat} (e:numOf h v=some (b,x)):v=mZ b x∧(b % 2=0∧h.ext.get (b / 2)=some (.num x))∧gK x≤64:=by
 unfold numOf at e
 split at e
 ·rename_i b' l
  split at e
  ·rename_i x' hx
   obtain⟨h1,e⟩:=zg e
   obtain⟨h2,e⟩:=zg e
   obtain⟨h3,e⟩:=zg e
   cases e
   have h2:=Nat.beq_eq.mp h2
   rw[Gm] at h2
   subst h2
   rw[mu] at hx
   exact⟨rfl,⟨Nat.beq_eq.mp h1,hx⟩,Nat.le_of_ble_eq_true h3⟩
  ·cases e
 ·cases e
def decode (h:IH) (k:NK) (v:Value):Option NV:=match k,v with
 | .val,v=>bif plain v then some (.val v) else none
 | .long,.agg cs=>match cs.toList with
  | [.bool n,s]=>match numOf h s with
   | some (b,x)=>iB (iB n (Nat.beq x 0) false) none (some (.long n b x))
   | none=>none
  | _=>none
 | .rat,.agg cs=>match cs.toList with
  | [.bool n,s,.bool false,t]=>match numOf h s with
   | some (b,x)=>match numOf h t with
    | some (c,y)=>iB (iB n (Nat.beq x 0) false) none (iB (Nat.beq y 0) none (iB (Nat.beq (Nat.gcd x y) 1) (some (.rat n b x c y)) none))
    | none=>none
   | none=>none
  | _=>none
 | _,_=>none
def NV.value:NV→Value
 | .val v=>v
 | .long n b x=>.agg #[.bool n,mZ b x]
 | .rat n b x c y=>.agg #[.bool n,mZ b x,.bool false,mZ c y]
def NV.jF:NV→Prop
 | .val v=>plain v=true
 | .long n _ x=>(n=true→x≠0)∧gK x≤64
 | .rat n _ x _ y=>((n=true→x≠0)∧(y≠0∧Nat.gcd x y=1))∧gK x≤64∧gK y≤64
def NV.at_ (h:IH):NV→Prop
 | .val _=>True
 | .long _ b x=>b % 2=0∧h.ext.get (b / 2)=some (.num x)
 | .rat _ b x c y=>(b % 2=0∧h.ext.get (b / 2)=some (.num x))∧c % 2=0∧h.ext.get (c / 2)=some (.num y)
def Io {k:NK} {a:NV} (e:decode h k v=some a):v=a.value∧a.jF∧a.at_ h:=by
 unfold decode at e
 split at e
 ·rename_i v'
  simp only[cond_eq_ite] at e
  split at e
  ·cases e;rename_i hp;exact⟨rfl,hp,trivial⟩
  ·cases e
 ·rename_i cs
  split at e
  ·rename_i n s hcs
   split at e
   ·rename_i b x hx
    obtain⟨hn,e⟩:=Fe e
    cases e
    obtain⟨h1,h2,h3⟩:=uk hx
    refine⟨?_,⟨(fun h4 h5=>by rw[h4,h5] at hn;cases hn),h3⟩,h2⟩
    show Value.agg cs=Value.agg #[.bool n,mZ b x]
    rw[←h1]
    congr 1
    exact Array.ext' hcs
   ·cases e
  ·cases e
 ·rename_i cs
  split at e
  ·rename_i n s t hcs
   split at e
   ·rename_i b x hx
    split at e
    ·rename_i c y hy
     obtain⟨hn,e⟩:=Fe e
     obtain⟨hm,e⟩:=Fe e
     obtain⟨hk,e⟩:=zg e
     cases e
     obtain⟨h1,h2,h3⟩:=uk hx
     obtain⟨h4,h5,h6⟩:=uk hy
     refine⟨?_,⟨⟨(fun h7 h8=>by rw[h7,h8] at hn;cases hn),(fun h7=>by rw[h7] at hm;cases hm),Nat.beq_eq.mp hk⟩,h3,h6⟩,h2,h5⟩
     show Value.agg cs=Value.agg #[.bool n,mZ b x,.bool false,mZ c y]
     rw[←h1,←h4]
     congr 1
     exact Array.ext' hcs
    ·cases e
   ·cases e
  ·cases e
 ·cases e
def NV.bs:NV→List Nat
 | .val _ => []
 | .long _ b _ => [b]
 | .rat _ b _ c _ => [b,c]
def NV.xs:NV→List Nat
 | .val _ => []
 | .long _ _ x => [x]
 | .rat _ _ x _ y => [x,y]
def bsL:List NV→List Nat
 | [] => []
 | a :: l=>a.bs ++ bsL l
def xsL:List NV→List Nat
 | [] => []
 | a :: l=>a.xs ++ xsL l
def nO:List NV→List Value→List Value
 | [],_ => []
 | .val v :: l,ss=>v :: nO l ss
 | .long n _ _ :: l,s :: ss=>.agg #[.bool n,s] :: nO l ss
 | .rat n _ _ _ _ :: l,s :: t :: ss=>.agg #[.bool n,s,.bool false,t] :: nO l ss
 | _ :: l,_=>undef :: nO l []
theorem pT : ∀al:List NV,nO al (iW (bsL al) (xsL al))=al.map NV.value
 | []=>rfl
 | .val v :: l=>by
  show v :: nO l (iW (bsL l) (xsL l))=v :: l.map NV.value
  rw[pT l]
 | .long n b x :: l=>by
  show Value.agg #[.bool n,mZ b x] :: nO l (iW (bsL l) (xsL l))=Value.agg #[.bool n,mZ b x] :: l.map NV.value
  rw[pT l]
 | .rat n b x c y :: l=>by
  show Value.agg #[.bool n,mZ b x,.bool false,mZ c y] :: nO l (iW (bsL l) (xsL l))=Value.agg #[.bool n,mZ b x,.bool false,mZ c y] :: l.map NV.value
  rw[pT l]
variable {vs':List Value}{m:Mp}
def fJ {l:List Value} (h:bw m (v :: l) vs') : ∃v' l',vs'=v' :: l'∧aG m v v'∧bw m l l':=by
 match vs',h with
 | [],h=>have:=h.1;simp at this
 | v' :: l',h=>exact⟨v',l',rfl,h.2 0 v v' rfl rfl,by have:=h.1;simpa using this,fun i a b ha hb=>h.2 (i+1) a b (by simpa using ha) (by simpa using hb)⟩
def vF (h:bw m [] vs'):vs' = []:=List.length_eq_zero_iff.1 h.1.symm
def j5 : ∀al:List NV,(∀a∈al,a.jF)→NJ (nO al) (xsL al).length
 | [],_=>fun m ss vs' hl h=>by
  obtain rfl:=vF h
  obtain rfl:ss = []:=List.length_eq_zero_iff.1 hl
  exact⟨[],.nil m,fun m2 us _=>.nil m2⟩
 | .val v :: l,hg=>fun m ss vs' hl h=>by
  obtain⟨v',l',rfl,h1,h2⟩:=fJ (l:=nO l ss) h
  obtain⟨ss',h3,h4⟩:=j5 l (fun a ha=>hg a (List.mem_cons_of_mem _ ha)) m ss l' hl h2
  have hp:plain v=true:=hg (.val v) List.mem_cons_self
  obtain rfl:=h1.di hp
  exact⟨ss',h3,fun m2 us hu=>.cons (.bV hp) (h4 m2 us hu)⟩
 | .long n b x :: l,hg=>fun m ss vs' hl h=>by
  match ss,hl with
  | s :: ss,hl =>
   obtain⟨v',l',rfl,h1,h2⟩:=fJ (v:=.agg #[.bool n,s]) (l:=nO l ss) h
   obtain⟨ss',h3,h4⟩:=j5 l (fun a ha=>hg a (List.mem_cons_of_mem _ ha)) m ss l' (by simpa [xsL,NV.xs] using hl) h2
   obtain⟨cs',rfl,h5⟩:=h1.qa
   obtain⟨b',r',e1,h6,h7⟩:=fJ h5
   obtain⟨s',r2,rfl,h8,h9⟩:=fJ h7
   obtain rfl:=vF h9
   have hb:=h6.cu rfl
   subst hb
   refine⟨s' :: ss',.cons h8 h3,fun m2 us hu=>?_⟩
   match us,hu with
   | [],hu=>have:=hu.1;simp at this
   | u :: us,hu =>
    refine .cons (.iV ?_) (h4 m2 us ⟨by have:=hu.1;simpa using this,fun i a c ha hc=>hu.2 (i+1) a c (by simpa using ha) (by simpa using hc)⟩)
    rw[e1]
    exact .cons (.bA rfl) (.cons (hu.2 0 u s' rfl rfl) (.nil m2))
  | [],hl=>simp[xsL,NV.xs] at hl
 | .rat n b x c y :: l,hg=>fun m ss vs' hl h=>by
  match ss,hl with
  | s :: t :: ss,hl =>
   obtain⟨v',l',rfl,h1,h2⟩:=fJ (v:=.agg #[.bool n,s,.bool false,t]) (l:=nO l ss) h
   obtain⟨ss',h3,h4⟩:=j5 l (fun a ha=>hg a (List.mem_cons_of_mem _ ha)) m ss l' (by simpa [xsL,NV.xs] using hl) h2
   obtain⟨cs',rfl,h5⟩:=h1.qa
   obtain⟨b',r',e1,h6,h7⟩:=fJ h5
   obtain⟨s',r2,rfl,h8,h9⟩:=fJ h7
   obtain⟨b2,r3,rfl,h10,h11⟩:=fJ h9
   obtain⟨t',r4,rfl,h12,h13⟩:=fJ h11
   obtain rfl:=vF h13
   have hb:=h6.cu rfl
   subst hb
   have hb2:=h10.cu rfl
   subst hb2
   refine⟨s' :: t' :: ss',.cons h8 (.cons h12 h3),fun m2 us hu=>?_⟩
   match us,hu with
   | [],hu=>have:=hu.1;simp at this
   | [_],hu=>have:=hu.1;simp at this
   | u :: u2 :: us,hu =>
    refine .cons (.iV ?_) (h4 m2 us ⟨by have:=hu.1;simpa using this,fun i a c ha hc=>hu.2 (i+2) a c (by simpa using ha) (by simpa using hc)⟩)
    rw[e1]
    exact .cons (.bA rfl) (.cons (hu.2 0 u s' rfl rfl) (.cons (.bA rfl) (.cons (hu.2 1 u2 t' rfl rfl) (.nil m2))))
  | [_],hl=>simp[xsL,NV.xs] at hl
  | [],hl=>simp[xsL,NV.xs] at hl
end
noncomputable section
def NV.real (h:IH):NV→Value→Prop
 | .val v,u=>u=v
 | .long n _ x,u=>a9 h u (sint n x)
 | .rat n _ x _ y,u=>bt h u (kU n x y)
def IV (h:IH):List NV→List Value→Prop
 | [],[]=>True
 | a :: al,u :: us=>a.real h u∧IV h al us
 | _,_=>False
variable {s:Value}{h:IH}{x:Nat}{n:Bool}
def EX (hn:n=true→x≠0) (w:Wrd h s x):a9 h (.agg #[.bool n,s]) (sint n x):=⟨s,by rw[GS hn],by rw[iL];exact w⟩
variable {y:Nat}
def ud (hy:y≠0) (hg:Nat.gcd x y=1):(kU n x y).num=sint n x∧(kU n x y).den=y:=by
 unfold kU
 have e:Nat.gcd (sint n x).natAbs y=1:=by rw[iL];exact hg
 have:=Rat.divInt_ofNat (sint n x) y
 rw[show Rat.divInt (sint n x) (y:Int)=mkRat (sint n x) y from Rat.divInt_ofNat (sint n x) y]
 rw[←Rat.mk_eq_mkRat (sint n x) y hy e]
 exact⟨rfl,rfl⟩
def Yc {t:Value} (hn:n=true→x≠0) (hy:y≠0) (hg:Nat.gcd x y=1) (w:Wrd h s x) (u:Wrd h t y):bt h (.agg #[.bool n,s,.bool false,t]) (kU n x y):=by
 obtain⟨e1,e2⟩:=ud (n:=n) hy hg
 refine⟨_,_,_,_,rfl,?_,?_⟩
 ·rw[e1];exact EX hn w
 ·rw[e2];exact EX (n:=false) (fun h=>by cases h) u
def pK (hB:IH) : ∀(al:List NV) (us:List Value),us.length=(xsL al).length→(∀(i x:Nat) (u:Value),(xsL al)[i]?=some x→us[i]?=some u→wG hB u x)→(∀a∈al,a.jF)→IV hB al (nO al us)
 | [],_,_,_,_=>trivial
 | .val v :: l,us,hl,h,hg=>⟨rfl,pK hB l us hl h fun a ha=>hg a (List.mem_cons_of_mem _ ha)⟩
 | .long n b x :: l,us,hl,h,hg=>by
  have g:(n=true→x≠0)∧gK x≤64:=hg _ List.mem_cons_self
  match us,hl,h with
  | [],hl,_=>simp[xsL,NV.xs] at hl
  | u :: us,hl,h =>
   exact⟨EX g.1 (Jm (h 0 x u rfl rfl) (Nat.le_trans g.2 (by decide))),pK hB l us (by simpa [xsL,NV.xs] using hl) (fun i x' u' hx hu=>h (i+1) x' u' hx (by simpa using hu)) fun a ha=>hg a (List.mem_cons_of_mem _ ha)⟩
 | .rat n b x c y :: l,us,hl,h,hg=>by
  have g:((n=true→x≠0)∧(y≠0∧Nat.gcd x y=1))∧gK x≤64∧gK y≤64:=hg _ List.mem_cons_self
  match us,hl,h with
  | [],hl,_=>simp[xsL,NV.xs] at hl
  | [_],hl,_=>simp[xsL,NV.xs] at hl
  | u :: u2 :: us,hl,h =>
   exact⟨Yc g.1.1 g.1.2.1 g.1.2.2 (Jm (h 0 x u rfl rfl) (Nat.le_trans g.2.1 (by decide))) (Jm (h 1 y u2 rfl rfl) (Nat.le_trans g.2.2 (by decide))),pK hB l us (by simpa [xsL,NV.xs] using hl) (fun i x' u' hx hu=>h (i+2) x' u' hx (by simpa using hu)) fun a ha=>hg a (List.mem_cons_of_mem _ ha)⟩
inductive NR where
 | val (v:Value)
 | long (n:Bool) (x:Nat)
 | rat (n:Bool) (x y:Nat)
 | two (n:Bool) (x:Nat) (k:Bool) (y:Nat)
def NR.real (h:IH):NR→Value→Prop
 | .val v0,v=>v=v0
 | .long n x,v=>a9 h v (sint n x)
 | .rat n x y,v=>bt h v (kU n x y)
 | .two n x k y,v => ∃a b,v=.tuple #[a,b]∧a9 h a (sint n x)∧a9 h b (sint k y)
def NR.jF:NR→Prop
 | .val v=>mF v=true
 | .long n x=>n=true→x≠0
 | .rat n x y=>(n=true→x≠0)∧y≠0∧Nat.gcd x y=1
 | .two n x k y=>(n=true→x≠0)∧(k=true→y≠0)
def NR.tc:NR→List Nat
 | .val _ => []
 | .long _ x => [x]
 | .rat _ x y => [x,y]
 | .two _ x _ y => [x,y]
def yH (b x:Nat):Value:=.slice (some ⟨b,0,some 0⟩) (xL x) 0
theorem uS (b x:Nat):yH b x=mZ b x:=by unfold yH mZ;rw[Gm]
def NR.value (n0:Nat):NR→Value
 | .val v=>v
 | .long n x=>.agg #[.bool n,yH (2*n0) x]
 | .rat n x y=>.agg #[.bool n,yH (2*n0) x,.bool false,yH (2*(n0+1)) y]
 | .two n x k y=>.tuple #[.agg #[.bool n,yH (2*n0) x],.agg #[.bool k,yH (2*(n0+1)) y]]
def NR.fill:NR→List Value→Value
 | .val v,_=>v
 | .long n _,ss=>.agg #[.bool n,ss.headD undef]
 | .rat n _ _,ss=>.agg #[.bool n,ss.headD undef,.bool false,(ss.drop 1).headD undef]
 | .two n _ k _,ss=>.tuple #[.agg #[.bool n,ss.headD undef],.agg #[.bool k,(ss.drop 1).headD undef]]
theorem NR.Pp (r:NR) (n0:Nat):r.fill (iW (CT n0 r.tc.length) r.tc)=r.value n0:=by
 cases r with
 | val v=>rfl
 | long n x=>show Value.agg #[.bool n,mZ (2*(n0+0)) x]=.agg #[.bool n,yH (2*n0) x];rw[uS,Nat.add_zero]
 | rat n x y=>show Value.agg #[.bool n,mZ (2*(n0+0)) x,.bool false,mZ (2*(n0+1)) y]=.agg #[.bool n,yH (2*n0) x,.bool false,yH (2*(n0+1)) y];rw[uS,uS,Nat.add_zero]
 | two n x k y=>show Value.tuple #[.agg #[.bool n,mZ (2*(n0+0)) x],.agg #[.bool k,mZ (2*(n0+1)) y]]=.tuple #[.agg #[.bool n,yH (2*n0) x],.agg #[.bool k,yH (2*(n0+1)) y]];rw[uS,uS,Nat.add_zero]
variable {m:Mp}
def AJ {v':Value} (h:aG m (.agg #[.bool n,s]) v') : ∃s',aG m s s' ∧ ∀(m2:Mp) (u:Value),aG m2 u s'→aG m2 (.agg #[.bool n,u]) v':=by
 obtain⟨cs',rfl,h5⟩:=h.qa
 obtain⟨b',r',e1,h6,h7⟩:=fJ h5
 obtain⟨s',r2,rfl,h8,h9⟩:=fJ h7
 obtain rfl:=vF h9
 have hb:=h6.cu rfl
 subst hb
 refine⟨s',h8,fun m2 u hu=>.iV ?_⟩
 rw[e1]
 exact .cons (.bA rfl) (.cons hu (.nil m2))
def NR.para (r:NR) (hv : ∀v,r≠.val v):Para r.fill r.tc.length:=by
 intro m ss v' hl h
 cases r with
 | val v=>exact absurd rfl (hv v)
 | long n x =>
  match ss,hl with
  | [s],_ =>
   obtain⟨s',h1,h2⟩:=AJ h
   refine⟨[s'],.cons h1 (.nil m),fun m2 us hu=>?_⟩
   match us,hu with
   | [u],hu=>exact h2 m2 u (hu.2 0 u s' rfl rfl)
   | [],hu=>have:=hu.1;simp at this
   | _ :: _ :: _,hu=>have:=hu.1;simp at this
  | [],hl=>simp[NR.tc] at hl
  | _ :: _ :: _,hl=>simp[NR.tc] at hl
 | rat n x y =>
  match ss,hl with
  | [s,t],_ =>
   obtain⟨ss',h1,h2⟩:=j5 [.rat n 0 1 0 1] (fun a ha=>by
    simp at ha;subst ha
    refine⟨⟨fun _=>by decide,by decide,by decide⟩,?_⟩
    have:gK 1≤64:=by
     unfold gK;rw[ml (by decide),show 1 / 18446744073709551616=0 from rfl,ke];decide
    exact⟨this,this⟩) m [s,t] [v'] rfl (.cons h (.nil m))
   exact⟨ss',h1,fun m2 us hu=>by
    have h3:=h2 m2 us hu
    match us,hu with
    | [u,w],hu=>exact h3.2 0 _ _ rfl rfl
    | [],hu=>have a:=hu.1;have b:=h1.1;rw[←a] at b;simp at b
    | [_],hu=>have a:=hu.1;have b:=h1.1;rw[←a] at b;simp at b
    | _ :: _ :: _ :: _,hu=>have a:=hu.1;have b:=h1.1;rw[←a] at b;simp at b⟩
  | [],hl=>simp[NR.tc] at hl
  | [_],hl=>simp[NR.tc] at hl
  | _ :: _ :: _ :: _,hl=>simp[NR.tc] at hl
 | two n x k y =>
  match ss,hl with
  | [s,t],_ =>
   obtain⟨cs',rfl,h5⟩:=h.oE
   obtain⟨v1,r1,e1,h6,h7⟩:=fJ h5
   obtain⟨v2,r2,rfl,h8,h9⟩:=fJ h7
   obtain rfl:=vF h9
   obtain⟨s',a1,a2⟩:=AJ h6
   obtain⟨t',b1,b2⟩:=AJ h8
   refine⟨[s',t'],.cons a1 (.cons b1 (.nil m)),fun m2 us hu=>?_⟩
   match us,hu with
   | [u,w],hu =>
    refine .fI ?_
    rw[e1]
    exact .cons (a2 m2 u (hu.2 0 u s' rfl rfl)) (.cons (b2 m2 w (hu.2 1 w t' rfl rfl)) (.nil m2))
   | [],hu=>have:=hu.1;simp at this
   | [_],hu=>have:=hu.1;simp at this
   | _ :: _ :: _ :: _,hu=>have:=hu.1;simp at this
  | [],hl=>simp[NR.tc] at hl
  | [_],hl=>simp[NR.tc] at hl
  | _ :: _ :: _ :: _,hl=>simp[NR.tc] at hl
variable {v:Value}
def vJ (hn:n=true→x≠0) (p:a9 h v (sint n x)) : ∃s,v=.agg #[.bool n,s]∧wG h s x:=by
 obtain⟨s,rfl,w⟩:=p
 rw[iL] at w
 rw[GS hn]
 exact⟨s,rfl,Xu w⟩
def NR.Oq {r:NR} (hv : ∀v,r≠.val v) (hg:r.jF) (p:r.real h v) : ∃ss,ss.length=r.tc.length∧v=r.fill ss ∧ ∀(j y:Nat) (s:Value),r.tc[j]?=some y→ss[j]?=some s→wG h s y:=by
 cases r with
 | val v=>exact absurd rfl (hv v)
 | long n x =>
  obtain⟨s,rfl,w⟩:=vJ hg p
  refine⟨[s],rfl,rfl,fun j y s' hy hs=>?_⟩
  match j with
  | 0=>cases hy;cases hs;exact w
  | j+1=>simp at hs
 | rat n x y =>
  obtain⟨a,s,b,t,rfl,p1,p2⟩:=p
  obtain⟨e1,e2⟩:=ud (n:=n) hg.2.1 hg.2.2
  rw[e1] at p1
  rw[e2] at p2
  obtain⟨s1,q1,w1⟩:=vJ hg.1 p1
  obtain⟨s2,q2,w2⟩:=vJ (n:=false) (x:=y) (fun h=>by cases h) p2
  cases q1
  cases q2
  refine⟨[s,t],rfl,rfl,fun j z s' hy hs=>?_⟩
  match j with
  | 0=>cases hy;cases hs;exact w1
  | 1=>cases hy;cases hs;exact w2
  | j+2=>simp at hs
 | two n x k y =>
  obtain⟨a,b,rfl,p1,p2⟩:=p
  obtain⟨s1,rfl,w1⟩:=vJ hg.1 p1
  obtain⟨s2,rfl,w2⟩:=vJ hg.2 p2
  refine⟨[s1,s2],rfl,rfl,fun j z s' hy hs=>?_⟩
  match j with
  | 0=>cases hy;cases hs;exact w1
  | 1=>cases hy;cases hs;exact w2
  | j+2=>simp at hs
structure tT (P:Program) (f:FuncId) (sem:List NV→Option NR):Prop where
 body : ∃fn,P.funcs[f]?=some fn∧fn.body.isSome=true
 right : ∀al r,(∀a∈al,a.jF)→sem al=some r→r.jF ∧ ∀h us,IV h al us→WV P (.func (.func f) #[] #[]) us h fun v h'=>r.real h' v
def zj (h:IH):List NK→List Value→Option (List NV)
 | [],[]=>some []
 | k :: ks,v :: vs=>match decode h k v with
  | some a=>match zj h ks vs with
   | some al=>some (a :: al)
   | none=>none
  | none=>none
 | _,_=>none
def wg : ∀{ks:List NK} {vs:List Value} {al:List NV},zj h ks vs=some al→vs=al.map NV.value∧(∀a∈al,a.jF) ∧ ∀a∈al,a.at_ h
 | [],[],al,e=>by cases e;exact⟨rfl,(fun a ha=>by cases ha),(fun a ha=>by cases ha)⟩
 | [],_ :: _,_,e=>by cases e
 | _ :: _,[],_,e=>by cases e
 | k :: ks,v :: vs,al,e=>by
  unfold zj at e
  split at e
  ·rename_i a ha
   split at e
   ·rename_i l hl
    cases e
    obtain⟨h1,h2,h3⟩:=Io ha
    obtain⟨h4,h5,h6⟩:=wg hl
    refine⟨by rw[h1,h4];rfl,fun b hb=>?_,fun b hb=>?_⟩
    ·rcases List.mem_cons.1 hb with rfl|hb
     ·exact h2
     ·exact h5 b hb
    ·rcases List.mem_cons.1 hb with rfl|hb
     ·exact h3
     ·exact h6 b hb
   ·cases e
  ·cases e
def Ly : ∀(al:List NV),(∀a∈al,a.at_ h)→P0 h (bsL al) (xsL al)
 | [],_=>⟨rfl,fun i b x hb=>by simp[bsL] at hb⟩
 | a :: l,hg=>by
  obtain⟨h1,h2⟩:=Ly l fun b hb=>hg b (List.mem_cons_of_mem _ hb)
  have ha:=hg a List.mem_cons_self
  cases a with
  | val v=>exact⟨h1,h2⟩
  | long n b x =>
   refine⟨by show(bsL l).length+1=(xsL l).length+1;rw[h1],fun i c y hc hy=>?_⟩
   match i with
   | 0=>cases hc;cases hy;exact ha
   | i+1=>exact h2 i c y hc hy
  | rat n b x c y =>
   refine⟨by show(bsL l).length+1+1=(xsL l).length+1+1;rw[h1],fun i d z hd hz=>?_⟩
   match i with
   | 0=>cases hd;cases hz;exact ha.1
   | 1=>cases hd;cases hz;exact ha.2
   | i+2=>exact h2 i d z hd hz
def Hx {α:Type} (l:List Nat) (h:IH) (k:IH→α):α:=List.rec (motive:=fun _=>IH→α) k (fun y _ ih h=>OR h (.num y) fun _ h'=>ih h') l h
theorem Hw {α:Type} : ∀(l:List Nat) (h:IH) (k:IH→α),Hx l h k=k (gJ h l)
 | [],_,_=>rfl
 | y :: l,h,k=>by
  show OR h (.num y) (fun _ h'=>Hx l h' k)=_
  rw[y9,Hw l];rfl
def Yf (r:NR) (h:IH):Option (Value×IH):=match r with
 | .val v=>some (v,h)
 | .long n x=>fN (Nat.mul 2 h.n) fun a=>fN (xL x) fun i=>Hx [x] h fun h'=>some (.agg ⟨[.bool n,.slice (some ⟨a,0,some 0⟩) i 0]⟩,h')
 | .rat n x y=>fN (Nat.mul 2 h.n) fun a=>fN (Nat.mul 2 (Nat.succ h.n)) fun b=>fN (xL x) fun i=>fN (xL y) fun j=>Hx [x,y] h fun h'=>some (.agg ⟨[.bool n,.slice (some ⟨a,0,some 0⟩) i 0,.bool false,.slice (some ⟨b,0,some 0⟩) j 0]⟩,h')
 | .two n x k y=>fN (Nat.mul 2 h.n) fun a=>fN (Nat.mul 2 (Nat.succ h.n)) fun b=>fN (xL x) fun i=>fN (xL y) fun j=>Hx [x,y] h fun h'=>some (.tuple ⟨[.agg ⟨[.bool n,.slice (some ⟨a,0,some 0⟩) i 0]⟩,.agg ⟨[.bool k,.slice (some ⟨b,0,some 0⟩) j 0]⟩]⟩,h')
theorem Mr (r:NR) (h:IH):Yf r h=some (r.value h.n,gJ h r.tc):=by
 unfold Yf
 cases r<;>simp only[dX,Hw]<;>rfl
def J3 (ks:List NK) (sem:List NV→Option NR) (args:List Value) (h:IH):Option (Value×IH):=match zj h ks args with
 | some al=>match sem al with
  | some r=>Yf r h
  | none=>none
 | none=>none
variable {P:Program}
def J2 (S:Sound (E0 P)) {f:FuncId} {ks:List NK} {sem:List NV→Option NR} (F:tT P f sem) {args:List Value} {h':IH} (e:J3 ks sem args h=some (v,h'))
  {B:Nat} {w0:World} {w:World} {args':Array Value} (R:Rel B w0 m h w) (ha:bw m args args'.toList) (fr:eH m h.n h'.n):kO P f args' B w0 m h w v h':=by
 unfold J3 at e
 split at e
 case h_2=>cases e
 rename_i al has
 split at e
 case h_2=>cases e
 rename_i r hr
 rw[Mr] at e
 cases e
 obtain⟨e1,e2,e3⟩:=wg has
 obtain⟨g,W⟩:=F.right al r e2 hr
 have T:=Ly al e3
 rw[e1,←pT] at ha
 have hw : ∀us,us.length=(xsL al).length→(∀(i:Nat) (u:Value),us[i]?=some u→BQ (xsL al) i u)→WV P (.func (.func f) #[] #[]) (nO al us) (IH.start (fV (xsL al))) fun v h'=>r.real h' v :=
  fun us hl hu=>W _ _ (pK _ al us hl (fun i x u hx h2=>RB (hu i u h2) hx) e2)
 by_cases c : ∃v,r=.val v
 ·obtain⟨v,rfl⟩:=c
  exact OO S R T (j5 al e2) ha F.body g hw
 ·have nv : ∀v,r≠.val v:=fun v e=>c ⟨v,e⟩
  have:=Rz S R T (j5 al e2) ha F.body (r.para nv) (fun us hl hu=>(hw us hl hu).mono fun v h' p=>NR.Oq nv g p) (by rw[sX] at fr;exact fr)
  rw[NR.Pp] at this
  exact this
def E2 (P:Program) (tb:FuncId→Option (List Value→Option Value)) (tn:FuncId→Option (List Value→IH→Option (Value×IH))):Env:=⟨P,fun _ _=>none,fun f=>match tn f with
 | some g=>some g
 | none=>(E1 P tb).tk f⟩
def XN {tb:FuncId→Option (List Value→Option Value)} {tn:FuncId→Option (List Value→IH→Option (Value×IH))} (S0:Sound (E0 P)) (S:Sound (E1 P tb)) (hn : ∀f g,tn f=some g → ∃ks sem,g=J3 ks sem∧tT P f sem):Sound (E2 P tb tn) where
 mixed:=S.mixed
 names:=S.names
 origin:=S.origin
 Ia:=fun f g hg args h v h' e=>by
  have hg:(match tn f with|some g=>some g|none=>(E1 P tb).tk f)=some g:=hg
  split at hg
  ·rename_i g' hg'
   cases hg
   obtain⟨ks,sem,rfl,F⟩:=hn f _ hg'
   unfold J3 at e
   split at e
   case h_2=>cases e
   split at e
   case h_2=>cases e
   rw[Mr] at e
   cases e
   rw[sX];omega
  ·exact S.Ia f g hg args h v h' e
 tk:=fun f g hg=>by
  have hg:(match tn f with|some g=>some g|none=>(E1 P tb).tk f)=some g:=hg
  split at hg
  ·rename_i g' hg'
   cases hg
   obtain⟨ks,sem,rfl,F⟩:=hn f _ hg'
   exact⟨F.body,fun args h v h' e B w0 m w args' R ha fr=>J2 S0 F e R ha fr⟩
  ·exact S.tk f g hg
end
end Go.Id

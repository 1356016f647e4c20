/-
  Contracts: law 34's drafts: lists, weights. The rows' common part: wide numbers, bytes, integers, drafted kernels that came in.
-/
import Derived.Test.YtjhnilfelokpcaaGreatOutlierWaysBl
import Derived.Test.YtjhnilfelokpcaaGreatOutlierWaysBh
import Derived.Test.YtjhnilfelokpcaaGreatOutlierWaysAq
set_option linter.unusedVariables false
set_option linter.unusedSimpArgs false
set_option linter.defProp false
set_option linter.deprecated false
namespace Go.Id
open Go
open Go.Proofs.Tryz (prog)
def BySl (h:IH) (v:Value) (l:List Nat):Prop:=SlOf h 1 v l.length (l.map B8)∧l.length<9223372036854775808 ∧ ∀x∈l,x<256
theorem BySl.keep {h h':IH} {v:Value} {l:List Nat} (s:BySl h v l) (e:Keep h h'):BySl h' v l:=⟨s.1.keep e,s.2⟩
theorem BySl.ld {h h':IH} {v:Value} {l:List Nat} (s:BySl h v l) (e:Keep h h') {i:Nat} {x:Nat} (hi:l[i]?=some x):load prog h' 5 (elemAddr v i)=some (B8 x):=by
 have hil:=(List.getElem?_eq_some_iff.1 hi).1
 rw[s.1.ld e (by simpa using hil) ag5,List.getElem?_map,hi];rfl
theorem wiL_take (m:Nat) : ∀l:List Nat,wiL (l.take m)=(wiL l).take (m*8):=by
 induction m with
 | zero=>intro l;simp[wiL]
 | succ m ih =>
  intro l
  cases l with
  | nil=>simp[wiL]
  | cons a l =>
   have e : ∀(x:Nat) (y:List Nat),wiL (x :: y)=wdC x ++ wiL y:=fun x y=>by rw[wiL,List.flatMap_cons,←wiL]
   rw[List.take_succ_cons,e,e,ih,List.take_append,wdC_len,List.take_of_length_le (l:=wdC a) (by rw[wdC_len];omega),show(m+1)*8 - 8=m*8 by omega]
theorem BySl.first {h h':IH} {v:Value} {l:List Nat} (s:BySl h v l) (kp:Keep h h') {m:Nat} (hm:m≤l.length) : ∃w,sliceOp prog h' 22 v none (some (KN m)) none=some w∧BySl h w (l.take m):=by
 have lb:=s.2.1
 obtain⟨w,hw,hs⟩:=s.1.slice kp (P:=prog) (t:=22) u22 sz5 (l:=0) (m:=m) (Nat.zero_le _) hm (lo:=none) (hi:=some (KN m)) rfl (fun c hc=>natOf_nat (k:=.i64) (by omega))
 refine⟨w,hw,?_,by rw[List.length_take];omega,fun x hx=>s.2.2 x (List.mem_of_mem_take hx)⟩
 rw[List.length_take,Nat.min_eq_left hm,List.map_take]
 simpa using hs
def InAr (h:IH) (v:Value) (l:List Int):Prop:=SlOf h 1 v l.length (l.map KI)∧l.length<9223372036854775808 ∧ ∀x∈l,In64 x
theorem InAr.keep {h h':IH} {v:Value} {l:List Int} (s:InAr h v l) (e:Keep h h'):InAr h' v l:=⟨s.1.keep e,s.2⟩
def WiAr (h:IH) (v:Value) (l:List Nat):Prop:=SlOf h 8 v l.length (wiL l)∧l.length<9223372036854775808 ∧ ∀n∈l,n<W8
theorem WiAr.keep {h h':IH} {v:Value} {l:List Nat} (s:WiAr h v l) (e:Keep h h'):WiAr h' v l:=⟨s.1.keep e,s.2⟩
theorem InAr.first {h h':IH} {v:Value} {l:List Int} (s:InAr h v l) (kp:Keep h h') {m:Nat} (hm:m≤l.length) (hb:m≤1000) : ∃w,sliceOp prog h' 25 v none (some (KN m)) none=some w∧InSl h w (l.take m):=by
 have lb:=s.2.1
 obtain⟨w,hw,hs⟩:=s.1.slice kp (P:=prog) (t:=25) u25 sz3 (l:=0) (m:=m) (Nat.zero_le _) hm (lo:=none) (hi:=some (KN m)) rfl (fun c hc=>natOf_nat (k:=.i64) (by omega))
 refine⟨w,hw,?_,by rw[List.length_take];omega,fun x hx=>s.2.2 x (List.mem_of_mem_take hx)⟩
 rw[List.length_take,Nat.min_eq_left hm,List.map_take]
 simpa using hs
theorem WiAr.first {h h':IH} {v:Value} {l:List Nat} (s:WiAr h v l) (kp:Keep h h') {m:Nat} (hm:m≤l.length) (hb:m≤1000) : ∃w,sliceOp prog h' 28 v none (some (KN m)) none=some w∧WiSl h w (l.take m):=by
 have lb:=s.2.1
 obtain⟨w,hw,hs⟩:=s.1.slice kp (P:=prog) (t:=28) u28 sz44 (l:=0) (m:=m) (Nat.zero_le _) hm (lo:=none) (hi:=some (KN m)) rfl (fun c hc=>natOf_nat (k:=.i64) (by omega))
 refine⟨w,hw,?_,by rw[List.length_take];omega,fun x hx=>s.2.2 x (List.mem_of_mem_take hx)⟩
 rw[List.length_take,Nat.min_eq_left hm]
 rw[wiL_take]
 simpa using hs
theorem rem_natk (P:Program) (t:TypeId) (k:IntKind) (ox oy:Operand) (a n:Nat) (hn:0<n):binop P .rem t ox oy (.int k (a:Int)) (.int k (n:Int))=some (.int k ((a % n:Nat):Int)):=by
 rw[binop_rem P t ox oy (by omega),Int.tmod_eq_emod_of_nonneg (by omega),Int.natCast_emod]
end Go.Id

namespace Go.Proofs.YtjhnilfelokpcaaGreat
open Go.ChangeShapes Go.WideShapes Go.ChangeAt Go.RowKit Go.Id
theorem u_u8s:Tryz.prog.underlying 22=some (.slice 5):=by kernel_rfl
theorem u_kdraft:Tryz.prog.underlying 24=some (.struct { toList:=[{ name := "Size",type:=5,offset:=0,embedded:=false,tag := "",pkgPath := "",byteOffset:=0 },{ name := "N",type:=22,offset:=1,embedded:=false,tag := "",pkgPath := "",byteOffset:=8 }] }):=by kernel_rfl
theorem c_u8:Tryz.prog.cellsOf 5=1:=by kernel_rfl
theorem c_u8s:Tryz.prog.cellsOf 22=1:=by kernel_rfl
theorem c_kdraft:Tryz.prog.cellsOf 24=2:=by kernel_rfl
theorem nums1_of {f:Nat→Value} {m:Nat} : ∀(n:Nat) (cs:List Value),cs.length=n*1→(∀i,i<n → ∃p,p<m∧(cs.drop (i*1)).take 1 = [f p]) → ∃ps:List Nat,ps.length=n∧cs=ps.map f ∧ ∀p∈ps,p<m
 | 0,cs,h,_=>⟨[],rfl,by simpa using h,fun p hp=>by cases hp⟩
 | n+1,[],h,_=>by simp at h
 | n+1,c :: cs,h,k=>by
  obtain⟨p,h1,h2⟩:=k 0 (by omega)
  obtain⟨ps,h3,h4,h5⟩:=nums1_of n cs (by simp at h ⊢;omega) fun i hi=>by
   obtain⟨q,h6,h7⟩:=k (i+1) (by omega)
   exact⟨q,h6,by simpa using h7⟩
  refine⟨p :: ps,by simp[h3],?_,fun q hq=>?_⟩
  ·simp at h2;rw[List.map_cons,h2,h4]
  ·rcases List.mem_cons.1 hq with rfl|hq
   ·exact h1
   ·exact h5 q hq
section
variable {H:Type} {enc:TypeId×Value→H} {W:World} {held:Bool}
theorem tell_bytes (G:Nat→Option (List Value)) {fuel:Nat} {cs0:List Value} {x:DataW H×List MemPlace} (h:DataW.trod enc Tryz.prog W 0 (fun _=>true) held fuel 22 cs0=some x) :
  ∃v l,cs0 = [v]∧tellable v=true∧BySl (IH.start (tellB G W)) (trV v) l:=by
 obtain⟨v,n,cs,e1,ht,hn,hs,hR⟩:=tell_slice (R:=fun cs => ∃p:Nat,p<256∧cs.map trV = [B8 p]) u_u8s c_u8 (by omega) (fun n cs x hx=>by
  obtain⟨i,rfl,hi⟩:=trod_nat (m:=255) rfl rfl u_u8 hx
  exact⟨⟨i,by omega,rfl⟩,fun y hy=>by rw[List.mem_singleton.1 hy];rfl⟩) G h
 obtain⟨ps,h1,h2,h3⟩:=nums1_of (f:=B8) (m:=256) n (cs.map trV) hs.2.1 fun i hi=>by
  obtain⟨p,hp,e⟩:=hR i hi
  exact⟨p,hp,by rw[←List.map_drop,←List.map_take];exact e⟩
 subst h1
 exact⟨v,ps,e1,ht,h2▸hs,Nat.lt_of_le_of_lt hn (by decide),h3⟩
theorem len2 {α:Type} : ∀{l:List α},l.length=2 → ∃a b,l = [a,b]
 | [a,b],_=>⟨a,b,rfl⟩
theorem kdraft_of (G:Nat→Option (List Value)) {fuel:Nat} {cs:List Value} {x:DataW H×List MemPlace} (h:DataW.trod enc Tryz.prog W 0 (fun _=>true) held fuel 24 cs=some x) :
  ∃k y l,cs = [B8 k,y]∧k<256∧tellable y=true∧BySl (IH.start (tellB G W)) (trV y) l:=by
 obtain⟨xs,m,_,_,hl,hn,hf⟩:=DataW.trod_struct u_kdraft h
 rw[c_kdraft] at hl
 have hn2:xs.length=2:=hn
 obtain⟨x0,hx0⟩ : ∃y,xs[0]?=some y:=⟨_,List.getElem?_eq_getElem (by omega)⟩
 have f0:DataW.trod enc Tryz.prog W 0 (fun _=>true) held m 5 ((cs.drop 0).take (Tryz.prog.cellsOf 5))=some x0:=(hf 0 { name := "Size",type:=5,offset:=0,embedded:=false,tag := "",pkgPath := "",byteOffset:=0 } rfl).trans hx0
 obtain⟨x1,hx1⟩ : ∃y,xs[1]?=some y:=⟨_,List.getElem?_eq_getElem (by omega)⟩
 have f1:DataW.trod enc Tryz.prog W 0 (fun _=>true) held m 22 ((cs.drop 1).take (Tryz.prog.cellsOf 22))=some x1:=(hf 1 { name := "N",type:=22,offset:=1,embedded:=false,tag := "",pkgPath := "",byteOffset:=8 } rfl).trans hx1
 rw[c_u8] at f0
 rw[c_u8s] at f1
 obtain⟨a,b,rfl⟩:=len2 hl
 obtain⟨k,e0,hk⟩:=trod_nat (m:=255) rfl rfl u_u8 f0
 obtain⟨v,l,e1,t1,s1⟩:=tell_bytes G f1
 cases e0;cases e1
 exact⟨k,_,l,rfl,by omega,t1,s1⟩
theorem u_chance:Tryz.prog.underlying 63=some (.struct { toList:=[{ name := "State",type:=42,offset:=0,embedded:=false,tag := "",pkgPath := "",byteOffset:=0 }] }):=by kernel_rfl
theorem c_chance:Tryz.prog.cellsOf 63=1:=by kernel_rfl
theorem len1 {α:Type} : ∀{l:List α},l.length=1 → ∃a,l = [a]
 | [a],_=>⟨a,rfl⟩
theorem chance_of {fuel:Nat} {cs:List Value} {x:DataW H×List MemPlace} (h:DataW.trod enc Tryz.prog W 0 (fun _=>true) held fuel 63 cs=some x) : ∃s:Nat,cs = [K64 s]∧s<18446744073709551616:=by
 obtain⟨xs,m,_,_,hl,hn,hf⟩:=DataW.trod_struct u_chance h
 rw[c_chance] at hl
 have hn2:xs.length=1:=hn
 obtain⟨x0,hx0⟩ : ∃y,xs[0]?=some y:=⟨_,List.getElem?_eq_getElem (by omega)⟩
 have f0:DataW.trod enc Tryz.prog W 0 (fun _=>true) held m 42 ((cs.drop 0).take (Tryz.prog.cellsOf 42))=some x0:=(hf 0 { name := "State",type:=42,offset:=0,embedded:=false,tag := "",pkgPath := "",byteOffset:=0 } rfl).trans hx0
 rw[c_u64] at f0
 obtain⟨a,rfl⟩:=len1 hl
 obtain⟨k,e0,hk⟩:=trod_nat (m:=18446744073709551615) rfl rfl u_u64 f0
 cases e0
 exact⟨k,rfl,by omega⟩
end
end Go.Proofs.YtjhnilfelokpcaaGreat

namespace Go.Id
open Go Go.RowKit
def wlen (x:Nat):Nat:=(digs x).length
def tokV (b x:Nat):Value:=.slice (some ⟨b,0,some 0⟩) (wlen x) 0
theorem digs_zero:digs 0 = []:=by rw[digs];simp
theorem wlen_zero {x:Nat}:wlen x=0↔x=0:=by
 unfold wlen
 constructor
 ·intro h
  rw[digs] at h
  split at h
  ·assumption
  ·simp at h
 ·rintro rfl;rw[digs_zero];rfl
theorem wordsOf_len (x:Nat):(wordsOf x).length=wlen x:=by simp[wordsOf,wlen]
theorem wordsOf_zero:wordsOf 0 = []:=by unfold wordsOf;rw[digs_zero];rfl
def numBase (xs:List Nat) (b:Nat):Option (List Value):=match xs[b - 4294967296]? with
 | some x=>if 4294967296≤b∧x≠0 then some (wordsOf x) else none
 | none=>none
def NumAt (xs:List Nat) (i:Nat) (u:Value):Prop:=∃x,xs[i]?=some x∧((x=0∧(u=.slice none 0 0∨u=.slice (some ⟨0,0,none⟩) 0 0))∨(x≠0 ∧ ∃cap,wlen x≤cap∧u=.slice (some ⟨2*(4294967296+i)+1,0,none⟩) (wlen x) (2*cap+1)))
def Para (mk:List Value→Value) (n:Nat):Prop:=∀(m:Mp) (ss:List Value) (v':Value),ss.length=n→VRel m (mk ss) v' → ∃ss',LRel m ss ss' ∧ ∀(m2:Mp) (us:List Value),LRel m2 us ss'→VRel m2 (mk us) v'
def ParaL (mk:List Value→List Value) (n:Nat):Prop:=∀(m:Mp) (ss vs':List Value),ss.length=n→LRel m (mk ss) vs' → ∃ss',LRel m ss ss' ∧ ∀(m2:Mp) (us:List Value),LRel m2 us ss'→LRel m2 (mk us) vs'
theorem VRel.tok_inv {m:Mp} {b n:Nat} {v':Value} (h:VRel m (.slice (some ⟨b,0,some 0⟩) n 0) v') : ∃a cap,v'=.slice a n cap∧n≤cap∧((n=0∧(a=none→cap=0)) ∨ ∃r s,m b=some (r,s)∧a=some ⟨r,s,none⟩):=by
 cases h with
 | scal h=>simp[Id.scal] at h
 | tok hc h=>exact⟨_,_,rfl,hc,h⟩
def Toks (h:IH) (bs xs:List Nat):Prop:=bs.length=xs.length ∧ ∀(i b x:Nat),bs[i]?=some b→xs[i]?=some x→b % 2=0∧h.ext.get (b / 2)=some (.num x)
def toksOf:List Nat→List Nat→List Value
 | b :: bs,x :: xs=>tokV b x :: toksOf bs xs
 | _,_ => []
theorem toksOf_get : ∀(bs xs:List Nat) (i b x:Nat),bs[i]?=some b→xs[i]?=some x→(toksOf bs xs)[i]?=some (tokV b x)
 | [],_,_,_,_,h,_=>by simp at h
 | _ :: _,[],_,_,_,_,h=>by simp at h
 | b :: bs,x :: xs,0,b',x',h1,h2=>by simp at h1 h2;subst h1;subst h2;rfl
 | b :: bs,x :: xs,i+1,b',x',h1,h2=>by
  simp at h1 h2
  exact toksOf_get bs xs i b' x' h1 h2
theorem toksOf_len : ∀(bs xs:List Nat),bs.length=xs.length→(toksOf bs xs).length=xs.length
 | [],[],_=>rfl
 | [],_ :: _,h=>by simp at h
 | _ :: _,[],h=>by simp at h
 | b :: bs,x :: xs,h=>by
  show(toksOf bs xs).length+1=xs.length+1
  rw[toksOf_len bs xs (by simpa using h)]
theorem Rel.nums {B:Nat} {w0:World} {m:Mp} {h:IH} {w:World} (R:Rel B w0 m h w) {bs xs:List Nat} (T:Toks h bs xs) {ss':List Value} (hs:LRel m (toksOf bs xs) ss') :
  ∃m2:Mp,(∀k,m2 (2*k)=none)∧(∀(i b x:Nat),bs[i]?=some b→xs[i]?=some x→x≠0→m2 (2*(4294967296+i)+1)=m b)∧Rel w.heap.size w m2 (IH.start (numBase xs)) w ∧ ∃us,us.length=xs.length∧LRel m2 us ss' ∧ ∀(i:Nat) (u:Value),us[i]?=some u→NumAt xs i u:=by
 have loc : ∀(i b x:Nat),bs[i]?=some b→xs[i]?=some x→x≠0 → ∃r s c el,m b=some (r,s)∧r<w.heap.size∧w.heap[r]?=some (.cells c el)∧RowAt m (wordsOf x) c s:=by
  intro i b x hb hx x0
  obtain⟨v',h1,h2⟩:=hs.get (toksOf_get bs xs i b x hb hx)
  obtain⟨a,cap,rfl,hc,⟨e,_⟩|⟨r,s,hm,rfl⟩⟩:=h2.tok_inv
  ·exact absurd (wlen_zero.1 e) x0
  ·obtain⟨t1,t2⟩:=T.2 i b x hb hx
   have hm2:m (2*(b / 2))=some (r,s):=by rw[show 2*(b / 2)=b from by omega];exact hm
   rcases R.obj (b / 2) _ r s t2 hm2 with h3|⟨c,el,h3,h4⟩
   ·exact absurd h3 x0
   ·exact⟨r,s,c,el,hm,(R.even _ r s hm2).2,h3,h4⟩
 refine⟨⟨fun j=>if j % 2=0 then none else if j / 2<4294967296 then m j else match bs[j / 2 - 4294967296]? with|some b=>m b|none=>none,m.ez⟩,fun k=>?_,fun i b x hb hx x0=>?_,?_,?_⟩
 ·show(if 2*k % 2=0 then none else _)=none
  rw[if_pos (by omega)]
 ·show(if (2*(4294967296+i)+1) % 2=0 then none else if (2*(4294967296+i)+1) / 2<4294967296 then m (2*(4294967296+i)+1) else match bs[(2*(4294967296+i)+1) / 2 - 4294967296]? with|some b=>m b|none=>none)=m b
  rw[if_neg (by omega),if_neg (by omega),show(2*(4294967296+i)+1) / 2 - 4294967296=i from by omega,hb]
 ·have leaf : ∀{α:Type} (k:Nat),(Tr.leaf:Tr α).get k=none:=fun k=>rfl
  have even : ∀k x,(⟨fun j=>if j % 2=0 then none else if j / 2<4294967296 then m j else match bs[j / 2 - 4294967296]? with|some b=>m b|none=>none,m.ez⟩:Mp) (2*k)=some x→False:=by
   intro k x h
   have h1:(if 2*k % 2=0 then none else _)=some x:=h
   rw[if_pos (by omega)] at h1;cases h1
  refine⟨Below.refl _ _,Nat.le_refl _,?_,fun b hb=>?_,?_,fun k _=>leaf k,?_,?_,?_,?_,?_,?_⟩
  ·intro b cs hcs
   have hcs:numBase xs b=some cs:=hcs
   unfold numBase at hcs
   split at hcs
   case h_2=>cases hcs
   rename_i x hx
   split at hcs
   case isFalse=>cases hcs
   rename_i hb
   cases hcs
   have hi:b - 4294967296<bs.length:=by rw[T.1];exact(List.getElem?_eq_some_iff.1 hx).1
   obtain⟨b',hb'⟩ : ∃b',bs[b - 4294967296]?=some b':=⟨_,List.getElem?_eq_getElem hi⟩
   obtain⟨r,s,c,el,h1,h2,h3,h4⟩:=loc _ b' x hb' hx hb.2
   refine⟨r,s,?_,h2,c,el,_,h3,h4.1,fun i v hv=>?_⟩
   ·show(if (2*b+1) % 2=0 then none else if (2*b+1) / 2<4294967296 then m (2*b+1) else match bs[(2*b+1) / 2 - 4294967296]? with|some b=>m b|none=>none)=some (r,s)
    rw[if_neg (by omega),if_neg (by omega),show(2*b+1) / 2 - 4294967296=b - 4294967296 from by omega,hb']
    exact h1
   ·obtain⟨v',a,e⟩:=h4.2 i v hv
    unfold wordsOf at hv
    rw[List.getElem?_map] at hv
    obtain⟨d,_,rfl⟩:=Option.map_eq_some_iff.1 hv
    exact⟨v',a,by rw[e.scal_eq rfl];exact .scal rfl⟩
  ·show(if (2*b+1) % 2=0 then none else if (2*b+1) / 2<4294967296 then m (2*b+1) else _)=some (b,0)
   rw[if_neg (by omega),if_pos (by omega)]
   exact R.odd b hb
  ·intro k r s h;exact(even _ _ h).elim
  ·intro k o r s h;cases h
  ·intro k k' o o' r s s' _ h;cases h
  ·intro f st h;cases h
  ·intro k cs t f h;cases h
  ·intro f st h;cases h
  ·intro f st x y h;cases h
 ·-- the arguments
  obtain⟨m2,hm2⟩ : ∃m2:Mp,m2=⟨fun j=>if j % 2=0 then none else if j / 2<4294967296 then m j else match bs[j / 2 - 4294967296]? with|some b=>m b|none=>none,m.ez⟩:=⟨_,rfl⟩
  rw[←hm2]
  have at2 : ∀(i b:Nat),bs[i]?=some b→m2 (2*(4294967296+i)+1)=m b:=by
   intro i b hb
   rw[hm2]
   show(if (2*(4294967296+i)+1) % 2=0 then none else if (2*(4294967296+i)+1) / 2<4294967296 then m (2*(4294967296+i)+1) else match bs[(2*(4294967296+i)+1) / 2 - 4294967296]? with|some b=>m b|none=>none)=m b
   rw[if_neg (by omega),if_neg (by omega),show(2*(4294967296+i)+1) / 2 - 4294967296=i from by omega,hb]
  have lt:=toksOf_len bs xs T.1
  have ex : ∀i,i<xs.length → ∃u s',ss'[i]?=some s'∧VRel m2 u s'∧NumAt xs i u:=by
   intro i hi
   obtain⟨x,hx⟩ : ∃x,xs[i]?=some x:=⟨_,List.getElem?_eq_getElem hi⟩
   obtain⟨b,hb⟩ : ∃b,bs[i]?=some b:=⟨_,List.getElem?_eq_getElem (by rw[T.1];exact hi)⟩
   obtain⟨v',h1,h2⟩:=hs.get (toksOf_get bs xs i b x hb hx)
   obtain⟨a,cap,rfl,hc,hcase⟩:=h2.tok_inv
   by_cases x0:x=0
   ·subst x0
    have w0:wlen 0=0:=wlen_zero.2 rfl
    rw[w0] at h1 h2 hc hcase
    cases a with
    | none =>
     have c0:cap=0:=by
      rcases hcase with⟨_,h3⟩|⟨_,_,_,h3⟩
      ·exact h3 rfl
      ·cases h3
     subst c0
     exact⟨.slice none 0 0,_,h1,.scal rfl,0,hx,.inl ⟨rfl,.inl rfl⟩⟩
    | some a=>exact⟨.slice (some ⟨0,0,none⟩) 0 0,_,h1,.lost,0,hx,.inl ⟨rfl,.inr rfl⟩⟩
   ·rcases hcase with⟨e,_⟩|⟨r,s,hm,rfl⟩
    ·exact absurd (wlen_zero.1 e) x0
    ·refine⟨.slice (some ⟨2*(4294967296+i)+1,0,none⟩) (wlen x) (2*cap+1),_,h1,?_,x,hx,.inr ⟨x0,cap,hc,rfl⟩⟩
     have:=VRel.slice (m:=m2) (b:=2*(4294967296+i)+1) (o:=0) (r:=r) (s:=s) (len:=wlen x) (k:=2*cap+1) (cap:=cap) ((at2 i b hb).trans hm) (by omega) (by omega) (by omega) (fun _=>by omega) (fun h9=>by omega)
     exact this
  have key:=fun i (hi:i<xs.length)=>(ex i hi)
  refine⟨(List.range xs.length).map fun i=>if hi:i<xs.length then Classical.choose (ex i hi) else .slice none 0 0,by simp,⟨by rw[List.length_map,List.length_range,←hs.1,lt],fun i v v' hv hv'=>?_⟩,fun i u hu=>?_⟩
  ·rw[List.getElem?_map] at hv
   obtain⟨j,hj,rfl⟩:=Option.map_eq_some_iff.1 hv
   obtain⟨hj1,hj2⟩:=List.getElem?_eq_some_iff.1 hj
   rw[List.length_range] at hj1
   rw[List.getElem_range] at hj2
   subst hj2
   rw[dif_pos hj1]
   obtain⟨s',e1,e2,_⟩:=Classical.choose_spec (ex i hj1)
   rw[hv'] at e1;cases e1
   exact e2
  ·rw[List.getElem?_map] at hu
   obtain⟨j,hj,rfl⟩:=Option.map_eq_some_iff.1 hu
   obtain⟨hj1,hj2⟩:=List.getElem?_eq_some_iff.1 hj
   rw[List.length_range] at hj1
   rw[List.getElem_range] at hj2
   subst hj2
   rw[dif_pos hj1]
   obtain⟨s',_,_,e3⟩:=Classical.choose_spec (ex i hj1)
   exact e3
def addNums (h:IH):List Nat→IH
 | []=>h
 | y :: ys=>addNums (h.new (.num y)) ys
theorem addNums_n : ∀(ys:List Nat) (h:IH),(addNums h ys).n=h.n+ys.length
 | [],h=>rfl
 | y :: ys,h=>by
  show(addNums (h.new (.num y)) ys).n=_
  rw[addNums_n ys]
  show h.n+1+ys.length=h.n+(ys.length+1)
  omega
theorem addNums_base : ∀(ys:List Nat) (h:IH),(addNums h ys).base=h.base∧(addNums h ys).fams=h.fams
 | [],h=>⟨rfl,rfl⟩
 | y :: ys,h=>addNums_base ys (h.new (.num y))
theorem addNums_get : ∀(ys:List Nat) (h:IH) (k:Nat),(addNums h ys).ext.get k=if h.n≤k∧k<h.n+ys.length then (ys[k - h.n]?).map .num else h.ext.get k
 | [],h,k=>by rw[if_neg (by simp)];rfl
 | y :: ys,h,k=>by
  show(addNums (h.new (.num y)) ys).ext.get k=_
  rw[addNums_get ys]
  have n1:(h.new (.num y)).n=h.n+1:=rfl
  have g1:(h.new (.num y)).ext.get k=if k=h.n then some (.num y) else h.ext.get k:=by
   show(h.ext.set h.n _).get k=_
   rw[Tr.get_set]
  rw[n1,g1,List.length_cons]
  by_cases c:h.n+1≤k∧k<h.n+1+ys.length
  ·rw[if_pos c,if_pos ⟨by omega,by omega⟩,show k - h.n=(k - (h.n+1))+1 from by omega,List.getElem?_cons_succ]
  ·rw[if_neg c]
   by_cases e:k=h.n
   ·rw[if_pos e,if_pos ⟨by omega,by omega⟩,e,Nat.sub_self];rfl
   ·rw[if_neg e,if_neg (by omega)]
theorem num_calls {P:Program} (S:Sound (E0 P)) {B:Nat} {w0:World} {m:Mp} {h:IH} {w:World} (R:Rel B w0 m h w) {bs xs:List Nat} (T:Toks h bs xs) {mk:List Value→List Value} (par:ParaL mk xs.length) {args':Array Value} (ha:LRel m (mk (toksOf bs xs)) args'.toList)
  {f:FuncId} (hb : ∃fn,P.funcs[f]?=some fn∧fn.body.isSome=true) {K:Value→IH→Prop} (hw : ∀us,us.length=xs.length→(∀(i:Nat) (u:Value),us[i]?=some u→NumAt xs i u)→WV P (.func (.func f) #[] #[]) (mk us) (IH.start (numBase xs)) K) :
  ∃m2:Mp,(∀k,m2 (2*k)=none)∧(∀(i b x:Nat),bs[i]?=some b→xs[i]?=some x→x≠0→m2 (2*(4294967296+i)+1)=m b) ∧ ∃r h2,K r h2∧CallsTo P f args' w.heap.size w m2 (IH.start (numBase xs)) w r h2:=by
 obtain⟨ss',h1,h2⟩:=par m (toksOf bs xs) args'.toList (toksOf_len bs xs T.1) ha
 obtain⟨m2,e1,e2,R2,us,e3,e4,e5⟩:=R.nums T h1
 obtain⟨⟨r,hh⟩,⟨N,hN⟩,hK⟩:=hw us e3 e5
 refine⟨m2,e1,e2,r,hh,hK,?_⟩
 have hc:callV (E0 P) (N+1) (.func (.func f) #[] #[]) (mk us) (IH.start (numBase xs))=some (r,hh):=hN (N+1) (by omega)
 unfold callV at hc
 obtain⟨fn,hfn,hb⟩:=hb
 rcases callFn_sim S (callV_sim S N) (callV_mono S N) hc R2 (args':=args') (by simpa using h2 m2 us e4) (fun k _ _=>e1 k) with⟨_,k⟩|⟨fn',k1,k2,_⟩
 ·exact k
 ·have k3:P.funcs[f]?=some fn':=k1
  rw[hfn] at k3;cases k3
  rw[k2] at hb;cases hb
theorem Rel.aside2 {B:Nat} {w0:World} {m m':Mp} {h h':IH} {w w':World} (R:Rel B w0 m h w) (R':Rel w.heap.size w m' h' w'):Rel B w0 m h w'∧Step m h w m h w':=by
 have same : ∀r,r<w.heap.size→w'.heap[r]?=w.heap[r]?:=fun r hr=>R'.below.block r hr
 refine⟨⟨R.below.trans (R'.below.mono R.size),Nat.le_trans R.size R'.size,fun b cs hb=>?_,R.odd,fun k r s hk=>?_,R.dom,fun k o r s hk hm=>?_,R.own,R.famdom,R.fam,R.long,R.whole⟩,
  ⟨Mp.le_refl m,fun b hb=>absurd rfl hb,Nat.le_refl _,rfl,fun r hr _=>same r hr,fun _ _ _=>rfl,R'.size,fun k r s h1 h2=>by omega,fun _ _ _ hh=>hh⟩⟩
 ·obtain⟨r,s,h1,h2,c,el,fz,h3,h4⟩:=R.base b cs hb
  exact⟨r,s,h1,h2,c,el,fz,by rw[same r (by have:=R.size;omega)];exact h3,h4⟩
 ·have:=R.even k r s hk
  have:=R'.size
  exact⟨by omega,by omega⟩
 ·exact(R.obj k o r s hk hm).same (same r (R.even k r s hm).2)
theorem num_plain {P:Program} (S:Sound (E0 P)) {B:Nat} {w0:World} {m:Mp} {h:IH} {w:World} (R:Rel B w0 m h w) {bs xs:List Nat} (T:Toks h bs xs) {mk:List Value→List Value} (par:ParaL mk xs.length) {args':Array Value} (ha:LRel m (mk (toksOf bs xs)) args'.toList)
  {f:FuncId} (hb : ∃fn,P.funcs[f]?=some fn∧fn.body.isSome=true) {v:Value} (hv:plainT v=true) (hw : ∀us,us.length=xs.length→(∀(i:Nat) (u:Value),us[i]?=some u→NumAt xs i u)→WV P (.func (.func f) #[] #[]) (mk us) (IH.start (numBase xs)) fun r _=>r=v):CallsTo P f args' B w0 m h w v h:=by
 obtain⟨m2,_,_,r,hh,rfl,key⟩:=num_calls S R T par ha hb hw
 refine key.mono fun e' w' ⟨v',m',he,hvr,R',S'⟩=>?_
 obtain⟨R2,S2⟩:=R.aside2 R'
 exact⟨v',m,he,by rw[hvr.plainT_eq hv];exact .plainT_mk hv,R2,S2⟩
def NumSl (h:IH) (u:Value) (y:Nat):Prop:=SlOf h 1 u (wlen y) (wordsOf y)
def newBs (n k:Nat):List Nat:=(List.range k).map fun j=>2*(n+j)
theorem newBs_get {n k j:Nat} (h:j<k):(newBs n k)[j]?=some (2*(n+j)):=by unfold newBs;rw[List.getElem?_map,List.getElem?_range h];rfl
theorem newBs_len (n k:Nat):(newBs n k).length=k:=by simp[newBs]
structure NumLoc (m:Mp) (w w':World) (bs xs:List Nat) (y:Nat) (r s:Nat):Prop where
 lt:r<w'.heap.size
 row : ∃c el,w'.heap[r]?=some (.cells c el)∧RowAt m (wordsOf y) c s
 src:w.heap.size≤r ∨ ∃(i b x s0:Nat),bs[i]?=some b∧xs[i]?=some x∧m b=some (r,s0)
theorem row_part {m m':Mp} {row ws:List Value} {c:Array Value} {q o:Nat} (hr:RowAt m' row c q) (hw:(row.drop o).take ws.length=ws) (hle:o+ws.length≤row.length) (hs : ∀v∈ws,scal v=true):RowAt m ws c (q+o):=by
 refine⟨by have:=hr.1;omega,fun i v hv=>?_⟩
 have hi:=(List.getElem?_eq_some_iff.1 hv).1
 have hv2:row[o+i]?=some v:=by
  rw[←hw,List.getElem?_take_of_lt hi,List.getElem?_drop] at hv
  exact hv
 obtain⟨v',a,b⟩:=hr.2 _ v hv2
 have sc:=hs v (List.mem_of_getElem? hv)
 exact⟨v',by rw[Nat.add_assoc];exact a,by rw[b.scal_eq sc];exact .scal sc⟩
theorem words_scal (x:Nat) : ∀v∈wordsOf x,scal v=true:=by
 intro v hv
 obtain⟨d,_,rfl⟩:=List.mem_map.1 hv
 rfl
theorem num_loc {B:Nat} {w0:World} {m m2 m':Mp} {h h2:IH} {w w':World} (R:Rel B w0 m h w) {bs xs:List Nat} (T:Toks h bs xs) (hodd : ∀(i b x:Nat),bs[i]?=some b→xs[i]?=some x→x≠0→m2 (2*(4294967296+i)+1)=m b)
  (R':Rel w.heap.size w m' h2 w') (S':Step m2 (IH.start (numBase xs)) w m' h2 w') {u u':Value} {y:Nat} (hu:NumSl h2 u y) (hv:VRel m' u u') :
  ∃a cap,u'=.slice a (wlen y) cap∧wlen y≤cap∧((y=0∧(a=none→cap=0))∨(y≠0 ∧ ∃r s,a=some ⟨r,s,none⟩∧NumLoc m w w' bs xs y r s)):=by
 obtain⟨_,hl,⟨rfl,n0⟩|⟨b,o,k,rfl,⟨n0,k0⟩|⟨k0,hn,row,hb,hrow,htk,hle⟩⟩⟩:=hu
 ·obtain⟨_,_,rfl⟩:=hv.nil_inv
  exact⟨none,0,by rw[n0],by omega,.inl ⟨wlen_zero.1 n0,fun _=>rfl⟩⟩
 ·subst k0
  rcases hv.slice_inv with⟨r,s,cap,_,h0,_⟩|⟨_,_,a,cap,rfl⟩
  ·omega
  ·exact⟨some a,cap,by rw[n0],by omega,.inl ⟨wlen_zero.1 n0,fun h=>by cases h⟩⟩
 ·rcases hv.slice_inv with⟨r,q,cap,hm,_,_,hcap,_,_,rfl⟩|⟨_,e,_⟩
  ·refine⟨_,cap,rfl,by omega,?_⟩
   by_cases y0:y=0
   ·exact .inl ⟨y0,fun h=>by cases h⟩
   ·refine .inr ⟨y0,r,q+o,rfl,?_⟩
    have htk':(row.drop o).take (wordsOf y).length=wordsOf y:=by rw[wordsOf_len];rw[Nat.mul_one] at htk;exact htk
    have hle':o+(wordsOf y).length≤row.length:=by rw[wordsOf_len];omega
    by_cases bo:b % 2=1
    ·have hr2:h2.base (b / 2)=some row:=by
      unfold IH.row at hrow
      simpa [bo] using hrow
     rw[S'.base] at hr2
     have hr2:numBase xs (b / 2)=some row:=hr2
     unfold numBase at hr2
     split at hr2
     case h_2=>cases hr2
     rename_i x hx
     split at hr2
     case isFalse=>cases hr2
     rename_i hbig
     cases hr2
     obtain⟨b',hb'⟩ : ∃b',bs[b / 2 - 4294967296]?=some b':=⟨_,List.getElem?_eq_getElem (by rw[T.1];exact(List.getElem?_eq_some_iff.1 hx).1)⟩
     have e1:=hodd _ b' x hb' hx hbig.2
     rw[show 2*(4294967296+(b / 2 - 4294967296))+1=b from by omega] at e1
     have e2:m' b=m2 b:=Classical.byContradiction fun hne=>by
      obtain⟨k9,e9,_⟩:=S'.new b hne
      omega
     have hmb:m b'=some (r,q):=by rw[←e1,←e2];exact hm
     obtain⟨t1,t2⟩:=T.2 _ b' x hb' hx
     have hmb2:m (2*(b' / 2))=some (r,q):=by rw[show 2*(b' / 2)=b' from by omega];exact hmb
     have hev:=R.even _ r q hmb2
     rcases R.obj (b' / 2) _ r q t2 hmb2 with h3|⟨c,el,h3,h4⟩
     ·exact absurd h3 hbig.2
     ·have same:w'.heap[r]?=w.heap[r]?:=R'.below.block r hev.2
      exact⟨by have:=R'.size;omega,⟨c,el,by rw[same];exact h3,row_part h4 htk' hle' (words_scal y)⟩,.inr ⟨_,b',x,q,hb',hx,hmb⟩⟩
    ·rcases hb with hb|⟨hb,hlt,f,hg⟩
     ·omega
     ·have hm2:m' (2*(b / 2))=some (r,q):=by rw[show 2*(b / 2)=b from by omega];exact hm
      obtain⟨c,el,hc,hrw,_⟩:=R'.obj (b / 2) _ r q hg hm2
      have hr2:h2.row b=some row:=hrow
      have hev:=R'.even _ r q hm2
      refine⟨hev.2,⟨c,el,hc,row_part hrw htk' hle' (words_scal y)⟩,.inl ?_⟩
      rcases S'.img (b / 2) r q (Nat.zero_le _) (by omega) hm2 with h3|⟨k9,_,h9,_⟩
      ·exact h3
      ·exact absurd h9 (Nat.not_lt_zero _)
  ·omega
end Go.Id

/-
  Contracts: law 33: Bend.of. Contracts: law 33: Bend.of, Of.
-/
import Derived.Test.YtjhnilfelokpcaaGreatOutlierPathsAq
import Derived.Test.YtjhnilfelokpcaaGreatOutlierPathsBl
import Derived.Test.YtjhnilfelokpcaaGreatOutlierPathsBb
import Derived.Test.YtjhnilfelokpcaaGreatOutlierPathsBf
set_option linter.unusedVariables false
set_option linter.unusedSimpArgs false
set_option linter.defProp false
set_option linter.deprecated false
namespace Go.Id
open Go
open Go.Proofs.Tryz (prog)
set_option maxHeartbeats 16000000
theorem DS {h:IH} {sz k n c:Nat} {cs:List Value} (hg:h.ext.get k=some (.cells cs sz none)) {P:Program} {t:TypeId} (hT:aJ P t=some sz) {i:Nat} (hle:i*sz+sz≤cs.length) {x:Value} {xs:List Value} (hx:x.cells.toList=xs) (hxl:xs.length=sz) (hc:xs.all aH=true) :
  store P h t (aO (.slice (some ⟨2*k,0,none⟩) n c) (i*sz)) x=some (h.put k (.cells (IH.aG cs (i*sz) xs) sz none)):=by
 have k2:2*k / 2=k:=by omega
 have k1:(2*k % 2 == 1)=false:=by simp
 have hsx:x.cells.size=sz:=by rw[←Array.length_toList,hx,hxl]
 have hst:store P h t (aO (.slice (some ⟨2*k,0,none⟩) n c) (i*sz)) x=h.wr (2*k) (i*sz) xs:=by
  simp only[aO,Nat.zero_add,store,asAddr,ptr,hT,hx,hsx,hc,beq_self_eq_true,Bool.and_self,cond_true]
 have ZH:Nat.ble (i*sz+xs.length) cs.length=true:=by rw[Nat.ble_eq,hxl];exact hle
 rw[hst]
 simp only[IH.wr,k1,k2,hg,ZH,cond_true,cond_false];rfl
theorem IF {P:Program} {t:TypeId} {sz bytes:Nat} (hT:kL P t=some (sz,bytes)) {h:IH} {k n:Nat} {cs:List Value} (hg:h.ext.get k=some (.cells cs sz none)) (hl:cs.length=n*sz) (hn:0<n) {x:Value} {m:Nat} {new:List Value} (sx:iv h sz x m new) (hm:0<m) (hc:new.all aH=true) (hsz:(n+m)*(bytes+1)≤1099511627776) :
  append P h t (.slice (some ⟨2*k,0,none⟩) n (2*n)) x=some (.slice (some ⟨2*h.n,0,none⟩) (n+m) (2*(n+m)),grown h k h.n cs sz [] [] (cs ++ new) sz):=by
 unfold kL at hT
 split at hT
 case h_2=>cases hT
 rename_i e hu
 split at hT
 case h_2=>cases hT
 rename_i zs h1 h2 h3
 simp only[cond_eq_ite] at hT
 split at hT
 case isTrue=>cases hT
 rename_i Dx
 cases hT
 have mh:(sz == 0 || (!(Nat.ble bytes 65536) || !(zs.length == sz)))=false:=by simpa using Dx
 obtain⟨PI,hln,hx⟩:=sx
 have vI:(m == 0)=false:=by simp;omega
 have hms : ¬m*sz=0:=by
  have:0<m*sz:=Nat.mul_pos hm PI
  omega
 have hx' : ∃b o kk row,x=.slice (some ⟨b,o,none⟩) m kk∧h.row b=some row∧(row.drop o).take (m*sz)=new∧o+m*sz≤row.length:=by
  rcases hx with⟨rfl,rfl⟩|⟨b,o,kk,rfl,hx⟩
  ·omega
  ·rcases hx with⟨rfl,_⟩|⟨row,a1,a2,a3⟩
   ·omega
   ·exact⟨b,o,kk,row,rfl,a1,a2,a3⟩
 obtain⟨b,o,kk,row,rfl,a1,a2,a3⟩:=hx'
 have jJ:bN h sz m (.slice (some ⟨b,o,none⟩) m kk)=some new:=by
  simp only[bN,cond_eq_ite,Nat.ble_eq,Nat.le_refl,if_true,beq_iff_eq,if_neg hms]
  rw[tY a1,if_pos a3,a2]
 have ti:Nat.ble ((n+m)*(bytes+1)) aI=true:=by rw[Nat.ble_eq];exact hsz
 have mB:Nat.ble (n+m) (2*n / 2)=false:=by
  rw[Bool.eq_false_iff];intro hh;rw[Nat.ble_eq] at hh;omega
 have mA:(2*n % 2 == 1)=false:=by simp
 have hlen:(n == 2*n / 2 && Nat.blt 0 n && (2*k) % 2 == 0)=true:=by
  have:2*n / 2=n:=by omega
  simp[this,Nat.blt,Nat.ble_eq];omega
 have rF:(0+n*sz == cs.length && sz == sz)=true:=by simp[hl]
 have hk2:2*k / 2=k:=by omega
 simp only[Id.append,hu,h1,h2,h3,lenOf,vI,mh,jJ,hc,ti,mB,mA,hlen,hk2,hg,rF,cond_true,cond_false,Bool.not_true,List.drop_zero]
abbrev kh (n b:Nat):Value:=.slice (some ⟨2*b,0,none⟩) n (2*n)
theorem ER {h:IH} {v:Value} {l:List (Nat×Nat)} (hs:jt h v l) (hp:0<l.length) (hn:l.length≤1000000) :
  WV prog (.func (.func 155) #[] #[]) [v] h fun r h'=>Ext h h' ∧ ∃b,r=kh l.length b∧h.n≤b∧b<h'.n∧h'.ext.get b=some (.cells (shL l) 16 none):=by
 have hc:=RT l
 obtain⟨⟨hz,hl,⟨rfl,hl0⟩|⟨b,o,k,rfl,hh⟩⟩,_⟩:=hs
 ·omega
 ·have hk:Ext h (h.new (.cells [] 16 none)):=(Ext.refl h).new _
  have Xk:iv (h.new (.cells [] 16 none)) 16 (.slice (some ⟨b,o,none⟩) l.length k) l.length (shL l):=(bI.ae ⟨hz,hl,.inr ⟨b,o,k,rfl,hh⟩⟩ hk.ae).now
  refine enter (nt:=8) (rs:=[.tmp 2]) Proofs.Tryz.func155 rfl rfl rfl (by simp) ?_
  simp -dsimp (disch:=try exact dx) only[wpS,wpT,Nat.reduceEqDiff,Nat.reduceMul,QZ,yh,Fz u82,qI Th _ Xk hp hc (by omega)]
  exact⟨hk.new _,h.n+1,rfl,by omega,by simp,ab _ _ rfl⟩
def pn (h:IH) (n0 n:Nat) (bs:List Nat) (ll:List (List (Nat×Nat))):Prop:=bs.length=ll.length∧bs.Nodup ∧ ∀(k:Nat) b x,bs[k]?=some b→ll[k]?=some x→n0≤b∧b<h.n∧h.ext.get b=some (.cells (shL x) 16 none)∧x.length=n
theorem sG {h:IH} {n b:Nat} {x:List (Nat×Nat)} (hg:h.ext.get b=some (.cells (shL x) 16 none)) (hb:b<h.n) (hn:0<n) (hx:x.length=n) (hm:n≤1000000) (hw : ∀p∈x,p.1<W8∧p.2<W8):jt h (kh n b) x:=by
 subst hx
 exact⟨cD hg hb (by omega) (mI x) (by omega) (by omega),by omega,hw⟩
def IJ (ll:List (List (Nat×Nat))):Prop:=∀x∈ll,∀p∈x,p.1<W8∧p.2<W8
theorem Bt {h:IH} {out:Value} {n0 n:Nat} {bs:List Nat} {ll:List (List (Nat×Nat))} (so:bI h 1 out ll.length (bs.map (kh n))) (R:pn h n0 n bs ll) (hn:0<n) (hm:n≤1000000) (hl:ll.length≤1000000) (hw:IJ ll):hP h out ll:=by
 refine⟨_,so,by omega,fun i x hx=>?_⟩
 have hi:=(List.getElem?_eq_some_iff.1 hx).1
 obtain⟨b,hb⟩ : ∃b,bs[i]?=some b:=⟨bs[i]'(by rw[R.1];exact hi),List.getElem?_eq_getElem (by rw[R.1];exact hi)⟩
 obtain⟨r1,r2,r3,r4⟩:=R.2.2 i b x hb hx
 exact⟨kh n b,by rw[List.getElem?_map,hb];rfl,sG r3 r2 hn r4 hm (hw x (List.mem_of_getElem? hx))⟩
theorem pn.mono {h h':IH} {n0 n:Nat} {bs:List Nat} {ll:List (List (Nat×Nat))} (R:pn h n0 n bs ll) (hn:h.n≤h'.n) (ho : ∀j c,j<h.n→h.ext.get j=some (.cells c 16 none)→h'.ext.get j=some (.cells c 16 none)):pn h' n0 n bs ll:=by
 refine⟨R.1,R.2.1,fun k b x hb hx=>?_⟩
 obtain⟨r1,r2,r3,r4⟩:=R.2.2 k b x hb hx
 exact⟨r1,by omega,ho b _ r2 r3,r4⟩
theorem pn.YL {h h':IH} {n0 n:Nat} {bs:List Nat} {ll:List (List (Nat×Nat))} (R:pn h n0 n bs ll) {i b:Nat} {y:List (Nat×Nat)} (hi:bs[i]?=some b) (hn:h'.n=h.n) (ho : ∀j,j≠b→h'.ext.get j=h.ext.get j) (hb:h'.ext.get b=some (.cells (shL y) 16 none)) (hy:y.length=n):pn h' n0 n bs (ll.set i y):=by
 have hil:=(List.getElem?_eq_some_iff.1 hi).1
 refine⟨by rw[List.length_set];exact R.1,R.2.1,fun k c x hk hx=>?_⟩
 have hkl:=(List.getElem?_eq_some_iff.1 hk).1
 rw[List.getElem?_set] at hx
 by_cases hki:i=k
 ·subst hki
  rw[if_pos rfl] at hx
  rw[hi] at hk;cases hk
  split at hx
  ·cases hx
   obtain⟨z,hz⟩ : ∃z,ll[i]?=some z:=⟨ll[i]'(by have:=R.1;omega),List.getElem?_eq_getElem (by have:=R.1;omega)⟩
   obtain⟨r1,r2,r3,r4⟩:=R.2.2 i b z hi hz
   exact⟨r1,by omega,hb,hy⟩
  ·cases hx
 ·rw[if_neg hki] at hx
  obtain⟨r1,r2,r3,r4⟩:=R.2.2 k c x hk hx
  have hcb:c≠b:=by
   rintro rfl
   have e1:=(List.getElem?_eq_some_iff.1 hi).2
   have e2:=(List.getElem?_eq_some_iff.1 hk).2
   exact hki ((List.getElem_inj R.2.1).1 (e1.trans e2.symm))
  exact⟨r1,by omega,(ho c hcb).trans r3,r4⟩
def GJ {α:Type} (l m:List α) (i:Nat):Prop:=m.length=l.length ∧ ∀k,k<l.length→m[k]?=if k<i∨l.length≤k+i then l[l.length - 1 - k]? else l[k]?
theorem GJ.start {α:Type} (l:List α):GJ l l 0:=⟨rfl,fun k hk=>by rw[if_neg (by omega)]⟩
theorem GJ.done {α:Type} {l m:List α} {i:Nat} (r:GJ l m i) (hi:l.length≤i+i+1):m=l.reverse:=by
 apply List.ext_getElem?
 intro k
 by_cases hk:k<l.length
 ·rw[List.getElem?_reverse hk,r.2 k hk]
  by_cases c:k<i∨l.length≤k+i
  ·rw[if_pos c]
  ·rw[if_neg c,show l.length - 1 - k=k by omega]
 ·rw[List.getElem?_eq_none (by rw[r.1];omega),List.getElem?_eq_none (by rw[List.length_reverse];omega)]
theorem GJ.step {α:Type} {l m:List α} {i:Nat} (r:GJ l m i) (hi:i+i+1<l.length) {x y:α} (hx:m[i]?=some x) (hy:m[l.length - 1 - i]?=some y):GJ l ((m.set i y).set (l.length - 1 - i) x) (i+1):=by
 have ex:=r.2 i (by omega)
 have ey:=r.2 (l.length - 1 - i) (by omega)
 rw[if_neg (by omega),hx] at ex
 rw[if_neg (by omega),hy] at ey
 refine⟨by simp[r.1],fun k hk=>?_⟩
 rw[List.getElem?_set,List.getElem?_set,List.length_set,r.1]
 by_cases c1:l.length - 1 - i=k
 ·subst c1
  rw[if_pos rfl,if_pos hk,if_pos (by omega),show l.length - 1 - (l.length - 1 - i)=i by omega,←ex]
 rw[if_neg c1]
 by_cases c2:i=k
 ·subst c2
  rw[if_pos rfl,if_pos hk,if_pos (by omega),←ey]
 rw[if_neg c2,r.2 k hk]
 by_cases c:k<i∨l.length≤k+i
 ·rw[if_pos c,if_pos (by omega)]
 ·rw[if_neg c,if_neg (by omega)]
def uT (b:Nat) (h h':IH):Prop:=h'.n=h.n∧h'.base=h.base∧(∀j,j≠b→h'.ext.get j=h.ext.get j)∧h'.bQ=h.bQ
theorem uT.refl (b:Nat) (h:IH):uT b h h:=⟨rfl,rfl,fun _ _=>rfl,rfl⟩
theorem uT.put {b:Nat} {h h':IH} (s:uT b h h') (o:bR):uT b h (h'.put b o):=⟨s.1,s.2.1,fun j hj=>(ah _ _ hj).trans (s.2.2.1 j hj),s.2.2.2⟩
theorem uT.ext {b:Nat} {g h h':IH} (s:uT b h h') (e:Ext g h) (hg:g.n≤b):Ext g h' :=
 ⟨by rw[s.1];exact e.n,by rw[s.2.1];exact e.base,fun j hj=>(s.2.2.1 j (by omega)).trans (e.get j hj),fun f hf=>by rw[s.2.2.2];exact e.bQ f hf⟩
theorem uT.PF {b z:Nat} {h h':IH} (s:uT b h h') {c:List Value} {e:Nat} {f:Option Nat} (hb:h.ext.get b=some (.cells c e f)) (he:e≠z):Ut z h h' :=
 ⟨by rw[s.1];exact Nat.le_refl _,s.2.1,fun k c' f' hk hg=>⟨f',by rw[s.2.2.1 k (by rintro rfl;rw[hb] at hg;cases hg;exact he rfl)];exact hg⟩⟩
theorem Fa {h:IH} {n b:Nat} {l:List (Nat×Nat)} (hg:h.ext.get b=some (.cells (shL l) 16 none)) (hb:b<h.n) (hl:l.length=n) (h0:0<n) (hm:n≤1000000) (hw : ∀p∈l,p.1<W8∧p.2<W8) :
  WV prog (.func (.func 156) #[] #[]) [kh n b] h fun r h'=>uT b h h'∧h'.ext.get b=some (.cells (shL l.reverse) 16 none):=by
 obtain⟨w,hwv⟩ : ∃w,w=kh n b:=⟨_,rfl⟩
 have len:=(sG hg hb h0 hl hm hw).1.len (P:=prog) tP
 rw[←hwv] at len ⊢
 refine enter (nt:=28) (rs:=[]) Proofs.Tryz.func156 rfl rfl rfl (by simp) ?_
 simp -dsimp (disch:=try exact dx) only[wpS,Nat.reduceEqDiff,len]
 refine loop (fun m fr hh => ∃(i:Nat) (a:List (Nat×Nat)),i+m=n∧GJ l a i∧uT b h hh∧hh.ext.get b=some (.cells (shL a) 16 none)∧(∀p∈a,p.1<W8∧p.2<W8)∧ai fr 0=some w∧ai fr 2=some (KN i)∧ai fr 3=some (KI ((n:Int) - 1 - (i:Int)))) n
  ⟨0,l,by omega,.start l,uT.refl _ _,hg,hw,by simp,by simp,by simp[hl]⟩ ?_
 rintro m fr hh ⟨i,a,him,hr,hE,hA,hwa,f0,f2,f3⟩
 simp -dsimp (disch:=try exact dx) only[wpS,Nat.reduceEqDiff,f2,f3]
 refine aA ?_ ?_<;>intro hc<;>simp only[decide_eq_true_eq,decide_eq_false_iff_not] at hc
 ·have al:=hr.1
  obtain⟨j,hj⟩ : ∃j,j=n - 1 - i:=⟨_,rfl⟩
  have ej:(n:Int) - 1 - (i:Int)=(j:Int):=by omega
  obtain⟨x,hx⟩ : ∃x,a[i]?=some x:=⟨_,List.getElem?_eq_getElem (by omega)⟩
  obtain⟨y,hy⟩ : ∃y,a[j]?=some y:=⟨_,List.getElem?_eq_getElem (by omega)⟩
  have sl:=sG hA (by rw[hE.1];exact hb) h0 (by omega) hm hwa
  have sl':=sl
  rw[←hwv] at sl
  have ix1:=sl.1.idx xJ (P:=prog) (k:=.i64) (j:=i) (by omega)
  have ix2:=sl.1.idx xJ (P:=prog) (k:=.i64) (j:=j) (by omega)
  have ld1:=sl.ld (aN.refl hh) hx
  have ld2:=sl.ld (aN.refl hh) hy
  have cl:=mI a
  have s1:=DS (n:=n) (c:=2*n) hA (P:=prog) (t:=48) Lj (i:=i) (by omega) (x:=shV y.1 y.2) (xs:=shC y.1 y.2) rfl (aP _ _) (dH _ _)
  rw[xO _ _ _ (by omega),show(Value.slice (some ⟨2*b,0,none⟩) n (2*n))=w from hwv.symm] at s1
  obtain⟨h1,hh1⟩ : ∃H,H=hh.put b (.cells (shL (a.set i y)) 16 none):=⟨_,rfl⟩
  rw[←hh1] at s1
  have g1:h1.ext.get b=some (.cells (shL (a.set i y)) 16 none):=by rw[hh1];exact aa _ _ rfl
  have cl2:=mI (a.set i y)
  rw[List.length_set] at cl2
  have s2:=DS (n:=n) (c:=2*n) g1 (P:=prog) (t:=48) Lj (i:=j) (by omega) (x:=shV x.1 x.2) (xs:=shC x.1 x.2) rfl (aP _ _) (dH _ _)
  rw[xO _ _ _ (by rw[List.length_set];omega),show(Value.slice (some ⟨2*b,0,none⟩) n (2*n))=w from hwv.symm] at s2
  have st:=hr.step (by omega) hx (by rw[hl,←hj];exact hy)
  rw[hl,←hj] at st
  simp -dsimp (disch:=try exact dx) only[wpS,wpT,Nat.reduceEqDiff,f0,f2,f3,ej,ix1,ix2,ld1,ld2,s1,s2]
  refine⟨m - 1,by omega,i+1,_,by omega,st,?_,aa _ _ rfl,fun p hp=>?_,by simp[f0],by simp,?_⟩
  ·rw[hh1];exact(hE.put _).put _
  ·rcases List.mem_or_eq_of_mem_set hp with hp|rfl
   ·rcases List.mem_or_eq_of_mem_set hp with hp|rfl
    ·exact hwa p hp
    ·exact hwa _ (List.mem_of_getElem? hy)
   ·exact hwa _ (List.mem_of_getElem? hx)
  ·simp;omega
 ·simp -dsimp (disch:=try exact dx) only[wpS,wpT]
  have e:=hr.done (by omega)
  rw[e] at hA
  exact⟨hE,hA⟩
end Go.Id

namespace Go.Id
open Go
open Go.Proofs.Tryz (prog)
open Nat renaming reduceAdd→zA,reduceEqDiff→zE,reduceLeDiff→zL
set_option maxHeartbeats 16000000
abbrev bdC (w a:Nat) (p:Nat×Nat):List Value:=B8 w :: B8 a :: shC p.1 p.2
def bdV (w a:Nat) (p:Nat×Nat):Value:=.agg (bdC w a p).toArray
theorem Co (w a:Nat) (p:Nat×Nat):(bdV w a p).cells.toList=bdC w a p:=rfl
def ID (p:Nat×Nat) (ll mm:List (List (Nat×Nat))):Prop:=mm=ll∨(∃x∈ll,mm=ll ++ [x]) ∨ ∃i x,ll[i]?=some x∧(mm=ll.set i x.reverse∨mm=ll.set i (x ++ [p]) ∨ ∃j,j<x.length∧mm=ll.set i (x.set j p))
theorem XU {H:IH} {k w a:Nat} {p:Nat×Nat} (g:H.ext.get k=some (.cells (bdC w a p) 0 none)):load prog H 5 (ptr (2*k) 0)=some (B8 w)∧load prog H 5 (ptr (2*k) 1)=some (B8 a)∧load prog H 48 (ptr (2*k) 2)=some (shV p.1 p.2):=by
 have r:=aj g
 have t:List.take 16 (List.drop 2 (bdC w a p))=shC p.1 p.2:=by
  show List.take 16 (shC p.1 p.2)=_
  rw[List.take_of_length_le (by rw[aP];omega)]
 refine⟨?_,?_,?_⟩
 ·simp -dsimp (disch:=try exact dx) only[wpS,ld5,r]
 ·simp -dsimp (disch:=try exact dx) only[wpS,ld5,r]
 ·have l:(bdC w a p).length=18:=by simp[aP]
  simp -dsimp (disch:=try exact dx) only[wpS,zL,zA,kA,r,l,t]
  rfl
theorem V8 {a:Nat} (ha:a<256) (ox oy:Operand):binop prog .quo 5 ox oy (B8 a) (.int .u8 8)=some (.int .u8 ((a / 8:Nat):Int)):=by
 have hq:=rp prog 5 ox oy (k:=.u8) (a:=(a:Int)) (b:=8) (by decide)
 have e:((a:Int)).tdiv 8=((a / 8:Nat):Int):=by rw[Int.tdiv_eq_ediv_of_nonneg (by omega)];rfl
 rw[e] at hq
 have hw:IntKind.u8.wrap ((a / 8:Nat):Int)=((a / 8:Nat):Int):=by
  show(((a / 8:Nat):Int)) % 256=_
  omega
 rw[hw] at hq
 exact hq
theorem mw.grown {h:IH} {n0 sz:Nat} {v:Value} {n:Nat} {cs:List Value} (a:mw h n0 sz v n cs) {k:Nat} {c c':List Value} {z:Nat} (hk:h.ext.get k=some (.cells c z none)) (hz:z≠sz):mw (grown h k h.n c z [] [] c' z) n0 sz v n cs:=by
 have cq : ∀j,(Go.Id.grown h k h.n c z [] [] c' z).ext.get j=if j=h.n then some (.cells c' z (some h.n)) else if j=k then some (.cells c z (some h.n)) else h.ext.get j:=fun j=>by simp[Go.Id.grown,IH.cU,Tr.bA]
 have xI : ∀f,f<h.n→(Go.Id.grown h k h.n c z [] [] c' z).bQ.get f=h.bQ.get f:=fun f hf=>by
  simp only[Go.Id.grown,Tr.bA]
  rw[if_neg (by omega)]
 have old : ∀j cc e f,j<h.n→e=sz→h.ext.get j=some (.cells cc e f)→(Go.Id.grown h k h.n c z [] [] c' z).ext.get j=some (.cells cc e f):=fun j cc e f hj he hg=>by
  rw[cq,if_neg (by omega),if_neg (by rintro rfl;rw[hk] at hg;cases hg;exact hz he)];exact hg
 obtain⟨⟨hz0,hl,⟨rfl,rfl⟩|⟨k',fam,rfl,hn,h1,h2,h3,h4⟩⟩,aZ⟩:=a
 ·obtain rfl:cs = []:=List.length_eq_zero_iff.1 (by omega)
  exact mw.nil _ _ hz0
 ·refine⟨⟨hz0,hl,.inr ⟨k',fam,rfl,hn,h1,Nat.lt_succ_of_lt h2,old k' _ _ _ h2 rfl h3,?_⟩⟩,fun k2 n2 c2 hv2 cs2 f2 TH hg2 hf2 j hj=>?_⟩
  ·cases fam with
   | none=>trivial
   | some f =>
    obtain⟨a1,a2,rest,a3,a4⟩:=h4
    exact⟨a1,Nat.lt_succ_of_lt a2,rest,by rw[xI f a2];exact a3,fun j hj=>⟨(a4 j hj).1,Nat.lt_succ_of_lt (a4 j hj).2⟩⟩
  ·have hkk:k2=k':=by
    injection hv2 with hv2 _ _;injection hv2 with hv2;injection hv2 with hv2 _ _;omega
   subst hkk
   rw[old k2 _ _ _ h2 rfl h3] at hg2
   cases hg2
   obtain⟨a1,a2,rest,a3,a4⟩:=h4
   rw[xI _ a2,a3] at hf2
   cases hf2
   obtain⟨c'',f',h5⟩:=aZ k2 n _ rfl cs f2 _ h3 a3 j hj
   exact⟨c'',f',old j _ _ _ (a4 j hj).2 rfl h5⟩
theorem Rg {ll:List (List (Nat×Nat))} (h:IJ ll) {j:Nat} {y:List (Nat×Nat)} (hy : ∀p∈y,p.1<W8∧p.2<W8):IJ (ll.set j y):=fun x hx p hp=>by
 rcases List.mem_or_eq_of_mem_set hx with hx|rfl
 ·exact h x hx p hp
 ·exact hy p hp
theorem Cn {h0 h h':IH} {out:Value} {n0 n:Nat} {bs:List Nat} {ll:List (List (Nat×Nat))} (so:bI h 1 out ll.length (bs.map (kh n))) (R:pn h n0 n bs ll) (hn:0<n) (hm:n≤1000000) (hl:ll.length≤1000000) (hw:IJ ll) (e:Ext h0 h) (he:h0.n≤n0)
  {j b:Nat} {x y:List (Nat×Nat)} (hb:bs[j]?=some b) (hx:ll[j]?=some x) (s:uT b h h') (hg:h'.ext.get b=some (.cells (shL y) 16 none)) (hy:y.length=n) (hyw : ∀p∈y,p.1<W8∧p.2<W8):Ext h0 h'∧hP h' out (ll.set j y):=by
 obtain⟨r1,r2,r3,r4⟩:=R.2.2 j b x hb hx
 exact⟨s.ext e (by omega),Bt (by rw[List.length_set];exact so.PF (s.PF r3 (by decide))) (R.YL hb s.1 s.2.2.1 hg hy) hn hm (by rw[List.length_set];exact hl) (Rg hw hyw)⟩
theorem Tb {h:IH} {v:Value} {ll:List (List (Nat×Nat))} {w a:Nat} {p:Nat×Nat} (hv:hP h v ll) (l0:0<ll.length) (hl:ll.length≤60) (hr : ∀x∈ll,x.length=ll.length) (hw:w<256) (ha:a<256) (hp:p.1<W8∧p.2<W8) :
  WV prog (.func (.func 77) #[] #[]) [bdV w a p,v] h fun r h'=>Ext h h' ∧ ∃mm,hP h' r mm∧ID p ll mm:=by
 obtain⟨_,_,hlen⟩:=hv.co
 have hW:IJ ll:=fun x hx q hq=>by
  obtain⟨i,hi⟩:=List.getElem?_of_mem hx
  obtain⟨_,_,s,_⟩:=hv.Ra hi
  exact s.2.2 q hq
 obtain⟨n,hn⟩ : ∃n,n=ll.length:=⟨_,rfl⟩
 rw[←hn] at l0 hl hr hlen
 obtain⟨Hb,hHb⟩ : ∃H,H=h.new (.cells (bdC w a p) 0 none):=⟨_,rfl⟩
 have Eb:Ext h Hb:=by rw[hHb];exact(Ext.refl h).new _
 have nb:Hb.n=h.n+1:=by rw[hHb];rfl
 have gb:Hb.ext.get h.n=some (.cells (bdC w a p) 0 none):=by rw[hHb];simp (disch:=try exact dx) only[ab]
 refine enter (nt:=75) (rs:=[.tmp 4]) Proofs.Tryz.func77 rfl rfl rfl (by simp) ?_
 simp -dsimp (disch:=try exact dx) only[wpS,zE,zA,Co,hlen]
 rw[←hHb]
 clear hHb
 refine loop (fun m fr hh => ∃(i:Nat) (out:Value) (bs:List Nat),i+m=n∧Ext Hb hh∧mw hh Hb.n 1 out i (bs.map (kh n))∧pn hh Hb.n n bs (ll.take i)∧ai fr 2=some (ptr (2*h.n) 0)∧ai fr 5=some out∧ai fr 9=some v∧ai fr 10=some (KN n)∧ai fr 11=some (KN i)) n
  ⟨0,.slice none 0 0,[],by omega,Ext.refl _,mw.nil _ _ (by omega),⟨rfl,List.nodup_nil,fun k b x hb=>by simp at hb⟩,by simp,by simp,by simp,by simp,by simp⟩ ?_
 rintro m fr hh ⟨i,out,bs,him,hE,hA,hR,f2,f5,f9,f10,f11⟩
 have hnn:=hE.n
 simp -dsimp (disch:=try exact dx) only[wpS,f10,f11]
 refine aA ?_ ?_<;>intro hc<;>simp only[decide_eq_true_eq,decide_eq_false_iff_not] at hc
 ·have hi:i<n:=by omega
  obtain⟨x,hx⟩ : ∃x,ll[i]?=some x:=⟨_,List.getElem?_eq_getElem (by omega)⟩
  have hxl:=hr x (List.mem_of_getElem? hx)
  obtain⟨wx,A1,A2,A3⟩:=(hv.ae (Eb.trans hE).ae).Ra hx
  simp -dsimp (disch:=try exact dx) only[wpS,wpT,zE,f5,f9,f11,A3,A1 hh (aN.refl hh)]
  refine call (ER A2 (by omega) (by omega)) ?_
  rintro _ h2 ⟨X2,b,rfl,b1,b2,b3⟩
  have hn2:=X2.n
  rw[hxl]
  obtain⟨dI,h5,hap,hA5,hG5,hE5,oth⟩:=(hA.ext X2).Up (P:=prog) (t:=54) Ti (m:=1) (new:=[kh n b]) (by omega) rfl rfl (by omega) (by omega) (hE.trans X2) (Nat.le_refl _)
  simp -dsimp (disch:=try exact dx) only[wpS,wpT,zE,zL,zA,S7,yi,f11,hap]
  have bl:bs.length=i:=by
   have:=hR.1
   rw[List.length_take] at this;omega
  have R2:=hR.mono (h':=h5) (Nat.le_trans hn2 hG5.n) (fun j c hj hg=>oth j c 16 none (by omega) (by decide) (X2.kept hj hg))
  refine⟨m - 1,by omega,i+1,dI,bs ++ [b],by omega,hE5,by rw[List.map_append];exact hA5,⟨?_,?_,fun k c y hk hy=>?_⟩,by simp[f2],by simp,by simp[f9],by simp[f10],by simp⟩
  ·rw[List.length_append,bl,List.length_take,List.length_singleton];omega
  ·refine List.nodup_append.2 ⟨hR.2.1,by simp,fun c hc d hd=>?_⟩
   rw[List.mem_singleton] at hd
   subst hd
   obtain⟨k,hk⟩:=List.getElem?_of_mem hc
   have hkl:=(List.getElem?_eq_some_iff.1 hk).1
   obtain⟨y,hy⟩ : ∃y,(ll.take i)[k]?=some y:=⟨_,List.getElem?_eq_getElem (by rw[←hR.1];exact hkl)⟩
   have:=(hR.2.2 k c y hk hy).2.1
   omega
  ·by_cases hki:k<i
   ·rw[List.getElem?_append_left (by omega)] at hk
    rw[List.getElem?_take,if_pos (by omega)] at hy
    exact R2.2.2 k c y hk (by rw[List.getElem?_take,if_pos hki];exact hy)
   ·have hkl:=(List.getElem?_eq_some_iff.1 hk).1
    rw[List.length_append,List.length_singleton] at hkl
    obtain rfl:k=i:=by omega
    rw[List.getElem?_append_right (by omega),bl,Nat.sub_self] at hk
    rw[List.getElem?_take,if_pos (by omega),hx] at hy
    cases hk;cases hy
    exact⟨by omega,Nat.lt_of_lt_of_le b2 hG5.n,oth b _ 16 none b2 (by decide) b3,hxl⟩
 ·obtain rfl:i=n:=by omega
  rw[List.take_of_length_le (by omega)] at hR
  have g0:=hE.kept (by omega) gb
  obtain⟨L1,L2,L3⟩:=XU g0
  have r1 : ∀ox oy,binop prog .rem 3 ox oy (KN a) (KN i)=some (KN (a % i)):=fun ox oy=>lW _ _ .i64 ox oy a i l0
  have r2 : ∀ox oy,binop prog .rem 5 ox oy (B8 w) (.int .u8 5)=some (.int .u8 ((w % 5:Nat):Int)):=fun ox oy=>lW _ _ .u8 ox oy w 5 (by omega)
  have r3 : ∀ox oy,binop prog .rem 3 ox oy (KN (a / 8)) (KN i)=some (KN (a / 8 % i)):=fun ox oy=>lW _ _ .i64 ox oy (a / 8) i l0
  have so:=hA.1.sl
  have lo:=so.len (P:=prog) US
  obtain⟨c,hc5⟩ : ∃c,c=w % 5:=⟨_,rfl⟩
  obtain⟨j,hj⟩ : ∃j,j=a % i:=⟨_,rfl⟩
  have hji:j<i:=by rw[hj];exact Nat.mod_lt _ l0
  have bl:=hR.1
  rw[←hn] at bl
  obtain⟨b,hb⟩ : ∃b,bs[j]?=some b:=⟨_,List.getElem?_eq_getElem (by omega)⟩
  obtain⟨x,hx⟩ : ∃x,ll[j]?=some x:=⟨_,List.getElem?_eq_getElem (by omega)⟩
  obtain⟨q1,q2,q3,q4⟩:=hR.2.2 j b x hb hx
  have ix:=so.idx SR (P:=prog) (k:=.i64) (j:=j) (by omega)
  rw[Nat.mul_one] at ix
  have ld:load prog hh 82 (aO out j)=some (kh i b):=by
   rw[so.ld (aN.refl hh) (by simp;omega) Rh,List.getElem?_map,hb];rfl
  rw[←hc5] at r2
  rw[←hj] at r1
  have Eh:Ext h hh:=Eb.trans hE
  have sol:bI hh 1 out ll.length (bs.map (kh i)):=by rw[←hn];exact so
  have hxw:=hW x (List.mem_of_getElem? hx)
  obtain⟨wv,hwv⟩ : ∃z,z=kh i b:=⟨_,rfl⟩
  have sx:jt hh wv x:=by rw[hwv];exact sG q3 q2 (by omega) q4 (by omega) hxw
  rw[←hwv] at ld
  have cl:=mI x
  have c5:c=0∨c=1∨c=2∨c=3∨c=4:=by omega
  simp -dsimp (disch:=try exact dx) only[wpS,wpT,zE,P8,Gr,VI,f2,f5,L1,L2,lo,r1,r2]
  rcases c5 with rfl|rfl|rfl|rfl|rfl
  ·obtain⟨jj,hjj⟩ : ∃jj,jj=a / 8 % i:=⟨_,rfl⟩
   have hjl:jj<i:=by rw[hjj];exact Nat.mod_lt _ l0
   rw[←hjj] at r3
   have iy:=sx.1.idx xJ (P:=prog) (k:=.i64) (j:=jj) (by omega)
   have st:=DS (n:=i) (c:=2*i) q3 (P:=prog) (t:=48) Lj (i:=jj) (by omega) (x:=shV p.1 p.2) (xs:=shC p.1 p.2) rfl (aP _ _) (dH _ _)
   rw[xO _ _ _ (by omega),show(Value.slice (some ⟨2*b,0,none⟩) i (2*i))=wv from hwv.symm] at st
   simp -dsimp (disch:=try exact dx) only[wpS,wpT,zE,P8,Gr,P7,f2,f5,L2,L3,lo,r3,V8 ha,ix,ld,iy,st]
   obtain⟨z1,z2⟩:=Cn (h0:=h) (h':=hh.put b (.cells (shL (x.set jj p)) 16 none)) sol hR (by omega) (by omega) (by omega) hW Eh (by omega) hb hx ((uT.refl b hh).put _) (aa _ _ rfl) (by rw[List.length_set];exact q4) (fun q hq=>by
    rcases List.mem_or_eq_of_mem_set hq with hq|rfl
    ·exact hxw q hq
    ·exact hp)
   exact⟨z1,_,z2,.inr (.inr ⟨j,x,hx,.inr (.inr ⟨jj,by omega,rfl⟩)⟩)⟩
  ·obtain⟨H1,hH1⟩ : ∃H,H=hh.new (.cells (shC p.1 p.2) 16 none):=⟨_,rfl⟩
   have E1:Ext hh H1:=by rw[hH1];exact(Ext.refl hh).new _
   have n1:H1.n=hh.n+1:=by rw[hH1];rfl
   have gx1:=(E1.get b q2).trans q3
   have sp:bI H1 16 (.slice (some ⟨2*hh.n,0,none⟩) 1 3) 1 (shC p.1 p.2):=by rw[hH1];exact qG hh (by omega) (by rw[aP]) (by omega)
   have hap:=IF (n:=i) (m:=1) (P:=prog) (t:=82) Th gx1 (by omega) l0 sp.now (by omega) (dH _ _) (by omega)
   rw[show(Value.slice (some ⟨2*b,0,none⟩) i (2*i))=wv from hwv.symm] at hap
   obtain⟨H2,hH2⟩ : ∃H,H=grown H1 b H1.n (shL x) 16 [] [] (shL x ++ shC p.1 p.2) 16:=⟨_,rfl⟩
   have A2:mw H2 Hb.n 1 out i (bs.map (kh i)):=by rw[hH2];exact(hA.ext E1).grown gx1 (by decide)
   have cq : ∀k,H2.ext.get k=if k=H1.n then some (.cells (shL x ++ shC p.1 p.2) 16 (some H1.n)) else if k=b then some (.cells (shL x) 16 (some H1.n)) else H1.ext.get k:=fun k=>by rw[hH2];simp[Go.Id.grown,IH.cU,Tr.bA]
   have n2:H2.n=H1.n+1:=by rw[hH2];rfl
   have E2:Ext Hb H2:=by
    have E0:=hE.trans E1
    refine⟨by omega,by rw[hH2];exact E0.base,fun k hk=>?_,fun f hf=>?_⟩
    ·rw[cq,if_neg (by omega),if_neg (by omega)];exact E0.get k hk
    ·rw[hH2]
     simp only[Go.Id.grown,Tr.bA]
     rw[if_neg (by omega)];exact E0.bQ f hf
   rw[←hH2] at hap
   obtain⟨H3,st,A3,E3,n3,_,oth⟩:=A2.UT (P:=prog) (t:=82) YM hji (x:=kh (i+1) H1.n) (xs:=[kh (i+1) H1.n]) rfl rfl rfl E2 (Nat.le_refl _)
   rw[Nat.mul_one] at st
   have K1:=E1.ae
   simp -dsimp (disch:=try exact dx) only[wpS,wpT,zE]
   refine drawn [(5,[9]),(7,[9])] (by kernel_rfl) (by kernel_rfl) rfl ?_
   simp -dsimp (disch:=try exact dx) only[wpS,wpT,zE,zL,zA,P7,QZ,yh,f5,ix,ld,f2,L3,bV,aP,iI,←hH1,hap,st]
   have ldA:load prog H1 82 (aO out j)=some wv:=by
    rw[so.ld K1 (by simp;omega) Rh,List.getElem?_map,hb,hwv];rfl
   have L3':=Sp L3 (by omega) E1
   refine⟨ba (ao rfl rfl rfl rfl (aT rfl ld ldA)) (ao rfl rfl rfl rfl (aT rfl L3 L3')),?_⟩
   simp -dsimp (disch:=try exact dx) only[wpS,wpT,zE,zA,f5]
   refine⟨Eb.trans E3,ll.set j (x ++ [p]),?_,.inr (.inr ⟨j,x,hx,.inr (.inl rfl)⟩)⟩
   have esp:IH.aG (bs.map (kh i)) (j*1) [kh (i+1) H1.n]=(bs.map (kh i)).set j (kh (i+1) H1.n):=by rw[Nat.mul_one];exact jF (by simp;omega)
   have s3:=A3.1.sl
   rw[esp] at s3
   refine⟨_,by rw[List.length_set,←hn];exact s3,by rw[List.length_set];omega,fun k y hy=>?_⟩
   rw[List.getElem?_set] at hy
   by_cases hkj:j=k
   ·subst hkj
    rw[if_pos rfl] at hy
    split at hy
    ·cases hy
     refine⟨kh (i+1) H1.n,by rw[List.getElem?_set_self (by simp;omega)],?_⟩
     have g3:=oth H1.n (shL x ++ shC p.1 p.2) 16 (some H1.n) (by decide) (by rw[cq,if_pos rfl])
     have esh:shL (x ++ [p])=shL x ++ shC p.1 p.2:=by simp[shL]
     rw[←esh] at g3
     refine⟨?_,by simp;omega,fun q hq=>?_⟩
     ·have e1:(shL (x ++ [p])).length=(i+1)*16:=by rw[mI,List.length_append,List.length_singleton,q4]
      have e2:i+1≤2*(i+1) / 2:=by omega
      have e3:H1.n<H3.n:=by omega
      have this:bI H3 16 (kh (i+1) H1.n) (i+1) (shL (x ++ [p])):=cD g3 e3 (Nat.succ_pos 15) e1 (Nat.succ_pos _) e2
      rw[List.length_append,List.length_singleton,q4];exact this
     ·rcases List.mem_append.1 hq with hq|hq
      ·exact hxw q hq
      ·rw[List.mem_singleton.1 hq];exact hp
    ·cases hy
   ·rw[if_neg hkj] at hy
    have hkl:=(List.getElem?_eq_some_iff.1 hy).1
    obtain⟨d,hd⟩ : ∃d,bs[k]?=some d:=⟨bs[k]'(by omega),List.getElem?_eq_getElem (by omega)⟩
    obtain⟨r1',r2',r3',r4'⟩:=hR.2.2 k d y hd hy
    have hdb:d≠b:=by
     rintro rfl
     have e1:=(List.getElem?_eq_some_iff.1 hb).2
     have e2:=(List.getElem?_eq_some_iff.1 hd).2
     exact hkj ((List.getElem_inj hR.2.1).1 (e1.trans e2.symm))
    refine⟨kh i d,by rw[List.getElem?_set_ne hkj,List.getElem?_map,hd];rfl,?_⟩
    exact sG (oth d _ 16 none (by decide) (by rw[cq,if_neg (by omega),if_neg hdb];exact(E1.get d r2').trans r3')) (by omega) (by omega) r4' (by omega) (hW y (List.mem_of_getElem? hy))
  ·obtain⟨b0,hb0⟩ : ∃d,bs[0]?=some d:=⟨_,List.getElem?_eq_getElem (by omega)⟩
   obtain⟨x0,hx0⟩ : ∃d,ll[0]?=some d:=⟨_,List.getElem?_eq_getElem (by omega)⟩
   obtain⟨t1,t2,t3,t4⟩:=hR.2.2 0 b0 x0 hb0 hx0
   have ix0:indexAddr prog 54 out (KI 0)=some (aO out 0):=so.idx SR (P:=prog) (k:=.i64) (j:=0) (by omega)
   have ld0:load prog hh 82 (aO out 0)=some (kh i b0):=by
    rw[so.ld (aN.refl hh) (by simp;omega) Rh,List.getElem?_map,hb0];rfl
   obtain⟨dI,h5,hap,hA5,hG5,hE5,oth⟩:=hA.Up (P:=prog) (t:=54) Ti (m:=1) (new:=[kh i b0]) (by omega) rfl rfl (by omega) (by omega) hE (Nat.le_refl _)
   have n5:=hG5.n
   simp -dsimp (disch:=try exact dx) only[wpS,wpT,zE,zL,zA,S7,yi,f5,ix0,ld0,hap]
   refine⟨Eb.trans hE5,ll ++ [x0],?_,.inr (.inl ⟨x0,List.mem_of_getElem? hx0,rfl⟩)⟩
   have s5:=hA5.1.sl
   refine⟨_,by rw[List.length_append,List.length_singleton,←hn];exact s5,by simp;omega,fun k y hy=>?_⟩
   by_cases hkn:k<i
   ·rw[List.getElem?_append_left (by omega)] at hy
    obtain⟨d,hd⟩ : ∃d,bs[k]?=some d:=⟨bs[k]'(by omega),List.getElem?_eq_getElem (by omega)⟩
    obtain⟨r1',r2',r3',r4'⟩:=hR.2.2 k d y hd hy
    refine⟨kh i d,by rw[List.getElem?_append_left (by simp;omega),List.getElem?_map,hd];rfl,?_⟩
    exact sG (oth d _ 16 none r2' (by decide) r3') (by omega) (by omega) r4' (by omega) (hW y (List.mem_of_getElem? hy))
   ·have hkl:=(List.getElem?_eq_some_iff.1 hy).1
    rw[List.length_append,List.length_singleton] at hkl
    obtain rfl:k=i:=by omega
    rw[List.getElem?_append_right (by omega),show k - ll.length=0 by omega] at hy
    cases hy
    refine⟨kh k b0,by rw[List.getElem?_append_right (by simp;omega)];simp[bl],?_⟩
    exact sG (oth b0 _ 16 none t2 (by decide) t3) (by omega) (by omega) t4 (by omega) (hW x0 (List.mem_of_getElem? hx0))
  ·simp -dsimp (disch:=try exact dx) only[wpS,wpT,zE,f5,ix,ld]
   rw[hwv]
   refine call (Fa q3 q2 q4 (by omega) (by omega) hxw) ?_
   rintro _ h6 ⟨S6,g6⟩
   simp -dsimp (disch:=try exact dx) only[wpS,zE,f5]
   obtain⟨z1,z2⟩:=Cn (h0:=h) sol hR (by omega) (by omega) (by omega) hW Eh (by omega) hb hx S6 g6 (by rw[List.length_reverse];exact q4) (fun q hq=>hxw q (List.mem_reverse.1 hq))
   exact⟨z1,_,z2,.inr (.inr ⟨j,x,hx,.inl rfl⟩)⟩
  ·simp -dsimp (disch:=try exact dx) only[wpS,wpT,zE,f5]
   exact⟨Eh,ll,Bt sol hR (by omega) (by omega) (by omega) hW,.inl rfl⟩
end Go.Id

namespace Go.Proofs.YtjhnilfelokpcaaGreat
open Go.ChangeShapes Go.WideShapes Go.ChangeAt Go.RowKit Go.Id
theorem NX:Tryz.prog.underlying 53=some (.struct { toList:=[{ name := "What",type:=5,offset:=0,embedded:=false,tag := "",pkgPath := "",byteOffset:=0 },{ name := "At",type:=5,offset:=1,embedded:=false,tag := "",pkgPath := "",byteOffset:=1 },{ name := "A",type:=48,offset:=2,embedded:=false,tag := "",pkgPath := "",byteOffset:=8 }] }):=by kernel_rfl
theorem VX:Tryz.prog.cellsOf 53=18:=by kernel_rfl
theorem LQ (w a:Nat) (p:Nat×Nat):plain (bdV w a p)=true:=by
 have h:=Oz p.1 p.2
 simp only[bdV,plain,List.all_toArray,bdC,List.all_cons] at h ⊢
 rw[h];rfl
theorem Td {m:Mp} (w a:Nat) (p:Nat×Nat):aC m (bdV w a p) (.agg (bdC w a p).toArray):=.bT (LQ w a p)
section
variable {H:Type} {enc:TypeId×Value→H} {W:World} {held:Bool}
theorem Tc {fuel:Nat} {cs:List Value} {x:DataW H×List MemPlace} (h:DataW.trod enc Tryz.prog W 0 (fun _=>true) held fuel 53 cs=some x) :
  ∃(w a n d:Nat),w<256∧a<256∧n<W8∧d<W8∧cs=bdC w a (n,d):=by
 obtain⟨xs,m,_,_,hl,hn,hf⟩:=DataW.trod_struct NX h
 rw[VX] at hl
 have hn2:xs.length=3:=hn
 obtain⟨x0,hx0⟩ : ∃y,xs[0]?=some y:=⟨_,List.getElem?_eq_getElem (by omega)⟩
 have f0:DataW.trod enc Tryz.prog W 0 (fun _=>true) held m 5 ((cs.drop 0).take (Tryz.prog.cellsOf 5))=some x0:=(hf 0 { name := "What",type:=5,offset:=0,embedded:=false,tag := "",pkgPath := "",byteOffset:=0 } rfl).trans hx0
 obtain⟨x1,hx1⟩ : ∃y,xs[1]?=some y:=⟨_,List.getElem?_eq_getElem (by omega)⟩
 have f1:DataW.trod enc Tryz.prog W 0 (fun _=>true) held m 5 ((cs.drop 1).take (Tryz.prog.cellsOf 5))=some x1:=(hf 1 { name := "At",type:=5,offset:=1,embedded:=false,tag := "",pkgPath := "",byteOffset:=1 } rfl).trans hx1
 obtain⟨x2,hx2⟩ : ∃y,xs[2]?=some y:=⟨_,List.getElem?_eq_getElem (by omega)⟩
 have f2:DataW.trod enc Tryz.prog W 0 (fun _=>true) held m 48 ((cs.drop 2).take (Tryz.prog.cellsOf 48))=some x2:=(hf 2 { name := "A",type:=48,offset:=2,embedded:=false,tag := "",pkgPath := "",byteOffset:=8 } rfl).trans hx2
 rw[VW] at f0 f1
 rw[KA] at f2
 rcases cs with _|⟨a,cs⟩
 ·simp at hl
 rcases cs with _|⟨b,cs⟩
 ·simp at hl
 obtain⟨k,e0,hk⟩:=nF (m:=255) rfl rfl RF f0
 obtain⟨j,e1,hj⟩:=nF (m:=255) rfl rfl RF f1
 obtain⟨n,d,hn',hd,e2⟩:=Ov f2
 cases e0;cases e1
 refine⟨k,j,n,d,by omega,by omega,hn',hd,?_⟩
 have e3:cs=shC n d:=by
  rw[←e2]
  show cs=List.take 16 cs
  rw[List.take_of_length_le (by simp at hl;omega)]
 rw[e3]
end
end Go.Proofs.YtjhnilfelokpcaaGreat

/-
  Contracts: the reference's valid shares.
-/
import Derived.Test.YtnnmjocmapilaaaGreatTemperRoundsAo
set_option linter.unusedVariables false
set_option linter.unusedSimpArgs false
set_option linter.defProp false
set_option linter.deprecated false
namespace Go.Id
open Go
open Go renaming Operand→QY,Program→QX,TypeId→QZ,Value→QQ
open Nat renaming reduceAdd→zA,reduceEqDiff→zE,reduceLeDiff→zL
open Nat (reduceMul)
set_option maxHeartbeats 16000000
open Go.Proofs.Tryz (prog)
section
variable {h:IH}
def WQ {v:Value} {z:Int} (hv:bP h v z):WV prog (.func (.func 224) #[] #[]) [v] h fun r h'=>Ext h h'∧r=.bool (decide (z=1)):=by
 obtain⟨s,rfl,ds,hD,hN,hx⟩:=hv;have E1:Ext h (h.new (.cells [.bool (decide (z<0)),s] 0 none)):=(Ext.refl h).new _;refine enter (nt:=19) (rs:=[.tmp 2]) Proofs.Tryz.func224 rfl rfl rfl ab ?_;by_cases h1:ds.length=1
 ·obtain⟨x,rfl⟩:=List.length_eq_one_iff.1 h1;have hv:aM [x]=x:=by simp[aM,bm]
  rw[hv] at hx;have ib:indexAddr prog 25 s (.int .i64 0)=some (bq s 0):=by simpa using hD.1.Y6 (P:=prog) (t:=25) gl (k:=.i64) (i:=0) aa ab
  have l0:load prog (h.new (.cells [.bool (decide (z<0)),s] 0 none)) 3 (bq s 0)=some (KN x):=hD.1.ld E1.ai (P:=prog) (t:=3) (c:=0) ab ag3;have hl:=fun h'=>hD.1.len (P:=prog) dY h';have hl' : ∀h',tE prog h' 25 s=some (.int .i64 1):=fun h'=>hl h';by_cases hx1:x=1
  ·subst hx1;have l0':load prog (h.new (.cells [.bool (decide (z<0)),s] 0 none)) 3 (bq s 0)=some (KI 1):=l0;simp -dsimp (disch:=try exact dx) only[wpS,wpT,zE,iZ,jF,gV,ld4,hl',ib,l0'];refine⟨E1,kC Value.bool ?_⟩;by_cases h0:z<0
   ·rw[ct h0,bF aa];rfl
   ·rw[bF h0,ct aa];rfl
  ·have c1:((x:Int) == 1)=false:=aT;simp -dsimp (disch:=try exact dx) only[wpS,wpT,zE,iZ,jF,hl',ib,l0,c1];exact⟨E1,by rw[bF aa]⟩
 ·have c1:((ds.length:Int) == 1)=false:=aT;simp -dsimp (disch:=try exact dx) only[wpS,wpT,zE,iZ,jF,hD.1.len dY,c1];refine⟨E1,?_⟩;rw[bF];rintro rfl;have h2:aM ds=1:=hx;have h3:=hN.qm (b:=[1]) (by intro d hd;simp at hd;omega) (by rw[h2];simp[aM,bm]);have h4:=hN.ow;rcases dr 0 ds.length with h5|h5
  ·simp at h3;omega
  ·have:ds = []:=jK.1 aa;rw[this] at h2;simp[aM,bm] at h2
def AO (n d:Nat) (hn:n<W8) (hd:d<W8):WV prog (.func (.func 148) #[] #[]) [shV n d] h fun r h'=>Ext h h'∧r=.bool (decide (okS n d)):=by
 refine enter (nt:=26) (rs:=[.tmp 2]) Proofs.Tryz.func148 rfl rfl rfl ab ?_;simp -dsimp (disch:=try exact dx) only[wpS,bR];obtain⟨H0,hH0⟩ : ∃H0,H0=h.new (.cells (shC n d) 0 none):=⟨_,rfl⟩;have E0:Ext h H0:=by rw[hH0];exact(Ext.refl h).new _
 have n0:H0.n=h.n+1:=by rw[hH0];rfl
 have g0:H0.ext.get h.n=some (.cells (shC n d) 0 none):=by rw[hH0];simp (disch:=try exact dx) only[ar]
 rw[←hH0];clear hH0;have X0:=Ext.refl H0;obtain⟨L1,L2,_⟩:=psh g0;refine drawn [(4,[2])] ae ae rfl ?_;simp -dsimp (disch:=try exact dx) only[wpS,zE,zL,qz,bY,ay g0,ba,iE];refine call (lT n hn) ?_;rintro _ h1 ⟨X1,p1⟩;have m1:=X1.n;simp -dsimp (disch:=try exact dx) only[wpS,zE,zL,zA,bY,qv,ay (X1.kept aa g0),ba,jU];refine call (lT d hd) ?_;rintro _ h2 ⟨X2,p2⟩;have m2:=X2.n;have X12:=X1.trans X2;obtain⟨s1,n1',rfl,c1,o1,_,_⟩:=p1.form;obtain⟨s2,n2',rfl,c2,o2,YP,zD⟩:=p2.form;simp -dsimp (disch:=try exact dx) only[wpS,wpT,zE,zL,zA,ff,cZ,o1,o2];refine⟨by repeat' first|refine aU ?_ ?_|refine bg ?_ ?_|exact az rfl rfl rfl rfl (aP (H0:=H0) rfl aa aN aN bX),?_⟩;obtain⟨K0,hK0⟩ : ∃K0,K0=((((h2.new (.cells ZL 0 none)).new (.cells ZL 0 none)).put h2.n (.cells [.bool (decide (wdI n<0)),s1] 0 none)).put (h2.n+1) (.cells [.bool (decide (wdI d<0)),s2] 0 none)):=⟨_,rfl⟩;have e3:Ext h2 K0:=by rw[hK0];exact((((Ext.refl _).new _).new _).put (aA _) _).put aa _
 have n3:K0.n=h2.n+2:=by rw[hK0];rfl
 have ga:K0.ext.get h2.n=some (.cells [.bool (decide (wdI n<0)),s1] 0 none):=by rw[hK0];simp (disch:=try exact dx) only[aj,au]
 have gb:K0.ext.get (h2.n+1)=some (.cells [.bool (decide (wdI d<0)),s2] 0 none):=by rw[hK0];simp (disch:=try exact dx) only[aj]
 simp -dsimp (disch:=try exact dx) only[wpS,wpT,zE,zA,gV,ld4];rw[←hK0];clear hK0;have q1:=p1.ai (X2.trans e3).ai;have q2:=p2.ai e3.ai;have E3:=(E0.trans X12).trans e3;by_cases wc:wdI d<0
 ·have cn:decide (wdI d<0)=true:=ct wc;rw[cn] at gb;simp -dsimp (disch:=try exact dx) only[wpS,wpT,zE];exact⟨E3,by rw[bF (fun h=>by have:=h.1;omega)]⟩
 ·have cn:decide (wdI d<0)=false:=bF wc;rw[cn] at gb q2;by_cases hz:wdI d=0
  ·have c0:decide ((0:Int)<(n2':Int))=false:=bF (by have:=zD.2 hz;omega)
   simp -dsimp (disch:=try exact dx) only[wpS,wpT,zE,iZ,jF,ay gb,YP dY,c0]
   exact⟨E3,by rw[bF (fun h=>by have:=h.1;omega)]⟩
  ·have c0:decide ((0:Int)<(n2':Int))=true:=ct (by
    have:n2'≠0:=fun h=>hz (zD.1 h);omega)
   simp -dsimp (disch:=try exact dx) only[wpS,wpT,zE,zL,zA,iZ,jF,cj,ay ga,ay gb,YP dY,c0,Ed];refine call (xU q1 q2 (jZ hn) (jZ hd)) ?_;rintro g h4 ⟨X4,hg⟩;simp -dsimp (disch:=try exact dx) only[wpS,wpT,zE];refine call (WQ hg) ?_;rintro _ h5 ⟨X5,rfl⟩;simp -dsimp (disch:=try exact dx) only[wpS,zE];refine⟨(E3.trans X4).trans X5,kC Value.bool ?_⟩;rw[BW];unfold okS;constructor;·intro h;exact⟨aa,aa⟩
   ·rintro⟨_,h⟩;omega
end




end Go.Id
namespace Go.Proofs.YtnnmjocmapilaaaGreat
open Go.ChangeShapes Go.WideShapes Go.ChangeAt Go.RowKit Go.Id
section
def TK:Tryz.prog.underlying 32=some (.struct { toList:=[{ name := "N",type:=30,offset:=0,embedded:=false,tag := "",pkgPath := "",byteOffset:=0 },{ name := "D",type:=30,offset:=8,embedded:=false,tag := "",pkgPath := "",byteOffset:=64 }] }):=ae
def Wv:Tryz.prog.underlying 30=some (.array 8 28):=ae
def Vp:Tryz.prog.underlying 28=some (.int .u64):=ae
theorem NY:Tryz.prog.cellsOf 32=16:=ae
theorem SW:Tryz.prog.cellsOf 30=8:=ae
theorem V8:Tryz.prog.cellsOf 28=1:=ae
def wf_i64 {x:Int} (h:(Lit.int .i64 x).wf=true):fS x:=by simp only[Lit.wf,fK,aS] at h;have h1:(-9223372036854775808:Int)≤x:=h.1;have h2:x≤(9223372036854775807:Int):=h.2;exact⟨h1,aa⟩
def NJ : ∀{cs:List Value},(∀c∈cs,∃k:Nat,k<18446744073709551616∧c=K64 k) → ∃ds:List Nat,cs=ds.map K64 ∧ ∀d∈ds,d<18446744073709551616
 | [],_=>⟨[],rfl,fun d hd=>by cases hd⟩
 | c :: cs,h=>by
  obtain⟨k,hk,rfl⟩:=h c ab;obtain⟨ds,hds,hd⟩:=NJ (cs:=cs) fun c hc=>h c (by simp[hc]);exact⟨k :: ds,by rw[hds];rfl,fun d hd'=>by
   rcases dV.1 hd' with rfl|hd';·exact hk
   ·exact hd d hd'⟩
section
variable {H:Type} {enc:TypeId×Value→H} {W:World} {base:Nat} {sp:Nat→Bool} {held:Bool}
variable {cs:List Value}{fuel:Nat}{x:DataW H×List MemPlace}
def Mz (h:DataW.trod enc Tryz.prog W base sp held fuel 30 cs=some x) : ∃n,n<W8∧cs=wdC n:=by
 obtain⟨xs,m,_,_,hl,hn,hel⟩:=DataW.trod_array Wv h;rw[SW] at hl;have hc : ∀c∈cs,∃k:Nat,k<18446744073709551616∧c=K64 k:=by
  intro c hc;obtain⟨i,hi⟩:=List.mem_iff_getElem?.1 hc;have hi8:i<8:=by have:=(bU.1 hi).1;omega
  obtain⟨y,hy⟩ : ∃y,xs[i]?=some y:=⟨_,aK aa⟩;have e:=(hel i hi8).trans hy;rw[V8,fI] at e;have e1:(cs.drop i).take 1 = [c]:=by obtain⟨hlt,hg⟩:=bU.1 hi;rw[List.drop_eq_getElem_cons hlt,hg];rfl
  rw[e1] at e;obtain⟨k,h1,h2⟩:=rF (m:=18446744073709551615) rfl rfl Vp e;cases h1;exact⟨k,aa,rfl⟩
 obtain⟨ds,rfl,hd⟩:=NJ hc;rw[cz] at hl;have e:=Q9 (ds:=ds) aa hd;have e2:IH.bf [ZW,ZW,ZW,ZW,ZW,ZW,ZW,ZW] 0 (ds.map K64)=ds.map K64:=jN (by rw[cz,hl];rfl);refine⟨B.aM ds,?_,e2.symm.trans e⟩;have:=B.mS hd;rw[hl,←zo] at this;exact this
def Qx (h:DataW.trod enc Tryz.prog W base sp held fuel 32 cs=some x) : ∃n d,n<W8∧d<W8∧cs=shC n d:=by
 obtain⟨xs,m,_,_,hl,hn,hf⟩:=DataW.trod_struct TK h;rw[NY] at hl;have hn2:xs.length=2:=hn;obtain⟨x0,hx0⟩ : ∃y,xs[0]?=some y:=⟨_,aK aa⟩;have f0:DataW.trod enc Tryz.prog W base sp held m 30 ((cs.drop 0).take (Tryz.prog.cellsOf 30))=some x0:=(hf 0 { name := "N",type:=30,offset:=0,embedded:=false,tag := "",pkgPath := "",byteOffset:=0 } rfl).trans hx0;obtain⟨x1,hx1⟩ : ∃y,xs[1]?=some y:=⟨_,aK aa⟩;have f1:DataW.trod enc Tryz.prog W base sp held m 30 ((cs.drop 8).take (Tryz.prog.cellsOf 30))=some x1:=(hf 1 { name := "D",type:=30,offset:=8,embedded:=false,tag := "",pkgPath := "",byteOffset:=64 } rfl).trans hx1;rw[SW] at f0 f1;obtain⟨n,h1,e1⟩:=Mz f0;obtain⟨d,h2,e2⟩:=Mz f1;refine⟨n,d,h1,h2,?_⟩;rw[shC,←e1,←e2,cC]
 conv=>lhs;rw[←List.take_append_drop 8 cs]
 congr 1;rw[fB (by rw[ra];omega)]
end
def Yp:Tryz.prog.underlying 3=some (.int .i64):=ae
def TJ:Tryz.prog.underlying 5=some (.int .u8):=ae
section
variable {H:Type} {enc:TypeId×Value→H} {W:World} {held:Bool}
end
end
end Go.Proofs.YtnnmjocmapilaaaGreat
namespace Go.Id
open Go
open Go renaming Operand→QY,Program→QX,TypeId→QZ,Value→QQ
open Nat renaming reduceAdd→zA,reduceEqDiff→zE,reduceLeDiff→zL
open Nat (reduceMul)
set_option maxHeartbeats 16000000
open Go.Proofs.Tryz (prog)
section
variable {h:IH}{v fv:Value}{a:List Int}
def Hk (p:Int→Bool) (ha:mH h 1 v a.length (a.map KI)) (la:a.length≤1000000000) (hp : ∀x∈a,WV prog fv [KI x] h fun r h'=>h'=h∧r=.bool (p x)) :WV prog (.func (.func 205) #[] #[]) [v,fv] h fun r h'=>h'=h ∧ ∃c:Int,r=KI c∧(0≤c↔a.any p=true):=by
 refine enter (nt:=19) (rs:=[.tmp 4]) Proofs.Tryz.func205 rfl rfl rfl ab ?_;simp -dsimp (disch:=try exact dx) only[wpS,zE,zA,ha.len dY];refine loop (fun m fr h1=>h1=h ∧ ∃i:Nat,i+m=a.length∧ax fr 0=some v∧ax fr 1=some fv∧ax fr 7=some (KI a.length)∧ax fr 8=some (KI i)∧a.any p=(a.drop i).any p) a.length ⟨rfl,0,ab,ab,ab,ab,ab,ab⟩ ?_;rintro m fr h1 ⟨rfl,i,him,f0,f1,f7,f8,hz⟩;simp -dsimp (disch:=try exact dx) only[wpS,f7,f8];refine aG ?_ ?_<;>intro hc2<;>simp only[aS,aV] at hc2
 ·have hi:i<a.length:=aa;obtain⟨x,hx⟩ : ∃x,a[i]?=some x:=⟨a[i],aK hi⟩;simp -dsimp (disch:=try exact dx) only[wpS,wpT,zE,f0,f1,f8,ha.idx gl hi,ha.ld (P:=prog) (t:=3) (c:=i) (by simpa using hi) ag3,dM,hx];refine call (hp x (bh hx)) ?_;rintro _ _ ⟨rfl,rfl⟩;have ea:a.drop i=x :: a.drop (i+1):=by have h1:=bU.1 hx;rw[←h1.2,List.getElem_cons_drop_succ_eq_drop]
  rw[ea,List.any_cons] at hz;simp -dsimp (disch:=try exact dx) only[wpS,zE];refine aG ?_ ?_<;>intro hc
  ·simp -dsimp (disch:=try exact dx) only[wpS,wpT,zE];exact⟨_,rfl,by rw[hz,hc];simp⟩
  ·simp -dsimp (disch:=try exact dx) only[wpS,zE,f8];rw[hc,Bool.false_or] at hz;exact⟨m - 1,aa,rfl,i+1,aa,by simp[f0],by simp[f1],by simp[f7],ab,hz⟩
 ·simp -dsimp (disch:=try exact dx) only[wpS,wpT];exact⟨_,rfl,by rw[hz,zG aa];simp⟩
def Bx (p:Int→Bool) (ha:mH h 1 v a.length (a.map KI)) (la:a.length≤1000000000) (hp : ∀x∈a,WV prog fv [KI x] h fun r h'=>h'=h∧r=.bool (p x)) :
  WV prog (.func (.func 122) #[] #[]) [v,fv] h fun r h'=>h'=h∧r=.bool (a.any p):=by
 refine enter (nt:=9) (rs:=[.tmp 4]) Proofs.Tryz.func122 rfl rfl rfl ab ?_;simp -dsimp (disch:=try exact dx) only[wpS,zE,zA];refine call (Hk p ha la hp) ?_;rintro _ _ ⟨rfl,c,rfl,hc⟩;simp -dsimp (disch:=try exact dx) only[wpS,wpT,zE];cases hb:a.any p;·rw[hb] at hc;simp at hc;simp;exact hc
 ·rw[hb] at hc
  simp at hc;simp;exact hc
end
def Bn.rat {h:IH} {v:Value} {n d:Nat} (p:Bn h v (wdI n) (wdI d)) (ok:okS n d):jr h v (rOf (n,d)):=by obtain⟨e1,e2⟩:=nU (p:=(n,d)) ok;unfold jr;rw[e1,e2];exact p

end Go.Id
namespace Go.Id
open Go
open Go renaming Operand→QY,Program→QX,TypeId→QZ,Value→QQ
open Nat renaming reduceAdd→zA,reduceEqDiff→zE,reduceLeDiff→zL
open Nat (reduceMul)
set_option maxHeartbeats 16000000
def E1 (P:Program) (tb:FuncId→Option (List Value→Option Value)):Env:=⟨P,fun _ _=>none,fun f=>(tb f).map fun g args h=>bif args.all plain then (g args).map (·,h) else none⟩
noncomputable section
def bO {α β:Type} (o:Option α) (k:α→Option β):Option β:=Option.rec (motive:=fun _=>Option β) none k o
@[simp] theorem ZaV {α β:Type} (a:α) (k:α→Option β):bO (some a) k=k a:=rfl
@[simp] theorem ZaW {α β:Type} (k:α→Option β):bO none k=none:=rfl
def iB {α:Type} (b:Bool) (x y:α):α:=Bool.rec (motive:=fun _=>α) y x b
@[simp] theorem ZaU {α:Type} (x y:α):iB true x y=x:=rfl
@[simp] theorem Y7 {α:Type} (x y:α):iB false x y=y:=rfl
end
noncomputable section
end
noncomputable section
end
noncomputable section
end
open Go.Proofs.Tryz (prog)
def OT (n d:Nat):plain (shV n d)=true:=by show(shC n d).toArray.all dN=true;rw[shC,wdC,wdC,List.all_toArray,List.all_append,List.all_map,List.all_map];simp[dN]
section
def fF (h:IH) (v:Value) (l:List Int):Prop:=df h 1 v l.length (l.map KI)∧l.length≤1000000000 ∧ ∀x∈l,fS x
variable {h:IH}{v:Value}{l:List Int}
def fF.ai {h':IH} (s:fF h v l) (e:bj h h'):fF h' v l:=⟨s.1.ai e,s.2⟩
def ns (most n:Int):Bool:=decide (n<0) || decide (most<n)
variable {most:Int}
def Mn {n:Int} {b:Nat} (hb:b<h.n) (g:h.ext.get b=some (.cells [KI most] 0 none)) :WV prog (.func (.func 123) #[] #[ptr (2*b) 0]) [KI n] h fun r h'=>h'=h∧r=.bool (ns most n):=by
 unfold ns;by_cases c:n<0
 ·have d:decide (n<0)=true:=ct c;refine enter (nt:=11) (rs:=[.tmp 3]) Proofs.Tryz.func123 rfl rfl rfl ab ?_;simp -dsimp (disch:=try exact dx) only[wpS,wpT,zE,zA,d,Bool.true_or]
 ·have d:decide (n<0)=false:=bF c;refine enter (nt:=11) (rs:=[.tmp 3]) Proofs.Tryz.func123 rfl rfl rfl ab ?_;simp -dsimp (disch:=try exact dx) only[wpS,wpT,zE,zA,ld3,d,ay g,Bool.false_or]
def Aw (hv:fF h v l) :WV prog (.func (.func 47) #[] #[]) [v,KI most] h fun r h'=>Ext h h'∧r=.bool (l.any (ns most)):=by have E1:Ext h (h.new (.cells [KI most] 0 none)):=(Ext.refl h).new _;refine enter (nt:=8) (rs:=[.tmp 4]) Proofs.Tryz.func47 rfl rfl rfl ab ?_;simp -dsimp (disch:=try exact dx) only[wpS,zE,zA];refine call (Bx (ns most) (hv.1.ai E1.ai).now hv.2.1 (fun x _=>Mn ab (ar _ _ rfl))) ?_;rintro _ _ ⟨rfl,rfl⟩;simp -dsimp (disch:=try exact dx) only[wpS,wpT,zE];exact E1
def jO (s l:List Int):Int:=if s.length<1∨60<s.length∨s.any (ns 30)=true∨l.length<1∨6<l.length∨l.any (ns 8)=true then 340 else 0
def tf {w:Value} {s:List Int} (hv:fF h v s) (hw:fF h w l) :WV prog (.func (.func 33) #[] #[]) [v,w] h fun r h'=>Ext h h'∧r=KI (jO s l):=by
 unfold jO;have e1:=hv.1.len (P:=prog) dY;have e2:=hw.1.len (P:=prog) dY;have b1:=hv.2.1;have b2:=hw.2.1;refine enter (nt:=31) (rs:=[.tmp 4]) Proofs.Tryz.func33 rfl rfl rfl ab ?_;by_cases a1:s.length<1
 ·rw[aq (.inl a1)];simp -dsimp (disch:=try exact dx) only[wpS,wpT,zE,zA,e1];exact Ext.refl _
 by_cases a2:60<s.length
 ·rw[aq (.inr (.inl a2))];simp -dsimp (disch:=try exact dx) only[wpS,wpT,zE,zA,e1];exact Ext.refl _
 simp -dsimp (disch:=try exact dx) only[wpS,wpT,zE,zA,e1];refine call (Aw hv) ?_;rintro _ h1 ⟨X1,rfl⟩;cases c3:s.any (ns 30)
 case true =>
  rw[aq (.inr (.inr (.inl rfl)))];simp -dsimp (disch:=try exact dx) only[wpS,wpT,zE];exact X1
 by_cases a4:l.length<1
 ·rw[aq (.inr (.inr (.inr (.inl a4))))];simp -dsimp (disch:=try exact dx) only[wpS,wpT,zE,e2];exact X1
 by_cases a5:6<l.length
 ·rw[aq (.inr (.inr (.inr (.inr (.inl a5)))))];simp -dsimp (disch:=try exact dx) only[wpS,wpT,zE,e2];exact X1
 simp -dsimp (disch:=try exact dx) only[wpS,wpT,zE,e2];refine call (Aw (hw.ai X1.ai)) ?_;rintro _ h2 ⟨X2,rfl⟩;cases c6:l.any (ns 8)
 case true =>
  rw[aq (.inr (.inr (.inr (.inr (.inr rfl)))))];simp -dsimp (disch:=try exact dx) only[wpS,wpT,zE];exact X1.trans X2
 rw[ah (by rintro(h|h|h|h|h|h)<;>first|omega|cases h)];simp -dsimp (disch:=try exact dx) only[wpS,wpT,zE];exact X1.trans X2
end


end Go.Id
namespace Go.Id
open Go
open Go renaming Operand→QY,Program→QX,TypeId→QZ,Value→QQ
open Nat renaming reduceAdd→zA,reduceEqDiff→zE,reduceLeDiff→zL
open Nat (reduceMul)
set_option maxHeartbeats 16000000
section
section
variable {P:Program}
def yE {e:TypeId} (hA:cu P e=some false) {cs:Array Value} {off:Nat} {v:Value} (hv:cs[off]?=some v):aI P (part e cs off)=some v:=by
 unfold part;have h1:aI P (isAgg e)=some false:=by unfold isAgg;simp only[cu,bI] at hA;obtain⟨d,hd,hA⟩:=hA;rw[cU (fH hd)];cases d<;>first|rfl|(simp at hA)
 rw[cU h1];simp only[fJ,cE,hv];rfl
theorem OR (body:Field→Option Bool×Unit→Sem (ForInStep (Option Bool×Unit))) (g:Option Bool×Unit→Sem Bool) (e:Field→Bool) : ∀fs:List Field,(∀f∈fs,∀r,aI P (body f r)=some (if e f=true then .yield (none,()) else .done (some false,()))) → aI P (forIn fs ((none,()):Option Bool×Unit) body >>= g)=aI P (g (if fs.all e=true then (none,()) else (some false,()))):=by
 have assoc : ∀(s:Sem (ForInStep (Option Bool×Unit))) (g1:ForInStep (Option Bool×Unit)→Sem (Option Bool×Unit)) (f2:Option Bool×Unit→Sem Bool),aI P ((s >>= g1) >>= f2)=aI P (s >>= fun x=>g1 x >>= f2):=fun s g1 f2=>by
  show aI P ((s.bind g1).bind f2)=aI P (s.bind fun x=>(g1 x).bind f2);rw[fk,fk,fk];cases aI P s with
  | none=>rfl
  | some a=>simp only[kD];rw[fk]
 intro fs
 induction fs with
 | nil=>intro _;rfl
 | cons f fs ih =>
  intro hi;have h1:=hi f ab (none,());rw[List.forIn_cons,assoc,cU h1,List.all_cons];cases hc:e f with
  | true =>
   rw[Bool.true_and,←ih fun j hj=>hi j (by simp[hj])];rfl
  | false =>
   rw[Cm];rfl
def Bt {t:TypeId} {fs:Array Field} (hT:P.underlying t=some (.struct fs)) (hs:P.stoodInHeld t=false) (d:Nat) (xs ys:Array Value) (e:Field→Bool)(h : ∀f∈fs.toList,f.name ≠ "_" ∧ ∃a b,aI P (part f.type xs f.offset)=some a∧aI P (part f.type ys f.offset)=some b∧aI P (Op.equalIn d f.type a b)=some (e f)) :
  aI P (Op.equalIn (d+1) t (.agg xs) (.agg ys))=some (fs.toList.all e):=by
 unfold Op.equalIn;rw[cU (fH hT)];simp only;rw[cU (show aI P program=some P from rfl),hs];simp only[fJ,cE];rw[←Array.forIn_toList];rw[OR _ _ e fs.toList];·cases fs.toList.all e<;>rfl
 ·intro f hf r
  obtain⟨hn,a,b,h1,h2,h3⟩:=h f hf;simp only[hn,ne_eq,BV,cq];rw[cU h1,cU h2,cU h3];cases e f<;>rfl
end
end
open Go.Proofs.Tryz (prog)


end Go.Id
namespace Go.Id
open Go
open Go renaming Operand→QY,Program→QX,TypeId→QZ,Value→QQ
open Nat renaming reduceAdd→zA,reduceEqDiff→zE,reduceLeDiff→zL
open Nat (reduceMul)
set_option maxHeartbeats 16000000

open Go.Proofs.Tryz (prog)


abbrev Reg:=Int×Int×Int
def regC (r:Reg):List QQ:=[KI r.1,KI r.2.1,KI r.2.2]
def regL (l:List Reg):List QQ:=l.flatMap regC
def VM (won low:List Int) (n:Nat):Prop:=∀i,i<n→0≤low.getD i 0∧low.getD i 0≤won.getD i 0
instance (won low:List Int) (n:Nat):Decidable (VM won low n):=inferInstanceAs (Decidable (∀i,i<n→_))
def WH (zW won low:List Int) (n:Nat):List Reg:=(List.range n).map fun i=>(zW.getD i 0,won.getD i 0,low.getD i 0)
structure OX (h H1 hh:IH) (fr:Fr) (vp vw vl:QQ) (m:Int) (zW won low:List Int) (b:Nat) (i:Nat) (out:QQ):Prop where
 e:Ext h hh
 k:bj H1 hh
 sp:df H1 1 vp zW.length (zW.map KI)
 sw:df H1 1 vw won.length (won.map KI)
 sl:df H1 1 vl low.length (low.map KI)
 bn:h.n<b∧b<hh.n
 g8:hh.ext.get h.n=some (.cells [KI 0,.slice none 0 0] 0 none)
 g11:hh.ext.get b=some (.cells [KI m,out] 0 none)
 acc:Acc hh h.n 3 out i (regL (WH zW won low i))
 lw:VM won low i
 f1:ax fr 1=some vw
 f3:ax fr 3=some vl
 f8:ax fr 8=some (ptr (2*h.n) 0)
 f11:ax fr 11=some (ptr (2*b) 0)
 f12:ax fr 12=some (KI (won.take i).sum)
 f52:ax fr 52=some vp
 f53:ax fr 53=some (KI zW.length)
 f54:ax fr 54=some (KI i)
end Go.Id
namespace Go.Id
open Go
open Go renaming Operand→QY,Program→QX,TypeId→QZ,Value→QQ
open Nat renaming reduceAdd→zA,reduceEqDiff→zE,reduceLeDiff→zL
open Nat (reduceMul)
set_option maxHeartbeats 16000000
section
variable {h:IH}{t:TypeId}{r v:QQ}{P:Program}{fr:Fr}{h':IH}
def xu {c:Call} (hc:c.callee=.builtin .len) (ha:nV fr c.args.toList=some [v]) (ht:c.argTypes[0]?=some t) (h1:tE P h t v=some r) (h2:tE P h' t v=some r):jS P fr (.call c) h h'=true :=
 qK (v:=r) (x:=h) (y:=h') (by simp[iop,hc,ha,builtin,ht,h1]) (by simp[iop,hc,ha,builtin,ht,h2])
def ti {x:Operand} {lo hi:Option Operand} {xv:QQ} {lov hiv:Option QQ} (hx:opd fr x=some xv) (hl:iF fr lo=some lov) (hh:iF fr hi=some hiv) (h1:dE P h t xv lov hiv none=some r) (h2:dE P h' t xv lov hiv none=some r):jS P fr (.slice t x lo hi none) h h'=true:=by have h0:iF fr none=some none:=rfl;exact qK (v:=r) (x:=h) (y:=h') (by simp only[iop,hx,hl,hh,h0,h1,jx]) (by simp only[iop,hx,hl,hh,h0,h2,jx])
def df.xy {h1 h2:IH} {sz:Nat} {n:Nat} {cs:List QQ} (s:df h sz v n cs) (k1:bj h h1) (k2:bj h h2) {e:TypeId} (hu:P.underlying t=some (.slice e)) (hT:bK P e=some sz) {lo hi mx:Option QQ}:dE P h1 t v lo hi mx=dE P h2 t v lo hi mx:=by
 simp only[dE,hu,hT]
 obtain⟨hz,hl,⟨rfl,rfl⟩|⟨b,o,k,rfl,⟨rfl,rfl⟩|⟨a1,a2,row,a3,h3,h4⟩⟩⟩:=s
 ·rfl
 ·simp[fN]
 ·rcases a3 with a3|⟨a4,a5,f,a6⟩
  ·simp[fN,a3.2]
  ·obtain⟨f1,g1⟩:=k1.get (b / 2) row sz f aa a6 aa;obtain⟨f2,g2⟩:=k2.get (b / 2) row sz f aa a6 aa;have r1:roomy h1 sz (.slice (some ⟨b,o,none⟩) n k)=true:=by simp[roomy,a4,g1]
   have r2:roomy h2 sz (.slice (some ⟨b,o,none⟩) n k)=true:=by simp[roomy,a4,g2]
   rw[r1,r2]
end

open Go.Proofs.Tryz (prog)

end Go.Id
namespace Go.Id
open Go
open Go renaming Operand→QY,Program→QX,TypeId→QZ,Value→QQ
open Nat renaming reduceAdd→zA,reduceEqDiff→zE,reduceLeDiff→zL
open Nat (reduceMul)
set_option maxHeartbeats 16000000
def WS (P:Program) (h:IH) (ts:Array TypeId) (k:IntKind) (a b:Int):builtin P h .max ts [.int k a,.int k b]=some (.int k (if a<b then b else a),h):=by
 have h1:aI P (Builtin.max_ ts 0 #[.int k a,.int k b])=some (.int k (if a<b then b else a)):=by unfold Builtin.max_;simp;rfl
 show(bif [Value.int k a,Value.int k b].all plain then (fb P (Builtin.max_ ts 0 #[.int k a,.int k b])).map (·,h) else none)=_;simp only[fb,h1];rfl
open Go.Proofs.Tryz (prog)
abbrev B8 (n:Nat):Value:=.int .u8 (n:Int)
abbrev B16 (n:Nat):Value:=.int .u16 (n:Int)
structure Dr6 (h:IH) (x:Value) (ps ls:List Nat) (u s:Nat):Prop where
 ex : ∃vp vl,x=.agg #[vp,B8 u,vl,B16 s]∧df h 1 vp ps.length (ps.map B16)∧df h 1 vl ls.length (ls.map B8)
 bp : ∀p∈ps,p<65536
 bl : ∀p∈ls,p<256
 bu:u<256
 bs:s<65536
 lp:ps.length<9223372036854775808
 ll:ls.length<9223372036854775808
def lO:List Int→Int
 | []=>0
 | a :: l=>l.foldl max a
def O1 (l:List Int) (a b:Int):lO ((a :: l) ++ [b])=max (lO (a :: l)) b:=by simp[lO,List.foldl_append]
def Hf : ∀(l:List Int) (x:Int),x∈l→x≤lO l
 | [],x,h=>by cases h
 | a :: l,x,h=>by
  have g : ∀(l:List Int) (b x:Int),(x=b∨x∈l)→x≤l.foldl max b:=by
   intro l
   induction l with
   | nil=>intro b x h;simp at h;simp[h]
   | cons c l ih =>
    intro b x h;rw[Gw];rcases h with rfl|h;·have:=ih (max x c) (max x c) (.inl rfl);omega
    ·rcases dV.1 h with rfl|h
     ·have:=ih (max b x) (max b x) (.inl rfl);omega
     ·exact ih _ _ (.inr h)
  exact g l a x (by simpa using h)
def yM : ∀(l:List Int),l ≠ []→lO l∈l
 | [],h=>absurd rfl h
 | a :: l,_=>by
  have g : ∀(l:List Int) (b:Int),l.foldl max b=b∨l.foldl max b∈l:=by
   intro l
   induction l with
   | nil=>intro b;exact .inl rfl
   | cons c l ih =>
    intro b
    rw[Gw];rcases ih (max b c) with h|h
    ·rcases(by omega:max b c=b∨max b c=c) with h2|h2
     ·exact .inl (h.trans h2)
     ·exact .inr (by rw[h,h2];exact List.mem_cons_self)
    ·exact .inr (List.mem_cons_of_mem _ h)
  rcases g l a with h|h;·show l.foldl max a∈_;rw[h];exact List.mem_cons_self
  ·exact List.mem_cons_of_mem _ h
def Ur {h:IH} {v:Value} {l:List Int} (hv:df h 1 v l.length (l.map KI)) (hl:l.length≤1000000000) (h0:l ≠ []) :WV prog (.func (.func 98) #[] #[]) [v] h fun r h'=>h'=h∧r=KI (lO l):=by
 have P0:=hv.now;have l0:0<l.length:=Gt.2 h0;obtain⟨a,ha⟩ : ∃a,l[0]?=some a:=⟨_,aK l0⟩;have lP:=P0.ld (P:=prog) (t:=3) (c:=0) bd ag3;rw[dF,ha] at lP;have e1:lO (l.take 1)=a:=by
  cases l with
  | nil=>cases ha
  | cons b l=>simp at ha;subst ha;rfl
 have ix:indexAddr prog 25 v (.int .i64 0)=some (bq v 0):=by have:=P0.idx (P:=prog) (t:=25) gl (k:=.i64) (j:=0) l0;simpa using this
 refine enter (nt:=25) (rs:=[.tmp 2]) Proofs.Tryz.func98 rfl rfl rfl ab ?_;simp -dsimp (disch:=try exact dx) only[wpS,wpT,Nat.reduceEqDiff,P0.len dY,ix,lP];refine loop (fun m fr hh => ∃i:Nat,i+m=l.length∧0<i∧hh=h∧ax fr 0=some v∧ax fr 3=some (KI (lO (l.take i)))∧ax fr 4=some (KN i)) (l.length - 1) ⟨1,aa,aa,rfl,ab,by rw[e1];simp,ab⟩ ?_;rintro m fr _ ⟨i,him,hi0,rfl,f0,f3,f4⟩;by_cases c:i<l.length
 ·obtain⟨n,hn⟩ : ∃n,l[i]?=some n:=⟨_,aK c⟩;have lN:=P0.ld (P:=prog) (t:=3) (c:=i) bd ag3;rw[dF,hn] at lN;have e2:IntKind.i64.wrap ((i:Int)+1)=((i+1:Nat):Int):=by rw[wrap_i64 aa];omega
  simp -dsimp (disch:=try exact dx) only[wpS,wpT,Nat.reduceEqDiff,f0,f3,f4,P0.len dY,P0.idx gl c,lN,WS,e2];refine⟨m - 1,aa,i+1,aa,aa,rfl,by simp[f0],?_,ab⟩;rw[List.take_add_one,hn];obtain⟨b,t,hb⟩ : ∃b t,l.take i=b :: t:=by
   cases ht:l.take i with
   | nil=>have h9:=kC List.length ht;rw[gG,List.length_nil] at h9;omega
   | cons b t=>exact⟨b,t,rfl⟩
  rw[hb,show(some n).toList = [n] from rfl,O1];have:(if lO (b :: t)<n then n else lO (b :: t))=max (lO (b :: t)) n:=by split<;>omega
  simp[this]
 ·simp -dsimp (disch:=try exact dx) only[wpS,wpT,Nat.reduceEqDiff,f0,f3,f4,P0.len dY];rw[fB aa]
section
def wiL (l:List Nat):List QQ:=l.flatMap wdC
theorem TC (l:List Nat):(wiL l).length=l.length*8:=by
 induction l with
 | nil=>rfl
 | cons a l ih=>rw[wiL,Ch,dG,aD,←wiL,ih,nL];omega
variable {i p:Nat}{l:List Nat}
def Ws (h:l[i]?=some p):((wiL l).drop (i*8)).take 8=wdC p:=by
 induction l generalizing i with
 | nil=>simp at h
 | cons a l ih =>
  rw[wiL,Ch,←wiL];cases i with
  | zero =>
   simp at h;subst h;rw[kf,cC,zC (by rw[aD];omega),fB (by rw[aD];omega)]
  | succ i =>
   simp at h;rw[List.drop_append,aD,zG (by rw[aD];omega),kG,show(i+1)*8 - 8=i*8 by omega];exact ih h
theorem mQ (l:List Nat) (p:Nat):wiL (l ++ [p])=wiL l ++ wdC p:=by simp[wiL]
def iQ (h:IH) (v:QQ) (l:List Nat):Prop:=df h 8 v l.length (wiL l)∧l.length≤1000000000 ∧ ∀n∈l,n<W8
variable {h:IH}{v:QQ}{h':IH}
def iQ.ai (s:iQ h v l) (e:bj h h'):iQ h' v l:=⟨s.1.ai e,s.2⟩
def iQ.ld (s:iQ h v l) (e:bj h h') (hi:l[i]?=some p):load prog h' 30 (bq v (i*8))=some (wdV p):=by have hil:=(bU.1 hi).1;rw[s.1.Dn e (by rw[TC];omega) aa PX KD,Ws hi];rfl
def aY (n:Nat):List.take 8 (List.drop 0 (wdC n))=wdC n:=by rw[cC,fB (by rw[aD];omega)]
theorem MB {n:Nat} (hn:n<W8):wdI n=0↔n=0:=pz hn
def pZ (n:Nat) (hn:n<W8):WV prog (.func (.func 97) #[] #[]) [wdV n] h fun r h'=>Ext h h'∧r=KI (if wdI n<0 then -1 else if wdI n=0 then 0 else 1):=by
 have hz:binop prog .eql 30 (.tmp 8) (.tmp 9) (.agg (wdC n).toArray) (.agg #[ZW,ZW,ZW,ZW,ZW,ZW,ZW,ZW])=some (.bool (decide (n=0))):=by rw[iL,wdV,GG hn (by have:=dD;have:=lE;omega)]
 have E1:Ext h (h.new (.cells (wdC n) 0 none)):=(Ext.refl h).new _;refine enter (nt:=11) (rs:=[.tmp 2]) Proofs.Tryz.func97 rfl rfl rfl ab ?_;simp -dsimp (disch:=try exact dx) only[wpS,zE,zL,bY,bA,aD,aY];refine call (BG n hn) ?_;rintro _ h1 ⟨X1,rfl⟩;have g1:=X1.kept ab (ar h (.cells (wdC n) 0 none) rfl);by_cases c:wdI n<0
 ·have d:decide (wdI n<0)=true:=ct c;rw[aq c];simp -dsimp (disch:=try exact dx) only[wpS,wpT,zE,Hu,oL,fJ,d];exact E1.trans X1
 have d:decide (wdI n<0)=false:=bF c;rw[ah c];by_cases c0:n=0
 ·have d0:decide (n=0)=true:=ct c0;rw[aq ((MB hn).2 c0)];simp -dsimp (disch:=try exact dx) only[wpS,wpT,zE,zL,bY,Hu,kQ,oL,fJ,d,ay g1,aD,aY,hz,d0];exact E1.trans X1
 ·have d0:decide (n=0)=false:=bF c0;rw[ah (fun h=>c0 ((MB hn).1 h))];simp -dsimp (disch:=try exact dx) only[wpS,wpT,zE,zL,bY,Hu,kQ,oL,fJ,d,ay g1,aD,aY,hz,d0];exact E1.trans X1
def mI (a b:QQ):List.take 2 (List.drop 0 [a,b]) = [a,b]:=rfl
variable {k:Nat}
def RR (hi:i≤k) (hk:k<16000000):jd ((2 ^ i:Nat):Int):=bE (k:=k) (by rw[jz];exact fA (Nat.succ_pos 1) hi) hk
def kO (hi:i≤4000):jd ((2 ^ i:Nat):Int):=RR hi aC
def zT (hv:cW h v 2) (hk:k≤4000) :WV prog (.func (.func 102) #[] #[]) [v,KN k] h fun r h'=>Ext h h'∧cW h' r ((2 ^ k:Nat):Int):=by
 obtain⟨s,n,rfl,c1,o1,_,_⟩:=hv.form;obtain⟨b1,hb1⟩ : ∃b,b=decide ((2:Int)<0):=⟨_,rfl⟩;rw[←hb1] at hv ⊢;have E1:Ext h ((h.new (.cells [.bool b1,s] 0 none)).new (.cells [.bool false,.slice none 0 0] 0 none)):=((Ext.refl h).new _).new _;refine enter (nt:=15) (rs:=[.cell 4 135]) Proofs.Tryz.func102 rfl rfl rfl ab ?_;simp -dsimp (disch:=try exact dx) only[wpS,zE,zA,kH];refine call (oK 1 ⟨aa,aa⟩) ?_;rintro _ h1 ⟨X1,p1⟩;obtain⟨s1,n1,rfl,c3,o3,_,_⟩:=p1.form;have m1:=X1.n;simp only[aH] at m1;have k0:h1.ext.get h.n=some (.cells [.bool b1,s] 0 none):=X1.kept aT (by simp (disch:=try exact dx) only[ar,aE]);have k1:h1.ext.get (h.n+1)=some (.cells [.bool false,.slice none 0 0] 0 none):=X1.kept ab (by simp (disch:=try exact dx) only[ar]);simp -dsimp (disch:=try exact dx) only[wpS,wpT,zE,zL,zA,kH,gY,o3];have E2:Ext h1 ((h1.new (.cells [.bool false,.slice none 0 0] 0 none)).put h1.n (.cells [.bool false,s1] 0 none)):=((Ext.refl h1).new _).put (aA _) _;have EE:=(E1.trans X1).trans E2;refine loop (fun m fr hh => ∃(i:Nat) (b:Bool) (t:QQ),i+m=k∧Ext h hh∧h1.n<hh.n∧hh.ext.get h.n=some (.cells [.bool b1,s] 0 none)∧hh.ext.get (h.n+1)=some (.cells [.bool false,.slice none 0 0] 0 none)∧hh.ext.get h1.n=some (.cells [.bool b,t] 0 none)∧cW hh (.agg #[.bool b,t]) ((2 ^ i:Nat):Int)∧ax fr 2=some (ptr (2*h.n) 0)∧ax fr 4=some (ptr (2*(h.n+1)) 0)∧ax fr 5=some (ptr (2*h1.n) 0)∧ax fr 7=some (KN k)∧ax fr 8=some (KN i)) k ⟨0,false,s1,aa,EE,ab,E2.kept aa k0,E2.kept aa k1,by simp (disch:=try exact dx) only[aj],p1.ai E2.ai,ab,ab,ab,ab,ab⟩ ?_;rintro m fr hh ⟨i,b,t,him,hE,hn,g0,g1,g5,pt,f2,f4,f5,f7,f8⟩;have hnn:=hE.n;simp -dsimp (disch:=try exact dx) only[wpS,f7,f8];refine aG ?_ ?_<;>intro hc<;>simp only[aS,aV] at hc
 ·simp -dsimp (disch:=try exact dx) only[wpS,wpT,zE,zL,zA,cM,f2,f5,ay g0,ay g5];refine call (hZ pt (hv.ai hE.ai) (kO aa) (kO (i:=1) aa)) ?_;rintro _ h2 ⟨X2,p2⟩;have m2:=X2.n;have e2:((2 ^ i:Nat):Int)*2=((2 ^ (i+1):Nat):Int):=by rw[eH];omega
  rw[e2] at p2;obtain⟨t2,n2,rfl,c4,o4,_,_⟩:=p2.form;have gk:=X2.kept aa g5;simp -dsimp (disch:=try exact dx) only[wpS,wpT,zE,zL,zA,gY,f5,f8,gk,o4];exact⟨m - 1,aa,i+1,_,t2,aa,(hE.trans X2).put aa _,aT,by rw[au _ _ aa];exact X2.kept aa g0,by rw[au _ _ aa];exact X2.kept aa g1,by simp (disch:=try exact dx) only[aj],p2.ai ((bj.refl _).put gk _),by simp[f2],by simp[f4],by simp[f5],by simp[f7],ab⟩
 ·obtain rfl:i=k:=aa;obtain⟨_,c5,o5⟩:=pt.co;simp -dsimp (disch:=try exact dx) only[wpS,wpT,zE,zL,zA,gY,cM,f4,f5,ay g5,g1,o5,mI];exact⟨hE.put aa _,pt.ai ((bj.refl _).put g1 _)⟩
def Im (n:Nat) (hn:n<W8):WV prog (.func (.func 96) #[] #[]) [wdV n] h fun r h'=>Ext h h'∧r=.bool (decide (wdI n<1)):=by
 have E1:Ext h (h.new (.cells (wdC n) 0 none)):=(Ext.refl h).new _;refine enter (nt:=6) (rs:=[.tmp 2]) Proofs.Tryz.func96 rfl rfl rfl ab ?_;simp -dsimp (disch:=try exact dx) only[wpS,zE,zL,bY,bA,aD,aY];refine call (pZ n hn) ?_;rintro _ h1 ⟨X1,rfl⟩;by_cases c:wdI n<0
 ·have d:decide (wdI n<1)=true:=ct aa;rw[aq c,d];simp -dsimp (disch:=try exact dx) only[wpS,wpT,zE];exact E1.trans X1
 rw[ah c];by_cases c0:wdI n=0
 ·have d:decide (wdI n<1)=true:=ct aa;rw[aq c0,d];simp -dsimp (disch:=try exact dx) only[wpS,wpT,zE];exact E1.trans X1
 ·have d:decide (wdI n<1)=false:=bF aa;rw[ah c0,d];simp -dsimp (disch:=try exact dx) only[wpS,wpT,zE];exact E1.trans X1
def tP (l:List Nat):Prop:=∀n∈l,1≤wdI n
def Ky (hv:iQ h v l):WV prog (.func (.func 191) #[] #[]) [v,(.func (.func 96) #[] #[])] h fun r h'=>Ext h h' ∧ ∃c:Int,r=KI c∧(0≤c ↔ ¬tP l):=by
 have hlb:=hv.2.1;refine enter (nt:=19) (rs:=[.tmp 4]) Proofs.Tryz.func191 rfl rfl rfl ab ?_;simp -dsimp (disch:=try exact dx) only[wpS,zE,zA,hv.1.len rJ];refine loop (fun m fr h1 => ∃i:Nat,i+m=l.length∧Ext h h1∧(∀j p,j<i→l[j]?=some p→1≤wdI p)∧ax fr 0=some v∧ax fr 1=some (.func (.func 96) #[] #[])∧ax fr 7=some (KN l.length)∧ax fr 8=some (KN i)) l.length ⟨0,aa,Ext.refl _,fun j p hj=>aa,ab,ab,ab,ab⟩ ?_;rintro m fr h1 ⟨i,him,hE,hok,f0,f1,f7,f8⟩;simp -dsimp (disch:=try exact dx) only[wpS,f7,f8];refine aG ?_ ?_<;>intro hc<;>simp only[aS,aV] at hc
 ·have hi:i<l.length:=aa;obtain⟨p,hp⟩ : ∃p,l[i]?=some p:=⟨_,aK hi⟩;have hpm:=bh hp;simp -dsimp (disch:=try exact dx) only[wpS,wpT,zE,f0,f1,f8,hv.1.idx qE hi,hv.ld hE.ai hp];refine call (Im p (hv.2.2 p hpm)) ?_;rintro _ h2 ⟨hE2,rfl⟩;have E2:=hE.trans hE2;by_cases hk:wdI p<1
  ·rw[ct hk];simp -dsimp (disch:=try exact dx) only[wpS,zE];exact⟨E2,(i:Int),rfl,fun _ ft=>by have:=ft p hpm;omega,fun _=>aa⟩
  ·rw[bF hk];simp -dsimp (disch:=try exact dx) only[wpS,zE,f8];refine⟨m - 1,aa,i+1,aa,E2,?_,by simp[f0],by simp[f1],by simp[f7],ab⟩;intro j q hj hq;by_cases hji:j=i
   ·subst hji;rw[hp] at hq;cases hq;omega
   ·exact hok j q aa hq
 ·simp -dsimp (disch:=try exact dx) only[wpS,wpT];refine⟨hE,-1,rfl,fun h=>aa,fun hn=>?_⟩;exfalso;apply hn;intro p hp;obtain⟨j,hj⟩:=gH hp;have:=(bU.1 hj).1;exact hok j p aa hj
open Classical in
def D9 (hv:iQ h v l):WV prog (.func (.func 95) #[] #[]) [v,(.func (.func 96) #[] #[])] h fun r h'=>Ext h h'∧r=.bool (decide (¬tP l)):=by refine enter (nt:=9) (rs:=[.tmp 4]) Proofs.Tryz.func95 rfl rfl rfl ab ?_;simp -dsimp (disch:=try exact dx) only[wpS,zE,zA];refine call (Ky hv) ?_;rintro _ h1 ⟨hE,c,rfl,hc⟩;simp -dsimp (disch:=try exact dx) only[wpS,zE];exact⟨hE,by rw[BW.2 hc]⟩
end
section
variable {h:IH}{x:Int}{l:List Int}{v:QQ}{i:Nat}
def fc {h':IH} (s:fF h v l) (e:bj h h') (hi:l[i]?=some x):load prog h' 3 (bq v i)=some (KI x):=by have hil:=(bU.1 hi).1;rw[s.1.ld e (by simpa using hil) ag3,dM,hi];rfl
variable {H:IH}{k:Nat}
def LC (g:H.ext.get k=some (.cells [KI x] 0 none)):load prog H 3 (ptr (2*k) 0)=some (KI x):=by have r:=ay g;simp -dsimp (disch:=try exact dx) only[wpS,ld3,r]
def YR (g:H.ext.get k=some (.cells [v] 0 none)):load prog H 25 (ptr (2*k) 0)=some v:=by have r:=ay g;simp -dsimp (disch:=try exact dx) only[wpS,jF,r]
def uu {n:Nat} (hn:n<W8):jd (wdI n):=by
 have hw:W8=2 ^ 512:=cI;have k1:(wdI n).natAbs≤2 ^ 512:=by rw[←hw];unfold wdI;have:=dD;split<;>omega
 exact bE (k:=512) k1 aa
def tgt (most level s:Int) (w:Nat):Int:=wdI w*((2 ^ ((most - s)*level).toNat:Nat):Int)
variable {most level:Int}{s:List Int}
def Il {w b1 b2 b3:Nat} (hs:fF h v s) (hw:w<W8) (hx:s[i]?=some x)(k1:b1<h.n) (k2:b2<h.n) (k3:b3<h.n) (g1:h.ext.get b1=some (.cells [KI most] 0 none)) (g2:h.ext.get b2=some (.cells [v] 0 none)) (g3:h.ext.get b3=some (.cells [KI level] 0 none))(hm:0≤most∧most≤30) (hl:0≤level∧level≤8) (hx2:0≤x∧x≤most) :WV prog (.func (.func 100) #[] #[ptr (2*b1) 0,ptr (2*b2) 0,ptr (2*b3) 0]) [KN i,wdV w] h fun r h'=>Ext h h'∧r=if InW (tgt most level x w) then .tuple #[pf (tgt most level x w),KI 0] else .tuple #[wdV 0,KI 6]:=by
 have hi:=(bU.1 hx).1;have y0:0≤most - x∧most - x≤30:=aa;have hp0:0≤(most - x)*level:=Int.mul_nonneg y0.1 hl.1;have hp1:(most - x)*level≤30*8:=Int.mul_le_mul y0.2 hl.2 hl.1 aa;obtain⟨k,hk⟩ : ∃k:Nat,(most - x)*level=(k:Int):=⟨((most - x)*level).toNat,aa⟩;have et:tgt most level x w=wdI w*((2 ^ k:Nat):Int):=by unfold tgt;rw[hk,iv]
 rw[et];have kb:k≤240:=aa;obtain⟨H0,hH0,n0,E0,k0,k7⟩:=ko h (wdC w) [ZW,ZW,ZW,ZW,ZW,ZW,ZW,ZW];have G1:=E0.kept k1 g1;have G2:=E0.kept k2 g2;have G3:=E0.kept k3 g3;refine enter (nt:=27) (rs:=[.cell 7 30,.tmp 8]) Proofs.Tryz.func100 rfl rfl rfl ab ?_;simp -dsimp (disch:=try exact dx) only[wpS,zE,zA,fa,bA];rw[←hH0];clear hH0;have X0:=Ext.refl H0;have L1:=LC G1;have L2:=YR G2;have L3:=LC G3;refine drawn [(1,[0]),(2,[0]),(5,[0]),(7,[0])] ae ae rfl ?_;simp -dsimp (disch:=try exact dx) only[wpS];refine call (oK 2 ⟨aa,aa⟩) ?_;rintro r1 h1 ⟨X1,p1⟩;have m1:=X1.n;simp -dsimp (disch:=try exact dx) only[wpS,zE,ld3,jF,ay (X1.kept aa G1),ay (X1.kept aa G2),ay (X1.kept aa G3),hs.1.idx gl hi,fc hs (E0.trans X1).ai hx,hk];refine call (zT (k:=k) p1 aa) ?_;rintro r2 h2 ⟨X2,p2⟩;have m2:=X2.n;have X12:=X1.trans X2;obtain⟨s2,n2,rfl,c2,o2,_,_⟩:=p2.form;simp -dsimp (disch:=try exact dx) only[wpS,wpT,zE,zL,zA,kH,gY,o2];refine⟨by repeat' first|refine aU ?_ ?_|refine bg ?_ ?_|exact az rfl rfl rfl rfl (aP (H0:=H0) rfl aa aN aN bX)|exact az rfl rfl rfl rfl (aO rfl (fc hs ((E0.trans aN).ai) hx) (fc hs ((E0.trans aN).ai) hx)),?_⟩;simp -dsimp (disch:=try exact dx) only[wpS,wpT,zA];obtain⟨H2,hH2⟩ : ∃H,H=(h2.new (.cells [.bool false,.slice none 0 0] 0 none)).put h2.n (.cells [.bool (decide (((2 ^ k:Nat):Int)<0)),s2] 0 none):=⟨_,rfl⟩;have e2:Ext h2 H2:=by rw[hH2];exact((Ext.refl h2).new _).put (aA _) _
 have n2:H2.n=h2.n+1:=by rw[hH2];rfl
 have q9:H2.ext.get h2.n=some (.cells [.bool (decide (((2 ^ k:Nat):Int)<0)),s2] 0 none):=by rw[hH2];simp (disch:=try exact dx) only[aj]
 have X02:=X12.trans e2;have q6:=X02.kept aa k0;have q7:=X02.kept aa k7;rw[←hH2];clear hH2;have Y0:=Ext.refl H2;have M1:=pl2 q9;refine drawn [(2,[1])] ae ae rfl ?_;simp -dsimp (disch:=try exact dx) only[wpS,zE,zL,bY,ay q6,aD,aY];refine call (j5 w hw) ?_;rintro r3 h3 ⟨X3,p3⟩;have m3:=X3.n;simp -dsimp (disch:=try exact dx) only[wpS,wpT,zE,zL,zA,cM,ay (X3.kept aa q9),mI];refine call (hZ p3 (p2.ai (e2.trans X3).ai) (uu hw) (kO aa)) ?_;rintro r4 h4 ⟨X4,p4⟩;have m4:=X4.n;have X34:=X3.trans X4;simp -dsimp (disch:=try exact dx) only[wpS,zE];refine call (yD p4) ?_;rintro _ h5 ⟨X5,rfl⟩;have m5:=X5.n;have X35:=X34.trans X5;have z7:=X35.kept aa q7;have EE:=(E0.trans X02).trans X35;generalize wdI w*((2 ^ k:Nat):Int)=z;by_cases ci:InW z
 ·rw[aq ci];simp -dsimp (disch:=try exact dx) only[wpS,wpT,zE,zL,zA,dw,bA,aD,aW,bD,z7];refine⟨by repeat' first|refine aU ?_ ?_|refine bg ?_ ?_|exact az rfl rfl rfl rfl (aP (H0:=H2) rfl aa aN aN bX),?_⟩;simp -dsimp (disch:=try exact dx) only[wpS,wpT,zE,zL,zA,bY,aD,aY];exact⟨EE.put aa _,rfl⟩
 ·rw[ah ci];simp -dsimp (disch:=try exact dx) only[wpS,wpT,zE,zL,zA,dw,bA,aD,aW,bD,z7];refine⟨by repeat' first|refine aU ?_ ?_|refine bg ?_ ?_|exact az rfl rfl rfl rfl (aP (H0:=H2) rfl aa aN aN bX),?_⟩;simp -dsimp (disch:=try exact dx) only[wpS,wpT,zE,zL,zA,bY,aD,aY];exact⟨EE.put aa _,rfl⟩
def mK (z:Nat→Nat→Int) (l:List Nat) (i:Nat):List Nat:=(List.range i).map fun j=>bN (z j (l.getD j 0))
theorem uP (z:Nat→Nat→Int) (l:List Nat) (i:Nat):(mK z l i).length=i:=by simp[mK]
theorem Fq (z:Nat→Nat→Int) (l:List Nat) (i:Nat):mK z l (i+1)=mK z l i ++ [bN (z i (l.getD i 0))]:=by simp[mK,sM]
def LX (z:Nat→Nat→Int) (l:List Nat) (i:Nat):Prop:=∀j,j<i→InW (z j (l.getD j 0))
def Ij {F:QQ} {l:List Nat} (hv:iQ h v l) (z:Nat→Nat→Int) (hl:l.length≤1000)(hF : ∀h1 i p,Ext h h1→l[i]?=some p→WV prog F [KN i,wdV p] h1 fun r h2=>Ext h1 h2∧r=if InW (z i p) then .tuple #[pf (z i p),KI 0] else .tuple #[wdV 0,KI 6]) :WV prog (.func (.func 99) #[] #[]) [v,F] h fun r h'=>Ext h h' ∧ ∃out e,r=.tuple #[out,KI e]∧(LX z l l.length→e=0∧iQ h' out (mK z l l.length))∧(¬LX z l l.length→e=6∧out=.slice none 0 0):=by
 refine enter (nt:=34) (rs:=[.tmp 4,.tmp 5]) Proofs.Tryz.func99 rfl rfl rfl ab ?_;simp -dsimp (disch:=try exact dx) only[wpS,zE,zA,hv.1.len rJ];refine loop (fun m fr hh => ∃(i:Nat) (out:QQ),i+m=l.length∧Ext h hh∧Acc hh h.n 8 out (mK z l i).length (wiL (mK z l i))∧LX z l i∧ax fr 1=some F∧ax fr 6=some out∧ax fr 11=some v∧ax fr 12=some (KN l.length)∧ax fr 13=some (KN i)) l.length ⟨0,.slice none 0 0,aa,Ext.refl _,Acc.nil _ _ aa,fun j hj=>aa,ab,ab,ab,ab,ab⟩ ?_;rintro m fr hh ⟨i,out,him,hE,hA,xP,f1,f6,f11,f12,f13⟩;have hnn:=hE.n;simp -dsimp (disch:=try exact dx) only[wpS,f12,f13];refine aG ?_ ?_<;>intro hc<;>simp only[aS,aV] at hc
 ·have hi:i<l.length:=aa;obtain⟨p,hp⟩ : ∃p,l[i]?=some p:=⟨_,aK hi⟩;have pw:=hv.2.2 p (bh hp);have gp:l.getD i 0=p:=by rw[bH,hp];rfl
  simp -dsimp (disch:=try exact dx) only[wpS,wpT,zE,zL,zA,bY,fa,dw,f1,f11,f13,hv.1.idx qE hi,hv.ld hE.ai hp,bA,aD,aW,bD,aY];obtain⟨H0,hH0⟩ : ∃H,H=(hh.new (.cells [ZW,ZW,ZW,ZW,ZW,ZW,ZW,ZW] 0 none)).put hh.n (.cells (wdC p) 0 none):=⟨_,rfl⟩;have E0:Ext hh H0:=by rw[hH0];exact((Ext.refl hh).new _).put (aA _) _
  have n0:H0.n=hh.n+1:=by rw[hH0];rfl
  rw[←hH0];clear hH0;refine call (hF H0 i p (hE.trans E0) hp) ?_;rintro _ h1 ⟨X1,rfl⟩;have m1:=X1.n;have E1:=E0.trans X1;by_cases ci:InW (z i p)
  ·rw[aq ci];have wz:=gJ ci;obtain⟨H1,hH1⟩ : ∃H,H=(h1.new (.cells [ZW,ZW,ZW,ZW,ZW,ZW,ZW,ZW] 0 none)).put h1.n (.cells (wdC (bN (z i p))) 0 none):=⟨_,rfl⟩;have E2:Ext h1 H1:=by rw[hH1];exact((Ext.refl h1).new _).put (aA _) _
   have n1:H1.n=h1.n+1:=by rw[hH1];rfl
   have k1:H1.ext.get h1.n=some (.cells (wdC (bN (z i p))) 0 none):=by rw[hH1];simp (disch:=try exact dx) only[aj]
   simp -dsimp (disch:=try exact dx) only[wpS,wpT,zE,zL,zA,fa,dw,bA,aD,aW,bD];rw[←hH1];clear hH1;have E12:=E1.trans E2;obtain⟨cV,h8,hap,hA8,hG8,hE8⟩:=(hA.ext E12).qC (P:=prog) (t:=42) HL (m:=1) (new:=wdC (bN (z i p))) aa (by rw[aD]) (aW _) (by rw[uP];omega) aa (hE.trans E12) (aA _);have lD:append prog (H1.new (.cells (wdC (bN (z i p))) 8 none)) 42 out (.slice (some ⟨2*H1.n,0,none⟩) 1 3)=some (cV,h8):=hap;simp -dsimp (disch:=try exact dx) only[wpS,wpT,zE,zL,zA,bY,HG,pM,f6,f13,ay k1,aD,bD,aY,lD];refine⟨m - 1,aa,i+1,cV,aa,hE8,?_,?_,by simp[f1],ab,by simp[f11],by simp[f12],ab⟩;·rw[Fq,mQ,dG,gp];exact hA8
   ·intro j hj;by_cases hji:j=i
    ·subst hji;rw[gp];exact ci
    ·exact xP j aa
  ·rw[ah ci];simp -dsimp (disch:=try exact dx) only[wpS,wpT,zE,zL,zA,fa,dw,bA,aD,aW,bD];refine⟨((hE.trans E1).new _).put aa _,_,_,rfl,fun hf=>?_,fun _=>⟨rfl,rfl⟩⟩;exfalso;have:=hf i hi;rw[gp] at this;exact ci this
 ·obtain rfl:i=l.length:=aa;simp -dsimp (disch:=try exact dx) only[wpS,wpT,zE,f6];refine⟨hE,out,0,rfl,fun _=>⟨rfl,hA.sl,by rw[uP];omega,?_⟩,fun hn=>absurd xP hn⟩;intro n hn;obtain⟨j,hj,rfl⟩:=ir.1 hn;exact gJ (xP j (qX.1 hj))
def tx (h:l.any (ns most)=false) : ∀x∈l,0≤x∧x≤most:=by intro x hx;have:=List.any_eq_false.1 h x hx;simp[ns] at this;omega
def kN (h:jO s l=0):(1≤s.length∧s.length≤60 ∧ ∀x∈s,0≤x∧x≤30)∧(1≤l.length∧l.length≤6 ∧ ∀x∈l,0≤x∧x≤8):=by
 unfold jO at h;split at h;·cases h
 rename_i hn
 refine⟨⟨aa,aa,tx ?_⟩,aa,aa,tx ?_⟩
 ·cases c:s.any (ns 30)
  ·rfl
  ·exact absurd (.inr (.inr (.inl c))) hn
 ·cases c:l.any (ns 8)
  ·rfl
  ·exact absurd (.inr (.inr (.inr (.inr (.inr c))))) hn
def pU (s l:List Int):jO s l=0∨jO s l=340:=by
 unfold jO;split;·exact .inr rfl
 ·exact .inl rfl
def mJ (s:List Int) (level:Int) (i p:Nat):Int:=tgt (lO s) level (s.getD i 0) p
open Classical in
noncomputable def mT (ws:List Nat) (s:List Int) (level:Int):Int:=if jO s [level]≠0 then 340 else if ws.length≠s.length ∨ ¬tP ws then 2 else if LX (mJ s level) ws ws.length then 0 else 6
def C8 (h:IH) (x:Int) (hx:fS x):fF (h.new (.cells [KI x] 1 none)) (.slice (some ⟨2*h.n,0,none⟩) 1 3) [x] :=
 ⟨oQ h aa rfl aa,ab,fun y hy=>by rw[gQ.1 hy];exact hx⟩
open Classical in
def tc {w:QQ} {ws:List Nat} (hw:iQ h w ws) (hv:fF h v s) (hl:fS level) :
  WV prog (.func (.func 31) #[] #[]) [w,v,KI level] h fun r h'=>Ext h h' ∧ ∃out,r=.tuple #[out,KI (mT ws s level)]∧(mT ws s level=0→iQ h' out (mK (mJ s level) ws ws.length))∧(mT ws s level≠0→out=.slice none 0 0):=by
 unfold mT;obtain⟨H0,hH0,n0,E0,k4,k5⟩:=ko h [v] [KI level];refine enter (nt:=33) (rs:=[.tmp 6,.tmp 7]) Proofs.Tryz.func31 rfl rfl rfl ab ?_;simp -dsimp (disch:=try exact dx) only[wpS,wpT,zE,zL,zA,jF,ld3,kS,hv.1.cells];rw[←hH0,show h.n+1+1=H0.n by omega];clear hH0;have E1:Ext H0 (H0.new (.cells [KI level] 1 none)):=(Ext.refl H0).new _;refine call (tf (hv.ai (E0.trans E1).ai) (C8 H0 level hl)) ?_;rintro _ h1 ⟨X1,rfl⟩;have EE:=(E0.trans E1).trans X1;have m1:=X1.n;simp only[aH] at m1;have q4:=X1.kept aT (E1.kept aa k4);have q5:=X1.kept aT (E1.kept aa k5);rcases pU s [level] with c0|c0
 case inr =>
  rw[c0,aq aC];simp -dsimp (disch:=try exact dx) only[wpS,wpT,zE];exact⟨EE,_,rfl,fun h=>absurd h aC,fun _=>rfl⟩
 obtain⟨⟨s1,s2,s3⟩,_,_,l3⟩:=kN c0;have lb:=l3 level ab;rw[c0,ah aC];have lw:=hw.2.1;have el:=hv.1.len (P:=prog) dY;have ew:=hw.1.len (P:=prog) rJ;by_cases c1:ws.length≠s.length
 ·rw[aq (.inl c1)];have d:(((ws.length:Nat):Int) == ((s.length:Nat):Int))=false:=by simpa using fun h=>c1 aa
  simp -dsimp (disch:=try exact dx) only[wpS,wpT,zE,jF,ay q4,el,ew];exact⟨EE,_,rfl,fun h=>absurd h aC,fun _=>rfl⟩
 have c1:ws.length=s.length:=aa;simp -dsimp (disch:=try exact dx) only[wpS,wpT,zE,jF,ay q4,el,ew,c1,pW];refine call (D9 (hw.ai EE.ai)) ?_;rintro _ h2 ⟨X2,rfl⟩;have m2:=X2.n;by_cases c2:tP ws
 case neg =>
  rw[aq (.inr c2),ct c2];simp -dsimp (disch:=try exact dx) only[wpS,zE];exact⟨EE.trans X2,_,rfl,fun h=>absurd h aC,fun _=>rfl⟩
 rw[ah (by rintro(h|h);exact h c1;exact h c2),bF (fun h=>h c2)];have E2:=EE.trans X2;have r4:=X2.kept aa q4;have r5:=X2.kept aa q5;simp -dsimp (disch:=try exact dx) only[wpS,zE,jF,ay r4];refine call (Ur (hv.ai E2.ai).1 hv.2.1 (fun h=>by rw[h] at s1;simp at s1)) ?_;rintro _ h3 ⟨rfl,rfl⟩;have mx:0≤lO s∧lO s≤30:=s3 _ (yM s fun h=>by rw[h] at s1;simp at s1);simp -dsimp (disch:=try exact dx) only[wpS,wpT,zE,zL,zc3,st3];obtain⟨H3,hH3⟩ : ∃H,H=(h3.new (.cells [KI 0] 0 none)).put h3.n (.cells [KI (lO s)] 0 none):=⟨_,rfl⟩;have E3:Ext h3 H3:=by rw[hH3];exact((Ext.refl h3).new _).put (aA _) _
 have n3:H3.n=h3.n+1:=by rw[hH3];rfl
 have r9:H3.ext.get h3.n=some (.cells [KI (lO s)] 0 none):=by rw[hH3];simp (disch:=try exact dx) only[aj]
 rw[←hH3];clear hH3;have t4:=E3.kept aa r4;have t5:=E3.kept aa r5;refine call (Ij (hw.ai (E2.trans E3).ai) (mJ s level) aa ?_) ?_
 ·intro h4 i p X4 hp;have m4:=X4.n;have hi:i<s.length:=by have:=(bU.1 hp).1;omega
  obtain⟨x,hx⟩ : ∃x,s[i]?=some x:=⟨_,aK hi⟩;have gx:s.getD i 0=x:=by rw[bH,hx];rfl
  have xm:=bh hx;have:=Il (hv.ai ((E2.trans E3).trans X4).ai) (hw.2.2 p (bh hp)) hx aa aa aa (X4.kept aa r9) (X4.kept aa t4) (X4.kept aa t5) mx lb ⟨(s3 x xm).1,Hf s x xm⟩;unfold mJ;rw[gx];exact this
 rintro _ h5 ⟨X5,out,e,rfl,a1,a2⟩;have E5:=(E2.trans E3).trans X5;simp -dsimp (disch:=try exact dx) only[wpS,zE];by_cases cf:LX (mJ s level) ws ws.length;·obtain⟨rfl,b⟩:=a1 cf;rw[aq cf];exact⟨E5,_,rfl,fun _=>b,fun h=>absurd rfl h⟩
 ·obtain⟨rfl,rfl⟩:=a2 cf
  rw[ah cf];exact⟨E5,_,rfl,fun h=>absurd h aC,fun _=>rfl⟩
end
section
def exq (k:Nat):Rat:=Rat.divInt 1 ((2 ^ k:Nat):Int)
theorem FE (k:Nat):(exq k).num=1∧((exq k).den:Int)=((2 ^ k:Nat):Int):=by
 have h0:0<((2 ^ k:Nat):Int):=by have:=pX k;omega
 obtain⟨l1,l2⟩:=vH (n:=1) (d:=((2 ^ k:Nat):Int)) h0;have e:Int.gcd 1 ((2 ^ k:Nat):Int)=1:=Int.gcd_one_left _;rw[e] at l1 l2;unfold exq;exact⟨by rw[←l1];rfl,by rw[←l2];exact Int.ediv_one _⟩
variable {k:Nat}
theorem Ak (hk:k≤240):QW (exq k):=by
 obtain⟨e1,e2⟩:=FE k;unfold QW;rw[e1,e2];have a:2 ^ k≤2 ^ 240:=fA aa hk;have b:2 ^ 240<H8:=by unfold H8;decide +kernel
 have b0:=AB;unfold InW;generalize 2 ^ k=x at a;generalize 2 ^ 240=y at a b;constructor<;>constructor<;>omega
theorem NG (k:Nat):((1:Int):Rat) / (((2 ^ k:Nat):Int):Rat)=exq k:=by unfold exq;rw[wW]
def Qg (k:Nat):(((2 ^ k:Nat):Int):Rat)≠0:=by intro h0;have:((2 ^ k:Nat):Int)=0:=Rat.intCast_inj.1 h0;have:=pX k;omega
def Qf (hk:k≤240):QB 240 (((2 ^ k:Nat):Int):Rat):=QB.int (by rw[jz];exact fA aa hk)
def chK (s:List Int) (a b:Int) (x y:Nat):Nat:=(-((a - b)*(s.getD x 0 - s.getD y 0))).toNat
def BM {p q:Int} (hp : -8≤p∧p≤8) (hq : -30≤q∧q≤30) : -240≤p*q∧p*q≤240:=by
 have h1:p.natAbs≤8:=aa;have h2:q.natAbs≤30:=aa;have h3:(p*q).natAbs≤8*30:=by rw[Int.natAbs_mul];exact jg h1 h2
 omega
variable {x y:Nat}{b a:Int}{s:List Int}
def HD (ha:0≤a∧a≤8) (hb:0≤b∧b≤8) (hs : ∀n∈s,0≤n∧n≤30) (hx:x<s.length) (hy:y<s.length):chK s a b x y≤240:=by obtain⟨u,hu⟩ : ∃u,s[x]?=some u:=⟨_,aK hx⟩;obtain⟨w,hw⟩ : ∃w,s[y]?=some w:=⟨_,aK hy⟩;have:=hs u (bh hu);have:=hs w (bh hw);unfold chK;rw[bH,bH,hu,hw,jf,jf];have:=BM (p:=a - b) (q:=u - w) aa aa;omega
variable {h:IH}{v:Value}
def A6 (hv:fF h v s) (ha:0≤a∧a≤8) (hb:0≤b∧b≤8) (hs : ∀n∈s,0≤n∧n≤30) (hx:x<s.length) (hy:y<s.length) :WV Proofs.Tryz.prog (.func (.func 51) #[] #[]) [v,KI a,KI b,KN x,KN y] h fun r h'=>Ext h h'∧r=mf (exq (chK s a b x y)):=by
 have kb:=HD ha hb hs hx hy;obtain⟨u,hu⟩ : ∃u,s[x]?=some u:=⟨_,aK hx⟩;obtain⟨w,hw⟩ : ∃w,s[y]?=some w:=⟨_,aK hy⟩;have u1:=hs u (bh hu);have w1:=hs w (bh hw);have ek:chK s a b x y=(-((a - b)*(u - w))).toNat:=by unfold chK;rw[bH,bH,hu,hw,jf,jf]
 have db:=BM (p:=a - b) (q:=u - w) aa aa;obtain⟨k,hk⟩ : ∃k,k=chK s a b x y:=⟨_,rfl⟩;rw[←hk] at kb ek ⊢;obtain⟨d,hd⟩ : ∃d,(a - b)*(u - w)=d:=⟨_,rfl⟩;rw[hd] at db ek;have E1:Ext h (h.new (.cells Z16 0 none)):=(Ext.refl h).new _;have k10:(h.new (.cells Z16 0 none)).ext.get h.n=some (.cells Z16 0 none):=by simp (disch:=try exact dx) only[ar]
 have f2 : ∀{h:IH},cW h (.agg #[.bool false,.slice none 0 0]) 0→True:=fun _=>trivial;refine enter (nt:=41) (rs:=[.cell 10 32]) Proofs.Tryz.func51 rfl rfl rfl ab ?_;simp -dsimp (disch:=try exact dx) only[wpS,zE,zA,pj,hv.1.idx gl hx,hv.1.idx gl hy,fc hv E1.ai hu,fc hv E1.ai hw,hd];by_cases c:0<d
 ·have dd:decide (0<d)=true:=ct c;obtain rfl:k=0:=aa;simp -dsimp (disch:=try exact dx) only[wpS,dd];refine call (uG 1 ⟨aa,aa⟩) ?_;rintro a1 h1 ⟨X1,p1⟩;simp -dsimp (disch:=try exact dx) only[wpS];refine call (oK 2 ⟨aa,aa⟩) ?_;rintro a2 h2 ⟨X2,p2⟩;simp -dsimp (disch:=try exact dx) only[wpS,zE];refine call (zT (k:=0) p2 aa) ?_;rintro a3 h3 ⟨X3,p3⟩;simp -dsimp (disch:=try exact dx) only[wpS,zE];refine call (yf p3) ?_;rintro a4 h4 ⟨X4,p4⟩;simp -dsimp (disch:=try exact dx) only[wpS,zE];have X14:=((X2.trans X3).trans X4);refine call (CU (p1.ai X14.ai) p4 (QB.int (k:=64) aC) (Qf (k:=0) aa) aa (Qg 0)) ?_;rintro a5 h5 ⟨X5,p5⟩;rw[NG] at p5;simp -dsimp (disch:=try exact dx) only[wpS,zE];refine call (yx p5) ?_;rintro _ h6 ⟨X6,rfl⟩;rw[aq (Ak (k:=0) aa)];have X16:=((X1.trans X14).trans X5).trans X6;have m6:=X16.n;try simp only[aH] at m6
  have z10:=X16.kept ab k10;simp -dsimp (disch:=try exact dx) only[wpS,wpT,zE,zL,zA,pj,jT,iY,bR,ba,cT,fD,dJ,z10];exact⟨((((E1.trans X16).new _).put aa _).put (aA _) _),rfl⟩
 ·have dd:decide (0<d)=false:=bF c;have kd : -d=(k:Int):=aa;simp -dsimp (disch:=try exact dx) only[wpS,dd];refine call (uG 1 ⟨aa,aa⟩) ?_;rintro a1 h1 ⟨X1,p1⟩;simp -dsimp (disch:=try exact dx) only[wpS];refine call (oK 2 ⟨aa,aa⟩) ?_;rintro a2 h2 ⟨X2,p2⟩;simp -dsimp (disch:=try exact dx) only[wpS,zE,kd];refine call (zT (k:=k) p2 aa) ?_;rintro a3 h3 ⟨X3,p3⟩;simp -dsimp (disch:=try exact dx) only[wpS,zE];refine call (yf p3) ?_;rintro a4 h4 ⟨X4,p4⟩;simp -dsimp (disch:=try exact dx) only[wpS,zE];have X14:=((X2.trans X3).trans X4);refine call (CU (p1.ai X14.ai) p4 (QB.int (k:=64) aC) (Qf aa) aa (Qg k)) ?_;rintro a5 h5 ⟨X5,p5⟩;rw[NG] at p5;simp -dsimp (disch:=try exact dx) only[wpS,zE];refine call (yx p5) ?_;rintro _ h6 ⟨X6,rfl⟩;rw[aq (Ak aa)];have X16:=((X1.trans X14).trans X5).trans X6;have m6:=X16.n;try simp only[aH] at m6
  have z10:=X16.kept ab k10;simp -dsimp (disch:=try exact dx) only[wpS,wpT,zE,zL,zA,pj,jT,iY,bR,ba,cT,fD,dJ,z10];exact⟨((((E1.trans X16).new _).put aa _).put (aA _) _),rfl⟩
open Classical in
noncomputable def ke (s:List Int) (a b x y:Int):Value:=if jO s [a,b]≠0 then .tuple #[shV 0 0,KI 340] else if x<0∨(s.length:Int)≤x∨y<0∨(s.length:Int)≤y then .tuple #[shV 0 0,KI 2] else .tuple #[mf (exq (chK s a b x.toNat y.toNat)),KI 0]
def Ik (h:IH) (x y:Int) (hx:fS x) (hy:fS y):fF (h.new (.cells [KI x,KI y] 1 none)) (.slice (some ⟨2*h.n,0,none⟩) 2 5) [x,y] :=
 ⟨oQ h aa rfl aa,ab,fun z hz=>by
  rcases dV.1 hz with rfl|hz;·exact hx
  ·rw[gQ.1 hz];exact hy⟩
def uy {x y:Int} (hv:fF h v s) (ha:fS a) (hb:fS b) (hx:fS x) (hy:fS y) :WV Proofs.Tryz.prog (.func (.func 39) #[] #[]) [v,KI a,KI b,KI x,KI y] h fun r h'=>Ext h h'∧r=ke s a b x y:=by
 unfold ke;have E0:Ext h (h.new (.cells Z16 0 none)):=(Ext.refl h).new _;have k10:(h.new (.cells Z16 0 none)).ext.get h.n=some (.cells Z16 0 none):=by simp (disch:=try exact dx) only[ar]
 have el:=hv.1.len (P:=Proofs.Tryz.prog) dY;have lb:=hv.2.1;refine enter (nt:=47) (rs:=[.cell 10 32,.tmp 11]) Proofs.Tryz.func39 rfl rfl rfl ab ?_;simp -dsimp (disch:=try exact dx) only[wpS,wpT,zE,zL,zA,reduceMul,pj,kS];obtain⟨H0,hH0⟩ : ∃H0,H0=h.new (.cells Z16 0 none):=⟨_,rfl⟩;have n0:H0.n=h.n+1:=by rw[hH0];rfl
 rw[←hH0] at E0 k10 ⊢;rw[show h.n+1=H0.n by omega];clear hH0;have E1:Ext H0 (H0.new (.cells [KI a,KI b] 1 none)):=(Ext.refl H0).new _;refine call (tf (hv.ai (E0.trans E1).ai) (Ik H0 a b ha hb)) ?_;rintro _ h1 ⟨X1,rfl⟩;have m1:=X1.n;simp only[aH] at m1;have EE:=(E0.trans E1).trans X1;have q10:=X1.kept aT (E1.kept aa k10);rcases pU s [a,b] with c0|c0
 case inr =>
  rw[c0,aq aC];simp -dsimp (disch:=try exact dx) only[wpS,wpT,zE,zL,zA,ve,jT,iY,q10];exact⟨EE.put aa _,rfl⟩
 obtain⟨⟨s1,s2,s3⟩,_,_,l3⟩:=kN c0;rw[c0,ah aC];by_cases c1:x<0
 ·rw[aq (.inl c1)];simp -dsimp (disch:=try exact dx) only[wpS,wpT,zE,zL,zA,ve,jT,iY,q10];exact⟨EE.put aa _,rfl⟩
 by_cases c2:(s.length:Int)≤x
 ·rw[aq (.inr (.inl c2))];simp -dsimp (disch:=try exact dx) only[wpS,wpT,zE,zL,zA,ve,jT,iY,el,q10];exact⟨EE.put aa _,rfl⟩
 by_cases c3:y<0
 ·rw[aq (.inr (.inr (.inl c3)))];simp -dsimp (disch:=try exact dx) only[wpS,wpT,zE,zL,zA,ve,jT,iY,el,q10];exact⟨EE.put aa _,rfl⟩
 by_cases c4:(s.length:Int)≤y
 ·rw[aq (.inr (.inr (.inr c4)))];simp -dsimp (disch:=try exact dx) only[wpS,wpT,zE,zL,zA,ve,jT,iY,el,q10];exact⟨EE.put aa _,rfl⟩
 rw[ah aa];obtain⟨i,rfl⟩ : ∃i:Nat,x=(i:Int):=⟨x.toNat,aa⟩;obtain⟨j,rfl⟩ : ∃j:Nat,y=(j:Int):=⟨y.toNat,aa⟩;rw[iv,iv];simp -dsimp (maxSteps:=1000000) (disch:=first|omega|(simp only[aH,aJ];omega)|decide +kernel|(repeat first|rw[aH]|rw[aJ])) only[wpS,wpT,zE,el];refine call (A6 (hv.ai EE.ai) (l3 a ab) (l3 b ab) s3 aa aa) ?_;rintro _ h2 ⟨X2,rfl⟩;rw[iD];generalize shq _=p;have z10:=X2.kept aa q10;have m2:=X2.n;simp -dsimp (disch:=try exact dx) only[wpS,wpT,zE,zL,zA,jT,iY,z10,bR,ba,cT,fD,dJ];exact⟨(EE.trans X2).put aa _,rfl⟩
end
end Go.Id

/-
  Contracts: package chance: Pick, for weights whose sum is too great. Contracts: reference 04: Pick, for weights whose sum is too great.
-/
import Derived.Test.YtnanhedgenokpaaGreatTemperMovesAt
import Derived.Test.YtnanhedgenokpaaGreatTemperMovesBl
import Derived.Test.YtnanhedgenokpaaGreatTemperMovesBq
import Derived.Test.YtnanhedgenokpaaGreatTemperMovesBn
import Derived.Test.YtnanhedgenokpaaGreatTemperMovesBp
import Derived.Test.YtnanhedgenokpaaGreatTemperMovesBg
import Derived.Test.YtnanhedgenokpaaGreatTemperMovesBo
import Derived.Test.YtnanhedgenokpaaGreatTemperMovesBf
import Derived.Test.YtnanhedgenokpaaGreatTemperMovesBm
set_option linter.unusedVariables false
set_option linter.unusedSimpArgs false
set_option linter.defProp false
set_option linter.deprecated false
namespace Go.Id
open Go
open Go.Proofs.Tryz (prog)
open Nat renaming reduceAdd→zA,reduceEqDiff→zE,reduceLeDiff→zL
set_option maxHeartbeats 16000000
def l8 (l:List Nat):Nat→Nat
 | 0=>0
 | i+1=>if l8 l i+l.getD i 0<H8 then l8 l i+l.getD i 0 else 0
def sM (l:List Nat):Nat→Int
 | 0=>0
 | i+1=>if l8 l i+l.getD i 0<H8 then sM l i else 6
theorem M3 (l:List Nat) : ∀i,l8 l i<H8
 | 0=>jg
 | i+1=>by
  rw[l8]
  split
  ·assumption
  ·exact jg
theorem Aa (l:List Nat) : ∀i,sM l i=0→l8 l i=cE l i∧cE l i<H8
 | 0,_=>⟨rfl,jg⟩
 | i+1,h=>by
  rw[sM] at h
  split at h
  ·rename_i c
   obtain⟨a,b⟩:=Aa l i h
   rw[l8,if_pos c,cE,a]
   rw[a] at c
   exact⟨rfl,c⟩
  ·omega
theorem DA (l:List Nat) : ∀i,sM l i=0∨sM l i=6
 | 0=>.inl rfl
 | i+1=>by
  rw[sM]
  split
  ·exact DA l i
  ·exact .inr rfl
def rD (l:List Nat) (i:Nat):List Nat:=(List.range i).map fun j=>l8 l (j+1)
theorem HU (l:List Nat) (i:Nat):(rD l i).length=i:=by simp[rD]
theorem Eo (l:List Nat) (i:Nat):rD l (i+1)=rD l i ++ [l8 l (i+1)]:=by simp[rD,List.range_succ]
theorem I4 {h:IH} {b:Nat} {e:Int} (x y:Nat) (h1:x<H8) (h2:y<H8) (hb:b<h.n) (g:h.ext.get b=some (.cells [KI e] 0 none)) :
  WV prog (.func (.func 225) #[] #[ptr (2*b) 0]) [wdV x,wdV y] h fun r h2=>r=wdV (if x+y<H8 then x+y else 0)∧h2.ext.get b=some (.cells [KI (if x+y<H8 then e else 6)] 0 none) ∧ ∃h',Ext h h'∧uc b h' h2:=by
 refine enter (nt:=18) (rs:=[.cell 5 30]) Proofs.Tryz.func225 rfl rfl rfl (by simp) ?_
 simp -dsimp (disch:=try exact dx) only[wpS,zE,zL,zA,dB,ba,aM,aj,aC]
 obtain⟨H0,hH0,n0,E0,k0,k1,k2⟩:=gP h (wdC x) (wdC y) [ZW,ZW,ZW,ZW,ZW,ZW,ZW,ZW]
 rw[←hH0]
 clear hH0
 refine call (Cd x y h1 h2) ?_
 rintro _ h1 ⟨X1,rfl⟩
 have m1:=X1.n
 have g2:=X1.kept (by omega) k2
 have gb:=(E0.trans X1).kept hb g
 by_cases hs:x+y<H8
 ·rw[if_pos hs,if_pos hs,if_pos hs]
  obtain⟨H1,hH1⟩ : ∃H,H=(h1.new (.cells [ZW,ZW,ZW,ZW,ZW,ZW,ZW,ZW] 0 none)).put h1.n (.cells (wdC (x+y)) 0 none):=⟨_,rfl⟩
  have E1:Ext h1 H1:=by rw[hH1];exact((Ext.refl h1).new _).put (Nat.le_refl _) _
  have c1:H1.ext.get h1.n=some (.cells (wdC (x+y)) 0 none):=by rw[hH1];simp (disch:=try exact dx) only[ad]
  have c2:=E1.kept (by omega) g2
  have cb:=E1.kept (by omega) gb
  have nn1:H1.n=h1.n+1:=by rw[hH1];rfl
  simp -dsimp (disch:=try exact dx) only[wpS,wpT,zE,zL,zA,dB,ba,cj,aM,aj,ay,aO]
  rw[←hH1]
  clear hH1
  simp -dsimp (disch:=try exact dx) only[wpS,wpT,zE,zL,zA,ba,g2,aj,ay,aO,aC]
  exact⟨rfl,cb,_,((E0.trans X1).trans E1).put (by omega) _,uc.refl _ _⟩
 ·rw[if_neg hs,if_neg hs,if_neg hs]
  obtain⟨H1,hH1⟩ : ∃H,H=(h1.new (.cells [ZW,ZW,ZW,ZW,ZW,ZW,ZW,ZW] 0 none)).put h1.n (.cells (wdC 0) 0 none):=⟨_,rfl⟩
  have E1:Ext h1 H1:=by rw[hH1];exact((Ext.refl h1).new _).put (Nat.le_refl _) _
  have c1:H1.ext.get h1.n=some (.cells (wdC 0) 0 none):=by rw[hH1];simp (disch:=try exact dx) only[ad]
  have c2:=E1.kept (by omega) g2
  have cb:=E1.kept (by omega) gb
  have nn1:H1.n=h1.n+1:=by rw[hH1];rfl
  simp -dsimp (disch:=try exact dx) only[wpS,wpT,zE,zL,zA,dB,cj,jq,aM,aj,ay,aO]
  rw[←hH1]
  clear hH1
  have c1':(H1.put b (.cells [KI 6] 0 none)).ext.get h1.n=some (.cells (wdC 0) 0 none):=by rw[ae _ _ (by omega)];exact c1
  have c2':(H1.put b (.cells [KI 6] 0 none)).ext.get (h.n+2)=some (.cells [ZW,ZW,ZW,ZW,ZW,ZW,ZW,ZW] 0 none):=by rw[ae _ _ (by omega)];exact c2
  simp -dsimp (disch:=try exact dx) only[wpS,wpT,zE,zL,zA,ba,cj,gb,ai c1',c2',aj,ay,aO,aC]
  refine⟨rfl,H1.put (h.n+2) (.cells (wdC 0) 0 none),((E0.trans X1).trans E1).put (by omega) _,rfl,rfl,fun j hj=>?_,rfl⟩
  simp only[hH,hj,if_false]
theorem Acc.Rx {h h':IH} {n0 sz:Nat} {v:Value} {n:Nat} {cs:List Value} (a:Acc h n0 sz v n cs) {b:Nat} {c:List Value} {f:Option Nat} (s:uc b h h') (hk:h.ext.get b=some (.cells c 0 f)):Acc h' n0 sz v n cs:=by
 obtain⟨hz,hl,a|⟨j,fam,rfl,hn,h1,h2,h3,h4⟩⟩:=a
 ·exact⟨hz,hl,.inl a⟩
 ·refine⟨hz,hl,.inr ⟨j,fam,rfl,hn,h1,by rw[s.1];exact h2,?_,?_⟩⟩
  ·rw[s.2.2.1 j]
   ·exact h3
   ·rintro rfl;rw[hk] at h3;cases h3;omega
  ·cases fam with
   | none=>trivial
   | some f =>
    obtain⟨a1,a2,rest,a3,a4⟩:=h4
    exact⟨a1,by rw[s.1];exact a2,rest,by rw[s.2.2.2];exact a3,fun j hj=>⟨(a4 j hj).1,by rw[s.1];exact(a4 j hj).2⟩⟩
theorem uc.ab {b:Nat} {h h':IH} (s:uc b h h') {c:List Value} {f:Option Nat} (hb:h.ext.get b=some (.cells c 0 f)):aF h h' :=
 ⟨by rw[s.1];exact Nat.le_refl _,s.2.1,fun k c' e f' hk hg he=>⟨f',by rw[s.2.2.1 k (by rintro rfl;rw[hb] at hg;cases hg;exact he rfl)];exact hg⟩⟩
theorem I2 {h0 h:IH} {v:Value} {l:List Nat} {b:Nat} (hv:iA h v l) (hl:l.length≤1000) (hp8 : ∀p∈l,p<H8) (E:Ext h0 h) (hb:h0.n≤b) (hbn:b<h.n) (g:h.ext.get b=some (.cells [KI 0] 0 none)) :
  WV prog (.func (.func 224) #[] #[]) [v,.func (.func 225) #[] #[ptr (2*b) 0]] h fun r h'=>Ext h0 h'∧(∃a b c,r=.slice a b c)∧aF h h'∧(∀(k:Nat) c,k<h.n→k≠b→h.ext.get k=some (.cells c 0 none)→h'.ext.get k=some (.cells c 0 none))∧h'.ext.get b=some (.cells [KI (sM l l.length)] 0 none):=by
 refine enter (nt:=25) (rs:=[.tmp 4]) Proofs.Tryz.func224 rfl rfl rfl (by simp) ?_
 simp -dsimp (disch:=try exact dx) only[wpS,zE,zA,dB,hv.1.len rK]
 refine loop (fun m fr hh => ∃(i:Nat) (out:Value),i+m=l.length∧Ext h0 hh∧aF h hh∧h.n<hh.n∧(∃a b c,out=.slice a b c)∧Acc hh h.n 8 out (rD l i).length (wiL (rD l i))∧hh.ext.get h.n=some (.cells (wdC (l8 l i)) 0 none)∧hh.ext.get b=some (.cells [KI (sM l i)] 0 none)∧(∀(k:Nat) c,k<h.n→k≠b→h.ext.get k=some (.cells c 0 none)→hh.ext.get k=some (.cells c 0 none))∧ah fr 1=some (.func (.func 225) #[] #[ptr (2*b) 0])∧ah fr 5=some out∧ah fr 6=some (ptr (2*h.n) 0)∧ah fr 9=some v∧ah fr 10=some (KN l.length)∧ah fr 11=some (KN i)) l.length
  ⟨0,.slice none 0 0,by omega,E.trans ((Ext.refl _).new _),(aF.refl h).new _,by simp,⟨_,_,_,rfl⟩,Acc.nil _ _ (by omega),by rw[l8,gQ];simp (disch:=try exact dx) only[aa],by rw[sM,ao _ _ (by omega)];exact g,fun k c hk _ hg=>by rw[ao _ _ (by omega)];exact hg,by simp,by simp,by simp,by simp,by simp,by simp⟩ ?_
 rintro m fr hh ⟨i,out,him,hE,hK,hn,hO,hA,g6,gb,oth,f1,f5,f6,f9,f10,f11⟩
 simp -dsimp (disch:=try exact dx) only[wpS,f10,f11]
 refine ax ?_ ?_<;>intro hc<;>simp only[decide_eq_true_eq,decide_eq_false_iff_not] at hc
 ·have hi:i<l.length:=by omega
  obtain⟨p,hp⟩ : ∃p,l[i]?=some p:=⟨_,List.getElem?_eq_getElem hi⟩
  have p8:=hp8 p (List.mem_of_getElem? hp)
  have gp:l.getD i 0=p:=by rw[List.getD_eq_getElem?_getD,hp];rfl
  simp -dsimp (disch:=try exact dx) only[wpS,wpT,zE,zL,zA,dB,cj,f1,f9,f11,hv.1.idx u7 hi,hv.ld hK hp,aM,aj,ay,aO]
  obtain⟨H0,hH0⟩ : ∃H,H=(hh.new (.cells [ZW,ZW,ZW,ZW,ZW,ZW,ZW,ZW] 0 none)).put hh.n (.cells (wdC p) 0 none):=⟨_,rfl⟩
  have E0:Ext hh H0:=by rw[hH0];exact((Ext.refl hh).new _).put (Nat.le_refl _) _
  have n0:H0.n=hh.n+1:=by rw[hH0];rfl
  have k6:=E0.kept hn g6
  have kb:=E0.kept (by omega) gb
  have x0:H0.ext.get hh.n=some (.cells (wdC p) 0 none):=by rw[hH0];simp (disch:=try exact dx) only[ad]
  rw[←hH0]
  clear hH0
  simp -dsimp (disch:=try exact dx) only[wpS,zE,zL,ba,f6,ai k6,ai x0,aj,aC]
  refine call (I4 (l8 l i) p (M3 l i) p8 (by omega) kb) ?_
  rintro _ h1 ⟨rfl,gb1,h',X1,S1⟩
  have es:(if l8 l i+p<H8 then l8 l i+p else 0)=l8 l (i+1):=by rw[l8,gp]
  have ee:(if l8 l i+p<H8 then sM l i else 6)=sM l (i+1):=by rw[sM,gp]
  rw[es]
  rw[ee] at gb1
  have m1:=X1.n
  have s1:=S1.1
  have kb':=X1.kept (by omega) kb
  have E1:=E0.trans X1
  have a6:=(S1.2.2.1 h.n (by omega)).trans (X1.kept (by omega) k6)
  have A1:=(hA.ext E1).Rx S1 kb'
  have K1:=(hK.trans E1.ab).trans (S1.ab kb')
  have F1:=S1.ext (hE.trans E1) hb
  obtain⟨H1,hH1⟩ : ∃H,H=h1.put h.n (.cells (wdC (l8 l (i+1))) 0 none):=⟨_,rfl⟩
  have E2:Ext h0 H1:=by rw[hH1];exact F1.put (by omega) _
  have n1:H1.n=h1.n:=by rw[hH1];rfl
  have k1:H1.ext.get h.n=some (.cells (wdC (l8 l (i+1))) 0 none):=by rw[hH1];simp (disch:=try exact dx) only[ad]
  have kb1:H1.ext.get b=some (.cells [KI (sM l (i+1))] 0 none):=by rw[hH1,ae _ _ (by omega)];exact gb1
  have hA1:Acc H1 h.n 8 out (rD l i).length (wiL (rD l i)):=by rw[hH1];exact A1.put a6 _
  have K2:aF h H1:=by rw[hH1];exact K1.put a6 _
  have T6 : ∀(k:Nat) c,k<h.n→k≠b→h.ext.get k=some (.cells c 0 none)→H1.ext.get k=some (.cells c 0 none):=fun k c hk hkb hg=>by
   rw[hH1,ae _ _ (by omega),S1.2.2.1 k hkb]
   exact E1.kept (by omega) (oth k c hk hkb hg)
  simp -dsimp (disch:=try exact dx) only[wpS,wpT,zE,zL,cj,f6,a6,aM,aj,ay,mP]
  rw[←hH1]
  clear hH1
  obtain⟨bR,h8,hap,hA8,hG8,hE8⟩:=hA1.pU (P:=prog) (t:=42) FX (m:=1) (new:=wdC (l8 l (i+1))) (by omega) (by rw[aj]) (ay _) (by rw[HU];omega) (by omega) E2 (by omega)
  have jA:append prog (H1.new (.cells (wdC (l8 l (i+1))) 8 none)) 42 out (.slice (some ⟨2*H1.n,0,none⟩) 1 3)=some (bR,h8):=hap
  simp -dsimp (disch:=try exact dx) only[wpS,wpT,zE,zL,zA,ba,FP,nA,f5,f6,f11,ai k1,aj,aO,aC,jA]
  refine⟨m - 1,by omega,i+1,bR,by omega,hE8,K2.trans hG8.ab,Nat.lt_of_lt_of_le (by omega) hG8.n,?_,?_,hG8.var (by omega) k1,hG8.var (by omega) kb1,fun k c hk hkb hg=>hG8.var (by omega) (T6 k c hk hkb hg),by simp[f1],by simp,by simp[f6],by simp[f9],by simp[f10],by simp⟩
  ·obtain⟨_,_,o|⟨k',_,o,_⟩⟩:=hA8
   ·exact⟨_,_,_,o.1⟩
   ·exact⟨_,_,_,o⟩
  ·rw[Eo,lf,List.length_append]
   exact hA8
 ·obtain rfl:i=l.length:=by omega
  simp -dsimp (disch:=try exact dx) only[wpS,wpT,zE,f5]
  exact⟨hE,hO,hK,oth,gb⟩
noncomputable def GD (l:List Nat) (s:Nat):Value:=if cE l l.length<H8 then GC l s else .tuple #[KI 0,chV 0,KI 6]
theorem I3 {h:IH} {v:Value} {l:List Nat} {s:Nat} (hv:iA h v l) (hl:l.length≤400) (hp8 : ∀p∈l,p<H8) (hs : ¬cE l l.length<H8) :
  WV prog (.func (.func 144) #[] #[]) [chV s,v] h fun r h'=>Ext h h'∧r=.tuple #[KI 0,chV 0,KI 6]:=by
 obtain⟨H0,hH0⟩ : ∃H,H=(h.new (.cells [K64 s] 0 none)).new (.cells [.int .u64 0] 0 none):=⟨_,rfl⟩
 have n0:H0.n=h.n+2:=by rw[hH0];rfl
 have E0:Ext h H0:=by rw[hH0];exact((Ext.refl h).new _).new _
 have c5:H0.ext.get (h.n+1)=some (.cells [.int .u64 0] 0 none):=by rw[hH0];simp (disch:=try exact dx) only[aa]
 have vc:=hv.1.cells
 have vo:=hv.1.cok
 have er6:sM l l.length=6:=by
  rcases DA l l.length with c|c
  ·exact absurd (Aa l _ c).2 hs
  ·exact c
 refine enter (nt:=78) (rs:=[.tmp 4,.cell 5 36,.tmp 6]) Proofs.Tryz.func144 rfl rfl rfl (by simp) ?_
 simp -dsimp (disch:=try exact dx) only[wpS,zE,zA,nW,chV]
 rw[←hH0]
 clear hH0
 have hlen:=hv.1.len rK (P:=prog)
 simp -dsimp (disch:=try exact dx) only[wpS,wpT,zE,zL,tq,jq,hlen]
 refine loop (fun m fr hh => ∃(i:Nat),i+m=l.length∧Ext H0 hh∧ah fr 1=some v∧ah fr 2=some (ptr (2*h.n) 0)∧ah fr 5=some (ptr (2*(h.n+1)) 0)∧ah fr 19=some v∧ah fr 20=some (KN l.length)∧ah fr 21=some (KN i)) l.length
  ⟨0,by omega,Ext.refl _,by simp,by simp,by simp,by simp,by simp,by simp⟩ ?_
 rintro m fr hh ⟨i,him,hE,f1,f2,f5,f19,f20,f21⟩
 have hnn:=hE.n
 simp -dsimp (disch:=try exact dx) only[wpS,wpT,zE,zL,tq,jq,f20,f21]
 refine ax ?_ ?_<;>intro hc2<;>simp only[decide_eq_true_eq,decide_eq_false_iff_not] at hc2
 ·have hi:i<l.length:=by omega
  obtain⟨p,hp⟩ : ∃p,l[i]?=some p:=⟨_,List.getElem?_eq_getElem hi⟩
  have pw:=hv.2.2 p (List.mem_of_getElem? hp)
  have p8:=hp8 p (List.mem_of_getElem? hp)
  simp -dsimp (disch:=try exact dx) only[wpS,wpT,zE,zL,zA,ba,dB,cj,tq,jq,f19,f21,hv.1.idx u7 hi,hv.ld (E0.trans hE).ab hp,aM,aj,ay,aO,aC]
  refine call (kX p pw) ?_
  rintro _ h1 ⟨X1,rfl⟩
  rw[gX p8,if_neg (by omega)]
  obtain⟨z,hz,hz0⟩ : ∃z:Int,(if (p:Int)=0 then (0:Int) else 1)=z ∧ ¬z<0:=⟨_,rfl,by split<;>omega⟩
  rw[hz]
  simp -dsimp (disch:=try exact dx) only[wpS,wpT,zE,zL,tq,jq,f21,hz0,decide_false]
  have m1:=X1.n
  refine⟨m - 1,by omega,i+1,by omega,?_,by simp[f1],by simp[f2],by simp[f5],by simp[f19],by simp[f20],by simp⟩
  exact hE.trans ((((Ext.refl _).new _).put (Nat.le_refl _) _).trans X1)
 ·obtain rfl:i=l.length:=by omega
  simp -dsimp (disch:=try exact dx) only[wpS,wpT,zE,zL,tq,jq,f1]
  obtain⟨H1,hH1⟩ : ∃H,H=(hh.new (.cells [KI 0] 0 none)).put hh.n (.cells [KI 0] 0 none):=⟨_,rfl⟩
  have E1:Ext hh H1:=by rw[hH1];exact((Ext.refl hh).new _).put (Nat.le_refl _) _
  have n1:H1.n=hh.n+1:=by rw[hH1];rfl
  have c9:H1.ext.get hh.n=some (.cells [KI 0] 0 none):=by rw[hH1];simp (disch:=try exact dx) only[ad]
  rw[←hH1]
  clear hH1
  have E01:=(E0.trans hE).trans E1
  have w5:=(hE.trans E1).kept (by omega) c5
  refine call (I2 (h0:=h) (hv.ab E01.ab) (by omega) hp8 E01 (by omega) (by omega) c9) ?_
  rintro _ h2 ⟨X2,⟨a,b,c,rfl⟩,K2,oth,gb⟩
  have kn:=K2.n
  rw[er6] at gb
  have d5:=oth (h.n+1) _ (by omega) (by omega) w5
  simp -dsimp (disch:=try exact dx) only[wpS,wpT,zE,kO,ai gb]
  have Y0:=Ext.refl h2
  have M9:load prog h2 47 (ptr (2*hh.n) 0)=some (KI 6):=by
   have r:=ai gb
   simp -dsimp (disch:=try exact dx) only[wpS,kO,r]
  refine drawn [(1,[5])] (by kernel_rfl) (by kernel_rfl) rfl ?_
  simp -dsimp (disch:=try exact dx) only[wpS,wpT,zE,zL,mh,gH,kO,f5,ai gb,d5]
  have gb':(h2.put (h.n+1) (.cells [.int .u64 0] 0 none)).ext.get hh.n=some (.cells [KI 6] 0 none):=by rw[ae _ _ (by omega)];exact gb
  have M9':load prog (h2.put (h.n+1) (.cells [.int .u64 0] 0 none)) 47 (ptr (2*hh.n) 0)=some (KI 6):=by
   have r:=ai gb'
   simp -dsimp (disch:=try exact dx) only[wpS,kO,r]
  refine⟨ak rfl rfl rfl rfl (aA rfl M9 M9'),?_⟩
  simp -dsimp (disch:=try exact dx) only[wpS,wpT,zE,zL,zA,eH,f5,chV,tk1]
  exact⟨X2.put (by omega) _,rfl⟩
end Go.Id

namespace Go.Id
open Go
theorem I5 {h:IH} {v:Value} {l:List Nat} {s:Nat} (hv:iA h v l) (hl:l.length≤400) (hp8 : ∀p∈l,p<H8) (h0:0<cE l l.length) (hst:s<18446744073709551616) :
  WV Proofs.Tryz.prog (.func (.func 144) #[] #[]) [chV s,v] h fun r h'=>Ext h h'∧r=GD l s:=by
 unfold GD
 split
 ·exact Md hv hl (by assumption) h0 hst
 ·exact I3 hv hl hp8 (by assumption)
end Go.Id

namespace Go.Id
open Go
theorem Kh {p:Nat×Nat} (h:okS p.1 p.2) (h0:0≤wdI p.1):0≤rOf p:=Rat.num_nonneg.1 (by rw[(iH h).1];exact h0)
theorem oI (g:Nat→Rat) (i:Nat) : ∀m,im g i m+fJ ((List.range m).map g)=1+if i<m then g i else 0
 | 0=>by
  rw[im,if_neg (by omega)]
  show(1:Rat)+0=1+0
  rfl
 | m+1=>by
  have ih:=oI g i m
  rw[List.range_succ,List.map_append,List.map_cons,List.map_nil,kV,im]
  by_cases c:m=i
  ·subst c
   rw[if_pos rfl,if_pos (by omega)]
   rw[if_neg (by omega)] at ih
   grind
  ·rw[if_neg c]
   by_cases c2:i<m
   ·rw[if_pos (show i<m+1 by omega)]
    rw[if_pos c2] at ih
    grind
   ·rw[if_neg (show ¬i<m+1 by omega)]
    rw[if_neg c2] at ih
    grind
theorem AZ (g:Nat→Rat) (A:Rat) (i:Nat) : ∀m,fJ ((List.range m).map fun j=>if j=i then A else g j)=fJ ((List.range m).map g)+if i<m then A - g i else 0
 | 0=>by
  rw[if_neg (by omega)]
  exact(Rat.add_zero _).symm
 | m+1=>by
  have ih:=AZ g A i m
  rw[List.range_succ,List.map_append,List.map_append,List.map_cons,List.map_nil,List.map_cons,List.map_nil,kV,kV,ih]
  by_cases c:m=i
  ·subst c
   rw[if_pos rfl,if_pos (show m<m+1 by omega),if_neg (show ¬m<m by omega)]
   grind
  ·rw[if_neg c]
   by_cases c2:i<m
   ·rw[if_pos (show i<m+1 by omega),if_pos c2]
    grind
   ·rw[if_neg (show ¬i<m+1 by omega),if_neg c2]
    grind
theorem tH {g k:Nat→Rat} {i:Nat} : ∀{m:Nat},(∀j,j<m→g j≤k j)→im k i m≤im g i m
 | 0,_=>Rat.le_refl
 | m+1,h=>by
  have ih:=tH (i:=i) (m:=m) fun j hj=>h j (by omega)
  have h1:=h m (by omega)
  rw[im,im]
  split
  ·exact ih
  ·grind
theorem Gl {ll:List (List (Nat×Nat))} (k:fL ll) {i:Nat} (hi:i<ll.length):fJ ((List.range ll.length).map (kAt ll i))=1:=by
 obtain⟨h1,h2⟩:=k.2.2 _ (List.getElem_mem hi)
 rw[←h2.2]
 congr 1
 refine List.ext_getElem? fun j=>?_
 rw[List.getElem?_map,List.getElem?_map]
 by_cases hj:j<ll.length
 ·obtain⟨row,p,e1,e2,e3,_,_,e6⟩:=j5 k hi hj
  rw[List.getElem?_eq_getElem hi] at e1
  cases e1
  rw[List.getElem?_range hj,e3]
  exact congrArg some e6
 ·rw[List.getElem?_eq_none (by simp;omega),List.getElem?_eq_none (by omega)];rfl
theorem Fy {ll:List (List (Nat×Nat))} {t:List Nat} (k:fL ll) (ht:t.length=ll.length) (hp : ∀p∈t,1≤wdI p) (ho:xJ ll t):fL (kB ll t):=by
 have hw : ∀i,i<ll.length→0<kY (t.getD i 0):=fun i hi=>by
  have:=hp _ (List.getElem_mem (show i<t.length by omega))
  rw[List.getD_eq_getElem?_getD,List.getElem?_eq_getElem (by omega),Option.getD_some]
  unfold kY
  exact Rat.intCast_pos.2 (by omega)
 have hk : ∀i j,i<ll.length→j<ll.length→0≤kAt ll i j:=fun i j hi hj=>by
  obtain⟨_,p,_,_,_,e4,e5,e6⟩:=j5 k hi hj
  rw[e6]
  exact Kh e4 e5
 have hg : ∀i j,i<ll.length→j<ll.length→0≤goQ ll t i j∧goQ ll t i j≤kAt ll i j:=fun i j hi hj=>by
  have h1:=hk i j hi hj
  have h2:=hk j i hj hi
  have w1:=hw i hi
  have w2:=hw j hj
  unfold goQ
  split
  ·rename_i c
   refine⟨?_,Rat.le_of_lt c⟩
   rw[Rat.div_def]
   exact Rat.mul_nonneg (Rat.mul_nonneg h2 (Rat.le_of_lt w2)) (Rat.le_of_lt (Rat.inv_pos.2 w1))
  ·exact⟨h1,Rat.le_refl⟩
 have hq : ∀i j,i<ll.length→j<ll.length→0≤oU ll t i j:=fun i j hi hj=>by
  unfold oU
  split
  ·have h1:=tH (i:=i) (m:=ll.length) (g:=goQ ll t i) (k:=kAt ll i) fun j hj=>(hg i j hi hj).2
   have h2:=oI (kAt ll i) i ll.length
   rw[Gl k hi,if_pos hi] at h2
   have h3:=hk i i hi hi
   grind
  ·exact(hg i j hi hj).1
 have hs : ∀i,i<ll.length→fJ (dA ll t i)=1:=fun i hi=>by
  have h1:=AZ (goQ ll t i) (im (goQ ll t i) i ll.length) i ll.length
  have h2:=oI (goQ ll t i) i ll.length
  rw[if_pos hi] at h1 h2
  have e:dA ll t i=(List.range ll.length).map fun j=>if j=i then im (goQ ll t i) i ll.length else goQ ll t i j:=rfl
  rw[e,h1]
  grind
 refine⟨by rw[gh];exact k.1,by rw[gh];exact k.2.1,fun l hl=>?_⟩
 obtain⟨i,hi,rfl⟩:=List.mem_map.1 hl
 have hi:=List.mem_range.1 hi
 have qw:=ho i hi
 refine⟨by rw[List.length_map,eK,gh],fun p hp=>?_,?_⟩
 ·obtain⟨q,hq',rfl⟩:=List.mem_map.1 hp
  have h1:=(rN (qw q hq')).2
  obtain⟨j,hj⟩:=List.getElem?_of_mem hq'
  have hjl:=(List.getElem?_eq_some_iff.1 hj).1
  rw[eK] at hjl
  rw[nu hjl] at hj
  cases hj
  have h2:=hq i j hi hjl
  rintro(c|c)
  ·exact c h1
  ·rw[show wdI (shq (oU ll t i j)).1=(oU ll t i j).num from cK (qw _ hq').1] at c
   have:=Rat.num_nonneg.2 h2
   omega
 ·rw[List.map_map,show((dA ll t i).map (rOf ∘ shq))=dA ll t i from ?_]
  ·exact hs i hi
  ·refine(List.map_congr_left fun q hq'=>(rN (qw q hq')).1).trans (List.map_id _)
end Go.Id

namespace Go.Id
open Go
end Go.Id

namespace Go.Id
open Go
end Go.Id

namespace Go.Id
open Go
theorem Ip (l:List Rat) (a:Rat):l.foldl (· + ·) a=a+fJ l:=by
 induction l generalizing a with
 | nil=>exact(Rat.add_zero a).symm
 | cons b l ih =>
  show l.foldl (· + ·) (a+b)=a+l.foldl (· + ·) (0+b)
  rw[ih,ih,Rat.zero_add,Rat.add_assoc]
theorem tE (q:Rat) (l:List Rat):fJ (q :: l)=q+fJ l:=by
 show l.foldl (· + ·) (0+q)=_
 rw[Ip,Rat.zero_add]
end Go.Id

namespace Go.Id
open Go
open Nat renaming reduceAdd→zA,reduceEqDiff→zE,reduceLeDiff→zL
set_option maxHeartbeats 16000000
noncomputable def oC (l:List Nat) (s:Nat):Nat×Nat×Int:=if cE l l.length<H8 then (match jj (cE l l.length) s with
 | none=>(0,0,9)
 | some p=>(kE l p.1 l.length 0,p.2,0)) else (0,0,6)
theorem Nt (l:List Nat) (s:Nat):GD l s=.tuple #[KN (oC l s).1,chV (oC l s).2.1,KI (oC l s).2.2]:=by
 unfold GD oC GC
 split
 ·cases jj (cE l l.length) s<;>rfl
 ·rfl
noncomputable def mvF (row:List (Nat×Nat)) (s:Nat):Nat×Nat×Int:=open Classical in if Ek row then oC (wL row) s else (0,0,6)
theorem tB {l:List (Nat×Nat)} (h:gJ l) (hw : ∀p∈l,p.1<W8∧p.2<W8):nnR l∧0<cE (wL l) (wL l).length:=by
 have nn:nnR l:=fun p hp=>by
  obtain⟨a,b⟩:=oJ (h.1 p hp)
  obtain⟨h1,h2⟩:=hw p hp
  have hd:1≤wdI p.2:=by have:=a.1;omega
  refine⟨?_,?_⟩
  ·unfold wdI at b
   split at b
   ·assumption
   ·omega
  ·unfold wdI at hd
   split at hd
   ·constructor<;>omega
   ·omega
 refine⟨nn,?_⟩
 apply Classical.byContradiction
 intro hn
 have hz : ∀q∈l,rOf q=0:=fun q hq=>by
  obtain⟨j,hj⟩:=List.getElem?_of_mem hq
  have ht:=Co _ (OJ hj)
  have hp:=xj nn (Nat.le_refl l.length)
  have hd:=KR (List.getElem?_eq_some_iff.1 hj).1 hj (Nat.le_refl _)
  obtain⟨q1,q2,q3⟩:=nn q hq
  have h2:0<jZ l l.length / q.2:=Nat.div_pos (Nat.le_of_dvd hp.1 hd) q2
  have h3:q.1=0:=by
   apply Classical.byContradiction
   intro h0
   have:=Nat.mul_pos (show 0<q.1 by omega) h2
   omega
  have e:=(iH (oJ (h.1 q hq)).1).1
  rw[h3] at e
  have e0:wdI 0=0:=by
   have:=gX jg
   simpa using this
  rw[e0] at e
  exact Rat.num_eq_zero.1 e
 have hs : ∀m:List (Nat×Nat),(∀q∈m,rOf q=0)→fJ (m.map rOf)=0:=fun m=>by
  induction m with
  | nil=>intro _;rfl
  | cons q m ih =>
   intro hm
   rw[List.map_cons,tE,hm q (by simp),ih fun x hx=>hm x (by simp[hx])]
   exact Rat.add_zero 0
 have:=h.2
 rw[hs l hz] at this
 exact absurd this (by decide)
theorem NF {h:IH} {kv:Value} {ll:List (List (Nat×Nat))} {lev x b s:Nat} {row:List (Nat×Nat)} (hv:je h kv ll) (hr:ll[x]?=some row) (hro:gJ row) (hrl:row.length≤60) (hb:b<h.n) (g:h.ext.get b=some (.cells [KN lev,kv,KN x] 0 none)) (hs:s<18446744073709551616) :
  WV Proofs.Tryz.prog (.func (.func 60) #[] #[]) [ptr (2*b) 0,chV s] h fun r h'=>r=.tuple #[chV (mvF row s).2.1,KI (mvF row s).2.2] ∧ ∃h1,Ext h h1∧uc b h1 h'∧((mvF row s).2.2=0→h'.ext.get b=some (.cells [KN lev,kv,KN (mvF row s).1] 0 none)):=by
 obtain⟨H0,hH0⟩ : ∃H,H=(h.new (.cells [K64 s] 0 none)).new (.cells [.int .u64 0] 0 none):=⟨_,rfl⟩
 have n0:H0.n=h.n+2:=by rw[hH0];rfl
 have E0:Ext h H0:=by rw[hH0];exact((Ext.refl h).new _).new _
 have c3:H0.ext.get h.n=some (.cells [K64 s] 0 none):=by rw[hH0];simp (disch:=try exact dx) only[aa,ao]
 have c4:H0.ext.get (h.n+1)=some (.cells [.int .u64 0] 0 none):=by rw[hH0];simp (disch:=try exact dx) only[aa]
 have gb:=E0.kept hb g
 obtain⟨cv,co,hlen⟩:=hv.co
 obtain⟨wr,A1,A2,A3⟩:=hv.nR hr
 have hw : ∀p∈row,p.1<W8∧p.2<W8:=A2.2.2
 obtain⟨nn,sp⟩:=tB hro hw
 refine enter (nt:=42) (rs:=[.cell 4 36,.tmp 5]) Proofs.Tryz.func60 rfl rfl rfl (by simp) ?_
 simp -dsimp (disch:=try exact dx) only[wpS,zE,zA,nW,G4,Og,Qc,pN,ld3,chV,ai gb,←hH0,A3,A1 H0 E0.ab]
 clear hH0
 refine call (Em (A2.ab E0.ab) nn hrl) ?_
 rintro r h1 ⟨X1,q1,q2⟩
 have m1:=X1.n
 have d3:=X1.kept (by omega) c3
 have d4:=X1.kept (by omega) c4
 have db:=X1.kept (by omega) gb
 unfold mvF
 by_cases wf:Ek row
 case neg =>
  obtain rfl:=q2 wf
  rw[if_neg wf]
  simp -dsimp (disch:=try exact dx) only[wpS,wpT,zE,zL,mh,gH,eH,d4,chV,tk1]
  exact⟨rfl,_,(E0.trans X1).put (by omega) _,uc.refl _ _,by simp⟩
 obtain⟨out,rfl,hw2⟩:=q1 wf
 rw[if_pos wf]
 have co1:=hw2.1.cells
 have co2:=hw2.1.cok
 simp -dsimp (disch:=try exact dx) only[wpS,wpT,zE,zL,eH,ai d3,tk1]
 refine call (I5 hw2 (by rw[AQ];omega) wf sp hs) ?_
 rintro _ h2 ⟨X2,rfl⟩
 have m2:=X2.n
 rw[Nt]
 generalize oC (wL row) s=F
 have e4:=X2.kept (by omega) d4
 have eb:=X2.kept (by omega) db
 obtain⟨H3,hH3⟩ : ∃H,H=(h2.new (.cells [.int .u64 0] 0 none)).put h2.n (.cells [K64 F.2.1] 0 none):=⟨_,rfl⟩
 have E3:Ext h2 H3:=by rw[hH3];exact((Ext.refl h2).new _).put (Nat.le_refl _) _
 have n3:H3.n=h2.n+1:=by rw[hH3];rfl
 have k9:H3.ext.get h2.n=some (.cells [K64 F.2.1] 0 none):=by rw[hH3];simp (disch:=try exact dx) only[ad]
 have k4:=E3.kept (by omega) e4
 have kb:=E3.kept (by omega) eb
 obtain⟨H4,hH4⟩ : ∃H,H=H3.put b (.cells [KN lev,kv,KN F.1] 0 none):=⟨_,rfl⟩
 have j9:H4.ext.get h2.n=some (.cells [K64 F.2.1] 0 none):=by rw[hH4,ae _ _ (by omega)];exact k9
 have j4:H4.ext.get (h.n+1)=some (.cells [.int .u64 0] 0 none):=by rw[hH4,ae _ _ (by omega)];exact k4
 have jb:H4.ext.get b=some (.cells [KN lev,kv,KN F.1] 0 none):=by rw[hH4];exact ad _ _ rfl
 have sp3:IH.aD [KN lev,kv,KN x] 2 [KN F.1] = [KN lev,kv,KN F.1]:=rfl
 simp -dsimp (disch:=try exact dx) only[wpS,wpT,zE,zL,zA,nW,pN,gH,eH,st3,chV,tk1,sp3,←hH3,kb,←hH4,ai j9,j4]
 have E13:=(((E0.trans X1).trans X2).trans E3)
 refine⟨H3.put (h.n+1) (.cells [K64 F.2.1] 0 none),E13.put (by omega) _,⟨?_,?_,fun j hj=>?_,?_⟩,fun _=>jb⟩
 ·rw[hH4];rfl
 ·rw[hH4];rfl
 ·rw[hH4];simp only[hH,hj,if_false]
 ·rw[hH4];rfl
end Go.Id

namespace Go.Id
open Go
open Nat renaming reduceAdd→zA,reduceEqDiff→zE,reduceLeDiff→zL
set_option maxHeartbeats 16000000
noncomputable def mM (p:Nat×Nat) (s:Nat):Bool×Nat×Int:=open Classical in if ¬okS p.1 p.2 then (false,0,20) else if wdI p.1<0∨wdI p.2<wdI p.1 then (false,0,2) else match jj p.2 s with
 | none=>(false,0,9)
 | some q=>(decide ((q.1:Int)<wdI p.1),q.2,0)
def Pt (f:Bool×Nat×Int):Value:=.tuple #[.bool f.1,chV f.2.1,KI f.2.2]
theorem Ny {n d:Nat} (h:okS n d):1≤wdI d:=by have:=h.1;omega
theorem NC {d:Nat} (hd:d<W8) (h:1≤wdI d):0<d∧d<H8∧wdI d=(d:Int):=by
 by_cases c:d<H8
 ·have e:wdI d=(d:Int):=gX c
  exact⟨by omega,c,e⟩
 ·exfalso
  unfold wdI at h
  rw[if_neg c] at h
  omega
theorem Mk {h:IH} {p:Nat×Nat} {s:Nat} (h1:p.1<W8) (h2:p.2<W8) (hs:s<18446744073709551616) :
  WV Proofs.Tryz.prog (.func (.func 62) #[] #[]) [chV s,shV p.1 p.2] h fun r h'=>Ext h h'∧r=Pt (mM p s):=by
 obtain⟨H0,hH0⟩ : ∃H,H=((h.new (.cells [K64 s] 0 none)).new (.cells (shC p.1 p.2) 0 none)).new (.cells [.int .u64 0] 0 none):=⟨_,rfl⟩
 have n0:H0.n=h.n+3:=by rw[hH0];rfl
 have E0:Ext h H0:=by rw[hH0];exact(((Ext.refl h).new _).new _).new _
 have c2:H0.ext.get h.n=some (.cells [K64 s] 0 none):=by rw[hH0];simp (disch:=try exact dx) only[aa,ao]
 have c3:H0.ext.get (h.n+1)=some (.cells (shC p.1 p.2) 0 none):=by rw[hH0];simp (disch:=try exact dx) only[aa,ao]
 have c5:H0.ext.get (h.n+2)=some (.cells [.int .u64 0] 0 none):=by rw[hH0];simp (disch:=try exact dx) only[aa]
 have tA:List.take 8 (shC p.1 p.2)=wdC p.1:=by rw[←gU p.1 p.2,List.drop_zero]
 refine enter (nt:=48) (rs:=[.tmp 4,.cell 5 36,.tmp 6]) Proofs.Tryz.func62 rfl rfl rfl (by simp) ?_
 simp -dsimp (disch:=try exact dx) only[wpS,zE,zA,nW,fE,chV,aV]
 rw[←hH0]
 clear hH0
 simp -dsimp (disch:=try exact dx) only[wpS,zE,zL,aH,bN]
 refine call (qG p.1 p.2 h1 h2) ?_
 rintro _ k1 ⟨X1,rfl⟩
 have m1:=X1.n
 have d5:=X1.kept (by omega) c5
 unfold mM
 by_cases ok:okS p.1 p.2
 case neg =>
  rw[if_neg ok,if_pos ok]
  simp -dsimp (disch:=try exact dx) only[wpS,wpT,zE,zL,mh,gH,eH,d5,tk1]
  exact⟨(E0.trans X1).put (by omega) _,rfl⟩
 rw[if_pos ok,if_neg (fun h=>h ok)]
 have d3:=X1.kept (by omega) c3
 simp -dsimp (disch:=try exact dx) only[wpS,wpT,zE,zL,qW,ba,ai d3,aH,gU]
 refine call (kX p.1 h1) ?_
 rintro _ k2 ⟨X2,rfl⟩
 have m2:=X2.n
 have e5:=X2.kept (by omega) d5
 have e3:=X2.kept (by omega) d3
 have e2:=(X1.trans X2).kept (by omega) c2
 have A2:=(E0.trans X1).trans X2
 by_cases neg:wdI p.1<0
 ·rw[if_pos neg,if_pos (.inl neg)]
  simp -dsimp (disch:=try exact dx) only[wpS,wpT,zE,zL,mh,gH,eH,e5,tk1]
  exact⟨A2.put (by omega) _,rfl⟩
 obtain⟨z,hz,hz0⟩ : ∃z:Int,(if wdI p.1=0 then (0:Int) else 1)=z ∧ ¬z<0:=⟨_,rfl,by split<;>omega⟩
 rw[if_neg neg,hz]
 simp -dsimp (disch:=try exact dx) only[wpS,wpT,zE,zL,zA,qW,ba,qV,ai e3,aH,gU,iT,hz0,decide_false]
 refine call (vT p.1 p.2 h1 h2) ?_
 rintro _ k3 ⟨X3,rfl⟩
 have m3:=X3.n
 have f5:=X3.kept (by omega) e5
 have f3:=X3.kept (by omega) e3
 have f2:=X3.kept (by omega) e2
 have A3:=A2.trans X3
 by_cases big:wdI p.2<wdI p.1
 ·rw[if_neg (by omega),if_neg (by omega),if_pos (.inr big)]
  simp -dsimp (disch:=try exact dx) only[wpS,wpT,zE,zL,mh,gH,eH,f5,tk1]
  exact⟨A3.put (by omega) _,rfl⟩
 obtain⟨z2,hz2,Ul⟩ : ∃z:Int,(if wdI p.1<wdI p.2 then (-1:Int) else if wdI p.1=wdI p.2 then 0 else 1)=z ∧ ¬0<z:=⟨_,rfl,by
  by_cases c1:wdI p.1<wdI p.2
  ·rw[if_pos c1];omega
  ·rw[if_neg c1,if_pos (by omega)];omega⟩
 rw[hz2,if_neg (show ¬(wdI p.1<0∨wdI p.2<wdI p.1) by omega)]
 obtain⟨p0,pH,pe⟩:=NC h2 (Ny ok)
 simp -dsimp (disch:=try exact dx) only[wpS,wpT,zE,zL,zA,ba,qV,eH,ai f2,ai f3,aH,iT,Ul,decide_false,tk1]
 refine call (Ak h2 hs) ?_
 rintro _ k4 ⟨X4,rfl⟩
 have m4:=X4.n
 rw[y7 p0 pH]
 have A4:=A3.trans X4
 have g5:=X4.kept (by omega) f5
 have g3:=X4.kept (by omega) f3
 rcases hd:jj p.2 s with _|⟨u,t⟩
 ·simp -dsimp (disch:=try exact dx) only[wpS,wpT,zE,zL,zA,nW,mh,gH,eH,dB,cj,g5,chV,tk1,aM,aj,ay,aO]
  exact⟨(((((A4.new _).new _).put (by omega) _).put (by omega) _).put (by omega) _),rfl⟩
 obtain⟨hu,ht⟩:=oV p0 hs hd
 obtain⟨H5,hH5⟩ : ∃H,H=(((k4.new (.cells [ZW,ZW,ZW,ZW,ZW,ZW,ZW,ZW] 0 none)).new (.cells [.int .u64 0] 0 none)).put k4.n (.cells (wdC u) 0 none)).put (k4.n+1) (.cells [K64 t] 0 none):=⟨_,rfl⟩
 have E5:Ext k4 H5:=by rw[hH5];exact((((Ext.refl k4).new _).new _).put (by omega) _).put (by omega) _
 have n5:H5.n=k4.n+2:=by rw[hH5];rfl
 have q8:H5.ext.get k4.n=some (.cells (wdC u) 0 none):=by rw[hH5];simp (disch:=try exact dx) only[ad,ae]
 have q9:H5.ext.get (k4.n+1)=some (.cells [K64 t] 0 none):=by rw[hH5];simp (disch:=try exact dx) only[ad]
 have q5:=E5.kept (by omega) g5
 have q3:=E5.kept (by omega) g3
 simp -dsimp (disch:=try exact dx) only[wpS,wpT,zE,zL,zA,nW,gH,dB,cj,chV,aM,aj,ay,aO,←hH5]
 clear hH5
 refine drawn [(5,[3])] (by kernel_rfl) (by kernel_rfl) rfl ?_
 simp -dsimp (disch:=try exact dx) only[wpS,zE,zL,qW,ba,ai q8,ai q3,aj,aC,aH,gU]
 refine call (vT u p.1 (by have:=bV;omega) h1) ?_
 rintro _ k6 ⟨X6,rfl⟩
 have m6:=X6.n
 have u8:wdI u=(u:Int):=gX (by omega)
 have r5:=X6.kept (by omega) q5
 have r9:=X6.kept (by omega) q9
 have hb:decide ((if wdI u<wdI p.1 then (-1:Int) else if wdI u=wdI p.1 then 0 else 1)<0)=decide ((u:Int)<wdI p.1):=by
  rw[u8]
  by_cases c1:(u:Int)<wdI p.1
  ·rw[if_pos c1,decide_eq_true c1];rfl
  ·rw[if_neg c1,decide_eq_false c1]
   split<;>rfl
 simp -dsimp (disch:=try exact dx) only[wpS,wpT,zE,zL,gH,eH,ai r9,r5,hb,tk1]
 refine⟨ak rfl rfl rfl rfl (aA rfl (qj r9) (qj q9)),?_⟩
 simp -dsimp (disch:=try exact dx) only[wpS,wpT,zE,zL,zA,eH,tk1]
 exact⟨((A4.trans E5).trans X6).put (by omega) _,rfl⟩
end Go.Id

namespace Go.Id
open Go
end Go.Id

namespace Go.Id
open Go
end Go.Id

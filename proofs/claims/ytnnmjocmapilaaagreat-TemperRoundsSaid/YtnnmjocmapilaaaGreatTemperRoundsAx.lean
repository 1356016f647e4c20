/-
  Contracts: package chance: Pick, for weights whose sum is too great.
-/
import Derived.Test.YtnnmjocmapilaaaGreatTemperRoundsAw
set_option linter.unusedVariables false
set_option linter.unusedSimpArgs false
set_option linter.defProp false
set_option linter.deprecated false
namespace Go.Id
open Go
open Go renaming Operand→QY,Program→QX,TypeId→QZ,Value→QQ
open Nat renaming reduceAdd→zA,reduceEqDiff→zE,reduceLeDiff→zL
open Nat (reduceMul)
set_option maxHeartbeats 16000000
open Go.Proofs.Tryz (prog)
section
def rh (l:List Nat):Nat→Nat
 | 0=>0
 | i+1=>if rh l i+l.getD i 0<H8 then rh l i+l.getD i 0 else 0
def y8 (l:List Nat):Nat→Int
 | 0=>0
 | i+1=>if rh l i+l.getD i 0<H8 then y8 l i else 6
def TN (l:List Nat) : ∀i,rh l i<H8
 | 0=>lE
 | i+1=>by
  rw[rh];split;·assumption
  ·exact lE
def FF (l:List Nat) : ∀i,y8 l i=0→rh l i=du l i∧du l i<H8
 | 0,_=>⟨rfl,lE⟩
 | i+1,h=>by
  rw[y8] at h;split at h;·rename_i c;obtain⟨a,b⟩:=FF l i h;rw[rh,aq c,du,a];rw[a] at c;exact⟨rfl,c⟩
  ·omega
def JB (l:List Nat) : ∀i,y8 l i=0∨y8 l i=6
 | 0=>.inl rfl
 | i+1=>by
  rw[y8];split;·exact JB l i
  ·exact .inr rfl
def yl (l:List Nat) (i:Nat):List Nat:=(List.range i).map fun j=>rh l (j+1)
theorem Ox (l:List Nat) (i:Nat):(yl l i).length=i:=by simp[yl]
theorem KF (l:List Nat) (i:Nat):yl l (i+1)=yl l i ++ [rh l (i+1)]:=by simp[yl,sM]
variable {h:IH}{b:Nat}
def Pv {e:Int} (x y:Nat) (h1:x<H8) (h2:y<H8) (hb:b<h.n) (g:h.ext.get b=some (.cells [KI e] 0 none)) :WV prog (.func (.func 211) #[] #[ptr (2*b) 0]) [wdV x,wdV y] h fun r h2=>r=wdV (if x+y<H8 then x+y else 0)∧h2.ext.get b=some (.cells [KI (if x+y<H8 then e else 6)] 0 none) ∧ ∃h',Ext h h'∧qD b h' h2:=by
 refine enter (nt:=18) (rs:=[.cell 5 30]) Proofs.Tryz.func211 rfl rfl rfl ab ?_;simp -dsimp (disch:=try exact dx) only[wpS,zE,zL,zA,fa,bY,bA,aD,aY];obtain⟨H0,hH0,n0,E0,k0,k1,k2⟩:=jC h (wdC x) (wdC y) [ZW,ZW,ZW,ZW,ZW,ZW,ZW,ZW];rw[←hH0];clear hH0;refine call (Ib x y h1 h2) ?_;rintro _ h1 ⟨X1,rfl⟩;have m1:=X1.n;have g2:=X1.kept aa k2;have gb:=(E0.trans X1).kept hb g;by_cases hs:x+y<H8
 ·rw[aq hs,aq hs,aq hs];obtain⟨H1,hH1⟩ : ∃H,H=(h1.new (.cells [ZW,ZW,ZW,ZW,ZW,ZW,ZW,ZW] 0 none)).put h1.n (.cells (wdC (x+y)) 0 none):=⟨_,rfl⟩;have E1:Ext h1 H1:=by rw[hH1];exact((Ext.refl h1).new _).put (aA _) _
  have c1:H1.ext.get h1.n=some (.cells (wdC (x+y)) 0 none):=by rw[hH1];simp (disch:=try exact dx) only[aj]
  have c2:=E1.kept aa g2;have cb:=E1.kept aa gb;have nn1:H1.n=h1.n+1:=by rw[hH1];rfl
  simp -dsimp (disch:=try exact dx) only[wpS,wpT,zE,zL,zA,fa,bY,dw,bA,aD,aW,bD];rw[←hH1];clear hH1;simp -dsimp (disch:=try exact dx) only[wpS,wpT,zE,zL,zA,bY,g2,aD,aW,bD,aY];exact⟨rfl,cb,_,((E0.trans X1).trans E1).put aa _,qD.refl _ _⟩
 ·rw[ah hs,ah hs,ah hs];obtain⟨H1,hH1⟩ : ∃H,H=(h1.new (.cells [ZW,ZW,ZW,ZW,ZW,ZW,ZW,ZW] 0 none)).put h1.n (.cells (wdC 0) 0 none):=⟨_,rfl⟩;have E1:Ext h1 H1:=by rw[hH1];exact((Ext.refl h1).new _).put (aA _) _
  have c1:H1.ext.get h1.n=some (.cells (wdC 0) 0 none):=by rw[hH1];simp (disch:=try exact dx) only[aj]
  have c2:=E1.kept aa g2;have cb:=E1.kept aa gb;have nn1:H1.n=h1.n+1:=by rw[hH1];rfl
  simp -dsimp (disch:=try exact dx) only[wpS,wpT,zE,zL,zA,fa,dw,nS,bA,aD,aW,bD];rw[←hH1];clear hH1;have c1':(H1.put b (.cells [KI 6] 0 none)).ext.get h1.n=some (.cells (wdC 0) 0 none):=by rw[au _ _ aa];exact c1
  have c2':(H1.put b (.cells [KI 6] 0 none)).ext.get (h.n+2)=some (.cells [ZW,ZW,ZW,ZW,ZW,ZW,ZW,ZW] 0 none):=by rw[au _ _ aa];exact c2
  simp -dsimp (disch:=try exact dx) only[wpS,wpT,zE,zL,zA,bY,dw,gb,ay c1',c2',aD,aW,bD,aY];refine⟨rfl,H1.put (h.n+2) (.cells (wdC 0) 0 none),((E0.trans X1).trans E1).put aa _,rfl,rfl,fun j hj=>?_,rfl⟩;simp only[lZ,hj,cE]
variable {f:Option Nat}{v:QQ}{c:List QQ}{h':IH}
def Acc.Yx {n0 sz:Nat} {n:Nat} {cs:List QQ} (a:Acc h n0 sz v n cs) (s:qD b h h') (hk:h.ext.get b=some (.cells c 0 f)):Acc h' n0 sz v n cs:=by
 obtain⟨hz,hl,a|⟨j,fam,rfl,hn,h1,h2,h3,h4⟩⟩:=a;·exact⟨hz,hl,.inl a⟩
 ·refine⟨hz,hl,.inr ⟨j,fam,rfl,hn,h1,by rw[s.1];exact h2,?_,?_⟩⟩
  ·rw[s.2.2.1 j]
   ·exact h3
   ·rintro rfl;rw[hk] at h3;cases h3;omega
  ·cases fam with
   | none=>trivial
   | some f =>
    obtain⟨a1,a2,rest,a3,a4⟩:=h4;exact⟨a1,by rw[s.1];exact a2,rest,by rw[s.2.2.2];exact a3,fun j hj=>⟨(a4 j hj).1,by rw[s.1];exact(a4 j hj).2⟩⟩
def qD.ai (s:qD b h h') (hb:h.ext.get b=some (.cells c 0 f)):bj h h' :=
 ⟨by rw[s.1];exact aA _,s.2.1,fun k c' e f' hk hg he=>⟨f',by rw[s.2.2.1 k (by rintro rfl;rw[hb] at hg;cases hg;exact he rfl)];exact hg⟩⟩
variable {l:List Nat}
def Pt {h0:IH} (hv:iQ h v l) (hl:l.length≤1000) (hp8 : ∀p∈l,p<H8) (E:Ext h0 h) (hb:h0.n≤b) (hbn:b<h.n) (g:h.ext.get b=some (.cells [KI 0] 0 none)) :WV prog (.func (.func 210) #[] #[]) [v,.func (.func 211) #[] #[ptr (2*b) 0]] h fun r h'=>Ext h0 h'∧(∃a b c,r=.slice a b c)∧bj h h'∧(∀(k:Nat) c,k<h.n→k≠b→h.ext.get k=some (.cells c 0 none)→h'.ext.get k=some (.cells c 0 none))∧h'.ext.get b=some (.cells [KI (y8 l l.length)] 0 none):=by
 refine enter (nt:=25) (rs:=[.tmp 4]) Proofs.Tryz.func210 rfl rfl rfl ab ?_;simp -dsimp (disch:=try exact dx) only[wpS,zE,zA,fa,hv.1.len rJ];refine loop (fun m fr hh => ∃(i:Nat) (out:QQ),i+m=l.length∧Ext h0 hh∧bj h hh∧h.n<hh.n∧(∃a b c,out=.slice a b c)∧Acc hh h.n 8 out (yl l i).length (wiL (yl l i))∧hh.ext.get h.n=some (.cells (wdC (rh l i)) 0 none)∧hh.ext.get b=some (.cells [KI (y8 l i)] 0 none)∧(∀(k:Nat) c,k<h.n→k≠b→h.ext.get k=some (.cells c 0 none)→hh.ext.get k=some (.cells c 0 none))∧ax fr 1=some (.func (.func 211) #[] #[ptr (2*b) 0])∧ax fr 5=some out∧ax fr 6=some (ptr (2*h.n) 0)∧ax fr 9=some v∧ax fr 10=some (KN l.length)∧ax fr 11=some (KN i)) l.length ⟨0,.slice none 0 0,aa,E.trans ((Ext.refl _).new _),(bj.refl h).new _,ab,⟨_,_,_,rfl⟩,Acc.nil _ _ aa,by rw[rh,lJ];simp (disch:=try exact dx) only[ar],by rw[y8,aE _ _ aa];exact g,fun k c hk _ hg=>by rw[aE _ _ aa];exact hg,ab,ab,ab,ab,ab,ab⟩ ?_;rintro m fr hh ⟨i,out,him,hE,hK,hn,hO,hA,g6,gb,oth,f1,f5,f6,f9,f10,f11⟩;simp -dsimp (disch:=try exact dx) only[wpS,f10,f11];refine aG ?_ ?_<;>intro hc<;>simp only[aS,aV] at hc
 ·have hi:i<l.length:=aa;obtain⟨p,hp⟩ : ∃p,l[i]?=some p:=⟨_,aK hi⟩;have p8:=hp8 p (bh hp);have gp:l.getD i 0=p:=by rw[bH,hp];rfl
  simp -dsimp (disch:=try exact dx) only[wpS,wpT,zE,zL,zA,fa,dw,f1,f9,f11,hv.1.idx qE hi,hv.ld hK hp,bA,aD,aW,bD];obtain⟨H0,hH0⟩ : ∃H,H=(hh.new (.cells [ZW,ZW,ZW,ZW,ZW,ZW,ZW,ZW] 0 none)).put hh.n (.cells (wdC p) 0 none):=⟨_,rfl⟩;have E0:Ext hh H0:=by rw[hH0];exact((Ext.refl hh).new _).put (aA _) _
  have n0:H0.n=hh.n+1:=by rw[hH0];rfl
  have k6:=E0.kept hn g6;have kb:=E0.kept aa gb;have x0:H0.ext.get hh.n=some (.cells (wdC p) 0 none):=by rw[hH0];simp (disch:=try exact dx) only[aj]
  rw[←hH0];clear hH0;simp -dsimp (disch:=try exact dx) only[wpS,zE,zL,bY,f6,ay k6,ay x0,aD,aY];refine call (Pv (rh l i) p (TN l i) p8 aa kb) ?_;rintro _ h1 ⟨rfl,gb1,h',X1,S1⟩;have es:(if rh l i+p<H8 then rh l i+p else 0)=rh l (i+1):=by rw[rh,gp]
  have ee:(if rh l i+p<H8 then y8 l i else 6)=y8 l (i+1):=by rw[y8,gp]
  rw[es];rw[ee] at gb1;have m1:=X1.n;have s1:=S1.1;have kb':=X1.kept aa kb;have E1:=E0.trans X1;have a6:=(S1.2.2.1 h.n aa).trans (X1.kept aa k6);have A1:=(hA.ext E1).Yx S1 kb';have K1:=(hK.trans E1.ai).trans (S1.ai kb');have F1:=S1.ext (hE.trans E1) hb;obtain⟨H1,hH1⟩ : ∃H,H=h1.put h.n (.cells (wdC (rh l (i+1))) 0 none):=⟨_,rfl⟩;have E2:Ext h0 H1:=by rw[hH1];exact F1.put aa _
  have n1:H1.n=h1.n:=by rw[hH1];rfl
  have k1:H1.ext.get h.n=some (.cells (wdC (rh l (i+1))) 0 none):=by rw[hH1];simp (disch:=try exact dx) only[aj]
  have kb1:H1.ext.get b=some (.cells [KI (y8 l (i+1))] 0 none):=by rw[hH1,au _ _ aa];exact gb1
  have hA1:Acc H1 h.n 8 out (yl l i).length (wiL (yl l i)):=by rw[hH1];exact A1.put a6 _
  have K2:bj h H1:=by rw[hH1];exact K1.put a6 _
  have oth1 : ∀(k:Nat) c,k<h.n→k≠b→h.ext.get k=some (.cells c 0 none)→H1.ext.get k=some (.cells c 0 none):=fun k c hk hkb hg=>by rw[hH1,au _ _ aa,S1.2.2.1 k hkb];exact E1.kept aa (oth k c hk hkb hg)
  simp -dsimp (disch:=try exact dx) only[wpS,wpT,zE,zL,dw,f6,a6,bA,aD,aW,sW];rw[←hH1];clear hH1;obtain⟨cV,h8,hap,hA8,hG8,hE8⟩:=hA1.qC (P:=prog) (t:=42) HL (m:=1) (new:=wdC (rh l (i+1))) aa (by rw[aD]) (aW _) (by rw[Ox];omega) aa E2 aa;have lD:append prog (H1.new (.cells (wdC (rh l (i+1))) 8 none)) 42 out (.slice (some ⟨2*H1.n,0,none⟩) 1 3)=some (cV,h8):=hap;simp -dsimp (disch:=try exact dx) only[wpS,wpT,zE,zL,zA,bY,HG,pM,f5,f6,f11,ay k1,aD,bD,aY,lD];refine⟨m - 1,aa,i+1,cV,aa,hE8,K2.trans hG8.ai,cB aa hG8.n,?_,?_,hG8.var aa k1,hG8.var aa kb1,fun k c hk hkb hg=>hG8.var aa (oth1 k c hk hkb hg),by simp[f1],ab,by simp[f6],by simp[f9],by simp[f10],ab⟩
  ·obtain⟨_,_,o|⟨k',_,o,_⟩⟩:=hA8
   ·exact⟨_,_,_,o.1⟩
   ·exact⟨_,_,_,o⟩
  ·rw[KF,mQ,dG];exact hA8
 ·obtain rfl:i=l.length:=aa;simp -dsimp (disch:=try exact dx) only[wpS,wpT,zE,f5];exact⟨hE,hO,hK,oth,gb⟩
noncomputable def Fl (l:List Nat) (s:Nat):QQ:=if du l l.length<H8 then Fk l s else .tuple #[KI 0,chV 0,KI 6]
def Pu {s:Nat} (hv:iQ h v l) (hl:l.length≤400) (hp8 : ∀p∈l,p<H8) (hs : ¬du l l.length<H8) :WV prog (.func (.func 125) #[] #[]) [chV s,v] h fun r h'=>Ext h h'∧r=.tuple #[KI 0,chV 0,KI 6]:=by
 obtain⟨H0,hH0⟩ : ∃H,H=(h.new (.cells [K64 s] 0 none)).new (.cells [.int .u64 0] 0 none):=⟨_,rfl⟩;have n0:H0.n=h.n+2:=by rw[hH0];rfl
 have E0:Ext h H0:=by rw[hH0];exact((Ext.refl h).new _).new _
 have c5:H0.ext.get (h.n+1)=some (.cells [.int .u64 0] 0 none):=by rw[hH0];simp (disch:=try exact dx) only[ar]
 have vc:=hv.1.cells;have vo:=hv.1.cok
 have er6:y8 l l.length=6:=by
  rcases JB l l.length with c|c;·exact absurd (FF l _ c).2 hs
  ·exact c
 refine enter (nt:=78) (rs:=[.tmp 4,.cell 5 36,.tmp 6]) Proofs.Tryz.func125 rfl rfl rfl ab ?_;simp -dsimp (disch:=try exact dx) only[wpS,zE,zA,lz,chV];rw[←hH0];clear hH0;have hlen:=hv.1.len rJ (P:=prog);simp -dsimp (disch:=try exact dx) only[wpS,wpT,zE,zL,zI,nS,hlen];refine loop (fun m fr hh => ∃(i:Nat),i+m=l.length∧Ext H0 hh∧ax fr 1=some v∧ax fr 2=some (ptr (2*h.n) 0)∧ax fr 5=some (ptr (2*(h.n+1)) 0)∧ax fr 19=some v∧ax fr 20=some (KN l.length)∧ax fr 21=some (KN i)) l.length ⟨0,aa,Ext.refl _,ab,ab,ab,ab,ab,ab⟩ ?_;rintro m fr hh ⟨i,him,hE,f1,f2,f5,f19,f20,f21⟩;have hnn:=hE.n;simp -dsimp (disch:=try exact dx) only[wpS,wpT,zE,zL,zI,nS,f20,f21];refine aG ?_ ?_<;>intro hc2<;>simp only[aS,aV] at hc2
 ·have hi:i<l.length:=aa;obtain⟨p,hp⟩ : ∃p,l[i]?=some p:=⟨_,aK hi⟩;have pw:=hv.2.2 p (bh hp);have p8:=hp8 p (bh hp);simp -dsimp (disch:=try exact dx) only[wpS,wpT,zE,zL,zA,bY,fa,dw,zI,nS,f19,f21,hv.1.idx qE hi,hv.ld (E0.trans hE).ai hp,bA,aD,aW,bD,aY];refine call (pZ p pw) ?_;rintro _ h1 ⟨X1,rfl⟩;rw[gU p8,ah aa];obtain⟨z,hz,hz0⟩ : ∃z:Int,(if (p:Int)=0 then (0:Int) else 1)=z ∧ ¬z<0:=⟨_,rfl,by split<;>omega⟩;rw[hz];simp -dsimp (disch:=try exact dx) only[wpS,wpT,zE,zL,zI,nS,f21,hz0,nC];have m1:=X1.n;refine⟨m - 1,aa,i+1,aa,?_,by simp[f1],by simp[f2],by simp[f5],by simp[f19],by simp[f20],ab⟩;exact hE.trans ((((Ext.refl _).new _).put (aA _) _).trans X1)
 ·obtain rfl:i=l.length:=aa;simp -dsimp (disch:=try exact dx) only[wpS,wpT,zE,zL,zI,nS,f1];obtain⟨H1,hH1⟩ : ∃H,H=(hh.new (.cells [KI 0] 0 none)).put hh.n (.cells [KI 0] 0 none):=⟨_,rfl⟩;have E1:Ext hh H1:=by rw[hH1];exact((Ext.refl hh).new _).put (aA _) _
  have n1:H1.n=hh.n+1:=by rw[hH1];rfl
  have c9:H1.ext.get hh.n=some (.cells [KI 0] 0 none):=by rw[hH1];simp (disch:=try exact dx) only[aj]
  rw[←hH1];clear hH1;have E01:=(E0.trans hE).trans E1;have w5:=(hE.trans E1).kept aa c5;refine call (Pt (h0:=h) (hv.ai E01.ai) aa hp8 E01 aa aa c9) ?_;rintro _ h2 ⟨X2,⟨a,b,c,rfl⟩,K2,oth,gb⟩;have kn:=K2.n;rw[er6] at gb;have d5:=oth (h.n+1) _ aa aa w5;simp -dsimp (disch:=try exact dx) only[wpS,wpT,zE,pG,ay gb];have Y0:=Ext.refl h2;have M9:load prog h2 47 (ptr (2*hh.n) 0)=some (KI 6):=by have r:=ay gb;simp -dsimp (disch:=try exact dx) only[wpS,pG,r]
  refine drawn [(1,[5])] ae ae rfl ?_;simp -dsimp (disch:=try exact dx) only[wpS,wpT,zE,zL,fw,dX,pG,f5,ay gb,d5];have gb':(h2.put (h.n+1) (.cells [.int .u64 0] 0 none)).ext.get hh.n=some (.cells [KI 6] 0 none):=by rw[au _ _ aa];exact gb
  have M9':load prog (h2.put (h.n+1) (.cells [.int .u64 0] 0 none)) 47 (ptr (2*hh.n) 0)=some (KI 6):=by have r:=ay gb';simp -dsimp (disch:=try exact dx) only[wpS,pG,r]
  refine⟨az rfl rfl rfl rfl (aO rfl M9 M9'),?_⟩;simp -dsimp (disch:=try exact dx) only[wpS,wpT,zE,zL,zA,cP,f5,chV,tk1];exact⟨X2.put aa _,rfl⟩
end
section
def Ri {i H k m:Nat} (hH:H=2 ^ k) (hi:i≤512) (hm:9+k≤m):i*H≤2 ^ m:=by rw[hH];refine bV (dU _ (show i≤2 ^ 9 from hi)) ?_;rw[←dT];exact vD hm
variable {h:IH}{v:Value}{s:Nat}{l:List Nat}
set_option maxRecDepth 100000 in
def KY (hv:iQ h v l) (hl:l.length≤400) (hp8 : ∀p∈l,p<H8) (hs : ¬du l l.length<H8) :WV prog (.func (.func 57) #[] #[]) [chV s,v] h fun r h'=>Ext h h'∧r=.tuple #[KI 0,chV 0,KI 6]:=by
 have sb : ∀i,i≤l.length→jd ((du l i:Nat):Int):=fun i hi=>by have h1:=Wz (b:=H8) (fun x hx=>kF (hp8 x hx)) hi;have h2:i*H8≤2 ^ 600:=Ri (k:=511) (m:=600) AA aa aa;exact qd (k:=600) aa aa
 obtain⟨H0,hH0⟩ : ∃H,H=(h.new (.cells [K64 s] 0 none)).new (.cells [.int .u64 0] 0 none):=⟨_,rfl⟩;have n0:H0.n=h.n+2:=by rw[hH0];rfl
 have E0:Ext h H0:=by rw[hH0];exact((Ext.refl h).new _).new _
 have c2:H0.ext.get h.n=some (.cells [K64 s] 0 none):=by rw[hH0];simp (disch:=try exact dx) only[ar,aE]
 have c5:H0.ext.get (h.n+1)=some (.cells [.int .u64 0] 0 none):=by rw[hH0];simp (disch:=try exact dx) only[ar]
 have hlen:=hv.1.len rJ (P:=prog);have pl : ∀(i p:Nat),l[i]?=some p→p<W8∧wdI p=(p:Int):=fun i p hp=>by exact⟨hv.2.2 p (bh hp),gU (hp8 p (bh hp))⟩
 refine enter (nt:=91) (rs:=[.tmp 4,.cell 5 36,.tmp 6]) Proofs.Tryz.func57 rfl rfl rfl ab ?_;simp -dsimp (disch:=try exact dx) only[wpS,wpT,zE,zL,zA,lz,nA,ff,cZ,chV,hlen];rw[←hH0];clear hH0;refine loop (fun m fr hh => ∃(i:Nat),i+m=l.length∧Ext H0 hh∧ax fr 1=some v∧ax fr 2=some (ptr (2*h.n) 0)∧ax fr 5=some (ptr (2*(h.n+1)) 0)∧ax fr 7=some (KN i)) l.length ⟨0,aa,Ext.refl _,ab,ab,ab,ab⟩ ?_;rintro m fr hh ⟨i,him,hE,f1,f2,f5,f7⟩;simp -dsimp (disch:=try exact dx) only[wpS,wpT,zE,zL,zA,nA,ff,cZ,f1,f7,hlen];refine aG ?_ ?_<;>intro hc2<;>simp only[aS,aV] at hc2
 ·have hi:i<l.length:=aa;obtain⟨p,hp⟩ : ∃p,l[i]?=some p:=⟨_,aK hi⟩;obtain⟨pw,pi⟩:=pl i p hp;simp -dsimp (disch:=try exact dx) only[wpS,wpT,zE,zL,zA,nA,ff,cZ,f1,f7,hv.1.idx qE hi,hv.ld (E0.trans hE).ai hp];refine call (uE p pw) ?_;rintro _ h1 ⟨X1,rfl⟩;rw[pi,ah aa];obtain⟨z,hz,hz0⟩ : ∃z:Int,(if 0<(p:Int) then (1:Int) else 0)=z ∧ ¬z<0:=⟨_,rfl,by split<;>omega⟩;rw[hz];simp -dsimp (disch:=try exact dx) only[wpS,wpT,zE,zL,zA,nA,ff,cZ,f7,hz0,nC];exact⟨m - 1,aa,i+1,aa,hE.trans X1,by simp[f1],by simp[f2],by simp[f5],ab⟩
 obtain rfl:i=l.length:=aa;simp -dsimp (disch:=try exact dx) only[wpS,wpT,zE,zL,zA,nA,ff,cZ];obtain⟨H1,hH1⟩ : ∃H,H=(hh.new (.cells ZL 0 none)).put hh.n (.cells [.bool false,.slice none 0 0] 0 none):=⟨_,rfl⟩;have E1:Ext hh H1:=by rw[hH1];exact((Ext.refl hh).new _).put (aA _) _
 have n1:H1.n=hh.n+1:=by rw[hH1];rfl
 have g8:H1.ext.get hh.n=some (.cells [.bool false,.slice none 0 0] 0 none):=by rw[hH1];simp (disch:=try exact dx) only[aj]
 have nE:=hE.n;rw[←hH1];clear hH1;have A1:=hE.trans E1;refine loop (fun m fr H => ∃(i:Nat) (sS:Value),i+m=l.length∧Ext H0 H∧hh.n<H.n∧H.ext.get hh.n=some (.cells [.bool false,sS] 0 none)∧bP H (.agg #[.bool false,sS]) ((du l i:Nat):Int)∧ax fr 1=some v∧ax fr 2=some (ptr (2*h.n) 0)∧ax fr 5=some (ptr (2*(h.n+1)) 0)∧ax fr 8=some (ptr (2*hh.n) 0)∧ax fr 9=some (KN i)) l.length ⟨0,.slice none 0 0,aa,A1,aa,g8,vI _,by simp[f1],by simp[f2],by simp[f5],ab,ab⟩ ?_;clear f1 f2 f5 f7 g8;rintro m fr H ⟨i,sS,him,hE2,lH,g8,pS,f1,f2,f5,f8,f9⟩;simp -dsimp (disch:=try exact dx) only[wpS,zE,f1,f9,hlen];refine aG ?_ ?_<;>intro hc3<;>simp only[aS,aV] at hc3
 ·have hi:i<l.length:=aa;obtain⟨p,hp⟩ : ∃p,l[i]?=some p:=⟨_,aK hi⟩;obtain⟨pw,pi⟩:=pl i p hp;have L8:=Le g8;have X0:=Ext.refl H;simp -dsimp (disch:=try exact dx) only[wpS,wpT];refine drawn [(0,[6])] ae ae rfl ?_;simp -dsimp (disch:=try exact dx) only[wpS,wpT,zE,zL,zA,cj,f1,f8,f9,ay g8,mI,hv.1.idx qE hi,hv.ld (E0.trans hE2).ai hp];refine call (lT p pw) ?_;rintro r2 h2 ⟨X2,p2⟩;rw[pi] at p2;simp -dsimp (disch:=try exact dx) only[wpS,zE];refine call (qM (pS.ai X2.ai) p2 (sb i aa).small (rX pw).small) ?_;rintro _ h3 ⟨X3,p3⟩;rw[←Int.natCast_add,←tg l hp] at p3;obtain⟨s3,rfl,u1,u2⟩:=mA p3 (jy _);have X23:=X2.trans X3;have m3:=X23.n;have g3:=X23.kept lH g8;simp -dsimp (disch:=try exact dx) only[wpS,wpT,zE,zL,zA,cZ,f8,g3,u2];refine⟨az rfl rfl rfl rfl (aP (H0:=H) (b:=2*hh.n) (o:=0) f8 aa X0 X2 L8),?_⟩;simp -dsimp (disch:=try exact dx) only[wpS,wpT,zE,zA,f9];exact⟨m - 1,aa,i+1,s3,aa,(hE2.trans X23).put aa _,by simp only[aJ];omega,aj _ _ rfl,p3.ai ((bj.refl _).put g3 _),by simp[f1],by simp[f2],by simp[f5],by simp[f8],ab⟩
 obtain rfl:i=l.length:=aa;obtain⟨N,hN⟩ : ∃N,N=du l l.length:=⟨_,rfl⟩;rw[←hN] at pS hs;simp -dsimp (disch:=try exact dx) only[wpS,wpT,zE,zL,zA,cj,f8,ay g8,mI];refine call (tw pS) ?_;rintro _ h2 ⟨X2,rfl⟩;have m2:=X2.n;have iw : ¬InW (N:Int):=by unfold InW;omega
 rw[ah iw];have A3:=hE2.trans X2;have nE2:=hE2.n;have q5:=A3.kept aa c5;simp -dsimp (disch:=try exact dx) only[wpS,wpT,zE,zL,zA,fw,dX,fa,dw,cP,f5,q5,chV,tk1,bA,aD,aW,bD];exact⟨(((E0.trans A3).new _).put aa _).put aa _,rfl⟩
def Pw (hv:iQ h v l) (hl:l.length≤400) (hp8 : ∀p∈l,p<H8) (h0:0<du l l.length) (hst:s<18446744073709551616) :
  WV prog (.func (.func 125) #[] #[]) [chV s,v] h fun r h'=>Ext h h'∧r=Fl l s:=by
 unfold Fl;split;·exact SO hv hl aN h0 hst
 ·exact Pu hv hl hp8 aN
def KZ (hv:iQ h v l) (hl:l.length≤400) (hp8 : ∀p∈l,p<H8) (h0:0<du l l.length) (hst:s<18446744073709551616) :
  WV prog (.func (.func 57) #[] #[]) [chV s,v] h fun r h'=>Ext h h'∧r=Fl l s:=by
 unfold Fl;split;·exact OK hv hl aN h0 hst
 ·exact KY hv hl hp8 aN
end
section
def QK {p:Nat×Nat} (h:okS p.1 p.2) (h0:0≤wdI p.1):0≤rOf p:=BX.1 (by rw[(nU h).1];exact h0)
def uO (g:Nat→Rat) (i:Nat) : ∀m,kZ g i m+jV ((List.range m).map g)=1+if i<m then g i else 0
 | 0=>by rw[kZ,ah aa];show(1:Rat)+0=1+0;rfl
 | m+1=>by
  have ih:=uO g i m;rw[sM,gF,jJ,nJ,pR,kZ];by_cases c:m=i;·subst c;rw[aq rfl,aq aa];rw[ah aa] at ih;grind
  ·rw[ah c];by_cases c2:i<m
   ·rw[aq (show i<m+1 by omega)];rw[aq c2] at ih;grind
   ·rw[ah (show ¬i<m+1 by omega)];rw[ah c2] at ih;grind
def GR (g:Nat→Rat) (A:Rat) (i:Nat) : ∀m,jV ((List.range m).map fun j=>if j=i then A else g j)=jV ((List.range m).map g)+if i<m then A - g i else 0
 | 0=>by rw[ah aa];exact(Rat.add_zero _).symm
 | m+1=>by
  have ih:=GR g A i m;rw[sM,gF,gF,jJ,nJ,jJ,nJ,pR,pR,ih];by_cases c:m=i;·subst c;rw[aq rfl,aq (show m<m+1 by omega),ah (show ¬m<m by omega)];grind
  ·rw[ah c];by_cases c2:i<m
   ·rw[aq (show i<m+1 by omega),aq c2];grind
   ·rw[ah (show ¬i<m+1 by omega),ah c2];grind
def zX {g k:Nat→Rat} {i:Nat} : ∀{m:Nat},(∀j,j<m→g j≤k j)→kZ k i m≤kZ g i m
 | 0,_=>Rat.le_refl
 | m+1,h=>by
  have ih:=zX (i:=i) (m:=m) fun j hj=>h j aa;have h1:=h m aa;rw[kZ,kZ];split;·exact ih
  ·grind
variable {ll:List (List (Nat×Nat))}
theorem MP (k:jH ll) {i:Nat} (hi:i<ll.length):jV ((List.range ll.length).map (kAt ll i))=1:=by
 obtain⟨h1,h2⟩:=k.2.2 _ (mO hi);rw[←h2.2];congr 1;refine iO fun j=>?_;rw[dM,dM];by_cases hj:j<ll.length;·obtain⟨row,p,e1,e2,e3,_,_,e6⟩:=jX k hi hj;rw[aK hi] at e1;cases e1;rw[ui hj,e3];exact kC some e6
 ·rw[cy aT,cy aa];rfl
def LZ {t:List Nat} (k:jH ll) (ht:t.length=ll.length) (hp : ∀p∈t,1≤wdI p) (ho:xS ll t):jH (oY ll t):=by
 have hw : ∀i,i<ll.length→0<kI (t.getD i 0):=fun i hi=>by have:=hp _ (mO (show i<t.length by omega));rw[bH,aK aa,jf];unfold kI;exact Rat.intCast_pos.2 aa
 have hk : ∀i j,i<ll.length→j<ll.length→0≤kAt ll i j:=fun i j hi hj=>by obtain⟨_,p,_,_,_,e4,e5,e6⟩:=jX k hi hj;rw[e6];exact QK e4 e5
 have hg : ∀i j,i<ll.length→j<ll.length→0≤goQ ll t i j∧goQ ll t i j≤kAt ll i j:=fun i j hi hj=>by
  have h1:=hk i j hi hj;have h2:=hk j i hj hi;have w1:=hw i hi;have w2:=hw j hj;unfold goQ;split;·rename_i c;refine⟨?_,ug c⟩;rw[Rat.div_def];exact BY (BY h2 (ug w2)) (ug (Rat.inv_pos.2 w1))
  ·exact⟨h1,Rat.le_refl⟩
 have hq : ∀i j,i<ll.length→j<ll.length→0≤qS ll t i j:=fun i j hi hj=>by
  unfold qS;split;·have h1:=zX (i:=i) (m:=ll.length) (g:=goQ ll t i) (k:=kAt ll i) fun j hj=>(hg i j hi hj).2;have h2:=uO (kAt ll i) i ll.length;rw[MP k hi,aq hi] at h2;have h3:=hk i i hi hi;grind
  ·exact(hg i j hi hj).1
 have hs : ∀i,i<ll.length→jV (fx ll t i)=1:=fun i hi=>by have h1:=GR (goQ ll t i) (kZ (goQ ll t i) i ll.length) i ll.length;have h2:=uO (goQ ll t i) i ll.length;rw[aq hi] at h1 h2;have e:fx ll t i=(List.range ll.length).map fun j=>if j=i then kZ (goQ ll t i) i ll.length else goQ ll t i j:=rfl;rw[e,h1];grind
 refine⟨by rw[iI];exact k.1,by rw[iI];exact k.2.1,fun l hl=>?_⟩;obtain⟨i,hi,rfl⟩:=ir.1 hl;have hi:=qX.1 hi;have qw:=ho i hi;refine⟨by rw[cz,eu,iI],fun p hp=>?_,?_⟩
 ·obtain⟨q,hq',rfl⟩:=ir.1 hp;have h1:=(BC (qw q hq')).2;obtain⟨j,hj⟩:=gH hq';have hjl:=(bU.1 hj).1;rw[eu] at hjl;rw[qt hjl] at hj;cases hj;have h2:=hq i j hi hjl;rintro(c|c)
  ·exact c h1
  ·rw[show wdI (shq (qS ll t i j)).1=(qS ll t i j).num from eE (qw _ hq').1] at c;have:=BX.2 h2;omega
 ·rw[uh,show((fx ll t i).map (rOf ∘ shq))=fx ll t i from ?_]
  ·exact hs i hi
  ·refine(List.map_congr_left fun q hq'=>(BC (qw q hq')).1).trans (List.map_id _)
end

theorem OP (l:List Rat) (a:Rat):l.foldl (· + ·) a=a+jV l:=by
 induction l generalizing a with
 | nil=>exact(Rat.add_zero a).symm
 | cons b l ih =>
  show l.foldl (· + ·) (a+b)=a+l.foldl (· + ·) (0+b);rw[ih,ih,Rat.zero_add,Rat.add_assoc]
theorem zU (q:Rat) (l:List Rat):jV (q :: l)=q+jV l:=by show l.foldl (· + ·) (0+q)=_;rw[OP,Rat.zero_add]
noncomputable def tW (l:List Nat) (s:Nat):Nat×Nat×Int:=if du l l.length<H8 then (match mD (du l l.length) s with
 | none=>(0,0,9)
 | some p=>(nw l p.1 l.length 0,p.2,0)) else (0,0,6)
theorem Nb (l:List Nat) (s:Nat):Fl l s=.tuple #[KN (tW l s).1,chV (tW l s).2.1,KI (tW l s).2.2]:=by
 unfold Fl tW Fk;split;·cases mD (du l l.length) s<;>rfl
 ·rfl
noncomputable def mvF (row:List (Nat×Nat)) (s:Nat):Nat×Nat×Int:=open Classical in if Ec row then tW (wL row) s else (0,0,6)
def zQ {l:List (Nat×Nat)} (h:mw l) (hw : ∀p∈l,p.1<W8∧p.2<W8):nnR l∧0<du (wL l) (wL l).length:=by
 have nn:nnR l:=fun p hp=>by
  obtain⟨a,b⟩:=zZ (h.1 p hp);obtain⟨h1,h2⟩:=hw p hp;have hd:1≤wdI p.2:=by have:=a.1;omega
  refine⟨?_,?_⟩
  ·unfold wdI at b;split at b
   ·assumption
   ·omega
  ·unfold wdI at hd;split at hd
   ·constructor<;>omega
   ·omega
 refine⟨nn,?_⟩;apply di;intro hn;have hz : ∀q∈l,rOf q=0:=fun q hq=>by
  obtain⟨j,hj⟩:=gH hq;have ht:=CD _ (Vo hj);have hp:=uR nn (aA l.length);have hd:=Ry (bU.1 hj).1 hj (aA _);obtain⟨q1,q2,q3⟩:=nn q hq;have h2:0<kM l l.length / q.2:=Nat.div_pos (sJ hp.1 hd) q2;have h3:q.1=0:=by apply di;intro h0;have:=nF (show 0<q.1 by omega) h2;omega
  have e:=(nU (zZ (h.1 q hq)).1).1;rw[h3] at e;have e0:wdI 0=0:=by have:=gU lE;simpa using this
  rw[e0] at e;exact Rat.num_eq_zero.1 e
 have hs : ∀m:List (Nat×Nat),(∀q∈m,rOf q=0)→jV (m.map rOf)=0:=fun m=>by
  induction m with
  | nil=>intro _;rfl
  | cons q m ih =>
   intro hm;rw[jJ,zU,hm q ab,ih fun x hx=>hm x (by simp[hx])];exact Rat.add_zero 0
 have:=h.2;rw[hs l hz] at this;exact absurd this aC
def Un {h:IH} {kv:Value} {ll:List (List (Nat×Nat))} {lev x b s:Nat} {row:List (Nat×Nat)} (hv:iN h kv ll) (hr:ll[x]?=some row) (hro:mw row) (hrl:row.length≤60) (hb:b<h.n) (g:h.ext.get b=some (.cells [KN lev,kv,KN x] 0 none)) (hs:s<18446744073709551616) :
  WV Proofs.Tryz.prog (.func (.func 48) #[] #[]) [ptr (2*b) 0,chV s] h fun r h'=>r=.tuple #[chV (mvF row s).2.1,KI (mvF row s).2.2] ∧ ∃h1,Ext h h1∧qD b h1 h'∧((mvF row s).2.2=0→h'.ext.get b=some (.cells [KN lev,kv,KN (mvF row s).1] 0 none)):=by
 obtain⟨H0,hH0⟩ : ∃H,H=(h.new (.cells [K64 s] 0 none)).new (.cells [.int .u64 0] 0 none):=⟨_,rfl⟩;have n0:H0.n=h.n+2:=by rw[hH0];rfl
 have E0:Ext h H0:=by rw[hH0];exact((Ext.refl h).new _).new _
 have c3:H0.ext.get h.n=some (.cells [K64 s] 0 none):=by rw[hH0];simp (disch:=try exact dx) only[ar,aE]
 have c4:H0.ext.get (h.n+1)=some (.cells [.int .u64 0] 0 none):=by rw[hH0];simp (disch:=try exact dx) only[ar]
 have gb:=E0.kept hb g;obtain⟨cv,co,hlen⟩:=hv.co;obtain⟨wr,A1,A2,A3⟩:=hv.mG hr;have hw : ∀p∈row,p.1<W8∧p.2<W8:=A2.2.2;obtain⟨nn,sp⟩:=zQ hro hw;refine enter (nt:=42) (rs:=[.cell 4 36,.tmp 5]) Proofs.Tryz.func48 rfl rfl rfl ab ?_;simp -dsimp (disch:=try exact dx) only[wpS,zE,zA,lz,NF,US,Rx,vT,ld3,chV,ay gb,←hH0,A3,A1 H0 E0.ai];clear hH0;refine call (KB (A2.ai E0.ai) nn hrl) ?_;rintro r h1 ⟨X1,q1,q2⟩;have m1:=X1.n;have d3:=X1.kept aa c3;have d4:=X1.kept aa c4;have db:=X1.kept aa gb;unfold mvF;by_cases wf:Ec row
 case neg =>
  obtain rfl:=q2 wf;rw[ah wf];simp -dsimp (disch:=try exact dx) only[wpS,wpT,zE,zL,fw,dX,cP,d4,chV,tk1];exact⟨rfl,_,(E0.trans X1).put aa _,qD.refl _ _,ab⟩
 obtain⟨out,rfl,hw2⟩:=q1 wf;rw[aq wf];have co1:=hw2.1.cells;have co2:=hw2.1.cok;simp -dsimp (disch:=try exact dx) only[wpS,wpT,zE,zL,cP,ay d3,tk1];refine call (Pw hw2 (by rw[uv];omega) wf sp hs) ?_;rintro _ h2 ⟨X2,rfl⟩;have m2:=X2.n;rw[Nb];generalize tW (wL row) s=F;have e4:=X2.kept aa d4;have eb:=X2.kept aa db;obtain⟨H3,hH3⟩ : ∃H,H=(h2.new (.cells [.int .u64 0] 0 none)).put h2.n (.cells [K64 F.2.1] 0 none):=⟨_,rfl⟩;have E3:Ext h2 H3:=by rw[hH3];exact((Ext.refl h2).new _).put (aA _) _
 have n3:H3.n=h2.n+1:=by rw[hH3];rfl
 have k9:H3.ext.get h2.n=some (.cells [K64 F.2.1] 0 none):=by rw[hH3];simp (disch:=try exact dx) only[aj]
 have k4:=E3.kept aa e4;have kb:=E3.kept aa eb;obtain⟨H4,hH4⟩ : ∃H,H=H3.put b (.cells [KN lev,kv,KN F.1] 0 none):=⟨_,rfl⟩;have j9:H4.ext.get h2.n=some (.cells [K64 F.2.1] 0 none):=by rw[hH4,au _ _ aa];exact k9
 have j4:H4.ext.get (h.n+1)=some (.cells [.int .u64 0] 0 none):=by rw[hH4,au _ _ aa];exact k4
 have jb:H4.ext.get b=some (.cells [KN lev,kv,KN F.1] 0 none):=by rw[hH4];exact aj _ _ rfl
 have sp3:IH.bf [KN lev,kv,KN x] 2 [KN F.1] = [KN lev,kv,KN F.1]:=rfl;simp -dsimp (disch:=try exact dx) only[wpS,wpT,zE,zL,zA,lz,vT,dX,cP,st3,chV,tk1,sp3,←hH3,kb,←hH4,ay j9,j4];have E13:=(((E0.trans X1).trans X2).trans E3);refine⟨H3.put (h.n+1) (.cells [K64 F.2.1] 0 none),E13.put aa _,⟨?_,?_,fun j hj=>?_,?_⟩,fun _=>jb⟩;·rw[hH4];rfl
 ·rw[hH4];rfl
 ·rw[hH4];simp only[lZ,hj,cE]
 ·rw[hH4];rfl
section
noncomputable def oO (p:Nat×Nat) (s:Nat):Bool×Nat×Int:=open Classical in if ¬okS p.1 p.2 then (false,0,20) else if wdI p.1<0∨wdI p.2<wdI p.1 then (false,0,2) else match mD p.2 s with
 | none=>(false,0,9)
 | some q=>(decide ((q.1:Int)<wdI p.1),q.2,0)
def NX (f:Bool×Nat×Int):Value:=.tuple #[.bool f.1,chV f.2.1,KI f.2.2]
variable {d:Nat}
def Ni {n:Nat} (h:okS n d):1≤wdI d:=by have:=h.1;omega
def Nn (hd:d<W8) (h:1≤wdI d):0<d∧d<H8∧wdI d=(d:Int):=by
 by_cases c:d<H8;·have e:wdI d=(d:Int):=gU c;exact⟨aa,c,e⟩
 ·exfalso
  unfold wdI at h;rw[ah c] at h;omega
def SS {h:IH} {p:Nat×Nat} {s:Nat} (h1:p.1<W8) (h2:p.2<W8) (hs:s<18446744073709551616) :WV Proofs.Tryz.prog (.func (.func 50) #[] #[]) [chV s,shV p.1 p.2] h fun r h'=>Ext h h'∧r=NX (oO p s):=by
 obtain⟨H0,hH0⟩ : ∃H,H=((h.new (.cells [K64 s] 0 none)).new (.cells (shC p.1 p.2) 0 none)).new (.cells [.int .u64 0] 0 none):=⟨_,rfl⟩;have n0:H0.n=h.n+3:=by rw[hH0];rfl
 have E0:Ext h H0:=by rw[hH0];exact(((Ext.refl h).new _).new _).new _
 have c2:H0.ext.get h.n=some (.cells [K64 s] 0 none):=by rw[hH0];simp (disch:=try exact dx) only[ar,aE]
 have c3:H0.ext.get (h.n+1)=some (.cells (shC p.1 p.2) 0 none):=by rw[hH0];simp (disch:=try exact dx) only[ar,aE]
 have c5:H0.ext.get (h.n+2)=some (.cells [.int .u64 0] 0 none):=by rw[hH0];simp (disch:=try exact dx) only[ar]
 have tA:List.take 8 (shC p.1 p.2)=wdC p.1:=by rw[←iE p.1 p.2,cC]
 refine enter (nt:=48) (rs:=[.tmp 4,.cell 5 36,.tmp 6]) Proofs.Tryz.func50 rfl rfl rfl ab ?_;simp -dsimp (disch:=try exact dx) only[wpS,zE,zA,lz,iY,chV,bR];rw[←hH0];clear hH0;simp -dsimp (disch:=try exact dx) only[wpS,zE,zL,ba,dJ];refine call (CQ p.1 p.2 h1 h2) ?_;rintro _ k1 ⟨X1,rfl⟩;have m1:=X1.n;have d5:=X1.kept aa c5;unfold oO;by_cases ok:okS p.1 p.2
 case neg =>
  rw[ah ok,aq ok];simp -dsimp (disch:=try exact dx) only[wpS,wpT,zE,zL,fw,dX,cP,d5,tk1];exact⟨(E0.trans X1).put aa _,rfl⟩
 rw[aq ok,ah (fun h=>h ok)];have d3:=X1.kept aa c3;simp -dsimp (disch:=try exact dx) only[wpS,wpT,zE,zL,qz,bY,ay d3,ba,iE];refine call (pZ p.1 h1) ?_;rintro _ k2 ⟨X2,rfl⟩;have m2:=X2.n;have e5:=X2.kept aa d5;have e3:=X2.kept aa d3;have e2:=(X1.trans X2).kept aa c2;have A2:=(E0.trans X1).trans X2;by_cases neg:wdI p.1<0
 ·rw[aq neg,aq (.inl neg)];simp -dsimp (disch:=try exact dx) only[wpS,wpT,zE,zL,fw,dX,cP,e5,tk1];exact⟨A2.put aa _,rfl⟩
 obtain⟨z,hz,hz0⟩ : ∃z:Int,(if wdI p.1=0 then (0:Int) else 1)=z ∧ ¬z<0:=⟨_,rfl,by split<;>omega⟩;rw[ah neg,hz];simp -dsimp (disch:=try exact dx) only[wpS,wpT,zE,zL,zA,qz,bY,qv,ay e3,ba,iE,jU,hz0,nC];refine call (Cv p.1 p.2 h1 h2) ?_;rintro _ k3 ⟨X3,rfl⟩;have m3:=X3.n;have f5:=X3.kept aa e5;have f3:=X3.kept aa e3;have f2:=X3.kept aa e2;have A3:=A2.trans X3;by_cases big:wdI p.2<wdI p.1
 ·rw[ah aa,ah aa,aq (.inr big)];simp -dsimp (disch:=try exact dx) only[wpS,wpT,zE,zL,fw,dX,cP,f5,tk1];exact⟨A3.put aa _,rfl⟩
 obtain⟨z2,hz2,W1⟩ : ∃z:Int,(if wdI p.1<wdI p.2 then (-1:Int) else if wdI p.1=wdI p.2 then 0 else 1)=z ∧ ¬0<z:=⟨_,rfl,by
  by_cases c1:wdI p.1<wdI p.2;·rw[aq c1];omega
  ·rw[ah c1,aq aa];omega⟩
 rw[hz2,ah (show ¬(wdI p.1<0∨wdI p.2<wdI p.1) by omega)];obtain⟨p0,pH,pe⟩:=Nn h2 (Ni ok);simp -dsimp (disch:=try exact dx) only[wpS,wpT,zE,zL,zA,bY,qv,cP,ay f2,ay f3,ba,jU,W1,nC,tk1];refine call (FT h2 hs) ?_;rintro _ k4 ⟨X4,rfl⟩;have m4:=X4.n;rw[vx p0 pH];have A4:=A3.trans X4;have g5:=X4.kept aa f5;have g3:=X4.kept aa f3;rcases hd:mD p.2 s with _|⟨u,t⟩
 ·simp -dsimp (disch:=try exact dx) only[wpS,wpT,zE,zL,zA,lz,fw,dX,cP,fa,dw,g5,chV,tk1,bA,aD,aW,bD];exact⟨(((((A4.new _).new _).put aa _).put aa _).put aa _),rfl⟩
 obtain⟨hu,ht⟩:=sh p0 hs hd;obtain⟨H5,hH5⟩ : ∃H,H=(((k4.new (.cells [ZW,ZW,ZW,ZW,ZW,ZW,ZW,ZW] 0 none)).new (.cells [.int .u64 0] 0 none)).put k4.n (.cells (wdC u) 0 none)).put (k4.n+1) (.cells [K64 t] 0 none):=⟨_,rfl⟩;have E5:Ext k4 H5:=by rw[hH5];exact((((Ext.refl k4).new _).new _).put aa _).put aa _
 have n5:H5.n=k4.n+2:=by rw[hH5];rfl
 have q8:H5.ext.get k4.n=some (.cells (wdC u) 0 none):=by rw[hH5];simp (disch:=try exact dx) only[aj,au]
 have q9:H5.ext.get (k4.n+1)=some (.cells [K64 t] 0 none):=by rw[hH5];simp (disch:=try exact dx) only[aj]
 have q5:=E5.kept aa g5;have q3:=E5.kept aa g3;simp -dsimp (disch:=try exact dx) only[wpS,wpT,zE,zL,zA,lz,dX,fa,dw,chV,bA,aD,aW,bD,←hH5];clear hH5;refine drawn [(5,[3])] ae ae rfl ?_;simp -dsimp (disch:=try exact dx) only[wpS,zE,zL,qz,bY,ay q8,ay q3,aD,aY,ba,iE];refine call (Cv u p.1 (by have:=dD;omega) h1) ?_;rintro _ k6 ⟨X6,rfl⟩;have m6:=X6.n;have u8:wdI u=(u:Int):=gU aa;have r5:=X6.kept aa q5;have r9:=X6.kept aa q9
 have hb:decide ((if wdI u<wdI p.1 then (-1:Int) else if wdI u=wdI p.1 then 0 else 1)<0)=decide ((u:Int)<wdI p.1):=by
  rw[u8];by_cases c1:(u:Int)<wdI p.1;·rw[aq c1,ct c1];rfl
  ·rw[ah c1,bF c1]
   split<;>rfl
 simp -dsimp (disch:=try exact dx) only[wpS,wpT,zE,zL,dX,cP,ay r9,r5,hb,tk1];refine⟨az rfl rfl rfl rfl (aO rfl (qn r9) (qn q9)),?_⟩;simp -dsimp (disch:=try exact dx) only[wpS,wpT,zE,zL,zA,cP,tk1];exact⟨((A4.trans E5).trans X6).put aa _,rfl⟩
end
def OL {h:IH} {p:Nat×Nat} {s:Nat} (h1:p.1<W8) (h2:p.2<W8) (hs:s<18446744073709551616) :WV Proofs.Tryz.prog (.func (.func 60) #[] #[]) [chV s,shV p.1 p.2] h fun r h'=>Ext h h'∧r=NX (oO p s):=by
 obtain⟨H0,hH0⟩ : ∃H,H=((h.new (.cells [K64 s] 0 none)).new (.cells (shC p.1 p.2) 0 none)).new (.cells [.int .u64 0] 0 none):=⟨_,rfl⟩;have n0:H0.n=h.n+3:=by rw[hH0];rfl
 have E0:Ext h H0:=by rw[hH0];exact(((Ext.refl h).new _).new _).new _
 have c2:H0.ext.get h.n=some (.cells [K64 s] 0 none):=by rw[hH0];simp (disch:=try exact dx) only[ar,aE]
 have c3:H0.ext.get (h.n+1)=some (.cells (shC p.1 p.2) 0 none):=by rw[hH0];simp (disch:=try exact dx) only[ar,aE]
 have c5:H0.ext.get (h.n+2)=some (.cells [.int .u64 0] 0 none):=by rw[hH0];simp (disch:=try exact dx) only[ar]
 have tA:List.take 8 (shC p.1 p.2)=wdC p.1:=by rw[←iE p.1 p.2,cC]
 refine enter (nt:=45) (rs:=[.tmp 4,.cell 5 36,.tmp 6]) Proofs.Tryz.func60 rfl rfl rfl ab ?_;simp -dsimp (disch:=try exact dx) only[wpS,zE,zA,lz,iY,chV,bR];rw[←hH0];clear hH0;simp -dsimp (disch:=try exact dx) only[wpS,zE,zL,ba,dJ];refine call (AO p.1 p.2 h1 h2) ?_;rintro _ k1 ⟨X1,rfl⟩;have m1:=X1.n;have d5:=X1.kept aa c5;unfold oO;by_cases ok:okS p.1 p.2
 case neg =>
  rw[bF ok,aq ok];simp -dsimp (disch:=try exact dx) only[wpS,wpT,zE,zL,fw,dX,cP,d5,tk1];exact⟨(E0.trans X1).put aa _,rfl⟩
 rw[ct ok,ah (fun h=>h ok)];have d3:=X1.kept aa c3;simp -dsimp (disch:=try exact dx) only[wpS,wpT,zE,zL,qz,bY,ay d3,ba,iE];refine call (uE p.1 h1) ?_;rintro _ k2 ⟨X2,rfl⟩;have m2:=X2.n;have e5:=X2.kept aa d5;have e3:=X2.kept aa d3;have e2:=(X1.trans X2).kept aa c2;have A2:=(E0.trans X1).trans X2;by_cases neg:wdI p.1<0
 ·rw[aq neg,aq (.inl neg)];simp -dsimp (disch:=try exact dx) only[wpS,wpT,zE,zL,fw,dX,cP,e5,tk1];exact⟨A2.put aa _,rfl⟩
 obtain⟨z,hz,hz0⟩ : ∃z:Int,(if 0<wdI p.1 then (1:Int) else 0)=z ∧ ¬z<0:=⟨_,rfl,by split<;>omega⟩;rw[ah neg,hz];simp -dsimp (disch:=try exact dx) only[wpS,wpT,zE,zL,zA,qz,bY,qv,ay e3,ba,iE,jU,hz0,nC];refine call (CY p.1 p.2 h1 h2) ?_;rintro _ k3 ⟨X3,rfl⟩;have m3:=X3.n;have f5:=X3.kept aa e5;have f3:=X3.kept aa e3;have f2:=X3.kept aa e2;have A3:=A2.trans X3;by_cases big:wdI p.2<wdI p.1
 ·rw[ah aa,aq (show wdI p.2<wdI p.1 from big),aq (.inr big)];simp -dsimp (disch:=try exact dx) only[wpS,wpT,zE,zL,fw,dX,cP,f5,tk1];exact⟨A3.put aa _,rfl⟩
 obtain⟨z2,hz2,W1⟩ : ∃z:Int,(if wdI p.1<wdI p.2 then (-1:Int) else if wdI p.2<wdI p.1 then 1 else 0)=z ∧ ¬0<z:=⟨_,rfl,by
  by_cases c1:wdI p.1<wdI p.2;·rw[aq c1];omega
  ·rw[ah c1,ah aa];omega⟩
 rw[hz2,ah (show ¬(wdI p.1<0∨wdI p.2<wdI p.1) by omega)];obtain⟨p0,pH,pe⟩:=Nn h2 (Ni ok);simp -dsimp (disch:=try exact dx) only[wpS,wpT,zE,zL,zA,bY,qv,cP,ay f2,ay f3,ba,jU,W1,nC,tk1];refine call (Fe h2 hs) ?_;rintro _ k4 ⟨X4,rfl⟩;have m4:=X4.n;rw[vx p0 pH];have A4:=A3.trans X4;have g5:=X4.kept aa f5;have g3:=X4.kept aa f3;rcases hd:mD p.2 s with _|⟨u,t⟩
 ·simp -dsimp (disch:=try exact dx) only[wpS,wpT,zE,zL,zA,lz,fw,dX,cP,fa,dw,g5,chV,tk1,bA,aD,aW,bD];exact⟨(((((A4.new _).new _).put aa _).put aa _).put aa _),rfl⟩
 obtain⟨hu,ht⟩:=sh p0 hs hd;obtain⟨H5,hH5⟩ : ∃H,H=(((k4.new (.cells [ZW,ZW,ZW,ZW,ZW,ZW,ZW,ZW] 0 none)).new (.cells [.int .u64 0] 0 none)).put k4.n (.cells (wdC u) 0 none)).put (k4.n+1) (.cells [K64 t] 0 none):=⟨_,rfl⟩;have E5:Ext k4 H5:=by rw[hH5];exact((((Ext.refl k4).new _).new _).put aa _).put aa _
 have n5:H5.n=k4.n+2:=by rw[hH5];rfl
 have q8:H5.ext.get k4.n=some (.cells (wdC u) 0 none):=by rw[hH5];simp (disch:=try exact dx) only[aj,au]
 have q9:H5.ext.get (k4.n+1)=some (.cells [K64 t] 0 none):=by rw[hH5];simp (disch:=try exact dx) only[aj]
 have q5:=E5.kept aa g5;have q3:=E5.kept aa g3;simp -dsimp (disch:=try exact dx) only[wpS,wpT,zE,zL,zA,lz,dX,fa,dw,chV,bA,aD,aW,bD,←hH5];clear hH5;refine drawn [(5,[3])] ae ae rfl ?_;simp -dsimp (disch:=try exact dx) only[wpS,zE,zL,qz,bY,ay q8,ay q3,aD,aY,ba,iE];refine call (CY u p.1 (by have:=dD;omega) h1) ?_;rintro _ k6 ⟨X6,rfl⟩;have m6:=X6.n;have u8:wdI u=(u:Int):=gU aa;have r5:=X6.kept aa q5;have r9:=X6.kept aa q9
 have hb:decide ((if wdI u<wdI p.1 then (-1:Int) else if wdI p.1<wdI u then 1 else 0)<0)=decide ((u:Int)<wdI p.1):=by
  rw[u8];by_cases c1:(u:Int)<wdI p.1;·rw[aq c1,ct c1];rfl
  ·rw[ah c1,bF c1]
   split<;>rfl
 simp -dsimp (disch:=try exact dx) only[wpS,wpT,zE,zL,dX,cP,ay r9,r5,hb,tk1];refine⟨az rfl rfl rfl rfl (aO rfl (qn r9) (qn q9)),?_⟩;simp -dsimp (disch:=try exact dx) only[wpS,wpT,zE,zL,zA,cP,tk1];exact⟨((A4.trans E5).trans X6).put aa _,rfl⟩

end Go.Id

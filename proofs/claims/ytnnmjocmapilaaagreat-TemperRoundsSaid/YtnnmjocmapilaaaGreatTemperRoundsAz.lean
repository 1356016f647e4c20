/-
  Contracts: package temper: Round, the copies laid out.
-/
import Derived.Test.YtnnmjocmapilaaaGreatTemperRoundsAy
set_option linter.unusedVariables false
set_option linter.unusedSimpArgs false
set_option linter.defProp false
set_option linter.deprecated false
namespace Go.Id
open Go
open Go renaming Operand→QY,Program→QX,TypeId→QZ,Value→QQ
open Nat renaming reduceAdd→zA,reduceEqDiff→zE,reduceLeDiff→zL
open Nat (reduceMul)
set_option maxHeartbeats 16000000
open Go.Proofs.Tryz (prog)
section
def tk2r (a b:QQ):List.take 2 (List.drop 0 [a,b]) = [a,b]:=rfl
def pk (k:Nat):QQ:=ptr (2*k) 0
structure RdA (h H:IH) (c b18:Nat) (ll:List (List (Nat×Nat))) (ws:List Nat) (s lv:List Int) (i:Nat) (cpv:QQ) (ks:List Nat) (kvs:List QQ) (n1:Nat):Prop where
 e:Ext h H
 g11:H.ext.get h.n=some (.cells [K64 c] 0 none)
 g12:H.ext.get (h.n+1)=some (.cells [.slice none 0 0] 0 none)
 g13:H.ext.get (h.n+2)=some (.cells [KI 0] 0 none)
 g14:H.ext.get (h.n+3)=some (.cells [.int .u64 0] 0 none)
 g15:H.ext.get (h.n+4)=some (.cells [KI 0] 0 none)
 bn:h.n+4<b18∧b18<n1∧n1≤H.n
 g18:H.ext.get b18=some (.cells [cpv] 0 none)
 acc:Acc H h.n 1 cpv i (ks.map pk)
 rep:nm H n1 ks lv kvs (fun _=>0)
 ker : ∀(j:Nat) b,j<i→lv[j]?=some b → ∃kv',kvs[j]?=some kv'∧iN H kv' (xN ll ws s b)∧ig ll ws s b=0
variable {l:jq}{k:Nat}{lv:List Int}{H:IH}{ks:List Nat}{f:Nat→Nat}{n1:Nat}{kvs:List QQ}
def nm.loop (r:nm H n1 ks lv kvs f) (hk:H.ext.get k=some (.loop l)) (o:cX):nm (H.put k o) n1 ks lv kvs f :=
 r.of (aA _) fun _ k' _ _ _ _ _ d=>by rw[au _ _ (by rintro rfl;rw[hk] at d;cases d)];exact d
variable {b18:Nat}{ws:List Nat}{h:IH}{s:List Int}{cpv:QQ}{c i:Nat}{ll:List (List (Nat×Nat))}
def RdA.loop (r:RdA h H c b18 ll ws s lv i cpv ks kvs n1) (hk:H.ext.get k=some (.loop l)) (hn:b18<k) (o:cX):RdA h (H.put k o) c b18 ll ws s lv i cpv ks kvs n1:=by
 obtain⟨e,g11,g12,g13,g14,g15,bn,g18,acc,rep,ker⟩:=r;have z : ∀j,j≠k→(H.put k o).ext.get j=H.ext.get j:=fun j hj=>au _ _ hj;refine⟨e.put aa _,?_,?_,?_,?_,?_,bn,?_,acc.T7 hk _,rep.loop hk _,fun j b hj hb=>?_⟩;·rw[z _ aa];exact g11
 ·rw[z _ aa];exact g12
 ·rw[z _ aa];exact g13
 ·rw[z _ aa];exact g14
 ·rw[z _ aa];exact g15
 ·rw[z _ aa];exact g18
 ·obtain⟨kv',a,b,c⟩:=ker j b hj hb;exact⟨kv',a,b.ai ((bj.refl H).QS (by rintro c e f hc;rw[hk] at hc;cases hc) _),c⟩
variable {H':IH}
def RdA.ext (r:RdA h H c b18 ll ws s lv i cpv ks kvs n1) (E:Ext H H'):RdA h H' c b18 ll ws s lv i cpv ks kvs n1:=by
 obtain⟨e,g11,g12,g13,g14,g15,bn,g18,acc,rep,ker⟩:=r;have:=E.n;have k : ∀{j:Nat} {o:cX},j≤b18→H.ext.get j=some o→H'.ext.get j=some o:=fun hj hg=>E.kept aa hg;exact⟨e.trans E,k aa g11,k aa g12,k aa g13,k aa g14,k aa g15,aa,k aa g18,acc.ext E,rep.ext E,fun j b hj hb=>by
  obtain⟨kv',a,b,c⟩:=ker j b hj hb;exact⟨kv',a,b.ai E.ai,c⟩⟩
variable {P:Program}
def P2 {f:FuncId} {a:QQ} {vs:List QQ} {K:QQ→IH→Prop} (w:WV P (.func (.func f) #[] #[]) (a :: vs) h K):WV P (.func (.func f) #[a] #[]) vs h K:=by
 obtain⟨p,⟨N,hN⟩,hk⟩:=w;exact⟨p,⟨N,fun n hn=>by
  have:=hN n hn;cases n with
  | zero=>exact this
  | succ n=>exact this⟩,hk⟩
def ldS {t:TypeId} (hT:cu P t=some false) {o:Nat} {cs:List QQ} {e:Nat} {f:Option Nat} {v:QQ} (g:h.ext.get k=some (.cells cs e f)) (hv:cs[o]?=some v):load P h t (ptr (2*k) o)=some v:=by rw[fl hT,Rv (ay g),hv]
structure RdB (h H:IH) (ci b18:Nat) (sw:Int) (lv:List Int) (cpv:QQ) (ks:List Nat) (kvs:List QQ) (n1:Nat) (f:Nat→Nat):Prop where
 e:Ext h H
 g11:H.ext.get h.n=some (.cells [K64 ci] 0 none)
 g12:H.ext.get (h.n+1)=some (.cells [.slice none 0 0] 0 none)
 g13:H.ext.get (h.n+2)=some (.cells [KI sw] 0 none)
 g14:H.ext.get (h.n+3)=some (.cells [.int .u64 0] 0 none)
 g15:H.ext.get (h.n+4)=some (.cells [KI 0] 0 none)
 bn:h.n+4<b18∧b18<n1∧n1≤H.n
 g18:H.ext.get b18=some (.cells [cpv] 0 none)
 acc:Acc H h.n 1 cpv lv.length (ks.map pk)
 rep:nm H n1 ks lv kvs f
variable {sw:Int}
def RdB.ext (r:RdB h H c b18 sw lv cpv ks kvs n1 f) (E:Ext H H'):RdB h H' c b18 sw lv cpv ks kvs n1 f:=by obtain⟨e,g11,g12,g13,g14,g15,bn,g18,acc,rep⟩:=r;have:=E.n;have k : ∀{j:Nat} {o:cX},j≤b18→H.ext.get j=some o→H'.ext.get j=some o:=fun hj hg=>E.kept aa hg;exact⟨e.trans E,k aa g11,k aa g12,k aa g13,k aa g14,k aa g15,aa,k aa g18,acc.ext E,rep.ext E⟩
def nm.fn {g:Nat→Nat} (r:nm H n1 ks lv kvs f) (h : ∀j,j<ks.length→f j=g j):nm H n1 ks lv kvs g :=
 r.of (aA _) fun j k kv hj _ _ _ d=>by rw[←h j (bU.1 hj).1];exact d
variable {kv:QQ}
def RdB.set (r:RdB h H c b18 sw lv cpv ks kvs n1 f) {x:Nat} (hi:ks[i]?=some k) (hkv:kvs[i]?=some kv) (s:qD k H H') (hg:H'.ext.get k=some (.cells [KI (lv.getD i 0),kv,KN x] 0 none)):RdB h H' c b18 sw lv cpv ks kvs n1 (fun j=>if j=i then x else f j):=by
 obtain⟨e,g11,g12,g13,g14,g15,bn,g18,acc,rep⟩:=r;obtain⟨k1,k2,kv',k3,k4⟩:=rep.get i k hi;have z : ∀{j:Nat} {o:cX},j≤b18→H.ext.get j=some o→H'.ext.get j=some o:=fun hj hg=>by rw[s.2.2.1 _ aa];exact hg
 have eN:=e.n;exact⟨⟨by rw[s.1];exact e.n,by rw[s.2.1];exact e.base,fun j hj=>by rw[s.2.2.1 j aa];exact e.get j hj,fun j hj=>by rw[s.2.2.2];exact e.eP j hj⟩,z aa g11,z aa g12,z aa g13,z aa g14,z aa g15,by rw[s.1];exact bn,z (aA _) g18,acc.Yx s k4,rep.set hi hkv s.1 s.2.2.1 hg⟩
def CP (k:Nat) (H:IH) (o:cX):qD k H (H.put k o):=⟨rfl,rfl,fun j hj=>au _ _ hj,rfl⟩
def RdB.VG (r:RdB h H c b18 sw lv cpv ks kvs n1 f) (c':Nat):RdB h (H.put h.n (.cells [K64 c'] 0 none)) c' b18 sw lv cpv ks kvs n1 f:=by
 obtain⟨e,g11,g12,g13,g14,g15,bn,g18,acc,rep⟩:=r;have z : ∀{j:Nat} {o:cX},j≠h.n→H.ext.get j=some o→(H.put h.n (.cells [K64 c'] 0 none)).ext.get j=some o:=fun hj hg=>by rw[au _ _ hj];exact hg
 exact⟨e.put aa _,aj _ _ rfl,z aa g12,z aa g13,z aa g14,z aa g15,bn,z aa g18,acc.put g11 _,rep.put aa _⟩
def RdB.VF (r:RdB h H c b18 sw lv cpv ks kvs n1 f) (sw':Int):RdB h (H.put (h.n+2) (.cells [KI sw'] 0 none)) c b18 sw' lv cpv ks kvs n1 f:=by
 obtain⟨e,g11,g12,g13,g14,g15,bn,g18,acc,rep⟩:=r;have z : ∀{j:Nat} {o:cX},j≠h.n+2→H.ext.get j=some o→(H.put (h.n+2) (.cells [KI sw'] 0 none)).ext.get j=some o:=fun hj hg=>by rw[au _ _ hj];exact hg
 exact⟨e.put aa _,z aa g11,z aa g12,aj _ _ rfl,z aa g14,z aa g15,bn,z aa g18,acc.put g13 _,rep.put aa _⟩
def RdB.YC (r:RdB h H c b18 sw lv cpv ks kvs n1 f):RdB h (H.put (h.n+4) (.cells [KI 0] 0 none)) c b18 sw lv cpv ks kvs n1 f:=by
 obtain⟨e,g11,g12,g13,g14,g15,bn,g18,acc,rep⟩:=r;have z : ∀{j:Nat} {o:cX},j≠h.n+4→H.ext.get j=some o→(H.put (h.n+4) (.cells [KI 0] 0 none)).ext.get j=some o:=fun hj hg=>by rw[au _ _ hj];exact hg
 exact⟨e.put aa _,z aa g11,z aa g12,z aa g13,z aa g14,aj _ _ rfl,bn,z aa g18,acc.put g15 _,rep.put aa _⟩
def YG {row:List (Nat×Nat)} {s:Nat} (ro:mw row) (hw : ∀p∈row,p.1<W8∧p.2<W8) (hs:s<18446744073709551616):(mvF row s).2.1<18446744073709551616∧((mvF row s).2.2=0→(mvF row s).1<row.length):=by
 obtain⟨nn,sp⟩:=zQ ro hw;have:=Na (l:=wL row) (s:=s) sp hs;unfold mvF;split;·rw[uv] at this;exact this
 ·exact⟨aC,fun h=>by cases h⟩
theorem KE {p:List Nat} (hk:k+1<p.length) (j:Nat):(if j=k+1 then p.getD k 0 else if j=k then p.getD (k+1) 0 else p.getD j 0)=(qJ p k).getD j 0:=by
 unfold qJ;rw[bH (l:=(p.set k (p.getD (k+1) 0)).set (k+1) (p.getD k 0)),re,re];by_cases h1:j=k+1;·subst h1;rw[aq rfl,aq rfl,aq (by rw[dB];exact hk)];rfl
 ·rw[ah h1,ah (Ne.symm h1)];by_cases h2:j=k
  ·subst h2;rw[aq rfl,aq rfl,aq aa];rfl
  ·rw[ah h2,ah (Ne.symm h2),bH]
theorem ER (p:List Nat) (k:Nat):(qJ p k).length=p.length:=by unfold qJ;rw[dB,dB]
theorem Pj (p:List Nat) (x j:Nat):(p ++ [x]).getD j 0=if j=p.length then x else p.getD j 0:=by
 rw[bH,bH];by_cases h:j=p.length;·subst h;rw[aq rfl,gI (aA _),nD];rfl
 ·rw[ah h];rcases dr j p.length with h2|h2
  ·rw[ef h2]
  ·rw[gI h2,cy h2,cy aT]
open Classical in
def Cz {wv sv lvv stv:QQ} {st:List Int} (hk:iN h kv ll) (hw:iQ h wv ws) (hs:fF h sv s) (hl:fF h lvv lv) (ht:fF h stv st) (hc:c<18446744073709551616) :WV prog (.func (.func 12) #[] #[]) [kv,wv,sv,lvv,stv,chV c] h fun r h'=>Ext h h'∧MQ h' (GV ll ws s lv st c) r:=by
 obtain⟨cv,co,hlen⟩:=hk.co;have Lz:=hl.1.len (P:=prog) dY;have Qj:=ht.1.len (P:=prog) dY;obtain⟨H0,hH0⟩ : ∃H,H=((((h.new (.cells [K64 c] 0 none)).new (.cells [.slice none 0 0] 0 none)).new (.cells [KI 0] 0 none)).new (.cells [.int .u64 0] 0 none)).new (.cells [KI 0] 0 none):=⟨_,rfl⟩;have n0:H0.n=h.n+5:=by rw[hH0];rfl
 have E0:Ext h H0:=by rw[hH0];exact(((((Ext.refl h).new _).new _).new _).new _).new _
 have c11:H0.ext.get h.n=some (.cells [K64 c] 0 none):=by rw[hH0];simp (disch:=try exact dx) only[ar,aE]
 have c12:H0.ext.get (h.n+1)=some (.cells [.slice none 0 0] 0 none):=by rw[hH0];simp (disch:=try exact dx) only[ar,aE]
 have c13:H0.ext.get (h.n+2)=some (.cells [KI 0] 0 none):=by rw[hH0];simp (disch:=try exact dx) only[ar,aE]
 have c14:H0.ext.get (h.n+3)=some (.cells [.int .u64 0] 0 none):=by rw[hH0];simp (disch:=try exact dx) only[ar,aE]
 have c15:H0.ext.get (h.n+4)=some (.cells [KI 0] 0 none):=by rw[hH0];simp (disch:=try exact dx) only[ar]
 refine enter (nt:=197) (rs:=[.cell 12 25,.cell 13 3,.cell 14 36,.cell 15 47]) Proofs.Tryz.func12 rfl rfl rfl ab ?_;simp -dsimp (disch:=try exact dx) only[wpS,zE,zA,zc25,zc3,lz,zI,chV];rw[←hH0];clear hH0;refine call (Ad (hk.ai E0.ai)) ?_;rintro _ h1 ⟨X1,rfl⟩;have m1:=X1.n;have d11:=X1.kept aa c11;have d12:=X1.kept aa c12;have d13:=X1.kept aa c13;have d14:=X1.kept aa c14;have d15:=X1.kept aa c15;have E1:=E0.trans X1;unfold GV LH;by_cases ok:jH ll
 case neg =>
  rw[ah ok,aq ok];simp -dsimp (disch:=try exact dx) only[wpS,wpT,zE,zL,fw,Eg,st3,dX,nS,ld3,cP,pG,jF,d12,d13,d14,d15,tk1];exact⟨(((E1.put aa _).put aa _).put aa _).put aa _,fj⟩
 rw[aq ok,ah (fun h=>h ok)];simp -dsimp (disch:=try exact dx) only[wpS,wpT,zE];refine call (tf (hs.ai E1.ai) (hl.ai E1.ai)) ?_;rintro _ h2 ⟨X2,rfl⟩;have m2:=X2.n;have e11:=X2.kept aa d11;have e12:=X2.kept aa d12;have e13:=X2.kept aa d13;have e14:=X2.kept aa d14;have e15:=X2.kept aa d15;have E2:=E1.trans X2;rcases pU s lv with le|le
 case inr =>
  rw[le,aq aC];simp -dsimp (disch:=try exact dx) only[wpS,wpT,zE,zL,fw,Eg,st3,dX,nS,Vl,ld3,cP,pG,jF,e12,e13,e14,e15,tk1];exact⟨(((E2.put aa _).put aa _).put aa _).put aa _,fj⟩
 rw[le,ah aC];obtain⟨⟨s1,s2,s3⟩,l1,l2,l3⟩:=kN le;have hw2:=hw.1;simp -dsimp (disch:=try exact dx) only[wpS,wpT,zE,Vl];refine call (O6 cv hw.1.cells hs.1.cells hl.1.cells) ?_;rintro _ H3 ⟨rfl,hH3⟩;have n3:H3.n=h2.n+5:=by rw[hH3];rfl
 have E3:Ext h H3:=by rw[hH3];exact((((E2.new _).new _).new _).new _).new _
 have X3:Ext h2 H3:=by rw[hH3];exact(((((Ext.refl h2).new _).new _).new _).new _).new _
 have k18:H3.ext.get h2.n=some (.cells [.slice none 0 0] 0 none):=by rw[hH3];simp (disch:=try exact dx) only[ar,aE]
 have k0:H3.ext.get (h2.n+1)=some (.cells [kv] 0 none):=by rw[hH3];simp (disch:=try exact dx) only[ar,aE]
 have k1:H3.ext.get (h2.n+1+1)=some (.cells [wv] 0 none):=by rw[hH3];simp (disch:=try exact dx) only[ar,aE]
 have k2:H3.ext.get (h2.n+1+2)=some (.cells [sv] 0 none):=by rw[hH3];simp (disch:=try exact dx) only[ar,aE]
 have k3:H3.ext.get (h2.n+1+3)=some (.cells [lvv] 0 none):=by rw[hH3];simp (disch:=try exact dx) only[ar]
 clear hH3;have f11:=X3.kept aa e11;have f12:=X3.kept aa e12;have f13:=X3.kept aa e13;have f14:=X3.kept aa e14;have f15:=X3.kept aa e15;simp -dsimp (disch:=try exact dx) only[wpS];refine OM (fun fr H => ∃cpv ks kvs n1,RdA h H c h2.n ll ws s lv lv.length cpv ks kvs n1∧ax fr 0=some kv∧ax fr 2=some sv∧ax fr 3=some lvv∧ax fr 4=some stv∧ax fr 11=some (ptr (2*h.n) 0)∧ax fr 12=some (ptr (2*(h.n+1)) 0)∧ax fr 13=some (ptr (2*(h.n+2)) 0)∧ax fr 14=some (ptr (2*(h.n+3)) 0)∧ax fr 15=some (ptr (2*(h.n+4)) 0)∧ax fr 18=some (ptr (2*h2.n) 0)) ?_ ?_
 ·refine T5 (p:=51) (q:=52) (nt:=197) rfl rfl aC aC (fun r y hfn hnt hbd hy=>?_);let C:IH→Prop:=fun hh=>Ext h hh∧H3.n<hh.n∧hh.ext.get (h2.n+1)=some (.cells [kv] 0 none)∧hh.ext.get (h2.n+1+1)=some (.cells [wv] 0 none)∧hh.ext.get (h2.n+1+2)=some (.cells [sv] 0 none)∧hh.ext.get (h2.n+1+3)=some (.cells [lvv] 0 none);let O:Nat→IH→Prop:=fun i hh => ∃cpv ks kvs,RdA h hh c h2.n ll ws s lv i cpv ks kvs (H3.n+1);let J:Nat→IH→Prop:=fun i hh=>C hh∧hh.ext.get H3.n=some (.loop r)∧O i hh;let D:IH→Prop:=fun hh=>C hh∧((hh.ext.get H3.n=some (.loop r)∧O lv.length hh)∨(hh.ext.get H3.n=some (.loop (u6 r .ret))∧v8 ll ws s lv≠0∧hh.ext.get (h.n+1)=some (.cells [.slice none 0 0] 0 none)∧hh.ext.get (h.n+2)=some (.cells [KI 0] 0 none)∧hh.ext.get (h.n+3)=some (.cells [.int .u64 0] 0 none)∧hh.ext.get (h.n+4)=some (.cells [KI (v8 ll ws s lv)] 0 none)));refine(WV.mono (LD (b:=h2.n+1) (kv:=kv) (wv:=wv) (sv:=sv) (lvv:=lvv) (ll:=ll) (ws:=ws) (s:=s) (lv:=lv) J D ?_ ?_ ?_ aa ?_ ?_) ?_)
  ·rintro i hh ⟨⟨c1,c2,c3,c4,c5,c6⟩,_⟩;exact⟨c3,c4,c5,c6,aa,hk.ai c1.ai,hw.ai c1.ai,hs.ai c1.ai,hl.ai c1.ai⟩
  ·refine⟨⟨E3.new _,ab,?_,?_,?_,?_⟩,ar _ _ rfl,.slice none 0 0,[],[],⟨E3.new _,?_,?_,?_,?_,?_,⟨aa,aa,aA _⟩,?_,Acc.nil _ _ aa,⟨rfl,fun i j a b _ ha=>by simp at ha,fun j k hj=>by simp at hj⟩,fun j b hj=>aa⟩⟩;all_goals rw[aE _ _ aa];assumption
  ·rintro hh ⟨c,hr,o⟩;exact⟨c,.inl ⟨hr,o⟩⟩
  ·rintro i hh h3 a out ha ⟨⟨c1,c2,c3,c4,c5,c6⟩,hr,cpv,ks,kvs,A⟩ X lev sk;have nX:=X.n;have hr3:=X.kept c2 hr;refine hy _ _ h3 _ hr3 ?_;obtain⟨co1,co2,_⟩:=sk.co;simp -dsimp (disch:=try exact dx) only[wpS,wpT,zE,zL,zA,PZ,Vv,MN,co2];obtain⟨H4,hH4⟩ : ∃H,H=(h3.new (.cells [KI 0,.slice none 0 0] 0 none)).put h3.n (.cells [KI a,out] 0 none):=⟨_,rfl⟩;have n4:H4.n=h3.n+1:=by rw[hH4];rfl
   have E4:Ext h3 H4:=by rw[hH4];exact((Ext.refl h3).new _).put (aA _) _
   have g19:H4.ext.get h3.n=some (.cells [KI a,out] 0 none):=by rw[hH4];simp (disch:=try exact dx) only[aj]
   rw[←hH4];clear hH4;have hr4:=E4.kept aa hr3;refine⟨rfl,hr4,?_⟩;rw[hfn,hnt,hbd];have A5:=(A.ext (X.trans E4)).loop hr4 aa (.loop (oP r));obtain⟨H5,hH5⟩ : ∃H,H=H4.put H3.n (.loop (oP r)):=⟨_,rfl⟩;have n5:H5.n=h3.n+1:=by rw[hH5];exact n4
   have g19':H5.ext.get h3.n=some (.cells [KI a,out] 0 none):=by rw[hH5,au _ _ aa];exact g19
   have hr5:H5.ext.get H3.n=some (.loop (oP r)):=by rw[hH5];exact aj _ _ rfl
   have sk5:iN H5 out (xN ll ws s a):=by rw[hH5];exact sk.ai (E4.ai.QS (by rintro c e f hc;rw[hr4] at hc;cases hc) _)
   have cc5 : ∀(k:Nat) cs,k<H3.n→hh.ext.get k=some (.cells cs 0 none)→H5.ext.get k=some (.cells cs 0 none):=fun k cs hk hg=>by rw[hH5,au _ _ aa];exact(X.trans E4).kept aa hg
   rw[←hH5] at A5 ⊢;clear hH5;have kl:ks.length=i:=by have:=A5.acc.2.1;simpa using this
   have E56:Ext H5 (H5.new (.cells [KI a,out,KI 0] 0 none)):=(Ext.refl H5).new _;have g6:(H5.new (.cells [KI a,out,KI 0] 0 none)).ext.get H5.n=some (.cells [KI a,out,KI 0] 0 none):=ar _ _ rfl;have ksl : ∀j∈ks,j<H5.n:=fun j hj=>by obtain⟨q,hq⟩:=gH hj;exact(A5.rep.get q j hq).2.1
   have R6:=(A5.rep.ext E56).snoc (k:=H5.n) (kv:=out) ksl aa ab (by rw[kl,bH,ha];exact g6);obtain⟨SN,H7,hap,hA7,hG7,hE7⟩:=(A5.acc.ext E56).qC (P:=prog) (t:=100) Zav (m:=1) (new:=[pk H5.n]) aa rfl rfl (by have:=(bU.1 ha).1;omega) aT (A5.e.trans E56) (aA _);have lD:append prog ((H5.new (.cells [KI a,out,KI 0] 0 none)).new (.cells [ptr (2*H5.n) 0] 1 none)) 100 cpv (.slice (some ⟨2*(H5.n+1),0,none⟩) 1 3)=some (SN,H7):=hap;have v : ∀(k:Nat) cs,k≤h2.n→H5.ext.get k=some (.cells cs 0 none)→H7.ext.get k=some (.cells cs 0 none):=fun k cs hk hg=>hG7.var (by simp only[aH];omega) (E56.kept aa hg);have w18:=v _ _ (aA _) A5.g18;simp -dsimp (disch:=try exact dx) only[wpS,wpT,zE,zL,zA,Fv,YX,Z8,Ue,Zab,Yv,PT,ay A5.g18,ay g19',lD,w18,hA7.sl.cells,hA7.sl.cok,tk2r];have n7:=hG7.n;have n6:(H5.new (.cells [KI a,out,KI 0] 0 none)).n=H5.n+1:=rfl;have hr7:=hG7.box (by simp only[aH];omega) (E56.kept aa hr5) (by rintro c e f ⟨⟩);obtain⟨H8,hH8⟩ : ∃H,H=H7.put h2.n (.cells [SN] 0 none):=⟨_,rfl⟩;have n8:H8.n=H7.n:=by rw[hH8];rfl
   have hr8:H8.ext.get H3.n=some (.loop (oP r)):=by rw[hH8,au _ _ aa];exact hr7
   have K58:bj H5 H8:=by rw[hH8];exact(E56.ai.trans hG7.ai).put w18 _
   have A8:RdA h H8 c h2.n ll ws s lv (i+1) SN (ks ++ [H5.n]) (kvs ++ [out]) (H3.n+1):=by
    rw[hH8];have z : ∀(j:Nat) cs,j<h2.n→H5.ext.get j=some (.cells cs 0 none)→(H7.put h2.n (.cells [SN] 0 none)).ext.get j=some (.cells cs 0 none):=fun j cs hj hg=>by rw[au _ _ aa];exact v _ _ aa hg
    refine⟨hE7.put aa _,z _ _ aa A5.g11,z _ _ aa A5.g12,z _ _ aa A5.g13,z _ _ aa A5.g14,z _ _ aa A5.g15,⟨aa,aa,by simp only[aJ];omega⟩,aj _ _ rfl,?_,(R6.grow hG7).put aa _,fun j b hj hb=>?_⟩;·rw[gF];exact hA7.put w18 _
    ·rw[hH8] at K58;by_cases hji:j=i
     ·subst hji;rw[ha] at hb;cases hb;exact⟨out,by rw[gI (by rw[←A5.rep.len];omega),←A5.rep.len,kl,nD];rfl,sk5.ai K58,lev⟩
     ·obtain⟨kv',b1,b2,b3⟩:=A5.ker j b aa hb;exact⟨kv',by rw[ef (by rw[←A5.rep.len];omega)];exact b1,b2.ai K58,b3⟩
   have cc8 : ∀(k:Nat) cs,k<H3.n→k≠h2.n→hh.ext.get k=some (.cells cs 0 none)→(H8.put H3.n (.loop r)).ext.get k=some (.cells cs 0 none):=fun k cs hk h2k hg=>by rw[au _ _ aa,hH8,au _ _ h2k];exact hG7.var (by simp only[aH];omega) (E56.kept aa (cc5 k cs hk hg))
   rw[←hH8];exact⟨hr8,rfl,⟨(A8.e.put aa _),by simp only[aJ];omega,cc8 _ _ aa aa c3,cc8 _ _ aa aa c4,cc8 _ _ aa aa c5,cc8 _ _ aa aa c6⟩,aj _ _ rfl,SN,_,_,A8.loop hr8 aa _⟩
  ·rintro i hh h3 a ha ⟨⟨c1,c2,c3,c4,c5,c6⟩,hr,cpv,ks,kvs,A⟩ X lev;have nX:=X.n;have hr3:=X.kept c2 hr;refine hy _ _ h3 _ hr3 ?_;simp -dsimp (disch:=try exact dx) only[wpS,wpT,zE,zL,zA,PZ,Vv,MN];obtain⟨H4,hH4⟩ : ∃H,H=(h3.new (.cells [KI 0,.slice none 0 0] 0 none)).put h3.n (.cells [KI a,.slice none 0 0] 0 none):=⟨_,rfl⟩;have n4:H4.n=h3.n+1:=by rw[hH4];rfl
   have E4:Ext h3 H4:=by rw[hH4];exact((Ext.refl h3).new _).put (aA _) _
   rw[←hH4];clear hH4;have hr4:=E4.kept aa hr3;refine⟨rfl,hr4,?_⟩;rw[hfn,hnt,hbd];have A5:=(A.ext (X.trans E4)).loop hr4 aa (.loop (oP r));obtain⟨H5,hH5⟩ : ∃H,H=H4.put H3.n (.loop (oP r)):=⟨_,rfl⟩;have n5:H5.n=h3.n+1:=by rw[hH5];exact n4
   have hr5:H5.ext.get H3.n=some (.loop (oP r)):=by rw[hH5];exact aj _ _ rfl
   have cc5 : ∀(k:Nat) cs,k<H3.n→hh.ext.get k=some (.cells cs 0 none)→H5.ext.get k=some (.cells cs 0 none):=fun k cs hk hg=>by rw[hH5,au _ _ aa];exact(X.trans E4).kept aa hg
   rw[←hH5] at A5 ⊢;clear hH5;have d:(ig ll ws s a != 0)=true:=by simpa using lev
   have le2:v8 ll ws s lv=ig ll ws s a:=Nr ha (fun j b hj hb=>(A5.ker j b hj hb).choose_spec.2.2) lev;have g13:H5.ext.get (h.n+1+1)=_:=A5.g13;have g14:H5.ext.get (h.n+1+1+1)=_:=A5.g14;have g15:H5.ext.get (h.n+1+1+1+1)=_:=A5.g15;simp -dsimp (disch:=try exact dx) only[wpS,wpT,zE,zL,fw,Eg,st3,dX,nS,d,A5.g12,g13,g14,g15];refine⟨?_,rfl,⟨((((A5.e.put aa _).put aa _).put aa _).put aa _).put aa _,by simp only[aJ];omega,?_,?_,?_,?_⟩,.inr ⟨aj _ _ rfl,by rw[le2];exact lev,?_,?_,?_,?_⟩⟩
   ·simp (disch:=try exact dx) only[au];exact hr5
   ·simp (disch:=try exact dx) only[au];exact cc5 _ _ aa c3
   ·simp (disch:=try exact dx) only[au];exact cc5 _ _ aa c4
   ·simp (disch:=try exact dx) only[au];exact cc5 _ _ aa c5
   ·simp (disch:=try exact dx) only[au];exact cc5 _ _ aa c6
   ·simp (disch:=try exact dx) only[aj,au]
   ·simp (disch:=try exact dx) only[aj,au]
   ·simp (disch:=try exact dx) only[aj,au]
   ·rw[le2];simp (disch:=try exact dx) only[aj,au]
  ·rintro _ hh ⟨⟨c1,c2,c3,c4,c5,c6⟩,hd⟩;rcases hd with⟨hr,cpv,ks,kvs,A⟩|⟨hr,q0,q1,q2,q3,q4⟩
   ·refine .inl ⟨hr,?_⟩;have B:=A.loop hr aa .dead;simp -dsimp (disch:=try exact dx) only[wpS];exact⟨cpv,ks,kvs,_,B,ab,ab,ab,ab,ab,ab,ab,ab,ab,ab⟩
   ·refine .inr (.inr ⟨hr,?_⟩);have z : ∀(j:Nat) o,j<H3.n→hh.ext.get j=some o→(hh.put H3.n .dead).ext.get j=some o:=fun j o hj hg=>by rw[au _ _ aa];exact hg
    have w12:=z _ _ aa q1;have w13:(hh.put H3.n .dead).ext.get (h.n+1+1)=some (.cells [KI 0] 0 none):=z _ _ aa q2;have w14:(hh.put H3.n .dead).ext.get (h.n+1+1+1)=some (.cells [.int .u64 0] 0 none):=z _ _ aa q3;have w15:(hh.put H3.n .dead).ext.get (h.n+1+1+1+1)=some (.cells [KI (v8 ll ws s lv)] 0 none):=z _ _ aa q4;rw[aq q0];simp -dsimp (disch:=try exact dx) only[wpS,wpT,zE,zL,ld3,cP,pG,jF,ay w12,ay w13,ay w14,ay w15,tk1];exact⟨c1.put aa _,fj⟩
 ·rintro fr H ⟨cpv,ks,kvs,n1,A,f0,f2,f3,f4,f11,f12,f13,f14,f15,f18⟩;have tl:=ht.2.1;have lb:=ok.2.1;have lb1:=ok.1;have bn:=A.bn;have eN:=A.e.n;have kl:ks.length=lv.length:=by have:=A.acc.2.1;simpa using this
  rw[Je (fun j b hj hb=>(A.ker j b hj hb).choose_spec.2.2),ah aC];by_cases hq:st.length=lv.length
  case neg =>
   rw[aq (.inl hq)];have d:((st.length:Int) != (lv.length:Int))=true:=aT;simp -dsimp (disch:=try exact dx) only[wpS,wpT,zE,zL,fw,Eg,st3,dX,nS,ld3,cP,pG,jF,f3,f4,f12,f13,f14,f15,Lz,Qj,d,A.g12,A.g13,A.g14,A.g15,tk1];exact⟨(((A.e.put aa _).put aa _).put aa _).put aa _,fj⟩
  have d:((st.length:Int) != (lv.length:Int))=false:=aT;simp -dsimp (disch:=try exact dx) only[wpS,wpT,zE,f0,f3,f4,Lz,Qj,hlen,d];refine call (Aw (ht.ai A.e.ai)) ?_;rintro _ G ⟨XG,rfl⟩;have AG:=A.ext XG;have nG:=XG.n;clear A;by_cases ho:st.any (ns ((ll.length:Int) - 1))=true
  ·rw[aq (.inr ho),ho];simp -dsimp (disch:=try exact dx) only[wpS,wpT,zE,zL,fw,Eg,st3,dX,nS,ld3,cP,pG,jF,f12,f13,f14,f15,AG.g12,AG.g13,AG.g14,AG.g15,tk1];exact⟨(((AG.e.put aa _).put aa _).put aa _).put aa _,fj⟩
  rw[ah (by rintro(x|x);exact x hq;exact ho x)];have ho':st.any (ns ((ll.length:Int) - 1))=false:=by simpa using ho
  rw[ho'];have hst:=tx ho';obtain⟨rows,Jt⟩ : ∃rows,rows=fun i=>(xN ll ws s (lv.getD i 0)).getD (st.getD i 0).toNat []:=⟨_,rfl⟩;rw[←Jt];generalize LQ:exF s lv=fin;have NW:=AG.acc.sl.len (P:=prog) Iu;simp -dsimp (disch:=try exact dx) only[wpS,zE,Fv,f18,ay AG.g18,NW];refine yT (fun fr H => ∃p ci,p.length=lv.length∧ci<18446744073709551616∧(∀x∈p,x<ll.length)∧mvT rows lv.length 0 [] c=(p,ci,0)∧RdB h H ci h2.n 0 lv cpv ks kvs n1 (fun j=>p.getD j 0)∧ax fr 2=some sv∧ax fr 11=some (ptr (2*h.n) 0)∧ax fr 12=some (ptr (2*(h.n+1)) 0)∧ax fr 13=some (ptr (2*(h.n+2)) 0)∧ax fr 14=some (ptr (2*(h.n+3)) 0)∧ax fr 15=some (ptr (2*(h.n+4)) 0)∧ax fr 18=some (ptr (2*h2.n) 0)) ?_ ?_
  ·refine loop (fun m fr H => ∃(i:Nat) (p:List Nat) (ci:Nat),i+m=lv.length∧p.length=i∧ci<18446744073709551616∧mvT rows lv.length 0 [] c=mvT rows m i p ci∧bj G H∧RdB h H ci h2.n 0 lv cpv ks kvs n1 (fun j=>p.getD j 0)∧(∀x∈p,x<ll.length)∧ax fr 2=some sv∧ax fr 4=some stv∧ax fr 11=some (ptr (2*h.n) 0)∧ax fr 12=some (ptr (2*(h.n+1)) 0)∧ax fr 13=some (ptr (2*(h.n+2)) 0)∧ax fr 14=some (ptr (2*(h.n+3)) 0)∧ax fr 15=some (ptr (2*(h.n+4)) 0)∧ax fr 18=some (ptr (2*h2.n) 0)∧ax fr 76=some cpv∧ax fr 77=some (KN lv.length)∧ax fr 78=some (KN i)) lv.length ⟨0,[],c,aa,rfl,hc,rfl,bj.refl _,⟨AG.e,AG.g11,AG.g12,AG.g13,AG.g14,AG.g15,AG.bn,AG.g18,AG.acc,AG.rep.fn (fun j _=>ab)⟩,ab,by simp[f2],by simp[f4],by simp[f11],by simp[f12],by simp[f13],by simp[f14],by simp[f15],by simp[f18],ab,ab,ab⟩ ?_;clear f0 f2 f3 f4 f11 f12 f13 f14 f15 f18;rintro m fr H ⟨i,p,ci,him,hpl,hci,hT,hK,B,hp,f2,f4,f11,f12,f13,f14,f15,f18,f76,f77,f78⟩;have nH:=hK.n;simp -dsimp (disch:=try exact dx) only[wpS,f77,f78];refine aG ?_ ?_<;>intro hb2<;>simp only[aS,aV] at hb2
   ·have hi:i<lv.length:=aa
    obtain⟨q,rfl⟩ : ∃q,m=q+1:=⟨m - 1,aa⟩;obtain⟨a,ha⟩ : ∃a,lv[i]?=some a:=⟨_,aK hi⟩;obtain⟨si,hsi⟩ : ∃a,st[i]?=some a:=⟨_,aK aa⟩;obtain⟨k,hki⟩ : ∃a,ks[i]?=some a:=⟨_,aK aa⟩;obtain⟨kv',kk1,kk2,kk3⟩:=AG.ker i a hi ha;obtain⟨ok2,WY,_⟩:=vJ kk3;obtain⟨x1,x2⟩:=hst si (bh hsi);obtain⟨x,rfl⟩:=fV x1;obtain⟨row,gO⟩ : ∃row,(xN ll ws s a)[x]?=some row:=⟨_,aK aa⟩;obtain⟨rl,ro⟩:=ok2.2.2 row (bh gO);have hri:rows i=row:=by rw[Jt];show(xN ll ws s (lv.getD i 0)).getD (st.getD i 0).toNat []=row;rw[bH,bH,bH,ha,hsi,jf,jf,iv,gO];rfl
    have pki:(ks.map pk)[i]?=some (pk k):=by rw[dM,hki];rfl
    have ixk:=B.acc.sl.idx NI (P:=prog) (k:=.i64) (j:=i) hi;rw[fI] at ixk;have ldk:=(B.acc.sl.ld (bj.refl H) aT N9 (P:=prog) (c:=i)).trans pki;have ixs:=ht.1.idx gl (P:=prog) (k:=.i64) (j:=i) aa;have lds:=fc ht B.e.ai hsi;obtain⟨k1,k2,kv2,k3,k4⟩:=B.rep.get i k hki;rw[kk1] at k3;cases k3;obtain⟨H1,hH1⟩ : ∃H1,H1=H.put k (.cells [KI (lv.getD i 0),kv',KN x] 0 none):=⟨_,rfl⟩;have B1:=B.set (H':=H1) (x:=x) hki kk1 (by rw[hH1];exact CP _ _ _) (by rw[hH1];exact aj _ _ rfl);have K1:bj G H1:=by rw[hH1];exact hK.put k4 _
    have g1:H1.ext.get k=some (.cells [KI (lv.getD i 0),kv',KN x] 0 none):=by rw[hH1];exact aj _ _ rfl
    have n1':H1.n=H.n:=by rw[hH1];rfl
    simp -dsimp (disch:=try exact dx) only[wpS,wpT,zE,zL,zA,st3,vT,cP,f4,f11,f76,f78,ixk,ldk,ixs,lds,pk,k4,←hH1,ay B1.g11,tk1];clear hH1;have hgd:lv.getD i 0=a:=by rw[bH,ha];rfl
    obtain⟨an,rfl⟩:=fV (l3 a (bh ha)).1;have sk1:=kk2.ai K1;have hw8 : ∀p∈row,p.1<W8∧p.2<W8:=by obtain⟨wr,A1,A2,A3⟩:=sk1.mG gO;exact A2.2.2
    obtain⟨fb1,fb2⟩:=YG ro hw8 hci;refine call (P2 (Un (lev:=an) (x:=x) sk1 gO ro aa aa (by rw[hgd] at g1;exact g1) hci)) ?_;rintro _ H3 ⟨rfl,H2,X2,S2,hg2⟩;rw[mvT,hri] at hT;obtain⟨F,hF⟩ : ∃F,F=mvF row ci:=⟨_,rfl⟩;rw[←hF] at hT hg2 fb1 fb2 ⊢;have B2:=B1.ext X2;have n2:=X2.n;have z : ∀(j:Nat) o,j≤h2.n→H2.ext.get j=some o→H3.ext.get j=some o:=fun j o hj hg=>by rw[S2.2.2.1 j aa];exact hg
    have E3':Ext h H3:=⟨by rw[S2.1];exact B2.e.n,by rw[S2.2.1];exact B2.e.base,fun j hj=>by rw[S2.2.2.1 j aa];exact B2.e.get j hj,fun j hj=>by rw[S2.2.2.2];exact B2.e.eP j hj⟩;have y11:=z _ _ aa B2.g11;have y12:=z _ _ aa B2.g12;have y13:=z _ _ aa B2.g13;have y14:=z _ _ aa B2.g14;have y15:=z _ _ aa B2.g15;by_cases er:F.2.2=0
    case neg =>
     rw[aq er] at hT;rw[hT,aq er];have d:(F.2.2 != 0)=true:=by simpa using er
     obtain⟨H4,hH4⟩ : ∃H,H=(H3.put h.n (.cells [K64 F.2.1] 0 none)).put (h.n+4) (.cells [KI F.2.2] 0 none):=⟨_,rfl⟩;have w12:H4.ext.get (h.n+1)=some (.cells [.slice none 0 0] 0 none):=by rw[hH4];simp (disch:=try exact dx) only[au];exact y12
     have w13:H4.ext.get (h.n+2)=some (.cells [KI 0] 0 none):=by rw[hH4];simp (disch:=try exact dx) only[au];exact y13
     have w14:H4.ext.get (h.n+3)=some (.cells [.int .u64 0] 0 none):=by rw[hH4];simp (disch:=try exact dx) only[au];exact y14
     have w15:H4.ext.get (h.n+4)=some (.cells [KI F.2.2] 0 none):=by rw[hH4];simp (disch:=try exact dx) only[aj]
     have E4:Ext h H4:=by rw[hH4];exact(E3'.put aa _).put aa _
     simp -dsimp (disch:=try exact dx) only[wpS,wpT,zE,zL,dX,nS,pG,f11,f15,y11,y15,chV,d,←hH4,ay w15];clear hH4;refine drawn [(1,[3,4,5])] ae ae rfl ?_;simp -dsimp (disch:=try exact dx) only[wpS,wpT,zE,zL,fw,Eg,st3,dX,nS,pG,f12,f13,f14,f15,w12,w13,w14,w15,ay w15];have L0:=ldS (P:=prog) Tl (o:=0) (v:=KI F.2.2) w15 rfl;have L1:=ldS (P:=prog) Tl (h:=H4.put (h.n+1) (.cells [.slice none 0 0] 0 none)) (k:=h.n+4) (o:=0) (v:=KI F.2.2) (by simp (disch:=try exact dx) only[au];exact w15) rfl;have L2:=ldS (P:=prog) Tl (h:=(H4.put (h.n+1) (.cells [.slice none 0 0] 0 none)).put (h.n+2) (.cells [KI 0] 0 none)) (k:=h.n+4) (o:=0) (v:=KI F.2.2) (by simp (disch:=try exact dx) only[au];exact w15) rfl;have L3:=ldS (P:=prog) Tl (h:=((H4.put (h.n+1) (.cells [.slice none 0 0] 0 none)).put (h.n+2) (.cells [KI 0] 0 none)).put (h.n+3) (.cells [K64 0] 0 none)) (k:=h.n+4) (o:=0) (v:=KI F.2.2) (by simp (disch:=try exact dx) only[au];exact w15) rfl;refine⟨bg (az rfl rfl rfl rfl (aO (av:=ptr (2*(h.n+4)) 0) (by simp[f15]) L0 L1)) (bg (az rfl rfl rfl rfl (aO (av:=ptr (2*(h.n+4)) 0) (by simp[f15]) L0 L2)) (az rfl rfl rfl rfl (aO (av:=ptr (2*(h.n+4)) 0) (by simp[f15]) L0 L3))),?_⟩;simp -dsimp (disch:=try exact dx) only[wpS,wpT,zE,zL,zA,ld3,cP,pG,jF,tk1,f12,f13,f14,f15];exact⟨(((E4.put aa _).put aa _).put aa _).put aa _,fj⟩
    rw[ah (fun h=>h er)] at hT;rw[er];have B3:=((B2.set hki kk1 S2 (by rw[hgd];exact hg2 er)).VG F.2.1).YC;simp -dsimp (disch:=try exact dx) only[wpS,wpT,zE,zL,dX,nS,pG,f11,f15,f78,y11,y15,chV];refine⟨q,aa,i+1,p ++ [F.1],F.2.1,aa,by simp[hpl],fb1,hT,?_,?_,fun y hy=>?_,by simp[f2],by simp[f4],by simp[f11],by simp[f12],by simp[f13],by simp[f14],by simp[f15],by simp[f18],by simp[f76],by simp[f77],ab⟩;·exact((((K1.trans X2.ai).trans (S2.ai (X2.kept aa g1))).put y11 _).put (cs:=[KI 0]) (f:=none) (by rw[au _ _ aa];exact y15) _)
    ·obtain⟨e,b1,b2,b3,b4,b5,b6,b7,b8,b9⟩:=B3
     refine⟨e,b1,b2,b3,b4,b5,b6,b7,b8,b9.fn fun j hj=>?_⟩
     rw[Pj,hpl]
     split<;>rfl
    ·rcases fC.1 hy with hy|hy
     ·exact hp y hy
     ·rw[gQ.1 hy];have:=fb2 er;omega
   ·obtain rfl:i=lv.length:=aa;obtain rfl:m=0:=aa;simp -dsimp (disch:=try exact dx) only[wpS,wpT];exact⟨p,ci,hpl,hci,hp,hT,B,by simp[f2],by simp[f11],by simp[f12],by simp[f13],by simp[f14],by simp[f15],by simp[f18]⟩
  clear f0 f2 f3 f4 f11 f12 f13 f14 f15 f18 NW;rintro fr H ⟨p,ci,hpl,hci,hp,hT,B,f2,f11,f12,f13,f14,f15,f18⟩;have KG : ∀j b,j<lv.length→lv[j]?=some b→ig ll ws s b=0:=fun j b hj hb=>(AG.ker j b hj hb).choose_spec.2.2;rw[hT,ah (show ¬((p,ci,(0:Int)).2.2≠0) from fun h=>h rfl)];obtain⟨X,hX⟩ : ∃X,X=fin p ci:=⟨_,rfl⟩;rw[show fin (p,ci,(0:Int)).1 (p,ci,(0:Int)).2.1=X from hX.symm];rw[←LQ] at hX;clear hT LQ;obtain⟨lim,RK⟩ : ∃lim,lim=min (lv.length - 1) 1:=⟨_,rfl⟩;have Hp:(if (1<(lv.length:Int) - 1) then 1 else ((lv.length:Int) - 1))=(lim:Int):=by split<;>omega
  have B1:=B.VF (-1);obtain⟨H1,hH1⟩ : ∃H1,H1=H.put (h.n+2) (.cells [KI (-1)] 0 none):=⟨_,rfl⟩;rw[←hH1] at B1;have NW:=B1.acc.sl.len (P:=prog) Iu;simp -dsimp (disch:=try exact dx) only[wpS,wpT,zE,zL,st3,Fv,f13,f18,B.g13,←hH1,ay B1.g18,NW,Lv,Hp];clear hH1 B;refine yT (fun fr H => ∃p2 sw c2,X=(p2,sw,c2,0)∧p2.length=lv.length∧RdB h H c2 h2.n sw lv cpv ks kvs n1 (fun j=>p2.getD j 0)∧ax fr 11=some (ptr (2*h.n) 0)∧ax fr 12=some (ptr (2*(h.n+1)) 0)∧ax fr 13=some (ptr (2*(h.n+2)) 0)∧ax fr 14=some (ptr (2*(h.n+3)) 0)∧ax fr 15=some (ptr (2*(h.n+4)) 0)∧ax fr 18=some (ptr (2*h2.n) 0)) ?_ ?_
  ·refine loop (fun m fr H => ∃i:Nat,i+m=lim∧ax fr 2=some sv∧ax fr 11=some (ptr (2*h.n) 0)∧ax fr 12=some (ptr (2*(h.n+1)) 0)∧ax fr 13=some (ptr (2*(h.n+2)) 0)∧ax fr 14=some (ptr (2*(h.n+3)) 0)∧ax fr 15=some (ptr (2*(h.n+4)) 0)∧ax fr 18=some (ptr (2*h2.n) 0)∧ax fr 106=some (KN lim)∧ax fr 107=some (KN i)∧((i=0∧RdB h H ci h2.n (-1) lv cpv ks kvs n1 (fun j=>p.getD j 0))∨(i=1 ∧ ∃p2 sw c2,X=(p2,sw,c2,0)∧p2.length=lv.length∧RdB h H c2 h2.n sw lv cpv ks kvs n1 (fun j=>p2.getD j 0)))) lim ⟨0,aa,by simp[f2],by simp[f11],by simp[f12],by simp[f13],by simp[f14],by simp[f15],by simp[f18],ab,ab,.inl ⟨rfl,B1⟩⟩ ?_;clear f2 f11 f12 f13 f14 f15 f18 B1;rintro m fr H ⟨i,him,f2,f11,f12,f13,f14,f15,f18,f106,f107,hI⟩;simp -dsimp (disch:=try exact dx) only[wpS,f106,f107];refine aG ?_ ?_<;>intro hb3<;>simp only[aS,aV] at hb3
   ·have hi0:i=0:=aa;have h2l:2≤lv.length:=aa;subst hi0
    obtain⟨_,B⟩:0=0∧RdB h H ci h2.n (-1) lv cpv ks kvs n1 (fun j=>p.getD j 0):=by
     rcases hI with hI|hI;·exact hI
     ·exact absurd hI.1 aa
    clear hI;have cpl:=B.acc.sl.len (P:=prog) Iu;have lq:(lv.length:Int) - 1=((lv.length - 1:Nat):Int):=aa;simp -dsimp (disch:=try exact dx) only[wpS,wpT,zE,zL,Fv,cP,f11,f18,ay B.g11,ay B.g18,cpl,tk1,lq];refine call (Mi (s:=ci) (n:=((lv.length - 1:Nat):Int)) ⟨aa,aa⟩) ?_;rintro _ h3 ⟨X3,rfl⟩;have B3:=B.ext X3;unfold Ax;rw[ah (show ¬((lv.length - 1:Nat):Int)<1 by omega),iv];rcases hbt:jR (lv.length - 1) TR ci with _|⟨k,c2⟩
    ·have eX:exF s lv p ci=([],0,0,9):=by unfold exF;rw[ah aa,hpl];simp only[hbt]
     rw[eX] at hX;rw[hX];show Do (gX _ _ _ (.tuple #[KI 0,chV 0,KI 9])) _ _;obtain⟨H4,hH4⟩ : ∃H,H=(h3.new (.cells [.int .u64 0] 0 none)).put h3.n (.cells [K64 0] 0 none):=⟨_,rfl⟩;have B4:=B3.ext (show Ext h3 H4 by rw[hH4];exact((Ext.refl h3).new _).put (aA _) _);simp -dsimp (disch:=try exact dx) only[wpS,wpT,zE,zL,lz,fw,Eg,st3,dX,nS,ld3,cP,pG,jF,f12,f13,f14,f15,←hH4,B4.g12,B4.g13,B4.g14,B4.g15,chV,tk1];exact⟨(((B4.e.put aa _).put aa _).put aa _).put aa _,fj⟩
    obtain⟨hk1,hc2⟩:=Ay aa hbt;obtain⟨a,ha⟩ : ∃a,lv[k]?=some a:=⟨_,aK aa⟩;obtain⟨b,hb⟩ : ∃a,lv[k+1]?=some a:=⟨_,aK aa⟩;obtain⟨x,hx⟩ : ∃a,p[k]?=some a:=⟨_,aK aa⟩;obtain⟨y,hy⟩ : ∃a,p[k+1]?=some a:=⟨_,aK aa⟩;obtain⟨ka,hka⟩ : ∃a,ks[k]?=some a:=⟨_,aK aa⟩;obtain⟨kb,hkb⟩ : ∃a,ks[k+1]?=some a:=⟨_,aK aa⟩;have x1:=hp x (bh hx);have y1:=hp y (bh hy);have gx:p.getD k 0=x:=by rw[bH,hx];rfl
    have gy:p.getD (k+1) 0=y:=by rw[bH,hy];rfl
    have ga:lv.getD k 0=a:=by rw[bH,ha];rfl
    have gb:lv.getD (k+1) 0=b:=by rw[bH,hb];rfl
    obtain⟨H4,hH4⟩ : ∃H,H=(h3.new (.cells [.int .u64 0] 0 none)).put h3.n (.cells [K64 c2] 0 none):=⟨_,rfl⟩;have E34:Ext h3 H4:=by rw[hH4];exact((Ext.refl h3).new _).put (aA _) _
    have n4:H4.n=h3.n+1:=by rw[hH4];rfl
    have g25:H4.ext.get h3.n=some (.cells [K64 c2] 0 none):=by rw[hH4];simp (disch:=try exact dx) only[aj]
    have B4:=B3.ext E34;show Do (gX _ _ _ (.tuple #[KN k,chV c2,KI 0])) _ _;simp -dsimp (disch:=try exact dx) only[wpS,wpT,zE,zL,lz,dX,chV,←hH4];clear hH4;have pka:(ks.map pk)[k]?=some (pk ka):=by rw[dM,hka];rfl
    have pkb:(ks.map pk)[k+1]?=some (pk kb):=by rw[dM,hkb];rfl
    have ixa:=B4.acc.sl.idx NI (P:=prog) (k:=.i64) (j:=k) aa;have ixb:indexAddr prog 100 cpv (KI ((k:Int)+1))=some (bq cpv ((k+1)*1)):=B4.acc.sl.idx NI (P:=prog) (k:=.i64) (j:=k+1) aa;rw[fI] at ixa ixb;have lda:=(B4.acc.sl.ld (bj.refl H4) aT N9 (P:=prog) (c:=k)).trans pka;have ldb:=(B4.acc.sl.ld (bj.refl H4) aT N9 (P:=prog) (c:=k+1)).trans pkb;obtain⟨ka1,ka2,kva,ka3,ka4⟩:=B4.rep.get k ka hka;obtain⟨kb1,kb2,kvb,kb3,kb4⟩:=B4.rep.get (k+1) kb hkb;rw[ga,gx] at ka4;rw[gb,gy] at kb4;simp -dsimp (disch:=try exact dx) only[wpS,zE,Fv,f18,ay B4.g18,ixa,ixb,lda,ldb,pk];refine drawn [(0,[21])] ae ae rfl ?_;simp -dsimp (maxSteps:=1000000) (disch:=first|omega|(simp only[aH,aJ];omega)|decide +kernel|(repeat first|rw[aH]|rw[aJ])) only[wpS,wpT,zE,zL,ld3,vT,cP,NF,UT,f2,ay g25,ay ka4,ay kb4,tk1];have la:=l3 a (bh ha);have lb2:=l3 b (bh hb);have sl2:s.length=ll.length:=(vJ (KG 0 _ aa (aK aa))).2.2;refine call (A6 (hs.ai B4.e.ai) la lb2 s3 aa aa) ?_;rintro _ h5 ⟨X5,rfl⟩;have B5:=B4.ext X5;rw[iD];have kbl:=HD la lb2 s3 (x:=x) (y:=y) aa aa;obtain⟨q,hq0⟩ : ∃q,q=shq (exq (chK s a b x y)):=⟨_,rfl⟩;rw[←hq0];have qlt:q.1<W8∧q.2<W8:=by rw[hq0];exact rq (Ak kbl)
    have eX:exF s lv p ci=(if (oO q c2).2.2≠0 then (([]:List Nat),(0:Int),(0:Nat),(oO q c2).2.2) else if (oO q c2).1=false then (p,(-1:Int),(oO q c2).2.1,0) else (qJ p k,(k:Int),(oO q c2).2.1,0)):=by unfold exF;rw[ah aa,hpl];simp only[hbt];rw[gx,gy,ga,gb,←hq0]
    clear hq0;rw[eX] at hX;clear eX;have L0:=qn g25;have L1:=qn (X5.kept aa g25);simp -dsimp (disch:=try exact dx) only[wpS,zE];refine call (SS qlt.1 qlt.2 hc2) ?_;rintro _ h7 ⟨X7,rfl⟩;have B7:=B5.ext X7;generalize oO q c2=C at hX;unfold NX;obtain⟨H8,hH8⟩ : ∃H,H=(h7.new (.cells [.int .u64 0] 0 none)).put h7.n (.cells [K64 C.2.1] 0 none):=⟨_,rfl⟩;have E78:Ext h7 H8:=by rw[hH8];exact((Ext.refl h7).new _).put (aA _) _
    have g30:H8.ext.get h7.n=some (.cells [K64 C.2.1] 0 none):=by rw[hH8];simp (disch:=try exact dx) only[aj]
    have B8:=B7.ext E78;have n8:H8.n=h7.n+1:=by rw[hH8];rfl
    simp -dsimp (disch:=try exact dx) only[wpS,wpT,zE,zL,lz,dX,chV,←hH8];clear hH8;refine⟨az rfl rfl rfl rfl (aO (av:=ptr (2*h3.n) 0) (v:=.agg #[K64 c2]) ab L0 L1),?_⟩;by_cases er:C.2.2=0
    case neg =>
     rw[aq er] at hX;rw[hX];have d:(C.2.2 != 0)=true:=by simpa using er
     simp -dsimp (maxSteps:=1000000) (disch:=first|omega|(simp only[aH,aJ];omega)|decide +kernel|(repeat first|rw[aH]|rw[aJ])) only[wpS,wpT,zE,zL,zA,fw,Eg,st3,dX,nS,ld3,cP,pG,jF,f12,f13,f14,f15,B8.g12,B8.g13,B8.g14,B8.g15,tk1,d];exact⟨(((B8.e.put aa _).put aa _).put aa _).put aa _,fj⟩
    rw[ah (fun h=>h er)] at hX;rw[er];have B9:=B8.VG C.2.1;obtain⟨H9,hH9⟩ : ∃H,H=H8.put h.n (.cells [K64 C.2.1] 0 none):=⟨_,rfl⟩;rw[←hH9] at B9;have n9:H9.n=H8.n:=by rw[hH9];rfl
    cases hC:C.1
    ·rw[aq hC] at hX;simp -dsimp (disch:=try exact dx) only[wpS,wpT,zE,zL,zA,dX,cP,f11,ay g30,B8.g11,tk1,←hH9];exact⟨p,-1,C.2.1,hX,hpl,B9,by simp[f11],by simp[f12],by simp[f13],by simp[f14],by simp[f15],by simp[f18]⟩
    rw[ah (by rw[hC];decide)] at hX;obtain⟨ja1,ja2,va,ja3,ja4⟩:=B9.rep.get k ka hka;obtain⟨jb1,jb2,vb,jb3,jb4⟩:=B9.rep.get (k+1) kb hkb;have nab:kb≠ka:=B9.rep.ne hkb hka aa;obtain⟨H10,Ev⟩ : ∃H,H=H9.put ka (.cells [KI (lv.getD k 0),va,KN y] 0 none):=⟨_,rfl⟩;have B10:=B9.set (H':=H10) (x:=y) hka ja3 (by rw[Ev];exact CP _ _ _) (by rw[Ev];exact aj _ _ rfl);have jb5:H10.ext.get kb=some (.cells [KI (lv.getD (k+1) 0),vb,KN (p.getD (k+1) 0)] 0 none):=by rw[Ev,au _ _ nab];exact jb4
    obtain⟨H11,xR⟩ : ∃H,H=H10.put kb (.cells [KI (lv.getD (k+1) 0),vb,KN x] 0 none):=⟨_,rfl⟩;have B11:=B10.set (H':=H11) (x:=x) hkb jb3 (by rw[xR];exact CP _ _ _) (by rw[xR];exact aj _ _ rfl);have B12:=B11.VF (k:Int);rw[gx] at ja4;rw[gy] at jb4 jb5;simp -dsimp (maxSteps:=1000000) (disch:=first|omega|(simp only[aH,aJ];omega)|decide +kernel|(repeat first|rw[aH]|rw[aJ])) only[wpS,wpT,zE,zL,zA,st3,dX,ld3,vT,cP,f11,f13,f107,ay g30,B8.g11,B11.g13,tk1,←hH9,ay ja4,ay jb4,ja4,jb5,←Ev,←xR];refine⟨0,aa,1,aa,by simp[f2],by simp[f11],by simp[f12],by simp[f13],by simp[f14],by simp[f15],by simp[f18],by simp[f106],ab,.inr ⟨rfl,qJ p k,k,C.2.1,hX,by rw[ER,hpl],?_⟩⟩;obtain⟨e,b1,b2,b3,b4,b5,b6,b7,b8,b9⟩:=B12;exact⟨e,b1,b2,b3,b4,b5,b6,b7,b8,b9.fn fun j _=>by rw[←KE aa j,gx,gy]⟩
   ·simp -dsimp (disch:=try exact dx) only[wpS,wpT];rcases hI with⟨rfl,B⟩|⟨rfl,p2,sw,c2,e,l,B⟩
    ·have eX:exF s lv p ci=(p,-1,ci,0):=by unfold exF;rw[aq aa]
     rw[eX] at hX;exact⟨p,-1,ci,hX,hpl,B,by simp[f11],by simp[f12],by simp[f13],by simp[f14],by simp[f15],by simp[f18]⟩
    ·exact⟨p2,sw,c2,e,l,B,by simp[f11],by simp[f12],by simp[f13],by simp[f14],by simp[f15],by simp[f18]⟩
  ·clear f2 f11 f12 f13 f14 f15 f18 B1 hX Hp RK;rintro fr H ⟨p2,sw,c2,rfl,hp2,B,f11,f12,f13,f14,f15,f18⟩;have cpl:=B.acc.sl.len (P:=prog) Iu;simp -dsimp (disch:=try exact dx) only[wpS,Fv,f18,ay B.g18,cpl];refine loop (fun m fr hh => ∃(i:Nat) (out:QQ),i+m=lv.length∧Ext h hh∧bj H hh∧hh.ext.get h.n=some (.cells [K64 c2] 0 none)∧hh.ext.get (h.n+1)=some (.cells [out] 0 none)∧hh.ext.get (h.n+2)=some (.cells [KI sw] 0 none)∧hh.ext.get (h.n+3)=some (.cells [.int .u64 0] 0 none)∧hh.ext.get (h.n+4)=some (.cells [KI 0] 0 none)∧Acc hh h.n 1 out i ((p2.take i).map KN)∧nm hh n1 ks lv kvs (fun j=>p2.getD j 0)∧ax fr 11=some (ptr (2*h.n) 0)∧ax fr 12=some (ptr (2*(h.n+1)) 0)∧ax fr 13=some (ptr (2*(h.n+2)) 0)∧ax fr 14=some (ptr (2*(h.n+3)) 0)∧ax fr 15=some (ptr (2*(h.n+4)) 0)∧ax fr 180=some cpv∧ax fr 181=some (KN lv.length)∧ax fr 182=some (KN i)) lv.length
    ⟨0,.slice none 0 0,aa,B.e,bj.refl _,B.g11,B.g12,B.g13,B.g14,B.g15,Acc.nil _ _ aa,B.rep,by simp[f11],by simp[f12],by simp[f13],by simp[f14],by simp[f15],ab,ab,ab⟩ ?_
   clear f11 f12 f13 f14 f15 f18;rintro m fr hh ⟨i,out,him,hE,hK,g11,g12,g13,g14,g15,hA,hR,f11,f12,f13,f14,f15,f180,f181,f182⟩;have nh:=hE.n;have nK:=hK.n;have bn:=B.bn;simp -dsimp (disch:=try exact dx) only[wpS,f181,f182];refine aG ?_ ?_<;>intro hb4<;>simp only[aS,aV] at hb4
   ·have hi:i<lv.length:=aa;obtain⟨k,hki⟩ : ∃a,ks[i]?=some a:=⟨_,aK aa⟩;obtain⟨x,hx⟩ : ∃a,p2[i]?=some a:=⟨_,aK aa⟩;have gx:p2.getD i 0=x:=by rw[bH,hx];rfl
    have pki:(ks.map pk)[i]?=some (pk k):=by rw[dM,hki];rfl
    have so:=B.acc.sl.ai hK;have ixk:=so.idx NI (P:=prog) (k:=.i64) (j:=i) hi;rw[fI] at ixk;have ldk:=(so.ld (bj.refl hh) aT N9 (P:=prog) (c:=i)).trans pki;obtain⟨k1,k2,kv2,k3,k4⟩:=hR.get i k hki;rw[gx] at k4;simp -dsimp (disch:=try exact dx) only[wpS,wpT,zE,f180,f182,ixk,ldk,pk];refine drawn [(0,[6]),(4,[6])] ae ae rfl ?_;obtain⟨cV,H7,hap,hA7,hG7,hE7⟩:=hA.qC (P:=prog) (t:=25) wg (m:=1) (new:=[KN x]) aa rfl rfl aa aa hE (aA _);have lD:append prog (hh.new (.cells [KN x] 1 none)) 25 out (.slice (some ⟨2*hh.n,0,none⟩) 1 3)=some (cV,H7):=hap;have w12:=hG7.var aa g12;simp -dsimp (disch:=try exact dx) only[wpS,wpT,zE,zL,zA,Eg,ld3,vT,jF,kS,ju,f12,ay g12,ay k4,lD,w12,hA7.sl.cells,hA7.sl.cok];have n7:=hG7.n;have e1:Ext hh (hh.new (.cells [KN x] 1 none)):=(Ext.refl hh).new _;refine⟨aU (az rfl rfl rfl rfl (aO (av:=ptr (2*(h.n+1)) 0) (v:=out) (by simp[f12]) (ldS D3 g12 rfl) (ldS D3 (e1.kept aa g12) rfl))) (az rfl rfl rfl rfl (aO (av:=ptr (2*k) 2) (v:=KN x) ab (ldS ag3 k4 rfl) (ldS ag3 (e1.kept aa k4) rfl))),?_⟩;have z : ∀{j:Nat} {cs:List QQ},j<hh.n→j≠h.n+1→hh.ext.get j=some (.cells cs 0 none)→(H7.put (h.n+1) (.cells [cV] 0 none)).ext.get j=some (.cells cs 0 none):=fun hj h1 hg=>by rw[au _ _ h1];exact hG7.var hj hg
    simp -dsimp (disch:=try exact dx) only[wpS,wpT,zE,zA,f182];refine⟨m - 1,aa,i+1,cV,aa,hE7.put aa _,(hK.trans hG7.ai).put w12 _,z aa aa g11,aj _ _ rfl,z aa aa g13,z aa aa g14,z aa aa g15,?_,(hR.grow hG7).put aa _,by simp[f11],by simp[f12],by simp[f13],by simp[f14],by simp[f15],by simp[f180],by simp[f181],ab⟩;rw[List.take_succ,hx,Option.toList_some,gF];exact hA7.put w12 _
   ·obtain rfl:i=lv.length:=aa;rw[fB aa] at hA;have e:p2.length=lv.length:=hp2;simp -dsimp (disch:=try exact dx) only[wpS,wpT];refine drawn [(1,[4]),(2,[4,5])] ae ae rfl ?_;simp -dsimp (disch:=try exact dx) only[wpS,wpT,zE,zL,Eg,st3,dX,nS,ld3,cP,jF,f11,f12,f13,f14,f15,g12,g13,g14,g15,ay g11,ay g12,ay g13,tk1,hA.sl.cells,hA.sl.cok];have z1 : ∀{j:Nat} {o:cX},j≠h.n+1→hh.ext.get j=some o→(hh.put (h.n+1) (.cells [out] 0 none)).ext.get j=some o:=fun hj hg=>by rw[au _ _ hj];exact hg
    have z2 : ∀{j:Nat} {o:cX},j≠h.n+1→j≠h.n+2→hh.ext.get j=some o→((hh.put (h.n+1) (.cells [out] 0 none)).put (h.n+2) (.cells [KI sw] 0 none)).ext.get j=some o:=fun hj h2 hg=>by rw[au _ _ h2,au _ _ hj];exact hg
    refine⟨aU (az rfl rfl rfl rfl (aO (av:=ptr (2*(h.n+2)) 0) (v:=KI sw) (by simp[f13]) (ldS ag3 g13 rfl) (ldS ag3 (z1 aa g13) rfl))) (bg (az rfl rfl rfl rfl (aO (av:=ptr (2*h.n) 0) (v:=.agg #[K64 c2]) (by simp[f11]) (qn g11) (qn (z1 aa g11)))) (az rfl rfl rfl rfl (aO (av:=ptr (2*h.n) 0) (v:=.agg #[K64 c2]) (by simp[f11]) (qn g11) (qn (z2 aa aa g11))))),?_⟩;simp -dsimp (disch:=try exact dx) only[wpS,wpT,zE,zL,zA,ld3,cP,pG,jF,f12,f13,f14,f15,tk1];refine⟨(((hE.put aa _).put aa _).put aa _).put aa _,out,rfl,?_⟩;rw[e];exact hA.sl.ai (((((bj.refl hh).put g12 _).put (cs:=[KI sw]) (f:=none) (z1 aa g13) _).put (cs:=[.int .u64 0]) (f:=none) (z2 aa aa g14) _).put (cs:=[KI 0]) (f:=none) (by rw[au _ _ aa];exact z2 aa aa g15) _)
end
section
structure TLf (fr:Fr) (w v14 v17:Value) (a b i j:Int) (bx:Nat):Prop where
 f1:ax fr 1=some w
 f2:ax fr 2=some (KI a)
 f3:ax fr 3=some (KI b)
 f4:ax fr 4=some (KI i)
 f5:ax fr 5=some (KI j)
 f6:ax fr 6=some (ptr (2*bx) 0)
 f14:ax fr 14=some v14
 f17:ax fr 17=some v17
section
variable {h hh:IH} {fr:Fr} {sz bx:Nat} {vN vS vL vA vR vQ w:Value} {lN lS lL lA ws:List Nat} {lR lQ:List Int} {a b i j:Int}
end
end
section
def PO {h:IH} {v:Value} {ll:List (List (Nat×Nat))} {w a:Nat} {p:Nat×Nat} (hv:iN h v ll) (l0:0<ll.length) (hl:ll.length≤60) (hr : ∀x∈ll,x.length=ll.length) (hw:w<256) (ha:a<256) (hp:p.1<W8∧p.2<W8) :WV Proofs.Tryz.prog (.func (.func 11) #[] #[]) [bdV w a p,v] h fun r h'=>Ext h h' ∧ ∃mm,iN h' r mm∧Ta p ll mm:=by
 have E1:Ext h (h.new (.cells (bdC w a p) 0 none)):=(Ext.refl h).new _;have g1:(h.new (.cells (bdC w a p) 0 none)).ext.get h.n=some (.cells (bdC w a p) 0 none):=by simp (disch:=try exact dx) only[ar]
 have l18:(bdC w a p).length=18:=by simp[ba]
 have t18:List.take 18 (List.drop 0 (bdC w a p))=bdC w a p:=by rw[cC,fB aa]
 refine enter (nt:=8) (rs:=[.tmp 4]) Proofs.Tryz.func11 rfl rfl rfl ab ?_;simp -dsimp (disch:=try exact dx) only[wpS,Nat.reduceEqDiff,Nat.reduceLeDiff,Nat.reduceAdd,YS,Az,l18,t18];refine call (Va (hv.ai E1.ai) l0 hl hr hw ha hp) ?_;rintro r h2 ⟨X2,mm,h3,h4⟩;simp -dsimp (disch:=try exact dx) only[wpS,Nat.reduceEqDiff];exact⟨E1.trans X2,mm,h3,h4⟩
structure LVf (fr:Fr) (w:Value) (l:Int) (bx bb:Nat):Prop where
 f2:ax fr 2=some w
 f3:ax fr 3=some (KI l)
 f4:ax fr 4=some (ptr (2*bx) 0)
 f5:ax fr 5=some (ptr (2*bb) 0)
section
variable {h hh:IH} {fr:Fr} {sz bx bb:Nat} {vN vS vL vA vR vQ w:Value} {lN lS lL lA ws:List Nat} {lR lQ:List Int} {l:Int}
end
end
section
noncomputable abbrev nk:Code:=Proofs.Tryz.f3.body.getD .skip
noncomputable abbrev QRd:dL→Fr→IH→Prop:=T3 prog [.tmp 8] fun r _=>r=.bool true
structure RDf (fr:Fr) (vr:QQ) (bx bb bc:Nat):Prop where
 f3:ax fr 3=some vr
 f4:ax fr 4=some (ptr (2*bx) 0)
 f5:ax fr 5=some (ptr (2*bb) 0)
 f6:ax fr 6=some (ptr (2*bc) 0)
section
variable {h hh:IH} {fr:Fr} {sz bx bb bc s:Nat} {vN vS vL vA vR vQ vr:QQ} {lN lS lL lA ws:List Nat} {lR lQ lr:List Int}
def RDf.up {fr fr':Fr} (s:RDf fr vr bx bb bc) (h3:ax fr' 3=ax fr 3) (h4:ax fr' 4=ax fr 4) (h5:ax fr' 5=ax fr 5) (h6:ax fr' 6=ax fr 6):RDf fr' vr bx bb bc :=
 ⟨h3.trans s.f3,h4.trans s.f4,h5.trans s.f5,h6.trans s.f6⟩
def rr2 (hN:kB h vN lN) (hsz:sz<256) (g:h.ext.get bx=some (.cells [B8 sz,vN,vS,vL,vA,vR,vQ] 0 none)) (L:RDf fr vr bx bb bc):Do (wpC prog 3 141 none (partAt nk 2) fr h) (rL (fun fr h'=>Pst (Ext h h' ∧ ∃m ll,iN h' m ll∧1≤ll.length∧ll.length≤4∧(∀x∈ll,x.length=ll.length)∧RDf fr vr bx bb bc∧ax fr 9=some m) nx) QRd) nx:=by show Do (wpC _ _ _ _ (.region _ _ _) fr h) _ _;have Wx:List.take 2 (List.drop 0 [B8 sz,vN,vS,vL,vA,vR,vQ]) = [B8 sz,vN]:=rfl;simp -dsimp (disch:=try exact dx) only[wpS,wpT,zE,zL,zA,Sg,YV,L.f4,ay g,Wx];refine call (Mc hN hsz) ?_;rintro m h1 ⟨X1,ll,hm,hl,hr⟩;simp -dsimp (disch:=try exact dx) only[wpS,zE];exact⟨X1,m,ll,hm,aa,aa,fun x hx=>by rw[hl];exact(hr x hx).1,L.up ab ab ab ab,ab⟩
variable {ll:List (List (Nat×Nat))}{m:QQ}
def rr3 (hm:iN h m ll) (l1:1≤ll.length) (l2:ll.length≤4) (hS:kB h vS lS) (hL:kB h vL lL) (hA:kB h vA lA) (cN:bB vN=true) (cR:bB vR=true) (cQ:bB vQ=true) (g:h.ext.get bx=some (.cells [B8 sz,vN,vS,vL,vA,vR,vQ] 0 none)) (L:RDf fr vr bx bb bc) (f9:ax fr 9=some m):Do (wpC prog 3 141 none (partAt nk 3) fr h) (rL (fun fr h'=>Pst (Ext h h' ∧ ∃v10 v11 v12 s l t,fF h' v10 s∧fF h' v11 l∧fF h' v12 t∧RDf fr vr bx bb bc∧ax fr 9=some m∧ax fr 10=some v10∧ax fr 11=some v11∧ax fr 12=some v12) nx) QRd) nx:=by show Do (wpC _ _ _ _ (.region _ _ _) fr h) _ _;obtain⟨_,_,hlen⟩:=hm.co;have tk7:List.take 7 (List.drop 0 [B8 sz,vN,vS,vL,vA,vR,vQ]) = [B8 sz,vN,vS,vL,vA,vR,vQ]:=rfl;simp -dsimp (disch:=try exact dx) only[wpS,wpT,zE,zL,zA,ld27,L.f4,f9,hlen,ay g,tk7];refine call (Rq (n:=ll.length) hS hL hA aa aa cN cR cQ) ?_;rintro _ h1 ⟨X1,v13,v14,v15,s,l,t,rfl,s13,s14,s15,hl⟩;simp -dsimp (disch:=try exact dx) only[wpS,zE];exact⟨X1,v13,v14,v15,s,l,t,s13,s14,s15,L.up ab ab ab ab,by simp[f9],ab,ab,ab⟩
variable {v11 v12 v10:QQ}
def rr4 (hm:iN h m ll) (l2:ll.length≤4) (hN:kB h vN lN) (g:h.ext.get bx=some (.cells [B8 sz,vN,vS,vL,vA,vR,vQ] 0 none)) (L:RDf fr vr bx bb bc) (f9:ax fr 9=some m) (f10:ax fr 10=some v10) (f11:ax fr 11=some v11) (f12:ax fr 12=some v12):Do (wpC prog 3 141 none (partAt nk 4) fr h) (rL (fun fr h'=>Pst (Ext h h' ∧ ∃w ws,iQ h' w ws∧RDf fr vr bx bb bc∧ax fr 9=some m∧ax fr 10=some v10∧ax fr 11=some v11∧ax fr 12=some v12∧ax fr 13=some w) nx) QRd) nx:=by show Do (wpC _ _ _ _ (.region _ _ _) fr h) _ _;obtain⟨_,_,hlen⟩:=hm.co;have Wx:List.take 2 (List.drop 0 [B8 sz,vN,vS,vL,vA,vR,vQ]) = [B8 sz,vN]:=rfl;simp -dsimp (disch:=try exact dx) only[wpS,wpT,zE,zL,zA,Sg,YV,L.f4,f9,hlen,ay g,Wx];refine call (JF hN ll.length aa) ?_;rintro w h1 ⟨X1,ws,hw,_⟩;simp -dsimp (disch:=try exact dx) only[wpS,zE];exact⟨X1,w,ws,hw,L.up ab ab ab ab,by simp[f9],by simp[f10],by simp[f11],by simp[f12],ab⟩
def No (rows:Nat→List (Nat×Nat)) : ∀(m i:Nat) (p:List Nat) (s:Nat),(mvT rows m i p s).1.length≤p.length+m
 | 0,_,p,_=>by rw[mvT];exact aA _
 | m+1,i,p,s=>by
  rw[mvT];split;·exact dQ _
  ·have:=No rows m (i+1) (p ++ [(mvF (rows i) s).1]) (mvF (rows i) s).2.1
   rw[dG,qZ] at this;omega
def UU (s lv:List Int) (p:List Nat) (c:Nat):(exF s lv p c).1.length≤p.length:=by
 unfold exF;split;·exact aA _
 ·cases jR (p.length - 1) TR c with
  | none=>exact dQ _
  | some q =>
   simp only;split;·exact dQ _
   ·split
    ·exact aA _
    ·exact sI (ER _ _)
def QH (ll:List (List (Nat×Nat))) (ws:List Nat) (s lv st:List Int) (c:Nat):(GV ll ws s lv st c).1.length≤6:=by
 unfold GV
 split
 ·exact dQ _
 split
 ·exact dQ _
 rename_i le
 split
 ·exact dQ _
 split
 ·exact dQ _
 obtain⟨_,_,l2,_⟩:=kN (Classical.not_not.1 le)
 simp only
 split
 ·exact dQ _
 ·refine bV (UU _ _ _ _) (bV (No _ _ _ _ _) ?_)
  rw[List.length_nil]
  omega
def IK {h:IH} {F:List Nat×Int×Nat×Int} {r:QQ} (R:MQ h F r) : ∃out,r=.tuple #[out,KI F.2.1,chV F.2.2.1,KI F.2.2.2]∧df h 1 out (F.1.map Int.ofNat).length ((F.1.map Int.ofNat).map KI):=by obtain⟨out,h1,h2⟩:=R;exact⟨out,h1,by rw[cz,uh];exact h2⟩
variable {b c:Nat}{p:Nat×Nat}
def rr5 {w:QQ} {s0 l0 t0:List Int} (hm:iN hh m ll) (l1:1≤ll.length) (l2:ll.length≤4) (hrl : ∀x∈ll,x.length=ll.length) (hw:iQ hh w ws) (s10:fF hh v10 s0) (s11:fF hh v11 l0) (s12:fF hh v12 t0) (hR:vj hh vR lR) (hQ:vj hh vQ lQ) (hr:vj hh vr lr) (hs:s<18446744073709551616) (lbx:bx<hh.n) (lbb:bb<hh.n) (lbc:bc<hh.n)(gx:hh.ext.get bx=some (.cells [B8 sz,vN,vS,vL,vA,vR,vQ] 0 none)) (gb:hh.ext.get bb=some (.cells (bdC b c p) 0 none)) (gc:hh.ext.get bc=some (.cells [K64 s] 0 none)) (hb:b<256) (hc:c<256) (hp:p.1<W8∧p.2<W8) (L:RDf fr vr bx bb bc) (f9:ax fr 9=some m) (f10:ax fr 10=some v10) (f11:ax fr 11=some v11) (f12:ax fr 12=some v12) (f13:ax fr 13=some w) :Do (wpC prog 3 141 none (xE nk 5) fr hh) QRd nx:=by
 obtain⟨cm,co,hlen⟩:=hm.co;have l18:(bdC b c p).length=18:=by simp[ba]
 have t18:List.take 18 (List.drop 0 (bdC b c p))=bdC b c p:=by rw[cC,fB aa]
 have lR':=hR.2.1;have lQ':=hQ.2.1;have lr':=hr.2.1;obtain⟨M6,hM6⟩ : ∃M,M=min lR.length 6:=⟨_,rfl⟩;have hm6:(if (6:Int)<(lR.length:Int) then (6:Int) else (lR.length:Int))=(M6:Int):=by split<;>omega
 obtain⟨M8,hM8⟩ : ∃M,M=min lQ.length 8:=⟨_,rfl⟩;have hm8:(if (8:Int)<(lQ.length:Int) then (8:Int) else (lQ.length:Int))=(M8:Int):=by split<;>omega
 obtain⟨M7,hM7⟩ : ∃M,M=min lr.length 7:=⟨_,rfl⟩;have hm7:(if (7:Int)<(lr.length:Int) then (7:Int) else (lr.length:Int))=(M7:Int):=by split<;>omega
 show Do (wpC _ _ _ _ (.seq (.seq _ _) _) fr hh) _ _;simp -dsimp (disch:=try exact dx) only[wpS];refine drawn [(17,[7]),(19,[7]),(23,[7]),(25,[7]),(26,[7]),(28,[7]),(35,[7]),(37,[7]),(38,[7]),(40,[7])] ae ae rfl ?_;simp -dsimp (disch:=try exact dx) only[wpS,wpT,zE,zL,zA,Z5,Q5,Q4,Q3,Q2,YS,f9,f10,f11,f12,s10.1.cells,s11.1.cells,s12.1.cells,cm,L.f5,ay gb,l18,t18];refine call (PO hm aa aa hrl hb hc hp) ?_;rintro v49 h1 ⟨X1,mm,sm,_⟩;obtain⟨cm2,co2,_⟩:=sm.co;have n1:=X1.n;have gx1:=X1.kept lbx gx;have gc1:=X1.kept lbc gc;obtain⟨w7,e7,s7⟩:=hr.first X1.ai (m:=M7) aa aa;obtain⟨w6,e6,s6⟩:=hR.first X1.ai (m:=M6) aa aa;obtain⟨w8,e8,s8⟩:=hQ.first X1.ai (m:=M8) aa aa;have e7':dE prog hh 25 vr none (some (KN M7)) none=some w7:=by rw[←e7];exact hr.1.xy (bj.refl hh) X1.ai u25 sz3
 have e6':dE prog hh 25 vR none (some (KN M6)) none=some w6:=by rw[←e6];exact hR.1.xy (bj.refl hh) X1.ai u25 sz3
 have e8':dE prog hh 25 vQ none (some (KN M8)) none=some w8:=by rw[←e8];exact hQ.1.xy (bj.refl hh) X1.ai u25 sz3
 have Rt:=hr.1.len (P:=prog) dY;have WW:=hR.1.len (P:=prog) dY;have WU:=hQ.1.len (P:=prog) dY;simp -dsimp (maxSteps:=1000000) (disch:=first|omega|(simp only[aH,aJ];omega)|decide +kernel|(repeat first|rw[aH]|rw[aJ])) only[wpS,wpT,zE,zL,zA,Z5,Q5,Q4,Q3,Q2,Xx,jF,Xw,bv46,WM,WL,WK,WJ,WI,f9,f10,f11,f12,s10.1.cells,s11.1.cells,s12.1.cells,cm,cm2,L.f3,L.f4,ay gx1,Rt,WW,WU,Lv,hm7,hm6,hm8,e7,e6,e8,s7.1.cells,s6.1.cells,s8.1.cells];refine⟨aU (az rfl rfl rfl rfl (xu rfl rfl rfl (Rt _) (Rt _))) (aU (az rfl rfl rfl rfl (ti rfl rfl rfl e7 e7')) (aU (az rfl rfl rfl rfl (aO rfl (ldS D3 gx1 rfl) (ldS D3 gx rfl))) (aU (az rfl rfl rfl rfl (aO rfl (ldS D3 gx1 rfl) (ldS D3 gx rfl))) (aU (az rfl rfl rfl rfl (xu rfl rfl rfl (WW _) (WW _))) (aU (az rfl rfl rfl rfl (ti rfl rfl rfl e6 e6')) (aU (az rfl rfl rfl rfl (aO rfl (ldS D3 gx1 rfl) (ldS D3 gx rfl))) (aU (az rfl rfl rfl rfl (aO rfl (ldS D3 gx1 rfl) (ldS D3 gx rfl))) (aU (az rfl rfl rfl rfl (xu rfl rfl rfl (WU _) (WU _))) (az rfl rfl rfl rfl (ti rfl rfl rfl e8 e8')))))))))),?_⟩;simp -dsimp (disch:=try exact dx) only[wpS,wpT,zA];obtain⟨ARR,ZN⟩ : ∃A:QQ,A=.agg #[m,v10,v11,v12,v49,v10,v11,v12,m,v10,v11,w7,m,w6,v11,v12,m,v10,w8,v12]:=⟨_,rfl⟩;refine loop (fun mk fr g => ∃k:Nat,k+mk=5∧Ext h1 g∧RDf fr vr bx bb bc∧ax fr 13=some w∧ax fr 85=some ARR∧ax fr 86=some (KN k)) 5 ⟨0,aa,Ext.refl _,L.up ab ab ab ab,by simp[f13],by simp[ZN],ab⟩ ?_;clear L f9 f10 f11 f12 f13;rintro mk fr g ⟨k,hkm,E,L,f13,f85,f86⟩;have ng:=E.n;simp -dsimp (disch:=try exact dx) only[wpS,f86];refine aG ?_ ?_<;>intro hc1<;>simp only[aS,aV] at hc1
 ·obtain⟨va,vb,vc,vd,la,lb,lc,ld,hvk,sa,sb,sc,sd⟩ : ∃va vb vc vd la lb lc ld,uS prog 46 ARR (KN k)=some (.agg #[va,vb,vc,vd])∧iN h1 va la∧fF h1 vb lb∧fF h1 vc lc∧fF h1 vd ld:=by
   have a1:=hm.ai X1.ai;have a2:=s10.ai X1.ai;have a3:=s11.ai X1.ai;have a4:=s12.ai X1.ai;subst ZN;rcases(by omega:k=0∨k=1∨k=2∨k=3∨k=4) with rfl|rfl|rfl|rfl|rfl;·exact⟨m,v10,v11,v12,ll,_,_,_,ae,a1,a2,a3,a4⟩
   ·exact⟨v49,v10,v11,v12,mm,_,_,_,ae,sm,a2,a3,a4⟩
   ·exact⟨m,v10,v11,w7,ll,_,_,_,ae,a1,a2,a3,s7.ai X1.ai⟩
   ·exact⟨m,w6,v11,v12,ll,_,_,_,ae,a1,s6.ai X1.ai,a3,a4⟩
   ·exact⟨m,v10,w8,v12,ll,_,_,_,ae,a1,a2,s8.ai X1.ai,a4⟩
  obtain⟨H3,hH3⟩ : ∃H,H=(g.new (.cells [.slice none 0 0,.slice none 0 0,.slice none 0 0,.slice none 0 0] 0 none)).put g.n (.cells [va,vb,vc,vd] 0 none):=⟨_,rfl⟩;have E3:Ext g H3:=by rw[hH3];exact((Ext.refl g).new _).put (aA _) _
  have n3:H3.n=g.n+1:=by rw[hH3];rfl
  have p3:H3.ext.get g.n=some (.cells [va,vb,vc,vd] 0 none):=by rw[hH3];exact aj _ _ rfl
  have E13:=E.trans E3;have gc3:=E13.kept aa gc1;obtain⟨ca,coa,_⟩:=sa.co;have cob:=sb.1.cok;have coc:=sc.1.cok;have cod:=sd.1.cok;have cb:=sb.1.cells;have cc:=sc.1.cells;have cd:=sd.1.cells;simp -dsimp (disch:=try exact dx) only[wpS,wpT,zE,zL,zA,jF,Yi,st44,R9,Rx,R8,R7,R5,cP,f13,f85,f86,hvk,coa,cob,coc,cod,sV,←hH3,ay p3,L.f6,ay gc3,tk1];obtain⟨F,hF⟩ : ∃F,F=GV la ws lb lc ld s:=⟨_,rfl⟩;have lF:F.1.length≤6:=by rw[hF];exact QH _ _ _ _ _ _
  refine call (Cz (sa.ai E13.ai) (hw.ai (X1.trans E13).ai) (sb.ai E13.ai) (sc.ai E13.ai) (sd.ai E13.ai) hs) ?_;rw[←hF];rintro _ h4 ⟨X4,R1⟩;obtain⟨out1,rfl,S1⟩:=IK R1;have n4:=X4.n;have c4:=X4.kept aa gc3;have p4:=X4.kept aa p3;have E14:=E13.trans X4;obtain⟨H5,hH5⟩ : ∃H,H=(h4.new (.cells [.int .u64 0] 0 none)).put h4.n (.cells [K64 F.2.2.1] 0 none):=⟨_,rfl⟩;have E5:Ext h4 H5:=by rw[hH5];exact((Ext.refl h4).new _).put (aA _) _
  have n5:H5.n=h4.n+1:=by rw[hH5];rfl
  have b5:H5.ext.get h4.n=some (.cells [K64 F.2.2.1] 0 none):=by rw[hH5];exact aj _ _ rfl
  have c5:=E5.kept aa c4;have p5:=E5.kept aa p4;simp -dsimp (disch:=try exact dx) only[wpS,wpT,zE,zL,jF,R9,Rx,R8,R7,R5,cP,lz,dX,chV,←hH5,f13,L.f6,ay c5,ay p5,tk1];clear hH5;have E15:=E14.trans E5;refine call (KX (sa.ai E15.ai) (hw.ai (X1.trans E15).ai) (sb.ai E15.ai) (sc.ai E15.ai) (sd.ai E15.ai) hs) ?_;rw[←hF];rintro _ h6 ⟨X6,R2⟩;obtain⟨Ll,rfl,S2⟩:=IK R2;have n6:=X6.n;obtain⟨H7,hH7⟩ : ∃H,H=(h6.new (.cells [.int .u64 0] 0 none)).put h6.n (.cells [K64 F.2.2.1] 0 none):=⟨_,rfl⟩;have E7:Ext h6 H7:=by rw[hH7];exact((Ext.refl h6).new _).put (aA _) _
  have n7:H7.n=h6.n+1:=by rw[hH7];rfl
  have b7:H7.ext.get h6.n=some (.cells [K64 F.2.2.1] 0 none):=by rw[hH7];exact aj _ _ rfl
  simp -dsimp (disch:=try exact dx) only[wpS,wpT,zE,zL,lz,dX,chV,←hH7];clear hH7;have b57:=(X6.trans E7).kept aa b5;have T1:=S1.ai ((E5.trans X6).trans E7).ai;have T2:=S2.ai E7.ai;refine call (Po T1.now T2.now (by rw[cz];omega)) ?_;rintro _ z1 ⟨ez,rfl⟩;rw[ez];clear ez z1;have d1:(F.2.1 != F.2.1)=false:=ab;have d2:(F.2.2.2 != F.2.2.2)=false:=ab;simp -dsimp (maxSteps:=1000000) (disch:=first|omega|(simp only[aH,aJ];omega)|decide +kernel|(repeat first|rw[aH]|rw[aJ])) only[wpS,wpT,zE,zL,cP,wV,d1,d2,ay b57,ay b7,tk1,U6,f86];exact⟨mk - 1,aa,k+1,aa,(E15.trans X6).trans E7,L.up ab ab ab ab,by simp[f13],by simp[f85],ab⟩
 ·simp -dsimp (disch:=try exact dx) only[wpS,wpT]
def II (hN:kB h vN lN) (hS:kB h vS lS) (hL:kB h vL lL) (hA:kB h vA lA) (hR:vj h vR lR) (hQ:vj h vQ lQ) (hr:vj h vr lr) (hsz:sz<256) (hs:s<18446744073709551616) (lbx:bx<h.n) (lbb:bb<h.n) (lbc:bc<h.n) (gx:h.ext.get bx=some (.cells [B8 sz,vN,vS,vL,vA,vR,vQ] 0 none)) (gb:h.ext.get bb=some (.cells (bdC b c p) 0 none)) (gc:h.ext.get bc=some (.cells [K64 s] 0 none)) (hb:b<256) (hc:c<256) (hp:p.1<W8∧p.2<W8)(f3:ax fr 3=some vr) (f4:ax fr 4=some (ptr (2*bx) 0)) (f5:ax fr 5=some (ptr (2*bb) 0)) (f6:ax fr 6=some (ptr (2*bc) 0)) :Do (wpC prog 3 141 none (xE nk 2) fr h) QRd nx:=by show Do (wpC _ _ _ _ (.seq (partAt nk 2) (xE nk 3)) fr h) QRd _;rw[mE];refine cut _ (rr2 hN hsz gx ⟨f3,f4,f5,f6⟩) ?_;rintro fr2 h2 ⟨X2,m,ll,hm,l1,l2,hrl,L,f9⟩;have n2:=X2.n;show Do (wpC _ _ _ _ (.seq (partAt nk 3) (xE nk 4)) fr2 h2) QRd _;rw[mE];refine cut _ (rr3 hm l1 l2 (hS.ai X2.ai) (hL.ai X2.ai) (hA.ai X2.ai) hN.1.cok hR.1.cok hQ.1.cok (X2.kept lbx gx) L f9) ?_;clear L f9;rintro fr3 h3 ⟨X3,v10,v11,v12,s0,l0,t0,s10,s11,s12,L,f9,f10,f11,f12⟩;have n3:=X3.n;have X23:=X2.trans X3;show Do (wpC _ _ _ _ (.seq (partAt nk 4) (xE nk 5)) fr3 h3) QRd _;rw[mE];refine cut _ (rr4 (hm.ai X3.ai) l2 (hN.ai X23.ai) (X23.kept lbx gx) L f9 f10 f11 f12) ?_;clear L f9 f10 f11 f12;rintro fr4 h4 ⟨X4,w,ws,hw,L,f9,f10,f11,f12,f13⟩;have n4:=X4.n;have X24:=X23.trans X4;exact rr5 (hm.ai (X3.trans X4).ai) l1 l2 hrl hw (s10.ai X4.ai) (s11.ai X4.ai) (s12.ai X4.ai) (hR.ai X24.ai) (hQ.ai X24.ai) (hr.ai X24.ai) hs aa aa aa (X24.kept lbx gx) (X24.kept lbb gb) (X24.kept lbc gc) hb hc hp L f9 f10 f11 f12 f13
end
end
end Go.Id

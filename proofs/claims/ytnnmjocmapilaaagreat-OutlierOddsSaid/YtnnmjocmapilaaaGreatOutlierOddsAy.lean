/-
  Contracts: package outlier: totals.
-/
import Derived.Test.YtnnmjocmapilaaaGreatOutlierOddsAx
set_option linter.unusedVariables false
set_option linter.unusedSimpArgs false
set_option linter.defProp false
set_option linter.deprecated false
namespace Go.Id
open Go
open Go renaming Operand→QY,Program→QX,TypeId→QZ,Value→QQ
open Nat renaming reduceAdd→zA,reduceEqDiff→zE,reduceLeDiff→zL
open Nat (reduceMul)
set_option maxHeartbeats 16000000
open Go.Proofs.Tryz (prog)
def uN (N M:Nat) (q:Nat→Nat→Rat):List Rat:=(List.range M).map fun m=>rs N fun j=>q j m
theorem jG (N M:Nat) (q:Nat→Nat→Rat):(uN N M q).length=M:=by simp[uN]
variable {N m M:Nat}
theorem I4 (q:Nat→Nat→Rat) (h:m<M):(uN N M q)[m]?=some (rs N fun j=>q j m):=by unfold uN;rw[cm,kY h];rfl
variable {h:IH}
def Oe {k j:Nat} {g:Nat→Rat} (t:pd h j M g) (gk:h.ext.get k=some (.cells [KN m] 0 none)) (hkn:k<h.n) (hm:m<M) :WV Proofs.Tryz.prog (.func (.func 231) #[] #[ptr (2*k) 0]) [mkV j M] h fun r h'=>Ext h h'∧ch h' r (g m):=by
 obtain⟨a,s,b,u,hld,hp⟩:=t.ldK hm;obtain⟨_,_,_,_,hhe,_,_,_,o1,_,o2,o3,o4⟩:=hp.parts;cases hhe;have E1:Ext h (h.new (.cells ZR 0 none)):=(Ext.refl h).new _;have g1:(h.new (.cells ZR 0 none)).ext.get h.n=some (.cells ZR 0 none):=by simp (disch:=omega) only[aq]
 have gk1:=E1.kept hkn gk;refine enter (nt:=8) (rs:=[.cell 3 137]) Proofs.Tryz.func231 rfl rfl rfl aa ?_;simp -dsimp (disch:=omega) only[wpS,wpT,zE,zL,zA,gY,ld3,jZ,fK,aw gk1,g1,t.idx hm,hld _ E1,o1,o2,o3,o4,fm];exact⟨E1.put (ar _) _,(hp.ae E1.ae).ae ((aX.refl _).put g1 _)⟩
def Gy {n0 n1 b L x:Nat} {r:Nat→Nat} {q:Nat→Nat→Rat} (t:Tab h n0 n1 b N M r q) (hq : ∀j m,j<N→m<M→OvL L x (q j m)) (hL:0<L) (hx:L≤2 ^ x) (hb:2*x+N+1<16000000) (hM:M≤1000) :WV Proofs.Tryz.prog (.func (.func 179) #[] #[]) [mkV b N] h fun v h'=>Ext h h'∧sm ch h' v (uN N M q):=by
 have hN:0<N:=t.ob.some_;refine enter (nt:=20) (rs:=[.tmp 2]) Proofs.Tryz.func179 rfl rfl rfl aa ?_;have ix0:indexAddr Proofs.Tryz.prog 147 (mkV b N) (.int .i64 0)=some (a9 (mkV b N) 0):=t.idx hN;simp -dsimp (disch:=omega) only[wpS,zE,ix0,t.ldR (Ext.refl h) hN,(t.row 0 hN).len];refine loop (fun m fr h1 => ∃(i:Nat) (out:Value) (cs:List Value),i+m=M∧Ext h h1∧Acc h1 h.n 4 out ((uN N M q).take i).length cs∧nN ch h1 ((uN N M q).take i) cs∧aj fr 0=some (mkV b N)∧aj fr 3=some out∧aj fr 8=some (KN M)∧aj fr 9=some (KN i)) M ⟨0,.slice none 0 0,[],byOmega,Ext.refl _,Acc.nil h _ byOmega,by simp[nN]⟩ ?_;rintro m fr h1 ⟨i,out,cs,him,hE,hA,hC,f0,f3,f8,f9⟩;simp -dsimp (disch:=omega) only[wpS,f8,f9];refine az ?_ ?_<;>intro hc<;>simp only[aJ,aV] at hc
 ·have hi:i<M:=byOmega;simp -dsimp (disch:=omega) only[wpS,wpT,zE,zL,zc3,st3,f0,f3,f9];obtain⟨H0,hH0⟩:=bm ((h1.new (.cells [.int .i64 0] 0 none)).put h1.n (.cells [KN i] 0 none));have e0:Ext h1 H0:=by rw[hH0];exact((Ext.refl h1).new _).put (ar _) _
  have n0':H0.n=h1.n+1:=by rw[hH0];rfl
  have gk:H0.ext.get h1.n=some (.cells [KN i] 0 none):=by rw[hH0];simp (disch:=omega) only[ak]
  rw[←hH0];clear hH0;have E0:=hE.trans e0;refine call (Zf (t.ext E0) (fun j=>q j i) (fun H j X hj=>Oe ((t.row j hj).ext (E0.trans X)) (X.kept byOmega gk) (by have:=X.n;omega) hi) (fun j hj=>hq j i hj hi) hL hx hb) ?_;rintro r2 h2 ⟨X2,p2⟩;have X02:=e0.trans X2;have n1':=hE.n;have n2':=X02.n;obtain⟨a4,s4,b4,t4,rfl,_,_,_,o1,_,o2,o3,o4⟩:=p2.parts;have hlen:((uN N M q).take i).length=i:=by rw[iT,jG];omega
  obtain⟨fF,h5,hap,hA5,hC5,hG5,hE5⟩:=VT Zce byOmega kF (hA.ext X02) (hC.ae kF X02.ae) p2 (by simp[o1,o2,o3,o4]) byOmega byOmega (hE.trans X02) (ar _);rw[←fE (I4 q hi)] at hA5 hC5;simp -dsimp (disch:=omega) only[wpS,wpT,zE,zL,zA,Yk,Ij,f9,hap];exact⟨m - 1,byOmega,i+1,fF,_,byOmega,hE5,hA5,hC5,by simp[f0,f8]⟩
 ·obtain rfl:i=M:=byOmega;rw[dr (by rw[jG];omega)] at hA hC;simp -dsimp (disch:=omega) only[wpS,wpT,zE,f3];exact⟨hE,cs,hA.sl,hC,by rw[jG];omega⟩
variable {h':IH}{m:Nat}{h:IH}
theorem Mem.split {o:cB} (x:Mem m h h') (g:h'.ext.get m=some o):Ext (h.put m o) h' :=
 ⟨x.n,x.base,fun k hk=>by
  rw[lK];split;·rename_i e;rw[e];exact g
  ·rename_i e;exact x.get k hk e,x.cZ⟩
def As (H:IH) (N S k:Nat) (p:Nat→Nat→Rat) (hit:Nat→Bool) (s:Nat) (vs:List QQ):Prop:=∀i,i<k → ∃w,vs[i]?=some w∧sm ch H w (uN N (S+1) (mf N p hit s i))
def Zch (H:IH) (v:QQ) (N S:Nat) (p:Nat→Nat→Rat) (hit:Nat→Bool) (s:Nat):Prop:=∃vs,cA H 1 v (S+1) vs∧As H N S (S+1) p hit s vs
variable {N:Nat}{p:Nat→Nat→Rat}{S s k:Nat}{hit:Nat→Bool}{vs:List QQ}{H:IH}
def As.ae {H':IH} (c:As H N S k p hit s vs) (K:aX H H'):As H' N S k p hit s vs:=fun i hi =>
 let ⟨w,h1,h2⟩:=c i hi
 ⟨w,h1,h2.ae kF K⟩
def As.snoc (c:As H N S k p hit s vs) (hl:vs.length=k) {w:QQ} (hw:sm ch H w (uN N (S+1) (mf N p hit s k))):As H N S (k+1) p hit s (vs ++ [w]):=fun i hi=>by
 by_cases e:i=k;·subst e;exact⟨w,by rw[←hl];simp,hw⟩
 ·obtain⟨w',h1,h2⟩:=c i byOmega
  exact⟨w',by rw[gF byOmega];exact h1,h2⟩
variable {D d:Nat}
def ph (hN:0<N) (hp : ∀i j,i<N→j<N→OvL D d (p i j)) (k:Nat) (hm:m<S+1):OvL (D ^ k) (k*(d+N)+N) (atQ (uN N (S+1) (mf N p hit s k)) m):=by have z:=CJ (hit:=hit) (s:=s) hp k hN m;unfold atQ;rw[bC,I4 _ hm];exact OvL.rs z.1 z.2.1 fun j hj=>CJ hp k hj m
variable {f:Option Nat}
def Xf (g:Grow h h') {c:List QQ} (hk:k<h.n) (hg:h.ext.get k=some (.cells c 0 f)):h'.ext.get k=some (.cells c 0 f):=by
 rcases g.get k hk with h1|⟨c',e,f1,f2,he,h1,h2⟩;·rw[h1];exact hg
 ·rw[hg] at h1
  cases h1;exact absurd rfl he
def ry {t:TypeId} (hT:bX prog t=some false) {e:Nat} {v:QQ} (g:h.ext.get k=some (.cells [v] e f)):load prog h t (ptr (2*k) 0)=some v:=by rw[dR hT,ZbM (aw g)];rfl
def HX {kv hv:QQ} {ll:List (List (Nat×Nat))}  (hk:je h kv ll) (ko:fy ll) (hN:N=ll.length) (hh:cA h 1 hv N (zU N hit)) (hS:S≤20) (hs:s<N) (hp : ∀i j,i<N→j<N→OvL D d (kAt ll i j)) (hd:d≤300000) :
  WV prog (.func (.func 79) #[] #[]) [.agg #[kv,hv],KN s,KN S] h fun v h'=>Ext h h'∧Zch h' v N S (kAt ll) hit s:=by
 obtain⟨c1,c2,hlen⟩:=hk.co;rw[←hN] at hlen;have k1:=ko.1;have k2:=ko.2.1;have o3:=hh.cells;have o4:=hh.cok;have tk0:List.take 1 (List.drop 0 [kv,hv]) = [kv]:=rfl;refine enter (nt:=39) (rs:=[.tmp 6]) Proofs.Tryz.func79 rfl rfl rfl aa ?_;obtain⟨H0,hH0,n0,E0,g3,g5⟩:=gN h [kv,hv] [KN S];simp -dsimp (disch:=try exact dx) only[wpS,zE,zA,Kh,Ki,MO,ld3,hlen];rw[←hH0];clear hH0;refine call (KQ (M:=S+1) byOmega byOmega byOmega byOmega) ?_;rintro _ h1 ⟨X1,b',r',lb',rfl,T⟩;have m1:=X1.n;obtain⟨q1,q2⟩:=Ww b' N;simp -dsimp (disch:=omega) only[wpS,wpT,zE,zL,Zex,Zbm,q1,q2];obtain⟨H2,hH2⟩:=bm ((h1.new (.cells [.slice none 0 0] 0 none)).put h1.n (.cells [mkV b' N] 0 none));have F2:Ext h1 H2:=by rw[hH2];exact((Ext.refl h1).new _).put (ar _) _
 have n2:H2.n=h1.n+1:=by rw[hH2];rfl
 have g7:H2.ext.get h1.n=some (.cells [mkV b' N] 0 none):=by rw[hH2];simp (disch:=omega) only[ak]
 rw[←hH2];clear hH2;have T2:=T.ext F2;have hX0:=Ext.refl H2;have rl:=T2.ldR hX0 hs;have ix:=T2.idx hs;refine drawn [(0,[6]),(3,[6])] ab ab rfl ?_;simp -dsimp (disch:=omega) only[wpS,zE,Rv,aw g7,ix,rl];refine call (iL 1 ⟨byOmega,byOmega⟩) ?_;rintro z h3 ⟨X3,p3⟩;have T3:=T2.ext X3;obtain⟨a1,a2,a3,a4,rfl,_,_,d1,o1,d2,o2,o5,o6⟩:=p3.parts;obtain⟨cs',c,gr,st,T4⟩:=T3.set hs (show 0<S+1 by omega) p3 (by simp[o1,o2,o5,o6]);rw[iC] at st;have iy:indexAddr prog 139 (mkV (r' s) (S+1)) (.int .i64 0)=some (a9 (mkV (r' s) (S+1)) 0):=by have:=(T3.row s hs).idx (show 0<S+1 by omega);rwa [iC] at this
 simp -dsimp (disch:=omega) only[wpS,zE,iy,st];refine⟨aB (ai rfl rfl rfl rfl (au rfl (ry YC g7) (ry YC (X3.kept byOmega g7)))) (ai rfl rfl rfl rfl (au rfl rl (T2.ldR X3 hs))),?_⟩;have ls:=T.lr s hs;have n3:=X3.n;obtain⟨H4,hH4⟩:=bm (h3.put (r' s) (.cells cs' 4 none));rw[←hH4] at T4 ⊢;have g74:H4.ext.get h1.n=some (.cells [mkV b' N] 0 none):=by rw[hH4,ax _ _ byOmega];exact X3.kept byOmega g7
 have E4:Ext H0 H4:=by rw[hH4];exact((X1.trans F2).trans X3).put byOmega _
 have n4:H4.n=h3.n:=by rw[hH4];rfl
 clear hH4 st gr T3 T2 T;have T5:Tab H4 b' h1.n b' N (S+1) r' (mf N (kAt ll) hit s 0):=T4.congr fun a m _ _=>by rw[mf];rfl
 clear T4;have cO : ∀k,k≤S → ∀j m,j<N→m<S+1→OvL (D ^ k) (k*(d+N)) (mf N (kAt ll) hit s k j m):=fun k _ j m hj _=>CJ hp k hj m;have kb : ∀k,k≤S→k*(d+N)≤20*(d+N):=fun k hk=>cT _ byOmega;have z0:=cO 0 byOmega 0 0 byOmega byOmega;simp -dsimp (disch:=omega) only[wpS,wpT,zE,zA,Rv,aw g74];refine call (Gy T5 (cO 0 byOmega) z0.1 z0.2.1 (by have:=kb 0 byOmega;omega) byOmega) ?_;rintro w0 h5 ⟨X5,e0⟩;have n5:=X5.n;obtain⟨_,sw,_,_⟩:=id e0;have w1:=sw.cells;have w2:=sw.cok;have g55:=(E4.trans X5).kept byOmega g5;simp -dsimp (disch:=omega) only[wpS,wpT,zE,zL,zA,ld3,Zb6,w1,aw g55];obtain⟨H6,hH6⟩:=bm (h5.new (.cells [w0] 1 none));have F6:Ext h5 H6:=by rw[hH6];exact(Ext.refl h5).new _
 have n6:H6.n=h5.n+1:=by rw[hH6];rfl
 have G6:Gro H6 H0.n 1 (.slice (some ⟨2*h5.n,0,none⟩) 1 3) 1 [w0]:=by rw[hH6];exact(Zay (h:=h5) (sz:=1) (m:=1) byOmega rfl byOmega).from (by have:=E4.n;omega)
 rw[←hH6];clear hH6;have E6:=E4.trans (X5.trans F6);have g76:=(X5.trans F6).kept byOmega g74;have T6:=T5.ext (X5.trans F6);have V6:As H6 N S 1 (kAt ll) hit s [w0]:=fun i hi=>⟨w0,by
  obtain rfl:i=0:=byOmega;rfl,by
  obtain rfl:i=0:=byOmega;exact e0.ae kF F6.ae⟩
 refine loop (fun m fr H => ∃(k:Nat) (out v:QQ) (vs:List QQ) (rv:Nat→QQ),k+m=S∧Ext H0 H∧h1.n<H.n∧H.ext.get h1.n=some (.cells [v] 0 none)∧xk H v N (S+1) rv (mf N (kAt ll) hit s k)∧Gro H H0.n 1 out (k+1) vs∧As H N S (k+1) (kAt ll) hit s vs ∧aj fr 5=some (ptr (2*(h.n+1)) 0)∧aj fr 7=some (ptr (2*h1.n) 0)∧aj fr 8=some out∧aj fr 9=some (.func (.func 180) #[] #[ptr (2*h.n) 0,ptr (2*(h.n+1)) 0,ptr (2*h1.n) 0])∧aj fr 27=some (KN S)∧aj fr 28=some (KN k)) S ⟨0,_,_,[w0],_,byOmega,E6,byOmega,g76,T6.toR byOmega,G6,V6,aa⟩ ?_;clear E6 g76 T6 V6 G6 F6 T5 E4 g74 e0 sw X5 ls;rintro m fr H ⟨k,out,v,vs,rv,hkm,E,lH,g7',T,G,V,f5,f7,f8,f9,f27,f28⟩;simp -dsimp (disch:=omega) only[wpS,f27,f28];refine az ?_ ?_<;>intro hc<;>simp only[aJ,aV] at hc;·have hkS:k<S:=byOmega;have K:=(E0.trans E).ae;have g3':=E.kept byOmega g3;have g5':=E.kept byOmega g5;have nH:=E.n;have kb1:=kb k byOmega;have kb2:=kb (k+1) byOmega;simp -dsimp (disch:=omega) only[wpS,wpT,zE,f9];refine call (XU (hk.ae K) ko hN (hh.ae K) hS g3' g5' g7' byOmega byOmega byOmega T (fun i m hi=>CJ hp k hi m) hp (fun i hi=>Yb k hkS) byOmega) ?_;rintro _ h7 ⟨M7,b2,r2,n02,l2,g77,T7⟩;have T7:Tab h7 n02 h7.n b2 N (S+1) r2 (mf N (kAt ll) hit s (k+1)):=T7.congr fun a m _ _=>Zdb a m fun i m _=>rfl;have S7:=M7.split g77;have E7:Ext H0 h7:=(E.put byOmega _).trans S7;have G7:=(G.put g7' (.cells [mkV b2 N] 0 none)).ext S7;have V7:=(V.ae ((aX.refl H).put g7' (.cells [mkV b2 N] 0 none))).ae S7.ae;have n7:=M7.n;have z1:=cO (k+1) byOmega 0 0 byOmega byOmega;simp -dsimp (disch:=omega) only[wpS,zE,Rv,f7,f8,aw g77];refine call (Gy T7 (cO (k+1) byOmega) z1.1 z1.2.1 byOmega byOmega) ?_;rintro w h8 ⟨X8,e8⟩;have n8:=X8.n;obtain⟨_,sw,_,_⟩:=id e8;have w1:=sw.cells;have w2:=sw.cok;obtain⟨fF,h9,hap,A9,G9,E9⟩:=(G7.ext X8).uR (P:=prog) (t:=147) ZgM (m:=1) (new:=[w]) byOmega rfl (by simp[w2]) byOmega byOmega (E7.trans X8) (ar _);simp -dsimp (disch:=omega) only[wpS,wpT,zE,zL,zA,Zb6,UG,f28,w1,hap];have g79:h9.ext.get h1.n=some (.cells [mkV b2 N] 0 none):=Xf G9 byOmega (X8.kept byOmega g77);exact⟨m - 1,byOmega,k+1,fF,_,vs ++ [w],_,byOmega,E9,by have:=G9.n;omega,g79,(T7.toR byOmega).ae (X8.ae.trans G9.ae),.inl A9,((V7.ae X8.ae).snoc (by have:=G7.sl.2.1;omega) e8).ae G9.ae,by simp[f5,f7,f9,f27]⟩
 ·obtain rfl:k=S:=byOmega
  simp -dsimp (disch:=omega) only[wpS,wpT,zE,f8];exact⟨E0.trans E,vs,G.sl,V⟩
variable {R:Nat}{l:List Rat}
theorem Qp {M:Nat} (a:Nat→Rat) (h:atQ l 0=1):rs M (upV a (atQ l) ((R:Int) - 1) 1)=rs M fun i=>if i+1≤R then a i else 0:=by
 refine bR fun i _=>?_;unfold upV;rw[rs,rs,Aw];by_cases c:i+1≤R;·rw[ah c,ah byOmega,h,Ax]
 ·rw[ad c,ad byOmega]
variable {N S:Nat}
theorem Og {q:Nat→Nat→Rat} {m:Nat} (hm:m<S+1):atQ (uN N (S+1) q) m=rs N fun j=>q j m:=by unfold atQ;rw[bC,I4 _ hm];rfl
variable {p:Nat→Nat→Rat}{s:Nat}{f:Nat→Rat}
theorem HB (hs:s<N) (h:atQ l 0=1) :rs (S+1) (upV (atQ (uN N (S+1) (mf N p (leF f s) s S))) (atQ l) ((R:Int) - 1) 1)=qO N p f R S s:=by rw[Qp _ h,←upQ1 f s (jR S) R];refine bR fun i hi=>?_;rw[Og hi,Zcy (leF f s) hs S i]
def zN (N:Nat) (p:Nat→Nat→Rat) (f:Nat→Rat) (R S n s:Nat):Rat:=cX N p n s fun b=>cX N p (S - n) s fun o=>if b.countP (leF f s)+o.countP (leF f s)+1≤R then 1 else 0
variable {n:Nat}
theorem Rp (hs:s<N) (hn:n<S+1) :
  rs (S+1) (upV (atQ (uN N (S+1) (mf N p (leF f s) s n))) (atQ (uN N (S+1) (mf N p (leF f s) s (S - n)))) ((R:Int) - 1) (S+1))=zN N p f R S n s:=by
 unfold zN;rw[←upQ (leF f s) s hn (show S - n<S+1 by omega) R];refine bR fun i hi=>?_;unfold upV;refine bR fun j hj=>?_;rw[Og hi,Og hj,Zcy (leF f s) hs n i,Zcy (leF f s) hs (S - n) j];by_cases c:i+j+1≤R;·rw[ah c,ah byOmega]
 ·rw[ad c,ad byOmega]
def Fo {H:IH} {v:QQ} {hit:Nat→Bool} (c:Zch H v N S p hit s) {i:Nat} (hi:i<S+1) : ∃w,indexAddr prog 147 v (KN i)=some (a9 v i)∧(∀h',aX H h'→load prog h' 139 (a9 v i)=some w)∧sm ch H w (uN N (S+1) (mf N p hit s i)):=by
 obtain⟨vs,sl,cv⟩:=c;obtain⟨w,h1,h2⟩:=cv i hi;refine⟨w,?_,fun h' K=>?_,h2⟩;·have:=sl.idx RR (P:=prog) (k:=.i64) hi;rwa [dG] at this
 ·rw[sl.ld K (by have:=sl.2.1;omega) Cb];exact h1
variable {ll:List (List (Nat×Nat))}{e:Nat×Nat}{b8 D:Nat}{h:IH}{kv hv:QQ}{b9 d:Nat}
def O1 {b13:Nat} {nv:QQ}  (hk:je h kv ll) (ko:fy ll) (hN:N=ll.length) (hh:cA h 1 hv N (zU N (leF f s))) (hS:S≤20) (hs:s<N) (hp : ∀i j,i<N→j<N→OvL D d (kAt ll i j)) (hd:d≤300000)(g8:h.ext.get b8=some (.cells [KN S] 0 none)) (g13:h.ext.get b13=some (.cells [nv] 0 none)) (g9:h.ext.get b9=some (.cells (shC e.1 e.2) 0 none)) (l8:b8<h.n) (l13:b13<h.n) (l9:b9<h.n) (sn:sm ch h nv [1])(he:e.1<W8∧e.2<W8) (ok:okS e.1 e.2) (e0:0≤rOf e) (e1:rOf e≤1) (hR:vU (rOf e) S=(R:Int) - 1) :WV prog (.func (.func 77) #[] #[ptr (2*b8) 0,ptr (2*b13) 0,ptr (2*b9) 0]) [KN s,.agg #[kv,hv]] h fun r h'=>Ext h h'∧ch h' r (qO N (kAt ll) f R S s):=by
 obtain⟨c1,c2,hlen⟩:=hk.co;have o3:=hh.cells;have o4:=hh.cok;obtain⟨H0,hH0,n0,E0,g6,g7⟩:=gN h [kv,hv] ZR;have vk:List.take 2 (List.drop 0 [kv,hv]) = [kv,hv]:=rfl;refine enter (nt:=20) (rs:=[.cell 7 137]) Proofs.Tryz.func77 rfl rfl rfl aa ?_;simp -dsimp (disch:=omega) only[wpS,zE,zA,gY];rw[←hH0];clear hH0;have X0:=Ext.refl H0;have g80:=E0.kept l8 g8;have g130:=E0.kept l13 g13;have g90:=E0.kept l9 g9;obtain⟨_,_,L9⟩:=psh g90;refine drawn [(4,[3,11]),(6,[11]),(7,[3,11]),(8,[3]),(9,[3])] ab ab rfl ?_;simp -dsimp (disch:=omega) only[wpS,wpT,zE,zL,zA,Rw,ld3,aw g6,aw g80,vk];refine call (HX (hk.ae E0.ae) ko hN (hh.ae E0.ae) hS hs hp hd) ?_;rintro cv h1 ⟨X1,cs⟩;have E1:=E0.trans X1;obtain⟨w,ix,lw,sw⟩:=Fo cs (jR S);have g81:=X1.kept byOmega g80;have ZdN:=X1.kept byOmega g130;have g91:=X1.kept byOmega g90;obtain⟨_,_,L91⟩:=psh g91;simp -dsimp (disch:=omega) only[wpS,zE,ld3,Zfo,aw g81,aw ZdN,ix,lw h1 (aX.refl h1),L91];refine call (MN he ok e0 e1 hS) ?_;rintro _ h2 ⟨X2,rfl⟩;rw[hR];obtain⟨z0,z1⟩:=ru (n:=S) e0 e1;have hRb:R≤S+1:=by unfold vU at hR;omega
 simp -dsimp (disch:=omega) only[wpS,zE];have kb:S*(d+N)≤20*(d+N):=cT _ hS;have k2:=ko.2.1;have zt:=ph (S:=S) (hit:=leF f s) (s:=s) byOmega hp S (m:=0) byOmega;refine call (Qq (most:=(R:Int) - 1) (sw.ae kF X2.ae) (sn.ae kF ((E1.trans X2).ae)) zt.1 zt.2.1 (K:=1) (y:=0) byOmega byOmega (fun i hi=>ph byOmega hp S (by rw[jG] at hi;exact hi)) (fun j hj=>by
  obtain rfl:j=0:=by simpa using hj
  exact OvL.one) ⟨byOmega,byOmega⟩ (by rw[jG];omega) aa byOmega) ?_
 rintro r h3 ⟨X3,p3⟩;rw[jG,tL,HB hs rfl] at p3;obtain⟨a3,s3,b3,t3,rfl,_,_,d1,o5,d2,o6,o7,o8⟩:=p3.parts;have X12:=X2.trans X3;have n1:=X1.n;have n2:=X12.n;have g73:=X12.kept byOmega (X1.kept byOmega g7);simp -dsimp (disch:=omega) only[wpS,wpT,zE,zL,zA,fK,g73,o5,o6,o7,o8];have l80:=ry ag3 g80;have l81:=ry ag3 g81;have l82:=ry ag3 (X2.kept byOmega g81);have l130:=ry Cb g130;have l131:=ry Cb ZdN;have l132:=ry Cb (X2.kept byOmega ZdN);refine⟨aB (aA (ai rfl rfl rfl rfl (au rfl l81 l80)) (ai rfl rfl rfl rfl (au rfl l81 l82))) (aB (ai rfl rfl rfl rfl (au rfl (lw h1 (aX.refl h1)) (lw h2 X2.ae))) (aB (aA (ai rfl rfl rfl rfl (au rfl l131 l130)) (ai rfl rfl rfl rfl (au rfl l131 l132))) (aB (ai rfl rfl rfl rfl (au rfl l81 l80)) (ai rfl rfl rfl rfl (au rfl L91 L9))))),?_⟩;simp -dsimp (disch:=omega) only[wpS,wpT,zE,zL,zA,jZ,fm];exact⟨(E1.trans X12).put byOmega _,p3.ae ((aX.refl _).put g73 _)⟩
def Rq (hp : ∀i j,i<N→j<N→OvL D d (p i j)) (hs:s<N) (hn:n<S+1) :OvL (D ^ S) (S*(d+N)+2*N+2*S+2) (zN N p f R S n s):=by
 have a:=fun m (hm:m<S+1)=>ph (S:=S) (hit:=leF f s) (s:=s) byOmega hp n hm;have b:=fun m (hm:m<S+1)=>ph (S:=S) (hit:=leF f s) (s:=s) byOmega hp (S - n) hm;have e1:D ^ n*D ^ (S - n)=D ^ S:=by rw[←dC];congr 1;omega
 have e2:n*(d+N)+(S - n)*(d+N)=S*(d+N):=by rw[←cW];congr 1;omega
 rw[←Rp hs hn];have t : ∀i j,i<S+1→j<S+1→OvL (D ^ S) (S*(d+N)+2*N) (if (i:Int)+(j:Int)≤(R:Int) - 1 then atQ (uN N (S+1) (mf N p (leF f s) s n)) i*atQ (uN N (S+1) (mf N p (leF f s) s (S - n))) j else 0):=fun i j hi hj=>by have z:=((a i hi).mul (b j hj)).ite (c:=(i:Int)+(j:Int)≤(R:Int) - 1);rw[e1] at z;exact z.mono byOmega
 have z:=t 0 0 byOmega byOmega;have z2:=z.mono (y:=S*(d+N)+2*N+(S+1)) byOmega;exact(OvL.rs z2.1 z2.2.1 fun i hi=>OvL.rs z.1 z.2.1 fun j hj=>t i j hi hj).mono byOmega
set_option maxRecDepth 100000 in
def Mo  (hk:je h kv ll) (ko:fy ll) (hN:N=ll.length) (hh:cA h 1 hv N (zU N (leF f s))) (hS:S≤20) (hs:s<N) (hp : ∀i j,i<N→j<N→OvL D d (kAt ll i j)) (hd:d≤300000)(g8:h.ext.get b8=some (.cells [KN S] 0 none)) (g9:h.ext.get b9=some (.cells (shC e.1 e.2) 0 none)) (l8:b8<h.n) (l9:b9<h.n)(he:e.1<W8∧e.2<W8) (ok:okS e.1 e.2) (e0:0≤rOf e) (e1:rOf e≤1) (hR:vU (rOf e) S=(R:Int) - 1) :WV prog (.func (.func 82) #[] #[ptr (2*b8) 0,ptr (2*b9) 0]) [KN s,.agg #[kv,hv]] h fun r h'=>Ext h h'∧ch h' r (rs (S+1) (fun n=>zN N (kAt ll) f R S n s) / (((S+1:Nat):Int):Rat)):=by
 obtain⟨c1,c2,hlen⟩:=hk.co;have o3:=hh.cells;have o4:=hh.cok;have k2:=ko.2.1;have kb:S*(d+N)≤20*(d+N):=cT _ hS;have k3 : ∀n,n<S+1→n*(d+N)≤20*(d+N):=fun n hn=>cT _ byOmega;obtain⟨g,hg⟩:=bm (fun n=>zN N (kAt ll) f R S n s);have gO : ∀n,n<S+1→OvL (D ^ S) (S*(d+N)+2*N+2*S+2) (g n):=fun n hn=>by rw[hg];exact Rq hp hs hn
 have z0:=gO 0 byOmega;have gQ : ∀n,n≤S+1→QB (S*(d+N)+2*N+2*S+2+n) (rs n g):=fun n hn=>(OvL.rs z0.1 z0.2.1 fun i hi=>gO i byOmega).qb;obtain⟨z1,z2⟩:=ru (n:=S) e0 e1;have hRb:R≤S+1:=by unfold vU at hR;omega
 rw[←hg];obtain⟨H0,hH0,n0,E0,g5,g6⟩:=gN h [kv,hv] ZR;have vk:List.take 2 (List.drop 0 [kv,hv]) = [kv,hv]:=rfl;refine enter (nt:=42) (rs:=[.cell 6 137]) Proofs.Tryz.func82 rfl rfl rfl aa ?_;simp -dsimp (disch:=try exact dx) only[wpS,wpT,zE,zL,zA,gY,Rw,ld3,aw g8,vk];rw[←hH0];clear hH0;have g80:=E0.kept l8 g8;have g90:=E0.kept l9 g9;refine call (HX (hk.ae E0.ae) ko hN (hh.ae E0.ae) hS hs hp hd) ?_;rintro cv h1 ⟨X1,cs⟩;have E1:=E0.trans X1;have m1:=X1.n;simp -dsimp (disch:=omega) only[wpS,zE];refine call (iL 0 ⟨byOmega,byOmega⟩) ?_;rintro z h2 ⟨X2,p2⟩;have m2:=X2.n;obtain⟨a3,s3,b3,t3,rfl,_,_,d1,o5,d2,o6,o7,o8⟩:=p2.parts;have g82:=(X1.trans X2).kept byOmega g80;simp -dsimp (disch:=omega) only[wpS,wpT,zE,zL,zA,gY,ld3,fK,o5,o6,o7,o8,aw g82];obtain⟨H3,hH3⟩:=bm ((h2.new (.cells ZR 0 none)).put h2.n (.cells [a3,s3,b3,t3] 0 none));have F3:Ext h2 H3:=by rw[hH3];exact((Ext.refl h2).new _).put (ar _) _
 have n3:H3.n=h2.n+1:=by rw[hH3];rfl
 have gb:H3.ext.get h2.n=some (.cells [a3,s3,b3,t3] 0 none):=by rw[hH3];simp (disch:=omega) only[ak]
 rw[←hH3];clear hH3;have X13:=X2.trans F3;refine loop (fun m fr H => ∃(n:Nat) (y1 y2 y3 y4:QQ),n+m=S+1∧Ext H0 H∧Ext h1 H∧h2.n<H.n∧H.ext.get h2.n=some (.cells [y1,y2,y3,y4] 0 none)∧ch H (.agg #[y1,y2,y3,y4]) (rs n g)∧aj fr 2=some (ptr (2*b8) 0)∧aj fr 3=some (ptr (2*b9) 0)∧aj fr 6=some (ptr (2*(h.n+1)) 0)∧aj fr 7=some cv∧aj fr 8=some (ptr (2*h2.n) 0)∧aj fr 16=some (KN (S+1))∧aj fr 17=some (KN n)) (S+1)
  ⟨0,a3,s3,b3,t3,byOmega,X1.trans X13,X13,byOmega,gb,p2.ae F3.ae,aa⟩ ?_
 clear p2 gb F3 n3 X13;rintro m fr H ⟨n,y1,y2,y3,y4,hnm,E,EH,nH,gb,pb,f2,f3,f6,f7,f8,f16,f17⟩;simp -dsimp (disch:=omega) only[wpS,f16,f17];refine az ?_ ?_<;>intro hc<;>simp only[aJ,aV] at hc
 ·have hn:n<S+1:=byOmega;obtain⟨wa,ixa,lwa,swa⟩:=Fo cs hn;obtain⟨wb,ixb,lwb,swb⟩:=Fo cs (show S - n<S+1 by omega);have eS:((S:Nat):Int) - ((n:Nat):Int)=((S - n:Nat):Int):=byOmega;have g8H:=E.kept byOmega g80;have g9H:=E.kept byOmega g90;have l8H:=ry ag3 g8H;obtain⟨_,_,L9⟩:=psh g9H;obtain⟨_,_,LB⟩:=pl4 gb;simp -dsimp (disch:=omega) only[wpS,wpT,zE,f17];refine drawn [(0,[14,15]),(4,[14]),(6,[14]),(10,[14])] ab ab rfl ?_;simp -dsimp (disch:=omega) only[wpS,zE,f2,f3,f7,f8,LB,ixa,ixb,lwa H EH.ae,lwb H EH.ae,l8H,L9,eS];refine call (MN he ok e0 e1 hS) ?_;rintro _ h4 ⟨X4,rfl⟩;rw[hR];have n4:=X4.n;have gb4:=X4.kept byOmega gb;obtain⟨_,_,LB4⟩:=pl4 gb4;have E4:=EH.trans X4;have l84:=ry ag3 (X4.kept (by have:=E.n;omega) g8H);have za:=ph (S:=S) (hit:=leF f s) (s:=s) byOmega hp n (m:=0) byOmega;have zb:=ph (S:=S) (hit:=leF f s) (s:=s) byOmega hp (S - n) (m:=0) byOmega;have e2:n*(d+N)+(S - n)*(d+N)=S*(d+N):=by rw[←cW];congr 1;omega
  simp -dsimp (disch:=omega) only[wpS,zE];refine call (Qq (most:=(R:Int) - 1) (swa.ae kF E4.ae) (swb.ae kF E4.ae) za.1 za.2.1 zb.1 zb.2.1 (fun i hi=>ph byOmega hp n (by rw[jG] at hi;exact hi)) (fun i hi=>ph byOmega hp (S - n) (by rw[jG] at hi;exact hi)) ⟨byOmega,byOmega⟩ (by rw[jG];omega) (by rw[jG];omega) byOmega) ?_;rintro r5 h5 ⟨X5,p5⟩;rw[jG,jG,Rp hs hn] at p5;have e5:zN N (kAt ll) f R S n s=g n:=by rw[hg]
  rw[e5] at p5;have n5:=X5.n;obtain⟨_,_,LB5⟩:=pl4 (X5.kept byOmega gb4);have X45:=X4.trans X5;simp -dsimp (disch:=omega) only[wpS,zE];refine call (mH (pb.ae X45.ae) p5 (gQ n byOmega) (gO n hn).qb byOmega) ?_;rintro r6 h6 ⟨X6,p6⟩;have eT:rs n g+g n=rs (n+1) g:=rfl;rw[eT] at p6;obtain⟨x1,x2,x3,x4,rfl,_,_,d1',q1,d2',q2,q3,q4⟩:=p6.parts;have X46:=X45.trans X6;have gb6:=X46.kept nH gb;simp -dsimp (disch:=omega) only[wpS,wpT,zE,zL,zA,fK,f8,gb6,q1,q2,q3,q4];refine⟨aB (aA (ai rfl rfl rfl rfl (au f8 LB LB4)) (ai rfl rfl rfl rfl (au f8 LB LB5))) (aB (ai rfl rfl rfl rfl (au rfl (lwa H EH.ae) (lwa h4 E4.ae))) (aB (ai rfl rfl rfl rfl (au f2 l8H l84)) (ai rfl rfl rfl rfl (au rfl (lwb H EH.ae) (lwb h4 E4.ae))))),?_⟩;simp -dsimp (disch:=omega) only[wpS,wpT,zE,zA,f17];have n6:=X46.n;exact⟨m - 1,byOmega,n+1,x1,x2,x3,x4,byOmega,(E.trans X46).put (by have:=X1.n;omega) _,(EH.trans X46).put byOmega _,by simp only[bd];omega,ak _ _ rfl,p6.ae ((aX.refl _).put gb6 _),by simp[f2,f3,f6,f7,f8,f16]⟩
 ·obtain rfl:n=S+1:=byOmega;have g8H:=E.kept byOmega g80;obtain⟨_,_,LB⟩:=pl4 gb;have l8H:=ry ag3 g8H;simp -dsimp (disch:=omega) only[wpS,wpT];refine drawn [(0,[4])] ab ab rfl ?_;simp -dsimp (disch:=omega) only[wpS,zE,f2,f8,LB,l8H];refine call (iL ((S+1:Nat):Int) ⟨byOmega,byOmega⟩) ?_;rintro r4 h4 ⟨X4,p4⟩;have n4:=X4.n;obtain⟨_,_,LB4⟩:=pl4 (X4.kept nH gb);simp -dsimp (disch:=omega) only[wpS,zE];refine call (DU (pb.ae X4.ae) p4 (gQ (S+1) (ar _)) (QB.int (k:=64) byOmega) byOmega (um byOmega)) ?_;rintro r5 h5 ⟨X5,p5⟩;obtain⟨x1,x2,x3,x4,rfl,_,_,d1',q1,d2',q2,q3,q4⟩:=p5.parts;have X45:=X4.trans X5;have g6':=(E.trans X45).kept byOmega g6;simp -dsimp (disch:=omega) only[wpS,wpT,zE,zL,zA,fK,f6,g6',q1,q2,q3,q4];refine⟨ai rfl rfl rfl rfl (au f8 LB LB4),?_⟩;simp -dsimp (disch:=omega) only[wpS,wpT,zE,zL,zA,jZ,f6,fm];exact⟨((E0.trans E).trans X45).put byOmega _,p5.ae ((aX.refl _).put g6' _)⟩
end Go.Id
namespace Go.Id
open Go
open Go renaming Operand→QY,Program→QX,TypeId→QZ,Value→QQ
open Nat renaming reduceAdd→zA,reduceEqDiff→zE,reduceLeDiff→zL
open Nat (reduceMul)
set_option maxHeartbeats 16000000
variable {p:Tmp}{P:Program}{q:Tmp}
def NX {k:Nat} {r:kN} (hst:r.state=.ready) (hpe:r.pending=none) (hps:r.params = [p,q]) (hp:p<r.nt) (hq:q<r.nt) (v w0:QQ) (h:IH) (K:QQ→IH→Prop) (hg:h.ext.get k=some (.loop r))(w:wpC P r.fn r.nt (some k) r.assign ((q,w0) :: (p,v) :: r.fr) h (asgK P k r K)):WV P (.func (.yield (2*k)) #[] #[]) [v,w0] h K:=by
 obtain⟨⟨e0,fr0,h0⟩,⟨N0,hN0⟩,he0,hg0,w⟩:=jh w;simp only at he0 hg0 w hN0;subst he0;obtain⟨⟨e,fr,h1⟩,⟨N,hN⟩,hb,hk⟩:=jh w;simp only at hb hk hN;have hp':Nat.blt p r.nt=true:=by simp only[Nat.blt,bI];exact hp
 have hq':Nat.blt q r.nt=true:=by simp only[Nat.blt,bI];exact hq
 have e1:(2*k % 2 == 0)=true:=aa;have e2:2*k / 2=k:=byOmega;have e3:gU r.nt r.params [v,w0] r.fr=some ((q,w0) :: (p,v) :: r.fr):=by rw[hps];simp[gU,qT,hp',hq']
 have e5:(r.state == LoopState.ready)=true:=by rw[hst];rfl
 have e6:({ h0 with ext:=h0.ext.set k (.loop { r with state:=.busy }) }:IH)=h0.put k (.loop (Fx r)):=rfl;have e7:({ Fx r with state:=.ready,pending:=none }:kN)=r:=by cases r;simp only at hst hpe;subst hst;subst hpe;rfl
 cases e with
 | normal =>
  refine⟨(.bool true,h1.put k (.loop r)),⟨N0+N+1,fun n hn=>?_⟩,hk⟩;obtain⟨n,rfl⟩ : ∃m,n=m+1:=⟨n - 1,byOmega⟩;have h2:=hN n byOmega;have h3:=hN0 n byOmega;show(bif 2*k % 2 == 0 then gi (E0 P) (dj (E0 P) n) n (2*k / 2) ((#[]:Array QQ).toList ++ [v,w0]) h else none)=_;rw[e1,bP,e2];simp only[gi,jL hg,e3,h3,jL hg0,e5,bP,e6,h2,jL hb,mz];rw[e7];rfl
 | exit i =>
  refine⟨(.bool false,h1.put k (.loop (HL r (.exit i)))),⟨N0+N+1,fun n hn=>?_⟩,hk⟩;obtain⟨n,rfl⟩ : ∃m,n=m+1:=⟨n - 1,byOmega⟩;have h2:=hN n byOmega;have h3:=hN0 n byOmega;show(bif 2*k % 2 == 0 then gi (E0 P) (dj (E0 P) n) n (2*k / 2) ((#[]:Array QQ).toList ++ [v,w0]) h else none)=_;rw[e1,bP,e2];simp only[gi,jL hg,e3,h3,jL hg0,e5,bP,e6,h2,jL hb,mz];rfl
 | ret =>
  refine⟨(.bool false,h1.put k (.loop (HL r .ret))),⟨N0+N+1,fun n hn=>?_⟩,hk⟩;obtain⟨n,rfl⟩ : ∃m,n=m+1:=⟨n - 1,byOmega⟩;have h2:=hN n byOmega;have h3:=hN0 n byOmega;show(bif 2*k % 2 == 0 then gi (E0 P) (dj (E0 P) n) n (2*k / 2) ((#[]:Array QQ).toList ++ [v,w0]) h else none)=_;rw[e1,bP,e2];simp only[gi,jL hg,e3,h3,jL hg0,e5,bP,e6,h2,jL hb,mz];rfl
variable {fr:Fr}{fn:FuncId}{f:Operand}{Q:cL→Fr→IH→Prop}{rd:Option Nat}{nt:Nat}{h:IH}
def ZB {assign body:Code} {fv:QQ} (hf:opd fr f=some fv) (hrd:uc h rd=true) (hp:p<nt) (hq:q<nt)(w : ∀(r:kN) (y:QQ),r.fn=fn→r.nt=nt→r.body=body→(∀v w0 h1 K,h1.ext.get h.n=some (.loop r)→Do (wpC P fn nt (some h.n) assign ((q,w0) :: (p,v) :: fr) h1) (asgK P h.n r K) nx→WV P y [v,w0] h1 K) →WV P fv [y] (h.new (.loop r)) fun _ h1=>YH h.n r fr Q h1) :
  Do (yK P fn nt rd f #[p,q] assign body fr h) Q nx:=by
 have w1:=w { state:=.ready,pending:=none,fn,nt,fr,params:=[p,q],assign:=assign,body } (.func (.yield (2*h.n)) #[] #[]) rfl rfl rfl
  fun v w0 h1 K hg w=>NX (r:={ state:=.ready,pending:=none,fn,nt,fr,params:=[p,q],assign:=assign,body }) rfl rfl rfl hp hq v w0 h1 K hg w
 obtain⟨⟨v,h1⟩,⟨N,hN⟩,hq⟩:=w1;have st : ∀(r:kN) (e:cL),ja h1 h.n=some r→(r.state == LoopState.busy)=false→yF r.pending=some e → ∀n,N≤n→nU (E0 P) (dj (E0 P) n) fn nt rd f [p,q] assign body fr h=some (e,fr,h1.put h.n .dead):=by intro r e h3 h4 h5 n hn;have h2:=hN n hn;simp only at h2;simp only[nU,hrd,bP,hf];show(match dj (E0 P) n fv [_] _ with|none=>none|some (_,h1)=>_)=_;rw[h2];simp only[h3,h4,dL,h5];rfl
 rcases hq with⟨hg,hq⟩|⟨i,hg,hq⟩|⟨hg,hq⟩;·exact⟨(.normal,fr,h1.put h.n .dead),⟨N,fun n hn=>st _ _ (jL hg) rfl rfl n hn⟩,hq⟩
 ·exact⟨(.exit i,fr,h1.put h.n .dead),⟨N,fun n hn=>st _ _ (jL hg) rfl rfl n hn⟩,hq⟩
 ·exact⟨(.ret,fr,h1.put h.n .dead),⟨N,fun n hn=>st _ _ (jL hg) rfl rfl n hn⟩,hq⟩
def Te {ps:Array Tmp} {a b:Code} {id:Nat} {K:Fr→IH→Prop} (R:Fr→IH→Prop)(w:Do (yK P fn nt rd f ps a b fr h) (qN id (vy (fun fr h=>Pst (R fr h) nx) Q)) nx) (k : ∀fr h,R fr h→K fr h):Do (yK P fn nt rd f ps a b fr h) (qN id (vy K Q)) nx :=
 cut (a:=.block id (.rangeFunc f ps a b)) R w k
open Go.Proofs.Tryz (prog)
variable {h:IH}
def Hd {p:Nat} (hp:p<W8):WV prog (.func (.func 175) #[] #[]) [wdV p] h fun r h'=>Ext h h'∧ch h' r (dh p):=by obtain⟨H0,hH0,n0,E0,g1,g2⟩:=gN h (wdC p) ZR;refine enter (nt:=6) (rs:=[.cell 2 137]) Proofs.Tryz.func175 rfl rfl rfl aa ?_;simp -dsimp (disch:=try exact dx) only[wpS,zE,zL,gY,iO,eG,aH,di];rw[←hH0];clear hH0;refine call (mn p hp) ?_;rintro r1 h1 ⟨X1,p1⟩;simp -dsimp (disch:=omega) only[wpS,zE];refine call (yQ p1) ?_;rintro r2 h2 ⟨X2,p2⟩;have X12:=X1.trans X2;obtain⟨a3,s3,b3,t3,rfl,_,_,d1,o1,d2,o2,o3,o4⟩:=p2.parts;have g22:=X12.kept byOmega g2;simp -dsimp (disch:=omega) only[wpS,wpT,zE,zL,zA,fK,jZ,g22,o1,o2,o3,o4,fm];exact⟨(E0.trans X12).put byOmega _,p2.ae ((aX.refl _).put g22 _)⟩
def wQ (t:List Nat) (i:Nat):Rat:=dh (t.getD i 0)
def pC (t:List Nat) (g:Nat→Rat) (i:Nat):Rat:=rs i fun s=>wQ t s / rs t.length (wQ t)*g s
variable {k:Nat}
def WM {H:IH} {a s:Value} (g:H.ext.get k=some (.cells [a,s] 0 none)):load prog H 145 (ptr (2*k) 0)=some (.agg #[a,s]):=by have r:=aw g;have tk2c:List.take 2 (List.drop 0 [a,s]) = [a,s]:=rfl;simp -dsimp (disch:=omega) only[wpS,wpT,zL,zA,Rw,r,tk2c]
set_option maxRecDepth 100000 in
def MC {kv wv fv F:Value} {ll:List (List (Nat×Nat))} {t:List Nat} {f:List (Nat×Nat)} {N:Nat} {g:Nat→Rat}(hk:je h kv ll) (hw:mS h wv t) (hf:iS h fv f) (ok:xK f) (hN:N≤60) (lt:t.length=N) (lf:f.length=N) (cF:F.cells = #[F]∧aM F=true)(hF : ∀H s hv,Ext h H→s<N→cA H 1 hv N (zU N (leF (mC f) s))→WV prog F [KN s,.agg #[kv,hv]] H fun r H'=>Ext H H'∧ch H' r (g s))(hg : ∀s,s<N→QB k (g s)) (hm : ∀s,s≤N→QB k (pC t g s)) (hk4:2*k+5000<16000000) (h0:rs N (wQ t)≠0) (hwq:QB 600 (rs N (wQ t))) :WV prog (.func (.func 76) #[] #[]) [kv,wv,fv,F] h fun r h'=>Ext h h'∧r=mU (pC t g N):=by
 have hlw:=hw.1.len (P:=prog) AM;obtain⟨o1,o2⟩:=cF;obtain⟨o3,o4⟩:wv.cells = #[wv]∧aM wv=true:=⟨hw.1.cells,hw.1.cok⟩;obtain⟨ok1,ok2,_⟩:=hk.co;obtain⟨H0,hH0⟩:=bm (((((h.new (.cells [wv] 0 none)).new (.cells [F] 0 none)).new (.cells Z16 0 none)).new (.cells [.nilFunc] 0 none)).put (h.n+1+1+1) (.cells [(.func (.func 175) #[] #[])] 0 none));have n0:H0.n=h.n+4:=by rw[hH0];rfl
 have E0:Ext h H0:=by rw[hH0];exact(((((Ext.refl h).new _).new _).new _).new _).put byOmega _
 have g5:H0.ext.get h.n=some (.cells [wv] 0 none):=by rw[hH0];simp (disch:=try exact dx) only[aq,aE,ax]
 have g7:H0.ext.get (h.n+1)=some (.cells [F] 0 none):=by rw[hH0];simp (disch:=try exact dx) only[aq,aE,ax]
 have g8:H0.ext.get (h.n+1+1)=some (.cells Z16 0 none):=by rw[hH0];simp (disch:=try exact dx) only[aq,aE,ax]
 have g10:H0.ext.get (h.n+1+1+1)=some (.cells [(.func (.func 175) #[] #[])] 0 none):=by rw[hH0];simp (disch:=omega) only[ak]
 refine enter (nt:=43) (rs:=[.cell 8 32,.tmp 9]) Proofs.Tryz.func76 rfl rfl rfl aa ?_;simp -dsimp (disch:=try exact dx) only[wpS,wpT,zE,zL,zA,lX,Zew,ZeN,TQ,ZbN,o1,o3];rw[←hH0];clear hH0;have lt60:t.length≤60:=byOmega;refine call (Ze (hw.ae E0.ae) lt60 fun H p X hp=>Hd (hw.2.2 p hp)) ?_;rintro ra h1 ⟨X1,pa⟩;have pa:ch h1 ra (rs N (wQ t)):=by rw[←lt];exact pa
 have m1:=X1.n;obtain⟨a1,a2,a3,a4,rfl,_,_,d1,q1,d2,q2,q3,q4⟩:=pa.parts;simp -dsimp (disch:=omega) only[wpS,wpT,zE,zL,zA,gY,fK,q1,q2,q3,q4];obtain⟨H2,hH2⟩:=bm ((h1.new (.cells ZR 0 none)).put h1.n (.cells [a1,a2,a3,a4] 0 none));have F2:Ext h1 H2:=by rw[hH2];exact((Ext.refl h1).new _).put (ar _) _
 have n2:H2.n=h1.n+1:=by rw[hH2];rfl
 have g11:H2.ext.get h1.n=some (.cells [a1,a2,a3,a4] 0 none):=by rw[hH2];simp (disch:=omega) only[ak]
 rw[←hH2];clear hH2;refine call (iL 0 ⟨byOmega,byOmega⟩) ?_;rintro rz h2 ⟨X2,pz⟩;have m2:=X2.n;obtain⟨z1,z2,z3,z4,rfl,_,_,d3,q5,d4,q6,q7,q8⟩:=pz.parts;simp -dsimp (disch:=omega) only[wpS,wpT,zE,zL,zA,gY,fK,q5,q6,q7,q8];obtain⟨H3,hH3⟩:=bm ((h2.new (.cells ZR 0 none)).put h2.n (.cells [z1,z2,z3,z4] 0 none));have F3:Ext h2 H3:=by rw[hH3];exact((Ext.refl h2).new _).put (ar _) _
 have n3:H3.n=h2.n+1:=by rw[hH3];rfl
 have g12:H3.ext.get h2.n=some (.cells [z1,z2,z3,z4] 0 none):=by rw[hH3];simp (disch:=try exact dx) only[ak]
 rw[←hH3];clear hH3;have cf:=hf.co;refine call (Nj ok1 cf.1) ?_;rintro _ _ ⟨rfl,rfl⟩;obtain⟨H4,hH4⟩ : ∃H,H=(H3.new (.cells [kv] 0 none)).new (.cells [fv] 0 none):=⟨_,rfl⟩;have F4:Ext H3 H4:=by rw[hH4];exact((Ext.refl H3).new _).new _
 have n4:H4.n=H3.n+2:=by rw[hH4];rfl
 have gc0:H4.ext.get H3.n=some (.cells [kv] 0 none):=by rw[hH4];simp (disch:=try exact dx) only[aq,aE]
 have gc1:H4.ext.get (H3.n+1)=some (.cells [fv] 0 none):=by rw[hH4];simp (disch:=try exact dx) only[aq]
 rw[←hH4];clear hH4;have X24:=(X2.trans F3).trans F4;have X14:=F2.trans X24;have X04:=X1.trans X14;have E4:=E0.trans X04;have g54:=X04.kept byOmega g5;have g74:=X04.kept byOmega g7;have g84:=X04.kept byOmega g8;have Xh:=X04.kept byOmega g10;have g114:=X24.kept byOmega g11;have g124:=F4.kept byOmega g12;have pa4:=pa.ae X14.ae;have pz4:=pz.ae (F3.trans F4).ae;clear pa pz g5 g7 g8 g10 g11 g12;simp -dsimp (disch:=omega) only[wpS];refine Te (fun fr H=>Ext h H∧h2.n<H.n∧H.ext.get (h.n+1+1)=some (.cells Z16 0 none)∧(∃x1 x2 x3 x4,H.ext.get h2.n=some (.cells [x1,x2,x3,x4] 0 none)∧ch H (.agg #[x1,x2,x3,x4]) (pC t g N))∧aj fr 8=some (ptr (2*(h.n+1+1)) 0)∧aj fr 12=some (ptr (2*h2.n) 0)) ?_ ?_
 ·refine ZB (p:=22) (q:=23) (nt:=43) rfl rfl aP aP (fun r y hfn hnt hbd hy=>?_);let C:IH→Prop:=fun hh=>Ext h hh∧aX H4 hh∧H4.n<hh.n ∧ ∀k,k<H4.n→k≠h2.n→hh.ext.get k=H4.ext.get k;let J:Nat→IH→Prop:=fun i hh=>C hh∧hh.ext.get H4.n=some (.loop r) ∧ ∃x1 x2 x3 x4,hh.ext.get h2.n=some (.cells [x1,x2,x3,x4] 0 none)∧ch hh (.agg #[x1,x2,x3,x4]) (pC t g i);refine(WV.mono (Kt (b:=H3.n) (kv:=kv) (fv:=fv) (l:=f) J ⟨ok1,ok2⟩ ?_ ok byOmega ?_ ?_) ?_)
  ·rintro i hh ⟨⟨c1,c2,c3,c4⟩,_⟩;exact⟨(c4 _ byOmega byOmega).trans gc0,(c4 _ byOmega byOmega).trans gc1,byOmega,hf.ae c1.ae⟩
  ·refine⟨⟨E4.new _,(Ext.refl H4).ae.new _,aa,fun k hk _=>aE _ _ byOmega⟩,aq _ _ rfl,z1,z2,z3,z4,(aE _ _ byOmega).trans g124,?_⟩;have:pC t g 0=((0:Int):Rat):=rfl;rw[this];exact pz4.ae ((aX.refl H4).new _)
  ·rintro i hh h3 hv hi ⟨⟨c1,c2,c3,c4⟩,hr,x1,x2,x3,x4,gx,px⟩ X shv;have nX:=X.n;have hr3:=X.kept c3 hr;refine hy _ _ h3 _ hr3 ?_;have co5:=shv.cells;have co6:=shv.cok;have hw3:=hw.ae (c1.trans X).ae;have cl:i<N:=byOmega;obtain⟨p,hp⟩:=fJ (l:=t) (i:=i) byOmega;have wp:=hw.2.2 p (bN hp);have ep:dh p=wQ t i:=by unfold wQ;rw[bC,hp];rfl
   simp -dsimp (disch:=omega) only[wpS,wpT,zE,zL,zA,Za8,ZeO,ok2,co6];obtain⟨H5,hH5⟩:=bm ((h3.new (.cells [.slice none 0 0,.slice none 0 0] 0 none)).put h3.n (.cells [kv,hv] 0 none));have n5:H5.n=h3.n+1:=by rw[hH5];rfl
   have F5:Ext h3 H5:=by rw[hH5];exact((Ext.refl h3).new _).put (ar _) _
   have g14:H5.ext.get h3.n=some (.cells [kv,hv] 0 none):=by rw[hH5];simp (disch:=omega) only[ak]
   rw[←hH5];clear hH5;have hr5:=F5.kept byOmega hr3;refine⟨rfl,hr5,?_⟩;rw[hfn,hnt,hbd];obtain⟨H6,hH6⟩:=bm (H5.put H4.n (.loop (Fx r)));have n6:H6.n=h3.n+1:=by rw[hH6];exact n5
   have e6 : ∀k,k≠H4.n→H6.ext.get k=H5.ext.get k:=fun k hk=>by rw[hH6];exact ax _ _ hk
   have hr6:H6.ext.get H4.n=some (.loop (Fx r)):=by rw[hH6];exact ak _ _ rfl
   have K56:aX H5 H6:=by rw[hH6];exact(aX.refl H5).OK (by rintro c e f hc;rw[hr5] at hc;cases hc) _
   have E6:Ext h H6:=by rw[hH6];exact((c1.trans X).trans F5).put byOmega _
   rw[←hH6];clear hH6;have b6 : ∀{k:Nat} {o:cB},k<H4.n→k≠h2.n→H4.ext.get k=some o→H6.ext.get k=some o:=fun hk hne hg=>by rw[e6 _ byOmega,F5.get _ byOmega,X.get _ byOmega,c4 _ hk hne];exact hg
   have g56:=b6 byOmega byOmega g54;have g76:=b6 byOmega byOmega g74;have g106:=b6 byOmega byOmega Xh;have g116:=b6 byOmega byOmega g114;have Uc:H6.ext.get h2.n=some (.cells [x1,x2,x3,x4] 0 none):=by rw[e6 _ byOmega];exact(X.trans F5).kept byOmega gx
   have ZdM:H6.ext.get h3.n=some (.cells [kv,hv] 0 none):=by rw[e6 _ byOmega];exact g14
   have K46:aX H4 H6:=((c2.trans X.ae).trans F5.ae).trans K56;have px6:=px.ae ((X.trans F5).ae.trans K56);have shv6:=shv.ae (F5.ae.trans K56);have X0:=Ext.refl H6;obtain⟨_,_,L12⟩:=pl4 Uc;obtain⟨_,_,L11⟩:=pl4 g116;have L7:=ry Sq g76;have vk:List.take 2 (List.drop 0 [kv,hv]) = [kv,hv]:=rfl;simp -dsimp (disch:=omega) only[wpS];refine drawn [(0,[8,12,13,14]),(7,[6]),(9,[6,8]),(11,[6,8])] ab ab rfl ?_;simp -dsimp (disch:=omega) only[wpS,zE,TQ,ZbN,L12,aw g106,aw g56,hw.1.idx Kk (show i<t.length by omega),hw.ld E6.ae hp];refine call (Hd wp) ?_;rintro r7 h7 ⟨X7,p7⟩;have n7:=X7.n;rw[ep] at p7;have wq:QB 512 (wQ t i):=by rw[←ep];exact mA wp
   obtain⟨_,_,L127⟩:=pl4 (X7.kept byOmega Uc);obtain⟨_,_,L117⟩:=pl4 (X7.kept byOmega g116);have L77:=ry Sq (X7.kept byOmega g76);simp -dsimp (disch:=omega) only[wpS,zE,L117];refine call (DU p7 (pa4.ae (K46.trans X7.ae)) wq hwq byOmega h0) ?_;rintro r8 h8 ⟨X8,p8⟩;have n8:=X8.n;have X78:=X7.trans X8;obtain⟨_,_,L128⟩:=pl4 (X78.kept byOmega Uc);have g78:=X78.kept byOmega g76;have L78:=ry Sq g78;have g148:=X78.kept byOmega ZdM;simp -dsimp (disch:=omega) only[wpS,wpT,zE,zL,zA,Zfm,Rw,aw g78,aw g148,vk];refine call (hF h8 i hv (E6.trans X78) cl ?_) ?_;·have:=shv6.ae X78.ae;rw[←lf];exact this
   rintro r9 h9 ⟨X9,p9⟩
   have n9:=X9.n;have X79:=X78.trans X9;obtain⟨_,_,L129⟩:=pl4 (X79.kept byOmega Uc);simp -dsimp (disch:=omega) only[wpS,zE];have qd:=wq.div hwq h0;have qg:=hg i cl;refine call (nu (p8.ae X9.ae) p9 qd qg byOmega) ?_;rintro r10 h10 ⟨X10,p10⟩;have n10:=X10.n;have X70:=X79.trans X10;obtain⟨_,_,Zg9⟩:=pl4 (X70.kept byOmega Uc);simp -dsimp (disch:=omega) only[wpS,zE];refine call (mH (px6.ae X70.ae) p10 (hm i byOmega) (qd.mul qg) byOmega) ?_;rintro r11 h11 ⟨X11,p11⟩;have n11:=X11.n;have eT:pC t g i+wQ t i / rs N (wQ t)*g i=pC t g (i+1):=by unfold pC;rw[rs,lt]
   rw[eT] at p11
   obtain⟨y1,y2,y3,y4,rfl,_,_,d5,q9,d6,q10,q11,q12⟩:=p11.parts;have X71:=X70.trans X11;have ZbX:=X71.kept byOmega Uc;simp -dsimp (disch:=omega) only[wpS,wpT,zE,zL,zA,fK,ZbX,q9,q10,q11,q12];have L14:=WM ZdM;have L147:=WM (X7.kept byOmega ZdM);have L148:=WM g148;refine⟨aB (aA (ai rfl rfl rfl rfl (au rfl L12 L127)) (aA (ai rfl rfl rfl rfl (au rfl L12 L128)) (aA (ai rfl rfl rfl rfl (au rfl L12 L129)) (ai rfl rfl rfl rfl (au rfl L12 Zg9))))) (aB (ai rfl rfl rfl rfl (au rfl L117 L11)) (aB (aA (ai rfl rfl rfl rfl (au rfl L78 L7)) (ai rfl rfl rfl rfl (au rfl L78 L77))) (aA (ai rfl rfl rfl rfl (au rfl L148 L14)) (ai rfl rfl rfl rfl (au rfl L148 L147))))),?_⟩;simp -dsimp (disch:=omega) only[wpS,wpT,zA];have hr11:=X71.kept byOmega hr6;have hrp:(h11.put h2.n (.cells [y1,y2,y3,y4] 0 none)).ext.get H4.n=some (.loop (Fx r)):=(ax _ _ byOmega).trans hr11;have Kp:=(aX.refl h11).put ZbX (.cells [y1,y2,y3,y4] 0 none);have Kl:=(aX.refl (h11.put h2.n (.cells [y1,y2,y3,y4] 0 none))).OK (k:=H4.n) (by rintro c e f hc;rw[hrp] at hc;cases hc) (.loop r);refine⟨hrp,rfl,⟨((E6.trans X71).put byOmega _).put byOmega _,((K46.trans X71.ae).trans Kp).trans Kl,by simp only[bd];omega,fun k hk hne=>?_⟩,ak _ _ rfl,y1,y2,y3,y4,(ax _ _ byOmega).trans (ak _ _ rfl),(p11.ae Kp).ae Kl⟩;rw[ax _ _ byOmega,ax _ _ hne,X71.get _ byOmega,e6 _ byOmega,F5.get _ byOmega,X.get _ byOmega,c4 _ hk hne]
  ·rintro _ hh ⟨⟨c1,c2,c3,c4⟩,hr,x1,x2,x3,x4,gx,px⟩;refine .inl ⟨hr,?_⟩;simp -dsimp (disch:=omega) only[wpS];rw[lf] at px;refine⟨c1.put byOmega _,by simp only[bd];omega,?_,⟨x1,x2,x3,x4,(ax _ _ byOmega).trans gx,px.ae ((aX.refl hh).OK (by rintro c e f hc;rw[hr] at hc;cases hc) _)⟩,rfl,rfl⟩;rw[ax _ _ byOmega];exact(c4 _ byOmega byOmega).trans g84
 ·rintro fr H ⟨E,lH,g8,⟨x1,x2,x3,x4,gx,px⟩,f8,f12⟩;simp -dsimp (disch:=omega) only[wpS,wpT,zL,zA,jZ,f12,aw gx,fm];refine call (DT px) ?_;rintro _ h5 ⟨X5,rfl⟩;have g85:=X5.kept byOmega g8;unfold mU;by_cases c:QW (pC t g N)
  ·rw[ah c,iW];simp -dsimp (disch:=omega) only[wpS,wpT,zE,zL,zA,iJ,dX,f8,g85,aU,aC,bH,cD,bF];exact⟨(E.trans X5).put byOmega _,rfl⟩
  ·rw[ad c];simp -dsimp (disch:=omega) only[wpS,wpT,zE,zL,zA,iJ,dX,f8,g85,aU,aC,bH,cD,bF];exact⟨(E.trans X5).put byOmega _,rfl⟩
def OJ {p:Nat×Nat} (h:okS p.1 p.2) (h0:0≤wdI p.1):0≤rOf p:=tC.1 (by rw[(fi h).1];exact h0)
def vO (g:Nat→Rat) (i:Nat) : ∀m,rY g i m+jJ ((List.range m).map g)=1+if i<m then g i else 0
 | 0=>by rw[rY,ad byOmega];show(1:Rat)+0=1+0;rfl
 | m+1=>by
  have ih:=vO g i m;rw[Da,kX,kW,tK,ny,rY];by_cases c:m=i;·subst c;rw[ah rfl,ah byOmega];rw[ad byOmega] at ih;grind
  ·rw[ad c];by_cases c2:i<m
   ·rw[ah (show i<m+1 by omega)];rw[ah c2] at ih;grind
   ·rw[ad (show ¬i<m+1 by omega)];rw[ad c2] at ih;grind
def Jh (g:Nat→Rat) (A:Rat) (i:Nat) : ∀m,jJ ((List.range m).map fun j=>if j=i then A else g j)=jJ ((List.range m).map g)+if i<m then A - g i else 0
 | 0=>by rw[ad byOmega];exact(lP _).symm
 | m+1=>by
  have ih:=Jh g A i m;rw[Da,kX,kX,kW,tK,kW,tK,ny,ny,ih];by_cases c:m=i;·subst c;rw[ah rfl,ah (show m<m+1 by omega),ad (show ¬m<m by omega)];grind
  ·rw[ad c];by_cases c2:i<m
   ·rw[ah (show i<m+1 by omega),ah c2];grind
   ·rw[ad (show ¬i<m+1 by omega),ad c2];grind
def AV {g k:Nat→Rat} {i:Nat} : ∀{m:Nat},(∀j,j<m→g j≤k j)→rY k i m≤rY g i m
 | 0,_=>tD
 | m+1,h=>by
  have ih:=AV (i:=i) (m:=m) fun j hj=>h j byOmega;have h1:=h m byOmega;rw[rY,rY];split;·exact ih
  ·grind
variable {ll:List (List (Nat×Nat))}
theorem QO (k:fy ll) {i:Nat} (hi:i<ll.length):jJ ((List.range ll.length).map (kAt ll i))=1:=by
 obtain⟨h1,h2⟩:=k.2.2 _ (iE hi);rw[←h2.2];congr 1;refine jT fun j=>?_;rw[cm,cm];by_cases hj:j<ll.length;·obtain⟨row,p,e1,e2,e3,_,_,e6⟩:=fV k hi hj;rw[bK hi] at e1;cases e1;rw[kY hj,e3];exact gC some e6
 ·rw[cI bq,cI byOmega];rfl
def PE {t:List Nat} (k:fy ll) (ht:t.length=ll.length) (hp : ∀p∈t,1≤wdI p) (ho:yD ll t):fy (lh ll t):=by
 have hw : ∀i,i<ll.length→0<dh (t.getD i 0):=fun i hi=>by have:=hp _ (iE (show i<t.length by omega));rw[bC,bK byOmega,mZ];unfold dh;exact CR.2 byOmega
 have hk : ∀i j,i<ll.length→j<ll.length→0≤kAt ll i j:=fun i j hi hj=>by obtain⟨_,p,_,_,_,e4,e5,e6⟩:=fV k hi hj;rw[e6];exact OJ e4 e5
 have hg : ∀i j,i<ll.length→j<ll.length→0≤goQ ll t i j∧goQ ll t i j≤kAt ll i j:=fun i j hi hj=>by
  have h1:=hk i j hi hj;have h2:=hk j i hj hi;have w1:=hw i hi;have w2:=hw j hj;unfold goQ;split;·rename_i c;refine⟨?_,oJ c⟩;rw[Rat.div_def];exact xP (xP h2 (oJ w2)) (oJ (Rat.inv_pos.2 w1))
  ·exact⟨h1,tD⟩
 have hq : ∀i j,i<ll.length→j<ll.length→0≤rE ll t i j:=fun i j hi hj=>by
  unfold rE;split;·have h1:=AV (i:=i) (m:=ll.length) (g:=goQ ll t i) (k:=kAt ll i) fun j hj=>(hg i j hi hj).2;have h2:=vO (kAt ll i) i ll.length;rw[QO k hi,ah hi] at h2;have h3:=hk i i hi hi;grind
  ·exact(hg i j hi hj).1
 have hs : ∀i,i<ll.length→jJ (gL ll t i)=1:=fun i hi=>by have h1:=Jh (goQ ll t i) (rY (goQ ll t i) i ll.length) i ll.length;have h2:=vO (goQ ll t i) i ll.length;rw[ah hi] at h1 h2;have e:gL ll t i=(List.range ll.length).map fun j=>if j=i then rY (goQ ll t i) i ll.length else goQ ll t i j:=rfl;rw[e,h1];grind
 refine⟨by rw[me];exact k.1,by rw[me];exact k.2.1,fun l hl=>?_⟩;obtain⟨i,hi,rfl⟩:=ju.1 hl;have hi:=xX.1 hi;have qw:=ho i hi;refine⟨by rw[cd,iQ,me],fun p hp=>?_,?_⟩
 ·obtain⟨q,hq',rfl⟩:=ju.1 hp;have h1:=(zj (qw q hq')).2;obtain⟨j,hj⟩:=lV hq';have hjl:=(bZ.1 hj).1;rw[iQ] at hjl;rw[nI hjl] at hj;cases hj;have h2:=hq i j hi hjl;rintro(c|c)
  ·exact c h1
  ·rw[show wdI (shq (rE ll t i j)).1=(rE ll t i j).num from dQ (qw _ hq').1] at c;have:=tC.2 h2;omega
 ·rw[rQ,show((gL ll t i).map (rOf ∘ shq))=gL ll t i from ?_]
  ·exact hs i hi
  ·refine(xZ fun q hq'=>(zj (qw q hq')).1).trans (List.map_id _)
def oU (t:List Nat):Nat→Nat
 | 0=>0
 | i+1=>oU t i+(wdI (t.getD i 0)).toNat
theorem Ve {t:List Nat} (hn : ∀p∈t,0≤wdI p) {i:Nat} (hi:i<t.length):wQ t i=(((wdI (t.getD i 0)).toNat:Nat):Int):=by
 unfold wQ dh;have hm:t.getD i 0∈t:=by rw[bC,bK hi];exact iE hi
 have:=hn _ hm;congr 1;omega
theorem yT {t:List Nat} (hn : ∀p∈t,0≤wdI p) : ∀i,i≤t.length→rs i (wQ t)=((oU t i:Nat):Int)
 | 0,_=>rfl
 | i+1,h=>by rw[rs,yT hn i byOmega,Ve hn byOmega,oU,Int.natCast_add,Rat.intCast_add]
theorem wK {t:List Nat} {k:Nat} (hw : ∀p∈t,(wdI p).natAbs≤2 ^ k) : ∀i,i≤t.length→oU t i≤2 ^ (k+i)
 | 0,_=>dT _
 | i+1,h=>by
  have a:=wK hw i byOmega;have hm:t.getD i 0∈t:=by rw[bC,bK byOmega];exact iE byOmega
  have b:=hw _ hm;have c:2 ^ k≤2 ^ (k+i):=fQ byOmega byOmega;have e:2 ^ (k+(i+1))=2 ^ (k+i)+2 ^ (k+i):=by rw[←jS,dU];omega
  rw[oU,e];omega
theorem yS {t:List Nat} (hw : ∀p∈t,p<W8) : ∀p∈t,(wdI p).natAbs≤2 ^ 512:=fun p hp=>(mA (hw p hp)).abs
theorem Gv (t:List Nat) : ∀i j,i≤j→oU t i≤oU t j:=by
 intro i j h
 induction j with
 | zero =>
  obtain rfl:i=0:=byOmega
  exact ar _
 | succ j ih =>
  by_cases e:i=j+1;·rw[e];exact ar _
  ·rw[oU];have:=ih byOmega;omega
theorem Dx {t:List Nat} (hw : ∀p∈t,p<W8) (hn : ∀p∈t,0≤wdI p) (hz : ∃p∈t,p≠0):0<oU t t.length:=by
 obtain⟨p,hp,p0⟩:=hz;obtain⟨i,hi⟩:=lV hp;have hil:=(bZ.1 hi).1;have g:t.getD i 0=p:=by rw[bC,hi];rfl
 have h1:=Gv t (i+1) t.length byOmega;rw[oU,g] at h1;have h2:=hn p hp;have h3:wdI p≠0:=fun h=>p0 ((pg (hw p hp)).1 h);omega
theorem yR {t:List Nat} (hw : ∀p∈t,p<W8) (hn : ∀p∈t,0≤wdI p) (hz:0<oU t t.length) {i:Nat} (hi:i<t.length):OvL (oU t t.length) (512+t.length) (wQ t i / rs t.length (wQ t)):=by have a:=wK (yS hw) t.length (ar _);refine⟨hz,a,((wdI (t.getD i 0)).toNat:Nat),by rw[yT hn _ (ar _),Ve hn hi],?_⟩;have b:=Gv t (i+1) t.length byOmega;rw[oU] at b;rw[jU];omega
theorem JN {t:List Nat} {g:Nat→Rat} {L x:Nat} (hw : ∀p∈t,p<W8) (hn : ∀p∈t,0≤wdI p) (hz:0<oU t t.length) (h0:0<t.length) (hg : ∀s,s<t.length→OvL L x (g s)) {i:Nat} (hi:i≤t.length):OvL (oU t t.length*L) (512+t.length+x+i) (pC t g i):=by have z:=(yR hw hn hz h0).mul (hg 0 h0);exact OvL.rs z.1 z.2.1 fun s hs=>(yR hw hn hz byOmega).mul (hg s byOmega)
theorem UL {N D d:Nat} {p:Nat→Nat→Rat} {f:Nat→Rat} {s:Nat} (hp : ∀i j,i<N→j<N→OvL D d (p i j)) {S R:Nat} (hs:s<N):OvL (D ^ S) (S*(d+N)+2*N+2*S+2) (qO N p f R S s):=by have a:=fun m (hm:m<S+1)=>ph (S:=S) (hit:=leF f s) (s:=s) byOmega hp S hm;rw[←HB (l:=[1]) hs rfl,Qp _ rfl];have z:=a 0 byOmega;exact(OvL.rs z.1 z.2.1 fun i hi=>(a i hi).ite).mono byOmega
theorem QN (l:List Rat) : ∀i,i≤l.length→rs i (fun j=>l.getD j 0)=jJ (l.take i)
 | 0,_=>rfl
 | i+1,h=>by
  have e:l[i]?=some (l.getD i 0):=by rw[bC,bK byOmega];rfl
  rw[rs,QN l i byOmega,fE e,ny]
theorem Zae {ll:List (List (Nat×Nat))} (ko:fy ll) {i:Nat} (hi:i<ll.length):rs ll.length (kAt ll i)=1:=by
 obtain⟨h1,h2⟩:=ko.2.2 _ (iE hi);have a:=QN (ll[i].map rOf) ll.length (by rw[cd];omega);rw[dr (by rw[cd];omega),h2.2] at a;rw[←a];refine bR fun j hj=>?_;unfold kAt;have g:ll.getD i []=ll[i]:=by rw[bC,bK hi];rfl
 rw[g,bC,bC,cm,bK byOmega];rfl
theorem Ma:rOf (0,0)=0:=by
 have:wdI 0=0:=by have h2:=jE;have h3:=nM;unfold wdI;split<;>omega
 unfold rOf;rw[this,Rat.divInt_zero]
theorem WT {ll:List (List (Nat×Nat))} (ko:fy ll) (i j:Nat):0≤kAt ll i j:=by
 by_cases hi:i<ll.length
 ·by_cases hj:j<ll.length
  ·obtain⟨_,p,_,_,_,ok,nn,e⟩:=fV ko hi hj;rw[e];exact OJ ok nn
  ·unfold kAt;obtain⟨h1,_⟩:=ko.2.2 _ (iE hi);have g:ll.getD i []=ll[i]:=by rw[bC,bK hi];rfl
   have g2:ll[i].getD j (0,0)=(0,0):=by rw[bC,cI byOmega];rfl
   rw[g,g2,Ma];exact tD
 ·unfold kAt;have g:ll.getD i [] = []:=by rw[bC,cI byOmega];rfl
  rw[g];show 0≤rOf (0,0);rw[Ma];exact tD
theorem ZcV {n:Nat} {f:Nat→Rat} (h : ∀i,0≤f i) : ∀{j:Nat},j<n→f j≤rs n f:=by
 induction n with
 | zero=>intro j hj;omega
 | succ n ih =>
  intro j hj
  rw[rs];have a:0≤rs n f:=S5 fun i _=>h i;by_cases e:j=n;·subst e;grind
  ·have:=ih (j:=j) byOmega
   have:=h n;grind
theorem JT {ll:List (List (Nat×Nat))} (ko:fy ll) (hw : ∀i j,i<ll.length→j<ll.length→(kAt ll i j).den≤2 ^ 512) : ∃D,∀i j,i<ll.length→j<ll.length→OvL D (512*ll.length*ll.length) (kAt ll i j) :=
 Z3 fun i j hi hj=>⟨WT ko i j,by rw[←Zae ko hi];exact ZcV (WT ko i) hj,hw i j hi hj⟩
theorem je.ZdZ {h:IH} {v:QQ} {ll:List (List (Nat×Nat))} (hk:je h v ll) (ko:fy ll) {i j:Nat} (hi:i<ll.length) (hj:j<ll.length):(kAt ll i j).den≤2 ^ 512:=by obtain⟨r,p,e1,_,e2,ok,_,e⟩:=fV ko hi hj;obtain⟨_,_,s,_⟩:=hk.lG e1;obtain⟨w1,w2⟩:=s.2.2 p (bN e2);rw[e];exact(jY w1 w2 ok).2
def qJ (e:Nat×Nat) (n:Int):Nat:=(lg (rOf e*(((n.toNat+1:Nat):Int):Rat))).toNat
noncomputable def wh (ll:List (List (Nat×Nat))) (t:List Nat) (f:List (Nat×Nat)) (e:Nat×Nat) (n:Int):QQ :=
 if sV ll t f e n=0 then mU (pC t (qO ll.length (kAt ll) (mC f) (qJ e n) n.toNat) ll.length) else ZdT (sV ll t f e n)
noncomputable def El (ll:List (List (Nat×Nat))) (t:List Nat) (f:List (Nat×Nat)) (e:Nat×Nat) (n:Int):QQ :=
 if sV ll t f e n=0 then mU (pC t (fun s=>rs (n.toNat+1) (fun k=>zN ll.length (kAt ll) (mC f) (qJ e n) n.toNat k s) / (((n.toNat+1:Nat):Int):Rat)) ll.length) else ZdT (sV ll t f e n)
theorem vP {ll:List (List (Nat×Nat))} {t:List Nat} {f:List (Nat×Nat)} {e:Nat×Nat} {n:Int} (h:sV ll t f e n=0):fy ll∧t.length=ll.length∧(∀p∈t,0≤wdI p)∧(∃p∈t,p≠0)∧uP ll t∧xK f∧okS e.1 e.2∧f.length=ll.length∧0≤rOf e∧rOf e≤1∧0≤n∧n≤20:=by
 unfold sV at h
 by_cases c1:mK ll t=0
 case neg=>rw[ah c1] at h;exact absurd h c1
 rw[ad (fun k=>k c1)] at h
 unfold mK at c1
 by_cases k1:fy ll
 case neg=>rw[ah k1] at c1;omega
 rw[ad (fun k=>k k1)] at c1
 by_cases k2:t.length≠ll.length ∨ ∃p∈t,wdI p<0
 ·rw[ah k2] at c1;omega
 have k3:t.length=ll.length:=dW fun h=>k2 (.inl h)
 have k4 : ∀p∈t,0≤wdI p:=fun p hp=>dW fun h=>k2 (.inr ⟨p,hp,byOmega⟩)
 by_cases c2 : ∃p∈t,p≠0
 case neg=>rw[ah c2] at h;omega
 rw[ad (fun k=>k c2)] at h
 by_cases c3:uP ll t
 case neg=>rw[ah c3] at h;omega
 rw[ad (fun k=>k c3)] at h
 by_cases c4 : ∃p∈f ++ [e],¬okS p.1 p.2
 ·rw[ah c4] at h;omega
 rw[ad c4] at h
 by_cases c5:f.length≠ll.length∨rOf e<0∨1<rOf e∨n<0∨20<n
 ·rw[ah c5] at h;omega
 have ok : ∀p∈f ++ [e],okS p.1 p.2:=fun p hp=>dW fun h=>c4 ⟨p,hp,h⟩
 exact⟨k1,k3,k4,c2,c3,fun p hp=>ok p (List.mem_append_left _ hp),ok e aa,dW fun h=>c5 (.inl h),xO.1 fun h=>c5 (.inr (.inl h)),xO.1 fun h=>c5 (.inr (.inr (.inl h))),byOmega,byOmega⟩
theorem HW {e:Nat×Nat} {n:Nat} (h0:0≤rOf e) (h1:rOf e≤1):vU (rOf e) n=(qJ e n:Int) - 1∧qJ e n≤n+1:=by obtain⟨a,b⟩:=ru (n:=n) h0 h1;unfold vU qJ;rw[oO];omega
theorem Ts {h:IH} {kv wv fv:QQ} {ll:List (List (Nat×Nat))} {t:List Nat} {f:List (Nat×Nat)} {e:Nat×Nat} {n:Int} (hk:je h kv ll) (hw:mS h wv t) (hf:iS h fv f) (hne:fv=.slice none 0 0∨0<f.length) (hfl:f.length≤1000) (he:e.1<W8∧e.2<W8) (hn:gV n) (h8:ll.length≤8) :WV Proofs.Tryz.prog (.func (.func 20) #[] #[]) [kv,wv,fv,KI n,shV e.1 e.2] h fun r h'=>Ext h h'∧r=wh ll t f e n:=by
 obtain⟨H0,hH0,n0,E0,g8,g9,g10⟩:=kK h [KI n] (shC e.1 e.2) Z16;refine enter (nt:=33) (rs:=[.cell 10 32,.tmp 11]) Proofs.Tryz.func20 rfl rfl rfl aa ?_;simp -dsimp (disch:=try exact dx) only[wpS,zE,zL,zA,lX,ld3,dX,aU,aC,bF];rw[←hH0];clear hH0;refine call (G2 (hk.ae E0.ae) (hw.ae E0.ae) (hf.ae E0.ae) hne hfl he hn) ?_;rintro _ h1 ⟨X1,rfl⟩;have m1:=X1.n;unfold wh;by_cases c:sV ll t f e n=0
 case neg =>
  rw[ad c];have d:(sV ll t f e n != 0)=true:=by simpa using c
  have Py:=X1.kept byOmega g10;simp -dsimp (disch:=try exact dx) only[wpS,wpT,zE,zL,zA,dX,Ky,iJ,d,Py];exact⟨(E0.trans X1).put byOmega _,rfl⟩
 rw[ah c,c];obtain⟨ko,lt,hn0,hz,hr,ok,oke,lf,e0,e1,z0,z20⟩:=vP c;obtain⟨S,rfl⟩:=fD z0;rw[oO];simp -dsimp (disch:=try exact dx) only[wpS,wpT,zE];refine call (iL 1 ⟨byOmega,byOmega⟩) ?_;rintro ro h2 ⟨X2,po⟩;have m2:=X2.n;obtain⟨a1,a2,a3,a4,rfl,_,_,d1,q1,d2,q2,q3,q4⟩:=po.parts;simp -dsimp (disch:=try exact dx) only[wpS,wpT,zE,zL,zA,Yk,Zez,ZeP];obtain⟨H3,hH3⟩ : ∃H,H=((h2.new (.cells [a1,a2,a3,a4] 4 none)).new (.cells [.slice none 0 0] 0 none)).put (h2.n+1) (.cells [.slice (some ⟨2*h2.n,0,none⟩) 1 3] 0 none):=⟨_,rfl⟩;have F3:Ext h2 H3:=by rw[hH3];exact(((Ext.refl h2).new _).new _).put byOmega _
 have n3:H3.n=h2.n+2:=by rw[hH3];rfl
 have g13:H3.ext.get (h2.n+1)=some (.cells [.slice (some ⟨2*h2.n,0,none⟩) 1 3] 0 none):=by rw[hH3];simp (disch:=try exact dx) only[ak]
 have gl:H3.ext.get h2.n=some (.cells [a1,a2,a3,a4] 4 none):=by rw[hH3,ax _ _ byOmega];simp (disch:=try exact dx) only[aq,aE]
 rw[←hH3];clear hH3;have sn:sm ch H3 (.slice (some ⟨2*h2.n,0,none⟩) 1 3) [1]:=⟨[a1,a2,a3,a4],eh (n:=1) gl byOmega byOmega rfl byOmega byOmega,⟨a1,a2,a3,a4,[],rfl,po.ae F3.ae,rfl⟩,aa⟩;have X03:=(X1.trans X2).trans F3;have E3:=E0.trans X03;have g83:=X03.kept byOmega g8;have g93:=X03.kept byOmega g9;obtain⟨D,hD⟩:=JT ko fun i j hi hj=>hk.ZdZ ko hi hj;obtain⟨N,hN⟩:=bm (ll.length);rw[←hN] at hD h8 lt lf ⊢;obtain⟨d,hd⟩:=bm (512*N*N);have hd3:d≤32768:=by have a:512*N≤4096:=byOmega;have b:=fB a h8;omega
 rw[←hd] at hD;have kb:S*(d+N)≤20*(d+N):=cT _ byOmega;obtain⟨cl,cR⟩:=HW (n:=S) e0 e1;have N0:0<N:=by have:=ko.1;omega
 have hwp : ∀p∈t,p<W8:=hw.2.2;have wz:=Dx hwp hn0 hz;have gO : ∀s,s<N→OvL (D ^ S) (S*(d+N)+2*N+2*S+2) (qO N (kAt ll) (mC f) (qJ e S) S s):=fun s hs=>UL hD hs;have mO:=fun s (hs:s≤N)=>JN (g:=qO N (kAt ll) (mC f) (qJ e S) S) hwp hn0 wz byOmega (by rw[lt];exact gO) (i:=s) byOmega;rw[lt] at mO wz;have w0:rs N (wQ t)=((oU t N:Nat):Int):=by rw[←lt];exact yT hn0 _ (ar _)
 refine call (MC (k:=512+N+(S*(d+N)+2*N+2*S+2)+N) (g:=qO N (kAt ll) (mC f) (qJ e S) S) (hk.ae E3.ae) (hw.ae E3.ae) (hf.ae E3.ae) ok (N:=N) byOmega lt lf ⟨rfl,rfl⟩ (fun H s hv X hs sl=>O1 (hk.ae (E3.trans X).ae) ko hN sl byOmega hs hD byOmega (X.kept byOmega g83) (X.kept byOmega g13) (X.kept byOmega g93) (by have:=X.n;omega) (by have:=X.n;omega) (by have:=X.n;omega) (sn.ae kF X.ae) he oke e0 e1 cl) (fun s hs=>((gO s hs).mono byOmega).qb) (fun s hs=>((mO s hs).mono byOmega).qb) byOmega (by rw[w0];exact um wz) (by
  rw[w0];exact(QB.int (k:=512+N) (by rw[jU];exact wK (yS hwp) N byOmega)).mono byOmega)) ?_
 rintro _ h4 ⟨X4,rfl⟩;obtain⟨x,y,er,hf'⟩:=pZ (pC t (qO N (kAt ll) (mC f) (qJ e S) S) N);rw[hf'];have Xh:=(X03.trans X4).kept byOmega g10;simp -dsimp (disch:=omega) only[wpS,wpT,zE,zL,zA,dX,iJ,Xh,aU,aC,bH,cD,bF];exact⟨(E3.trans X4).put byOmega _,rfl⟩
theorem OvL.divN {L x m y:Nat} {q:Rat} (h:OvL L x q) (hm:0<m) (hy:m≤2 ^ y):OvL (L*m) (x+y) (q / ((m:Int):Rat)):=by obtain⟨hL,hx,N,e,hN⟩:=h;have h2:2 ^ (x+y)=2 ^ x*2 ^ y:=dC ..;have:=um hL;have:=um hm;refine⟨kf hL hm,by rw[h2];exact fB hx hy,N,?_,by rw[h2];exact bA hN (CX _ (gD byOmega))⟩;rw[e,oP,uT];grind
theorem OZ {h:IH} {kv wv fv:QQ} {ll:List (List (Nat×Nat))} {t:List Nat} {f:List (Nat×Nat)} {e:Nat×Nat} {n:Int} (hk:je h kv ll) (hw:mS h wv t) (hf:iS h fv f) (hne:fv=.slice none 0 0∨0<f.length) (hfl:f.length≤1000) (he:e.1<W8∧e.2<W8) (hn:gV n) (h8:ll.length≤8) :WV Proofs.Tryz.prog (.func (.func 22) #[] #[]) [kv,wv,fv,KI n,shV e.1 e.2] h fun r h'=>Ext h h'∧r=El ll t f e n:=by
 obtain⟨H0,hH0,n0,E0,g8,g9,g10⟩:=kK h [KI n] (shC e.1 e.2) Z16;refine enter (nt:=30) (rs:=[.cell 10 32,.tmp 11]) Proofs.Tryz.func22 rfl rfl rfl aa ?_;simp -dsimp (disch:=try exact dx) only[wpS,zE,zL,zA,lX,ld3,dX,aU,aC,bF];rw[←hH0];clear hH0;refine call (G2 (hk.ae E0.ae) (hw.ae E0.ae) (hf.ae E0.ae) hne hfl he hn) ?_;rintro _ h1 ⟨X1,rfl⟩;have m1:=X1.n;unfold El;by_cases c:sV ll t f e n=0
 case neg =>
  rw[ad c];have d:(sV ll t f e n != 0)=true:=by simpa using c
  have Py:=X1.kept byOmega g10;simp -dsimp (disch:=omega) only[wpS,wpT,zE,zL,zA,dX,Ky,iJ,d,Py];exact⟨(E0.trans X1).put byOmega _,rfl⟩
 rw[ah c,c];obtain⟨ko,lt,hn0,hz,hr,ok,oke,lf,e0,e1,z0,z20⟩:=vP c;obtain⟨S,rfl⟩:=fD z0;rw[oO];have E3:=E0.trans X1;have g83:=X1.kept byOmega g8;have g93:=X1.kept byOmega g9;simp -dsimp (disch:=omega) only[wpS,wpT,zE];obtain⟨D,hD⟩:=JT ko fun i j hi hj=>hk.ZdZ ko hi hj;obtain⟨N,hN⟩:=bm (ll.length);rw[←hN] at hD h8 lt lf ⊢;obtain⟨d,hd⟩:=bm (512*N*N);have hd3:d≤32768:=by have a:512*N≤4096:=byOmega;have b:=fB a h8;omega
 rw[←hd] at hD;have kb:S*(d+N)≤20*(d+N):=cT _ byOmega;obtain⟨cl,cR⟩:=HW (n:=S) e0 e1;have N0:0<N:=by have:=ko.1;omega
 have hwp : ∀p∈t,p<W8:=hw.2.2;have wz:=Dx hwp hn0 hz;obtain⟨g,hg⟩:=bm (fun s=>rs (S+1) (fun k=>zN N (kAt ll) (mC f) (qJ e S) S k s) / (((S+1:Nat):Int):Rat));rw[←hg];have gO : ∀s,s<N→OvL (D ^ S*(S+1)) (S*(d+N)+2*N+3*S+8) (g s):=fun s hs=>by rw[hg];have z : ∀k,k<S+1→OvL (D ^ S) (S*(d+N)+2*N+2*S+2) (zN N (kAt ll) (mC f) (qJ e S) S k s):=fun k hk=>Rq hD hs hk;exact((OvL.rs (z 0 byOmega).1 (z 0 byOmega).2.1 z).divN (m:=S+1) (y:=5) byOmega byOmega).mono byOmega
 have mO:=fun s (hs:s≤N)=>JN (g:=g) hwp hn0 wz byOmega (by rw[lt];exact gO) (i:=s) byOmega;rw[lt] at mO wz;have w0:rs N (wQ t)=((oU t N:Nat):Int):=by rw[←lt];exact yT hn0 _ (ar _)
 refine call (MC (k:=512+N+(S*(d+N)+2*N+3*S+8)+N) (g:=g) (hk.ae E3.ae) (hw.ae E3.ae) (hf.ae E3.ae) ok (N:=N) byOmega lt lf ⟨rfl,rfl⟩ (fun H s hv X hs sl=>by
  rw[hg];exact Mo (hk.ae (E3.trans X).ae) ko hN sl byOmega hs hD byOmega (X.kept byOmega g83) (X.kept byOmega g93) (by have:=X.n;omega) (by have:=X.n;omega) he oke e0 e1 cl) (fun s hs=>((gO s hs).mono byOmega).qb) (fun s hs=>((mO s hs).mono byOmega).qb) byOmega (by rw[w0];exact um wz) (by
  rw[w0];exact(QB.int (k:=512+N) (by rw[jU];exact wK (yS hwp) N byOmega)).mono byOmega)) ?_
 rintro _ h4 ⟨X4,rfl⟩;obtain⟨x,y,er,hf'⟩:=pZ (pC t (g) N);rw[hf'];have Xh:=(X1.trans X4).kept byOmega g10;simp -dsimp (disch:=omega) only[wpS,wpT,zE,zL,zA,dX,iJ,Xh,aU,aC,bH,cD,bF];exact⟨(E3.trans X4).put byOmega _,rfl⟩

end Go.Id

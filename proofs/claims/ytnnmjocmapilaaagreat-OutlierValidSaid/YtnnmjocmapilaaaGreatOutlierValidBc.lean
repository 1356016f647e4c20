/-
  Contracts: package temper: Targets.
-/
import Derived.Test.YtnnmjocmapilaaaGreatOutlierValidBb
set_option linter.unusedVariables false
set_option linter.unusedSimpArgs false
set_option linter.defProp false
set_option linter.deprecated false
namespace Go.Id
open Go
theorem Ln {h h':IH} {v:Value} {l:List Int} (s:XT h v l) (e:aJ h h') {i:Nat} {x:Int} (hi:l[i]?=some x):load Proofs.Tryz.prog h' 3 (aM v i)=some (KI x):=by
 have hil:=(List.getElem?_eq_some_iff.1 hi).1
 rw[s.1.ld e (by simpa using hil) ag3,List.getElem?_map,hi];rfl
theorem WC {H:IH} {k:Nat} {x:Int} (g:H.ext.get k=some (.cells [KI x] 0 none)):load Proofs.Tryz.prog H 3 (ptr (2*k) 0)=some (KI x):=by
 have r:=aj g
 simp -dsimp (disch:=omega) only[wpS,ld3,r]
theorem ER {n:Nat} (hn:n<W8):CQ (wdI n):=by
 have hw:W8=2 ^ 512:=by decide +kernel
 have k1:(wdI n).natAbs≤2 ^ 512:=by
  rw[←hw]
  unfold wdI
  have:=dZ
  split<;>omega
 exact aS (k:=512) k1 (by omega)
def tgt (most level s:Int) (w:Nat):Int:=wdI w*((2 ^ ((most - s)*level).toNat:Nat):Int)
def YP (z:Nat→Nat→Int) (l:List Nat) (i:Nat):List Nat:=(List.range i).map fun j=>aV (z j (l.getD j 0))
def fitZ (z:Nat→Nat→Int) (l:List Nat) (i:Nat):Prop:=∀j,j<i→InW (z j (l.getD j 0))
def V5 (s:List Int) (level:Int) (i p:Nat):Int:=tgt (maxL s) level (s.getD i 0) p
open Classical in
noncomputable def UL (ws:List Nat) (s:List Int) (level:Int):Int:=if WE s [level]≠0 then 340 else if ws.length≠s.length ∨ ¬XO ws then 2 else if fitZ (V5 s level) ws ws.length then 0 else 6



open Go.Proofs.Tryz (prog)
open Nat renaming reduceAdd→zA,reduceEqDiff→zE,reduceLeDiff→zL
set_option maxHeartbeats 16000000
def w7 (h:IH) (v:Value) (l:List Nat):Prop:=bJ h 1 v l.length (l.map B8)∧l.length<9223372036854775808 ∧ ∀x∈l,x<256
theorem w7.aa {h h':IH} {v:Value} {l:List Nat} (s:w7 h v l) (e:aJ h h'):w7 h' v l:=⟨s.1.aa e,s.2⟩
theorem w7.ld {h h':IH} {v:Value} {l:List Nat} (s:w7 h v l) (e:aJ h h') {i:Nat} {x:Nat} (hi:l[i]?=some x):load prog h' 5 (aM v i)=some (B8 x):=by
 have hil:=(List.getElem?_eq_some_iff.1 hi).1
 rw[s.1.ld e (by simpa using hil) ag5,List.getElem?_map,hi];rfl
theorem zu (P:Program) (t:TypeId) (k:IntKind) (ox oy:Operand) (a n:Nat) (hn:0<n):binop P .rem t ox oy (.int k (a:Int)) (.int k (n:Int))=some (.int k ((a % n:Nat):Int)):=by
 rw[ow P t ox oy (by omega),Int.tmod_eq_emod_of_nonneg (by omega),Int.natCast_emod]
theorem Ea {h:IH} {sz:Nat} {v:Value} {l:List Nat} (hv:w7 h v l) (n:Nat) (hn:n≤100) :
  WV prog (.func (.func 10) #[] #[]) [.agg #[B8 sz,v],KN n] h fun r h'=>Ext h h' ∧ ∃out,pE h' r out∧out.length=n ∧ ∀p∈out,1≤wdI p∧wdI p≤9:=by
 have cv:=hv.1.cells
 have co:=hv.1.cok
 have g0:(h.new (.cells [B8 sz,v] 0 none)).ext.get h.n=some (.cells [B8 sz,v] 0 none):=by simp (disch:=omega) only[ah]
 have E0:Ext h (h.new (.cells [B8 sz,v] 0 none)):=(Ext.refl h).new _
 refine enter (nt:=32) (rs:=[.tmp 4]) Proofs.Tryz.func10 rfl rfl rfl (by simp) ?_
 simp -dsimp (disch:=omega) only[wpS,zE,zA]
 obtain⟨Hb,hHb⟩:=aP (h.new (.cells [B8 sz,v] 0 none))
 have nb:Hb.n=h.n+1:=by rw[hHb];rfl
 rw[←hHb] at g0 E0 ⊢
 clear hHb
 refine loop (fun m fr hh => ∃(i:Nat) (out:Value) (l':List Nat),i+m=n∧l'.length=i∧(∀p∈l',p<W8∧1≤wdI p∧wdI p≤9)∧Ext Hb hh∧Acc hh Hb.n 8 out l'.length (wiL l')∧ab fr 1=some (KN n)∧ab fr 2=some (ptr (2*h.n) 0)∧ab fr 5=some out∧ab fr 6=some (KN i)) n
  ⟨0,.slice none 0 0,[],by omega,rfl,(fun p hp=>by cases hp),Ext.refl _,Acc.nil _ _ (by omega),by simp⟩ ?_
 rintro m fr hh ⟨i,out,l',him,hil,hlt,hE,hA,f1,f2,f5,f6⟩
 have hg:=hE.kept (by omega) g0
 have hnn:=hE.n
 have lv:=hv.2.1
 have hEh:=E0.trans hE
 simp -dsimp (disch:=omega) only[wpS,zE,f1,f6]
 refine aq ?_ ?_<;>intro hc<;>simp only[decide_eq_true_eq,decide_eq_false_iff_not] at hc
 ·by_cases c:i<l.length
  ·obtain⟨x,hx⟩:=il (l:=l) (i:=i) c
   have xb:=hv.2.2 x (List.mem_of_getElem? hx)
   have hr : ∀ox oy,binop prog .rem 5 ox oy (B8 x) (.int .u8 9)=some (.int .u8 ((x % 9:Nat):Int)):=fun ox oy=>zu _ _ .u8 ox oy x 9 (by omega)
   simp -dsimp (disch:=omega) only[wpS,wpT,zE,D5,TN,G8,f2,f5,f6,aj hg,hv.1.len SU,hv.1.idx Z8 c,hv.ld hEh.aa hx,hr]
   refine call (dT (1+((x % 9:Nat):Int)) ⟨by omega,by omega⟩) ?_
   rintro _ h1 ⟨X1,rfl⟩
   have wi:=jy (n:=1+((x % 9:Nat):Int)) ⟨by omega,by omega⟩
   have wz:aV (1+((x % 9:Nat):Int))<W8∧1≤wdI (aV (1+((x % 9:Nat):Int)))∧wdI (aV (1+((x % 9:Nat):Int)))≤9:=⟨dR wi,by rw[cm wi];omega,by rw[cm wi];omega⟩
   have m1:=X1.n
   obtain⟨dU,h8,hap,hA8,hG8,hE8⟩:=(hA.ext X1).se (P:=prog) (t:=42) ap42 (m:=1) (new:=wdC (aV (1+((x % 9:Nat):Int)))) (by omega) (by rw[ar]) (cb _) (by omega) (by omega) (hE.trans X1) (by omega)
   have wE:append prog (h1.new (.cells (wdC (aV (1+((x % 9:Nat):Int)))) 8 none)) 42 out (.slice (some ⟨2*h1.n,0,none⟩) 1 3)=some (dU,h8):=hap
   simp -dsimp (disch:=omega) only[wpS,wpT,zE,zL,zA,bs42,Me,f6,cD,ar,ev,wE]
   refine⟨m - 1,by omega,i+1,dU,l' ++ [aV (1+((x % 9:Nat):Int))],by omega,by simp[hil],?_,hE8,?_,by simp[f1,f2]⟩
   ·intro q hq
    rcases List.mem_append.1 hq with hq|hq
    ·exact hlt q hq
    ·rw[List.mem_singleton.1 hq];exact wz
   ·rw[EM,List.length_append]
    exact hA8
  ·simp -dsimp (disch:=omega) only[wpS,wpT,zE,D5,TN,f2,f5,f6,aj hg,hv.1.len SU]
   refine call (dT 1 ⟨by omega,by omega⟩) ?_
   rintro _ h1 ⟨X1,rfl⟩
   have wi:=jy (n:=1) ⟨by omega,by omega⟩
   have wz:aV 1<W8∧1≤wdI (aV 1)∧wdI (aV 1)≤9:=⟨dR wi,by rw[cm wi];omega,by rw[cm wi];omega⟩
   have m1:=X1.n
   obtain⟨dU,h8,hap,hA8,hG8,hE8⟩:=(hA.ext X1).se (P:=prog) (t:=42) ap42 (m:=1) (new:=wdC (aV 1)) (by omega) (by rw[ar]) (cb _) (by omega) (by omega) (hE.trans X1) (by omega)
   have wE:append prog (h1.new (.cells (wdC (aV 1)) 8 none)) 42 out (.slice (some ⟨2*h1.n,0,none⟩) 1 3)=some (dU,h8):=hap
   simp -dsimp (disch:=omega) only[wpS,wpT,zE,zL,zA,bs42,Me,f6,cD,ar,ev,wE]
   refine⟨m - 1,by omega,i+1,dU,l' ++ [aV 1],by omega,by simp[hil],?_,hE8,?_,by simp[f1,f2]⟩
   ·intro q hq
    rcases List.mem_append.1 hq with hq|hq
    ·exact hlt q hq
    ·rw[List.mem_singleton.1 hq];exact wz
   ·rw[EM,List.length_append]
    exact hA8
 ·simp -dsimp (disch:=omega) only[wpS,wpT,zE,f5]
  exact⟨hEh,l',⟨hA.sl,by omega,fun p hp=>(hlt p hp).1⟩,by omega,fun p hp=>(hlt p hp).2⟩
end Go.Id
namespace Go.Proofs.YtnnmjocmapilaaaGreat
open Go.ChangeShapes Go.WideShapes Go.ChangeAt Go.RowKit Go.Id
theorem Yh:Tryz.prog.underlying 22=some (.slice 5):=by kernel_rfl
theorem yR:Tryz.prog.underlying 24=some (.struct { toList:=[{ name := "Size",type:=5,offset:=0,embedded:=false,tag := "",pkgPath := "",byteOffset:=0 },{ name := "N",type:=22,offset:=1,embedded:=false,tag := "",pkgPath := "",byteOffset:=8 }] }):=by kernel_rfl
theorem c_u8:Tryz.prog.cellsOf 5=1:=by kernel_rfl
theorem Zae:Tryz.prog.cellsOf 22=1:=by kernel_rfl
theorem RW:Tryz.prog.cellsOf 24=2:=by kernel_rfl
theorem Gi {f:Nat→Value} {m:Nat} : ∀(n:Nat) (cs:List Value),cs.length=n*1→(∀i,i<n → ∃p,p<m∧(cs.drop (i*1)).take 1 = [f p]) → ∃ps:List Nat,ps.length=n∧cs=ps.map f ∧ ∀p∈ps,p<m
 | 0,cs,h,_=>⟨[],rfl,by simpa using h,fun p hp=>by cases hp⟩
 | n+1,[],h,_=>by simp at h
 | n+1,c :: cs,h,k=>by
  obtain⟨p,h1,h2⟩:=k 0 (by omega)
  obtain⟨ps,h3,h4,h5⟩:=Gi n cs (by simp at h ⊢;omega) fun i hi=>by
   obtain⟨q,h6,h7⟩:=k (i+1) (by omega)
   exact⟨q,h6,by simpa using h7⟩
  refine⟨p :: ps,by simp[h3],?_,fun q hq=>?_⟩
  ·simp at h2;rw[List.map_cons,h2,h4]
  ·rcases List.mem_cons.1 hq with rfl|hq
   ·exact h1
   ·exact h5 q hq
section
variable {H:Type} {enc:TypeId×Value→H} {W:World} {held:Bool}
theorem HQ (G:Nat→Option (List Value)) {fuel:Nat} {cs0:List Value} {x:DataW H×List MemPlace} (h:DataW.trod enc Tryz.prog W 0 (fun _=>true) held fuel 22 cs0=some x) :
  ∃v l,cs0 = [v]∧dc v=true∧w7 (IH.start (yW G W)) (trV v) l:=by
 obtain⟨v,n,cs,e1,ht,hn,hs,hR⟩:=tj (R:=fun cs => ∃p:Nat,p<256∧cs.map trV = [B8 p]) Yh c_u8 (by omega) (fun n cs x hx=>by
  obtain⟨i,rfl,hi⟩:=uf (m:=255) rfl rfl VZ hx
  exact⟨⟨i,by omega,rfl⟩,fun y hy=>by rw[List.mem_singleton.1 hy];rfl⟩) G h
 obtain⟨ps,h1,h2,h3⟩:=Gi (f:=B8) (m:=256) n (cs.map trV) hs.2.1 fun i hi=>by
  obtain⟨p,hp,e⟩:=hR i hi
  exact⟨p,hp,by rw[←List.map_drop,←List.map_take];exact e⟩
 subst h1
 exact⟨v,ps,e1,ht,h2▸hs,Nat.lt_of_le_of_lt hn (by decide),h3⟩
theorem TK {α:Type} : ∀{l:List α},l.length=2 → ∃a b,l = [a,b]
 | [a,b],_=>⟨a,b,rfl⟩
theorem Cc (G:Nat→Option (List Value)) {fuel:Nat} {cs:List Value} {x:DataW H×List MemPlace} (h:DataW.trod enc Tryz.prog W 0 (fun _=>true) held fuel 24 cs=some x) :
  ∃k y l,cs = [B8 k,y]∧k<256∧dc y=true∧w7 (IH.start (yW G W)) (trV y) l:=by
 obtain⟨xs,m,_,_,hl,hn,hf⟩:=DataW.trod_struct yR h
 rw[RW] at hl
 have hn2:xs.length=2:=hn
 obtain⟨x0,hx0⟩:=il (l:=xs) (i:=0) (by omega)
 have f0:DataW.trod enc Tryz.prog W 0 (fun _=>true) held m 5 ((cs.drop 0).take (Tryz.prog.cellsOf 5))=some x0:=(hf 0 { name := "Size",type:=5,offset:=0,embedded:=false,tag := "",pkgPath := "",byteOffset:=0 } rfl).trans hx0
 obtain⟨x1,hx1⟩:=il (l:=xs) (i:=1) (by omega)
 have f1:DataW.trod enc Tryz.prog W 0 (fun _=>true) held m 22 ((cs.drop 1).take (Tryz.prog.cellsOf 22))=some x1:=(hf 1 { name := "N",type:=22,offset:=1,embedded:=false,tag := "",pkgPath := "",byteOffset:=8 } rfl).trans hx1
 rw[c_u8] at f0
 rw[Zae] at f1
 obtain⟨a,b,rfl⟩:=TK hl
 obtain⟨k,e0,hk⟩:=uf (m:=255) rfl rfl VZ f0
 obtain⟨v,l,e1,t1,s1⟩:=HQ G f1
 cases e0;cases e1
 exact⟨k,_,l,rfl,by omega,t1,s1⟩
end
theorem Rn {H:Type} {enc:TypeId×Value→H} {W:World} {held:Bool} (G:Nat→Option (List Value)) {fuel:Nat} {cs:List Value} {x:DataW H×List MemPlace} (h:DataW.trod enc Tryz.prog W 0 (fun _=>true) held fuel 58 cs=some x) :
  ∃b1 y1 n1 b2 y2 n2,cs = [.bool b1,y1,.int .u32 n1,.bool b2,y2,.int .u32 n2]∧(dc y1=true∧dc y2=true)∧(aA (trV y1)=true∧aA (trV y2)=true∧(0≤n1∧n1<4294967296)∧(0≤n2∧n2<4294967296)):=by
 obtain⟨xs,m,_,_,hl,hn,hf⟩:=DataW.trod_struct C5 h
 rw[Ei] at hl
 have hn2:xs.length=2:=hn
 obtain⟨x0,hx0⟩:=il (l:=xs) (i:=0) (by omega)
 have f0:DataW.trod enc Tryz.prog W 0 (fun _=>true) held m 56 ((cs.drop 0).take (Tryz.prog.cellsOf 56))=some x0:=(hf 0 { name := "N",type:=56,offset:=0,embedded:=false,tag := "",pkgPath := "",byteOffset:=0 } rfl).trans hx0
 obtain⟨x1,hx1⟩:=il (l:=xs) (i:=1) (by omega)
 have f1:DataW.trod enc Tryz.prog W 0 (fun _=>true) held m 56 ((cs.drop 3).take (Tryz.prog.cellsOf 56))=some x1:=(hf 1 { name := "D",type:=56,offset:=3,embedded:=false,tag := "",pkgPath := "",byteOffset:=40 } rfl).trans hx1
 rw[AH] at f0 f1
 obtain⟨a,b,c,d,e,f,rfl⟩:=YX hl
 obtain⟨b1,y1,n1,e0,o1,t1,r1⟩:=yz G f0
 obtain⟨b2,y2,n2,e1,o2,t2,r2⟩:=yz G f1
 cases e0;cases e1
 exact⟨b1,_,n1,b2,_,n2,rfl,⟨t1,t2⟩,o1,o2,r1,r2⟩
end Go.Proofs.YtnnmjocmapilaaaGreat
namespace Go.Id
open Go Go.RowKit
def gw (x:Nat):Nat:=(qX x).length
def mA (b x:Nat):Value:=.slice (some ⟨b,0,some 0⟩) (gw x) 0
theorem jO:qX 0 = []:=by rw[qX];simp
theorem fY {x:Nat}:gw x=0↔x=0:=by
 unfold gw
 constructor
 ·intro h
  rw[qX] at h
  split at h
  ·assumption
  ·simp at h
 ·rintro rfl;rw[jO];rfl
theorem iU (x:Nat):(fI x).length=gw x:=by simp[fI,gw]
theorem CY:fI 0 = []:=by unfold fI;rw[jO];rfl
def fL (xs:List Nat) (b:Nat):Option (List Value):=match xs[b - 4294967296]? with
 | some x=>if 4294967296≤b∧x≠0 then some (fI x) else none
 | none=>none
def AV (xs:List Nat) (i:Nat) (u:Value):Prop:=∃x,xs[i]?=some x∧((x=0∧(u=.slice none 0 0∨u=.slice (some ⟨0,0,none⟩) 0 0))∨(x≠0 ∧ ∃cap,gw x≤cap∧u=.slice (some ⟨2*(4294967296+i)+1,0,none⟩) (gw x) (2*cap+1)))
def Para (mk:List Value→Value) (n:Nat):Prop:=∀(m:Mp) (ss:List Value) (v':Value),ss.length=n→aD m (mk ss) v' → ∃ss',bm m ss ss' ∧ ∀(m2:Mp) (us:List Value),bm m2 us ss'→aD m2 (mk us) v'
def Ml (mk:List Value→List Value) (n:Nat):Prop:=∀(m:Mp) (ss vs':List Value),ss.length=n→bm m (mk ss) vs' → ∃ss',bm m ss ss' ∧ ∀(m2:Mp) (us:List Value),bm m2 us ss'→bm m2 (mk us) vs'
theorem aD.J8 {m:Mp} {b n:Nat} {v':Value} (h:aD m (.slice (some ⟨b,0,some 0⟩) n 0) v') : ∃a cap,v'=.slice a n cap∧n≤cap∧((n=0∧(a=none→cap=0)) ∨ ∃r s,m b=some (r,s)∧a=some ⟨r,s,none⟩):=by
 cases h with
 | bD h=>simp[Id.bD] at h
 | tok hc h=>exact⟨_,_,rfl,hc,h⟩
def OM (h:IH) (bs xs:List Nat):Prop:=bs.length=xs.length ∧ ∀(i b x:Nat),bs[i]?=some b→xs[i]?=some x→b % 2=0∧h.ext.get (b / 2)=some (.num x)
def iH:List Nat→List Nat→List Value
 | b :: bs,x :: xs=>mA b x :: iH bs xs
 | _,_ => []
theorem oL : ∀(bs xs:List Nat) (i b x:Nat),bs[i]?=some b→xs[i]?=some x→(iH bs xs)[i]?=some (mA b x)
 | [],_,_,_,_,h,_=>by simp at h
 | _ :: _,[],_,_,_,_,h=>by simp at h
 | b :: bs,x :: xs,0,b',x',h1,h2=>by simp at h1 h2;subst h1;subst h2;rfl
 | b :: bs,x :: xs,i+1,b',x',h1,h2=>by
  simp at h1 h2
  exact oL bs xs i b' x' h1 h2
theorem oK : ∀(bs xs:List Nat),bs.length=xs.length→(iH bs xs).length=xs.length
 | [],[],_=>rfl
 | [],_ :: _,h=>by simp at h
 | _ :: _,[],h=>by simp at h
 | b :: bs,x :: xs,h=>by
  show(iH bs xs).length+1=xs.length+1
  rw[oK bs xs (by simpa using h)]
theorem Rel.rX {B:Nat} {w0:World} {m:Mp} {h:IH} {w:World} (R:Rel B w0 m h w) {bs xs:List Nat} (T:OM h bs xs) {ss':List Value} (hs:bm m (iH bs xs) ss') :
  ∃m2:Mp,(∀k,m2 (2*k)=none)∧(∀(i b x:Nat),bs[i]?=some b→xs[i]?=some x→x≠0→m2 (2*(4294967296+i)+1)=m b)∧Rel w.heap.size w m2 (IH.start (fL xs)) w ∧ ∃us,us.length=xs.length∧bm m2 us ss' ∧ ∀(i:Nat) (u:Value),us[i]?=some u→AV xs i u:=by
 have loc : ∀(i b x:Nat),bs[i]?=some b→xs[i]?=some x→x≠0 → ∃r s c el,m b=some (r,s)∧r<w.heap.size∧w.heap[r]?=some (.cells c el)∧ng m (fI x) c s:=by
  intro i b x hb hx x0
  obtain⟨v',h1,h2⟩:=hs.get (oL bs xs i b x hb hx)
  obtain⟨a,cap,rfl,hc,⟨e,_⟩|⟨r,s,hm,rfl⟩⟩:=h2.J8
  ·exact absurd (fY.1 e) x0
  ·obtain⟨t1,t2⟩:=T.2 i b x hb hx
   have hm2:m (2*(b / 2))=some (r,s):=by rw[show 2*(b / 2)=b from by omega];exact hm
   rcases R.obj (b / 2) _ r s t2 hm2 with h3|⟨c,el,h3,h4⟩
   ·exact absurd h3 x0
   ·exact⟨r,s,c,el,hm,(R.even _ r s hm2).2,h3,h4⟩
 refine⟨⟨fun j=>if j % 2=0 then none else if j / 2<4294967296 then m j else match bs[j / 2 - 4294967296]? with|some b=>m b|none=>none,m.ez⟩,fun k=>?_,fun i b x hb hx x0=>?_,?_,?_⟩
 ·show(if 2*k % 2=0 then none else _)=none
  rw[if_pos (by omega)]
 ·show(if (2*(4294967296+i)+1) % 2=0 then none else if (2*(4294967296+i)+1) / 2<4294967296 then m (2*(4294967296+i)+1) else match bs[(2*(4294967296+i)+1) / 2 - 4294967296]? with|some b=>m b|none=>none)=m b
  rw[if_neg (by omega),if_neg (by omega),show(2*(4294967296+i)+1) / 2 - 4294967296=i from by omega,hb]
 ·have leaf : ∀{α:Type} (k:Nat),(Tr.leaf:Tr α).get k=none:=fun k=>rfl
  have even : ∀k x,(⟨fun j=>if j % 2=0 then none else if j / 2<4294967296 then m j else match bs[j / 2 - 4294967296]? with|some b=>m b|none=>none,m.ez⟩:Mp) (2*k)=some x→False:=by
   intro k x h
   have h1:(if 2*k % 2=0 then none else _)=some x:=h
   rw[if_pos (by omega)] at h1;cases h1
  refine⟨Below.refl _ _,Nat.le_refl _,?_,fun b hb=>?_,?_,fun k _=>leaf k,?_,?_,?_,?_,?_,?_⟩
  ·intro b cs hcs
   have hcs:fL xs b=some cs:=hcs
   unfold fL at hcs
   split at hcs
   case h_2=>cases hcs
   rename_i x hx
   split at hcs
   case isFalse=>cases hcs
   rename_i hb
   cases hcs
   have hi:b - 4294967296<bs.length:=by rw[T.1];exact(List.getElem?_eq_some_iff.1 hx).1
   obtain⟨b',hb'⟩ : ∃b',bs[b - 4294967296]?=some b':=⟨_,List.getElem?_eq_getElem hi⟩
   obtain⟨r,s,c,el,h1,h2,h3,h4⟩:=loc _ b' x hb' hx hb.2
   refine⟨r,s,?_,h2,c,el,_,h3,h4.1,fun i v hv=>?_⟩
   ·show(if (2*b+1) % 2=0 then none else if (2*b+1) / 2<4294967296 then m (2*b+1) else match bs[(2*b+1) / 2 - 4294967296]? with|some b=>m b|none=>none)=some (r,s)
    rw[if_neg (by omega),if_neg (by omega),show(2*b+1) / 2 - 4294967296=b - 4294967296 from by omega,hb']
    exact h1
   ·obtain⟨v',a,e⟩:=h4.2 i v hv
    unfold fI at hv
    rw[List.getElem?_map] at hv
    obtain⟨d,_,rfl⟩:=Option.map_eq_some_iff.1 hv
    exact⟨v',a,by rw[e.cj rfl];exact .bD rfl⟩
  ·show(if (2*b+1) % 2=0 then none else if (2*b+1) / 2<4294967296 then m (2*b+1) else _)=some (b,0)
   rw[if_neg (by omega),if_pos (by omega)]
   exact R.odd b hb
  ·intro k r s h;exact(even _ _ h).elim
  ·intro k o r s h;cases h
  ·intro k k' o o' r s s' _ h;cases h
  ·intro f st h;cases h
  ·intro k cs t f h;cases h
  ·intro f st h;cases h
  ·intro f st x y h;cases h
 ·-- the arguments
  obtain⟨m2,hm2⟩:=aP (⟨fun j=>if j % 2=0 then none else if j / 2<4294967296 then m j else match bs[j / 2 - 4294967296]? with|some b=>m b|none=>none,m.ez⟩:Mp)
  rw[←hm2]
  have at2 : ∀(i b:Nat),bs[i]?=some b→m2 (2*(4294967296+i)+1)=m b:=by
   intro i b hb
   rw[hm2]
   show(if (2*(4294967296+i)+1) % 2=0 then none else if (2*(4294967296+i)+1) / 2<4294967296 then m (2*(4294967296+i)+1) else match bs[(2*(4294967296+i)+1) / 2 - 4294967296]? with|some b=>m b|none=>none)=m b
   rw[if_neg (by omega),if_neg (by omega),show(2*(4294967296+i)+1) / 2 - 4294967296=i from by omega,hb]
  have lt:=oK bs xs T.1
  have ex : ∀i,i<xs.length → ∃u s',ss'[i]?=some s'∧aD m2 u s'∧AV xs i u:=by
   intro i hi
   obtain⟨x,hx⟩:=il (l:=xs) (i:=i) hi
   obtain⟨b,hb⟩:=il (l:=bs) (i:=i) (by rw[T.1];exact hi)
   obtain⟨v',h1,h2⟩:=hs.get (oL bs xs i b x hb hx)
   obtain⟨a,cap,rfl,hc,mV⟩:=h2.J8
   by_cases x0:x=0
   ·subst x0
    have w0:gw 0=0:=fY.2 rfl
    rw[w0] at h1 h2 hc mV
    cases a with
    | none =>
     have c0:cap=0:=by
      rcases mV with⟨_,h3⟩|⟨_,_,_,h3⟩
      ·exact h3 rfl
      ·cases h3
     subst c0
     exact⟨.slice none 0 0,_,h1,.bD rfl,0,hx,.inl ⟨rfl,.inl rfl⟩⟩
    | some a=>exact⟨.slice (some ⟨0,0,none⟩) 0 0,_,h1,.lost,0,hx,.inl ⟨rfl,.inr rfl⟩⟩
   ·rcases mV with⟨e,_⟩|⟨r,s,hm,rfl⟩
    ·exact absurd (fY.1 e) x0
    ·refine⟨.slice (some ⟨2*(4294967296+i)+1,0,none⟩) (gw x) (2*cap+1),_,h1,?_,x,hx,.inr ⟨x0,cap,hc,rfl⟩⟩
     have:=aD.slice (m:=m2) (b:=2*(4294967296+i)+1) (o:=0) (r:=r) (s:=s) (len:=gw x) (k:=2*cap+1) (cap:=cap) ((at2 i b hb).trans hm) (by omega) (by omega) (by omega) (fun _=>by omega) (fun h9=>by omega)
     exact this
  have key:=fun i (hi:i<xs.length)=>(ex i hi)
  refine⟨(List.range xs.length).map fun i=>if hi:i<xs.length then Classical.choose (ex i hi) else .slice none 0 0,by simp,⟨by rw[List.length_map,List.length_range,←hs.1,lt],fun i v v' hv hv'=>?_⟩,fun i u hu=>?_⟩
  ·rw[List.getElem?_map] at hv
   obtain⟨j,hj,rfl⟩:=Option.map_eq_some_iff.1 hv
   obtain⟨hj1,hj2⟩:=List.getElem?_eq_some_iff.1 hj
   rw[List.length_range] at hj1
   rw[List.getElem_range] at hj2
   subst hj2
   rw[dif_pos hj1]
   obtain⟨s',e1,e2,_⟩:=Classical.choose_spec (ex i hj1)
   rw[hv'] at e1;cases e1
   exact e2
  ·rw[List.getElem?_map] at hu
   obtain⟨j,hj,rfl⟩:=Option.map_eq_some_iff.1 hu
   obtain⟨hj1,hj2⟩:=List.getElem?_eq_some_iff.1 hj
   rw[List.length_range] at hj1
   rw[List.getElem_range] at hj2
   subst hj2
   rw[dif_pos hj1]
   obtain⟨s',_,_,e3⟩:=Classical.choose_spec (ex i hj1)
   exact e3
def gv (h:IH):List Nat→IH
 | []=>h
 | y :: ys=>gv (h.new (.num y)) ys
theorem rU : ∀(ys:List Nat) (h:IH),(gv h ys).n=h.n+ys.length
 | [],h=>rfl
 | y :: ys,h=>by
  show(gv (h.new (.num y)) ys).n=_
  rw[rU ys]
  show h.n+1+ys.length=h.n+(ys.length+1)
  omega
theorem dN : ∀(ys:List Nat) (h:IH),(gv h ys).base=h.base∧(gv h ys).bT=h.bT
 | [],h=>⟨rfl,rfl⟩
 | y :: ys,h=>dN ys (h.new (.num y))
theorem kI : ∀(ys:List Nat) (h:IH) (k:Nat),(gv h ys).ext.get k=if h.n≤k∧k<h.n+ys.length then (ys[k - h.n]?).map .num else h.ext.get k
 | [],h,k=>by rw[if_neg (by simp)];rfl
 | y :: ys,h,k=>by
  show(gv (h.new (.num y)) ys).ext.get k=_
  rw[kI ys]
  have n1:(h.new (.num y)).n=h.n+1:=rfl
  have g1:(h.new (.num y)).ext.get k=if k=h.n then some (.num y) else h.ext.get k:=by
   show(h.ext.set h.n _).get k=_
   rw[Tr.bK]
  rw[n1,g1,List.length_cons]
  by_cases c:h.n+1≤k∧k<h.n+1+ys.length
  ·rw[if_pos c,if_pos ⟨by omega,by omega⟩,show k - h.n=(k - (h.n+1))+1 from by omega,List.getElem?_cons_succ]
  ·rw[if_neg c]
   by_cases e:k=h.n
   ·rw[if_pos e,if_pos ⟨by omega,by omega⟩,e,Nat.sub_self];rfl
   ·rw[if_neg e,if_neg (by omega)]
theorem BV {P:Program} (S:Sound (E0 P)) {B:Nat} {w0:World} {m:Mp} {h:IH} {w:World} (R:Rel B w0 m h w) {bs xs:List Nat} (T:OM h bs xs) {mk:List Value→List Value} (par:Ml mk xs.length) {args':Array Value} (ha:bm m (mk (iH bs xs)) args'.toList)
  {f:FuncId} (hb : ∃fn,P.funcs[f]?=some fn∧fn.body.isSome=true) {K:Value→IH→Prop} (hw : ∀us,us.length=xs.length→(∀(i:Nat) (u:Value),us[i]?=some u→AV xs i u)→WV P (.func (.func f) #[] #[]) (mk us) (IH.start (fL xs)) K) :
  ∃m2:Mp,(∀k,m2 (2*k)=none)∧(∀(i b x:Nat),bs[i]?=some b→xs[i]?=some x→x≠0→m2 (2*(4294967296+i)+1)=m b) ∧ ∃r h2,K r h2∧kh P f args' w.heap.size w m2 (IH.start (fL xs)) w r h2:=by
 obtain⟨ss',h1,h2⟩:=par m (iH bs xs) args'.toList (oK bs xs T.1) ha
 obtain⟨m2,e1,e2,R2,us,e3,e4,e5⟩:=R.rX T h1
 obtain⟨⟨r,hh⟩,⟨N,hN⟩,hK⟩:=hw us e3 e5
 refine⟨m2,e1,e2,r,hh,hK,?_⟩
 have hc:bU (E0 P) (N+1) (.func (.func f) #[] #[]) (mk us) (IH.start (fL xs))=some (r,hh):=hN (N+1) (by omega)
 unfold bU at hc
 obtain⟨fn,hfn,hb⟩:=hb
 rcases tU S (ot S N) (gN S N) hc R2 (args':=args') (by simpa using h2 m2 us e4) (fun k _ _=>e1 k) with⟨_,k⟩|⟨fn',k1,k2,_⟩
 ·exact k
 ·have k3:P.funcs[f]?=some fn':=k1
  rw[hfn] at k3;cases k3
  rw[k2] at hb;cases hb
theorem Rel.XK {B:Nat} {w0:World} {m m':Mp} {h h':IH} {w w':World} (R:Rel B w0 m h w) (R':Rel w.heap.size w m' h' w'):Rel B w0 m h w'∧Step m h w m h w':=by
 have same : ∀r,r<w.heap.size→w'.heap[r]?=w.heap[r]?:=fun r hr=>R'.below.block r hr
 refine⟨⟨R.below.trans (R'.below.mono R.size),Nat.le_trans R.size R'.size,fun b cs hb=>?_,R.odd,fun k r s hk=>?_,R.dom,fun k o r s hk hm=>?_,R.own,R.cY,R.fam,R.long,R.whole⟩,
  ⟨Mp.le_refl m,fun b hb=>absurd rfl hb,Nat.le_refl _,rfl,fun r hr _=>same r hr,fun _ _ _=>rfl,R'.size,fun k r s h1 h2=>by omega,fun _ _ _ hh=>hh⟩⟩
 ·obtain⟨r,s,h1,h2,c,el,fz,h3,h4⟩:=R.base b cs hb
  exact⟨r,s,h1,h2,c,el,fz,by rw[same r (by have:=R.size;omega)];exact h3,h4⟩
 ·have:=R.even k r s hk
  have:=R'.size
  exact⟨by omega,by omega⟩
 ·exact(R.obj k o r s hk hm).same (same r (R.even k r s hm).2)
theorem Nr {P:Program} (S:Sound (E0 P)) {B:Nat} {w0:World} {m:Mp} {h:IH} {w:World} (R:Rel B w0 m h w) {bs xs:List Nat} (T:OM h bs xs) {mk:List Value→List Value} (par:Ml mk xs.length) {args':Array Value} (ha:bm m (mk (iH bs xs)) args'.toList)
  {f:FuncId} (hb : ∃fn,P.funcs[f]?=some fn∧fn.body.isSome=true) {v:Value} (hv:mc v=true) (hw : ∀us,us.length=xs.length→(∀(i:Nat) (u:Value),us[i]?=some u→AV xs i u)→WV P (.func (.func f) #[] #[]) (mk us) (IH.start (fL xs)) fun r _=>r=v):kh P f args' B w0 m h w v h:=by
 obtain⟨m2,_,_,r,hh,rfl,key⟩:=BV S R T par ha hb hw
 refine key.mono fun e' w' ⟨v',m',he,hvr,R',S'⟩=>?_
 obtain⟨R2,S2⟩:=R.XK R'
 exact⟨v',m,he,by rw[hvr.BR hv];exact .BQ hv,R2,S2⟩
def vG (h:IH) (u:Value) (y:Nat):Prop:=bJ h 1 u (gw y) (fI y)
def BX (n k:Nat):List Nat:=(List.range k).map fun j=>2*(n+j)
theorem Nw {n k j:Nat} (h:j<k):(BX n k)[j]?=some (2*(n+j)):=by unfold BX;rw[List.getElem?_map,List.getElem?_range h];rfl
theorem Nv (n k:Nat):(BX n k).length=k:=by simp[BX]
structure Ew (m:Mp) (w w':World) (bs xs:List Nat) (y:Nat) (r s:Nat):Prop where
 lt:r<w'.heap.size
 row : ∃c el,w'.heap[r]?=some (.cells c el)∧ng m (fI y) c s
 src:w.heap.size≤r ∨ ∃(i b x s0:Nat),bs[i]?=some b∧xs[i]?=some x∧m b=some (r,s0)
theorem FG {m m':Mp} {row ws:List Value} {c:Array Value} {q o:Nat} (hr:ng m' row c q) (hw:(row.drop o).take ws.length=ws) (hle:o+ws.length≤row.length) (hs : ∀v∈ws,bD v=true):ng m ws c (q+o):=by
 refine⟨by have:=hr.1;omega,fun i v hv=>?_⟩
 have hi:=(List.getElem?_eq_some_iff.1 hv).1
 have hv2:row[o+i]?=some v:=by
  rw[←hw,List.getElem?_take_of_lt hi,List.getElem?_drop] at hv
  exact hv
 obtain⟨v',a,b⟩:=hr.2 _ v hv2
 have sc:=hs v (List.mem_of_getElem? hv)
 exact⟨v',by rw[Nat.add_assoc];exact a,by rw[b.cj sc];exact .bD sc⟩
theorem yM (x:Nat) : ∀v∈fI x,bD v=true:=by
 intro v hv
 obtain⟨d,_,rfl⟩:=List.mem_map.1 hv
 rfl
theorem Tw {B:Nat} {w0:World} {m m2 m':Mp} {h h2:IH} {w w':World} (R:Rel B w0 m h w) {bs xs:List Nat} (T:OM h bs xs) (nW : ∀(i b x:Nat),bs[i]?=some b→xs[i]?=some x→x≠0→m2 (2*(4294967296+i)+1)=m b)
  (R':Rel w.heap.size w m' h2 w') (S':Step m2 (IH.start (fL xs)) w m' h2 w') {u u':Value} {y:Nat} (hu:vG h2 u y) (hv:aD m' u u') :
  ∃a cap,u'=.slice a (gw y) cap∧gw y≤cap∧((y=0∧(a=none→cap=0))∨(y≠0 ∧ ∃r s,a=some ⟨r,s,none⟩∧Ew m w w' bs xs y r s)):=by
 obtain⟨_,hl,⟨rfl,n0⟩|⟨b,o,k,rfl,⟨n0,k0⟩|⟨k0,hn,row,hb,fl,htk,hle⟩⟩⟩:=hu
 ·obtain⟨_,_,rfl⟩:=hv.lk
  exact⟨none,0,by rw[n0],by omega,.inl ⟨fY.1 n0,fun _=>rfl⟩⟩
 ·subst k0
  rcases hv.dB with⟨r,s,cap,_,h0,_⟩|⟨_,_,a,cap,rfl⟩
  ·omega
  ·exact⟨some a,cap,by rw[n0],by omega,.inl ⟨fY.1 n0,fun h=>by cases h⟩⟩
 ·rcases hv.dB with⟨r,q,cap,hm,_,_,od,_,_,rfl⟩|⟨_,e,_⟩
  ·refine⟨_,cap,rfl,by omega,?_⟩
   by_cases y0:y=0
   ·exact .inl ⟨y0,fun h=>by cases h⟩
   ·refine .inr ⟨y0,r,q+o,rfl,?_⟩
    have Zj:(row.drop o).take (fI y).length=fI y:=by rw[iU];rw[Nat.mul_one] at htk;exact htk
    have QR:o+(fI y).length≤row.length:=by rw[iU];omega
    by_cases bo:b % 2=1
    ·have hr2:h2.base (b / 2)=some row:=by
      unfold IH.row at fl
      simpa [bo] using fl
     rw[S'.base] at hr2
     have hr2:fL xs (b / 2)=some row:=hr2
     unfold fL at hr2
     split at hr2
     case h_2=>cases hr2
     rename_i x hx
     split at hr2
     case isFalse=>cases hr2
     rename_i Ud
     cases hr2
     obtain⟨b',hb'⟩ : ∃b',bs[b / 2 - 4294967296]?=some b':=⟨_,List.getElem?_eq_getElem (by rw[T.1];exact(List.getElem?_eq_some_iff.1 hx).1)⟩
     have e1:=nW _ b' x hb' hx Ud.2
     rw[show 2*(4294967296+(b / 2 - 4294967296))+1=b from by omega] at e1
     have e2:m' b=m2 b:=Classical.byContradiction fun hne=>by
      obtain⟨k9,e9,_⟩:=S'.new b hne
      omega
     have hmb:m b'=some (r,q):=by rw[←e1,←e2];exact hm
     obtain⟨t1,t2⟩:=T.2 _ b' x hb' hx
     have Zy:m (2*(b' / 2))=some (r,q):=by rw[show 2*(b' / 2)=b' from by omega];exact hmb
     have hev:=R.even _ r q Zy
     rcases R.obj (b' / 2) _ r q t2 Zy with h3|⟨c,el,h3,h4⟩
     ·exact absurd h3 Ud.2
     ·have same:w'.heap[r]?=w.heap[r]?:=R'.below.block r hev.2
      exact⟨by have:=R'.size;omega,⟨c,el,by rw[same];exact h3,FG h4 Zj QR (yM y)⟩,.inr ⟨_,b',x,q,hb',hx,hmb⟩⟩
    ·rcases hb with hb|⟨hb,hlt,f,hg⟩
     ·omega
     ·have hm2:m' (2*(b / 2))=some (r,q):=by rw[show 2*(b / 2)=b from by omega];exact hm
      obtain⟨c,el,hc,hrw,_⟩:=R'.obj (b / 2) _ r q hg hm2
      have hr2:h2.row b=some row:=fl
      have hev:=R'.even _ r q hm2
      refine⟨hev.2,⟨c,el,hc,FG hrw Zj QR (yM y)⟩,.inl ?_⟩
      rcases S'.img (b / 2) r q (Nat.zero_le _) (by omega) hm2 with h3|⟨k9,_,h9,_⟩
      ·exact h3
      ·exact absurd h9 (Nat.not_lt_zero _)
  ·omega
theorem Qh {P:Program} (S:Sound (E0 P)) {B:Nat} {w0:World} {m:Mp} {h:IH} {w:World} (R:Rel B w0 m h w) {bs xs:List Nat} (T:OM h bs xs) {mk:List Value→List Value} (par:Ml mk xs.length) {args':Array Value} (ha:bm m (mk (iH bs xs)) args'.toList)
  {f:FuncId} (hb : ∃fn,P.funcs[f]?=some fn∧fn.body.isSome=true) {ys:List Nat} {mkR:List Value→Value} (parR:Para mkR ys.length)
  (hw : ∀us,us.length=xs.length→(∀(i:Nat) (u:Value),us[i]?=some u→AV xs i u)→WV P (.func (.func f) #[] #[]) (mk us) (IH.start (fL xs)) fun r h2 => ∃ss,ss.length=ys.length∧r=mkR ss ∧ ∀(j:Nat) (y:Nat) (s:Value),ys[j]?=some y→ss[j]?=some s→vG h2 s y)
  (fr:eo m h.n (h.n+ys.length)):kh P f args' B w0 m h w (mkR (iH (BX h.n ys.length) ys)) (gv h ys):=by
 obtain⟨m2,even2,odd2,r,h2,⟨ss,ls,rfl,hss⟩,key⟩:=BV S R T par ha hb hw
 refine key.mono fun e' w' ⟨v',m',he,hvr,R',S'⟩=>?_
 obtain⟨ss',l1,l2⟩:=parR m' ss v' ls hvr
 have ls':ss'.length=ys.length:=by rw[←l1.1,ls]
 have same : ∀r,r<w.heap.size→w'.heap[r]?=w.heap[r]?:=fun r hr=>R'.below.block r hr
 have loc : ∀(j y:Nat),ys[j]?=some y → ∃a cap,ss'[j]?=some (.slice a (gw y) cap)∧gw y≤cap∧((y=0∧(a=none→cap=0))∨(y≠0 ∧ ∃r s,a=some ⟨r,s,none⟩∧Ew m w w' bs xs y r s)):=by
  intro j y hy
  have hj:=(List.getElem?_eq_some_iff.1 hy).1
  obtain⟨s,hs⟩:=il (l:=ss) (i:=j) (by omega)
  obtain⟨s',h1,h3⟩:=l1.get hs
  obtain⟨a,cap,rfl,q1,q2⟩:=Tw R T odd2 R' S' (hss j y s hy hs) h3
  exact⟨a,cap,h1,q1,q2⟩
 obtain⟨lf,hlf⟩ : ∃lf:Nat→Option (Nat×Nat),∀j,lf j=match ys[j]?,ss'[j]? with|some y,some (.slice (some ⟨r,s,none⟩) _ _)=>if y=0 then none else some (r,s)|_,_=>none:=⟨_,fun _=>rfl⟩
 have yu : ∀j r s,lf j=some (r,s) → ∃y,ys[j]?=some y∧y≠0∧Ew m w w' bs xs y r s:=by
  intro j r s hj
  rw[hlf] at hj
  cases hy:ys[j]? with
  | none=>simp[hy] at hj
  | some y =>
   obtain⟨a,cap,h1,_,h3⟩:=loc j y hy
   rw[hy,h1] at hj
   rcases h3 with⟨rfl,_⟩|⟨y0,r',s',rfl,hl⟩
   ·exfalso
    cases a with
    | none=>simp at hj
    | some a =>
     obtain⟨a1,a2,a3⟩:=a
     cases a3<;>simp at hj
   ·simp only[if_neg y0] at hj
    cases hj
    exact⟨y,rfl,y0,hl⟩
 have YS : ∀j y r s cap,ys[j]?=some y→y≠0→ss'[j]?=some (.slice (some ⟨r,s,none⟩) (gw y) cap)→lf j=some (r,s):=by
  intro j y r s cap hy y0 hs
  rw[hlf,hy,hs]
  exact if_neg y0
 obtain⟨m3,hm3⟩:=aP (⟨fun b=>if b % 2=0∧h.n≤b / 2∧b / 2<h.n+ys.length then lf (b / 2 - h.n) else m b,m.ez⟩:Mp)
 have GA : ∀b,¬(b % 2=0∧h.n≤b / 2∧b / 2<h.n+ys.length)→m3 b=m b:=by
  intro b hb;rw[hm3];exact if_neg hb
 have B4 : ∀j,j<ys.length→m3 (2*(h.n+j))=lf j:=by
  intro j hj
  rw[hm3]
  show(if 2*(h.n+j) % 2=0∧h.n≤2*(h.n+j) / 2∧2*(h.n+j) / 2<h.n+ys.length then lf (2*(h.n+j) / 2 - h.n) else m (2*(h.n+j)))=lf j
  rw[if_pos ⟨by omega,by omega,by omega⟩,show 2*(h.n+j) / 2 - h.n=j from by omega]
 have ez3:m3.ez=m.ez:=by rw[hm3]
 have le3:m.le m3:=by
  intro b x hb
  refine⟨?_,by rw[ez3]⟩
  rw[GA b ?_];exact hb
  rintro⟨h1,h2',h3⟩
  have:=fr (b / 2) h2' h3
  rw[show 2*(b / 2)=b from by omega,hb] at this;cases this
 have nn:(gv h ys).n=h.n+ys.length:=rU ys h
 have gnew : ∀j y,ys[j]?=some y→(gv h ys).ext.get (h.n+j)=some (.num y):=by
  intro j y hy
  have hj:=(List.getElem?_eq_some_iff.1 hy).1
  rw[kI,if_pos ⟨by omega,by omega⟩,show h.n+j - h.n=j from by omega,hy];rfl
 have Ad : ∀k,k<h.n→(gv h ys).ext.get k=h.ext.get k:=fun k hk=>by rw[kI,if_neg (by omega)]
 have z6 : ∀k o,(gv h ys).ext.get k=some o→k<h.n ∨ ∃j y,k=h.n+j∧ys[j]?=some y∧o=.num y:=by
  intro k o hk
  rcases Nat.lt_or_ge k h.n with h1|h1
  ·exact .inl h1
  ·right
   rw[kI] at hk
   by_cases c:h.n≤k∧k<h.n+ys.length
   ·rw[if_pos c] at hk
    obtain⟨y,hy,rfl⟩:=Option.map_eq_some_iff.1 hk
    exact⟨k - h.n,y,by omega,hy,rfl⟩
   ·rw[if_neg c,R.dom k h1] at hk;cases hk
 have DF : ∀k,k<h.n→m3 (2*k)=m (2*k):=fun k hk=>GA _ (by rintro⟨_,h2',_⟩;omega)
 have oldn : ∀k o,h.ext.get k=some o→k<h.n:=by
  intro k o hk
  rcases Nat.lt_or_ge k h.n with e|e
  ·exact e
  ·rw[R.dom k e] at hk;cases hk
 have srcB : ∀y r s,Ew m w w' bs xs y r s→B≤r∧r<w'.heap.size:=by
  intro y r s hl
  refine⟨?_,hl.lt⟩
  rcases hl.src with h1|⟨i,b,x,s0,hb1,hx1,hm1⟩
  ·have:=R.size;omega
  ·obtain⟨t1,t2⟩:=T.2 i b x hb1 hx1
   exact(R.even (b / 2) r s0 (by rw[show 2*(b / 2)=b from by omega];exact hm1)).1
 refine⟨v',m3,he,l2 m3 _ ?_,⟨R.below.trans (R'.below.mono R.size),Nat.le_trans R.size R'.size,?_,fun b hb=>?_,?_,?_,?_,?_,?_,?_,?_,?_⟩,⟨le3,?_,by rw[nn];omega,(dN ys h).1,fun r hr _=>same r hr,fun k hk _=>Ad k hk,R'.size,?_,?_⟩⟩
 ·-- the value
  refine⟨by rw[oK _ _ (Nv _ _),ls'],fun j v x hv hx=>?_⟩
  have hj:j<ys.length:=by
   have:=(List.getElem?_eq_some_iff.1 hx).1
   omega
  obtain⟨y,hy⟩:=il (l:=ys) (i:=j) hj
  rw[oL _ _ j _ y (Nw hj) hy] at hv
  cases hv
  obtain⟨a,cap,h1,h3,h4⟩:=loc j y hy
  rw[hx] at h1;cases h1
  refine .tok h3 ?_
  rcases h4 with⟨rfl,h5⟩|⟨y0,r,s,rfl,_⟩
  ·exact .inl ⟨fY.2 rfl,h5⟩
  ·exact .inr ⟨r,s,by rw[B4 j hj];exact YS j y r s cap hy y0 hx,rfl⟩
 ·intro b cs hcs
  rw[(dN ys h).1] at hcs
  obtain⟨r,s,h1,h3,c,el,fz,h4,h5,h6⟩:=R.base b cs hcs
  exact⟨r,s,(le3 _ _ h1).1,h3,c,el,fz,by rw[same r (by have:=R.size;omega)];exact h4,h5,fun i v hv=>let ⟨v',a,e⟩:=h6 i v hv;⟨v',a,e.mono le3⟩⟩
 ·rw[GA _ (by rintro⟨h1,_⟩;omega)];exact R.odd b hb
 ·intro k r s hk
  by_cases c:h.n≤k∧k<h.n+ys.length
  ·have:=B4 (k - h.n) (by omega)
   rw[show h.n+(k - h.n)=k from by omega,hk] at this
   obtain⟨y,_,_,hl⟩:=yu _ r s this.symm
   exact srcB y r s hl
  ·rw[GA _ (by rintro⟨_,h2',h3⟩;exact c ⟨by omega,by omega⟩)] at hk
   have:=R.even k r s hk
   have:=R'.size
   exact⟨by omega,by omega⟩
 ·intro k hk
  rw[nn] at hk
  rw[kI,if_neg (by omega)]
  exact R.dom k (by omega)
 ·intro k o r s hk hm
  rcases z6 k o hk with hkn|⟨j,y,rfl,hy,rfl⟩
  ·rw[Ad k hkn] at hk
   rw[DF k hkn] at hm
   exact(R.obj k o r s hk hm).mono le3 (same r (R.even k r s hm).2) (by rw[ez3])
  ·rw[B4 j (List.getElem?_eq_some_iff.1 hy).1] at hm
   obtain⟨y',hy',y0,hl⟩:=yu _ r s hm
   rw[hy] at hy';cases hy'
   obtain⟨c,el,h1,h3,h4⟩:=hl.row
   exact .inr ⟨c,el,h1,h3,fun i v hv=>let ⟨v',a,e⟩:=h4 i v hv;⟨v',a,e.mono le3⟩⟩
 ·-- who shares memory
  have one : ∀j y k o r s s',ys[j]?=some y→k<h.n→h.ext.get k=some o→o.alive=true→lf j=some (r,s)→m (2*k)=some (r,s')→o.isNum=true:=by
   intro j y k o r s s' hy hkn hk ha hj hm
   obtain⟨y',_,_,hl⟩:=yu j r s hj
   rcases hl.src with h1|⟨i,b,x,s0,hb1,hx1,hm1⟩
   ·have:=(R.even k r s' hm).2;omega
   ·obtain⟨t1,t2⟩:=T.2 i b x hb1 hx1
    have hmb:m (2*(b / 2))=some (r,s0):=by rw[show 2*(b / 2)=b from by omega];exact hm1
    by_cases e:b / 2=k
    ·rw[e,hk] at t2;cases t2;rfl
    ·rcases R.own (b / 2) k _ o r s0 s' e t2 hk rfl ha hmb hm with⟨_,_,_,_,_,_,e1,_⟩|⟨_,e2⟩
     ·rw[t2] at e1;cases e1
     ·exact e2
  intro k k' o o' r s s' hne hk hk' ha ha' hm hm'
  rcases z6 k o hk with hkn|⟨j,y,rfl,hy,rfl⟩
  ·rcases z6 k' o' hk' with I8|⟨j',y',rfl,hy',rfl⟩
   ·rw[Ad k hkn] at hk
    rw[Ad k' I8] at hk'
    rw[DF k hkn] at hm
    rw[DF k' I8] at hm'
    refine(R.own k k' o o' r s s' hne hk hk' ha ha' hm hm').imp (fun⟨c1,t1,c2,t2,f,st,e1,e2,e3,e4,e5⟩=>⟨c1,t1,c2,t2,f,st,?_,?_,?_,e4,e5⟩) id
    ·rw[Ad k hkn];exact e1
    ·rw[Ad k' I8];exact e2
    ·rw[(dN ys h).2];exact e3
   ·rw[Ad k hkn] at hk
    rw[DF k hkn] at hm
    rw[B4 j' (List.getElem?_eq_some_iff.1 hy').1] at hm'
    exact .inr ⟨one j' y' k o r s' s hy' hkn hk ha hm' hm,rfl⟩
  ·rcases z6 k' o' hk' with I8|⟨j',y',rfl,hy',rfl⟩
   ·rw[Ad k' I8] at hk'
    rw[DF k' I8] at hm'
    rw[B4 j (List.getElem?_eq_some_iff.1 hy).1] at hm
    exact .inr ⟨rfl,one j y k' o' r s s' hy I8 hk' ha' hm hm'⟩
   ·exact .inr ⟨rfl,rfl⟩
 ·intro f st hf
  rw[(dN ys h).2] at hf
  obtain⟨a,b,c⟩:=R.cY f st hf
  rw[nn]
  exact⟨by omega,fun x hx=>by have:=b x hx;omega,c⟩
 ·intro k cs t f hk
  rcases z6 k _ hk with hkn|⟨j,y,_,_,e⟩
  ·rw[Ad k hkn] at hk
   rw[(dN ys h).2]
   exact R.fam k cs t f hk
  ·cases e
 ·intro f st hf
  rw[(dN ys h).2] at hf
  refine(R.long f st hf).imp fun {x y} hxy=>?_
  intro cs t g cs' t' g' r s s' h1 h3 h4 h5
  have c1:x<h.n:=by
   rcases z6 x _ h1 with h6|⟨_,_,_,_,e⟩
   ·exact h6
   ·cases e
  have c2:y<h.n:=by
   rcases z6 y _ h3 with h6|⟨_,_,_,_,e⟩
   ·exact h6
   ·cases e
  rw[Ad x c1] at h1
  rw[Ad y c2] at h3
  rw[DF x c1] at h4
  rw[DF y c2] at h5
  exact hxy cs t g cs' t' g' r s s' h1 h3 h4 h5
 ·intro f st x y hf hx hy hs
  rw[(dN ys h).2] at hf
  have b:=(R.cY f st hf).2.1
  rw[DF x (b x hx)] at hs
  rw[DF y (b y hy)]
  exact R.whole f st x y hf hx hy hs
 ·intro b hb
  refine⟨b / 2,?_⟩
  rw[nn]
  by_cases c:b % 2=0∧h.n≤b / 2∧b / 2<h.n+ys.length
  ·exact⟨by omega,c.2⟩
  ·exact absurd (GA b c) hb
 ·intro k r s h1 h3 h4
  rw[nn] at h3
  have:=B4 (k - h.n) (by omega)
  rw[show h.n+(k - h.n)=k from by omega,h4] at this
  obtain⟨y,_,_,hl⟩:=yu _ r s this.symm
  rcases hl.src with h5|⟨i,b,x,s0,hb1,hx1,hm1⟩
  ·exact .inl h5
  ·obtain⟨t1,t2⟩:=T.2 i b x hb1 hx1
   exact .inr ⟨b / 2,s0,oldn _ _ t2,by rw[show 2*(b / 2)=b from by omega];exact hm1⟩
 ·intro k hk hm hn f st hf
  rw[(dN ys h).2] at hf
  exact hn f st hf
end Go.Id
namespace Go.Id
open Go
theorem lK {x:Nat} (h:x≠0):qX x=x % 18446744073709551616 :: qX (x / 18446744073709551616):=by
 rw[qX,dif_neg h]
theorem vm (x:Nat):B.ao (qX x)=x:=by
 induction x using Nat.strongRecOn with
 | ind x ih =>
  by_cases h:x=0
  ·subst h;rw[jO];rfl
  ·rw[lK h,B.jE,ih _ (Nat.div_lt_self (by omega) (by decide))]
   exact Nat.mod_add_div x _
theorem wJ (x:Nat):B.bB (qX x):=by
 induction x using Nat.strongRecOn with
 | ind x ih =>
  by_cases h:x=0
  ·subst h;rw[jO];intro d hd;cases hd
  ·rw[lK h]
   intro d hd
   rcases List.mem_cons.1 hd with rfl|hd
   ·exact Nat.mod_lt _ (by decide)
   ·exact ih _ (Nat.div_lt_self (by omega) (by decide)) d hd
theorem Cx (x:Nat):B.Norm (qX x):=by
 induction x using Nat.strongRecOn with
 | ind x ih =>
  by_cases h:x=0
  ·subst h;rw[jO];exact .inl rfl
  ·rw[lK h]
   right
   have ih:=ih _ (Nat.div_lt_self (by omega) (by decide:1<18446744073709551616))
   by_cases h2:x / 18446744073709551616=0
   ·rw[h2,jO]
    show x % 18446744073709551616≠0
    have:=Nat.mod_add_div x 18446744073709551616
    rw[h2] at this;omega
   ·rcases ih with e|e
    ·have:=vm (x / 18446744073709551616)
     rw[e] at this
     exact absurd this.symm h2
    ·have hl:0<(qX (x / 18446744073709551616)).length:=by
      rw[lK h2];simp
     rw[List.length_cons,show(qX (x / 18446744073709551616)).length+1 - 1=((qX (x / 18446744073709551616)).length - 1)+1 from by omega,List.getD_cons_succ]
     exact e
theorem Sx (x:Nat):x<18446744073709551616 ^ gw x:=by
 have:=B.jg (wJ x)
 rwa [vm] at this
noncomputable def wlK (f:Nat):Nat→Nat:=Nat.rec (motive:=fun _=>Nat→Nat) (fun _=>0) (fun _ ih x=>Bool.rec (motive:=fun _=>Nat) (fN (Nat.div x 18446744073709551616) fun y=>Nat.succ (ih y)) 0 (Nat.beq x 0)) f
theorem Ms {x:Nat} (h:x≠0):gw x=gw (x / 18446744073709551616)+1:=by
 unfold gw
 rw[lK h,List.length_cons]
theorem O0 : ∀(f x:Nat),x≤f→wlK f x=gw x
 | 0,x,h=>by
  obtain rfl:x=0:=by omega
  exact(fY.2 rfl).symm
 | f+1,x,h=>by
  show Bool.rec (motive:=fun _=>Nat) (fN (Nat.div x 18446744073709551616) fun y=>Nat.succ (wlK f y)) 0 (Nat.beq x 0)=_
  rw[dO]
  show Bool.rec (motive:=fun _=>Nat) (wlK f (x / 18446744073709551616)+1) 0 (Nat.beq x 0)=_
  by_cases hx:x=0
  ·subst hx
   exact(fY.2 rfl).symm
  ·have hlt:x / 18446744073709551616<x:=Nat.div_lt_self (by omega) (by decide)
   rw[O0 f _ (by omega),Ms hx]
   cases hb:Nat.beq x 0 with
   | true=>exact absurd (Nat.beq_eq.mp hb) hx
   | false=>rfl
noncomputable def w8 (x:Nat):Nat:=wlK x x
theorem EK (x:Nat):w8 x=gw x:=O0 x x (Nat.le_refl x)
end Go.Id

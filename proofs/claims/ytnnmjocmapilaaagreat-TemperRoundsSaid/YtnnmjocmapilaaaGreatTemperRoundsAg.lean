/-
  The ideal machine: rounds of loops over functions
-/
import Derived.Test.YtnnmjocmapilaaaGreatTemperRoundsAf
import Derived.RowKit3
set_option linter.unusedVariables false
set_option linter.unusedSimpArgs false
set_option linter.defProp false
set_option linter.deprecated false
namespace Go.Id
open Go Go.RowKit
section
variable {m:Mp}
def wI {nt:Nat} : ∀(ps:List Nat) (vs:List Value) (vs':List Value) (fr fr':Fr) (tmps:Array Value),iT nt ps vs fr=some fr'→dv m vs vs'→gZ m fr tmps→nt≤tmps.size → ps.length=vs.length∧gZ m fr' ((ps.zip vs').foldl (fun tmps (x:Nat×Value)=>tmps.setIfInBounds x.1 x.2) tmps)∧nt≤((ps.zip vs').foldl (fun tmps (x:Nat×Value)=>tmps.setIfInBounds x.1 x.2) tmps).size
 | [],[],vs',fr,fr',tmps,h,hL,hf,ht=>by simp only[iT] at h;cases h;exact⟨rfl,hf,ht⟩
 | t :: ps,v :: vs,[],fr,fr',tmps,h,hL,hf,ht=>by have:=hL.1;simp at this
 | t :: ps,v :: vs,v' :: vs',fr,fr',tmps,h,hL,hf,ht=>by
  rw[iT] at h;split at h;·rename_i fr1 hp;obtain⟨h1,h2⟩:=uY hp hf ht (hL.2 0 v v' rfl rfl);have hL':dv m vs vs':=⟨by have:=hL.1;simpa using this,fun i x x' a b=>hL.2 (i+1) x x' (by simpa using a) (by simpa using b)⟩;obtain⟨a,b,c⟩:=wI ps vs vs' fr1 fr' (tmps.setIfInBounds t v') h hL' h1 h2;exact⟨by simp[a],b,c⟩
  ·cases h
 | [],_ :: _,_,_,_,_,h,_,_,_=>by simp[iT] at h
 | _ :: _,[],_,_,_,_,h,_,_,_=>by simp[iT] at h
variable {l':Loop}
def pO.busy {l:jq} (h:pO m l l') (st:LoopState) (p:Option Code):pO m { l with state:=st,pending:=p } { l' with state:=st,pending:=p } :=
 ⟨rfl,rfl,h.fn,h.tmps,h.nt,h.params,h.assign,h.body⟩
def pO.WA {l:jq} (h:pO m l l') (st:LoopState):pO m { l with state:=st } { l' with state:=st } :=
 ⟨rfl,h.pending,h.fn,h.tmps,h.nt,h.params,h.assign,h.body⟩
structure Tp (E:Env) (call:je) (n l:Nat) (args:List Value) (h h':IH) (v:Value) where
 r:jq
 r1:jq
 r2:jq
 fr1:Fr
 fr2:Fr
 fr3:Fr
 h1:IH
 h2:IH
 e:dL
 loop:mj h l=some r
 put:iT r.nt r.params args r.fr=some fr1
 assign:evC E call r.fn r.nt (some l) n r.assign fr1 h=some (.normal,fr2,h1)
 VO:mj h1 l=some r1
 ready:r1.state=.ready
 body:evC E call r.fn r.nt (some l) n r.body fr2 { h1 with ext:=h1.ext.set l (.loop { r1 with state:=.busy }) }=some (e,fr3,h2)
 VN:mj h2 l=some r2
 done:(e=.normal∧v=.bool true∧h' = { h2 with ext:=h2.ext.set l (.loop { r2 with state:=.ready,pending:=none }) }) ∨
  (∃i,e=.exit i∧v=.bool false∧h' = { h2 with ext:=h2.ext.set l (.loop { r2 with state:=.done,pending:=some (.exit i) }) }) ∨
  (e=.ret∧v=.bool false∧h' = { h2 with ext:=h2.ext.set l (.loop { r2 with state:=.done,pending:=some .ret }) })
variable {l:Nat}{E:Env}{n:Nat}{args:List Value}{h:IH}{v:Value}{call:je}{h':IH}
theorem wO (hr:fu E call n l args h=some (v,h')):Nonempty (Tp E call n l args h h' v):=by
 unfold fu at hr;split at hr;·cases hr
 ·rename_i r hl;split at hr
  ·cases hr
  ·rename_i fr1 hp;split at hr
   ·rename_i fr2 h1 hx;split at hr
    ·cases hr
    ·rename_i r1 hl1;simp only[aX,bT] at hr;split at hr
     ·rename_i hst;split at hr
      ·cases hr
      ·rename_i e fr3 h2 hy;split at hr
       ·cases hr
       ·rename_i r2 hl2;split at hr<;>cases hr
        ·exact⟨⟨r,r1,r2,fr1,fr2,fr3,h1,h2,_,hl,hp,hx,hl1,hst,hy,hl2,.inl ⟨rfl,rfl,rfl⟩⟩⟩
        ·exact⟨⟨r,r1,r2,fr1,fr2,fr3,h1,h2,_,hl,hp,hx,hl1,hst,hy,hl2,.inr (.inl ⟨_,rfl,rfl,rfl⟩)⟩⟩
        ·exact⟨⟨r,r1,r2,fr1,fr2,fr3,h1,h2,_,hl,hp,hx,hl1,hst,hy,hl2,.inr (.inr ⟨rfl,rfl,rfl⟩)⟩⟩
     ·cases hr
   ·cases hr
def JV (fG:gK call) (hr:fu E call n l args h=some (v,h')):h.n≤h'.n:=by
 obtain⟨Y⟩:=wO hr;have n1:=y7 fG _ _ _ _ _ _ Y.assign;have n2:=y7 fG _ _ _ _ _ _ Y.body;have n3:h'.n=Y.h2.n:=by rcases Y.done with⟨_,_,e⟩|⟨_,_,_,e⟩|⟨_,_,e⟩<;>exact(kC IH.n e).trans rfl
 rw[n3];exact bV n1 n2
variable {w0:World}{args':Array Value}{w:World}{B:Nat}
def Ey (S:Sound E) (jI:oD E.P call) (fG:gK call) (hr:fu E call n l args h=some (v,h'))(R:Rel B w0 m h w) (ku:dv m args args'.toList) (hfr:jE m h.n h'.n) {r0 s0:Nat} (hm:m (2*l)=some (r0,s0)) :∃f ts a c,(Instr.yield r0 args').run E.P w=.ok (.round r0 f ts a c) w ∧
   ∀(c0:Frame) (cs:List Frame),∃v' m' w',bz m' v v'∧Rel B w0 m' h' w'∧Step m h w m' h' w'∧Steps E.P (lone (Frame.round r0 f ts a c .normal) (c0 :: cs) w) (lone (c0.finish v') cs w'):=by
 obtain⟨Y⟩:=wO hr;have n1:=y7 fG _ _ _ _ _ _ Y.assign;have n2:=y7 fG _ _ _ _ _ _ Y.body;have n3:h'.n=Y.h2.n:=by rcases Y.done with⟨_,_,e⟩|⟨_,_,_,e⟩|⟨_,_,e⟩<;>exact(kC IH.n e).trans rfl
 obtain⟨_,L,hL,ml⟩:=R.obj _ _ _ _ (kL Y.loop) hm;obtain⟨p1,p2,p3⟩:=wI Y.r.params args args'.toList Y.r.fr Y.fr1 L.tmps Y.put ku ml.tmps ml.nt;have hsz:args'.size=L.params.size:=by
  have h1:L.params.size=Y.r.params.length:=by rw[←ml.params];simp
  have h2:=ku.1;simp at h2;omega
 have htm:(L.params.zip args').foldl (fun tmps (x:Tmp×Value)=>tmps.setIfInBounds x.1 x.2) L.tmps=(Y.r.params.zip args'.toList).foldl (fun tmps (x:Nat×Value)=>tmps.setIfInBounds x.1 x.2) L.tmps:=by rw[←Array.foldl_toList,Array.toList_zip,ml.params]
 rw[←htm] at p2 p3;refine⟨_,_,_,_,run_yield hL hsz,fun c0 cs=>?_⟩;let b:Frame:={ fn:=L.fn,tmps:=#[],todo:=[],defers:=[],mode:=.run,kind:=.normal,roundOf:=some r0 };have hb:b.fn=Y.r.fn:=ml.fn;have hx:=Y.assign;rw[←hb] at hx;obtain⟨m1,w1,iz,ds1,k1,a1,a2,a3,a4,a5,a6,a7⟩:=CO (b:=b) (rd:=some l) (z:=w.heap.size) (cs:=c0 :: cs) jI fG S.mixed n Y.r.assign _ _ _ _ _ hx m w _ [.beginRound,.code Y.r.body] [] R p2 p3 (hfr.sub (aA _) (by rw[n3];exact n2)) (.inr ⟨l,r0,s0,rfl,rfl,hm⟩) (ph.nil _ _ _ _) (aA _);obtain rfl:k1=_:=a2;have hm1:=(a6.le _ _ hm).1;obtain⟨hs0,L1,hL1,VT⟩:=a5.obj _ _ _ _ (kL Y.VO) hm1;obtain⟨Rb,Sb⟩:=a5.setObj (o1:=.loop { Y.r1 with state:=.busy }) (o':=.loop { L1 with state:=.busy }) (kL Y.VO) rfl rfl hm1 rfl (fun w' z e=>⟨hs0,_,e,VT.WA .busy⟩);have hbeg:(Instr.beginRound r0).run E.P w1=.ok () (w1.putObj r0 (.loop { L1 with state:=.busy })):=run_beginRound hL1 (by rw[VT.state];exact Y.ready);have st1:step E.P (lone (on b iz (.beginRound :: [.code Y.r.body]) ds1) (c0 :: cs) w1)=.next (lone (on b iz [.code Y.r.body] ds1) (c0 :: cs) (w1.putObj r0 (.loop { L1 with state:=.busy }))) :=
  stepR_beginRound (b:=b) (a:=⟨iz,ds1⟩) rfl hbeg
 have hy:=Y.body;rw[←hb] at hy;have S1b:=a6.trans Sb;obtain⟨m2,w2,EP,ds2,k2,b1,b2,b3,b4,b5,b6,b7⟩:=CO (b:=b) (rd:=some l) (z:=w.heap.size) (cs:=c0 :: cs) jI fG S.mixed n Y.r.body _ _ _ _ _ hy m1 _ iz [] ds1 Rb a3 a4 ((S1b.fresh hfr).sub (aA _) (by rw[n3];exact aA _)) (.inr ⟨l,r0,s0,rfl,rfl,hm1⟩) (a7.step Sb) (bV a6.size Sb.size);have hm2:=(b6.le _ _ hm1).1;obtain⟨_,L2,hL2,Zl⟩:=b5.obj _ _ _ _ (kL Y.VN) hm2;have start:lone (Frame.round r0 L.fn ((L.params.zip args').foldl (fun tmps (x:Tmp×Value)=>tmps.setIfInBounds x.1 x.2) L.tmps) L.assign L.body .normal) (c0 :: cs) w =
   lone (on b ((L.params.zip args').foldl (fun tmps (x:Tmp×Value)=>tmps.setIfInBounds x.1 x.2) L.tmps) (.code Y.r.assign :: [.beginRound,.code Y.r.body]) []) (c0 :: cs) w:=by
  rw[ml.assign,ml.body];rfl
 have path:=a1.trans (.head st1 b1);have fin : ∀(e:dL) (u:Value) (st:LoopState) (Dq:Option Code),h' = { Y.h2 with ext:=Y.h2.ext.set l (.loop { Y.r2 with state:=st,pending:=Dq }) }→u=.bool Dq.isNone→v=u → (st=if Dq.isNone then .ready else .done) →
   step E.P (lone (on b EP k2 ds2) (c0 :: cs) w2)=.next (lone (c0.finish u) cs (w2.putObj r0 (.loop { L2 with state:=if Dq.isNone then .ready else .done,pending:=Dq }))) →
   ∃v' m' w',bz m' v v'∧Rel B w0 m' h' w'∧Step m h w m' h' w'∧Steps E.P (lone (Frame.round r0 L.fn ((L.params.zip args').foldl (fun tmps (x:Tmp×Value)=>tmps.setIfInBounds x.1 x.2) L.tmps) L.assign L.body .normal) (c0 :: cs) w) (lone (c0.finish v') cs w'):=by
  intro e u st Dq e1 e2 e3 e4 hst;obtain⟨R3,S3⟩:=b5.setObj (o1:=.loop { Y.r2 with state:=st,pending:=Dq }) (o':=.loop { L2 with state:=st,pending:=Dq }) (kL Y.VN) rfl rfl hm2 rfl (fun w' z e=>⟨hs0,_,e,Zl.busy st Dq⟩);refine⟨u,m2,_,by rw[e3,e2];exact .dN rfl,by rw[e1];exact R3,by rw[e1];exact(S1b.trans b6).trans S3,?_⟩;rw[start];rw[←e4] at hst;exact path.trans (.one hst)
 rcases Y.done with⟨e1,e2,e3⟩|⟨i,e1,e2,e3⟩|⟨e1,e2,e3⟩;·rw[e1] at b2;obtain rfl:k2=_:=b2;exact fin .normal (.bool true) .ready none e3 rfl e2 rfl (stepR_round_end (b:=b) (a:=⟨EP,ds2⟩) rfl rfl (run_endRound none hL2))
 ·rw[e1] at b2
  obtain⟨k3,rfl,hk3⟩:=b2;exact fin (.exit i) (.bool false) .done (some (.exit i)) e3 rfl e2 rfl (stepR_round_exit (b:=b) (a:=⟨EP,ds2⟩) rfl rfl (by rw[hk3];rfl) (run_endRound (some (.exit i)) hL2))
 ·rw[e1] at b2;obtain⟨k3,rfl⟩:=b2;exact fin .ret (.bool false) .done (some .ret) e3 rfl e2 rfl (stepR_round_ret (b:=b) (a:=⟨EP,ds2⟩) rfl rfl (run_endRound (some .ret) hL2))
variable {f:FuncId}
def PC {P:Program} {fn:Func} (hf:P.funcs[f]?=some fn) (hb:fn.body=none) (ho:fn.origin=fn.name∨fn.origin = "") (hc:og fn.name args=some v) (ku:dv m args args'.toList) (w:World) :∃v',(callFunc f args').run P w=.ok (.value v') w∧bz m v v' ∧ ∀a∈args'.toList,∃k n,a=Value.int k n:=by
 unfold og at hc;split at hc
 case h_2=>cases hc
 rename_i x y c;simp only[aX] at hc;split at hc
 case isFalse=>cases hc
 rename_i hle;have Zv:c≤1:=by simpa using hle
 obtain⟨a0,b0,r0⟩:=ku.get (i:=0) rfl;obtain⟨a1,b1,r1⟩:=ku.get (i:=1) rfl;obtain⟨a2,b2,r2⟩:=ku.get (i:=2) rfl;have e0:=r0.gL rfl;have e1:=r1.gL rfl;have e2:=r2.gL rfl;subst e0;subst e1;subst e2;have hl:args'.toList = [.int .u64 (.ofNat x),.int .u64 (.ofNat y),.int .u64 (.ofNat c)]:=by
  have h1:=ku.1;apply iO;intro i
  match i with
  | 0=>exact b0
  | 1=>exact b1
  | 2=>exact b2
  | i+3=>rw[cy (by simp at h1 ⊢;omega),cy ab]
 have ha:args' = #[.int .u64 (.ofNat x),.int .u64 (.ofNat y),.int .u64 (.ofNat c)]:=by rw[←Array.toArray_toList (xs:=args'),hl]
 have hint : ∀a∈args'.toList,∃k n,a=Value.int k n:=by rw[hl];intro a h;simp only[dV,List.not_mem_nil,or_false] at h;rcases h with rfl|rfl|rfl<;>exact⟨_,_,rfl⟩
 split at hc
 ·rename_i hn;have hn:fn.name = "math/bits.Add64" := by simpa using hn
  cases hc;refine⟨_,?_,bz.kY (cs:=#[.int .u64 _,.int .u64 _]) (cs':=#[.int .u64 _,.int .u64 _]) (.cons (.dN rfl) (.cons (.dN rfl) (.nil _))),hint⟩;rw[run_callFunc_extern hf (by rw[hn];decide +kernel) (by rw[hb];rfl) (Rg hn (ho.imp (fun e=>by rw[e,hn]) id)) (R4 hn),ha,run_add64 _ _ _ (by exact jy _) (by exact jy _) (by exact jy _) (by exact Int.ofNat_le.2 Zv)];simp only[bW];rfl
 ·split at hc
  ·rename_i hn
   have hn:fn.name = "math/bits.Sub64" := by simpa using hn
   cases hc;refine⟨_,?_,bz.kY (cs:=#[.int .u64 _,.int .u64 _]) (cs':=#[.int .u64 _,.int .u64 _]) (.cons (.dN rfl) (.cons (.dN rfl) (.nil _))),hint⟩;rw[run_callFunc_extern hf (by rw[hn];decide +kernel) (by rw[hb];rfl) (Re hn (ho.imp (fun e=>by rw[e,hn]) id)) (R0 hn),ha];show((CE #[.int .u64 (x:Int),.int .u64 (y:Int),.int .u64 (c:Int)]).run P w).andThen _=_;rw[OF x y Zv];simp only[bW];congr 4;by_cases hlt:x<y+c;·simp[hlt]
   ·simp[hlt]
  ·cases hc
def qA (S:Sound E) : ∀n,gK (fP E n)
 | 0=>fun fv vs h h' v hr=>by simp[fP] at hr
 | n+1=>fun fv vs h h' v hr=>by
  unfold fP at hr;split at hr;·exact SV S (qA S n) hr
  ·simp only[aX] at hr;split at hr
   ·exact JV (qA S n) hr
   ·cases hr
  ·cases hr
def Ar (S:Sound E) : ∀n,oD E.P (fP E n)
 | 0=>fun fv vs h h' v hr=>by simp[fP] at hr
 | n+1=>fun fv vs h h' v hr B w0 m w fv' vs' R hfv hvs hfr=>by
  unfold fP at hr;split at hr
  ·rename_i f first cap
   obtain⟨fn',Hw,XL,rfl,hfn,h1,h2⟩:=hfv.yW;cases fn'<;>simp only[vk] at hfn;subst hfn;have ku:dv m (first.toList ++ (vs ++ cap.toList)) (Hw ++ vs' ++ XL).toList:=by rw[Cn,Cn,List.append_assoc];exact h1.append (hvs.append h2)
   rcases DS S (Ar S n) (qA S n) hr R ku hfr with⟨⟨fn,hf,hb⟩,hC⟩|⟨fn,hf,hb,rfl,hcv⟩
   case inr =>
    obtain⟨v',e1,e2,e3⟩:=PC hf hb (S.origin f fn hf hb hcv) hcv ku w;refine⟨.value v',?_,.inl ⟨v',rfl,rfl,e2,fun a ha=>e3 a (by rw[Cn,Cn];simp[ha])⟩⟩;simp only[Deferred.ofValue,bJ,ck,bW,invoke];exact e1
   refine⟨.enter f (Hw ++ vs' ++ XL),?_,.inr ⟨_,.inl ⟨_,_,rfl,rfl⟩,fun c cs=>hC.run c cs⟩⟩;simp only[Deferred.ofValue,bJ,ck,bW,invoke];exact HE hf hb (S.names f fn hf hb)
  ·rename_i l first cap
   simp only[aX,bT] at hr;split at hr
   ·rename_i hev;obtain⟨fn',Hw,XL,rfl,hfn,h1,h2⟩:=hfv.yW;cases fn'<;>simp only[vk] at hfn;obtain⟨s,hm⟩:=hfn;have hl:2*(l / 2)=l:=aa;rw[←hl] at hm;have ku:dv m (first.toList ++ vs) (Hw ++ vs').toList:=by rw[Cn];exact h1.append hvs
    obtain⟨f,ts,a,c,hy,cH⟩:=Ey S (Ar S n) (qA S n) hr R ku hfr hm;refine⟨_,?_,.inr ⟨_,.inr ⟨_,f,ts,a,c,rfl,rfl⟩,cH⟩⟩;simp only[Deferred.ofValue,bJ,ck,bW,invoke];exact hy
   ·cases hr
  ·cases hr
def Jr (S:Sound E) (hr:fP E (n+1) (.func (.func f) #[] #[]) args h=some (v,h'))
  (R:Rel B w0 m h w) (ku:dv m args args'.toList) (hfr:jE m h.n h'.n) (hv : ∀n a,og n a≠some v):zq E.P f args' B w0 m h w v h':=by
 unfold fP at hr;rcases DS S (Ar S n) (qA S n) hr R (by simpa using ku) hfr with⟨_,h⟩|⟨_,_,_,_,h⟩;·exact h
 ·exact absurd h (hv _ _)
end
section
def IH.start (base:Nat→Option (List Value)):IH:={ base,n:=0,ext:=.leaf,eP:=.leaf }
def Mp.oo (A:Nat→Nat×Nat):Mp:=⟨fun b=>if b % 2=1 then some (if b / 2<4294967296 then (b / 2,0) else A (b / 2 - 4294967296)) else none,fun _=>(0,0)⟩
def Mp.AH (A:Nat→Nat×Nat) {b:Nat} (h:b<4294967296):Mp.oo A (2*b+1)=some (b,0):=by show(if (2*b+1) % 2=1 then some (if (2*b+1) / 2<4294967296 then ((2*b+1) / 2,0) else A ((2*b+1) / 2 - 4294967296)) else none)=some (b,0);rw[aq aa,aq aa,show(2*b+1) / 2=b from by omega]
def Mp.yn (A:Nat→Nat×Nat) (i:Nat):Mp.oo A (2*(4294967296+i)+1)=some (A i):=by show(if (2*(4294967296+i)+1) % 2=1 then some (if (2*(4294967296+i)+1) / 2<4294967296 then ((2*(4294967296+i)+1) / 2,0) else A ((2*(4294967296+i)+1) / 2 - 4294967296)) else none)=some (A i);rw[aq aa,ah aa,show(2*(4294967296+i)+1) / 2 - 4294967296=i from by omega]
theorem Mp.yo (A:Nat→Nat×Nat) (k:Nat):Mp.oo A (2*k)=none:=by show(if (2*k) % 2=1 then _ else none)=none;rw[ah aa]
def HR (A:Nat→Nat×Nat) (base:Nat→Option (List Value)) (w:World):Prop:=∀b cs,base b=some cs → ∃r s,Mp.oo A (2*b+1)=some (r,s) ∧ ∃c el fz,w.heap[r]?=some (.cells c el fz)∧wU (Mp.oo A) cs c s
variable {base:Nat→Option (List Value)}{w:World}{A:Nat→Nat×Nat}
theorem Rel.start (hb:HR A base w):Rel w.heap.size w (Mp.oo A) (IH.start base) w:=by
 have leaf : ∀{α:Type} (k:Nat),(Tr.leaf:Tr α).get k=none:=fun k=>rfl;refine⟨Below.refl _ _,aA _,?_,fun b h=>Mp.AH A h,?_,fun k _=>leaf k,?_,?_,?_,?_,?_,?_⟩;·intro b cs h;obtain⟨r,s,h0,c,el,fz,h1,h2⟩:=hb b cs h;exact⟨r,s,h0,(md.1 h1).1,c,el,fz,h1,h2⟩
 ·intro k r s h
  rw[Mp.yo] at h;cases h
 ·intro k o r s h;cases h
 ·intro k k' o o' r s s' _ h;cases h
 ·intro f st h;cases h
 ·intro k cs t f h;cases h
 ·intro f st h;cases h
 ·intro f st x y h;cases h
def Ac {w':World} (h:Below w.heap.size w w') (may:MemPlace→Prop):w.keptBut w' may:=by
 refine⟨h.os,h.output,fun i hi=>?_⟩;rw[h.block i hi];cases hx:w.heap[i]? with
 | none=>rfl
 | some o =>
  cases o with
  | cells c t fr=>exact⟨rfl,rfl,rfl,fun _ _=>rfl⟩
  | map es cl=>exact .inr ⟨rfl,rfl⟩
  | _=>rfl
def En {H:Type} {enc:TypeId×Value→H} {P:Program} {f:Func} {s:ChangeSpec} {apart fresh handsOn:Bool} {W W':World} {args:Array Value} {v:Value} {ds gs:List (DataW H)} {before pa pv:List MemPlace}(hW:DataW.Whole enc P f.params.toList s.vars apart W args.toList ds gs before)(LM : ∀(b:Nat) (sp:Nat→Bool) (hd:Bool),DataW.TrodAll enc P W' b sp hd f.resultTypes.toList (v.resultList f.resultTypes.size) (s.fn H (ds ++ gs)).results [])(ku : ∀sp:Nat→Bool,(∀p∈before,sp p.block=true)→DataW.TrodAll enc P W' 0 sp true f.params.toList args.toList (s.fn H (ds ++ gs)).args pa)(Zd : ∀sp:Nat→Bool,(∀p∈before,sp p.block=true)→DataW.TrodVars enc P W' sp s.vars (s.fn H (ds ++ gs)).vars pv)(hk:Below W.heap.size W W'):s.post enc P f apart fresh handsOn false W args v W':=by
 have hold : ∀p∈before,(fun b=>decide (b<W.heap.size)) p.block=true:=fun p hp=>by simpa using hW.lt p hp
 exact⟨ds,gs,before,[],pa,pv,hW,LM _ _ _,ku _ hold,Zd _ hold,Ac hk _,fun h=>by cases h⟩
def Mj (n:String) (a:List Value):og n a≠some (.bool true):=by
 intro h;unfold og at h;split at h
 ·simp only[aX] at h;repeat' split at h
  all_goals first|cases h|contradiction
 ·cases h
def LJ {E:Env} (S:Sound E) {n:Nat} {f:FuncId} {args:List Value} {h':IH} (hr:fP E (n+1) (.func (.func f) #[] #[]) args (IH.start base)=some (.bool true,h')){args':Array Value} (hb:HR A base w) (ku:dv (Mp.oo A) args args'.toList):Calls E.P f args' w fun e w'=>e=.returned (.bool true)∧Below w.heap.size w w':=by refine(Jr S hr (Rel.start hb) ku (fun k _ _=>Mp.yo A k) Mj).mono fun e w' ⟨v',m',he,hv,R,_⟩=>?_;rw[he,hv.gL rfl];exact⟨rfl,R.below⟩
end
end Go.Id
namespace Go.Id
open Go
open Go renaming Operand→QY,Program→QX,TypeId→QZ,Value→QQ
open Nat renaming reduceAdd→zA,reduceEqDiff→zE,reduceLeDiff→zL
open Nat (reduceMul)
set_option maxHeartbeats 16000000
section
def Aq (o:Oper):Bool:=fE o.op == .pure || fE o.op == .load
def mF (ops:List Oper) (i p:Nat):Bool :=
 (List.range ops.length).all fun j => !(Nat.ble (min i p) j && Nat.blt j (max i p)) || (match ops[j]? with|some o=>Aq o|none=>false)
def Fi (ops:List Oper):List (Nat×List Nat):=(Eo ops).filterMap fun e=>match e.2.filter (fun p => !mF ops e.1 p) with
 | []=>none
 | l=>some (e.1,l)
variable {h:IH}{ops:List Oper}{nt:Nat}{E:Env}{call:je}{fr:Fr}
def PG {o:Oper} {fr':Fr} {h':IH} (hc:Aq o=true) (hs:iC E call nt ops o fr h=some (fr',h')):h'=h:=by
 have hne:fE o.op≠.chain:=by intro hk;simp[Aq,hk] at hc
 unfold iC at hs;split at hs
 ·rw[iW hne] at hs;split at hs
  ·rename_i v h1 hi;obtain⟨f,_,e⟩:=bI.1 hs;cases e;simp only[Aq,nM,bT] at hc;rcases hc with hc|hc
   ·exact(Dr hc hi).1
   ·exact Ds hc hi
  ·cases hs
 ·obtain⟨f,_,e⟩:=bI.1 hs;cases e;rfl
 ·cases hs
variable {tr:List (Fr×IH)}
def xW (ht:trace E call nt ops ops fr h=some tr) : ∀(d a:Nat) (x y:Fr×IH),(∀j,a≤j→j<a+d → ∃o,ops[j]?=some o∧Aq o=true)→tr[a]?=some x→tr[a+d]?=some y→y.2=x.2
 | 0,a,x,y,_,hx,hy=>by rw[gN,hx] at hy;cases hy;rfl
 | d+1,a,x,y,hc,hx,hy=>by obtain⟨o,ho,hco⟩:=hc a (aA _) aa;obtain⟨_,_,h3⟩:=sY ops fr h tr ht;obtain⟨fr1,h1,fr2,h2,e1,e2,hs⟩:=h3 a o ho;rw[hx] at e1;cases e1;have e3:=PG hco hs;have:=xW ht d (a+1) (fr2,h2) y (fun j a1 a2=>hc j aa aa) e2 (by rw[←hy];congr 1;omega);rw[this];exact e3
def PH (ht:trace E call nt ops ops fr h=some tr) {i p:Nat} (hc:mF ops i p=true) (hi:i≤ops.length) (hp:p≤ops.length) {x y:Fr×IH} (hx:tr[i]?=some x) (hy:tr[p]?=some y):y.2=x.2:=by
 simp only[mF,ji,qX,nM,Gy,Bool.and_eq_false_iff] at hc
 have key : ∀j,min i p≤j→j<max i p → ∃o,ops[j]?=some o∧Aq o=true:=by
  intro j a b;rcases hc j aa with hh|hh
  ·rcases hh with hh|hh
   ·rw[sU] at hh;exact absurd (by rw[ch];exact a) hh
   ·rw[sU] at hh;exact absurd (by simp only[Nat.blt,ch];omega) hh
  ·split at hh
   ·rename_i o ho;exact⟨o,ho,hh⟩
   ·cases hh
 rcases Nat.le_total i p with hip|hip;·exact xW ht (p - i) i x y (fun j a b=>key j aa aa) hx (by rw[←hy];congr 1;omega)
 ·exact(xW ht (i - p) p y x (fun j a b=>key j aa aa) hy (by rw[←hx];congr 1;omega)).symm
def QV {e:Nat×List Nat} (he:e∈Eo ops):(∃o,ops[e.1]?=some o∧fE o.op=.load) ∧ ∀p∈e.2,p≤ops.length:=by
 simp only[Eo,Gs,qX] at he;obtain⟨i,hi,he⟩:=he;split at he;·cases he
 ·rename_i o ho;simp only[aX,bT] at he;split at he
  ·rename_i hk;cases he;refine⟨⟨o,ho,hk⟩,fun p hp=>?_⟩;have:=(qY.1 hp).1;rw[fC] at this;rcases this with h1|h1
   ·have:=(qY.1 h1).1;rw[qX] at this;omega
   ·simp at h1;omega
  ·cases he
def CG (ht:trace E call nt ops ops fr h=some tr) (hs:steady E.P ops tr (Fi ops)=true):steady E.P ops tr (Eo ops)=true:=by
 simp only[steady,ji] at hs ⊢;intro e he;obtain⟨⟨o,ho,hk⟩,hps⟩:=QV he;obtain⟨hlen,_,h3⟩:=sY ops fr h tr ht;obtain⟨fr1,h1,fr2,h2,e1,e2,hst⟩:=h3 e.1 o ho;have hi:e.1<ops.length:=(bU.1 ho).1;simp only[ho,e1];split
 ·rename_i hw;rw[ji];intro p hp;have hpl:=hps p hp
  obtain⟨⟨fp,hpp⟩,hp1⟩ : ∃y,tr[p]?=some y:=⟨tr[p]' aa,aK aa⟩
  cases hcb:mF ops e.1 p with
  | true =>
   have iH:=PH ht hcb (kF hi) hpl e1 hp1;simp only at iH;simp only[hp1];subst iH;unfold iC at hst;simp only[hw] at hst;rw[iW (by rw[hk];simp)] at hst;split at hst;·rename_i v h1' hv;simp[jS,hv,JD]
   ·cases hst
  | false =>
   have LN : ∃l,(e.1,l)∈Fi ops∧p∈l:=by
    refine⟨e.2.filter (fun p => !mF ops e.1 p),?_,by simp[hp,hcb]⟩;simp only[Fi,Gs];refine⟨e,he,?_⟩;split
    ·rename_i Xe;have:p∈e.2.filter (fun p => !mF ops e.1 p):=by simp[hp,hcb]
     rw[Xe] at this;cases this
    ·rfl
   obtain⟨l,hl,hpl⟩:=LN;have:=hs _ hl;simp only[ho,e1,hw,ji] at this;exact this p hpl
 ·rfl
def yw : ∀(l:List Oper) (fr:Fr) (h:IH) (r:Fr×IH),lC E call nt ops l fr h=some r → ∃tr,trace E call nt ops l fr h=some tr∧tr[l.length]?=some r
 | [],fr,h,r,hr=>by simp only[lC] at hr;cases hr;exact⟨_,rfl,rfl⟩
 | o :: l,fr,h,r,hr=>by
  rw[lC] at hr;split at hr;·rename_i fr1 h1 hs;obtain⟨tr,e1,e2⟩:=yw l fr1 h1 r hr;exact⟨(fr,h) :: tr,by simp[trace,hs,e1],by simpa using e2⟩
  ·cases hr
def jP (ops:List Oper):Bool:=tz ops && (Fi ops).isEmpty
def El {r:Fr×IH} (hc:jP ops=true) (hr:lC E call nt ops ops fr h=some r):oH E call nt ops fr h=some r:=by simp only[jP,fK,List.isEmpty_iff] at hc;obtain⟨tr,e1,e2⟩:=yw ops fr h r hr;have hs:steady E.P ops tr (Eo ops)=true:=CG e1 (by rw[hc.2];rfl);simp[oH,e1,hc.1,hs,e2]
end
section
def E0 (P:QX):Env:=⟨P,fun _ _=>none,fun _=>none⟩
def Tm {α:Type} (o:Nat→Option α) (Q:α→Prop):Prop:=∃a,(∃N,∀n,N≤n→o n=some a)∧Q a
variable {α:Type}{Q:α→Prop}{o:Nat→Option α}
def Tm.mono {R:α→Prop} (h:Tm o Q) (k : ∀a,Q a→R a):Tm o R :=
 let ⟨a,h1,h2⟩:=h;⟨a,h1,k a h2⟩
variable {a:α}
def Tm.of (h : ∀n,o n=some a) (q:Q a):Tm o Q:=⟨a,⟨0,fun n _=>h n⟩,q⟩
variable {β:Type}
def Tm.of2 {o:Nat→Option (α×β)} {K:α→β→Prop} {b:β} (k:K a b) (h : ∀n,o n=some (a,b)):Tm o fun p=>K p.1 p.2:=⟨(a,b),⟨0,fun n _=>h n⟩,k⟩
def Tm.bind {p:Nat→Option β} {Q:β→Prop} (f:α→Nat→Option β) (h:Tm o fun a=>Tm (f a) Q) (hp : ∀n a,o n=some a→p n=f a n):Tm p Q:=by obtain⟨a,⟨N,h1⟩,b,⟨M,h2⟩,q⟩:=h;refine⟨b,⟨max N M,fun n hn=>?_⟩,q⟩;rw[hp n a (h1 n (bV (Cb _ _) hn)),h2 n (bV (Ca _ _) hn)]
def Tm.congr {p:Nat→Option α} (h:Tm o Q) (e : ∀n,p n=o n):Tm p Q :=
 let ⟨a,⟨N,h1⟩,h2⟩:=h;⟨a,⟨N,fun n hn=>(e n).trans (h1 n hn)⟩,h2⟩
def Ex {α:Type} (o:Option α) (K:α→Prop):Prop:=∃v,o=some v∧K v
@[congr] theorem ZaR {α:Type} {o o':Option α} {K:α→Prop} (h:o=o'):Ex o K=Ex o' K:=by rw[h]
@[simp] theorem HN {α:Type} (v:α) (K:α→Prop):Ex (some v) K=K v:=by simp[Ex]
@[simp] theorem ZaX {α:Type} (K:α→Prop):Ex none K=False:=by simp[Ex]
@[simp] theorem Yf {α β:Type} (o:Option α) (f:α→β) (K:β→Prop):Ex (o.map f) K=Ex o fun v=>K (f v):=by cases o<;>simp[Ex]
theorem Ex.mono {o:Option α} {K L:α→Prop} (h:Ex o K) (k : ∀v,K v→L v):Ex o L:=let ⟨v,a,b⟩:=h;⟨v,a,k v b⟩
def Br (b:Bool) (p q:Prop):Prop:=if b=true then p else q
@[congr] theorem ZaS {b b':Bool} {p q:Prop} (h:b=b'):Br b p q=Br b' p q:=by rw[h]
@[simp] theorem Vk (p q:Prop):Br true p q=p:=by simp[Br]
@[simp] theorem Tu (p q:Prop):Br false p q=q:=by simp[Br]
theorem Br.intro {b:Bool} {p q:Prop} (h1:b=true→p) (h2:b=false→q):Br b p q:=by cases b<;>simp_all [Br]
def Lt (p:Prop):Prop:=p
@[congr] theorem ZaP {p:Prop}:Lt p=Lt p:=rfl
def WV (P:QX) (fv:QQ) (vs:List QQ) (h:IH) (K:QQ→IH→Prop):Prop:=Tm (fun n=>fP (E0 P) n fv vs h) fun p=>K p.1 p.2
variable {h:IH}{P:QX}{K:QQ→IH→Prop}
@[congr] theorem ZaO {P:QX} {fv fv':QQ} {vs vs':List QQ} {h h':IH} {K:QQ→IH→Prop} (a:fv=fv') (b:vs=vs') (c:h=h'):WV P fv vs h K=WV P fv' vs' h' K:=by rw[a,b,c]
theorem WV.mono {fv:QQ} {vs:List QQ} {L:QQ→IH→Prop} (w:WV P fv vs h K) (k : ∀v h',K v h'→L v h'):WV P fv vs h L:=Tm.mono w fun _ x=>k _ _ x
def wpOp (P:QX) (o:Op) (fr:Fr) (h:IH) (K:QQ→IH→Prop):Prop :=
 match o with
 | .move x=>Ex (opd fr x) fun v=>K v h
 | .assign x=>Ex (opd fr x) fun v=>K v h
 | .pick c a b=>Ex (opd fr c) fun c=>Ex (opd fr a) fun a=>Ex (opd fr b) fun b=>c=.bool true∧K a h∨c=.bool false∧K b h
 | .alloc t=>Ex (bC P t) fun z=>K (ptr (2*h.n) 0) (h.new (.cells z 0 none))
 | .box _ x=>Ex (opd fr x) fun v=>K (ptr (2*h.n) 0) (h.new (.cells v.cells.toList 0 none))
 | .load t a=>Ex (opd fr a) fun a=>Ex (load P h t a) fun v=>K v h
 | .store t a x=>Ex (opd fr a) fun a=>Ex (opd fr x) fun x=>Ex (store P h t a x) fun h=>K undef h
 | .binOp op t x y _=>Ex (opd fr x) fun a=>Ex (opd fr y) fun b=>Ex (binop P op t x y a b) fun v=>K v h
 | .fieldAddr t x f=>Ex (opd fr x) fun x=>Ex (mZ P t f) fun f=>Ex (asAddr x) fun a=>Ex (bK P f.type) fun n=>n≠0∧K (ptr a.1 (a.2+f.offset)) h
 | .indexAddr t x i=>Ex (opd fr x) fun x=>Ex (opd fr i) fun i=>Ex (indexAddr P t x i) fun v=>K v h
 | .extract x i=>Ex (opd fr x) fun x=>match x with
  | .tuple vs=>Ex vs[i]? fun v=>K v h
  | _=>False
 | .makeFunc fn first cap=>Ex (nV fr first.toList) fun a=>Ex (nV fr cap.toList) fun b=>match fn with
  | .func f=>K (.func (.func f) a.toArray b.toArray) h
  | _=>False
 | .call c=>match c.callee with
  | .value f=>Ex (opd fr f) fun fv=>Ex (nV fr c.args.toList) fun vs=>WV P fv vs h K
  | .builtin b=>Ex (nV fr c.args.toList) fun vs=>Ex (builtin P h b c.argTypes vs) fun r=>K r.1 r.2
  | _=>False
 | o=>Ex (iop P fr o h) fun r=>K r.1 r.2
variable {fr:Fr}
def Kq {o:Op} (w:wpOp P o fr h K):Tm (fun n=>jn (E0 P) (fP (E0 P) n) fr o h) fun p=>K p.1 p.2:=by
 unfold wpOp at w
 split at w
 case h_13 c =>
  split at w;·obtain⟨fv,h1,vs,h2,k⟩:=w;rename_i f hc;refine Tm.congr k fun n=>?_;simp[jn,hc,h1,h2]
  ·obtain⟨vs,h1,r,h2,k⟩:=w
   rename_i b hc;refine Tm.of (a:=r) (fun n=>?_) k
   simp[jn,hc,iop,h1,h2,E0]
  ·exact w.elim
 case h_3 =>
  obtain⟨c,h1,a,h2,b,h3,⟨rfl,k⟩|⟨rfl,k⟩⟩:=w
  ·exact Tm.of (a:=(a,h)) (fun n=>by simp[jn,iop,h1,h2]) k
  ·exact Tm.of (a:=(b,h)) (fun n=>by simp[jn,iop,h1,h3]) k
 case h_11 =>
  obtain⟨x,h1,k⟩:=w;split at k;·obtain⟨v,h2,k⟩:=k;exact Tm.of (a:=(v,h)) (fun n=>by simp[jn,iop,h1,h2]) k
  ·exact k.elim
 case h_12 =>
  obtain⟨x,h1,y,h2,k⟩:=w;split at k;·exact Tm.of2 k fun n=>by simp[jn,iop,h1,h2]
  ·exact k.elim
 case h_9 =>
  obtain⟨x,h1,f,h2,⟨b,o⟩,h3,n,h4,h5,k⟩:=w
  refine Tm.of2 k fun m=>?_
  have h6:(n == 0)=false:=by simpa using h5
  simp[jn,iop,h1,h2,h3,h4,E0,h6]
 case h_14 =>
  obtain⟨r,h1,k⟩:=w;refine Tm.of2 (a:=r.1) (b:=r.2) k fun n=>?_;unfold jn;split;·simp_all
  ·exact h1
 all_goals
  simp only[Ex] at w;first
   | (obtain⟨a,h1,b,h2,c,h3,k⟩:=w;exact Tm.of2 k fun n=>by simp[jn,iop,h1,h2,h3,E0])
   | (obtain⟨a,h1,b,h2,k⟩:=w;exact Tm.of2 k fun n=>by simp[jn,iop,h1,h2,E0])
   | (obtain⟨a,h1,k⟩:=w;exact Tm.of2 k fun n=>by simp[jn,iop,h1,E0])
def gX (nt:Nat) (fr:Fr) (dst:Option Tmp) (v:QQ) (K:Fr→Prop):Prop :=
 match dst with
 | none=>K fr
 | some d=>Br (Nat.blt d nt) (K ((d,v) :: fr)) False
variable {nt:Nat}
def oG {dst:Option Tmp} {v:QQ} {K:Fr→Prop} (w:gX nt fr dst v K) : ∃fr',ue nt fr dst v=some fr'∧K fr':=by
 unfold gX at w;split at w;·exact⟨_,rfl,w⟩
 ·rename_i d
  simp only[ue];cases hb:Nat.blt d nt<;>simp[hb] at w ⊢;exact w
def wpOps (P:QX) (nt:Nat) (all:List Oper):List Oper→Fr→IH→(Fr→IH→Prop)→Prop
 | [],fr,h,K=>K fr h
 | o :: l,fr,h,K=>match o.guard with
  | none=>wpOp P o.op fr h fun v h=>gX nt fr o.dst v fun fr=>wpOps P nt all l fr h K
  | some (j,want)=>Ex ((all[j]?).bind (·.dst)) fun d=>Ex (ax fr d) fun b=>match b with
   | .bool b=>Br (b == want) (wpOp P o.op fr h fun v h=>gX nt fr o.dst v fun fr=>wpOps P nt all l fr h K) (gX nt fr o.dst undef fun fr=>wpOps P nt all l fr h K)
   | .tuple _=>gX nt fr o.dst undef fun fr=>wpOps P nt all l fr h K
   | _=>False
variable {all:List Oper}
def vv {o:Oper} {K:Fr→IH→Prop} (hw:dW all o fr=some true)(w:wpOp P o.op fr h fun v h=>gX nt fr o.dst v fun fr=>K fr h):Tm (fun n=>iC (E0 P) (fP (E0 P) n) nt all o fr h) fun p=>K p.1 p.2:=by obtain⟨⟨v,h1⟩,⟨N,hN⟩,k⟩:=Kq w;obtain⟨fr',hp,k⟩:=oG k;exact⟨(fr',h1),⟨N,fun n hn=>by simp[iC,hw,hN n hn,hp]⟩,k⟩
def uq : ∀{l:List Oper} {fr:Fr} {h:IH} {K:Fr→IH→Prop},wpOps P nt all l fr h K → Tm (fun n=>lC (E0 P) (fP (E0 P) n) nt all l fr h) fun p=>K p.1 p.2
 | [],fr,h,K,w=>Tm.of (a:=(fr,h)) (fun _=>rfl) w
 | o :: l,fr,h,K,w=>by
  have fin (s:Tm (fun n=>iC (E0 P) (fP (E0 P) n) nt all o fr h) fun p=>wpOps P nt all l p.1 p.2 K):Tm (fun n=>lC (E0 P) (fP (E0 P) n) nt all (o :: l) fr h) fun p=>K p.1 p.2 :=
   Tm.bind (fun p n=>lC (E0 P) (fP (E0 P) n) nt all l p.1 p.2) (s.mono fun _ x=>uq x) fun n a ha=>by simp[lC,ha]
  unfold wpOps at w;split at w;·rename_i hg;exact fin (vv (by simp[dW,hg]) w)
  ·rename_i j want hg;obtain⟨d,h1,b,h2,w⟩:=w;split at w
   ·rename_i b;unfold Br at w;split at w
    ·rename_i hb;exact fin (vv (by simp[dW,hg,h1,h2,eq_of_beq hb]) w)
    ·rename_i hb;obtain⟨fr',hp,k⟩:=oG w;refine fin (Tm.of (a:=(fr',h)) (fun n=>?_) k);have hb':(b == want)=false:=by simpa using hb
     simp[iC,dW,hg,h1,h2,hb',hp]
   ·obtain⟨fr',hp,k⟩:=oG w;refine fin (Tm.of (a:=(fr',h)) (fun n=>?_) k);simp[iC,dW,hg,h1,h2,hp]
   ·exact w.elim
def fL (P:QX) (nt:Nat) (all:List Oper):List Oper→Fr→IH→List (Fr×IH)→(List (Fr×IH)→Prop)→Prop
 | [],fr,h,tr,K=>K (tr ++ [(fr,h)])
 | o :: l,fr,h,tr,K=>match o.guard with
  | none=>wpOp P o.op fr h fun v h1=>gX nt fr o.dst v fun fr1=>fL P nt all l fr1 h1 (tr ++ [(fr,h)]) K
  | some (j,want)=>Ex ((all[j]?).bind (·.dst)) fun d=>Ex (ax fr d) fun b=>match b with
   | .bool b=>Br (b == want) (wpOp P o.op fr h fun v h1=>gX nt fr o.dst v fun fr1=>fL P nt all l fr1 h1 (tr ++ [(fr,h)]) K)
     (gX nt fr o.dst undef fun fr1=>fL P nt all l fr1 h (tr ++ [(fr,h)]) K)
   | .tuple _=>gX nt fr o.dst undef fun fr1=>fL P nt all l fr1 h (tr ++ [(fr,h)]) K
   | _=>False
def wu : ∀{l:List Oper} {fr:Fr} {h:IH} {tr:List (Fr×IH)} {K:List (Fr×IH)→Prop},fL P nt all l fr h tr K → Tm (fun n=>trace (E0 P) (fP (E0 P) n) nt all l fr h) fun t=>K (tr ++ t)
 | [],fr,h,tr,K,w=>Tm.of (a:=[(fr,h)]) (fun _=>rfl) w
 | o :: l,fr,h,tr,K,w=>by
  have fin (s:Tm (fun n=>iC (E0 P) (fP (E0 P) n) nt all o fr h) fun p=>fL P nt all l p.1 p.2 (tr ++ [(fr,h)]) K):Tm (fun n=>trace (E0 P) (fP (E0 P) n) nt all (o :: l) fr h) fun t=>K (tr ++ t):=by
   refine Tm.bind (fun p n=>(trace (E0 P) (fP (E0 P) n) nt all l p.1 p.2).map ((fr,h) :: ·)) (s.mono fun p x=>?_) fun n a ha=>by simp[trace,ha]
   obtain⟨t,⟨N,hN⟩,k⟩:=wu x;exact⟨(fr,h) :: t,⟨N,fun n hn=>by simp[hN n hn]⟩,by simpa using k⟩
  unfold fL at w;split at w;·rename_i hg;exact fin (vv (K:=fun fr1 h1=>fL P nt all l fr1 h1 (tr ++ [(fr,h)]) K) (by simp[dW,hg]) w)
  ·rename_i j want hg;obtain⟨d,h1,b,h2,w⟩:=w;split at w
   ·rename_i b;unfold Br at w;split at w
    ·rename_i hb;exact fin (vv (K:=fun fr1 h1=>fL P nt all l fr1 h1 (tr ++ [(fr,h)]) K) (by simp[dW,hg,h1,h2,eq_of_beq hb]) w)
    ·rename_i hb;obtain⟨fr',hp,k⟩:=oG w;refine fin (Tm.of (a:=(fr',h)) (fun n=>?_) k);have hb':(b == want)=false:=by simpa using hb
     simp[iC,dW,hg,h1,h2,hb',hp]
   ·obtain⟨fr',hp,k⟩:=oG w;refine fin (Tm.of (a:=(fr',h)) (fun n=>?_) k);simp[iC,dW,hg,h1,h2,hp]
   ·exact w.elim
def fM (P:QX) (ops:List Oper) (tr:List (Fr×IH)):List (Nat×List Nat)→Prop
 | []=>True
 | e :: l=>(match ops[e.1]?,tr[e.1]? with
  | some o,some (fr,h)=>match dW ops o fr with
   | some true => ∀p∈e.2,match tr[p]? with
    | some (_,h')=>jS P fr o.op h h'=true
    | none=>False
   | _=>True
  | _,_=>False)∧fM P ops tr l
def uo {ops:List Oper} {tr:List (Fr×IH)} : ∀{l:List (Nat×List Nat)},fM P ops tr l→steady P ops tr l=true
 | [],_=>rfl
 | e :: l,w=>by
  unfold fM at w;obtain⟨w1,w2⟩:=w;have:=uo w2;simp only[steady,List.all_cons,fK] at this ⊢;refine⟨?_,this⟩;split at w1
  ·rename_i o fr h ho ht;simp only[ho,ht];split at w1
   ·rename_i hw;simp only[hw,ji];intro p hp;have:=w1 p hp;split at this
    ·rename_i h' hh;simp[hh,this]
    ·exact this.elim
   ·rename_i hne;split
    ·rename_i heq;exact absurd heq hne
    ·rfl
  ·exact w1.elim
def Kv (tr:List (Fr×IH)) (n:Nat) (K:Fr→IH→Prop):Prop:=Ex tr[n]? fun p=>K p.1 p.2
def Bl (P:QX) (fn:FuncId) (nt:Nat) (rd:Option Nat) (b:Code) (fr:Fr) (h:IH) (Q:dL→Fr→IH→Prop):Prop :=
 Tm (fun n=>evC (E0 P) (fP (E0 P) n) fn nt rd n (.loop b) fr h) fun p=>Q p.1 p.2.1 p.2.2
@[congr] theorem Wj {P:QX} {fn:FuncId} {nt:Nat} {rd:Option Nat} {b:Code} {fr fr':Fr} {h h':IH} {Q:dL→Fr→IH→Prop} (e1:fr=fr') (e2:h=h'):Bl P fn nt rd b fr h Q=Bl P fn nt rd b fr' h' Q:=by rw[e1,e2]
def vg (P:QX) (fn:FuncId) (nt:Nat) (rd:Option Nat) (f:Operand) (ps:Array Tmp) (a b:Code) (fr:Fr) (h:IH) (Q:dL→Fr→IH→Prop):Prop :=
 Tm (fun n=>ot (E0 P) (fP (E0 P) n) fn nt rd f ps.toList a b fr h) fun p=>Q p.1 p.2.1 p.2.2
@[congr] theorem Vf {P:QX} {fn:FuncId} {nt:Nat} {rd:Option Nat} {f:Operand} {ps:Array Tmp} {a b:Code} {fr fr':Fr} {h h':IH} {Q:dL→Fr→IH→Prop} (e1:fr=fr') (e2:h=h') :
  vg P fn nt rd f ps a b fr h Q=vg P fn nt rd f ps a b fr' h' Q:=by rw[e1,e2]
def My (P:QX) (nt:Nat) (ops:List Oper) (fr:Fr) (h:IH) (K:Fr→IH→Prop):Prop :=
 tz ops=true∧fL P nt ops ops fr h [] fun tr=>fM P ops tr (Fi ops)∧Kv tr ops.length K
def wpC (P:QX) (fn:FuncId) (nt:Nat) (rd:Option Nat):Code→Fr→IH→(dL→Fr→IH→Prop)→Prop
 | .skip,fr,h,Q=>Q .normal fr h
 | .label _,fr,h,Q=>Q .normal fr h
 | .region _ ops draw,fr,h,Q=>match draw with
  | false=>wpOps P nt ops.toList ops.toList fr h (Q .normal)
  | true=>(jP ops.toList=true→wpOps P nt ops.toList ops.toList fr h (Q .normal))∧(jP ops.toList=false→My P nt ops.toList fr h (Q .normal))
 | .seq a b,fr,h,Q=>wpC P fn nt rd a fr h fun e fr h=>match e with
  | .normal=>wpC P fn nt rd b fr h Q
  | .exit i=>Q (.exit i) fr h
  | .ret=>Q .ret fr h
 | .cond c a b,fr,h,Q=>Ex (opd fr c) fun c=>match c with
  | .bool c=>Br c (wpC P fn nt rd a fr h Q) (wpC P fn nt rd b fr h Q)
  | _=>False
 | .block id b,fr,h,Q=>wpC P fn nt rd b fr h fun e fr h=>match e with
  | .exit i=>Br (i == id) (Q .normal fr h) (Q (.exit i) fr h)
  | .normal=>Q .normal fr h
  | .ret=>Q .ret fr h
 | .loop b,fr,h,Q=>Bl P fn nt rd b fr h Q
 | .scope b,fr,h,Q=>wpC P fn nt rd b fr h Q
 | .rangeFunc f ps a b,fr,h,Q=>vg P fn nt rd f ps a b fr h Q
 | .exit i,fr,h,Q=>Q (.exit i) fr h
 | .ret,fr,h,Q=>Q .ret fr h
 | .goto _,_,_,_=>False
 | .refuse _,_,_,_=>False
abbrev TmC (P:QX) (fn:FuncId) (nt:Nat) (rd:Option Nat) (c:Code) (fr:Fr) (h:IH) (Q:dL→Fr→IH→Prop):Prop :=
 Tm (fun n=>evC (E0 P) (fP (E0 P) n) fn nt rd n c fr h) fun p=>Q p.1 p.2.1 p.2.2
def Hr (P:QX) (fn:FuncId) (id:Nat) (fr:Fr):od (E0 P) fn id fr=fr:=rfl
def iR {fn:FuncId} {rd:Option Nat} : ∀{c:Code} {fr:Fr} {h:IH} {Q:dL→Fr→IH→Prop},wpC P fn nt rd c fr h Q→TmC P fn nt rd c fr h Q
 | .skip,fr,h,Q,w=>Tm.of (a:=(.normal,fr,h)) (fun _=>rfl) w
 | .label _,fr,h,Q,w=>Tm.of (a:=(.normal,fr,h)) (fun _=>rfl) w
 | .region id ops draw,fr,h,Q,w=>by
  cases draw with
  | false =>
   obtain⟨p,⟨N,h1⟩,k⟩:=uq w;exact⟨(.normal,p.1,p.2),⟨N,fun n hn=>by have:=h1 n hn;simp[evC,Hr,this]⟩,k⟩
  | true =>
   cases hc:jP ops.toList with
   | true =>
    obtain⟨p,⟨N,h1⟩,k⟩:=uq (w.1 hc);exact⟨(.normal,p.1,p.2),⟨N,fun n hn=>by have:=El hc (h1 n hn);simp[evC,Hr,this]⟩,k⟩
   | false =>
    obtain⟨ho,w⟩:=w.2 hc;obtain⟨tr,⟨N,h1⟩,hs,p,hp,k⟩:=wu w;refine⟨(.normal,p.1,p.2),⟨N,fun n hn=>?_⟩,k⟩;have h2:=h1 n hn;simp only[kG,mc] at hs hp;simp only at h2;have hs2:=CG h2 (uo hs);simp[evC,Hr,oH,h2,ho,show(E0 P).P=P from rfl,show steady P ops.toList tr (Eo ops.toList)=true from hs2,hp]
 | .seq a b,fr,h,Q,w=>by
  have w1:=iR (c:=a) w;obtain⟨⟨e,fr1,h1⟩,⟨N,hN⟩,k⟩:=w1;cases e with
  | normal =>
   obtain⟨r,⟨M,hM⟩,k⟩:=iR (c:=b) k;refine⟨r,⟨max N M,fun n hn=>?_⟩,k⟩;have e1:=hN n (bV (Cb _ _) hn);have e2:=hM n (bV (Ca _ _) hn);simp[evC,e1,e2]
  | exit i=>exact⟨(.exit i,fr1,h1),⟨N,fun n hn=>by have:=hN n hn;simp[evC,this]⟩,k⟩
  | ret=>exact⟨(.ret,fr1,h1),⟨N,fun n hn=>by have:=hN n hn;simp[evC,this]⟩,k⟩
 | .cond c a b,fr,h,Q,w=>by
  obtain⟨v,hv,w⟩:=w;split at w
  ·rename_i c;cases c with
   | true =>
    obtain⟨r,⟨M,hM⟩,k⟩:=iR (c:=a) (by simpa using w);exact⟨r,⟨M,fun n hn=>by have:=hM n hn;simp[evC,hv,this]⟩,k⟩
   | false =>
    obtain⟨r,⟨M,hM⟩,k⟩:=iR (c:=b) (by simpa using w);exact⟨r,⟨M,fun n hn=>by have:=hM n hn;simp[evC,hv,this]⟩,k⟩
  ·exact w.elim
 | .block id b,fr,h,Q,w=>by
  obtain⟨⟨e,fr1,h1⟩,⟨N,hN⟩,k⟩:=iR (c:=b) w;cases e with
  | normal=>exact⟨(.normal,fr1,h1),⟨N,fun n hn=>by have:=hN n hn;simp[evC,this]⟩,k⟩
  | ret=>exact⟨(.ret,fr1,h1),⟨N,fun n hn=>by have:=hN n hn;simp[evC,this]⟩,k⟩
  | exit i =>
   cases hi:(i == id) with
   | true=>exact⟨(.normal,fr1,h1),⟨N,fun n hn=>by have:=hN n hn;simp[evC,this,hi]⟩,by simpa [hi] using k⟩
   | false=>exact⟨(.exit i,fr1,h1),⟨N,fun n hn=>by have:=hN n hn;simp[evC,this,hi]⟩,by simpa [hi] using k⟩
 | .loop b,fr,h,Q,w=>w
 | .scope b,fr,h,Q,w=>by obtain⟨r,⟨M,hM⟩,k⟩:=iR (c:=b) w;exact⟨r,⟨M,fun n hn=>by have:=hM n hn;simp[evC,this]⟩,k⟩
 | .rangeFunc f ps a b,fr,h,Q,w=>Tm.congr w fun n=>by simp[evC]
 | .exit i,fr,h,Q,w=>Tm.of (a:=(.exit i,fr,h)) (fun _=>rfl) w
 | .ret,fr,h,Q,w=>Tm.of (a:=(.ret,fr,h)) (fun _=>rfl) w
 | .goto _,_,_,_,w=>w.elim
 | .refuse _,_,_,_,w=>w.elim
end
section
@[simp] theorem ZX (t:Nat):ax [] t=none:=rfl
@[simp] theorem sf (s:Nat) (v:QQ) (r:Fr) (t:Nat):ax ((s,v) :: r) t=if s=t then some v else ax r t:=by simp[ax,aX]
@[simp] theorem Nh (fr:Fr) (t:Nat):opd fr (.tmp t)=ax fr t:=rfl
@[simp] theorem IZ (fr:Fr) (f:FuncId):opd fr (.func f)=some (.func (.func f) #[] #[]):=rfl
theorem C7 (fr:Fr) (g:Nat) (h:g<4294967296):opd fr (.global g)=some (ptr (2*g+1) 0):=by
 have:Nat.blt g 4294967296=true:=by simp only[Nat.blt,ch];exact h
 simp only[opd,this,cg];rfl
@[simp] theorem wJ (fr:Fr) (k:IntKind) (n:Int):opd fr (.const (.int k n))=some (.int k n):=rfl
@[simp] theorem uM (fr:Fr) (b:Bool):opd fr (.const (.bool b))=some (.bool b):=rfl
@[simp] theorem rN (fr:Fr) (b:ByteArray):opd fr (.const (.string b))=some (.string b):=rfl
@[simp] theorem qN (fr:Fr):opd fr (.const .nilFunc)=some .nilFunc:=rfl
@[simp] theorem qi (fr:Fr):opd fr (.const (.slice none 0 0))=some (.slice none 0 0):=rfl
@[simp] theorem rO (fr:Fr):opd fr (.const (.pointer none))=some (.pointer none):=rfl
@[simp] theorem rP (fr:Fr):opd fr (.const (.map none))=some (.map none):=rfl
@[simp] theorem IX (fr:Fr):nV fr []=some []:=rfl
@[simp] theorem Fm (fr:Fr) (x:QY) (l:List QY):nV fr (x :: l)=(opd fr x).bind fun v=>(nV fr l).map (v :: ·):=by simp only[nV];cases opd fr x<;>cases nV fr l<;>rfl
@[simp] theorem AT (fr:Fr):partsOf fr []=some []:=rfl
@[simp] theorem yI (fr:Fr) (i:Nat) (x:QY) (l:List (Nat×QY)):partsOf fr ((i,x) :: l)=(opd fr x).bind fun v=>(partsOf fr l).map ((i,v) :: ·):=by simp only[partsOf];cases opd fr x<;>cases partsOf fr l<;>rfl
@[simp] theorem AV (fr:Fr):iF fr none=some none:=rfl
@[simp] theorem AU (fr:Fr) (x:QY):iF fr (some x)=(opd fr x).map some:=rfl
@[simp] theorem Ba (i:Nat):nj i [] = []:=rfl
@[simp] theorem y9 (i:Nat) (v:QQ) (l:List QQ):nj i (v :: l)=(i,v) :: nj (i+1) l:=rfl
@[simp] theorem Wp (nt:Nat) (fr:Fr) (v:QQ) (K:Fr→Prop):gX nt fr none v K=K fr:=rfl
@[simp] theorem Kp (nt:Nat) (fr:Fr) (d:Nat) (v:QQ) (K:Fr→Prop) (hd:d<nt):gX nt fr (some d) v K=K ((d,v) :: fr):=by
 have:Nat.blt d nt=true:=by simp only[Nat.blt,ch];exact hd
 simp[gX,this]
@[congr] theorem Vm {nt:Nat} {fr fr':Fr} {d:Option Tmp} {v v':QQ} {K:Fr→Prop} (a:fr=fr') (b:v=v'):gX nt fr d v K=gX nt fr' d v' K:=by rw[a,b]
@[congr] theorem Vn {P:QX} {nt:Nat} {all l:List Oper} {fr fr':Fr} {h h':IH} {K:Fr→IH→Prop} (a:fr=fr') (b:h=h'):wpOps P nt all l fr h K=wpOps P nt all l fr' h' K:=by rw[a,b]
@[congr] theorem Tv {P:QX} {nt:Nat} {all l:List Oper} {fr fr':Fr} {h h':IH} {tr:List (Fr×IH)} {K:List (Fr×IH)→Prop} (a:fr=fr') (b:h=h'):fL P nt all l fr h tr K=fL P nt all l fr' h' tr K:=by rw[a,b]
@[congr] theorem Wq {P:QX} {o:Op} {fr fr':Fr} {h h':IH} {K:QQ→IH→Prop} (a:fr=fr') (b:h=h'):wpOp P o fr h K=wpOp P o fr' h' K:=by rw[a,b]
@[congr] theorem Yh {P:QX} {fn:FuncId} {nt:Nat} {rd:Option Nat} {c:Code} {fr fr':Fr} {h h':IH} {Q:dL→Fr→IH→Prop} (a:fr=fr') (b:h=h'):wpC P fn nt rd c fr h Q=wpC P fn nt rd c fr' h' Q:=by rw[a,b]
section
variable (P:QX) (fr:Fr) (h:IH) (K:QQ→IH→Prop)
theorem Ok (c a b:QY):wpOp P (.pick c a b) fr h K=Ex (opd fr c) fun c=>Ex (opd fr a) fun a=>Ex (opd fr b) fun b=>c=.bool true∧K a h∨c=.bool false∧K b h:=rfl
def fieldAt (P:QX) (t:QZ) (f:Nat):Option Nat:=(mZ P t f).bind fun d=>(bK P d.type).bind fun n=>if n=0 then none else some d.offset
theorem Cs (t:QZ) (x:QY) (f:Nat):wpOp P (.fieldAddr t x f) fr h K=Ex (opd fr x) fun x=>Ex (asAddr x) fun a=>Ex (fieldAt P t f) fun off=>K (ptr a.1 (a.2+off)) h:=by
 simp only[wpOp,fieldAt,Ex,eq_iff_iff];constructor
 ·rintro⟨x,h1,d,h2,a,h3,n,h4,h5,k⟩
  exact⟨x,h1,a,h3,d.offset,by simp[h2,h4,h5],k⟩
 ·rintro⟨x,h1,a,h3,off,h2,k⟩
  cases hd:mZ P t f with
  | none=>simp[hd] at h2
  | some d =>
   cases hn:bK P d.type with
   | none=>simp[hd,hn] at h2
   | some n =>
    simp only[hd,hn,kD] at h2;split at h2;·cases h2
    ·rename_i h0;cases h2;exact⟨x,h1,d,rfl,a,h3,n,hn,h0,k⟩
def Vi {α β:Type} (o:Option α) (f:α→Option β) (K:β→Prop):Ex (o.bind f) K=Ex o fun v=>Ex (f v) K:=by cases o<;>simp[Ex]
def Oj (op:UnOp) (t:QZ) (x:QY):wpOp P (.unOp op t x) fr h K=Ex (opd fr x) fun v=>Ex (bif plain v then fb P (Op.unary op v) else none) fun v=>K v h:=by
 show Ex (iop P fr (.unOp op t x) h) _=_;simp only[iop];cases opd fr x with
 | none=>simp
 | some v=>cases hp:plain v<;>simp[hp]
def zg (P:QX) (s d:QZ) (v:QQ):Option QQ:=bif plain v then fb P (Go.convert s d v) else none
def GC (s d:QZ) (x:QY):wpOp P (.convert s d x) fr h K=Ex (opd fr x) fun v=>Ex (zg P s d v) fun v=>K v h:=by
 show Ex (iop P fr (.convert s d x) h) _=_;simp only[iop,zg];cases opd fr x with
 | none=>simp
 | some v=>cases hp:plain v<;>simp[hp]
def Cr (t:QZ) (l c:QY):wpOp P (.makeSlice t l c) fr h K=Ex (opd fr l) fun l=>Ex (opd fr c) fun c=>Ex (makeSlice P h t l c) fun r=>K r.1 r.2:=by show Ex (iop P fr (.makeSlice t l c) h) _=_;simp only[iop];cases opd fr l<;>cases opd fr c<;>simp
def Bp (t:QZ) (n:Nat) (ps:Array (Nat×QY)):wpOp P (.buildSlice t n ps) fr h K=Ex (partsOf fr ps.toList) fun ps=>Ex (buildSlice P h t n ps) fun r=>K r.1 r.2:=by show Ex (iop P fr (.buildSlice t n ps) h) _=_;simp only[iop];cases partsOf fr ps.toList<;>simp
def Kr (t:QZ) (x:QY) (lo hi mx:Option QY):wpOp P (.slice t x lo hi mx) fr h K=Ex (opd fr x) fun x=>Ex (iF fr lo) fun lo=>Ex (iF fr hi) fun hi=>Ex (iF fr mx) fun mx=>Ex (dE P h t x lo hi mx) fun v=>K v h:=by
 show Ex (iop P fr (.slice t x lo hi mx) h) _=_;simp only[iop];cases opd fr x with
 | none=>simp
 | some x=>cases iF fr lo with
  | none=>simp
  | some lo=>cases iF fr hi with
   | none=>simp
   | some hi=>cases iF fr mx<;>simp
def iP (P:QX) (t:QZ) (ps:List (Nat×QQ)):Option QQ :=
 (bC P t).bind fun z=>bif dZ P t then (eK (placeOf P t) z ps).map fun cs=>.agg cs.toArray else none
def Ku (t:QZ) (ps:Array (Nat×QY)):wpOp P (.build t ps) fr h K=Ex (partsOf fr ps.toList) fun ps=>Ex (iP P t ps) fun v=>K v h:=by show Ex (iop P fr (.build t ps) h) _=_;simp only[iop,iP];cases bC P t<;>cases partsOf fr ps.toList<;>cases dZ P t<;>simp
def xT (P:QX) (t:QZ) (f:Nat) (x:QQ):Option QQ :=
 match x with
 | .agg cs=>(mZ P t f).bind fun d=>partOf P d.type cs d.offset
 | _=>none
def Kt (t:QZ) (x:QY) (f:Nat):wpOp P (.field t x f) fr h K=Ex (opd fr x) fun x=>Ex (xT P t f x) fun v=>K v h:=by
 show Ex (iop P fr (.field t x f) h) _=_;simp only[iop];cases hx:opd fr x with
 | none=>simp
 | some v =>
  cases v<;>(try (simp[xT];done));cases hf:mZ P t f with
  | none=>simp[xT,hf]
  | some d=>simp[xT,hf]
theorem D8 (x:QY):wpOp P (.nilCheck x) fr h K=Ex (opd fr x) fun x=>match x with
  | .pointer (some a)=>K (.pointer (some a)) h
  | .func (.func f) xs ys=>K (.func (.func f) xs ys) h
  | .func (.yield f) xs ys=>K (.func (.yield f) xs ys) h
  | .map r=>K (.map r) h
  | _=>False:=by
 show Ex (iop P fr (.nilCheck x) h) _=_;simp only[iop];cases hx:opd fr x with
 | none=>simp
 | some v =>
  cases v with
  | pointer a=>cases a<;>simp
  | func f xs ys=>cases f<;>simp
  | _=>simp
def HV (t:QZ) (m k:QY) (ok:Bool):wpOp P (.lookup t m k ok) fr h K=Ex (opd fr m) fun m=>Ex (opd fr k) fun k=>Ex (lookup P h t m k ok) fun v=>K v h:=by show Ex (iop P fr (.lookup t m k ok) h) _=_;simp only[iop];cases opd fr m<;>cases opd fr k<;>simp
def ur (t:QZ) (m k v:QY):wpOp P (.mapUpdate t m k v) fr h K=Ex (opd fr m) fun m=>Ex (opd fr k) fun k=>Ex (opd fr v) fun v=>Ex (mapUpdate P h t m k v) fun h=>K undef h:=by show Ex (iop P fr (.mapUpdate t m k v) h) _=_;simp only[iop];cases opd fr m<;>cases opd fr k<;>cases opd fr v<;>simp
def HW (t:QZ) (m k v:QY):wpOp P (.insert t m k v) fr h K=Ex (opd fr m) fun m=>Ex (opd fr k) fun k=>Ex (opd fr v) fun v=>Ex (mapUpdate P h t m k v) fun h=>K undef h:=ur P fr h K t m k v
def GB (t:QZ):wpOp P (.makeMap t none) fr h K=K (.map (some (2*h.n))) (h.new (.map [])):=by show Ex (iop P fr (.makeMap t none) h) _=_;simp[iop]
def uS (P:QX) (t:QZ) (x i:QQ):Option QQ :=
 match x with
 | .agg cs=>match P.underlying t,idxOf i with
   | some (.array n e),some (.ofNat j)=>bif Nat.blt j n then (bK P e).bind fun size=>partOf P e cs (j*size) else none
   | _,_=>none
 | .string s=>bif plain i then fb P (Instr.index t (.string s) i) else none
 | _=>none
def Ks (t:QZ) (x i:QY):wpOp P (.index t x i) fr h K=Ex (opd fr x) fun x=>Ex (opd fr i) fun i=>Ex (uS P t x i) fun v=>K v h:=by
 show Ex (iop P fr (.index t x i) h) _=_;simp only[iop];cases hx:opd fr x with
 | none=>simp
 | some v =>
  cases hi:opd fr i with
  | none=>cases v<;>simp
  | some i =>
   cases v<;>(try (simp[uS];done));·simp only[uS,HN];cases hp:plain i<;>simp[]
   ·rename_i cs;simp only[uS,HN];cases hu:P.underlying t with
    | none=>simp
    | some d =>
     cases hi':idxOf i with
     | none=>cases d<;>simp
     | some z =>
      cases d<;>(try (simp;done));cases z with
      | negSucc z=>simp
      | ofNat j =>
       rename_i n e;simp only;cases hb:Nat.blt j n<;>simp;cases bK P e<;>simp
end
section
variable (P:QX) (t:QZ) (ox oy:QY) (k:IntKind) (a b:Int)
def gf {op:BinOp} {x y v:QQ} (hx:plain x=true) (hy:plain y=true) (hv:plain v=true) (hr:aI P (do eqGuard op t ox oy x y;Go.binOp op t x y)=some v):binop P op t ox oy x y=some v:=by simp[binop,hx,hy,fb,hr,hv]
@[simp] theorem Ga:binop P .add t ox oy (.int k a) (.int k b)=some (.int k (k.wrap (a+b))) :=
 gf P t ox oy rfl rfl rfl (by simp[eqGuard,Go.binOp,Op.intArith];rfl)
@[simp] theorem F0:binop P .sub t ox oy (.int k a) (.int k b)=some (.int k (k.wrap (a - b))) :=
 gf P t ox oy rfl rfl rfl (by simp[eqGuard,Go.binOp,Op.intArith];rfl)
@[simp] theorem F4:binop P .mul t ox oy (.int k a) (.int k b)=some (.int k (k.wrap (a*b))) :=
 gf P t ox oy rfl rfl rfl (by simp[eqGuard,Go.binOp,Op.intArith];rfl)
@[simp] theorem F9:binop P .eql t ox oy (.int k a) (.int k b)=some (.bool (a == b)) :=
 gf P t ox oy rfl rfl rfl (by simp[eqGuard,Go.binOp,Op.intCmp];rfl)
@[simp] theorem F3:binop P .neq t ox oy (.int k a) (.int k b)=some (.bool (a != b)) :=
 gf P t ox oy rfl rfl rfl (by simp[eqGuard,Go.binOp,Op.intCmp];rfl)
@[simp] theorem F5:binop P .lss t ox oy (.int k a) (.int k b)=some (.bool (decide (a<b))) :=
 gf P t ox oy rfl rfl rfl (by simp[eqGuard,Go.binOp,Op.intCmp];rfl)
@[simp] theorem F6:binop P .leq t ox oy (.int k a) (.int k b)=some (.bool (decide (a≤b))) :=
 gf P t ox oy rfl rfl rfl (by simp[eqGuard,Go.binOp,Op.intCmp];rfl)
@[simp] theorem F7:binop P .gtr t ox oy (.int k a) (.int k b)=some (.bool (decide (b<a))) :=
 gf P t ox oy rfl rfl rfl (by simp[eqGuard,Go.binOp,Op.intCmp];rfl)
@[simp] theorem F8:binop P .geq t ox oy (.int k a) (.int k b)=some (.bool (decide (b≤a))) :=
 gf P t ox oy rfl rfl rfl (by simp[eqGuard,Go.binOp,Op.intCmp];rfl)
end
end
end Go.Id

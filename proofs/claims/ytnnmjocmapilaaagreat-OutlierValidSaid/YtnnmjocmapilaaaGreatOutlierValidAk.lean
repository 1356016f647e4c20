/-
  The ideal machine: rounds of loops over functions
-/
import Derived.Test.YtnnmjocmapilaaaGreatOutlierValidAj
import Derived.RowKit3
set_option linter.unusedVariables false
set_option linter.unusedSimpArgs false
set_option linter.defProp false
set_option linter.deprecated false
namespace Go.Id
open Go Go.RowKit
theorem sJ {m:Mp} {nt:Nat} : ∀(ps:List Nat) (vs:List Value) (vs':List Value) (fr fr':Fr) (tmps:Array Value),dQ nt ps vs fr=some fr'→bm m vs vs'→dG m fr tmps→nt≤tmps.size →
  ps.length=vs.length∧dG m fr' ((ps.zip vs').foldl (fun tmps (x:Nat×Value)=>tmps.setIfInBounds x.1 x.2) tmps)∧nt≤((ps.zip vs').foldl (fun tmps (x:Nat×Value)=>tmps.setIfInBounds x.1 x.2) tmps).size
 | [],[],vs',fr,fr',tmps,h,hL,hf,ht=>by
  simp only[dQ] at h;cases h
  exact⟨rfl,hf,ht⟩
 | t :: ps,v :: vs,[],fr,fr',tmps,h,hL,hf,ht=>by have:=hL.1;simp at this
 | t :: ps,v :: vs,v' :: vs',fr,fr',tmps,h,hL,hf,ht=>by
  rw[dQ] at h
  split at h
  ·rename_i fr1 hp
   obtain⟨h1,h2⟩:=qU hp hf ht (hL.2 0 v v' rfl rfl)
   have hL':bm m vs vs':=⟨by have:=hL.1;simpa using this,fun i x x' a b=>hL.2 (i+1) x x' (by simpa using a) (by simpa using b)⟩
   obtain⟨a,b,c⟩:=sJ ps vs vs' fr1 fr' (tmps.setIfInBounds t v') h hL' h1 h2
   exact⟨by simp[a],b,c⟩
  ·cases h
 | [],_ :: _,_,_,_,_,h,_,_,_=>by simp[dQ] at h
 | _ :: _,[],_,_,_,_,h,_,_,_=>by simp[dQ] at h
theorem lD.busy {m:Mp} {l:gT} {l':Loop} (h:lD m l l') (st:LoopState) (p:Option Code):lD m { l with state:=st,pending:=p } { l' with state:=st,pending:=p } :=
 ⟨rfl,rfl,h.fn,h.tmps,h.nt,h.params,h.assign,h.body⟩
theorem lD.Wa {m:Mp} {l:gT} {l':Loop} (h:lD m l l') (st:LoopState):lD m { l with state:=st } { l' with state:=st } :=
 ⟨rfl,h.pending,h.fn,h.tmps,h.nt,h.params,h.assign,h.body⟩
structure Sl (E:Env) (call:a8) (n l:Nat) (args:List Value) (h h':IH) (v:Value) where
 r:gT
 r1:gT
 r2:gT
 fr1:Fr
 fr2:Fr
 fr3:Fr
 h1:IH
 h2:IH
 e:bf
 loop:fj h l=some r
 put:dQ r.nt r.params args r.fr=some fr1
 assign:evC E call r.fn r.nt (some l) n r.assign fr1 h=some (.normal,fr2,h1)
 Vi:fj h1 l=some r1
 ready:r1.state=.ready
 body:evC E call r.fn r.nt (some l) n r.body fr2 { h1 with ext:=h1.ext.set l (.loop { r1 with state:=.busy }) }=some (e,fr3,h2)
 Vh:fj h2 l=some r2
 done:(e=.normal∧v=.bool true∧h' = { h2 with ext:=h2.ext.set l (.loop { r2 with state:=.ready,pending:=none }) }) ∨
  (∃i,e=.exit i∧v=.bool false∧h' = { h2 with ext:=h2.ext.set l (.loop { r2 with state:=.done,pending:=some (.exit i) }) }) ∨
  (e=.ret∧v=.bool false∧h' = { h2 with ext:=h2.ext.set l (.loop { r2 with state:=.done,pending:=some .ret }) })
theorem sS {E:Env} {call:a8} {n l:Nat} {args:List Value} {h h':IH} {v:Value} (hr:dE E call n l args h=some (v,h')):Nonempty (Sl E call n l args h h' v):=by
 unfold dE at hr
 split at hr
 ·cases hr
 ·rename_i r hl
  split at hr
  ·cases hr
  ·rename_i fr1 hp
   split at hr
   ·rename_i fr2 h1 hx
    split at hr
    ·cases hr
    ·rename_i r1 hl1
     simp only[cond_eq_ite,beq_iff_eq] at hr
     split at hr
     ·rename_i hst
      split at hr
      ·cases hr
      ·rename_i e fr3 h2 hy
       split at hr
       ·cases hr
       ·rename_i r2 hl2
        split at hr<;>cases hr
        ·exact⟨⟨r,r1,r2,fr1,fr2,fr3,h1,h2,_,hl,hp,hx,hl1,hst,hy,hl2,.inl ⟨rfl,rfl,rfl⟩⟩⟩
        ·exact⟨⟨r,r1,r2,fr1,fr2,fr3,h1,h2,_,hl,hp,hx,hl1,hst,hy,hl2,.inr (.inl ⟨_,rfl,rfl,rfl⟩)⟩⟩
        ·exact⟨⟨r,r1,r2,fr1,fr2,fr3,h1,h2,_,hl,hp,hx,hl1,hst,hy,hl2,.inr (.inr ⟨rfl,rfl,rfl⟩)⟩⟩
     ·cases hr
   ·cases hr
theorem Hi {E:Env} {call:a8} (cG:dj call) {n l:Nat} {args:List Value} {h h':IH} {v:Value} (hr:dE E call n l args h=some (v,h')):h.n≤h'.n:=by
 obtain⟨Y⟩:=sS hr
 have n1:=sN cG _ _ _ _ _ _ Y.assign
 have n2:=sN cG _ _ _ _ _ _ Y.body
 have n3:h'.n=Y.h2.n:=by rcases Y.done with⟨_,_,e⟩|⟨_,_,_,e⟩|⟨_,_,e⟩<;>exact(congrArg IH.n e).trans rfl
 rw[n3]
 exact Nat.le_trans n1 n2
theorem Be {E:Env} (S:Sound E) {call:a8} (fG:kj E.P call) (cG:dj call) {n l:Nat} {args:List Value} {h h':IH} {v:Value} (hr:dE E call n l args h=some (v,h'))
  {B:Nat} {w0:World} {m:Mp} {w:World} {args':Array Value} (R:Rel B w0 m h w) (fV:bm m args args'.toList) (hfr:eo m h.n h'.n) {r0 s0:Nat} (hm:m (2*l)=some (r0,s0)) :
  ∃f ts a c,(Instr.yield r0 args').run E.P w=.ok (.round r0 f ts a c) w ∧
   ∀(c0:Frame) (cs:List Frame),∃v' m' w',aD m' v v'∧Rel B w0 m' h' w'∧Step m h w m' h' w'∧Steps E.P (lone (Frame.round r0 f ts a c .normal) (c0 :: cs) w) (lone (c0.finish v') cs w'):=by
 obtain⟨Y⟩:=sS hr
 have n1:=sN cG _ _ _ _ _ _ Y.assign
 have n2:=sN cG _ _ _ _ _ _ Y.body
 have n3:h'.n=Y.h2.n:=by rcases Y.done with⟨_,_,e⟩|⟨_,_,_,e⟩|⟨_,_,e⟩<;>exact(congrArg IH.n e).trans rfl
 obtain⟨_,L,hL,jJ⟩:=R.obj _ _ _ _ (gK Y.loop) hm
 obtain⟨p1,p2,p3⟩:=sJ Y.r.params args args'.toList Y.r.fr Y.fr1 L.tmps Y.put fV jJ.tmps jJ.nt
 have hsz:args'.size=L.params.size:=by
  have h1:L.params.size=Y.r.params.length:=by rw[←jJ.params];simp
  have h2:=fV.1
  simp at h2
  omega
 have htm:(L.params.zip args').foldl (fun tmps (x:Tmp×Value)=>tmps.setIfInBounds x.1 x.2) L.tmps=(Y.r.params.zip args'.toList).foldl (fun tmps (x:Nat×Value)=>tmps.setIfInBounds x.1 x.2) L.tmps:=by
  rw[←Array.foldl_toList,Array.toList_zip,jJ.params]
 rw[←htm] at p2 p3
 refine⟨_,_,_,_,run_yield hL hsz,fun c0 cs=>?_⟩
 let b:Frame:={ fn:=L.fn,tmps:=#[],todo:=[],defers:=[],mode:=.run,kind:=.normal,roundOf:=some r0 }
 have hb:b.fn=Y.r.fn:=jJ.fn
 have hx:=Y.assign
 rw[←hb] at hx
 obtain⟨m1,w1,cE,ds1,k1,a1,a2,a3,a4,a5,a6,a7⟩:=uy (b:=b) (rd:=some l) (z:=w.heap.size) (cs:=c0 :: cs) fG cG S.mixed n Y.r.assign _ _ _ _ _ hx m w _ [.beginRound,.code Y.r.body] [] R p2 p3 (hfr.sub (Nat.le_refl _) (by rw[n3];exact n2)) (.inr ⟨l,r0,s0,rfl,rfl,hm⟩) (kJ.nil _ _ _ _) (Nat.le_refl _)
 obtain rfl:k1=_:=a2
 have hm1:=(a6.le _ _ hm).1
 obtain⟨hs0,L1,hL1,Vo⟩:=a5.obj _ _ _ _ (gK Y.Vi) hm1
 obtain⟨Rb,Sb⟩:=a5.setObj (o1:=.loop { Y.r1 with state:=.busy }) (o':=.loop { L1 with state:=.busy }) (gK Y.Vi) rfl rfl hm1 rfl (fun w' z e=>⟨hs0,_,e,Vo.Wa .busy⟩)
 have hbeg:(Instr.beginRound r0).run E.P w1=.ok () (w1.putObj r0 (.loop { L1 with state:=.busy })):=run_beginRound hL1 (by rw[Vo.state];exact Y.ready)
 have st1:step E.P (lone (on b cE (.beginRound :: [.code Y.r.body]) ds1) (c0 :: cs) w1)=.next (lone (on b cE [.code Y.r.body] ds1) (c0 :: cs) (w1.putObj r0 (.loop { L1 with state:=.busy }))) :=
  stepR_beginRound (b:=b) (a:=⟨cE,ds1⟩) rfl hbeg
 have hy:=Y.body
 rw[←hb] at hy
 have S1b:=a6.trans Sb
 obtain⟨m2,w2,Bu,ds2,k2,b1,b2,b3,b4,b5,b6,b7⟩:=uy (b:=b) (rd:=some l) (z:=w.heap.size) (cs:=c0 :: cs) fG cG S.mixed n Y.r.body _ _ _ _ _ hy m1 _ cE [] ds1 Rb a3 a4 ((S1b.fresh hfr).sub (Nat.le_refl _) (by rw[n3];exact Nat.le_refl _)) (.inr ⟨l,r0,s0,rfl,rfl,hm1⟩) (a7.step Sb) (Nat.le_trans a6.size Sb.size)
 have hm2:=(b6.le _ _ hm1).1
 obtain⟨_,L2,hL2,Zp⟩:=b5.obj _ _ _ _ (gK Y.Vh) hm2
 have start:lone (Frame.round r0 L.fn ((L.params.zip args').foldl (fun tmps (x:Tmp×Value)=>tmps.setIfInBounds x.1 x.2) L.tmps) L.assign L.body .normal) (c0 :: cs) w =
   lone (on b ((L.params.zip args').foldl (fun tmps (x:Tmp×Value)=>tmps.setIfInBounds x.1 x.2) L.tmps) (.code Y.r.assign :: [.beginRound,.code Y.r.body]) []) (c0 :: cs) w:=by
  rw[jJ.assign,jJ.body];rfl
 have path:=a1.trans (.head st1 b1)
 have fin : ∀(e:bf) (u:Value) (st:LoopState) (z5:Option Code),h' = { Y.h2 with ext:=Y.h2.ext.set l (.loop { Y.r2 with state:=st,pending:=z5 }) }→u=.bool z5.isNone→v=u →
   (st=if z5.isNone then .ready else .done) →
   step E.P (lone (on b Bu k2 ds2) (c0 :: cs) w2)=.next (lone (c0.finish u) cs (w2.putObj r0 (.loop { L2 with state:=if z5.isNone then .ready else .done,pending:=z5 }))) →
   ∃v' m' w',aD m' v v'∧Rel B w0 m' h' w'∧Step m h w m' h' w'∧Steps E.P (lone (Frame.round r0 L.fn ((L.params.zip args').foldl (fun tmps (x:Tmp×Value)=>tmps.setIfInBounds x.1 x.2) L.tmps) L.assign L.body .normal) (c0 :: cs) w) (lone (c0.finish v') cs w'):=by
  intro e u st z5 e1 e2 e3 e4 hst
  obtain⟨R3,S3⟩:=b5.setObj (o1:=.loop { Y.r2 with state:=st,pending:=z5 }) (o':=.loop { L2 with state:=st,pending:=z5 }) (gK Y.Vh) rfl rfl hm2 rfl (fun w' z e=>⟨hs0,_,e,Zp.busy st z5⟩)
  refine⟨u,m2,_,by rw[e3,e2];exact .bD rfl,by rw[e1];exact R3,by rw[e1];exact(S1b.trans b6).trans S3,?_⟩
  rw[start]
  rw[←e4] at hst
  exact path.trans (.one hst)
 rcases Y.done with⟨e1,e2,e3⟩|⟨i,e1,e2,e3⟩|⟨e1,e2,e3⟩
 ·rw[e1] at b2
  obtain rfl:k2=_:=b2
  exact fin .normal (.bool true) .ready none e3 rfl e2 rfl (stepR_round_end (b:=b) (a:=⟨Bu,ds2⟩) rfl rfl (run_endRound none hL2))
 ·rw[e1] at b2
  obtain⟨k3,rfl,hk3⟩:=b2
  exact fin (.exit i) (.bool false) .done (some (.exit i)) e3 rfl e2 rfl (stepR_round_exit (b:=b) (a:=⟨Bu,ds2⟩) rfl rfl (by rw[hk3];rfl) (run_endRound (some (.exit i)) hL2))
 ·rw[e1] at b2
  obtain⟨k3,rfl⟩:=b2
  exact fin .ret (.bool false) .done (some .ret) e3 rfl e2 rfl (stepR_round_ret (b:=b) (a:=⟨Bu,ds2⟩) rfl rfl (run_endRound (some .ret) hL2))
theorem Om {P:Program} {f:FuncId} {fn:Func} (hf:P.funcs[f]?=some fn) (hb:fn.body=none) (ho:fn.origin=fn.name∨fn.origin = "") {args:List Value} {v:Value} (hc:mw fn.name args=some v) {m:Mp} {args':Array Value} (fV:bm m args args'.toList) (w:World) :
  ∃v',(callFunc f args').run P w=.ok (.value v') w∧aD m v v' ∧ ∀a∈args'.toList,∃k n,a=Value.int k n:=by
 unfold mw at hc
 split at hc
 case h_2=>cases hc
 rename_i x y c
 simp only[cond_eq_ite] at hc
 split at hc
 case isFalse=>cases hc
 rename_i hle
 have QR:c≤1:=by simpa using hle
 obtain⟨a0,b0,r0⟩:=fV.get (i:=0) rfl
 obtain⟨a1,b1,r1⟩:=fV.get (i:=1) rfl
 obtain⟨a2,b2,r2⟩:=fV.get (i:=2) rfl
 have e0:=r0.cj rfl
 have e1:=r1.cj rfl
 have e2:=r2.cj rfl
 subst e0;subst e1;subst e2
 have hl:args'.toList = [.int .u64 (.ofNat x),.int .u64 (.ofNat y),.int .u64 (.ofNat c)]:=by
  have h1:=fV.1
  apply List.ext_getElem?
  intro i
  match i with
  | 0=>exact b0
  | 1=>exact b1
  | 2=>exact b2
  | i+3=>rw[List.getElem?_eq_none (by simp at h1 ⊢;omega),List.getElem?_eq_none (by simp)]
 have ha:args' = #[.int .u64 (.ofNat x),.int .u64 (.ofNat y),.int .u64 (.ofNat c)]:=by rw[←Array.toArray_toList (xs:=args'),hl]
 have hint : ∀a∈args'.toList,∃k n,a=Value.int k n:=by
  rw[hl]
  intro a h
  simp only[List.mem_cons,List.not_mem_nil,or_false] at h
  rcases h with rfl|rfl|rfl<;>exact⟨_,_,rfl⟩
 split at hc
 ·rename_i hn
  have hn:fn.name = "math/bits.Add64" := by simpa using hn
  cases hc
  refine⟨_,?_,aD.fx (cs:=#[.int .u64 _,.int .u64 _]) (cs':=#[.int .u64 _,.int .u64 _]) (.cons (.bD rfl) (.cons (.bD rfl) (.nil _))),hint⟩
  rw[run_callFunc_extern hf (by rw[hn];decide +kernel) (by rw[hb];rfl) (Qn hn (ho.imp (fun e=>by rw[e,hn]) id)) (Q9 hn),ha,run_add64 _ _ _ (by exact Int.natCast_nonneg _) (by exact Int.natCast_nonneg _) (by exact Int.natCast_nonneg _) (by exact Int.ofNat_le.2 QR)]
  simp only[Result.andThen_ok]
  rfl
 ·split at hc
  ·rename_i hn
   have hn:fn.name = "math/bits.Sub64" := by simpa using hn
   cases hc
   refine⟨_,?_,aD.fx (cs:=#[.int .u64 _,.int .u64 _]) (cs':=#[.int .u64 _,.int .u64 _]) (.cons (.bD rfl) (.cons (.bD rfl) (.nil _))),hint⟩
   rw[run_callFunc_extern hf (by rw[hn];decide +kernel) (by rw[hb];rfl) (Qm hn (ho.imp (fun e=>by rw[e,hn]) id)) (Q8 hn),ha]
   show((y5 #[.int .u64 (x:Int),.int .u64 (y:Int),.int .u64 (c:Int)]).run P w).andThen _=_
   rw[MQ x y QR]
   simp only[Result.andThen_ok]
   congr 4
   by_cases hlt:x<y+c
   ·simp[hlt]
   ·simp[hlt]
  ·cases hc
theorem gN {E:Env} (S:Sound E) : ∀n,dj (bU E n)
 | 0=>fun fv vs h h' v hr=>by simp[bU] at hr
 | n+1=>fun fv vs h h' v hr=>by
  unfold bU at hr
  split at hr
  ·exact RV S (gN S n) hr
  ·simp only[cond_eq_ite] at hr
   split at hr
   ·exact Hi (gN S n) hr
   ·cases hr
  ·cases hr
theorem ot {E:Env} (S:Sound E) : ∀n,kj E.P (bU E n)
 | 0=>fun fv vs h h' v hr=>by simp[bU] at hr
 | n+1=>fun fv vs h h' v hr B w0 m w fv' vs' R hfv hvs hfr=>by
  unfold bU at hr
  split at hr
  ·rename_i f first cap
   obtain⟨fn',D4,Xv,rfl,hfn,h1,h2⟩:=hfv.vd
   cases fn'<;>simp only[ry] at hfn
   subst hfn
   have fV:bm m (first.toList ++ (vs ++ cap.toList)) (D4 ++ vs' ++ Xv).toList:=by
    rw[Array.toList_append,Array.toList_append,List.append_assoc]
    exact h1.append (hvs.append h2)
   rcases tU S (ot S n) (gN S n) hr R fV hfr with⟨⟨fn,hf,hb⟩,hC⟩|⟨fn,hf,hb,rfl,hcv⟩
   case inr =>
    obtain⟨v',e1,e2,e3⟩:=Om hf hb (S.origin f fn hf hb hcv) hcv fV w
    refine⟨.value v',?_,.inl ⟨v',rfl,rfl,e2,fun a ha=>e3 a (by rw[Array.toList_append,Array.toList_append];simp[ha])⟩⟩
    simp only[Deferred.ofValue,Sem.run_bind,Sem.run_pure,Result.andThen_ok,invoke]
    exact e1
   refine⟨.enter f (D4 ++ vs' ++ Xv),?_,.inr ⟨_,.inl ⟨_,_,rfl,rfl⟩,fun c cs=>hC.run c cs⟩⟩
   simp only[Deferred.ofValue,Sem.run_bind,Sem.run_pure,Result.andThen_ok,invoke]
   exact Eh hf hb (S.names f fn hf hb)
  ·rename_i l first cap
   simp only[cond_eq_ite,beq_iff_eq] at hr
   split at hr
   ·rename_i hev
    obtain⟨fn',D4,Xv,rfl,hfn,h1,h2⟩:=hfv.vd
    cases fn'<;>simp only[ry] at hfn
    obtain⟨s,hm⟩:=hfn
    have hl:2*(l / 2)=l:=by omega
    rw[←hl] at hm
    have fV:bm m (first.toList ++ vs) (D4 ++ vs').toList:=by
     rw[Array.toList_append]
     exact h1.append hvs
    obtain⟨f,ts,a,c,hy,bw⟩:=Be S (ot S n) (gN S n) hr R fV hfr hm
    refine⟨_,?_,.inr ⟨_,.inr ⟨_,f,ts,a,c,rfl,rfl⟩,bw⟩⟩
    simp only[Deferred.ofValue,Sem.run_bind,Sem.run_pure,Result.andThen_ok,invoke]
    exact hy
   ·cases hr
  ·cases hr
def IH.start (base:Nat→Option (List Value)):IH:={ base,n:=0,ext:=.leaf,bT:=.leaf }
def Mp.lg (A:Nat→Nat×Nat):Mp:=⟨fun b=>if b % 2=1 then some (if b / 2<4294967296 then (b / 2,0) else A (b / 2 - 4294967296)) else none,fun _=>(0,0)⟩
theorem Mp.xf (A:Nat→Nat×Nat) {b:Nat} (h:b<4294967296):Mp.lg A (2*b+1)=some (b,0):=by
 show(if (2*b+1) % 2=1 then some (if (2*b+1) / 2<4294967296 then ((2*b+1) / 2,0) else A ((2*b+1) / 2 - 4294967296)) else none)=some (b,0)
 rw[if_pos (by omega),if_pos (by omega),show(2*b+1) / 2=b from by omega]
theorem Mp.uk (A:Nat→Nat×Nat) (i:Nat):Mp.lg A (2*(4294967296+i)+1)=some (A i):=by
 show(if (2*(4294967296+i)+1) % 2=1 then some (if (2*(4294967296+i)+1) / 2<4294967296 then ((2*(4294967296+i)+1) / 2,0) else A ((2*(4294967296+i)+1) / 2 - 4294967296)) else none)=some (A i)
 rw[if_pos (by omega),if_neg (by omega),show(2*(4294967296+i)+1) / 2 - 4294967296=i from by omega]
theorem Mp.um (A:Nat→Nat×Nat) (k:Nat):Mp.lg A (2*k)=none:=by
 show(if (2*k) % 2=1 then _ else none)=none
 rw[if_neg (by omega)]
def JQ (A:Nat→Nat×Nat) (base:Nat→Option (List Value)) (w:World):Prop:=∀b cs,base b=some cs → ∃r s,Mp.lg A (2*b+1)=some (r,s) ∧ ∃c el fz,w.heap[r]?=some (.cells c el fz)∧ng (Mp.lg A) cs c s
theorem Rel.start {A:Nat→Nat×Nat} {base:Nat→Option (List Value)} {w:World} (hb:JQ A base w):Rel w.heap.size w (Mp.lg A) (IH.start base) w:=by
 have leaf : ∀{α:Type} (k:Nat),(Tr.leaf:Tr α).get k=none:=fun k=>rfl
 refine⟨Below.refl _ _,Nat.le_refl _,?_,fun b h=>Mp.xf A h,?_,fun k _=>leaf k,?_,?_,?_,?_,?_,?_⟩
 ·intro b cs h
  obtain⟨r,s,h0,c,el,fz,h1,h2⟩:=hb b cs h
  exact⟨r,s,h0,(Array.getElem?_eq_some_iff.1 h1).1,c,el,fz,h1,h2⟩
 ·intro k r s h
  rw[Mp.um] at h;cases h
 ·intro k o r s h;cases h
 ·intro k k' o o' r s s' _ h;cases h
 ·intro f st h;cases h
 ·intro k cs t f h;cases h
 ·intro f st h;cases h
 ·intro f st x y h;cases h
theorem wy {w w':World} (h:Below w.heap.size w w') (may:MemPlace→Prop):w.keptBut w' may:=by
 refine⟨h.os,h.output,fun i hi=>?_⟩
 rw[h.block i hi]
 cases hx:w.heap[i]? with
 | none=>rfl
 | some o =>
  cases o with
  | cells c t fr=>exact⟨rfl,rfl,rfl,fun _ _=>rfl⟩
  | map es cl=>exact .inr ⟨rfl,rfl⟩
  | _=>rfl
theorem A6 {H:Type} {enc:TypeId×Value→H} {P:Program} {f:Func} {s:ChangeSpec} {apart fresh handsOn:Bool} {W W':World} {args:Array Value} {v:Value} {ds gs:List (DataW H)} {before pa pv:List MemPlace}
  (hW:DataW.Whole enc P f.params.toList s.vars apart W args.toList ds gs before)
  (I6 : ∀(b:Nat) (sp:Nat→Bool) (hd:Bool),DataW.TrodAll enc P W' b sp hd f.resultTypes.toList (v.resultList f.resultTypes.size) (s.fn H (ds ++ gs)).results [])
  (fV : ∀sp:Nat→Bool,(∀p∈before,sp p.block=true)→DataW.TrodAll enc P W' 0 sp true f.params.toList args.toList (s.fn H (ds ++ gs)).args pa)
  (Zh : ∀sp:Nat→Bool,(∀p∈before,sp p.block=true)→DataW.TrodVars enc P W' sp s.vars (s.fn H (ds ++ gs)).vars pv)
  (hk:Below W.heap.size W W'):s.post enc P f apart fresh handsOn false W args v W':=by
 have hold : ∀p∈before,(fun b=>decide (b<W.heap.size)) p.block=true:=fun p hp=>by simpa using hW.lt p hp
 exact⟨ds,gs,before,[],pa,pv,hW,I6 _ _ _,fV _ hold,Zh _ hold,wy hk _,fun h=>by cases h⟩
end Go.Id
namespace Go.Id
open Go
def wN (o:Oper):Bool:=cB o.op == .pure || cB o.op == .load
def je (ops:List Oper) (i p:Nat):Bool :=
 (List.range ops.length).all fun j => !(Nat.ble (min i p) j && Nat.blt j (max i p)) || (match ops[j]? with|some o=>wN o|none=>false)
def BO (ops:List Oper):List (Nat×List Nat):=(xX ops).filterMap fun e=>match e.2.filter (fun p => !je ops e.1 p) with
 | []=>none
 | l=>some (e.1,l)
theorem Oo {E:Env} {call:a8} {nt:Nat} {ops:List Oper} {o:Oper} {fr fr':Fr} {h h':IH} (hc:wN o=true) (hs:cS E call nt ops o fr h=some (fr',h')):h'=h:=by
 have hne:cB o.op≠.chain:=by
  intro hk;simp[wN,hk] at hc
 unfold cS at hs
 split at hs
 ·rw[eG hne] at hs
  split at hs
  ·rename_i v h1 hi
   obtain⟨f,_,e⟩:=Option.map_eq_some_iff.1 hs
   cases e
   simp only[wN,Bool.or_eq_true,beq_iff_eq] at hc
   rcases hc with hc|hc
   ·exact(z7 hc hi).1
   ·exact z8 hc hi
  ·cases hs
 ·obtain⟨f,_,e⟩:=Option.map_eq_some_iff.1 hs
  cases e;rfl
 ·cases hs
theorem tT {E:Env} {call:a8} {nt:Nat} {ops:List Oper} {fr:Fr} {h:IH} {tr:List (Fr×IH)} (ht:trace E call nt ops ops fr h=some tr) : ∀(d a:Nat) (x y:Fr×IH),(∀j,a≤j→j<a+d → ∃o,ops[j]?=some o∧wN o=true)→tr[a]?=some x→tr[a+d]?=some y→y.2=x.2
 | 0,a,x,y,_,hx,hy=>by rw[Nat.add_zero,hx] at hy;cases hy;rfl
 | d+1,a,x,y,hc,hx,hy=>by
  obtain⟨o,ho,hco⟩:=hc a (Nat.le_refl _) (by omega)
  obtain⟨_,_,h3⟩:=oJ ops fr h tr ht
  obtain⟨fr1,h1,fr2,h2,e1,e2,hs⟩:=h3 a o ho
  rw[hx] at e1;cases e1
  have e3:=Oo hco hs
  have:=tT ht d (a+1) (fr2,h2) y (fun j a1 a2=>hc j (by omega) (by omega)) e2 (by rw[←hy];congr 1;omega)
  rw[this];exact e3
theorem Oq {E:Env} {call:a8} {nt:Nat} {ops:List Oper} {fr:Fr} {h:IH} {tr:List (Fr×IH)} (ht:trace E call nt ops ops fr h=some tr) {i p:Nat} (hc:je ops i p=true) (hi:i≤ops.length) (hp:p≤ops.length) {x y:Fr×IH} (hx:tr[i]?=some x) (hy:tr[p]?=some y):y.2=x.2:=by
 simp only[je,List.all_eq_true,List.mem_range,Bool.or_eq_true,Bool.not_eq_true',Bool.and_eq_false_iff] at hc
 have key : ∀j,min i p≤j→j<max i p → ∃o,ops[j]?=some o∧wN o=true:=by
  intro j a b
  rcases hc j (by omega) with hh|hh
  ·rcases hh with hh|hh
   ·rw[Bool.eq_false_iff] at hh;exact absurd (by rw[Nat.ble_eq];exact a) hh
   ·rw[Bool.eq_false_iff] at hh;exact absurd (by simp only[Nat.blt,Nat.ble_eq];omega) hh
  ·split at hh
   ·rename_i o ho;exact⟨o,ho,hh⟩
   ·cases hh
 rcases Nat.le_total i p with hip|hip
 ·exact tT ht (p - i) i x y (fun j a b=>key j (by omega) (by omega)) hx (by rw[←hy];congr 1;omega)
 ·exact(tT ht (i - p) p y x (fun j a b=>key j (by omega) (by omega)) hy (by rw[←hx];congr 1;omega)).symm
theorem P5 {ops:List Oper} {e:Nat×List Nat} (he:e∈xX ops):(∃o,ops[e.1]?=some o∧cB o.op=.load) ∧ ∀p∈e.2,p≤ops.length:=by
 simp only[xX,List.mem_filterMap,List.mem_range] at he
 obtain⟨i,hi,he⟩:=he
 split at he
 ·cases he
 ·rename_i o ho
  simp only[cond_eq_ite,beq_iff_eq] at he
  split at he
  ·rename_i hk
   cases he
   refine⟨⟨o,ho,hk⟩,fun p hp=>?_⟩
   have:=(List.mem_filter.1 hp).1
   rw[List.mem_append] at this
   rcases this with h1|h1
   ·have:=(List.mem_filter.1 h1).1;rw[List.mem_range] at this;omega
   ·simp at h1;omega
  ·cases he
theorem y8 {E:Env} {call:a8} {nt:Nat} {ops:List Oper} {fr:Fr} {h:IH} {tr:List (Fr×IH)} (ht:trace E call nt ops ops fr h=some tr) (hs:steady E.P ops tr (BO ops)=true):steady E.P ops tr (xX ops)=true:=by
 simp only[steady,List.all_eq_true] at hs ⊢
 intro e he
 obtain⟨⟨o,ho,hk⟩,hps⟩:=P5 he
 obtain⟨hlen,_,h3⟩:=oJ ops fr h tr ht
 obtain⟨fr1,h1,fr2,h2,e1,e2,hst⟩:=h3 e.1 o ho
 have hi:e.1<ops.length:=(List.getElem?_eq_some_iff.1 ho).1
 simp only[ho,e1]
 split
 ·rename_i hw
  rw[List.all_eq_true]
  intro p hp
  have hpl:=hps p hp
  obtain⟨⟨fp,hpp⟩,hp1⟩ : ∃y,tr[p]?=some y:=⟨tr[p]'(by omega),List.getElem?_eq_getElem (by omega)⟩
  cases hcb:je ops e.1 p with
  | true =>
   have dW:=Oq ht hcb (Nat.le_of_lt hi) hpl e1 hp1
   simp only at dW
   simp only[hp1]
   subst dW
   unfold cS at hst
   simp only[hw] at hst
   rw[eG (by rw[hk];simp)] at hst
   split at hst
   ·rename_i v h1' hv
    simp[gE,hv,GX]
   ·cases hst
  | false =>
   have I7 : ∃l,(e.1,l)∈BO ops∧p∈l:=by
    refine⟨e.2.filter (fun p => !je ops e.1 p),?_,by simp[hp,hcb]⟩
    simp only[BO,List.mem_filterMap]
    refine⟨e,he,?_⟩
    split
    ·rename_i WU
     have:p∈e.2.filter (fun p => !je ops e.1 p):=by simp[hp,hcb]
     rw[WU] at this;cases this
    ·rfl
   obtain⟨l,hl,hpl⟩:=I7
   have:=hs _ hl
   simp only[ho,e1,hw,List.all_eq_true] at this
   exact this p hpl
 ·rfl
theorem uC {E:Env} {call:a8} {nt:Nat} {ops:List Oper} : ∀(l:List Oper) (fr:Fr) (h:IH) (r:Fr×IH),fi E call nt ops l fr h=some r → ∃tr,trace E call nt ops l fr h=some tr∧tr[l.length]?=some r
 | [],fr,h,r,hr=>by simp only[fi] at hr;cases hr;exact⟨_,rfl,rfl⟩
 | o :: l,fr,h,r,hr=>by
  rw[fi] at hr
  split at hr
  ·rename_i fr1 h1 hs
   obtain⟨tr,e1,e2⟩:=uC l fr1 h1 r hr
   exact⟨(fr,h) :: tr,by simp[trace,hs,e1],by simpa using e2⟩
  ·cases hr
def fO (ops:List Oper):Bool:=lh ops && (BO ops).isEmpty
theorem A0 {E:Env} {call:a8} {nt:Nat} {ops:List Oper} {fr:Fr} {h:IH} {r:Fr×IH} (hc:fO ops=true) (hr:fi E call nt ops ops fr h=some r):gH E call nt ops fr h=some r:=by
 simp only[fO,Bool.and_eq_true,List.isEmpty_iff] at hc
 obtain⟨tr,e1,e2⟩:=uC ops fr h r hr
 have hs:steady E.P ops tr (xX ops)=true:=y8 e1 (by rw[hc.2];rfl)
 simp[gH,e1,hc.1,hs,e2]
def E0 (P:Program):Env:=⟨P,fun _ _=>none,fun _=>none⟩
def Tm {α:Type} (o:Nat→Option α) (Q:α→Prop):Prop:=∃a,(∃N,∀n,N≤n→o n=some a)∧Q a
theorem Tm.mono {α:Type} {o:Nat→Option α} {Q R:α→Prop} (h:Tm o Q) (k : ∀a,Q a→R a):Tm o R :=
 let ⟨a,h1,h2⟩:=h;⟨a,h1,k a h2⟩
theorem Tm.of {α:Type} {o:Nat→Option α} {Q:α→Prop} {a:α} (h : ∀n,o n=some a) (q:Q a):Tm o Q:=⟨a,⟨0,fun n _=>h n⟩,q⟩
theorem Tm.of2 {α β:Type} {o:Nat→Option (α×β)} {K:α→β→Prop} {a:α} {b:β} (k:K a b) (h : ∀n,o n=some (a,b)):Tm o fun p=>K p.1 p.2:=⟨(a,b),⟨0,fun n _=>h n⟩,k⟩
theorem Tm.bind {α β:Type} {o:Nat→Option α} {p:Nat→Option β} {Q:β→Prop} (f:α→Nat→Option β) (h:Tm o fun a=>Tm (f a) Q) (hp : ∀n a,o n=some a→p n=f a n):Tm p Q:=by
 obtain⟨a,⟨N,h1⟩,b,⟨M,h2⟩,q⟩:=h
 refine⟨b,⟨max N M,fun n hn=>?_⟩,q⟩
 rw[hp n a (h1 n (Nat.le_trans (Nat.le_max_left _ _) hn)),h2 n (Nat.le_trans (Nat.le_max_right _ _) hn)]
theorem Tm.congr {α:Type} {o p:Nat→Option α} {Q:α→Prop} (h:Tm o Q) (e : ∀n,p n=o n):Tm p Q :=
 let ⟨a,⟨N,h1⟩,h2⟩:=h;⟨a,⟨N,fun n hn=>(e n).trans (h1 n hn)⟩,h2⟩
def Ex {α:Type} (o:Option α) (K:α→Prop):Prop:=∃v,o=some v∧K v
@[congr] theorem Za1 {α:Type} {o o':Option α} {K:α→Prop} (h:o=o'):Ex o K=Ex o' K:=by rw[h]
@[simp] theorem Ey {α:Type} (v:α) (K:α→Prop):Ex (some v) K=K v:=by simp[Ex]
@[simp] theorem Za7 {α:Type} (K:α→Prop):Ex none K=False:=by simp[Ex]
@[simp] theorem XW {α β:Type} (o:Option α) (f:α→β) (K:β→Prop):Ex (o.map f) K=Ex o fun v=>K (f v):=by cases o<;>simp[Ex]
theorem Ex.mono {α:Type} {o:Option α} {K L:α→Prop} (h:Ex o K) (k : ∀v,K v→L v):Ex o L:=let ⟨v,a,b⟩:=h;⟨v,a,k v b⟩
def Br (b:Bool) (p q:Prop):Prop:=if b=true then p else q
@[congr] theorem Za3 {b b':Bool} {p q:Prop} (h:b=b'):Br b p q=Br b' p q:=by rw[h]
@[simp] theorem UF (p q:Prop):Br true p q=p:=by simp[Br]
@[simp] theorem Sr (p q:Prop):Br false p q=q:=by simp[Br]
theorem Br.intro {b:Bool} {p q:Prop} (h1:b=true→p) (h2:b=false→q):Br b p q:=by cases b<;>simp_all [Br]
def Lt (p:Prop):Prop:=p
@[congr] theorem ZaW {p:Prop}:Lt p=Lt p:=rfl
def WV (P:Program) (fv:Value) (vs:List Value) (h:IH) (K:Value→IH→Prop):Prop:=Tm (fun n=>bU (E0 P) n fv vs h) fun p=>K p.1 p.2
@[congr] theorem ZaT {P:Program} {fv fv':Value} {vs vs':List Value} {h h':IH} {K:Value→IH→Prop} (a:fv=fv') (b:vs=vs') (c:h=h'):WV P fv vs h K=WV P fv' vs' h' K:=by rw[a,b,c]
theorem WV.mono {P:Program} {fv:Value} {vs:List Value} {h:IH} {K L:Value→IH→Prop} (w:WV P fv vs h K) (k : ∀v h',K v h'→L v h'):WV P fv vs h L:=Tm.mono w fun _ x=>k _ _ x
def wpOp (P:Program) (o:Op) (fr:Fr) (h:IH) (K:Value→IH→Prop):Prop :=
 match o with
 | .move x=>Ex (opd fr x) fun v=>K v h
 | .assign x=>Ex (opd fr x) fun v=>K v h
 | .pick c a b=>Ex (opd fr c) fun c=>Ex (opd fr a) fun a=>Ex (opd fr b) fun b=>c=.bool true∧K a h∨c=.bool false∧K b h
 | .alloc t=>Ex (aC P t) fun z=>K (ptr (2*h.n) 0) (h.new (.cells z 0 none))
 | .box _ x=>Ex (opd fr x) fun v=>K (ptr (2*h.n) 0) (h.new (.cells v.cells.toList 0 none))
 | .load t a=>Ex (opd fr a) fun a=>Ex (load P h t a) fun v=>K v h
 | .store t a x=>Ex (opd fr a) fun a=>Ex (opd fr x) fun x=>Ex (store P h t a x) fun h=>K undef h
 | .binOp op t x y _=>Ex (opd fr x) fun a=>Ex (opd fr y) fun b=>Ex (binop P op t x y a b) fun v=>K v h
 | .fieldAddr t x f=>Ex (opd fr x) fun x=>Ex (fu P t f) fun f=>Ex (asAddr x) fun a=>Ex (aK P f.type) fun n=>n≠0∧K (ptr a.1 (a.2+f.offset)) h
 | .indexAddr t x i=>Ex (opd fr x) fun x=>Ex (opd fr i) fun i=>Ex (indexAddr P t x i) fun v=>K v h
 | .extract x i=>Ex (opd fr x) fun x=>match x with
  | .tuple vs=>Ex vs[i]? fun v=>K v h
  | _=>False
 | .makeFunc fn first cap=>Ex (gA fr first.toList) fun a=>Ex (gA fr cap.toList) fun b=>match fn with
  | .func f=>K (.func (.func f) a.toArray b.toArray) h
  | _=>False
 | .call c=>match c.callee with
  | .value f=>Ex (opd fr f) fun fv=>Ex (gA fr c.args.toList) fun vs=>WV P fv vs h K
  | .builtin b=>Ex (gA fr c.args.toList) fun vs=>Ex (builtin P h b c.argTypes vs) fun r=>K r.1 r.2
  | _=>False
 | o=>Ex (iop P fr o h) fun r=>K r.1 r.2
theorem HC {P:Program} {o:Op} {fr:Fr} {h:IH} {K:Value→IH→Prop} (w:wpOp P o fr h K):Tm (fun n=>cU (E0 P) (bU (E0 P) n) fr o h) fun p=>K p.1 p.2:=by
 unfold wpOp at w
 split at w
 case h_13 c =>
  split at w
  ·obtain⟨fv,h1,vs,h2,k⟩:=w
   rename_i f hc
   refine Tm.congr k fun n=>?_
   simp[cU,hc,h1,h2]
  ·obtain⟨vs,h1,r,h2,k⟩:=w
   rename_i b hc
   refine Tm.of (a:=r) (fun n=>?_) k
   simp[cU,hc,iop,h1,h2,E0]
  ·exact w.elim
 case h_3 =>
  obtain⟨c,h1,a,h2,b,h3,⟨rfl,k⟩|⟨rfl,k⟩⟩:=w
  ·exact Tm.of (a:=(a,h)) (fun n=>by simp[cU,iop,h1,h2]) k
  ·exact Tm.of (a:=(b,h)) (fun n=>by simp[cU,iop,h1,h3]) k
 case h_11 =>
  obtain⟨x,h1,k⟩:=w
  split at k
  ·obtain⟨v,h2,k⟩:=k
   exact Tm.of (a:=(v,h)) (fun n=>by simp[cU,iop,h1,h2]) k
  ·exact k.elim
 case h_12 =>
  obtain⟨x,h1,y,h2,k⟩:=w
  split at k
  ·exact Tm.of2 k fun n=>by simp[cU,iop,h1,h2]
  ·exact k.elim
 case h_9 =>
  obtain⟨x,h1,f,h2,⟨b,o⟩,h3,n,h4,h5,k⟩:=w
  refine Tm.of2 k fun m=>?_
  have h6:(n == 0)=false:=by simpa using h5
  simp[cU,iop,h1,h2,h3,h4,E0,h6]
 case h_14 =>
  obtain⟨r,h1,k⟩:=w
  refine Tm.of2 (a:=r.1) (b:=r.2) k fun n=>?_
  unfold cU
  split
  ·simp_all
  ·exact h1
 all_goals
  simp only[Ex] at w
  first
   | (obtain⟨a,h1,b,h2,c,h3,k⟩:=w;exact Tm.of2 k fun n=>by simp[cU,iop,h1,h2,h3,E0])
   | (obtain⟨a,h1,b,h2,k⟩:=w;exact Tm.of2 k fun n=>by simp[cU,iop,h1,h2,E0])
   | (obtain⟨a,h1,k⟩:=w;exact Tm.of2 k fun n=>by simp[cU,iop,h1,E0])
def eF (nt:Nat) (fr:Fr) (dst:Option Tmp) (v:Value) (K:Fr→Prop):Prop :=
 match dst with
 | none=>K fr
 | some d=>Br (Nat.blt d nt) (K ((d,v) :: fr)) False
theorem kA {nt:Nat} {fr:Fr} {dst:Option Tmp} {v:Value} {K:Fr→Prop} (w:eF nt fr dst v K) : ∃fr',mC nt fr dst v=some fr'∧K fr':=by
 unfold eF at w
 split at w
 ·exact⟨_,rfl,w⟩
 ·rename_i d
  simp only[mC]
  cases hb:Nat.blt d nt<;>simp[hb] at w ⊢
  exact w
def wpOps (P:Program) (nt:Nat) (all:List Oper):List Oper→Fr→IH→(Fr→IH→Prop)→Prop
 | [],fr,h,K=>K fr h
 | o :: l,fr,h,K=>match o.guard with
  | none=>wpOp P o.op fr h fun v h=>eF nt fr o.dst v fun fr=>wpOps P nt all l fr h K
  | some (j,want)=>Ex ((all[j]?).bind (·.dst)) fun d=>Ex (ab fr d) fun b=>match b with
   | .bool b=>Br (b == want) (wpOp P o.op fr h fun v h=>eF nt fr o.dst v fun fr=>wpOps P nt all l fr h K) (eF nt fr o.dst undef fun fr=>wpOps P nt all l fr h K)
   | .tuple _=>eF nt fr o.dst undef fun fr=>wpOps P nt all l fr h K
   | _=>False
theorem rA {P:Program} {nt:Nat} {all:List Oper} {o:Oper} {fr:Fr} {h:IH} {K:Fr→IH→Prop} (hw:bA all o fr=some true)
  (w:wpOp P o.op fr h fun v h=>eF nt fr o.dst v fun fr=>K fr h):Tm (fun n=>cS (E0 P) (bU (E0 P) n) nt all o fr h) fun p=>K p.1 p.2:=by
 obtain⟨⟨v,h1⟩,⟨N,hN⟩,k⟩:=HC w
 obtain⟨fr',hp,k⟩:=kA k
 exact⟨(fr',h1),⟨N,fun n hn=>by simp[cS,hw,hN n hn,hp]⟩,k⟩
theorem pW {P:Program} {nt:Nat} {all:List Oper} : ∀{l:List Oper} {fr:Fr} {h:IH} {K:Fr→IH→Prop},wpOps P nt all l fr h K →
  Tm (fun n=>fi (E0 P) (bU (E0 P) n) nt all l fr h) fun p=>K p.1 p.2
 | [],fr,h,K,w=>Tm.of (a:=(fr,h)) (fun _=>rfl) w
 | o :: l,fr,h,K,w=>by
  have fin (s:Tm (fun n=>cS (E0 P) (bU (E0 P) n) nt all o fr h) fun p=>wpOps P nt all l p.1 p.2 K):Tm (fun n=>fi (E0 P) (bU (E0 P) n) nt all (o :: l) fr h) fun p=>K p.1 p.2 :=
   Tm.bind (fun p n=>fi (E0 P) (bU (E0 P) n) nt all l p.1 p.2) (s.mono fun _ x=>pW x) fun n a ha=>by simp[fi,ha]
  unfold wpOps at w
  split at w
  ·rename_i hg
   exact fin (rA (by simp[bA,hg]) w)
  ·rename_i j want hg
   obtain⟨d,h1,b,h2,w⟩:=w
   split at w
   ·rename_i b
    unfold Br at w
    split at w
    ·rename_i hb
     exact fin (rA (by simp[bA,hg,h1,h2,eq_of_beq hb]) w)
    ·rename_i hb
     obtain⟨fr',hp,k⟩:=kA w
     refine fin (Tm.of (a:=(fr',h)) (fun n=>?_) k)
     have hb':(b == want)=false:=by simpa using hb
     simp[cS,bA,hg,h1,h2,hb',hp]
   ·obtain⟨fr',hp,k⟩:=kA w
    refine fin (Tm.of (a:=(fr',h)) (fun n=>?_) k)
    simp[cS,bA,hg,h1,h2,hp]
   ·exact w.elim
def cH (P:Program) (nt:Nat) (all:List Oper):List Oper→Fr→IH→List (Fr×IH)→(List (Fr×IH)→Prop)→Prop
 | [],fr,h,tr,K=>K (tr ++ [(fr,h)])
 | o :: l,fr,h,tr,K=>match o.guard with
  | none=>wpOp P o.op fr h fun v h1=>eF nt fr o.dst v fun fr1=>cH P nt all l fr1 h1 (tr ++ [(fr,h)]) K
  | some (j,want)=>Ex ((all[j]?).bind (·.dst)) fun d=>Ex (ab fr d) fun b=>match b with
   | .bool b=>Br (b == want) (wpOp P o.op fr h fun v h1=>eF nt fr o.dst v fun fr1=>cH P nt all l fr1 h1 (tr ++ [(fr,h)]) K)
     (eF nt fr o.dst undef fun fr1=>cH P nt all l fr1 h (tr ++ [(fr,h)]) K)
   | .tuple _=>eF nt fr o.dst undef fun fr1=>cH P nt all l fr1 h (tr ++ [(fr,h)]) K
   | _=>False
theorem sA {P:Program} {nt:Nat} {all:List Oper} : ∀{l:List Oper} {fr:Fr} {h:IH} {tr:List (Fr×IH)} {K:List (Fr×IH)→Prop},cH P nt all l fr h tr K →
  Tm (fun n=>trace (E0 P) (bU (E0 P) n) nt all l fr h) fun t=>K (tr ++ t)
 | [],fr,h,tr,K,w=>Tm.of (a:=[(fr,h)]) (fun _=>rfl) w
 | o :: l,fr,h,tr,K,w=>by
  have fin (s:Tm (fun n=>cS (E0 P) (bU (E0 P) n) nt all o fr h) fun p=>cH P nt all l p.1 p.2 (tr ++ [(fr,h)]) K):Tm (fun n=>trace (E0 P) (bU (E0 P) n) nt all (o :: l) fr h) fun t=>K (tr ++ t):=by
   refine Tm.bind (fun p n=>(trace (E0 P) (bU (E0 P) n) nt all l p.1 p.2).map ((fr,h) :: ·)) (s.mono fun p x=>?_) fun n a ha=>by simp[trace,ha]
   obtain⟨t,⟨N,hN⟩,k⟩:=sA x
   exact⟨(fr,h) :: t,⟨N,fun n hn=>by simp[hN n hn]⟩,by simpa using k⟩
  unfold cH at w
  split at w
  ·rename_i hg
   exact fin (rA (K:=fun fr1 h1=>cH P nt all l fr1 h1 (tr ++ [(fr,h)]) K) (by simp[bA,hg]) w)
  ·rename_i j want hg
   obtain⟨d,h1,b,h2,w⟩:=w
   split at w
   ·rename_i b
    unfold Br at w
    split at w
    ·rename_i hb
     exact fin (rA (K:=fun fr1 h1=>cH P nt all l fr1 h1 (tr ++ [(fr,h)]) K) (by simp[bA,hg,h1,h2,eq_of_beq hb]) w)
    ·rename_i hb
     obtain⟨fr',hp,k⟩:=kA w
     refine fin (Tm.of (a:=(fr',h)) (fun n=>?_) k)
     have hb':(b == want)=false:=by simpa using hb
     simp[cS,bA,hg,h1,h2,hb',hp]
   ·obtain⟨fr',hp,k⟩:=kA w
    refine fin (Tm.of (a:=(fr',h)) (fun n=>?_) k)
    simp[cS,bA,hg,h1,h2,hp]
   ·exact w.elim
def cI (P:Program) (ops:List Oper) (tr:List (Fr×IH)):List (Nat×List Nat)→Prop
 | []=>True
 | e :: l=>(match ops[e.1]?,tr[e.1]? with
  | some o,some (fr,h)=>match bA ops o fr with
   | some true => ∀p∈e.2,match tr[p]? with
    | some (_,h')=>gE P fr o.op h h'=true
    | none=>False
   | _=>True
  | _,_=>False)∧cI P ops tr l
theorem pV {P:Program} {ops:List Oper} {tr:List (Fr×IH)} : ∀{l:List (Nat×List Nat)},cI P ops tr l→steady P ops tr l=true
 | [],_=>rfl
 | e :: l,w=>by
  unfold cI at w
  obtain⟨w1,w2⟩:=w
  have:=pV w2
  simp only[steady,List.all_cons,Bool.and_eq_true] at this ⊢
  refine⟨?_,this⟩
  split at w1
  ·rename_i o fr h ho ht
   simp only[ho,ht]
   split at w1
   ·rename_i hw
    simp only[hw,List.all_eq_true]
    intro p hp
    have:=w1 p hp
    split at this
    ·rename_i h' hh;simp[hh,this]
    ·exact this.elim
   ·rename_i hne
    split
    ·rename_i heq;exact absurd heq hne
    ·rfl
  ·exact w1.elim
def HI (tr:List (Fr×IH)) (n:Nat) (K:Fr→IH→Prop):Prop:=Ex tr[n]? fun p=>K p.1 p.2
def xR (P:Program) (fn:FuncId) (nt:Nat) (rd:Option Nat) (b:Code) (fr:Fr) (h:IH) (Q:bf→Fr→IH→Prop):Prop :=
 Tm (fun n=>evC (E0 P) (bU (E0 P) n) fn nt rd n (.loop b) fr h) fun p=>Q p.1 p.2.1 p.2.2
@[congr] theorem VL {P:Program} {fn:FuncId} {nt:Nat} {rd:Option Nat} {b:Code} {fr fr':Fr} {h h':IH} {Q:bf→Fr→IH→Prop} (e1:fr=fr') (e2:h=h'):xR P fn nt rd b fr h Q=xR P fn nt rd b fr' h' Q:=by rw[e1,e2]
def tW (P:Program) (fn:FuncId) (nt:Nat) (rd:Option Nat) (f:Operand) (ps:Array Tmp) (a b:Code) (fr:Fr) (h:IH) (Q:bf→Fr→IH→Prop):Prop :=
 Tm (fun n=>jX (E0 P) (bU (E0 P) n) fn nt rd f ps.toList a b fr h) fun p=>Q p.1 p.2.1 p.2.2
@[congr] theorem Uz {P:Program} {fn:FuncId} {nt:Nat} {rd:Option Nat} {f:Operand} {ps:Array Tmp} {a b:Code} {fr fr':Fr} {h h':IH} {Q:bf→Fr→IH→Prop} (e1:fr=fr') (e2:h=h') :
  tW P fn nt rd f ps a b fr h Q=tW P fn nt rd f ps a b fr' h' Q:=by rw[e1,e2]
def JV (P:Program) (nt:Nat) (ops:List Oper) (fr:Fr) (h:IH) (K:Fr→IH→Prop):Prop :=
 lh ops=true∧cH P nt ops ops fr h [] fun tr=>cI P ops tr (BO ops)∧HI tr ops.length K
def wpC (P:Program) (fn:FuncId) (nt:Nat) (rd:Option Nat):Code→Fr→IH→(bf→Fr→IH→Prop)→Prop
 | .skip,fr,h,Q=>Q .normal fr h
 | .label _,fr,h,Q=>Q .normal fr h
 | .region _ ops draw,fr,h,Q=>match draw with
  | false=>wpOps P nt ops.toList ops.toList fr h (Q .normal)
  | true=>(fO ops.toList=true→wpOps P nt ops.toList ops.toList fr h (Q .normal))∧(fO ops.toList=false→JV P nt ops.toList fr h (Q .normal))
 | .seq a b,fr,h,Q=>wpC P fn nt rd a fr h fun e fr h=>match e with
  | .normal=>wpC P fn nt rd b fr h Q
  | .exit i=>Q (.exit i) fr h
  | .ret=>Q .ret fr h
 | .cond c a b,fr,h,Q=>Ex (opd fr c) fun c=>match c with
  | .bool c=>Br c (wpC P fn nt rd a fr h Q) (wpC P fn nt rd b fr h Q)
  | _=>False
 | .block id b,fr,h,Q=>wpC P fn nt rd b fr h fun e fr h=>match e with
  | .exit i=>Br (i == id) (Q .normal fr h) (Q (.exit i) fr h)
  | .normal=>Q .normal fr h
  | .ret=>Q .ret fr h
 | .loop b,fr,h,Q=>xR P fn nt rd b fr h Q
 | .scope b,fr,h,Q=>wpC P fn nt rd b fr h Q
 | .rangeFunc f ps a b,fr,h,Q=>tW P fn nt rd f ps a b fr h Q
 | .exit i,fr,h,Q=>Q (.exit i) fr h
 | .ret,fr,h,Q=>Q .ret fr h
 | .goto _,_,_,_=>False
 | .refuse _,_,_,_=>False
abbrev TmC (P:Program) (fn:FuncId) (nt:Nat) (rd:Option Nat) (c:Code) (fr:Fr) (h:IH) (Q:bf→Fr→IH→Prop):Prop :=
 Tm (fun n=>evC (E0 P) (bU (E0 P) n) fn nt rd n c fr h) fun p=>Q p.1 p.2.1 p.2.2
theorem DV (P:Program) (fn:FuncId) (id:Nat) (fr:Fr):gM (E0 P) fn id fr=fr:=rfl
theorem fw {P:Program} {fn:FuncId} {nt:Nat} {rd:Option Nat} : ∀{c:Code} {fr:Fr} {h:IH} {Q:bf→Fr→IH→Prop},wpC P fn nt rd c fr h Q→TmC P fn nt rd c fr h Q
 | .skip,fr,h,Q,w=>Tm.of (a:=(.normal,fr,h)) (fun _=>rfl) w
 | .label _,fr,h,Q,w=>Tm.of (a:=(.normal,fr,h)) (fun _=>rfl) w
 | .region id ops draw,fr,h,Q,w=>by
  cases draw with
  | false =>
   obtain⟨p,⟨N,h1⟩,k⟩:=pW w
   exact⟨(.normal,p.1,p.2),⟨N,fun n hn=>by have:=h1 n hn;simp[evC,DV,this]⟩,k⟩
  | true =>
   cases hc:fO ops.toList with
   | true =>
    obtain⟨p,⟨N,h1⟩,k⟩:=pW (w.1 hc)
    exact⟨(.normal,p.1,p.2),⟨N,fun n hn=>by have:=A0 hc (h1 n hn);simp[evC,DV,this]⟩,k⟩
   | false =>
    obtain⟨ho,w⟩:=w.2 hc
    obtain⟨tr,⟨N,h1⟩,hs,p,hp,k⟩:=sA w
    refine⟨(.normal,p.1,p.2),⟨N,fun n hn=>?_⟩,k⟩
    have h2:=h1 n hn
    simp only[List.nil_append,Array.length_toList] at hs hp
    simp only at h2
    have hs2:=y8 h2 (pV hs)
    simp[evC,DV,gH,h2,ho,show(E0 P).P=P from rfl,show steady P ops.toList tr (xX ops.toList)=true from hs2,hp]
 | .seq a b,fr,h,Q,w=>by
  have w1:=fw (c:=a) w
  obtain⟨⟨e,fr1,h1⟩,⟨N,hN⟩,k⟩:=w1
  cases e with
  | normal =>
   obtain⟨r,⟨M,hM⟩,k⟩:=fw (c:=b) k
   refine⟨r,⟨max N M,fun n hn=>?_⟩,k⟩
   have e1:=hN n (Nat.le_trans (Nat.le_max_left _ _) hn)
   have e2:=hM n (Nat.le_trans (Nat.le_max_right _ _) hn)
   simp[evC,e1,e2]
  | exit i=>exact⟨(.exit i,fr1,h1),⟨N,fun n hn=>by have:=hN n hn;simp[evC,this]⟩,k⟩
  | ret=>exact⟨(.ret,fr1,h1),⟨N,fun n hn=>by have:=hN n hn;simp[evC,this]⟩,k⟩
 | .cond c a b,fr,h,Q,w=>by
  obtain⟨v,hv,w⟩:=w
  split at w
  ·rename_i c
   cases c with
   | true =>
    obtain⟨r,⟨M,hM⟩,k⟩:=fw (c:=a) (by simpa using w)
    exact⟨r,⟨M,fun n hn=>by have:=hM n hn;simp[evC,hv,this]⟩,k⟩
   | false =>
    obtain⟨r,⟨M,hM⟩,k⟩:=fw (c:=b) (by simpa using w)
    exact⟨r,⟨M,fun n hn=>by have:=hM n hn;simp[evC,hv,this]⟩,k⟩
  ·exact w.elim
 | .block id b,fr,h,Q,w=>by
  obtain⟨⟨e,fr1,h1⟩,⟨N,hN⟩,k⟩:=fw (c:=b) w
  cases e with
  | normal=>exact⟨(.normal,fr1,h1),⟨N,fun n hn=>by have:=hN n hn;simp[evC,this]⟩,k⟩
  | ret=>exact⟨(.ret,fr1,h1),⟨N,fun n hn=>by have:=hN n hn;simp[evC,this]⟩,k⟩
  | exit i =>
   cases hi:(i == id) with
   | true=>exact⟨(.normal,fr1,h1),⟨N,fun n hn=>by have:=hN n hn;simp[evC,this,hi]⟩,by simpa [hi] using k⟩
   | false=>exact⟨(.exit i,fr1,h1),⟨N,fun n hn=>by have:=hN n hn;simp[evC,this,hi]⟩,by simpa [hi] using k⟩
 | .loop b,fr,h,Q,w=>w
 | .scope b,fr,h,Q,w=>by
  obtain⟨r,⟨M,hM⟩,k⟩:=fw (c:=b) w
  exact⟨r,⟨M,fun n hn=>by have:=hM n hn;simp[evC,this]⟩,k⟩
 | .rangeFunc f ps a b,fr,h,Q,w=>Tm.congr w fun n=>by simp[evC]
 | .exit i,fr,h,Q,w=>Tm.of (a:=(.exit i,fr,h)) (fun _=>rfl) w
 | .ret,fr,h,Q,w=>Tm.of (a:=(.ret,fr,h)) (fun _=>rfl) w
 | .goto _,_,_,_,w=>w.elim
 | .refuse _,_,_,_,w=>w.elim
end Go.Id

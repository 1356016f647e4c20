/-
  The ideal machine: calls, on the model's machine.
-/
import Derived.Test.YtnnmjocmapilaaaGreatOutlierOddsAf
import Derived.RowKit3
set_option linter.unusedVariables false
set_option linter.unusedSimpArgs false
set_option linter.defProp false
set_option linter.deprecated false
namespace Go.Id
open Go Go.RowKit
variable {m:Mp}{h:IH}{B:Nat}{P:Program}{w0:World}
def tP {z:Nat} (hB:B≤z) : ∀(rs:List Nat) (fr:Frame) (cs:List Frame) (w:World),fr.mode=.returning→fr.defers=rs.map rZ→rs.Nodup → (∀r∈rs,z≤r∧w.heap[r]?=some (.deferred (some [])) ∧ ∀k s,k<h.n→m (2*k)≠some (r,s))→Rel B w0 m h w → ∃w',Steps P (lone fr cs w) (lone { fr with defers:=[] } cs w')∧Rel B w0 m h w'∧w'.heap.size=w.heap.size ∧ ∀r,r∉rs→w'.heap[r]?=w.heap[r]?
 | [],fr,cs,w,hm,hd,_,_,R=>by
  have:({ fr with defers:=[] }:Frame)=fr:=by cases fr;simp at hd;subst hd;rfl
  exact⟨w,by rw[this];exact .refl _ _,R,rfl,fun _ _=>rfl⟩
 | r :: rs,fr,cs,w,hm,hd,hn,hr,R=>by
  obtain⟨a1,a2,a3⟩:=hr r aa;have hst:=step_collected (P:=P) (fr:=fr) (cs:=cs) (d:=rZ r) (r:=r) (ds:=rs.map rZ) (by rw[hm];simp) (by rw[hd];rfl) rfl (run_takeDeferred a2);have JY : ∀r',r'≠r→(w.putObj r (.deferred none)).heap[r']?=w.heap[r']?:=fun r' h'=>World.putObj_heap_other h'
  have R1:Rel B w0 m h (w.putObj r (.deferred none)):=by
   refine R.ae (w8 R.below byOmega _) aa ?_;rintro r' (h1|⟨k,s,h1,h2⟩);·exact JY r' byOmega
   ·exact JY r' (by rintro rfl;exact a3 k s h1 h2)
  obtain⟨w',b1,b2,b3,b4⟩:=tP hB rs { fr with defers:=[] ++ rs.map rZ } cs (w.putObj r (.deferred none)) hm rfl (Db.1 hn).2 (fun r' h'=>by
   obtain⟨c1,c2,c3⟩:=hr r' (by simp[h']);exact⟨c1,by rw[JY r' (by rintro rfl;exact(Db.1 hn).1 h')];exact c2,c3⟩) R1
  refine⟨w',.head hst b1,b2,by rw[b3];simp,fun r' h'=>?_⟩;rw[b4 r' (fun h=>h' (by simp[h])),JY r' (fun h=>h' (by simp[h]))]
def DY (tmps:Array Value):ResultVar→Sem Value
 | .tmp t=>pure (tmps.getD t undef)
 | .cell a t=>do loadVar t (←Go.asAddr (tmps.getD a undef))
theorem OE (fn:Func) (tmps:Array Value):results fn tmps=(do let vs ←fn.results.mapM (DY tmps);pure (if h:vs.size=1 then vs[0] else .tuple vs)):=by unfold results;congr 1
variable {fr:Fr}{w:World}{tmps:Array Value}{v:Value}
def Jo (R:Rel B w0 m h w) (hf:gA m fr tmps) {rv:ResultVar} (hr:kC P fr h rv=some v) :∃v',(DY tmps rv).run P w=.ok v' w∧aW m v v':=by
 cases rv with
 | tmp t =>
  obtain⟨v',h1,h2⟩:=hf t v hr;exact⟨v',by simp[DY,Dk,h1,bT],h2⟩
 | cell a t =>
  simp only[kC] at hr;split at hr
  ·rename_i va hva;obtain⟨va',h1,h2⟩:=hf a va hva;obtain⟨v',h3,h4⟩:=R.load hr h2;refine⟨v',?_,h4⟩;have hp : ∃b o,va=.pointer (some ⟨b,o,none⟩):=by
    unfold Id.load at hr;cases hA:Id.asAddr va with
    | none=>simp[hA] at hr
    | some bo=>unfold Id.asAddr at hA;split at hA<;>simp_all
   obtain⟨b,o,rfl⟩:=hp;obtain⟨r,s,_,rfl⟩:=h2.nV;simp only[DY,Dk,h1,mZ];simpa [Instr.loadAt,Instr.sureAddr,Go.asAddr,bt,bT] using h3
  ·cases hr
def xr (R:Rel B w0 m h w) (hf:gA m fr tmps) : ∀(l:List ResultVar) (vs:List Value),bY P fr h l=some vs → ∃vs',(l.mapM (DY tmps)).run P w=.ok vs' w∧cg m vs vs'
 | [],vs,hr=>by simp only[bY] at hr;cases hr;exact⟨[],by simp[bT],.nil m⟩
 | rv :: l,vs,hr=>by
  rw[bY] at hr;split at hr;·rename_i v vs1 h1 h2;cases hr;obtain⟨v',a1,a2⟩:=Jo R hf h1;obtain⟨vs',b1,b2⟩:=xr R hf l vs1 h2;refine⟨v' :: vs',?_,.cons a2 b2⟩;rw[List.mapM_cons];simp only[bt,bT];rw[a1];simp only[bQ];rw[b1];simp only[bQ]
  ·cases hr
variable {vs:List Value}
def Ot {vs':List Value} (h:cg m vs vs'):aW m (single vs) (if h:vs'.toArray.size=1 then vs'.toArray[0] else .tuple vs'.toArray):=by
 have hl:=h.1
 match vs,vs',h,hl with
 | [],[],h,_=>exact aW.ji h
 | [v],[v'],h,_=>exact h.2 0 v v' rfl rfl
 | v :: u :: vs,v' :: u' :: vs',h,_ =>
  have : ¬(v' :: u' :: vs').toArray.size=1:=aa;rw[dif_neg this];exact aW.ji h
variable {fn:Func}
def BG (R:Rel B w0 m h w) (hf:gA m fr tmps) (hr:bY P fr h fn.results.toList=some vs) :∃v',(results fn tmps).run P w=.ok v' w∧aW m (single vs) v':=by obtain⟨vs',h1,h2⟩:=xr R hf _ _ hr;refine⟨_,?_,Ot h2⟩;rw[OE,bt,Array.mapM_eq_mapM_toList,map_eq_pure_bind,bt,h1];simp only[bQ,bT]
def oq (P:Program) (f:FuncId) (args:Array Value) (B:Nat) (w0:World) (m:Mp) (h:IH) (w:World) (v:Value) (h':IH):Prop :=
 Calls P f args w fun e w' => ∃v' m',e=.returned v'∧aW m' v v'∧Rel B w0 m' h' w'∧Step m h w m' h' w'
structure Sound (E:Env):Prop where
 mixed:E.P.follows .mixedOrders=true
 names : ∀(f:FuncId) (fn:Func),E.P.funcs[f]?=some fn→fn.body.isSome=true→(fn.name == "runtime.NumGoroutine")=false
 origin : ∀(f:FuncId) (fn:Func),E.P.funcs[f]?=some fn→fn.body=none → ∀{args:List Value} {v:Value},qL fn.name args=some v→fn.origin=fn.name∨fn.origin = ""
 MV : ∀f g,E.xh f=some g → ∀args h v h',g args h=some (v,h')→h.n≤h'.n
 xh : ∀f g,E.xh f=some g→(∃fn,E.P.funcs[f]?=some fn∧fn.body.isSome=true) ∧ ∀args h v h',g args h=some (v,h') → ∀(B:Nat) (w0:World) (m:Mp) (w:World) (args':Array Value),
  Rel B w0 m h w→cg m args args'.toList→iA m h.n h'.n→oq E.P f args' B w0 m h w v h'
theorem uu : ∀(l:List Value) (i t:Nat),aj (gh i l) t=if i≤t then l[t - i]? else none
 | [],i,t=>by simp[gh,aj]
 | v :: l,i,t=>by
  simp only[gh,aj,aK,bD,uu l (i+1) t];by_cases h1:i=t;·subst h1;simp
  ·by_cases h2:i≤t
   ·rw[ad h1,ah h2,ah byOmega,show t - i=(t - (i+1))+1 from by omega,NO]
   ·rw[ad h1,ad h2,ad byOmega]
variable {E:Env}{call:cQ}{f:FuncId}{n:Nat}{h':IH}
def Yg (S:Sound E) (eK:fY call) {args:List Value} (hr:sj E call n f args h=some (v,h')):h.n≤h'.n:=by
 unfold sj at hr;split at hr;·rename_i g hg;exact S.MV _ _ hg _ _ _ _ hr
 ·split at hr
  ·cases hr
  ·split at hr
   ·obtain⟨vs,_,e⟩:=bg.1 hr;cases e;exact ar _
   ·simp only[aK] at hr;split at hr
    ·split at hr
     ·cases hr
     ·rename_i fr1 h1 _ hx;obtain⟨vs,_,e⟩:=bg.1 hr;cases e;exact xE eK _ _ _ _ _ _ hx
     ·cases hr
    ·cases hr
def yI (S:Sound E) (jq:ot E.P call) (eK:fY call) {args:List Value} (hr:sj E call n f args h=some (v,h')){args':Array Value} (R:Rel B w0 m h w) (jK:cg m args args'.toList) (hfr:iA m h.n h'.n) :((∃fn,E.P.funcs[f]?=some fn∧fn.body.isSome=true)∧oq E.P f args' B w0 m h w v h')∨(∃fn,E.P.funcs[f]?=some fn∧fn.body=none∧h'=h∧qL fn.name args=some v):=by
 unfold sj at hr;split at hr;·rename_i g hg;obtain⟨h1,h2⟩:=S.xh f g hg;exact .inl ⟨h1,h2 args h v h' hr B w0 m w args' R jK hfr⟩
 ·split at hr
  ·cases hr
  ·rename_i fn hfn;split at hr
   ·rename_i hbn;obtain⟨vs,hv,e⟩:=bg.1 hr;cases e;exact .inr ⟨fn,hfn,hbn,rfl,hv⟩
   ·rename_i c hc;refine .inl ⟨⟨fn,hfn,by rw[hc];rfl⟩,?_⟩;simp only[aK] at hr;split at hr
    ·rename_i hlen;have RI:args.length≤fn.ntmps:=by simpa using hlen
     have hsz:args'.size=args.length:=by rw[jK.1];simp
     split at hr;·cases hr
     ·rename_i e fr1 h1 hne hx
      obtain⟨vs,hvs,he⟩:=bg.1 hr;cases he;intro cs;let b:Frame:={ fn:=f,tmps:=#[],todo:=[],defers:=[],mode:=.run,kind:=.normal,roundOf:=none };let tmps:Array Value:=args' ++ Array.replicate (fn.ntmps - args'.size) undef;have hen:Frame.enter E.P f args' .normal=on b tmps [.code c] []:=by simp[Frame.enter,hfn,hc,on,b,tmps]
      have WW:gA m (gh 0 args) tmps:=by
       intro t u hu;rw[uu] at hu;simp only[dT,bS,Ay] at hu;obtain⟨u',h2,h3⟩:=jK.get hu;have h4:args'[t]?=some u':=by simpa using h2
       refine⟨u',?_,h3⟩;have:=(kZ.1 h4).1;rw[Array.getElem?_append_left this,h4]
      have Zdo:fn.ntmps≤tmps.size:=by simp[tmps];omega
      obtain⟨m1,w1,eH,ds1,k1,a1,a2,a3,a4,a5,a6,a7⟩:=zi (b:=b) (rd:=none) (z:=w.heap.size) (cs:=cs) jq eK S.mixed n c _ _ _ _ _ hx m w tmps [] [] R WW Zdo hfr (.inl ⟨rfl,rfl⟩) (oI.nil _ _ _ _) (ar _);obtain⟨rs,d1,d2,d3⟩:=a7;have yz : ∃todo,step E.P (lone (on b eH k1 ds1) cs w1)=.next (lone { on b eH todo ds1 with mode:=.returning } cs w1):=by
       cases e with
       | normal=>obtain rfl:k1=_:=a2;exact⟨_,stepR_end (b:=b) (a:=⟨eH,ds1⟩) rfl⟩
       | exit i=>exact absurd rfl (hne i)
       | ret=>obtain⟨k2,rfl⟩:=a2;exact⟨_,stepR_ret (b:=b) (a:=⟨eH,ds1⟩) rfl⟩
      obtain⟨todo,yz⟩:=yz;obtain⟨w2,b1,b2,b3,b4⟩:=tP (P:=E.P) R.size rs { on b eH todo ds1 with mode:=.returning } cs w1 rfl d1 d2 d3 a5;obtain⟨v',r1,r2⟩:=BG b2 a3 hvs;refine⟨.returned v',w2,{ on b eH todo ds1 with mode:=.returning,defers:=[] },⟨v',m1,rfl,r2,b2,?_⟩,?_,?_,?_⟩;·refine⟨a6.le,a6.new,a6.n,a6.base,fun r hr hk=>?_,a6.idle,by rw[b3];exact a6.size,a6.img,a6.rB⟩;rw[b4 r (fun hm=>by have:=(d3 r hm).1;omega)];exact a6.frame r hr hk
      ·exact(by rw[hen];exact a1.trans (.head yz b1):Steps E.P (lone (Frame.enter E.P f args' .normal) cs w) _)
      ·rfl
      ·exact⟨rfl,rfl,rfl,fn,hfn,r1⟩
     ·cases hr
    ·cases hr
variable {args:Array Value}
def oq.run (H:oq P f args B w0 m h w v h') (c:Frame) (cs:List Frame) :∃v' m' w',aW m' v v'∧Rel B w0 m' h' w'∧Step m h w m' h' w'∧Steps P (lone (Frame.enter P f args .normal) (c :: cs) w) (lone (c.finish v') cs w'):=by obtain⟨e,w',fr,⟨v',m',rfl,h1,h2,h3⟩,hc,_,hl⟩:=H (c :: cs);exact⟨v',m',w',h1,h2,h3,Steps.trans hc (.one (step_leave_returned hl))⟩
def Kw (hf:P.funcs[f]?=some fn) (hb:fn.body.isSome=true) (hn:(fn.name == "runtime.NumGoroutine")=false):(callFunc f args).run P w=.ok (.enter f args) w:=by
 have hb':fn.body.isNone=false:=by cases h:fn.body<;>simp_all
 have hp:(program:Sem Program).run P w=.ok P w:=rfl;simp only[callFunc,bt,hp,bQ,hf,hn,hb'];rfl
def DG:Array Value→Sem Value:=fun args=>do
 let (x,y,b) ←Extern.MathBitsCarry.three "Sub64" args
 pure (Extern.MathBitsCarry.pair ((x+Extern.MathBitsCarry.m64 - y - b) % Extern.MathBitsCarry.m64) (if x<y+b then 1 else 0))
def Xj (h:fn.name = "math/bits.Add64"):Extern.find fn=some add64Entry:=by obtain⟨name,origin,params,resultTypes⟩:=fn;simp only at h;subst h;kernel_rfl
def Xi (h:fn.name = "math/bits.Sub64"):Extern.find fn=some DG:=by obtain⟨name,origin,params,resultTypes⟩:=fn;simp only at h;subst h;kernel_rfl
def Ws (h:fn.name = "math/bits.Add64") (ho:fn.origin = "math/bits.Add64" ∨ fn.origin = ""):Extern.findNext fn=none:=by obtain⟨name,origin,params,resultTypes⟩:=fn;simp only at h ho;subst h;rcases ho with ho|ho<;>subst ho<;>kernel_rfl
def Wr (h:fn.name = "math/bits.Sub64") (ho:fn.origin = "math/bits.Sub64" ∨ fn.origin = ""):Extern.findNext fn=none:=by obtain⟨name,origin,params,resultTypes⟩:=fn;simp only at h ho;subst h;rcases ho with ho|ho<;>subst ho<;>kernel_rfl
theorem SZ (x y:Nat) {c:Nat} (hc:c≤1) (w:World) :(DG #[.int .u64 (x:Int),.int .u64 (y:Int),.int .u64 (c:Int)]).run P w=.ok (.tuple #[.int .u64 (((x+18446744073709551616 - y - c) % 18446744073709551616:Nat):Int),.int .u64 ((if x<y+c then 1 else 0:Nat):Int)]) w:=by have:c=0∨c=1:=byOmega;rcases this with rfl|rfl<;>rfl
variable {m:Mp}
def xy {nt:Nat} : ∀(ps:List Nat) (vs:List Value) (vs':List Value) (fr fr':Fr) (tmps:Array Value),gU nt ps vs fr=some fr'→cg m vs vs'→gA m fr tmps→nt≤tmps.size → ps.length=vs.length∧gA m fr' ((ps.zip vs').foldl (fun tmps (x:Nat×Value)=>tmps.setIfInBounds x.1 x.2) tmps)∧nt≤((ps.zip vs').foldl (fun tmps (x:Nat×Value)=>tmps.setIfInBounds x.1 x.2) tmps).size
 | [],[],vs',fr,fr',tmps,h,hL,hf,ht=>by simp only[gU] at h;cases h;exact⟨rfl,hf,ht⟩
 | t :: ps,v :: vs,[],fr,fr',tmps,h,hL,hf,ht=>by have:=hL.1;simp at this
 | t :: ps,v :: vs,v' :: vs',fr,fr',tmps,h,hL,hf,ht=>by
  rw[gU] at h;split at h;·rename_i fr1 hp;obtain⟨h1,h2⟩:=wg hp hf ht (hL.2 0 v v' rfl rfl);have hL':cg m vs vs':=⟨by have:=hL.1;simpa using this,fun i x x' a b=>hL.2 (i+1) x x' (by simpa using a) (by simpa using b)⟩;obtain⟨a,b,c⟩:=xy ps vs vs' fr1 fr' (tmps.setIfInBounds t v') h hL' h1 h2;exact⟨by simp[a],b,c⟩
  ·cases h
 | [],_ :: _,_,_,_,_,h,_,_,_=>by simp[gU] at h
 | _ :: _,[],_,_,_,_,h,_,_,_=>by simp[gU] at h
variable {l':Loop}
def pG.busy {l:kN} (h:pG m l l') (st:LoopState) (p:Option Code):pG m { l with state:=st,pending:=p } { l' with state:=st,pending:=p } :=
 ⟨rfl,rfl,h.fn,h.tmps,h.nt,h.params,h.assign,h.body⟩
def pG.ZcC {l:kN} (h:pG m l l') (st:LoopState):pG m { l with state:=st } { l' with state:=st } :=
 ⟨rfl,h.pending,h.fn,h.tmps,h.nt,h.params,h.assign,h.body⟩
structure YF (E:Env) (call:cQ) (n l:Nat) (args:List Value) (h h':IH) (v:Value) where
 r:kN
 r1:kN
 r2:kN
 fr1:Fr
 fr2:Fr
 fr3:Fr
 h1:IH
 h2:IH
 e:cL
 loop:ja h l=some r
 put:gU r.nt r.params args r.fr=some fr1
 assign:evC E call r.fn r.nt (some l) n r.assign fr1 h=some (.normal,fr2,h1)
 ZbK:ja h1 l=some r1
 ready:r1.state=.ready
 body:evC E call r.fn r.nt (some l) n r.body fr2 { h1 with ext:=h1.ext.set l (.loop { r1 with state:=.busy }) }=some (e,fr3,h2)
 ZbJ:ja h2 l=some r2
 done:(e=.normal∧v=.bool true∧h' = { h2 with ext:=h2.ext.set l (.loop { r2 with state:=.ready,pending:=none }) }) ∨
  (∃i,e=.exit i∧v=.bool false∧h' = { h2 with ext:=h2.ext.set l (.loop { r2 with state:=.done,pending:=some (.exit i) }) }) ∨
  (e=.ret∧v=.bool false∧h' = { h2 with ext:=h2.ext.set l (.loop { r2 with state:=.done,pending:=some .ret }) })
variable {call:cQ}{h':IH}{E:Env}{h:IH}{l n:Nat}{args:List Value}{v:Value}
theorem xG (hr:gi E call n l args h=some (v,h')):Nonempty (YF E call n l args h h' v):=by
 unfold gi at hr;split at hr;·cases hr
 ·rename_i r hl;split at hr
  ·cases hr
  ·rename_i fr1 hp;split at hr
   ·rename_i fr2 h1 hx;split at hr
    ·cases hr
    ·rename_i r1 hl1;simp only[aK,bD] at hr;split at hr
     ·rename_i hst;split at hr
      ·cases hr
      ·rename_i e fr3 h2 hy;split at hr
       ·cases hr
       ·rename_i r2 hl2;split at hr<;>cases hr
        ·exact⟨⟨r,r1,r2,fr1,fr2,fr3,h1,h2,_,hl,hp,hx,hl1,hst,hy,hl2,.inl ⟨rfl,rfl,rfl⟩⟩⟩
        ·exact⟨⟨r,r1,r2,fr1,fr2,fr3,h1,h2,_,hl,hp,hx,hl1,hst,hy,hl2,.inr (.inl ⟨_,rfl,rfl,rfl⟩)⟩⟩
        ·exact⟨⟨r,r1,r2,fr1,fr2,fr3,h1,h2,_,hl,hp,hx,hl1,hst,hy,hl2,.inr (.inr ⟨rfl,rfl,rfl⟩)⟩⟩
     ·cases hr
   ·cases hr
def Nq (eK:fY call) (hr:gi E call n l args h=some (v,h')):h.n≤h'.n:=by
 obtain⟨Y⟩:=xG hr;have n1:=xE eK _ _ _ _ _ _ Y.assign;have n2:=xE eK _ _ _ _ _ _ Y.body;have n3:h'.n=Y.h2.n:=by rcases Y.done with⟨_,_,e⟩|⟨_,_,_,e⟩|⟨_,_,e⟩<;>exact(gC IH.n e).trans rfl
 rw[n3];exact bA n1 n2
variable {args':Array Value}
def Gi (S:Sound E) (jq:ot E.P call) (eK:fY call) (hr:gi E call n l args h=some (v,h')){B:Nat} {w0:World} {w:World} (R:Rel B w0 m h w) (jK:cg m args args'.toList) (hfr:iA m h.n h'.n) {r0 s0:Nat} (hm:m (2*l)=some (r0,s0)) :∃f ts a c,(Instr.yield r0 args').run E.P w=.ok (.round r0 f ts a c) w ∧
   ∀(c0:Frame) (cs:List Frame),∃v' m' w',aW m' v v'∧Rel B w0 m' h' w'∧Step m h w m' h' w'∧Steps E.P (lone (Frame.round r0 f ts a c .normal) (c0 :: cs) w) (lone (c0.finish v') cs w'):=by
 obtain⟨Y⟩:=xG hr;have n1:=xE eK _ _ _ _ _ _ Y.assign;have n2:=xE eK _ _ _ _ _ _ Y.body;have n3:h'.n=Y.h2.n:=by rcases Y.done with⟨_,_,e⟩|⟨_,_,_,e⟩|⟨_,_,e⟩<;>exact(gC IH.n e).trans rfl
 obtain⟨_,L,hL,nD⟩:=R.obj _ _ _ _ (kE Y.loop) hm;obtain⟨p1,p2,p3⟩:=xy Y.r.params args args'.toList Y.r.fr Y.fr1 L.tmps Y.put jK nD.tmps nD.nt;have hsz:args'.size=L.params.size:=by
  have h1:L.params.size=Y.r.params.length:=by rw[←nD.params];simp
  have h2:=jK.1;simp at h2;omega
 have htm:(L.params.zip args').foldl (fun tmps (x:Tmp×Value)=>tmps.setIfInBounds x.1 x.2) L.tmps=(Y.r.params.zip args'.toList).foldl (fun tmps (x:Nat×Value)=>tmps.setIfInBounds x.1 x.2) L.tmps:=by rw[←Array.foldl_toList,Array.toList_zip,nD.params]
 rw[←htm] at p2 p3;refine⟨_,_,_,_,run_yield hL hsz,fun c0 cs=>?_⟩;let b:Frame:={ fn:=L.fn,tmps:=#[],todo:=[],defers:=[],mode:=.run,kind:=.normal,roundOf:=some r0 };have hb:b.fn=Y.r.fn:=nD.fn;have hx:=Y.assign;rw[←hb] at hx;obtain⟨m1,w1,eH,ds1,k1,a1,a2,a3,a4,a5,a6,a7⟩:=zi (b:=b) (rd:=some l) (z:=w.heap.size) (cs:=c0 :: cs) jq eK S.mixed n Y.r.assign _ _ _ _ _ hx m w _ [.beginRound,.code Y.r.body] [] R p2 p3 (hfr.sub (ar _) (by rw[n3];exact n2)) (.inr ⟨l,r0,s0,rfl,rfl,hm⟩) (oI.nil _ _ _ _) (ar _);obtain rfl:k1=_:=a2;have hm1:=(a6.le _ _ hm).1;obtain⟨hs0,L1,hL1,ZbR⟩:=a5.obj _ _ _ _ (kE Y.ZbK) hm1;obtain⟨Rb,Sb⟩:=a5.setObj (o1:=.loop { Y.r1 with state:=.busy }) (o':=.loop { L1 with state:=.busy }) (kE Y.ZbK) rfl rfl hm1 rfl (fun w' z e=>⟨hs0,_,e,ZbR.ZcC .busy⟩);have hbeg:(Instr.beginRound r0).run E.P w1=.ok () (w1.putObj r0 (.loop { L1 with state:=.busy })):=run_beginRound hL1 (by rw[ZbR.state];exact Y.ready);have st1:step E.P (lone (on b eH (.beginRound :: [.code Y.r.body]) ds1) (c0 :: cs) w1)=.next (lone (on b eH [.code Y.r.body] ds1) (c0 :: cs) (w1.putObj r0 (.loop { L1 with state:=.busy }))) :=
  stepR_beginRound (b:=b) (a:=⟨eH,ds1⟩) rfl hbeg
 have hy:=Y.body;rw[←hb] at hy;have S1b:=a6.trans Sb;obtain⟨m2,w2,GA,ds2,k2,b1,b2,b3,b4,b5,b6,b7⟩:=zi (b:=b) (rd:=some l) (z:=w.heap.size) (cs:=c0 :: cs) jq eK S.mixed n Y.r.body _ _ _ _ _ hy m1 _ eH [] ds1 Rb a3 a4 ((S1b.fresh hfr).sub (ar _) (by rw[n3];exact ar _)) (.inr ⟨l,r0,s0,rfl,rfl,hm1⟩) (a7.step Sb) (bA a6.size Sb.size);have hm2:=(b6.le _ _ hm1).1;obtain⟨_,L2,hL2,ZfG⟩:=b5.obj _ _ _ _ (kE Y.ZbJ) hm2;have start:lone (Frame.round r0 L.fn ((L.params.zip args').foldl (fun tmps (x:Tmp×Value)=>tmps.setIfInBounds x.1 x.2) L.tmps) L.assign L.body .normal) (c0 :: cs) w =
   lone (on b ((L.params.zip args').foldl (fun tmps (x:Tmp×Value)=>tmps.setIfInBounds x.1 x.2) L.tmps) (.code Y.r.assign :: [.beginRound,.code Y.r.body]) []) (c0 :: cs) w:=by
  rw[nD.assign,nD.body];rfl
 have path:=a1.trans (.head st1 b1);have fin : ∀(e:cL) (u:Value) (st:LoopState) (EA:Option Code),h' = { Y.h2 with ext:=Y.h2.ext.set l (.loop { Y.r2 with state:=st,pending:=EA }) }→u=.bool EA.isNone→v=u → (st=if EA.isNone then .ready else .done) →
   step E.P (lone (on b GA k2 ds2) (c0 :: cs) w2)=.next (lone (c0.finish u) cs (w2.putObj r0 (.loop { L2 with state:=if EA.isNone then .ready else .done,pending:=EA }))) →
   ∃v' m' w',aW m' v v'∧Rel B w0 m' h' w'∧Step m h w m' h' w'∧Steps E.P (lone (Frame.round r0 L.fn ((L.params.zip args').foldl (fun tmps (x:Tmp×Value)=>tmps.setIfInBounds x.1 x.2) L.tmps) L.assign L.body .normal) (c0 :: cs) w) (lone (c0.finish v') cs w'):=by
  intro e u st EA e1 e2 e3 e4 hst;obtain⟨R3,S3⟩:=b5.setObj (o1:=.loop { Y.r2 with state:=st,pending:=EA }) (o':=.loop { L2 with state:=st,pending:=EA }) (kE Y.ZbJ) rfl rfl hm2 rfl (fun w' z e=>⟨hs0,_,e,ZfG.busy st EA⟩);refine⟨u,m2,_,by rw[e3,e2];exact .ct rfl,by rw[e1];exact R3,by rw[e1];exact(S1b.trans b6).trans S3,?_⟩;rw[start];rw[←e4] at hst;exact path.trans (.one hst)
 rcases Y.done with⟨e1,e2,e3⟩|⟨i,e1,e2,e3⟩|⟨e1,e2,e3⟩;·rw[e1] at b2;obtain rfl:k2=_:=b2;exact fin .normal (.bool true) .ready none e3 rfl e2 rfl (stepR_round_end (b:=b) (a:=⟨GA,ds2⟩) rfl rfl (run_endRound none hL2))
 ·rw[e1] at b2
  obtain⟨k3,rfl,hk3⟩:=b2;exact fin (.exit i) (.bool false) .done (some (.exit i)) e3 rfl e2 rfl (stepR_round_exit (b:=b) (a:=⟨GA,ds2⟩) rfl rfl (by rw[hk3];rfl) (run_endRound (some (.exit i)) hL2))
 ·rw[e1] at b2;obtain⟨k3,rfl⟩:=b2;exact fin .ret (.bool false) .done (some .ret) e3 rfl e2 rfl (stepR_round_ret (b:=b) (a:=⟨GA,ds2⟩) rfl rfl (run_endRound (some .ret) hL2))
def Us {P:Program} {f:FuncId} {fn:Func} (hf:P.funcs[f]?=some fn) (hb:fn.body=none) (ho:fn.origin=fn.name∨fn.origin = "") (hc:qL fn.name args=some v) (jK:cg m args args'.toList) (w:World) :∃v',(callFunc f args').run P w=.ok (.value v') w∧aW m v v' ∧ ∀a∈args'.toList,∃k n,a=Value.int k n:=by
 unfold qL at hc;split at hc
 case h_2=>cases hc
 rename_i x y c;simp only[aK] at hc;split at hc
 case isFalse=>cases hc
 rename_i hle;have W5:c≤1:=by simpa using hle
 obtain⟨a0,b0,r0⟩:=jK.get (i:=0) rfl;obtain⟨a1,b1,r1⟩:=jK.get (i:=1) rfl;obtain⟨a2,b2,r2⟩:=jK.get (i:=2) rfl;have e0:=r0.dN rfl;have e1:=r1.dN rfl;have e2:=r2.dN rfl;subst e0;subst e1;subst e2;have hl:args'.toList = [.int .u64 (.ofNat x),.int .u64 (.ofNat y),.int .u64 (.ofNat c)]:=by
  have h1:=jK.1;apply jT;intro i
  match i with
  | 0=>exact b0
  | 1=>exact b1
  | 2=>exact b2
  | i+3=>rw[cI (by simp at h1 ⊢;omega),cI aa]
 have ha:args' = #[.int .u64 (.ofNat x),.int .u64 (.ofNat y),.int .u64 (.ofNat c)]:=by rw[←Array.toArray_toList (xs:=args'),hl]
 have hint : ∀a∈args'.toList,∃k n,a=Value.int k n:=by rw[hl];intro a h;simp only[dD,List.not_mem_nil,or_false] at h;rcases h with rfl|rfl|rfl<;>exact⟨_,_,rfl⟩
 split at hc
 ·rename_i hn;have hn:fn.name = "math/bits.Add64" := by simpa using hn
  cases hc;refine⟨_,?_,aW.ji (cs:=#[.int .u64 _,.int .u64 _]) (cs':=#[.int .u64 _,.int .u64 _]) (.cons (.ct rfl) (.cons (.ct rfl) (.nil _))),hint⟩;rw[run_callFunc_extern hf (by rw[hn];decide +kernel) (by rw[hb];rfl) (Ws hn (ho.imp (fun e=>by rw[e,hn]) id)) (Xj hn),ha,run_add64 _ _ _ (by exact AE _) (by exact AE _) (by exact AE _) (by exact Int.ofNat_le.2 W5)];simp only[bQ];rfl
 ·split at hc
  ·rename_i hn
   have hn:fn.name = "math/bits.Sub64" := by simpa using hn
   cases hc;refine⟨_,?_,aW.ji (cs:=#[.int .u64 _,.int .u64 _]) (cs':=#[.int .u64 _,.int .u64 _]) (.cons (.ct rfl) (.cons (.ct rfl) (.nil _))),hint⟩;rw[run_callFunc_extern hf (by rw[hn];decide +kernel) (by rw[hb];rfl) (Wr hn (ho.imp (fun e=>by rw[e,hn]) id)) (Xi hn),ha];show((DG #[.int .u64 (x:Int),.int .u64 (y:Int),.int .u64 (c:Int)]).run P w).andThen _=_;rw[SZ x y W5];simp only[bQ];congr 4;by_cases hlt:x<y+c;·simp[hlt]
   ·simp[hlt]
  ·cases hc
def kH (S:Sound E) : ∀n,fY (dj E n)
 | 0=>fun fv vs h h' v hr=>by simp[dj] at hr
 | n+1=>fun fv vs h h' v hr=>by
  unfold dj at hr;split at hr;·exact Yg S (kH S n) hr
  ·simp only[aK] at hr;split at hr
   ·exact Nq (kH S n) hr
   ·cases hr
  ·cases hr
def tv (S:Sound E) : ∀n,ot E.P (dj E n)
 | 0=>fun fv vs h h' v hr=>by simp[dj] at hr
 | n+1=>fun fv vs h h' v hr B w0 m w fv' vs' R hfv hvs hfr=>by
  unfold dj at hr;split at hr
  ·rename_i f first cap
   obtain⟨fn',Ka,Zd6,rfl,hfn,h1,h2⟩:=hfv.zW;cases fn'<;>simp only[wF] at hfn;subst hfn;have jK:cg m (first.toList ++ (vs ++ cap.toList)) (Ka ++ vs' ++ Zd6).toList:=by rw[Di,Di,List.append_assoc];exact h1.append (hvs.append h2)
   rcases yI S (tv S n) (kH S n) hr R jK hfr with⟨⟨fn,hf,hb⟩,hC⟩|⟨fn,hf,hb,rfl,hcv⟩
   case inr =>
    obtain⟨v',e1,e2,e3⟩:=Us hf hb (S.origin f fn hf hb hcv) hcv jK w;refine⟨.value v',?_,.inl ⟨v',rfl,rfl,e2,fun a ha=>e3 a (by rw[Di,Di];simp[ha])⟩⟩;simp only[Deferred.ofValue,bt,bT,bQ,invoke];exact e1
   refine⟨.enter f (Ka ++ vs' ++ Zd6),?_,.inr ⟨_,.inl ⟨_,_,rfl,rfl⟩,fun c cs=>hC.run c cs⟩⟩;simp only[Deferred.ofValue,bt,bT,bQ,invoke];exact Kw hf hb (S.names f fn hf hb)
  ·rename_i l first cap
   simp only[aK,bD] at hr;split at hr
   ·rename_i hev;obtain⟨fn',Ka,Zd6,rfl,hfn,h1,h2⟩:=hfv.zW;cases fn'<;>simp only[wF] at hfn;obtain⟨s,hm⟩:=hfn;have hl:2*(l / 2)=l:=byOmega;rw[←hl] at hm;have jK:cg m (first.toList ++ vs) (Ka ++ vs').toList:=by rw[Di];exact h1.append hvs
    obtain⟨f,ts,a,c,hy,cu⟩:=Gi S (tv S n) (kH S n) hr R jK hfr hm;refine⟨_,?_,.inr ⟨_,.inr ⟨_,f,ts,a,c,rfl,rfl⟩,cu⟩⟩;simp only[Deferred.ofValue,bt,bT,bQ,invoke];exact hy
   ·cases hr
  ·cases hr
def IH.start (base:Nat→Option (List Value)):IH:={ base,n:=0,ext:=.leaf,cZ:=.leaf }
def Mp.pn (A:Nat→Nat×Nat):Mp:=⟨fun b=>if b % 2=1 then some (if b / 2<4294967296 then (b / 2,0) else A (b / 2 - 4294967296)) else none,fun _=>(0,0)⟩
def Mp.BA (A:Nat→Nat×Nat) {b:Nat} (h:b<4294967296):Mp.pn A (2*b+1)=some (b,0):=by show(if (2*b+1) % 2=1 then some (if (2*b+1) / 2<4294967296 then ((2*b+1) / 2,0) else A ((2*b+1) / 2 - 4294967296)) else none)=some (b,0);rw[ah byOmega,ah byOmega,show(2*b+1) / 2=b from by omega]
def Mp.y7 (A:Nat→Nat×Nat) (i:Nat):Mp.pn A (2*(4294967296+i)+1)=some (A i):=by show(if (2*(4294967296+i)+1) % 2=1 then some (if (2*(4294967296+i)+1) / 2<4294967296 then ((2*(4294967296+i)+1) / 2,0) else A ((2*(4294967296+i)+1) / 2 - 4294967296)) else none)=some (A i);rw[ah byOmega,ad byOmega,show(2*(4294967296+i)+1) / 2 - 4294967296=i from by omega]
theorem Mp.y8 (A:Nat→Nat×Nat) (k:Nat):Mp.pn A (2*k)=none:=by show(if (2*k) % 2=1 then _ else none)=none;rw[ad byOmega]
def Qc (A:Nat→Nat×Nat) (base:Nat→Option (List Value)) (w:World):Prop:=∀b cs,base b=some cs → ∃r s,Mp.pn A (2*b+1)=some (r,s) ∧ ∃c el fz,w.heap[r]?=some (.cells c el fz)∧rK (Mp.pn A) cs c s
variable {w:World}
theorem Rel.start {A:Nat→Nat×Nat} {base:Nat→Option (List Value)} (hb:Qc A base w):Rel w.heap.size w (Mp.pn A) (IH.start base) w:=by
 have leaf : ∀{α:Type} (k:Nat),(Tr.leaf:Tr α).get k=none:=fun k=>rfl;refine⟨Below.refl _ _,ar _,?_,fun b h=>Mp.BA A h,?_,fun k _=>leaf k,?_,?_,?_,?_,?_,?_⟩;·intro b cs h;obtain⟨r,s,h0,c,el,fz,h1,h2⟩:=hb b cs h;exact⟨r,s,h0,(kZ.1 h1).1,c,el,fz,h1,h2⟩
 ·intro k r s h
  rw[Mp.y8] at h;cases h
 ·intro k o r s h;cases h
 ·intro k k' o o' r s s' _ h;cases h
 ·intro f st h;cases h
 ·intro k cs t f h;cases h
 ·intro f st h;cases h
 ·intro f st x y h;cases h
def A6 {w':World} (h:Below w.heap.size w w') (may:MemPlace→Prop):w.keptBut w' may:=by
 refine⟨h.os,h.output,fun i hi=>?_⟩;rw[h.block i hi];cases hx:w.heap[i]? with
 | none=>rfl
 | some o =>
  cases o with
  | cells c t fr=>exact⟨rfl,rfl,rfl,fun _ _=>rfl⟩
  | map es cl=>exact .inr ⟨rfl,rfl⟩
  | _=>rfl
def F9 {H:Type} {enc:TypeId×Value→H} {P:Program} {f:Func} {s:ChangeSpec} {apart fresh handsOn:Bool} {W W':World} {args:Array Value} {v:Value} {ds gs:List (DataW H)} {before pa pv:List MemPlace}(hW:DataW.Whole enc P f.params.toList s.vars apart W args.toList ds gs before)(Pq : ∀(b:Nat) (sp:Nat→Bool) (hd:Bool),DataW.TrodAll enc P W' b sp hd f.resultTypes.toList (v.resultList f.resultTypes.size) (s.fn H (ds ++ gs)).results [])(jK : ∀sp:Nat→Bool,(∀p∈before,sp p.block=true)→DataW.TrodAll enc P W' 0 sp true f.params.toList args.toList (s.fn H (ds ++ gs)).args pa)(Zfy : ∀sp:Nat→Bool,(∀p∈before,sp p.block=true)→DataW.TrodVars enc P W' sp s.vars (s.fn H (ds ++ gs)).vars pv)(hk:Below W.heap.size W W'):s.post enc P f apart fresh handsOn false W args v W':=by
 have hold : ∀p∈before,(fun b=>decide (b<W.heap.size)) p.block=true:=fun p hp=>by simpa using hW.lt p hp
 exact⟨ds,gs,before,[],pa,pv,hW,Pq _ _ _,jK _ hold,Zfy _ hold,A6 hk _,fun h=>by cases h⟩
end Go.Id
namespace Go.Id
open Go
open Go renaming Operand→QY,Program→QX,TypeId→QZ,Value→QQ
open Nat renaming reduceAdd→zA,reduceEqDiff→zE,reduceLeDiff→zL
open Nat (reduceMul)
set_option maxHeartbeats 16000000
def Bh (o:Oper):Bool:=eF o.op == .pure || eF o.op == .load
def mu (ops:List Oper) (i p:Nat):Bool :=
 (List.range ops.length).all fun j => !(Nat.ble (min i p) j && Nat.blt j (max i p)) || (match ops[j]? with|some o=>Bh o|none=>false)
def GX (ops:List Oper):List (Nat×List Nat):=(Ch ops).filterMap fun e=>match e.2.filter (fun p => !mu ops e.1 p) with
 | []=>none
 | l=>some (e.1,l)
variable {E:Env}{nt:Nat}{fr:Fr}{call:cQ}{h:IH}{ops:List Oper}
def Uu {o:Oper} {fr':Fr} {h':IH} (hc:Bh o=true) (hs:ft E call nt ops o fr h=some (fr',h')):h'=h:=by
 have hne:eF o.op≠.chain:=by intro hk;simp[Bh,hk] at hc
 unfold ft at hs;split at hs
 ·rw[iK hne] at hs;split at hs
  ·rename_i v h1 hi;obtain⟨f,_,e⟩:=bg.1 hs;cases e;simp only[Bh,nh,bD] at hc;rcases hc with hc|hc
   ·exact(EC hc hi).1
   ·exact ED hc hi
  ·cases hs
 ·obtain⟨f,_,e⟩:=bg.1 hs;cases e;rfl
 ·cases hs
variable {tr:List (Fr×IH)}
def yH (ht:trace E call nt ops ops fr h=some tr) : ∀(d a:Nat) (x y:Fr×IH),(∀j,a≤j→j<a+d → ∃o,ops[j]?=some o∧Bh o=true)→tr[a]?=some x→tr[a+d]?=some y→y.2=x.2
 | 0,a,x,y,_,hx,hy=>by rw[fR,hx] at hy;cases hy;rfl
 | d+1,a,x,y,hc,hx,hy=>by obtain⟨o,ho,hco⟩:=hc a (ar _) byOmega;obtain⟨_,_,h3⟩:=tQ ops fr h tr ht;obtain⟨fr1,h1,fr2,h2,e1,e2,hs⟩:=h3 a o ho;rw[hx] at e1;cases e1;have e3:=Uu hco hs;have:=yH ht d (a+1) (fr2,h2) y (fun j a1 a2=>hc j byOmega byOmega) e2 (by rw[←hy];congr 1;omega);rw[this];exact e3
def Uv (ht:trace E call nt ops ops fr h=some tr) {i p:Nat} (hc:mu ops i p=true) (hi:i≤ops.length) (hp:p≤ops.length) {x y:Fr×IH} (hx:tr[i]?=some x) (hy:tr[p]?=some y):y.2=x.2:=by
 simp only[mu,gG,xX,nh,IG,Bool.and_eq_false_iff] at hc
 have key : ∀j,min i p≤j→j<max i p → ∃o,ops[j]?=some o∧Bh o=true:=by
  intro j a b;rcases hc j byOmega with hh|hh
  ·rcases hh with hh|hh
   ·rw[oR] at hh;exact absurd (by rw[bI];exact a) hh
   ·rw[oR] at hh;exact absurd (by simp only[Nat.blt,bI];omega) hh
  ·split at hh
   ·rename_i o ho;exact⟨o,ho,hh⟩
   ·cases hh
 rcases Nat.le_total i p with hip|hip;·exact yH ht (p - i) i x y (fun j a b=>key j byOmega byOmega) hx (by rw[←hy];congr 1;omega)
 ·exact(yH ht (i - p) p y x (fun j a b=>key j byOmega byOmega) hy (by rw[←hx];congr 1;omega)).symm
def V9 {e:Nat×List Nat} (he:e∈Ch ops):(∃o,ops[e.1]?=some o∧eF o.op=.load) ∧ ∀p∈e.2,p≤ops.length:=by
 simp only[Ch,IB,xX] at he;obtain⟨i,hi,he⟩:=he;split at he;·cases he
 ·rename_i o ho;simp only[aK,bD] at he;split at he
  ·rename_i hk;cases he;refine⟨⟨o,ho,hk⟩,fun p hp=>?_⟩;have:=(tI.1 hp).1;rw[eE] at this;rcases this with h1|h1
   ·have:=(tI.1 h1).1;rw[xX] at this;omega
   ·simp at h1;omega
  ·cases he
def DI (ht:trace E call nt ops ops fr h=some tr) (hs:steady E.P ops tr (GX ops)=true):steady E.P ops tr (Ch ops)=true:=by
 simp only[steady,gG] at hs ⊢;intro e he;obtain⟨⟨o,ho,hk⟩,hps⟩:=V9 he;obtain⟨hlen,_,h3⟩:=tQ ops fr h tr ht;obtain⟨fr1,h1,fr2,h2,e1,e2,hst⟩:=h3 e.1 o ho;have hi:e.1<ops.length:=(bZ.1 ho).1;simp only[ho,e1];split
 ·rename_i hw;rw[gG];intro p hp;have hpl:=hps p hp
  obtain⟨⟨fp,hpp⟩,hp1⟩ : ∃y,tr[p]?=some y:=⟨tr[p]' byOmega,bK byOmega⟩
  cases hcb:mu ops e.1 p with
  | true =>
   have ij:=Uv ht hcb (pO hi) hpl e1 hp1;simp only at ij;simp only[hp1];subst ij;unfold ft at hst;simp only[hw] at hst;rw[iK (by rw[hk];simp)] at hst;split at hst;·rename_i v h1' hv;simp[jH,hv,Na]
   ·cases hst
  | false =>
   have Pr : ∃l,(e.1,l)∈GX ops∧p∈l:=by
    refine⟨e.2.filter (fun p => !mu ops e.1 p),?_,by simp[hp,hcb]⟩;simp only[GX,IB];refine⟨e,he,?_⟩;split
    ·rename_i Zdw;have:p∈e.2.filter (fun p => !mu ops e.1 p):=by simp[hp,hcb]
     rw[Zdw] at this;cases this
    ·rfl
   obtain⟨l,hl,hpl⟩:=Pr;have:=hs _ hl;simp only[ho,e1,hw,gG] at this;exact this p hpl
 ·rfl
def zl : ∀(l:List Oper) (fr:Fr) (h:IH) (r:Fr×IH),iX E call nt ops l fr h=some r → ∃tr,trace E call nt ops l fr h=some tr∧tr[l.length]?=some r
 | [],fr,h,r,hr=>by simp only[iX] at hr;cases hr;exact⟨_,rfl,rfl⟩
 | o :: l,fr,h,r,hr=>by
  rw[iX] at hr;split at hr;·rename_i fr1 h1 hs;obtain⟨tr,e1,e2⟩:=zl l fr1 h1 r hr;exact⟨(fr,h) :: tr,by simp[trace,hs,e1],by simpa using e2⟩
  ·cases hr
def jC (ops:List Oper):Bool:=pA ops && (GX ops).isEmpty
def FY {r:Fr×IH} (hc:jC ops=true) (hr:iX E call nt ops ops fr h=some r):kB E call nt ops fr h=some r:=by simp only[jC,eV,List.isEmpty_iff] at hc;obtain⟨tr,e1,e2⟩:=zl ops fr h r hr;have hs:steady E.P ops tr (Ch ops)=true:=DI e1 (by rw[hc.2];rfl);simp[kB,e1,hc.1,hs,e2]
def E0 (P:QX):Env:=⟨P,fun _ _=>none,fun _=>none⟩
def Tm {α:Type} (o:Nat→Option α) (Q:α→Prop):Prop:=∃a,(∃N,∀n,N≤n→o n=some a)∧Q a
variable {α:Type}{o:Nat→Option α}{Q:α→Prop}
def Tm.mono {R:α→Prop} (h:Tm o Q) (k : ∀a,Q a→R a):Tm o R :=
 let ⟨a,h1,h2⟩:=h;⟨a,h1,k a h2⟩
variable {a:α}
def Tm.of (h : ∀n,o n=some a) (q:Q a):Tm o Q:=⟨a,⟨0,fun n _=>h n⟩,q⟩
variable {β:Type}
theorem Tm.of2 {o:Nat→Option (α×β)} {K:α→β→Prop} {b:β} (k:K a b) (h : ∀n,o n=some (a,b)):Tm o fun p=>K p.1 p.2:=⟨(a,b),⟨0,fun n _=>h n⟩,k⟩
def Tm.bind {p:Nat→Option β} {Q:β→Prop} (f:α→Nat→Option β) (h:Tm o fun a=>Tm (f a) Q) (hp : ∀n a,o n=some a→p n=f a n):Tm p Q:=by obtain⟨a,⟨N,h1⟩,b,⟨M,h2⟩,q⟩:=h;refine⟨b,⟨max N M,fun n hn=>?_⟩,q⟩;rw[hp n a (h1 n (bA (CZ _ _) hn)),h2 n (bA (CY _ _) hn)]
def Tm.congr {p:Nat→Option α} (h:Tm o Q) (e : ∀n,p n=o n):Tm p Q :=
 let ⟨a,⟨N,h1⟩,h2⟩:=h;⟨a,⟨N,fun n hn=>(e n).trans (h1 n hn)⟩,h2⟩
def Ex {α:Type} (o:Option α) (K:α→Prop):Prop:=∃v,o=some v∧K v
@[congr] theorem Zhc {α:Type} {o o':Option α} {K:α→Prop} (h:o=o'):Ex o K=Ex o' K:=by rw[h]
@[simp] theorem KL {α:Type} (v:α) (K:α→Prop):Ex (some v) K=K v:=by simp[Ex]
@[simp] theorem Zhh {α:Type} (K:α→Prop):Ex none K=False:=by simp[Ex]
@[simp] theorem Zes {α β:Type} (o:Option α) (f:α→β) (K:β→Prop):Ex (o.map f) K=Ex o fun v=>K (f v):=by cases o<;>simp[Ex]
theorem Ex.mono {o:Option α} {K L:α→Prop} (h:Ex o K) (k : ∀v,K v→L v):Ex o L:=let ⟨v,a,b⟩:=h;⟨v,a,k v b⟩
def Br (b:Bool) (p q:Prop):Prop:=if b=true then p else q
@[congr] theorem Zhe {b b':Bool} {p q:Prop} (h:b=b'):Br b p q=Br b' p q:=by rw[h]
@[simp] theorem Za7 (p q:Prop):Br true p q=p:=by simp[Br]
@[simp] theorem YK (p q:Prop):Br false p q=q:=by simp[Br]
theorem Br.intro {b:Bool} {p q:Prop} (h1:b=true→p) (h2:b=false→q):Br b p q:=by cases b<;>simp_all [Br]
def Lt (p:Prop):Prop:=p
@[congr] theorem Zg7 {p:Prop}:Lt p=Lt p:=rfl
def WV (P:QX) (fv:QQ) (vs:List QQ) (h:IH) (K:QQ→IH→Prop):Prop:=Tm (fun n=>dj (E0 P) n fv vs h) fun p=>K p.1 p.2
variable {P:QX}{h:IH}{K:QQ→IH→Prop}
@[congr] theorem Zg4 {P:QX} {fv fv':QQ} {vs vs':List QQ} {h h':IH} {K:QQ→IH→Prop} (a:fv=fv') (b:vs=vs') (c:h=h'):WV P fv vs h K=WV P fv' vs' h' K:=by rw[a,b,c]
theorem WV.mono {fv:QQ} {vs:List QQ} {L:QQ→IH→Prop} (w:WV P fv vs h K) (k : ∀v h',K v h'→L v h'):WV P fv vs h L:=Tm.mono w fun _ x=>k _ _ x
def wpOp (P:QX) (o:Op) (fr:Fr) (h:IH) (K:QQ→IH→Prop):Prop :=
 match o with
 | .move x=>Ex (opd fr x) fun v=>K v h
 | .assign x=>Ex (opd fr x) fun v=>K v h
 | .pick c a b=>Ex (opd fr c) fun c=>Ex (opd fr a) fun a=>Ex (opd fr b) fun b=>c=.bool true∧K a h∨c=.bool false∧K b h
 | .alloc t=>Ex (aT P t) fun z=>K (ptr (2*h.n) 0) (h.new (.cells z 0 none))
 | .box _ x=>Ex (opd fr x) fun v=>K (ptr (2*h.n) 0) (h.new (.cells v.cells.toList 0 none))
 | .load t a=>Ex (opd fr a) fun a=>Ex (load P h t a) fun v=>K v h
 | .store t a x=>Ex (opd fr a) fun a=>Ex (opd fr x) fun x=>Ex (store P h t a x) fun h=>K undef h
 | .binOp op t x y _=>Ex (opd fr x) fun a=>Ex (opd fr y) fun b=>Ex (binop P op t x y a b) fun v=>K v h
 | .fieldAddr t x f=>Ex (opd fr x) fun x=>Ex (jf P t f) fun f=>Ex (asAddr x) fun a=>Ex (ba P f.type) fun n=>n≠0∧K (ptr a.1 (a.2+f.offset)) h
 | .indexAddr t x i=>Ex (opd fr x) fun x=>Ex (opd fr i) fun i=>Ex (indexAddr P t x i) fun v=>K v h
 | .extract x i=>Ex (opd fr x) fun x=>match x with
  | .tuple vs=>Ex vs[i]? fun v=>K v h
  | _=>False
 | .makeFunc fn first cap=>Ex (jV fr first.toList) fun a=>Ex (jV fr cap.toList) fun b=>match fn with
  | .func f=>K (.func (.func f) a.toArray b.toArray) h
  | _=>False
 | .call c=>match c.callee with
  | .value f=>Ex (opd fr f) fun fv=>Ex (jV fr c.args.toList) fun vs=>WV P fv vs h K
  | .builtin b=>Ex (jV fr c.args.toList) fun vs=>Ex (builtin P h b c.argTypes vs) fun r=>K r.1 r.2
  | _=>False
 | o=>Ex (iop P fr o h) fun r=>K r.1 r.2
variable {fr:Fr}
def NZ {o:Op} (w:wpOp P o fr h K):Tm (fun n=>fw (E0 P) (dj (E0 P) n) fr o h) fun p=>K p.1 p.2:=by
 unfold wpOp at w
 split at w
 case h_13 c =>
  split at w;·obtain⟨fv,h1,vs,h2,k⟩:=w;rename_i f hc;refine Tm.congr k fun n=>?_;simp[fw,hc,h1,h2]
  ·obtain⟨vs,h1,r,h2,k⟩:=w
   rename_i b hc;refine Tm.of (a:=r) (fun n=>?_) k
   simp[fw,hc,iop,h1,h2,E0]
  ·exact w.elim
 case h_3 =>
  obtain⟨c,h1,a,h2,b,h3,⟨rfl,k⟩|⟨rfl,k⟩⟩:=w
  ·exact Tm.of (a:=(a,h)) (fun n=>by simp[fw,iop,h1,h2]) k
  ·exact Tm.of (a:=(b,h)) (fun n=>by simp[fw,iop,h1,h3]) k
 case h_11 =>
  obtain⟨x,h1,k⟩:=w;split at k;·obtain⟨v,h2,k⟩:=k;exact Tm.of (a:=(v,h)) (fun n=>by simp[fw,iop,h1,h2]) k
  ·exact k.elim
 case h_12 =>
  obtain⟨x,h1,y,h2,k⟩:=w;split at k;·exact Tm.of2 k fun n=>by simp[fw,iop,h1,h2]
  ·exact k.elim
 case h_9 =>
  obtain⟨x,h1,f,h2,⟨b,o⟩,h3,n,h4,h5,k⟩:=w
  refine Tm.of2 k fun m=>?_
  have h6:(n == 0)=false:=by simpa using h5
  simp[fw,iop,h1,h2,h3,h4,E0,h6]
 case h_14 =>
  obtain⟨r,h1,k⟩:=w;refine Tm.of2 (a:=r.1) (b:=r.2) k fun n=>?_;unfold fw;split;·simp_all
  ·exact h1
 all_goals
  simp only[Ex] at w;first
   | (obtain⟨a,h1,b,h2,c,h3,k⟩:=w;exact Tm.of2 k fun n=>by simp[fw,iop,h1,h2,h3,E0])
   | (obtain⟨a,h1,b,h2,k⟩:=w;exact Tm.of2 k fun n=>by simp[fw,iop,h1,h2,E0])
   | (obtain⟨a,h1,k⟩:=w;exact Tm.of2 k fun n=>by simp[fw,iop,h1,E0])
def iI (nt:Nat) (fr:Fr) (dst:Option Tmp) (v:QQ) (K:Fr→Prop):Prop :=
 match dst with
 | none=>K fr
 | some d=>Br (Nat.blt d nt) (K ((d,v) :: fr)) False
variable {nt:Nat}
def ov {dst:Option Tmp} {v:QQ} {K:Fr→Prop} (w:iI nt fr dst v K) : ∃fr',qT nt fr dst v=some fr'∧K fr':=by
 unfold iI at w;split at w;·exact⟨_,rfl,w⟩
 ·rename_i d
  simp only[qT];cases hb:Nat.blt d nt<;>simp[hb] at w ⊢;exact w
def wpOps (P:QX) (nt:Nat) (all:List Oper):List Oper→Fr→IH→(Fr→IH→Prop)→Prop
 | [],fr,h,K=>K fr h
 | o :: l,fr,h,K=>match o.guard with
  | none=>wpOp P o.op fr h fun v h=>iI nt fr o.dst v fun fr=>wpOps P nt all l fr h K
  | some (j,want)=>Ex ((all[j]?).bind (·.dst)) fun d=>Ex (aj fr d) fun b=>match b with
   | .bool b=>Br (b == want) (wpOp P o.op fr h fun v h=>iI nt fr o.dst v fun fr=>wpOps P nt all l fr h K) (iI nt fr o.dst undef fun fr=>wpOps P nt all l fr h K)
   | .tuple _=>iI nt fr o.dst undef fun fr=>wpOps P nt all l fr h K
   | _=>False
variable {all:List Oper}
def wH {o:Oper} {K:Fr→IH→Prop} (hw:cC all o fr=some true)(w:wpOp P o.op fr h fun v h=>iI nt fr o.dst v fun fr=>K fr h):Tm (fun n=>ft (E0 P) (dj (E0 P) n) nt all o fr h) fun p=>K p.1 p.2:=by obtain⟨⟨v,h1⟩,⟨N,hN⟩,k⟩:=NZ w;obtain⟨fr',hp,k⟩:=ov k;exact⟨(fr',h1),⟨N,fun n hn=>by simp[ft,hw,hN n hn,hp]⟩,k⟩
def vd : ∀{l:List Oper} {fr:Fr} {h:IH} {K:Fr→IH→Prop},wpOps P nt all l fr h K → Tm (fun n=>iX (E0 P) (dj (E0 P) n) nt all l fr h) fun p=>K p.1 p.2
 | [],fr,h,K,w=>Tm.of (a:=(fr,h)) (fun _=>rfl) w
 | o :: l,fr,h,K,w=>by
  have fin (s:Tm (fun n=>ft (E0 P) (dj (E0 P) n) nt all o fr h) fun p=>wpOps P nt all l p.1 p.2 K):Tm (fun n=>iX (E0 P) (dj (E0 P) n) nt all (o :: l) fr h) fun p=>K p.1 p.2 :=
   Tm.bind (fun p n=>iX (E0 P) (dj (E0 P) n) nt all l p.1 p.2) (s.mono fun _ x=>vd x) fun n a ha=>by simp[iX,ha]
  unfold wpOps at w;split at w;·rename_i hg;exact fin (wH (by simp[cC,hg]) w)
  ·rename_i j want hg;obtain⟨d,h1,b,h2,w⟩:=w;split at w
   ·rename_i b;unfold Br at w;split at w
    ·rename_i hb;exact fin (wH (by simp[cC,hg,h1,h2,eq_of_beq hb]) w)
    ·rename_i hb;obtain⟨fr',hp,k⟩:=ov w;refine fin (Tm.of (a:=(fr',h)) (fun n=>?_) k);have hb':(b == want)=false:=by simpa using hb
     simp[ft,cC,hg,h1,h2,hb',hp]
   ·obtain⟨fr',hp,k⟩:=ov w;refine fin (Tm.of (a:=(fr',h)) (fun n=>?_) k);simp[ft,cC,hg,h1,h2,hp]
   ·exact w.elim
def eX (P:QX) (nt:Nat) (all:List Oper):List Oper→Fr→IH→List (Fr×IH)→(List (Fr×IH)→Prop)→Prop
 | [],fr,h,tr,K=>K (tr ++ [(fr,h)])
 | o :: l,fr,h,tr,K=>match o.guard with
  | none=>wpOp P o.op fr h fun v h1=>iI nt fr o.dst v fun fr1=>eX P nt all l fr1 h1 (tr ++ [(fr,h)]) K
  | some (j,want)=>Ex ((all[j]?).bind (·.dst)) fun d=>Ex (aj fr d) fun b=>match b with
   | .bool b=>Br (b == want) (wpOp P o.op fr h fun v h1=>iI nt fr o.dst v fun fr1=>eX P nt all l fr1 h1 (tr ++ [(fr,h)]) K)
     (iI nt fr o.dst undef fun fr1=>eX P nt all l fr1 h (tr ++ [(fr,h)]) K)
   | .tuple _=>iI nt fr o.dst undef fun fr1=>eX P nt all l fr1 h (tr ++ [(fr,h)]) K
   | _=>False
def xm : ∀{l:List Oper} {fr:Fr} {h:IH} {tr:List (Fr×IH)} {K:List (Fr×IH)→Prop},eX P nt all l fr h tr K → Tm (fun n=>trace (E0 P) (dj (E0 P) n) nt all l fr h) fun t=>K (tr ++ t)
 | [],fr,h,tr,K,w=>Tm.of (a:=[(fr,h)]) (fun _=>rfl) w
 | o :: l,fr,h,tr,K,w=>by
  have fin (s:Tm (fun n=>ft (E0 P) (dj (E0 P) n) nt all o fr h) fun p=>eX P nt all l p.1 p.2 (tr ++ [(fr,h)]) K):Tm (fun n=>trace (E0 P) (dj (E0 P) n) nt all (o :: l) fr h) fun t=>K (tr ++ t):=by
   refine Tm.bind (fun p n=>(trace (E0 P) (dj (E0 P) n) nt all l p.1 p.2).map ((fr,h) :: ·)) (s.mono fun p x=>?_) fun n a ha=>by simp[trace,ha]
   obtain⟨t,⟨N,hN⟩,k⟩:=xm x;exact⟨(fr,h) :: t,⟨N,fun n hn=>by simp[hN n hn]⟩,by simpa using k⟩
  unfold eX at w;split at w;·rename_i hg;exact fin (wH (K:=fun fr1 h1=>eX P nt all l fr1 h1 (tr ++ [(fr,h)]) K) (by simp[cC,hg]) w)
  ·rename_i j want hg;obtain⟨d,h1,b,h2,w⟩:=w;split at w
   ·rename_i b;unfold Br at w;split at w
    ·rename_i hb;exact fin (wH (K:=fun fr1 h1=>eX P nt all l fr1 h1 (tr ++ [(fr,h)]) K) (by simp[cC,hg,h1,h2,eq_of_beq hb]) w)
    ·rename_i hb;obtain⟨fr',hp,k⟩:=ov w;refine fin (Tm.of (a:=(fr',h)) (fun n=>?_) k);have hb':(b == want)=false:=by simpa using hb
     simp[ft,cC,hg,h1,h2,hb',hp]
   ·obtain⟨fr',hp,k⟩:=ov w;refine fin (Tm.of (a:=(fr',h)) (fun n=>?_) k);simp[ft,cC,hg,h1,h2,hp]
   ·exact w.elim
def fc (P:QX) (ops:List Oper) (tr:List (Fr×IH)):List (Nat×List Nat)→Prop
 | []=>True
 | e :: l=>(match ops[e.1]?,tr[e.1]? with
  | some o,some (fr,h)=>match cC ops o fr with
   | some true => ∀p∈e.2,match tr[p]? with
    | some (_,h')=>jH P fr o.op h h'=true
    | none=>False
   | _=>True
  | _,_=>False)∧fc P ops tr l
def vc {ops:List Oper} {tr:List (Fr×IH)} : ∀{l:List (Nat×List Nat)},fc P ops tr l→steady P ops tr l=true
 | [],_=>rfl
 | e :: l,w=>by
  unfold fc at w;obtain⟨w1,w2⟩:=w;have:=vc w2;simp only[steady,tM,eV] at this ⊢;refine⟨?_,this⟩;split at w1
  ·rename_i o fr h ho ht;simp only[ho,ht];split at w1
   ·rename_i hw;simp only[hw,gG];intro p hp;have:=w1 p hp;split at this
    ·rename_i h' hh;simp[hh,this]
    ·exact this.elim
   ·rename_i hne;split
    ·rename_i heq;exact absurd heq hne
    ·rfl
  ·exact w1.elim
def N5 (tr:List (Fr×IH)) (n:Nat) (K:Fr→IH→Prop):Prop:=Ex tr[n]? fun p=>K p.1 p.2
def Cc (P:QX) (fn:FuncId) (nt:Nat) (rd:Option Nat) (b:Code) (fr:Fr) (h:IH) (Q:cL→Fr→IH→Prop):Prop :=
 Tm (fun n=>evC (E0 P) (dj (E0 P) n) fn nt rd n (.loop b) fr h) fun p=>Q p.1 p.2.1 p.2.2
@[congr] theorem Zcf {P:QX} {fn:FuncId} {nt:Nat} {rd:Option Nat} {b:Code} {fr fr':Fr} {h h':IH} {Q:cL→Fr→IH→Prop} (e1:fr=fr') (e2:h=h'):Cc P fn nt rd b fr h Q=Cc P fn nt rd b fr' h' Q:=by rw[e1,e2]
def yK (P:QX) (fn:FuncId) (nt:Nat) (rd:Option Nat) (f:Operand) (ps:Array Tmp) (a b:Code) (fr:Fr) (h:IH) (Q:cL→Fr→IH→Prop):Prop :=
 Tm (fun n=>nU (E0 P) (dj (E0 P) n) fn nt rd f ps.toList a b fr h) fun p=>Q p.1 p.2.1 p.2.2
@[congr] theorem ZaZ {P:QX} {fn:FuncId} {nt:Nat} {rd:Option Nat} {f:Operand} {ps:Array Tmp} {a b:Code} {fr fr':Fr} {h h':IH} {Q:cL→Fr→IH→Prop} (e1:fr=fr') (e2:h=h') :
  yK P fn nt rd f ps a b fr h Q=yK P fn nt rd f ps a b fr' h' Q:=by rw[e1,e2]
def Qi (P:QX) (nt:Nat) (ops:List Oper) (fr:Fr) (h:IH) (K:Fr→IH→Prop):Prop :=
 pA ops=true∧eX P nt ops ops fr h [] fun tr=>fc P ops tr (GX ops)∧N5 tr ops.length K
def wpC (P:QX) (fn:FuncId) (nt:Nat) (rd:Option Nat):Code→Fr→IH→(cL→Fr→IH→Prop)→Prop
 | .skip,fr,h,Q=>Q .normal fr h
 | .label _,fr,h,Q=>Q .normal fr h
 | .region _ ops draw,fr,h,Q=>match draw with
  | false=>wpOps P nt ops.toList ops.toList fr h (Q .normal)
  | true=>(jC ops.toList=true→wpOps P nt ops.toList ops.toList fr h (Q .normal))∧(jC ops.toList=false→Qi P nt ops.toList fr h (Q .normal))
 | .seq a b,fr,h,Q=>wpC P fn nt rd a fr h fun e fr h=>match e with
  | .normal=>wpC P fn nt rd b fr h Q
  | .exit i=>Q (.exit i) fr h
  | .ret=>Q .ret fr h
 | .cond c a b,fr,h,Q=>Ex (opd fr c) fun c=>match c with
  | .bool c=>Br c (wpC P fn nt rd a fr h Q) (wpC P fn nt rd b fr h Q)
  | _=>False
 | .block id b,fr,h,Q=>wpC P fn nt rd b fr h fun e fr h=>match e with
  | .exit i=>Br (i == id) (Q .normal fr h) (Q (.exit i) fr h)
  | .normal=>Q .normal fr h
  | .ret=>Q .ret fr h
 | .loop b,fr,h,Q=>Cc P fn nt rd b fr h Q
 | .scope b,fr,h,Q=>wpC P fn nt rd b fr h Q
 | .rangeFunc f ps a b,fr,h,Q=>yK P fn nt rd f ps a b fr h Q
 | .exit i,fr,h,Q=>Q (.exit i) fr h
 | .ret,fr,h,Q=>Q .ret fr h
 | .goto _,_,_,_=>False
 | .refuse _,_,_,_=>False
abbrev TmC (P:QX) (fn:FuncId) (nt:Nat) (rd:Option Nat) (c:Code) (fr:Fr) (h:IH) (Q:cL→Fr→IH→Prop):Prop :=
 Tm (fun n=>evC (E0 P) (dj (E0 P) n) fn nt rd n c fr h) fun p=>Q p.1 p.2.1 p.2.2
def J2 (P:QX) (fn:FuncId) (id:Nat) (fr:Fr):kG (E0 P) fn id fr=fr:=rfl
def jh {fn:FuncId} {rd:Option Nat} : ∀{c:Code} {fr:Fr} {h:IH} {Q:cL→Fr→IH→Prop},wpC P fn nt rd c fr h Q→TmC P fn nt rd c fr h Q
 | .skip,fr,h,Q,w=>Tm.of (a:=(.normal,fr,h)) (fun _=>rfl) w
 | .label _,fr,h,Q,w=>Tm.of (a:=(.normal,fr,h)) (fun _=>rfl) w
 | .region id ops draw,fr,h,Q,w=>by
  cases draw with
  | false =>
   obtain⟨p,⟨N,h1⟩,k⟩:=vd w;exact⟨(.normal,p.1,p.2),⟨N,fun n hn=>by have:=h1 n hn;simp[evC,J2,this]⟩,k⟩
  | true =>
   cases hc:jC ops.toList with
   | true =>
    obtain⟨p,⟨N,h1⟩,k⟩:=vd (w.1 hc);exact⟨(.normal,p.1,p.2),⟨N,fun n hn=>by have:=FY hc (h1 n hn);simp[evC,J2,this]⟩,k⟩
   | false =>
    obtain⟨ho,w⟩:=w.2 hc;obtain⟨tr,⟨N,h1⟩,hs,p,hp,k⟩:=xm w;refine⟨(.normal,p.1,p.2),⟨N,fun n hn=>?_⟩,k⟩;have h2:=h1 n hn;simp only[mz,ku] at hs hp;simp only at h2;have hs2:=DI h2 (vc hs);simp[evC,J2,kB,h2,ho,show(E0 P).P=P from rfl,show steady P ops.toList tr (Ch ops.toList)=true from hs2,hp]
 | .seq a b,fr,h,Q,w=>by
  have w1:=jh (c:=a) w;obtain⟨⟨e,fr1,h1⟩,⟨N,hN⟩,k⟩:=w1;cases e with
  | normal =>
   obtain⟨r,⟨M,hM⟩,k⟩:=jh (c:=b) k;refine⟨r,⟨max N M,fun n hn=>?_⟩,k⟩;have e1:=hN n (bA (CZ _ _) hn);have e2:=hM n (bA (CY _ _) hn);simp[evC,e1,e2]
  | exit i=>exact⟨(.exit i,fr1,h1),⟨N,fun n hn=>by have:=hN n hn;simp[evC,this]⟩,k⟩
  | ret=>exact⟨(.ret,fr1,h1),⟨N,fun n hn=>by have:=hN n hn;simp[evC,this]⟩,k⟩
 | .cond c a b,fr,h,Q,w=>by
  obtain⟨v,hv,w⟩:=w;split at w
  ·rename_i c;cases c with
   | true =>
    obtain⟨r,⟨M,hM⟩,k⟩:=jh (c:=a) (by simpa using w);exact⟨r,⟨M,fun n hn=>by have:=hM n hn;simp[evC,hv,this]⟩,k⟩
   | false =>
    obtain⟨r,⟨M,hM⟩,k⟩:=jh (c:=b) (by simpa using w);exact⟨r,⟨M,fun n hn=>by have:=hM n hn;simp[evC,hv,this]⟩,k⟩
  ·exact w.elim
 | .block id b,fr,h,Q,w=>by
  obtain⟨⟨e,fr1,h1⟩,⟨N,hN⟩,k⟩:=jh (c:=b) w;cases e with
  | normal=>exact⟨(.normal,fr1,h1),⟨N,fun n hn=>by have:=hN n hn;simp[evC,this]⟩,k⟩
  | ret=>exact⟨(.ret,fr1,h1),⟨N,fun n hn=>by have:=hN n hn;simp[evC,this]⟩,k⟩
  | exit i =>
   cases hi:(i == id) with
   | true=>exact⟨(.normal,fr1,h1),⟨N,fun n hn=>by have:=hN n hn;simp[evC,this,hi]⟩,by simpa [hi] using k⟩
   | false=>exact⟨(.exit i,fr1,h1),⟨N,fun n hn=>by have:=hN n hn;simp[evC,this,hi]⟩,by simpa [hi] using k⟩
 | .loop b,fr,h,Q,w=>w
 | .scope b,fr,h,Q,w=>by obtain⟨r,⟨M,hM⟩,k⟩:=jh (c:=b) w;exact⟨r,⟨M,fun n hn=>by have:=hM n hn;simp[evC,this]⟩,k⟩
 | .rangeFunc f ps a b,fr,h,Q,w=>Tm.congr w fun n=>by simp[evC]
 | .exit i,fr,h,Q,w=>Tm.of (a:=(.exit i,fr,h)) (fun _=>rfl) w
 | .ret,fr,h,Q,w=>Tm.of (a:=(.ret,fr,h)) (fun _=>rfl) w
 | .goto _,_,_,_,w=>w.elim
 | .refuse _,_,_,_,w=>w.elim
@[simp] theorem Zgf (t:Nat):aj [] t=none:=rfl
@[simp] theorem tp (s:Nat) (v:QQ) (r:Fr) (t:Nat):aj ((s,v) :: r) t=if s=t then some v else aj r t:=by simp[aj,aK]
@[simp] theorem Rf (fr:Fr) (t:Nat):opd fr (.tmp t)=aj fr t:=rfl
@[simp] theorem Mj (fr:Fr) (f:FuncId):opd fr (.func f)=some (.func (.func f) #[] #[]):=rfl
theorem Ec (fr:Fr) (g:Nat) (h:g<4294967296):opd fr (.global g)=some (ptr (2*g+1) 0):=by
 have:Nat.blt g 4294967296=true:=by simp only[Nat.blt,bI];exact h
 simp only[opd,this,bP];rfl
@[simp] theorem xz (fr:Fr) (k:IntKind) (n:Int):opd fr (.const (.int k n))=some (.int k n):=rfl
@[simp] theorem vK (fr:Fr) (b:Bool):opd fr (.const (.bool b))=some (.bool b):=rfl
@[simp] theorem sN (fr:Fr) (b:ByteArray):opd fr (.const (.string b))=some (.string b):=rfl
@[simp] theorem rk (fr:Fr):opd fr (.const .nilFunc)=some .nilFunc:=rfl
@[simp] theorem qo (fr:Fr):opd fr (.const (.slice none 0 0))=some (.slice none 0 0):=rfl
@[simp] theorem sP (fr:Fr):opd fr (.const (.pointer none))=some (.pointer none):=rfl
@[simp] theorem sU (fr:Fr):opd fr (.const (.map none))=some (.map none):=rfl
@[simp] theorem Mh (fr:Fr):jV fr []=some []:=rfl
@[simp] theorem G1 (fr:Fr) (x:QY) (l:List QY):jV fr (x :: l)=(opd fr x).bind fun v=>(jV fr l).map (v :: ·):=by simp only[jV];cases opd fr x<;>cases jV fr l<;>rfl
@[simp] theorem BL (fr:Fr):partsOf fr []=some []:=rfl
@[simp] theorem zH (fr:Fr) (i:Nat) (x:QY) (l:List (Nat×QY)):partsOf fr ((i,x) :: l)=(opd fr x).bind fun v=>(partsOf fr l).map ((i,v) :: ·):=by simp only[partsOf];cases opd fr x<;>cases partsOf fr l<;>rfl
@[simp] theorem BN (fr:Fr):fG fr none=some none:=rfl
@[simp] theorem BM (fr:Fr) (x:QY):fG fr (some x)=(opd fr x).map some:=rfl
@[simp] theorem BW (i:Nat):gh i [] = []:=rfl
@[simp] theorem z7 (i:Nat) (v:QQ) (l:List QQ):gh i (v :: l)=(i,v) :: gh (i+1) l:=rfl
@[simp] theorem Zcl (nt:Nat) (fr:Fr) (v:QQ) (K:Fr→Prop):iI nt fr none v K=K fr:=rfl
@[simp] theorem NY (nt:Nat) (fr:Fr) (d:Nat) (v:QQ) (K:Fr→Prop) (hd:d<nt):iI nt fr (some d) v K=K ((d,v) :: fr):=by
 have:Nat.blt d nt=true:=by simp only[Nat.blt,bI];exact hd
 simp[iI,this]
@[congr] theorem Zba {nt:Nat} {fr fr':Fr} {d:Option Tmp} {v v':QQ} {K:Fr→Prop} (a:fr=fr') (b:v=v'):iI nt fr d v K=iI nt fr' d v' K:=by rw[a,b]
@[congr] theorem Zbb {P:QX} {nt:Nat} {all l:List Oper} {fr fr':Fr} {h h':IH} {K:Fr→IH→Prop} (a:fr=fr') (b:h=h'):wpOps P nt all l fr h K=wpOps P nt all l fr' h' K:=by rw[a,b]
@[congr] theorem YL {P:QX} {nt:Nat} {all l:List Oper} {fr fr':Fr} {h h':IH} {tr:List (Fr×IH)} {K:List (Fr×IH)→Prop} (a:fr=fr') (b:h=h'):eX P nt all l fr h tr K=eX P nt all l fr' h' tr K:=by rw[a,b]
@[congr] theorem Zcm {P:QX} {o:Op} {fr fr':Fr} {h h':IH} {K:QQ→IH→Prop} (a:fr=fr') (b:h=h'):wpOp P o fr h K=wpOp P o fr' h' K:=by rw[a,b]
@[congr] theorem Zeu {P:QX} {fn:FuncId} {nt:Nat} {rd:Option Nat} {c:Code} {fr fr':Fr} {h h':IH} {Q:cL→Fr→IH→Prop} (a:fr=fr') (b:h=h'):wpC P fn nt rd c fr h Q=wpC P fn nt rd c fr' h' Q:=by rw[a,b]
section
variable (P:QX) (fr:Fr) (h:IH) (K:QQ→IH→Prop)
theorem Sy (c a b:QY):wpOp P (.pick c a b) fr h K=Ex (opd fr c) fun c=>Ex (opd fr a) fun a=>Ex (opd fr b) fun b=>c=.bool true∧K a h∨c=.bool false∧K b h:=rfl
def fieldAt (P:QX) (t:QZ) (f:Nat):Option Nat:=(jf P t f).bind fun d=>(ba P d.type).bind fun n=>if n=0 then none else some d.offset
theorem Dr (t:QZ) (x:QY) (f:Nat):wpOp P (.fieldAddr t x f) fr h K=Ex (opd fr x) fun x=>Ex (asAddr x) fun a=>Ex (fieldAt P t f) fun off=>K (ptr a.1 (a.2+off)) h:=by
 simp only[wpOp,fieldAt,Ex,eq_iff_iff];constructor
 ·rintro⟨x,h1,d,h2,a,h3,n,h4,h5,k⟩
  exact⟨x,h1,a,h3,d.offset,by simp[h2,h4,h5],k⟩
 ·rintro⟨x,h1,a,h3,off,h2,k⟩
  cases hd:jf P t f with
  | none=>simp[hd] at h2
  | some d =>
   cases hn:ba P d.type with
   | none=>simp[hd,hn] at h2
   | some n =>
    simp only[hd,hn,ke] at h2;split at h2;·cases h2
    ·rename_i h0;cases h2;exact⟨x,h1,d,rfl,a,h3,n,hn,h0,k⟩
def Za4 {α β:Type} (o:Option α) (f:α→Option β) (K:β→Prop):Ex (o.bind f) K=Ex o fun v=>Ex (f v) K:=by cases o<;>simp[Ex]
def Sx (op:UnOp) (t:QZ) (x:QY):wpOp P (.unOp op t x) fr h K=Ex (opd fr x) fun v=>Ex (bif plain v then dO P (Op.unary op v) else none) fun v=>K v h:=by
 show Ex (iop P fr (.unOp op t x) h) _=_;simp only[iop];cases opd fr x with
 | none=>simp
 | some v=>cases hp:plain v<;>simp[hp]
def qK (P:QX) (s d:QZ) (v:QQ):Option QQ:=bif plain v then dO P (Go.convert s d v) else none
def IP (s d:QZ) (x:QY):wpOp P (.convert s d x) fr h K=Ex (opd fr x) fun v=>Ex (qK P s d v) fun v=>K v h:=by
 show Ex (iop P fr (.convert s d x) h) _=_;simp only[iop,qK];cases opd fr x with
 | none=>simp
 | some v=>cases hp:plain v<;>simp[hp]
def Dq (t:QZ) (l c:QY):wpOp P (.makeSlice t l c) fr h K=Ex (opd fr l) fun l=>Ex (opd fr c) fun c=>Ex (makeSlice P h t l c) fun r=>K r.1 r.2:=by show Ex (iop P fr (.makeSlice t l c) h) _=_;simp only[iop];cases opd fr l<;>cases opd fr c<;>simp
def Ce (t:QZ) (n:Nat) (ps:Array (Nat×QY)):wpOp P (.buildSlice t n ps) fr h K=Ex (partsOf fr ps.toList) fun ps=>Ex (buildSlice P h t n ps) fun r=>K r.1 r.2:=by show Ex (iop P fr (.buildSlice t n ps) h) _=_;simp only[iop];cases partsOf fr ps.toList<;>simp
def N1 (t:QZ) (x:QY) (lo hi mx:Option QY):wpOp P (.slice t x lo hi mx) fr h K=Ex (opd fr x) fun x=>Ex (fG fr lo) fun lo=>Ex (fG fr hi) fun hi=>Ex (fG fr mx) fun mx=>Ex (dY P h t x lo hi mx) fun v=>K v h:=by
 show Ex (iop P fr (.slice t x lo hi mx) h) _=_;simp only[iop];cases opd fr x with
 | none=>simp
 | some x=>cases fG fr lo with
  | none=>simp
  | some lo=>cases fG fr hi with
   | none=>simp
   | some hi=>cases fG fr mx<;>simp
def kJ (P:QX) (t:QZ) (ps:List (Nat×QQ)):Option QQ :=
 (aT P t).bind fun z=>bif dK P t then (dF (placeOf P t) z ps).map fun cs=>.agg cs.toArray else none
def N4 (t:QZ) (ps:Array (Nat×QY)):wpOp P (.build t ps) fr h K=Ex (partsOf fr ps.toList) fun ps=>Ex (kJ P t ps) fun v=>K v h:=by show Ex (iop P fr (.build t ps) h) _=_;simp only[iop,kJ];cases aT P t<;>cases partsOf fr ps.toList<;>cases dK P t<;>simp
def yE (P:QX) (t:QZ) (f:Nat) (x:QQ):Option QQ :=
 match x with
 | .agg cs=>(jf P t f).bind fun d=>partOf P d.type cs d.offset
 | _=>none
def N3 (t:QZ) (x:QY) (f:Nat):wpOp P (.field t x f) fr h K=Ex (opd fr x) fun x=>Ex (yE P t f x) fun v=>K v h:=by
 show Ex (iop P fr (.field t x f) h) _=_;simp only[iop];cases hx:opd fr x with
 | none=>simp
 | some v =>
  cases v<;>(try (simp[yE];done));cases hf:jf P t f with
  | none=>simp[yE,hf]
  | some d=>simp[yE,hf]
theorem FU (x:QY):wpOp P (.nilCheck x) fr h K=Ex (opd fr x) fun x=>match x with
  | .pointer (some a)=>K (.pointer (some a)) h
  | .func (.func f) xs ys=>K (.func (.func f) xs ys) h
  | .func (.yield f) xs ys=>K (.func (.yield f) xs ys) h
  | .map r=>K (.map r) h
  | _=>False:=by
 show Ex (iop P fr (.nilCheck x) h) _=_;simp only[iop];cases hx:opd fr x with
 | none=>simp
 | some v =>
  cases v with
  | pointer a=>cases a<;>simp
  | func f xs ys=>cases f<;>simp
  | _=>simp
def KT (t:QZ) (m k:QY) (ok:Bool):wpOp P (.lookup t m k ok) fr h K=Ex (opd fr m) fun m=>Ex (opd fr k) fun k=>Ex (lookup P h t m k ok) fun v=>K v h:=by show Ex (iop P fr (.lookup t m k ok) h) _=_;simp only[iop];cases opd fr m<;>cases opd fr k<;>simp
def ve (t:QZ) (m k v:QY):wpOp P (.mapUpdate t m k v) fr h K=Ex (opd fr m) fun m=>Ex (opd fr k) fun k=>Ex (opd fr v) fun v=>Ex (mapUpdate P h t m k v) fun h=>K undef h:=by show Ex (iop P fr (.mapUpdate t m k v) h) _=_;simp only[iop];cases opd fr m<;>cases opd fr k<;>cases opd fr v<;>simp
def KU (t:QZ) (m k v:QY):wpOp P (.insert t m k v) fr h K=Ex (opd fr m) fun m=>Ex (opd fr k) fun k=>Ex (opd fr v) fun v=>Ex (mapUpdate P h t m k v) fun h=>K undef h:=ve P fr h K t m k v
def IN (t:QZ):wpOp P (.makeMap t none) fr h K=K (.map (some (2*h.n))) (h.new (.map [])):=by show Ex (iop P fr (.makeMap t none) h) _=_;simp[iop]
def vW (P:QX) (t:QZ) (x i:QQ):Option QQ :=
 match x with
 | .agg cs=>match P.underlying t,idxOf i with
   | some (.array n e),some (.ofNat j)=>bif Nat.blt j n then (ba P e).bind fun size=>partOf P e cs (j*size) else none
   | _,_=>none
 | .string s=>bif plain i then dO P (Instr.index t (.string s) i) else none
 | _=>none
def N2 (t:QZ) (x i:QY):wpOp P (.index t x i) fr h K=Ex (opd fr x) fun x=>Ex (opd fr i) fun i=>Ex (vW P t x i) fun v=>K v h:=by
 show Ex (iop P fr (.index t x i) h) _=_;simp only[iop];cases hx:opd fr x with
 | none=>simp
 | some v =>
  cases hi:opd fr i with
  | none=>cases v<;>simp
  | some i =>
   cases v<;>(try (simp[vW];done));·simp only[vW,KL];cases hp:plain i<;>simp[]
   ·rename_i cs;simp only[vW,KL];cases hu:P.underlying t with
    | none=>simp
    | some d =>
     cases hi':idxOf i with
     | none=>cases d<;>simp
     | some z =>
      cases d<;>(try (simp;done));cases z with
      | negSucc z=>simp
      | ofNat j =>
       rename_i n e;simp only;cases hb:Nat.blt j n<;>simp;cases ba P e<;>simp
end
section
variable (P:QX) (t:QZ) (ox oy:QY) (k:IntKind) (a b:Int)
def fA {op:BinOp} {x y v:QQ} (hx:plain x=true) (hy:plain y=true) (hv:plain v=true) (hr:aD P (do eqGuard op t ox oy x y;Go.binOp op t x y)=some v):binop P op t ox oy x y=some v:=by simp[binop,hx,hy,dO,hr,hv]
@[simp] theorem Bu:binop P .add t ox oy (.int k a) (.int k b)=some (.int k (k.wrap (a+b))) :=
 fA P t ox oy rfl rfl rfl (by simp[eqGuard,Go.binOp,Op.intArith];rfl)
@[simp] theorem Bi:binop P .sub t ox oy (.int k a) (.int k b)=some (.int k (k.wrap (a - b))) :=
 fA P t ox oy rfl rfl rfl (by simp[eqGuard,Go.binOp,Op.intArith];rfl)
@[simp] theorem Bl:binop P .mul t ox oy (.int k a) (.int k b)=some (.int k (k.wrap (a*b))) :=
 fA P t ox oy rfl rfl rfl (by simp[eqGuard,Go.binOp,Op.intArith];rfl)
@[simp] theorem Bs:binop P .eql t ox oy (.int k a) (.int k b)=some (.bool (a == b)) :=
 fA P t ox oy rfl rfl rfl (by simp[eqGuard,Go.binOp,Op.intCmp];rfl)
@[simp] theorem Bk:binop P .neq t ox oy (.int k a) (.int k b)=some (.bool (a != b)) :=
 fA P t ox oy rfl rfl rfl (by simp[eqGuard,Go.binOp,Op.intCmp];rfl)
@[simp] theorem Bm:binop P .lss t ox oy (.int k a) (.int k b)=some (.bool (decide (a<b))) :=
 fA P t ox oy rfl rfl rfl (by simp[eqGuard,Go.binOp,Op.intCmp];rfl)
@[simp] theorem Bn:binop P .leq t ox oy (.int k a) (.int k b)=some (.bool (decide (a≤b))) :=
 fA P t ox oy rfl rfl rfl (by simp[eqGuard,Go.binOp,Op.intCmp];rfl)
@[simp] theorem Bo:binop P .gtr t ox oy (.int k a) (.int k b)=some (.bool (decide (b<a))) :=
 fA P t ox oy rfl rfl rfl (by simp[eqGuard,Go.binOp,Op.intCmp];rfl)
@[simp] theorem Bp:binop P .geq t ox oy (.int k a) (.int k b)=some (.bool (decide (b≤a))) :=
 fA P t ox oy rfl rfl rfl (by simp[eqGuard,Go.binOp,Op.intCmp];rfl)
end
end Go.Id

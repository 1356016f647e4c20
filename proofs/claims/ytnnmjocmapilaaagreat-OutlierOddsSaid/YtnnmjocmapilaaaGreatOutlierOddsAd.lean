/-
  The ideal machine: maps, builtins, and every operation that calls no function.
-/
import Derived.Test.YtnnmjocmapilaaaGreatOutlierOddsAc
set_option linter.unusedVariables false
set_option linter.unusedSimpArgs false
set_option linter.defProp false
set_option linter.deprecated false
namespace Go.Id
open Go Go.RowKit
variable {es:List (Value×Value)}{m:Mp}{h:IH}{r B:Nat}{w w0:World}
def Rel.Hf (R:Rel B w0 m h w) {k s:Nat} (hk:mapOf h k=some es) (hm:m k=some (r,s)) :h.ext.get (k / 2)=some (.map es)∧2*(k / 2)=k ∧ ∃c,w.heap[r]?=some (.map c es.length)∧wD m es c:=by
 unfold mapOf at hk;simp only[aK,bD] at hk;by_cases hb:k % 2=1;·rw[ah hb] at hk;cases hk
 ·rw[ad hb] at hk;have hkk:2*(k / 2)=k:=byOmega;cases hg:h.ext.get (k / 2) with
  | none=>simp[hg] at hk
  | some o =>
   rw[hg] at hk;cases o with
   | map es' =>
    simp only at hk;cases hk;obtain⟨_,c,h1,h2⟩:=R.obj (k / 2) _ r s hg (by rw[hkk];exact hm);exact⟨rfl,hkk,c,h1,h2⟩
   | _=>simp at hk
variable {clock:Nat}{c:Array MapEntry}
def run_getObj_map (P:Program) (h:w.heap[r]?=some (.map c clock)):(getObj r).run P w=.ok (.map c clock) w:=by simp only[getObj,Sem.run,h]
def run_setObj_map (P:Program) (h:w.heap[r]?=some (.map c clock)) (o:Obj):(Go.setObj r o).run P w=.ok () (World.put w r o):=by simp only[Go.setObj,Sem.run,h];rfl
def qt (kt et:TypeId) (k:Value) (ok:Bool) (c:Array MapEntry):Sem Value:=do
 Instr.checkKey c.isEmpty 10000 kt k
 let (v,ok') ←match ←Instr.findKey kt k c.toList with
  | some (_,v)=>pure (v,true)
  | none=>pure (←zeroValue et,false)
 pure (if ok then .tuple #[v,.bool ok'] else v)
variable {k' k v:Value}{ok:Bool}
def zh (P:Program) (w:World) {kt et:TypeId} (hcm:wD m es c) (hk:aW m k k')(hl:(match ER P kt k es with
   | none=>none
   | some none=>match u6 P et with
    | some z=>bif plain z then some (bif ok then Value.tuple #[z,.bool false] else z) else none
    | none=>none
   | some (some i)=>(es[i]?).map fun e=>bif ok then .tuple #[e.2,.bool true] else e.2)=some v) :
  ∃v',(qt kt et k' ok c).run P w=.ok v' w∧aW m v v':=by
 cases hf:ER P kt k es with
 | none=>simp[hf] at hl
 | some ri =>
  obtain⟨hp,hck,r',zV,hr',hat⟩:=GI hf hcm w;have ek:=hk.fx hp;subst ek;simp only[hf] at hl;cases ri with
  | none =>
   have hn:r'=none:=by cases r'<;>simp_all
   subst hn;simp only at hl;cases hz:u6 P et with
   | none=>simp[hz] at hl
   | some z =>
    simp only[hz,aK] at hl;by_cases hzp:plain z=true
    ·rw[ah hzp] at hl;cases ok with
     | false =>
      simp only[gv,cH] at hl;cases hl;exact⟨_,by simp[qt,hck,zV,gT w hz],.cY hzp⟩
     | true =>
      simp only[bS] at hl;cases hl;exact⟨_,by simp[qt,hck,zV,gT w hz],aW.ji (.cons (.cY hzp) (.cons (.ct rfl) (.nil m)))⟩
    ·rw[ad hzp] at hl;cases hl
  | some i =>
   simp only at hl;cases hei:es[i]? with
   | none=>simp[hei] at hl
   | some e =>
    simp only[hei,jt,aK] at hl;obtain⟨x,hx⟩ : ∃x,r'=some (i,x):=by
     cases r' with
     | none=>simp at hr'
     | some p=>obtain⟨a,b⟩:=p;simp at hr';subst hr';exact⟨b,rfl⟩
    subst hx;obtain⟨e',he',hev⟩:=hat i x rfl;have hE:=hcm.2 i e e' hei he';have hv:aW m e.2 x:=by rw[←hev];exact hE.1.2.2
    cases ok with
    | false =>
     simp only[gv,cH] at hl;cases hl;exact⟨x,by simp[qt,hck,zV],hv⟩
    | true =>
     simp only[bS] at hl;cases hl;exact⟨.tuple #[x,.bool true],by simp[qt,hck,zV],aW.ji (.cons hv (.cons (.ct rfl) (.nil m)))⟩
variable {mt:TypeId}{mv mv':Value}
def Rel.lookup (R:Rel B w0 m h w) (P:Program) (hl:lookup P h mt mv k ok=some v) (hmv:aW m mv mv') (hk:aW m k k') :∃v',(Instr.lookup mt mv' k' ok).run P w=.ok v' w∧aW m v v':=by
 unfold Id.lookup at hl;cases hu:P.underlying mt with
 | none=>simp[hu] at hl
 | some d =>
  rw[hu] at hl;cases d with
  | map kt et =>
   simp only at hl;cases hes:entriesOf h mv with
   | none=>rw[hes] at hl;cases hl
   | some es =>
    rw[hes] at hl;simp only at hl;unfold entriesOf at hes;split at hes;·cases hes;have:=hmv.dN rfl;subst this;obtain⟨v',h1,h2⟩:=zh P w (c:=#[]) ⟨rfl,aa⟩ hk hl;refine⟨v',?_,h2⟩;rw[←h1];simp only[Instr.lookup,qt,bt,cq hu,bQ,bT];congr 1
    ·rename_i r;cases hmv with
     | ct h=>simp[Id.ct] at h
     | map hm =>
      obtain⟨_,_,c,sX,hcm⟩:=R.Hf hes hm;obtain⟨v',h1,h2⟩:=zh P w hcm hk hl;refine⟨v',?_,h2⟩;rw[←h1];simp only[Instr.lookup,qt,bt,cq hu,bQ,bT,run_getObj_map P sX];congr 1
    ·cases hes
  | _=>simp at hl
def Rel.mapUpdate {h':IH} (R:Rel B w0 m h w) (P:Program) {v':Value} (hl:mapUpdate P h mt mv k v=some h') (hmv:aW m mv mv') (hk:aW m k k') (hv:aW m v v') :∃w',(Instr.mapUpdate mt mv' k' v').run P w=.ok () w'∧Rel B w0 m h' w'∧Step m h w m h' w':=by
 unfold Id.mapUpdate at hl;split at hl
 ·rename_i kt et r hu;cases hmv with
  | ct h=>simp[Id.ct] at h
  | @map _ r' s hm =>
   cases hes:mapOf h r with
   | none=>simp[hes] at hl
   | some es =>
    simp only[hes,aK] at hl;obtain⟨hg,hrr,c,sX,hcm⟩:=R.Hf hes hm;have hm':m (2*(r / 2))=some (r',s):=by rw[hrr];exact hm
    have hs0:s=0:=(R.obj (r / 2) _ r' s hg hm').1;by_cases hck:Wi (aD P (Instr.checkKey false 10000 kt k))=true
    ·rw[ah hck] at hl;have hck' : ∀w:World,(Instr.checkKey false 10000 kt k).run P w=.ok () w:=by
      cases hx:aD P (Instr.checkKey false 10000 kt k) with
      | none=>rw[hx] at hck;cases hck
      | some u=>exact ml P _ _ hx
     cases hf:ER P kt k es with
     | none=>simp[hf] at hl
     | some ri =>
      obtain⟨hp,_,r0,zV,hr0,hat⟩:=GI hf hcm w;have ek:=hk.fx hp;subst ek;simp only[hf] at hl;cases ri with
      | none =>
       simp only at hl;cases hl;have hn:r0=none:=by cases r0<;>simp_all
       subst hn;obtain⟨R1,S1⟩:=R.setObj hg rfl rfl hm' (o1:=.map (es ++ [(k',v)])) (o':=.map (c.push { key:=k',val:=v',born:=es.length }) (es.length+1)) rfl
        (fun w' z hw'=>⟨hs0,c.push { key:=k',val:=v',born:=es.length },by rw[hw',du];rfl,by simp[hcm.1],fun i e e' he he'=>by
         rw[Array.getElem?_push] at he';by_cases hi:i<es.length;·rw[gF hi] at he;rw[ad (by have:=hcm.1;omega)] at he';exact hcm.2 i e e' he he'
         ·rw[jv byOmega] at he
          have hi0:i - es.length=0:=by
           rcases gW (i - es.length) with h|h;·exact h
           ·rw[cI bq] at he;cases he
          rw[hi0] at he;simp at he;subst he;rw[ah (by have:=hcm.1;omega)] at he';cases he';exact⟨⟨rfl,hp,hv⟩,by show es.length=i;omega⟩⟩)
       refine⟨_,?_,R1,S1⟩;simp[Instr.mapUpdate,cq hu,run_getObj_map P sX,hck',zV,run_setObj_map P sX]
      | some i =>
       simp only at hl;cases hei:es[i]? with
       | none=>simp[hei] at hl
       | some e =>
        simp only[hei] at hl;by_cases ij:Instr.sameBits 10000 e.1 k'=true
        ·rw[ah ij] at hl;cases hl;obtain⟨x,hx⟩ : ∃x,r0=some (i,x):=by
          cases r0 with
          | none=>simp at hr0
          | some p=>obtain⟨a,b⟩:=p;simp at hr0;subst hr0;exact⟨b,rfl⟩
         subst hx;obtain⟨e',he',_⟩:=hat i x rfl;have hE:=hcm.2 i e e' hei he'
         have hil:i<es.length:=by
          rcases cU i es.length with h|h;·exact h
          ·rw[cI h] at hei;cases hei
         obtain⟨R1,S1⟩:=R.setObj hg rfl rfl hm' (o1:=.map (es.set i (k',v))) (o':=.map (c.modify i fun e => { e with key:=k',val:=v' }) es.length) rfl (fun w' z hw'=>⟨hs0,c.modify i fun e => { e with key:=k',val:=v' },by rw[hw',dV],by simp[hcm.1],fun j a a' ha ha'=>by
           rw[Array.getElem?_modify] at ha';by_cases hj:i=j;·subst hj;rw[IC (by simpa using hil)] at ha;cases ha;simp only[bS,he',jt,tE] at ha';subst ha';exact⟨⟨rfl,hp,hv⟩,hE.2⟩
           ·rw[List.getElem?_set_ne hj] at ha;simp only[hj,cH] at ha';exact hcm.2 j a a' ha ha'⟩)
         refine⟨_,?_,R1,S1⟩;have hkt:(Instr.keyThatStays (((c[i]?).map (·.key)).getD k') k').run P w=.ok k' w:=by simp only[he',jt,mZ,Instr.keyThatStays,hE.1.1,ij,bS,bT]
         simp[Instr.mapUpdate,cq hu,run_getObj_map P sX,hck',zV,hkt,run_setObj_map P sX]
        ·rw[ad ij] at hl;cases hl
    ·rw[ad hck] at hl;cases hl
 ·cases hl
def GH {P:Program} {t:TypeId} {x y x' y':Value} {b:Bool} (h:zM P t x y=some b) (hx:aW m x x') (hy:aW m y y') (w:World):(Op.equal t x' y').run P w=.ok b w:=by
 unfold zM at h;cases hu:P.underlying t with
 | none=>simp[hu] at h
 | some d =>
  simp only[hu] at h;show(Op.equalIn (9999+1) t x' y').run P w=_;generalize 9999=depth;unfold yp at h;split at h<;>cases h<;>cases hx<;>cases hy<;>first
   | (simp_all [Id.ct];done)
   | simp[Op.equalIn,cq hu]
def aW.unit (m:Mp):aW m (.tuple #[]) (.tuple #[]):=.tuple rfl fun i v v' h=>by simp at h
variable {v:Value}
def LZ {z:List Value} : ∀{n:Nat},v∈cj n z→v∈z
 | 0,h=>by cases h
 | n+1,h=>by
  rw[cj,eE] at h;rcases h with h|h;·exact h
  ·exact LZ h
theorem Dn (z:Array Value) (n:Nat) (hz:z.size≠0):(Builtin.zeroCells z n).toList=cj n z.toList:=by rw[←ug z n hz];simp[Builtin.zeroCells]
variable {x':Value}{ty t:TypeId}{m:Mp}{x:Value}{w:World}{ts:Array TypeId}
def Rel.clear {B:Nat} {w0:World} {h h':IH} (R:Rel B w0 m h w) (P:Program)  (h0:ts[0]?=some t) (hc:Af P h t x=some (v,h')) (hx:aW m x x') :∃w',(Builtin.clear_ ts ty #[x']).run P w=.ok v w'∧aW m v v∧Rel B w0 m h' w'∧Step m h w m h' w':=by
 unfold Af at hc;have e0 : ∀y:Value,(#[y]:Array Value)[0]?=some y:=fun _=>rfl;cases hdt:P.underlying t with
 | none=>simp[hdt] at hc
 | some td =>
  rw[hdt] at hc;cases td with
  | slice e =>
   split at hc;·cases hc;obtain⟨rfl,rfl,rfl⟩:=hx.pB;refine⟨w,?_,.unit m,R,Step.refl _ _ _⟩;simp only[Builtin.clear_,h0,e0,bt,cq hdt,bQ,bT]
   ·rename_i h1 h2 b o dl dk he;cases he
    have hdv : ∃r q cap a,x'=.slice (some a) dl cap∧(0<dk→m b=some (r,q)∧a=⟨r,q+o,none⟩)∧(dk=0→dl=0):=by
     rcases hx.gf with⟨r,q,cap,hm,h1,_,_,_,_,rfl⟩|⟨hl,hk,a,cap,rfl⟩;·exact⟨r,q,cap,_,rfl,fun _=>⟨hm,rfl⟩,fun e=>byOmega⟩
     ·subst hl;exact⟨0,0,cap,a,rfl,fun e=>byOmega,fun _=>rfl⟩
    obtain⟨r,q,cap,a,rfl,zS,hzero⟩:=hdv;simp only[aK,bD] at hc;by_cases hn:dl=0;·rw[ah hn] at hc;cases hc;subst hn;refine⟨w,?_,.unit m,R,Step.refl _ _ _⟩;simp only[Builtin.clear_,h0,e0,bt,cq hdt,bQ,bT]
    ·rw[ad hn] at hc;cases hz:aT P e with
     | none=>simp[hz] at hc
     | some z =>
      simp only[hz] at hc;by_cases iv:(z.isEmpty || !(z.all aM))=true;·rw[ah iv] at hc;cases hc
      rw[ad iv] at hc
      simp only[nh,not_or,Bool.not_eq_true,Bool.not_eq_false'] at iv;obtain⟨h1w,hw1,hv1⟩:=bg.1 hc;cases hv1
      obtain⟨zv,hz0,hzp,rfl⟩:=fj hz
      have hk:0<dk:=by
       rcases gW dk with e|e
       ·exact absurd (hzero e) hn
       ·exact e
      obtain⟨hm,rfl⟩:=zS hk
      have hL:cg m (cj dl zv.cells.toList) (cj dl zv.cells.toList):=cg.cj (aW.cY (m:=m) hzp).cells dl
      obtain⟨w',hr1,R1,S1⟩:=R.wr hw1 hm hL (fun v hv=>gG.1 iv.2 v (LZ hv)) P
      have hsz:zv.cells.size≠0:=by
       intro e
       have:zv.cells.toList = []:=List.eq_nil_of_length_eq_zero (by rw[ku];exact e)
       rw[this] at iv;simp at iv
      rw[←Dn _ _ hsz] at hr1;refine⟨w',?_,.unit m,R1,S1⟩;obtain⟨n,rfl⟩ : ∃n,dl=n+1:=⟨dl - 1,byOmega⟩;simp only[Builtin.clear_,h0,e0,bt,cq hdt,bQ,gT w hz0,hr1,bT]
   ·cases hc
  | _=>simp at hc
theorem Rel.cap (P:Program) (h0:ts[0]?=some t) (hc:Zd5 P t x=some v) (hx:aW m x x') :(Builtin.cap_ ts ty #[x']).run P w=.ok v w∧plain v=true:=by
 unfold Zd5 at hc;have e0 : ∀y:Value,(#[y]:Array Value)[0]?=some y:=fun _=>rfl;cases hdt:P.underlying t with
 | none=>simp[hdt] at hc
 | some td =>
  rw[hdt] at hc;cases td with
  | slice e =>
   split at hc;·cases hc;obtain⟨rfl,rfl,rfl⟩:=hx.pB;refine⟨?_,rfl⟩;simp only[Builtin.cap_,h0,e0,bt,cq hdt,bQ,bT];rfl
   ·rename_i h1 h2 b o dl dk he;cases he;simp only[aK,bD] at hc;by_cases hn:dk % 2=1
    ·rw[ah hn] at hc;cases hc;rcases hx.gf with⟨r,q,cap,hm,h3,h4,h5,h6,h7,rfl⟩|⟨hl,hk,a,cap,rfl⟩
     ·refine⟨?_,rfl⟩;simp only[Builtin.cap_,h0,e0,bt,cq hdt,bQ,bT,h6 hn];rfl
     ·omega
    ·rw[ad hn] at hc;cases hc
   ·cases hc
  | _=>simp at hc
def Cd (z:Array Value) (n:Nat) (hz:z.size≠0):Builtin.zeroCells z n=(cj n z.toList).toArray:=by rw[←ug z n hz];rfl
def AO (P:Program) (w:World) (ts:Array TypeId) (ty:TypeId) (st xt elem:TypeId) (ik k:IntKind) (size bytes:Nat) (z:Value) (n:Nat)(h0:ts[0]?=some st) (h1:ts[1]?=some xt) (hst:P.underlying st=some (.slice elem)) (hxt:P.underlying xt=some (.int ik)) (hsz:ba P elem=some size) (hby:kI P elem=some bytes) (hz:u6 P elem=some z)(hn:0<n) (hs0:0<size) (hzs:z.cells.size=size) (hb:bytes≤65536) (mX:n*(bytes+1)≤bh) :∃d ma rest,(Builtin.append_ ts ty #[.slice none 0 0,.int k n]).run P w=.ok (.slice (some ⟨w.heap.size,0,none⟩) n ma) ((({ w with drawn:=d }:World)).alloc (.cells (cj n z.cells.toList ++ rest).toArray elem))∧n≤ma∧rest.length=(ma - n)*z.cells.size:=by
 unfold kI at hby;obtain⟨i,hi,hib⟩:=bg.1 hby;have qS : ¬(0+n≤0):=byOmega;have hN:=nextslicecap_le (0+n) 0 byOmega;have h4:n*(bytes+1)=n*bytes+n:=by rw[tF,dG]
 have ZdA : ¬(Builtin.nextslicecap (0+n) 0*bytes > 2 ^ 48):=by
  have h2:Builtin.nextslicecap (0+n) 0*bytes≤(2*(0+n)+1024)*bytes:=cT _ hN;have h3:(2*(0+n)+1024)*bytes=2*(n*bytes)+1024*bytes:=by rw[eu,cW,uV]
  unfold bh at mX;omega
 have ZdG : ¬((0+n:Nat):Int) > IntKind.i64.max:=by unfold bh at mX;have e:IntKind.i64.max=9223372036854775807:=aP;rw[e];omega
 have Zfx:IntKind.i64.wrap (n:Int)=(n:Int):=yc n (by unfold bh at mX;omega);let q:=Question.appendCap n 0 elem;have ZdJ:n≤q.cut (w.tape w.drawn q):=Nat.le_add_right _ _;refine⟨w.drawn+1,q.cut (w.tape w.drawn q),(Builtin.zeroCells z.cells (q.cut (w.tape w.drawn q) - n)).toList,?_,ZdJ,by simp[Builtin.zeroCells]⟩;have e0:(#[Value.slice none 0 0,Value.int k n]:Array Value)[0]?=some (.slice none 0 0):=rfl;have e1:(#[Value.slice none 0 0,Value.int k n]:Array Value)[1]?=some (.int k n):=rfl;have hl0 : ¬((n:Int)<0):=byOmega;have hl1 : ¬((n:Int)*(bytes:Int) > 2 ^ 48):=by have:(n:Int)*(bytes:Int)=((n*bytes:Nat):Int):=aa;rw[this];unfold bh at mX;omega
 have hns : ¬(n*size=0):=by have:=kf hn hs0;omega
 have hold : ∀d,(Builtin.firstCells size 0 (.slice none 0 0)).run P { w with drawn:=d }=.ok #[] { w with drawn:=d }:=fun d=>rfl;simp only[Builtin.append_,h0,h1,e0,e1,bt,cq hst,bQ,dA w hsz,cq hxt,bT,asInt,asIntOf,Zfx,bS,ad hl0,run_typeInfo w hi,hib,ad hl1,oO,qS,cH,true_or];rw[ad (fun h=>ZdG h.1)];simp only[bt,run_typeInfo w hi,hib,bQ];rw[ad ZdA];simp only[bt,run_typeInfo _ hi,bQ,run_choose,Question.forced,gv,cH,run_askRoom,hold,lW,ad hns,gT _ hz,bT,Go.newRow,lO,eu,Cd z.cells n byOmega];have ZdW : ∀Z:Array Value,(#[]:Array Value) ++ (cj n z.cells.toList).toArray ++ Z=(cj n z.cells.toList ++ Z.toList).toArray:=fun Z=>by rw[←uZ];simp
 rw[ZdW];rfl
def Rel.rI {B:Nat} {w0:World} {m:Mp} {h h':IH} {w:World} (R:Rel B w0 m h w) (P:Program) {ts:Array TypeId} {ty st xt:TypeId} {ik:IntKind} {s s' x x' v:Value}(h0:ts[0]?=some st) (h1:ts[1]?=some xt) (hxt:P.underlying xt=some (.int ik)) (ha:rI P h st s x=some (v,h')) (hs:aW m s s') (hx:aW m x x') (ec:iA m h.n h'.n) :∃v' m' w',(Builtin.append_ ts ty #[s',x']).run P w=.ok v' w'∧aW m' v v'∧Rel B w0 m' h' w'∧Step m h w m' h' w':=by
 unfold Id.rI at ha;cases hst:P.underlying st with
 | none=>simp[hst] at ha
 | some d =>
  rw[hst] at ha;cases d with
  | slice elem =>
   cases hsz:ba P elem with
   | none=>simp[hsz] at ha
   | some size =>
   cases hby:kI P elem with
   | none=>simp[hsz,hby] at ha
   | some bytes =>
   cases hz:aT P elem with
   | none=>simp[hsz,hby,hz] at ha
   | some zs =>
   cases hn:lE x bh with
   | none=>simp[hsz,hby,hz,hn] at ha
   | some n =>
   obtain⟨z,hz0,hzp,rfl⟩:=fj hz;obtain⟨k,rfl,hn1⟩:=mb hn hx;simp only[hsz,hby,hz,hn,aK] at ha;split at ha
   ·rename_i a c;split at ha
    ·rename_i hc;cases ha;simp only[eV,bD,bI,rO] at hc;obtain⟨⟨⟨⟨rfl,rfl⟩,hn0,hs0⟩,Pw,hzl⟩,iv,mX⟩:=hc;obtain⟨_,_,rfl⟩:=hs.pB;have hzs:z.cells.size=size:=by simpa using hzl
     obtain⟨d,ma,rest,cu,qS,vZ⟩:=AO P w ts ty st xt elem ik k size bytes z n h0 h1 hst hxt hsz hby hz0 hn0 hs0 hzs Pw mX;have hm0:m (2*h.n)=none:=ec h.n (ar _) (jR _);have hL:cg m (cj n z.cells.toList) (cj n z.cells.toList):=cg.cj (aW.cY (m:=m) hzp).cells n;have hlen:(cj n z.cells.toList).length=n*size:=by rw[rf,hzl]
     have RK:Rel B w0 m h { w with drawn:=d }:=R.congr rfl (nL R.below d);obtain⟨R1,S1⟩:=RK.new (.cells (cj n z.cells.toList) size none) (.cells (cj n z.cells.toList ++ rest).toArray elem) (size,(cj n z.cells.toList ++ rest).length) hm0 ⟨(cj n z.cells.toList ++ rest).toArray,elem,by rw[heap_alloc,ah rfl],⟨aa,fun i v hi=>by
       obtain⟨v',a,b⟩:=hL.get hi;refine⟨v',?_,b⟩
       have hi':i<(cj n z.cells.toList).length:=by
        rcases cU i (cj n z.cells.toList).length with h|h;·exact h
        ·rw[cI h] at a;cases a
       simp only[De,eu];rw[gF hi'];exact a⟩,rfl,aa⟩ rfl
     refine⟨_,_,_,cu,?_,R1,S1.congr rfl⟩;exact aW.slice (m:=m.upd (2*h.n) (w.heap.size,0) (size,(cj n z.cells.toList ++ rest).length)) (b:=2*h.n) (o:=0) (r:=w.heap.size) (s:=0) (len:=n) (k:=2*n) (cap:=ma) (Mp.cb _ _ _ _) byOmega byOmega byOmega byOmega (by intro _;rw[Mp.pF];simp only[du,vZ,hlen,hzs];rw[←cW];simp only[eu];exact cT _ byOmega)
    ·cases ha
   ·cases ha
  | _=>simp at ha
variable {m:Mp}{fr:Fr}{ρ:Operand→Value}
def vJ (hρ : ∀x v,opd fr x=some v→aW m v (ρ x)) : ∀(l:List Operand) (vs:List Value),jV fr l=some vs→cg m vs (l.map ρ)
 | [],vs,h=>by simp only[jV] at h;cases h;exact .nil m
 | x :: l,vs,h=>by
  rw[jV] at h;cases hx:opd fr x with
  | none=>simp[hx] at h
  | some v =>
   cases hl:jV fr l with
   | none=>simp[hx,hl] at h
   | some vs' =>
    simp only[hx,hl] at h;cases h;exact .cons (hρ x v hx) (vJ hρ l vs' hl)
def yn (hρ : ∀x v,opd fr x=some v→aW m v (ρ x)) {o:Option Operand} {v:Option Value} (h:fG fr o=some v):kM m v (o.map ρ):=by
 cases o with
 | none=>simp only[fG] at h;cases h;trivial
 | some x =>
  simp only[fG] at h;obtain⟨u,hu,rfl⟩:=bg.1 h;exact hρ x u hu
variable {x' y x v:Value}{t:TypeId}
def SU {P:Program} {op:BinOp} {ox oy:Operand} {y':Value} (h:binop P op t ox oy x y=some v) (hx:aW m x x') (hy:aW m y y') (w:World) :(do eqGuard op t ox oy x' y';Go.binOp op t x' y':Sem Value).run P w=.ok v w∧plain v=true:=by
 unfold binop at h;simp only[aK] at h;by_cases hp:(plain x && plain y)=true;·rw[ah hp] at h;simp only[eV] at hp;rw[hx.fx hp.1,hy.fx hp.2];obtain⟨a,b⟩:=kD h;exact⟨b w,a⟩
 ·rw[ad hp] at h;have guard : ∀(op:BinOp) {b:Bool},zM P t x y=some b→(eqGuard op t ox oy x' y').run P w=.ok () w:=by
   intro op b hb
   have hd : ∃d,yp d x y=some b:=by
    unfold zM at hb;split at hb;·exact⟨_,hb⟩
    ·cases hb
   obtain⟨d,hd⟩:=hd;unfold yp at hd;split at hd<;>cases hd<;>cases hx<;>cases hy<;>first
    | (simp_all [Id.ct];done)
    | (unfold eqGuard;split<;>rfl)
  have ZbB : ∀{b:Bool},zM P t x y=some b→(∀o,Go.binOp .eql t x' y'=(do pure (.bool (←Op.equal t x' y')))∨o)∧(∀o,Go.binOp .neq t x' y'=(do pure (.bool (!(←Op.equal t x' y'))))∨o):=by
   intro b hb
   have hd : ∃d,yp d x y=some b:=by
    unfold zM at hb;split at hb;·exact⟨_,hb⟩
    ·cases hb
   obtain⟨d,hd⟩:=hd;unfold yp at hd;split at hd<;>cases hd<;>cases hx<;>cases hy<;>first
    | (simp_all [Id.ct];done)
    | exact⟨fun _=>.inl rfl,fun _=>.inl rfl⟩
  cases op with
  | eql =>
   simp only at h;obtain⟨b,hb,rfl⟩:=bg.1 h;refine⟨?_,rfl⟩;have e:=((ZbB hb).1 False).resolve_right id;simp[guard _ hb,e,GH hb hx hy w]
  | neq =>
   simp only at h;obtain⟨b,hb,rfl⟩:=bg.1 h;refine⟨?_,rfl⟩;have e:=((ZbB hb).2 False).resolve_right id;simp[guard _ hb,e,GH hb hx hy w]
  | _=>cases h
variable {ty:TypeId}{ts:Array TypeId}{h:IH}{B:Nat}{w w0:World}
theorem Rel.qB (R:Rel B w0 m h w) (P:Program) (hl:qB P h t x=some v) (ht:ts[0]?=some t) (hx:aW m x x') :
  (Builtin.len_ ts ty #[x']).run P w=.ok v w∧plain v=true:=by
 unfold Id.qB at hl;have e0:(#[x']:Array Value)[0]?=some x':=rfl;split at hl
 ·rename_i hu;cases hl
  have:=hx.dN rfl;subst this
  exact⟨by simp[Builtin.len_,ht,cq hu,goInt],rfl⟩
 ·rename_i n e hu;cases hl
  exact⟨by simp[Builtin.len_,ht,cq hu,goInt],rfl⟩
 ·rename_i a hu
  split at hl
  ·rename_i n e hu2;cases hl
   exact⟨by simp[Builtin.len_,ht,cq hu,cq hu2,goInt],rfl⟩
  ·cases hl
 ·rename_i e a n c hu;cases hl
  obtain⟨a',c',rfl⟩:=A0 hx (show Id.lenOf (.slice a n c)=some n from rfl);exact⟨by simp[Builtin.len_,ht,cq hu,goInt],rfl⟩
 ·rename_i k e hu;cases hl
  have:=hx.dN rfl;subst this
  exact⟨by simp[Builtin.len_,ht,cq hu,goInt],rfl⟩
 ·rename_i k e r hu
  obtain⟨es,hes,rfl⟩:=bg.1 hl
  cases hx with
  | ct h=>simp[Id.ct] at h
  | map hm =>
   obtain⟨_,_,c,sX,hcm⟩:=R.Hf hes hm
   exact⟨by simp[Builtin.len_,ht,cq hu,run_getObj_map P sX,goInt,hcm.1],rfl⟩
 ·cases hl
variable {vs':Array Value}
def Yw (hv:cg m [x] vs'.toList) : ∃x',vs' = #[x']∧aW m x x':=by
 obtain⟨l⟩:=vs'
 match l,hv with
 | [x'],hv=>exact⟨x',rfl,hv.2 0 x x' rfl rfl⟩
 | [],hv=>have:=hv.1;simp at this
 | _ :: _ :: _,hv=>have:=hv.1;simp at this
def Zcb (hv:cg m [x,y] vs'.toList) : ∃x' y',vs' = #[x',y']∧aW m x x'∧aW m y y':=by
 obtain⟨l⟩:=vs'
 match l,hv with
 | [x',y'],hv=>exact⟨x',y',rfl,hv.2 0 x x' rfl rfl,hv.2 1 y y' rfl rfl⟩
 | [],hv=>have:=hv.1;simp at this
 | [_],hv=>have:=hv.1;simp at this
 | _ :: _ :: _ :: _,hv=>have:=hv.1;simp at this
theorem cg.fx : ∀{l l':List Value},cg m l l'→l.all plain=true→l'=l
 | [],[],_,_=>rfl
 | [],_ :: _,h,_=>by have:=h.1;simp at this
 | _ :: _,[],h,_=>by have:=h.1;simp at this
 | a :: l,b :: l',h,hp=>by simp only[tM,eV] at hp;rw[(h.2 0 a b rfl rfl).fx hp.1,cg.fx (l:=l) (l':=l') ⟨by have:=h.1;simpa using this,fun i v v' x y=>h.2 (i+1) v v' (by simpa using x) (by simpa using y)⟩ hp.2]
def Rel.builtin {h':IH} (R:Rel B w0 m h w) (P:Program) {b:Builtin} {consts:Array Bool} {vs:List Value}  (hb:Id.builtin P h b ts vs=some (v,h')) (hv:cg m vs vs'.toList) (ec:iA m h.n h'.n) :NB B w0 m h w ((Go.builtin b ts ty consts vs').run P w) v h':=by
 unfold Id.builtin at hb;split at hb
 ·-- len
  rename_i x;obtain⟨x',rfl,hx⟩:=Yw hv;cases hts:ts[0]? with
  | none=>simp[hts] at hb
  | some t =>
   simp only[hts] at hb;obtain⟨u,hu,he⟩:=bg.1 hb;cases he;obtain⟨h1,h2⟩:=R.qB P (ty:=ty) hu hts hx;exact .quiet R (by simp[Go.builtin,h1]) (.cY h2)
 ·-- append
  rename_i s x;obtain⟨s',x',rfl,hs,hx⟩:=Zcb hv;simp only[aK] at hb;by_cases hsl:dE P ts[1]?=true
  ·rw[ah hsl] at hb;cases hts:ts[0]? with
   | none=>simp[hts] at hb
   | some st =>
    simp only[hts] at hb;have hxt : ∃xt xe,ts[1]?=some xt∧P.underlying xt=some (.slice xe):=by
     unfold dE at hsl;split at hsl
     ·rename_i xt h1;split at hsl
      ·rename_i xe h2;exact⟨xt,xe,h1,h2⟩
      ·cases hsl
     ·cases hsl
    obtain⟨xt,xe,h1,h2⟩:=hxt;obtain⟨v',m',w',hr,a,b,c⟩:=R.append P (ty:=ty) hts h1 h2 hb hs hx ec;exact⟨_,v',m',w',by simp[Go.builtin,hr],.inl rfl,a,b,c⟩
  ·rw[ad hsl] at hb;by_cases hil:JV P ts[1]?=true
   ·rw[ah hil] at hb;cases hts:ts[0]? with
    | none=>simp[hts] at hb
    | some st =>
     simp only[hts] at hb;have hxt : ∃xt ik,ts[1]?=some xt∧P.underlying xt=some (.int ik):=by
      unfold JV at hil;split at hil
      ·rename_i xt h1;split at hil
       ·rename_i ik h2;exact⟨xt,ik,h1,h2⟩
       ·cases hil
      ·cases hil
     obtain⟨xt,ik,h1,h2⟩:=hxt;obtain⟨v',m',w',hr,a,b,c⟩:=R.rI P (ty:=ty) hts h1 h2 hb hs hx ec;exact⟨_,v',m',w',by simp[Go.builtin,hr],.inl rfl,a,b,c⟩
   ·rw[ad hil] at hb;cases hb
 ·-- copy
  rename_i d s;obtain⟨d',s',rfl,hd,hs⟩:=Zcb hv;cases hts:ts[0]? with
  | none=>simp[hts] at hb
  | some dt =>
   simp only[hts] at hb;obtain⟨w',hr,a,b,c⟩:=R.copy P (ty:=ty) hts hb hd hs;exact⟨_,_,m,w',by simp[Go.builtin,hr],.inl rfl,a,b,c⟩
 ·-- clear
  rename_i x;obtain⟨x',rfl,hx⟩:=Yw hv;cases hts:ts[0]? with
  | none=>simp[hts] at hb
  | some t =>
   simp only[hts] at hb;obtain⟨w',hr,a,b,c⟩:=R.clear P (ty:=ty) hts hb hx;exact⟨_,_,m,w',by simp[Go.builtin,hr],.inl rfl,a,b,c⟩
 ·-- cap
  rename_i x;obtain⟨x',rfl,hx⟩:=Yw hv;cases hts:ts[0]? with
  | none=>simp[hts] at hb
  | some t =>
   simp only[hts] at hb;obtain⟨u,hu,he⟩:=bg.1 hb;cases he;obtain⟨h1,h2⟩:=Rel.cap (w:=w) P (ty:=ty) hts hu hx;exact .quiet R (by simp[Go.builtin,h1]) (.cY h2)
 ·simp only[aK] at hb;by_cases hp:vs.all plain=true
  ·rw[ah hp] at hb;obtain⟨u,hu,he⟩:=bg.1 hb;cases he;obtain⟨h1,h2⟩:=kD hu;have e:vs'=vs.toArray:=by rw[←hv.fx hp]
   subst e;exact .quiet R (by simp only[Go.builtin,bt];rw[show(Builtin.max_ ts ty vs.toArray)=(Builtin.max_ ts 0 vs.toArray) from rfl,h2 w];rfl) (.cY h1)
  ·rw[ad hp] at hb;cases hb
 ·simp only[aK] at hb;by_cases hp:vs.all plain=true
  ·rw[ah hp] at hb;obtain⟨u,hu,he⟩:=bg.1 hb;cases he;obtain⟨h1,h2⟩:=kD hu;have e:vs'=vs.toArray:=by rw[←hv.fx hp]
   subst e;exact .quiet R (by simp only[Go.builtin,bt];rw[show(Builtin.min_ ts ty vs.toArray)=(Builtin.min_ ts 0 vs.toArray) from rfl,h2 w];rfl) (.cY h1)
  ·rw[ad hp] at hb;cases hb
 ·cases hb
set_option maxHeartbeats 16000000
variable {m:Mp}{v':Value}
def aW.qa {a:Addr} (h:aW m (.pointer (some a)) v') : ∃a',v'=.pointer (some a'):=by
 cases h with
 | ct h=>simp[Id.ct] at h
 | ptr=>exact⟨_,rfl⟩
def aW.Z4 {r:Option Nat} (h:aW m (.map r) v') : ∃r',v'=.map r':=by
 cases h with
 | ct h=>exact⟨_,rfl⟩
 | map=>exact⟨_,rfl⟩
variable {c:Array MapEntry}
def Uf {i:Nat} {e:MapEntry} (hb : ∀(j:Nat) (e':MapEntry),c[j]?=some e'→e'.born=j) (hi:c[i]?=some e):c.find? (fun x=>x.born == i)=some e:=by
 have hil:i<c.size:=by
  rcases cU i c.size with h|h;·exact h
  ·rw[Dj h] at hi;cases hi
 rw[Array.find?_eq_some_iff_getElem];refine⟨by simp[hb i e hi],i,hil,?_,?_⟩;·rw[oT hil] at hi;exact NJ hi
 ·intro j hj
  have:=hb j c[j] (oT byOmega);simp[this];omega
variable {w:World}
def uG (P:Program) {r:Nat} {a:Option Nat} {b d:Nat} {c:Array Nat} (h:w.heap[r]?=some (.mapIter a b c d)):(getObj r).run P w=.ok (.mapIter a b c d) w:=by simp only[getObj,Sem.run,h]
def wD.born {es:List (Value×Value)} (h:wD m es c) (j:Nat) (e':MapEntry) (he:c[j]?=some e'):e'.born=j:=by
 have hj:j<c.size:=by
  rcases cU j c.size with h|h;·exact h
  ·rw[Dj h] at he;cases he
 have hj2:j<es.length:=by have:=h.1;omega
 exact(h.2 j es[j] e' (bK hj2) he).2
def Zai {B:Nat} {w0:World} {h h':IH} (R:Rel B w0 m h w) (P:Program) {fr:Fr} {ρ:Operand→Value} (hρ : ∀x v,opd fr x=some v→aW m v (ρ x)) (oper:Oper) {v:Value}(hi:iop P fr oper.op h=some (v,h')) (ec:iA m h.n h'.n):NB B w0 m h w ((execOp ρ oper).run P w) v h':=by
 obtain⟨dst,op,ty,pos,aft,gd⟩:=oper;simp only at hi ⊢;have q : ∀{x:Operand} {u:Value},(opd fr x).map (·,h)=some (v,h')→h'=h∧aW m v (ρ x):=by intro x u hx;obtain⟨a,ha,he⟩:=bg.1 hx;cases he;exact⟨rfl,hρ x _ ha⟩
 unfold iop at hi;split at hi
 ·-- move
  obtain⟨rfl,hv⟩:=q (u:=.nilFunc) hi
  exact .quiet R (by simp[execOp]) hv
 ·obtain⟨rfl,hv⟩:=q (u:=.nilFunc) hi
  exact .quiet R (by simp[execOp]) hv
 ·-- pick
  rename_i c a b;split at hi;·rename_i hc;obtain⟨rfl,hv⟩:=q (u:=.nilFunc) hi;have:=(hρ c _ hc).dN rfl;exact .quiet R (by simp[execOp,this,asBool]) hv
  ·rename_i hc
   obtain⟨rfl,hv⟩:=q (u:=.nilFunc) hi;have:=(hρ c _ hc).dN rfl
   exact .quiet R (by simp[execOp,this,asBool]) hv
  ·cases hi
 ·-- alloc
  rename_i t;obtain⟨z,hz,he⟩:=bg.1 hi;cases he;obtain⟨zv,hz0,hzp,rfl⟩:=fj hz;obtain⟨R1,S1⟩:=R.newRow (ec h.n (ar _) (jR _)) (aW.cY (m:=m) hzp).cells 0 t;refine⟨.value (.pointer (some ⟨w.heap.size,0,none⟩)),_,_,_,?_,.inl rfl,?_,R1,S1⟩
  ·simp only[execOp,Instr.alloc,bt,gT w hz0,bQ,newVar,Go.newRow,lO,bT];rfl
  ·exact aW.ptr (s:=0) (o:=0) (Mp.cb _ _ _ _)
 ·-- box
  rename_i t x;obtain⟨a,ha,he⟩:=bg.1 hi;cases he;have hv:=hρ x a ha;obtain⟨R1,S1⟩:=R.newRow (ec h.n (ar _) (jR _)) hv.cells 0 t;refine⟨.value (.pointer (some ⟨w.heap.size,0,none⟩)),_,_,_,?_,.inl rfl,?_,R1,S1⟩;·simp only[execOp,Instr.box,bt,bQ,newVar,Go.newRow,lO,bT];rfl
  ·exact aW.ptr (s:=0) (o:=0) (Mp.cb _ _ _ _)
 ·-- build
  rename_i t parts;split at hi
  ·rename_i z ps hz hps;simp only[aK] at hi;by_cases ha:dK P t=true
   ·rw[ah ha] at hi;obtain⟨cs,hcs,he⟩:=bg.1 hi;cases he
    obtain⟨cs',h1,h2⟩:=SS hρ hz hps ha hcs w
    exact .quiet R (by simp only[execOp,bt,h1];rfl) h2
   ·rw[ad ha] at hi;cases hi
  ·cases hi
 ·-- buildSlice
  rename_i t len parts;split at hi
  ·rename_i ps hps;obtain⟨v',m',w',h1,h2,h3,h4⟩:=(tx P hρ hps hi w).rel R ec
   exact⟨_,v',m',w',by simp only[execOp,bt,h1];rfl,.inl rfl,h2,h3,h4⟩
  ·cases hi
 ·-- load
  rename_i t x;split at hi
  ·rename_i a ha;obtain⟨u,hu,he⟩:=bg.1 hi;cases he;obtain⟨v',h1,h2⟩:=R.load hu (hρ x a ha)
   exact .quiet R (by simp[execOp,h1]) h2
  ·cases hi
 ·-- store
  rename_i t x y;split at hi
  ·rename_i a u ha hu;obtain⟨hx,hhx,he⟩:=bg.1 hi;cases he;obtain⟨w',h1,h2,h3⟩:=R.store hhx (hρ x a ha) (hρ y u hu)
   exact⟨.skip,undef,m,w',by simp[execOp,h1],.inr ⟨rfl,rfl⟩,.undef m,h2,h3⟩
  ·cases hi
 ·-- nilCheck
  rename_i x;split at hi;·rename_i a ha;cases hi;have hv:=hρ x _ ha;obtain⟨a',e⟩:=hv.qa;exact .quiet R (v':=ρ x) (by simp[execOp,e]) hv
  ·rename_i f xs ys ha
   cases hi;have hv:=hρ x _ ha;obtain⟨fn',xs',ys',e,hf,h1,h2⟩:=hv.zW;cases fn'<;>simp[wF] at hf;subst hf;exact .quiet R (v':=ρ x) (by simp[execOp,e]) hv
  ·rename_i f xs ys ha;cases hi;have hv:=hρ x _ ha;obtain⟨fn',xs',ys',e,hf,h1,h2⟩:=hv.zW;cases fn'<;>simp[wF] at hf;exact .quiet R (v':=ρ x) (by simp[execOp,e]) hv
  ·rename_i r ha;cases hi;have hv:=hρ x _ ha;obtain⟨r',e⟩:=hv.Z4
   exact .quiet R (v':=ρ x) (by simp[execOp,e]) hv
  ·cases hi
 ·-- binOp
  rename_i op t x y yt;split at hi;·rename_i a b ha hb;obtain⟨u,hu,he⟩:=bg.1 hi;cases he;obtain⟨h1,h2⟩:=SU hu (hρ x a ha) (hρ y b hb) w;exact .quiet R (by simp only[execOp,bt] at h1 ⊢;rw[h1];rfl) (.cY h2)
  ·cases hi
 ·-- unOp
  rename_i op t x;split at hi
  ·rename_i a ha;simp only[aK] at hi;by_cases hp:plain a=true
   ·rw[ah hp] at hi;obtain⟨u,hu,he⟩:=bg.1 hi;cases he;obtain⟨h1,h2⟩:=kD hu;exact .quiet R (by simp only[execOp,(hρ x a ha).fx hp,bt,h2 w];rfl) (.cY h1)
   ·rw[ad hp] at hi;cases hi
  ·cases hi
 ·-- convert
  rename_i s d x;split at hi
  ·rename_i a ha;simp only[aK] at hi;by_cases hp:plain a=true
   ·rw[ah hp] at hi;obtain⟨u,hu,he⟩:=bg.1 hi;cases he;obtain⟨h1,h2⟩:=kD hu;exact .quiet R (by simp only[execOp,(hρ x a ha).fx hp,bt,h2 w];rfl) (.cY h1)
   ·rw[ad hp] at hi;cases hi
  ·cases hi
 ·-- sliceToArrayPointer
  rename_i t x;split at hi
  ·rename_i n e b o len k hu ha;simp only[aK] at hi;by_cases hc:(Nat.ble n len && Nat.blt 0 k)=true
   ·rw[ah hc] at hi;cases hi;simp only[eV,bI,rO] at hc;rcases(hρ x _ ha).gf with⟨r,s,cap,hm,_,_,_,_,_,e⟩|⟨_,hk,_⟩
    ·exact .quiet R (v':=.pointer (some ⟨r,s+o,none⟩)) (by simp[execOp,e,Instr.arrayAt,cq hu];omega) (.ptr hm)
    ·omega
   ·rw[ad hc] at hi;cases hi
  ·cases hi
 ·-- makeFunc
  rename_i fn first cap
  split at hi
  ·rename_i a b ha hb;split at hi
   ·rename_i f;cases hi;have h1:=vJ hρ _ _ ha;have h2:=vJ hρ _ _ hb;exact .quiet R (v':=.func (.func f) (first.map ρ) (cap.map ρ)) (by simp[execOp,Instr.makeFunc]) (aW.J5 rfl (by simpa using h1) (by simpa using h2))
   ·cases hi
  ·cases hi
 ·-- makeMap
  rename_i t r;have fin : ∀{v h'},some (Value.map (some (2*h.n)),h.new (.map []))=some (v,h')→iA m h.n h'.n→((Instr.makeMap t (r.map ρ)).run P w=.ok (.map (some w.heap.size)) (w.alloc (.map #[] 0))) →
    NB B w0 m h w ((execOp ρ { dst:=dst,op:=.makeMap t r,type:=ty,pos:=pos,after:=aft,guard:=gd }).run P w) v h':=by
   intro v h' e ec cu;cases e;obtain⟨R1,S1⟩:=R.new (.map []) (.map #[] 0) (0,0) (ec h.n (ar _) (jR _)) ⟨rfl,#[],by rw[heap_alloc,ah rfl];rfl,rfl,aa⟩ rfl;exact⟨.value (.map (some w.heap.size)),_,_,_,by simp[execOp,cu],.inl rfl,.map (Mp.cb _ _ _ _),R1,S1⟩
  split at hi;·exact fin hi ec (by simp only[Option.map_none,Instr.makeMap,bt,bT,bQ,lO];rfl)
  ·rename_i x;split at hi
   ·rename_i k n kt et hx hu
    have:=(hρ x _ hx).dN rfl
    exact fin hi ec (by simp only[jt,this,Instr.makeMap,bt,cq hu,asInt,asIntOf,bT,bQ,lO];rfl)
   ·cases hi
 ·-- makeSlice
  rename_i t l c;split at hi
  ·rename_i a b ha hb;obtain⟨v',m',w',h1,h2,h3,h4⟩:=(uJ P hi (hρ l a ha) (hρ c b hb) w).rel R ec
   exact⟨_,v',m',w',by simp only[execOp,bt,h1];rfl,.inl rfl,h2,h3,h4⟩
  ·cases hi
 ·-- slice
  rename_i t x lo hi' mx;split at hi;·rename_i a b c d ha hb hc hd;obtain⟨u,hu,he⟩:=bg.1 hi;cases he;obtain⟨v',h1,h2⟩:=R.dY P hu (hρ x a ha) (yn hρ hb) (yn hρ hc) (yn hρ hd);exact .quiet R (by simp only[execOp,bt,h1];rfl) h2
  ·cases hi
 ·-- fieldAddr
  rename_i t x f;split at hi
  ·rename_i a fd ha hf;split at hi
   ·rename_i b o n hA hS;simp only[aK,bD] at hi;by_cases h0:n=0
    ·rw[ah h0] at hi;cases hi
    ·rw[ad h0] at hi;cases hi;have hp:a=.pointer (some ⟨b,o,none⟩):=by unfold Id.asAddr at hA;split at hA<;>simp_all
     subst hp;obtain⟨r,s,hm,e⟩:=(hρ x _ ha).nV;unfold jf at hf;cases hu:P.underlying t with
     | none=>simp[hu] at hf
     | some d =>
      rw[hu] at hf;cases d with
      | struct fs =>
       simp only at hf;refine .quiet R (v':=.pointer (some ⟨r,s+(o+fd.offset),none⟩)) ?_ (.ptr hm);simp[execOp,e,Instr.fieldAt,cq hu,hf,Instr.sureAddr,fieldPlace,dA w hS,h0,oG,jS]
      | _=>simp at hf
   ·cases hi
  ·cases hi
 ·-- field
  rename_i t x f;split at hi
  ·rename_i cs fd ha hf;obtain⟨u,hu,he⟩:=bg.1 hi;cases he;obtain⟨cs',e,hL⟩:=(hρ x _ ha).uB;obtain⟨v',h1,h2⟩:=LJ P hu hL w;unfold jf at hf;cases hut:P.underlying t with
   | none=>simp[hut] at hf
   | some d =>
    rw[hut] at hf
    cases d with
    | struct fs =>
     simp only at hf
     exact .quiet R (by simp[execOp,e,Instr.field,cq hut,hf,asAgg,h1]) h2
    | _=>simp at hf
  ·cases hi
 ·-- indexAddr
  rename_i t x i;split at hi;·rename_i a b ha hb;obtain⟨u,hu,he⟩:=bg.1 hi;cases he;obtain⟨v',h1,h2⟩:=FX P hu (hρ x a ha) (hρ i b hb) w;exact .quiet R (by simp only[execOp,bt,h1];rfl) h2
  ·cases hi
 ·-- index
  rename_i t x i;split at hi
  ·rename_i cs b ha hb;split at hi
   ·rename_i n e j hu hj;simp only[aK,rO] at hi;by_cases hlt:j<n
    ·rw[ah hlt] at hi;split at hi
     ·rename_i size hS;obtain⟨u,hu2,he⟩:=bg.1 hi;cases he;obtain⟨cs',e1,hL⟩:=(hρ x _ ha).uB;obtain⟨k,e2⟩:=A8 (hρ i b hb) hj;obtain⟨v',h1,h2⟩:=LJ P hu2 hL w;refine .quiet R (v':=v') ?_ h2;have h3:(0:Int)≤Int.ofNat j∧Int.ofNat j<(n:Int):=by constructor<;>simp<;>omega
      simp only[execOp,e1,e2,Instr.index,asIntOf,bt,bT,bQ,cq hu];rw[ah h3];simp[dA w hS,h1]
     ·cases hi
    ·rw[ad hlt] at hi;cases hi
   ·cases hi
  ·rename_i s b ha hb;simp only[aK] at hi;by_cases hp:plain b=true
   ·rw[ah hp] at hi;obtain⟨u,hu,he⟩:=bg.1 hi;cases he;obtain⟨h1,h2⟩:=kD hu
    have e1:=(hρ x _ ha).dN rfl
    exact .quiet R (by simp only[execOp,(hρ i b hb).fx hp,e1,bt,h2 w];rfl) (.cY h1)
   ·rw[ad hp] at hi;cases hi
  ·cases hi
 ·-- lookup
  rename_i t x k ok;split at hi
  ·rename_i a b ha hb;obtain⟨u,hu,he⟩:=bg.1 hi;cases he;obtain⟨v',h1,h2⟩:=R.lookup P hu (hρ x a ha) (hρ k b hb)
   exact .quiet R (by simp only[execOp,bt,h1];rfl) h2
  ·cases hi
 ·-- mapUpdate
  rename_i t x k y;split at hi
  ·rename_i a b c ha hb hc;obtain⟨hx,hhx,he⟩:=bg.1 hi;cases he;obtain⟨w',h1,h2,h3⟩:=R.mapUpdate P hhx (hρ x a ha) (hρ k b hb) (hρ y c hc)
   exact⟨.skip,undef,m,w',by simp only[execOp,bt,h1];rfl,.inr ⟨rfl,rfl⟩,.undef m,h2,h3⟩
  ·cases hi
 ·-- insert
  rename_i t x k y;split at hi;·rename_i a b c ha hb hc;obtain⟨hx,hhx,he⟩:=bg.1 hi;cases he;obtain⟨w',h1,h2,h3⟩:=R.mapUpdate P hhx (hρ x a ha) (hρ k b hb) (hρ y c hc);exact⟨.skip,undef,m,w',by simp only[execOp,bt,h1];rfl,.inr ⟨rfl,rfl⟩,.undef m,h2,h3⟩
  ·cases hi
 ·-- extract
  rename_i x i;split at hi
  ·rename_i vs ha;obtain⟨u,hu,he⟩:=bg.1 hi;cases he;obtain⟨vs',e,hL⟩:=(hρ x _ ha).sF;obtain⟨v',h1,h2⟩:=hL.get (i:=i) (by simpa using hu);have h3:vs'[i]?=some v':=by simpa using h1
   exact .quiet R (v':=v') (by simp[execOp,e,Instr.extract,h3]) h2
  ·cases hi
 ·-- range over a map
  rename_i t x;split at hi
  ·rename_i kt et k hu hx;obtain⟨es,hes,he⟩:=bg.1 hi;cases he;obtain⟨rm,s,hm,hρx⟩ : ∃rm s,m k=some (rm,s)∧ρ x=.map (some rm):=by
    have:=hρ x _ hx;generalize ρ x=y at this;cases this with
    | ct h=>simp[Id.ct] at h
    | map hm=>exact⟨_,_,hm,rfl⟩
   obtain⟨hg,hkk,c,sX,hcm⟩:=R.Hf hes hm;have hs0:s=0:=(R.obj (k / 2) _ rm s hg (by rw[hkk];exact hm)).1;subst hs0;obtain⟨R1,S1⟩:=R.new (.iter k es.length [] es.length) (.mapIter (some rm) es.length #[] es.length) (0,0) (ec h.n (ar _) (jR _)) ⟨rfl,rm,by rw[heap_alloc,ah rfl],hm⟩ rfl;refine⟨.value (.pointer (some ⟨w.heap.size,0,none⟩)),_,_,_,?_,.inl rfl,.ptr (s:=0) (o:=0) (Mp.cb _ _ _ _),R1,S1⟩;simp only[execOp,Instr.range,hρx,bt,cq hu,bQ,run_getObj_map P sX,lO,bT];rfl
  ·cases hi
 ·-- a map's entry
  rename_i x;split at hi
  ·rename_i b hx;simp only[aK,bD] at hi;split at hi
   ·cases hi
   ·rename_i hb;split at hi
    ·rename_i k since seen last hit;split at hi
     ·rename_i es i hes ZfF;split at hi
      ·rename_i ZfR
       obtain⟨e,hei,he⟩:=bg.1 hi;cases he;obtain⟨r,s,hm,hρx⟩:=(hρ x _ hx).nV;obtain⟨hs0,rm,sX,hmk⟩:=R.obj (b / 2) _ r s hit (by rw[show 2*(b / 2)=b from by omega];exact hm);subst hs0;obtain⟨hg,hkk,c,Gf,hcm⟩:=R.Hf hes hmk
       have hil:i<es.length:=by
        rcases cU i es.length with h|h;·exact h
        ·rw[cI h] at hei;cases hei
       have hic:i<c.size:=by have:=hcm.1;omega
       have hE:=(hcm.2 i e c[i] hei (oT hic)).1;have zV:=Uf hcm.born (oT hic);have EI:seen.toArray.back?=some i:=by rw[←ZfF];simp[Array.back?,List.getLast?_eq_getElem?]
       refine .quiet R (v':=.tuple #[c[i].key,c[i].val]) ?_ (aW.ji (.cons ?_ (.cons hE.2.2 (.nil m))));·subst ZfR;simp only[execOp,Instr.entry,hρx,eu,bt,uG P sX,EI,run_getObj_map P Gf,bQ,Ip,gv,cH,zV,bT]
       ·rw[hE.1];exact aW.cY hE.2.1
      ·cases hi
     ·cases hi
    ·cases hi
  ·cases hi
 ·-- call of a builtin
  rename_i c;split at hi
  ·rename_i b hb;split at hi
   ·rename_i vs hvs;have hL:=vJ hρ _ _ hvs;have:=R.builtin P (ty:=ty) (consts:=c.args.map fun|.const _=>true|_=>false) (vs':=c.args.map ρ) hi (by simpa using hL) ec;obtain⟨nx,v',m',w',h1,h2⟩:=this;refine⟨nx,v',m',w',?_,h2⟩;rw[←h1];simp only[execOp,resolve,hb,bt,bT,bQ,invoke];rfl
   ·cases hi
  ·cases hi
 ·cases hi
end Go.Id
namespace Go.Id
open Go Go.RowKit
def on (b:Frame) (tmps:Array Value) (todo:List Item) (ds:List Deferred):Frame :=
 { fn:=b.fn,tmps,todo,defers:=ds,mode:=.run,kind:=b.kind,roundOf:=b.roundOf }
def kU (tmps:Array Value):Operand→Value
 | .tmp t=>tmps.getD t undef
 | .const v=>v
 | .global g=>.pointer (some ⟨g,0,none⟩)
 | .func f=>.func (.func f) #[] #[]
def Kj (b:Frame) (tmps:Array Value) (todo:List Item) (ds:List Deferred):(on b tmps todo ds).eval=kU tmps:=by funext x;cases x<;>rfl
def wT {B:Nat} {w0:World} {m:Mp} {h:IH} {w:World} (R:Rel B w0 m h w) {fr:Fr} {tmps:Array Value} (hf:gA m fr tmps) : ∀x v,opd fr x=some v→aW m v (kU tmps x):=by
 intro x v hx;cases x with
 | tmp t =>
  simp only[opd] at hx;obtain⟨v',h1,h2⟩:=hf t v hx
  simp only[kU,Dk,h1,mZ]
  exact h2
 | const u =>
  simp only[opd,aK] at hx;by_cases hp:plain u=true;·rw[ah hp] at hx;cases hx;exact .cY hp
  ·rw[ad hp] at hx;cases hx
 | global g =>
  simp only[opd,aK,Nat.blt,bI] at hx;split at hx
  case isFalse=>cases hx
  rename_i hg;cases hx;have:=aW.ptr (m:=m) (o:=0) (R.odd g hg);simpa [kU] using this
 | func f =>
  simp only[opd] at hx;cases hx;exact aW.J5 rfl (.nil m) (.nil m)
section
variable {P:Program} {b:Frame} {tmps:Array Value} {ds:List Deferred} {k:List Item} {cs:List Frame} {w:World}
def Zh:step P (lone (on b tmps (.code .skip :: k) ds) cs w)=.next (lone (on b tmps k ds) cs w):=jg (by simp[stepG,stepG.exec,on])
variable {l:Nat}
def Vt :step P (lone (on b tmps (.code (.label l) :: k) ds) cs w)=.next (lone (on b tmps k ds) cs w):=jg (by simp[stepG,stepG.exec,on])
variable {id:Nat}
def Om :step P (lone (on b tmps (.inBlock id :: k) ds) cs w)=.next (lone (on b tmps k ds) cs w):=jg (by simp[stepG,stepG.exec,on])
variable {c:Code}
def Ol :step P (lone (on b tmps (.inScope c :: k) ds) cs w)=.next (lone (on b tmps k ds) cs w):=jg (by simp[stepG,stepG.exec,on])
variable {y x:Code}
def vu :step P (lone (on b tmps (.code (.seq x y) :: k) ds) cs w)=.next (lone (on b tmps (.code x :: .code y :: k) ds) cs w):=jg (by simp[stepG,stepG.exec,on])
def QD {c:Operand} {t:Bool} (h:kU tmps c=.bool t) :step P (lone (on b tmps (.code (.cond c x y) :: k) ds) cs w)=.next (lone (on b tmps (.code (if t then x else y) :: k) ds) cs w) :=
 jg (by
  have:=congrFun (Kj b tmps (.code (.cond c x y) :: k) ds) c;simp only[on] at this;simp[stepG,stepG.exec,on,this,h])
def y9 :step P (lone (on b tmps (.code (.block id c) :: k) ds) cs w)=.next (lone (on b tmps (.code c :: .inBlock id :: k) ds) cs w):=jg (by simp[stepG,stepG.exec,on])
def DJ :step P (lone (on b tmps (.code (.scope c) :: k) ds) cs w)=.next (lone (on b tmps (.code c :: .inScope c :: k) ds) cs w):=jg (by simp[stepG,stepG.exec,on])
def QC :step P (lone (on b tmps (.code (.loop c) :: k) ds) cs w)=.next (lone (on b tmps (.code c :: .inLoop c :: k) ds) cs w):=jg (by simp[stepG,stepG.exec,on])
def GD :step P (lone (on b tmps (.inLoop c :: k) ds) cs w)=.next (lone (on b tmps (.code c :: .inLoop c :: k) ds) cs w):=jg (by simp[stepG,stepG.exec,on])
def Zi {k':List Item} (h:exitTo id k=some k'):step P (lone (on b tmps (.code (.exit id) :: k) ds) cs w)=.next (lone (on b tmps k' ds) cs w):=jg (by simp[stepG,stepG.exec,on,h])
variable {ops:Array Oper}
def GC :step P (lone (on b tmps (.code (.region id ops false) :: k) ds) cs w)=.next (lone (on b tmps (.inRegion ops (List.range ops.size) :: k) ds) cs w) :=
 jg (by simp[stepG,stepG.exec,on])
def DK :step P (lone (on b tmps (.code (.region id ops true) :: k) ds) cs w) = .next (lone (on b tmps (.inRegion ops (Region.schedule (P.follows .mixedOrders) ops (w.tape w.drawn (.order b.fn id))) :: k) ds) cs { w with drawn:=w.drawn+1 }) :=
 jg (by simp[stepG,stepG.exec,on,choose,Sem.run,Question.forced,Question.cut])
def rS :step P (lone (on b tmps (.inRegion ops [] :: k) ds) cs w)=.next (lone (on b tmps k ds) cs w):=jg (by simp[stepG,stepG.exec,on])
def rW (tmps:Array Value) (dst:Option Tmp) (v:Value):Array Value :=
 match dst with
 | some d=>tmps.setIfInBounds d v
 | none=>tmps
variable {rest:List Nat}{i:Nat}{o:Oper}
theorem wY (ho:ops[i]?=some o) (v:Value):(on b tmps (.inRegion ops (i :: rest) :: k) ds).finish v=on b (rW tmps o.dst v) (.inRegion ops rest :: k) ds:=by unfold Frame.finish on;simp only[ho,ke];cases o.dst<;>rfl
def Vs (ho:ops[i]?=some o) (hw:Region.wanted o (yielded ops tmps)=false) :step P (lone (on b tmps (.inRegion ops (i :: rest) :: k) ds) cs w)=.next (lone (on b (rW tmps o.dst undef) (.inRegion ops rest :: k) ds) cs w):=by
 rw[←wY ho];exact jg (by
  have h':((ops[i]?).map (Region.wanted · (yielded ops tmps))).getD false=false:=by simp[ho,hw]
  simp only[on] at *;simp[stepG,stepG.exec,h'])
theorem y5 {rest:List Nat} (ho:ops[i]?=some o) (hw:Region.wanted o (yielded ops tmps)=true) (hnd : ∀c,o.op≠.defer c) :stepG P true { frame:=on b tmps (.inRegion ops (i :: rest) :: k) ds,callers:=cs,status:=.running,dying:=none } w = stepG.apply P true (on b tmps (.inRegion ops (i :: rest) :: k) ds) cs none (execOp (kU tmps) o) w:=by
 have he:=Kj b tmps (.inRegion ops (i :: rest) :: k) ds;simp only[on] at he;simp only[stepG,stepG.exec,on,ho,jt,hw,mZ,bS,stepG.oper,Frame.oper?,he];cases hr:b.roundOf with
 | none=>simp
 | some l =>
  cases hop:o.op<;>simp_all
variable {w':World}
def vo {v:Value} (ho:ops[i]?=some o) (hw:Region.wanted o (yielded ops tmps)=true) (hnd : ∀c,o.op≠.defer c)(hr:(execOp (kU tmps) o).run P w=.ok (.value v) w') :step P (lone (on b tmps (.inRegion ops (i :: rest) :: k) ds) cs w)=.next (lone (on b (rW tmps o.dst v) (.inRegion ops rest :: k) ds) cs w'):=by rw[←wY ho];refine jg ?_;rw[y5 ho hw hnd];simp[stepG.apply,hr]
def SO (ho:ops[i]?=some o) (hw:Region.wanted o (yielded ops tmps)=true) (hnd : ∀c,o.op≠.defer c)(hr:(execOp (kU tmps) o).run P w=.ok .skip w') :step P (lone (on b tmps (.inRegion ops (i :: rest) :: k) ds) cs w)=.next (lone (on b (rW tmps o.dst undef) (.inRegion ops rest :: k) ds) cs w'):=by rw[←wY ho];refine jg ?_;rw[y5 ho hw hnd];simp[stepG.apply,hr]
variable {f:FuncId}
def Vu {args:Array Value} (ho:ops[i]?=some o) (hw:Region.wanted o (yielded ops tmps)=true) (hnd : ∀c,o.op≠.defer c)(hr:(execOp (kU tmps) o).run P w=.ok (.enter f args) w') :step P (lone (on b tmps (.inRegion ops (i :: rest) :: k) ds) cs w)=.next (lone (Frame.enter P f args .normal) (on b tmps (.inRegion ops (i :: rest) :: k) ds :: cs) w'):=by refine jg ?_;rw[y5 ho hw hnd];simp[stepG.apply,hr,on]
def Vr {ts:Array Value} {a:Code} (ho:ops[i]?=some o) (hw:Region.wanted o (yielded ops tmps)=true) (hnd : ∀c,o.op≠.defer c)(hr:(execOp (kU tmps) o).run P w=.ok (.round l f ts a c) w') :step P (lone (on b tmps (.inRegion ops (i :: rest) :: k) ds) cs w)=.next (lone (Frame.round l f ts a c .normal) (on b tmps (.inRegion ops (i :: rest) :: k) ds :: cs) w'):=by refine jg ?_;rw[y5 ho hw hnd];simp[stepG.apply,hr,on]
end
variable {h' h:IH}{vs:List Value}{b:Nat}
def YR {o:Nat} (hw:h.wr b o vs=some h'):h'.n=h.n:=by
 unfold IH.wr at hw;simp only[aK] at hw;split at hw;·cases hw
 ·split at hw
  ·split at hw
   ·split at hw
    ·cases hw;rfl
    ·split at hw
     ·cases hw;rfl
     ·cases hw
   ·cases hw
  ·cases hw
variable {s v x:Value}{st:TypeId}{P:Program}
def Yx (ha:append P h st s x=some (v,h')):h.n≤h'.n:=by
 unfold Id.append at ha;simp only[aK] at ha;repeat' (split at ha)
 all_goals first
  | (cases ha;done)
  | (cases ha;exact ar _)
  | (cases ha;exact nc _)
  | (obtain⟨h1,h2,h3⟩:=bg.1 ha;cases h3;exact tG (YR h2).symm)
def UJ (ha:rI P h st s x=some (v,h')):h.n≤h'.n:=by
 unfold Id.rI at ha;simp only[aK] at ha;repeat' (split at ha)
 all_goals first
  | (cases ha;done)
  | (cases ha;exact nc _)
def Zd2 {dt:TypeId} {d:Value} (ha:yG P h dt d s=some (v,h')):h.n≤h'.n:=by
 unfold Id.yG at ha;simp only[aK] at ha;repeat' (split at ha)
 all_goals first
  | (cases ha;done)
  | (cases ha;exact ar _)
  | (obtain⟨h1,h2,h3⟩:=bg.1 ha;cases h3;exact tG (YR h2).symm)
variable {t:TypeId}
def ZaN (ha:Af P h t x=some (v,h')):h.n≤h'.n:=by
 unfold Id.Af at ha;simp only[aK] at ha;repeat' (split at ha)
 all_goals first
  | (cases ha;done)
  | (cases ha;exact ar _)
  | (obtain⟨h1,h2,h3⟩:=bg.1 ha;cases h3;exact tG (YR h2).symm)
def Pg {o:Option Value} (ha:o.map (·,h)=some (v,h')):h.n≤h'.n:=by obtain⟨a,_,h3⟩:=bg.1 ha;cases h3;exact ar _
def Uw {b:Builtin} {ts:Array TypeId} (ha:builtin P h b ts vs=some (v,h')):h.n≤h'.n:=by
 unfold Id.builtin at ha;simp only[aK] at ha;repeat' (split at ha)
 all_goals first
  | (cases ha;done)
  | exact Yx ha
  | exact UJ ha
  | exact Zd2 ha
  | exact ZaN ha
  | exact Pg ha
def Zg {a:Value} (hs:store P h t a v=some h'):h.n≤h'.n:=by
 unfold Id.store at hs;simp only[aK] at hs;repeat' (split at hs)
 all_goals first
  | (cases hs;done)
  | exact tG (YR hs).symm
def MH {m k:Value} (hs:mapUpdate P h t m k v=some h'):h.n≤h'.n:=by
 unfold Id.mapUpdate at hs;simp only[aK] at hs;repeat' (split at hs)
 all_goals first
  | (cases hs;done)
  | (cases hs;exact ar _)
def Kz {len:Nat} {ps:List (Nat×Value)} (hs:buildSlice P h t len ps=some (v,h')):h.n≤h'.n:=by
 unfold Id.buildSlice at hs;simp only[aK] at hs;repeat' (split at hs)
 all_goals first
  | (cases hs;done)
  | (cases hs;exact nc _)
def MI {l c:Value} (hs:makeSlice P h t l c=some (v,h')):h.n≤h'.n:=by
 unfold Id.makeSlice at hs;simp only[aK] at hs;repeat' (split at hs)
 all_goals first
  | (cases hs;done)
  | (cases hs;exact nc _)
variable {fr:Fr}
def ZbO {o:Op} (hi:iop P fr o h=some (v,h')):h.n≤h'.n:=by
 unfold iop at hi;simp only[aK] at hi;split at hi;all_goals try (exact Pg hi)
 all_goals repeat' (split at hi)
 all_goals first
  | (cases hi;done)
  | (cases hi;exact ar _)
  | (cases hi;exact nc _)
  | exact Pg hi
  | exact Uw hi
  | (obtain⟨h1,h2,h3⟩:=bg.1 hi;cases h3;exact nc _)
  | (obtain⟨h1,h2,h3⟩:=bg.1 hi;cases h3;exact ar _)
  | (obtain⟨h1,h2,h3⟩:=bg.1 hi;cases h3;first|exact Zg h2|exact MH h2)
  | exact Kz hi
  | exact MI hi
def fY (call:cQ):Prop:=∀(fv:Value) (vs:List Value) (h h':IH) (v:Value),call fv vs h=some (v,h')→h.n≤h'.n
variable {E:Env}{call:cQ}
def QK (hc:fY call) {o:Op} (hr:fw E call fr o h=some (v,h')):h.n≤h'.n:=by
 unfold fw at hr;split at hr
 ·split at hr
  ·split at hr
   ·exact hc _ _ _ _ _ hr
   ·cases hr
  ·exact ZbO hr
 ·exact ZbO hr
variable {fr':Fr}{nt:Nat}{o:Oper}
def DH (hc:fY call) {ops:List Oper} (hs:ft E call nt ops o fr h=some (fr',h')):h.n≤h'.n:=by
 unfold ft at hs;split at hs
 ·split at hs
  ·rename_i v h2 cu;obtain⟨a,_,e⟩:=bg.1 hs;cases e;exact QK hc cu
  ·cases hs
 ·obtain⟨a,_,e⟩:=bg.1 hs;cases e;exact ar _
 ·cases hs
def DQ (hc:fY call) {ops:List Oper} : ∀(l:List Oper) (fr fr':Fr) (h h':IH),iX E call nt ops l fr h=some (fr',h')→h.n≤h'.n
 | [],fr,fr',h,h',hr=>by simp only[iX] at hr;cases hr;exact ar _
 | o :: l,fr,fr',h,h',hr=>by
  rw[iX] at hr;split at hr;·rename_i fr1 h1 hs;exact bA (DH hc hs) (DQ hc l _ _ _ _ hr)
  ·cases hr
def Za2 (P:Program) (fv:Value) (args:Array Value) (B:Nat) (w0:World) (m:Mp) (h:IH) (w:World) (v:Value) (h':IH):Prop :=
 ∃nx,(do let d ←Deferred.ofValue fv args;invoke d.target d.args:Sem Next).run P w=.ok nx w ∧
  ((∃v',nx=.value v'∧h'=h∧aW m v v' ∧ ∀a∈args.toList,∃k n,a=Value.int k n) ∨
  ∃fr0,((∃f as,nx=.enter f as∧fr0=Frame.enter P f as .normal)∨(∃l f ts a c,nx=.round l f ts a c∧fr0=Frame.round l f ts a c .normal)) ∧
   ∀(c:Frame) (cs:List Frame),∃v' m' w',aW m' v v'∧Rel B w0 m' h' w'∧Step m h w m' h' w'∧Steps P (lone fr0 (c :: cs) w) (lone (c.finish v') cs w'))
def ot (P:Program) (call:cQ):Prop :=
 ∀(fv:Value) (vs:List Value) (h h':IH) (v:Value),call fv vs h=some (v,h') → ∀(B:Nat) (w0:World) (m:Mp) (w:World) (fv':Value) (vs':Array Value),
  Rel B w0 m h w→aW m fv fv'→cg m vs vs'.toList→iA m h.n h'.n→Za2 P fv' vs' B w0 m h w v h'
variable {m:Mp}{c:Nat}
def iA.sub {a d:Nat} (h:iA m a d) (h1:a≤b) (h2:c≤d):iA m b c:=fun k x y=>h k (bA h1 x) (cV y h2)
variable {m':Mp}{w:World}
def Step.fresh {w':World} (s:Step m h w m' h' w') (hf:iA m h.n c):iA m' h'.n c:=by
 intro k a b;have h1:=hf k (bA s.n a) b;apply dW;intro hne;have hch:m' (2*k)≠m (2*k):=by rw[h1];exact hne
 obtain⟨k',e,_,c⟩:=s.new _ hch;omega
variable {tmps:Array Value}
def wg {dst:Option Tmp} {v':Value} (hp:qT nt fr dst v=some fr') (hf:gA m fr tmps) (ht:nt≤tmps.size) (hv:aW m v v'):gA m fr' (rW tmps dst v')∧nt≤(rW tmps dst v').size:=by
 unfold qT at hp;cases dst with
 | none=>cases hp;exact⟨hf,ht⟩
 | some d =>
  simp only[aK,rO] at hp;by_cases hd:d<nt
  ·rw[ah hd] at hp;cases hp;have hd2:d<tmps.size:=cV hd ht;refine⟨fun t x hx=>?_,by simpa [rW] using ht⟩;simp only[aj,aK,bD] at hx;by_cases e:d=t
   ·subst e;rw[ah rfl] at hx;cases hx;exact⟨v',by simp[rW,hd2],hv⟩
   ·rw[ad e] at hx;obtain⟨x',h1,h2⟩:=hf t x hx;exact⟨x',by simp[rW,e,h1],h2⟩
  ·rw[ad hd] at hp;cases hp
def gA.mono (hm:m.le m') (h:gA m fr tmps):gA m' fr tmps:=fun t v hv=>let ⟨v',a,b⟩:=h t v hv;⟨v',a,b.mono hm⟩
variable {ops:Array Oper}
def tO (hf:gA m fr tmps) {t:Bool} (hw:cC ops.toList o fr=some t):Region.wanted o (yielded ops tmps)=t:=by
 unfold cC at hw;unfold Region.wanted;cases hg:o.guard with
 | none=>simp only[hg] at hw ⊢;cases hw;rfl
 | some jw =>
  obtain⟨j,want⟩:=jw;simp only[hg] at hw ⊢;split at hw
  ·rename_i d hd;split at hw
   ·rename_i bb hb;cases hw;obtain⟨v',h1,h2⟩:=hf d _ hb;have e:=h2.dN rfl;subst e;have hd':(ops[j]?).bind (·.dst)=some d:=by simpa using hd
    simp only[yielded,hd',ke,h1];cases bb<;>cases want<;>rfl
   ·rename_i bb hb;cases hw;obtain⟨v',h1,h2⟩:=hf d _ hb;obtain⟨cs',rfl,_⟩:=h2.sF;have hd':(ops[j]?).bind (·.dst)=some d:=by simpa using hd
    simp only[yielded,hd',ke,h1];rfl
   ·cases hw
  ·cases hw
def DR {o:Op} (hr:fw E call fr o h=some (v,h')) : ∀c,o≠.defer c:=by intro c e;subst e;simp[fw,iop] at hr
variable {w0:World}{B:Nat}
def Ou (jq:ot E.P call) {i:Nat} (ho:ops[i]?=some o)  (hw:cC ops.toList o fr=some true) (hr:fw E call fr o.op h=some (v,h'))(R:Rel B w0 m h w) (hf:gA m fr tmps) (ec:iA m h.n h'.n) (b:Frame) (rest:List Nat) (k:List Item) (ds:List Deferred) (cs:List Frame) :∃v' m' w',Steps E.P (lone (on b tmps (.inRegion ops (i :: rest) :: k) ds) cs w) (lone (on b (rW tmps o.dst v') (.inRegion ops rest :: k) ds) cs w')∧aW m' v v'∧Rel B w0 m' h' w'∧Step m h w m' h' w':=by
 have hwr:=tO hf hw;have hnd:=DR hr;have hρ:=wT R hf
 have Q5:iop E.P fr o.op h=some (v,h') → ∃v' m' w',Steps E.P (lone (on b tmps (.inRegion ops (i :: rest) :: k) ds) cs w) (lone (on b (rW tmps o.dst v') (.inRegion ops rest :: k) ds) cs w')∧aW m' v v'∧Rel B w0 m' h' w'∧Step m h w m' h' w':=by
  intro hi;obtain⟨nx,v',m',w',cu,hy,h1,h2,h3⟩:=Zai R E.P hρ o hi ec;refine⟨v',m',w',?_,h1,h2,h3⟩;rcases hy with rfl|⟨rfl,rfl⟩;·exact .one (vo ho hwr hnd cu)
  ·exact .one (SO ho hwr hnd cu)
 unfold fw at hr;split at hr
 ·rename_i c hc
  split at hr
  ·rename_i f hcal
   split at hr
   ·rename_i fv vs hfv hvs
    have hL:=vJ hρ _ _ hvs;obtain⟨nx,hinv,halt⟩:=jq fv vs h h' v hr B w0 m w (kU tmps f) (c.args.map (kU tmps)) R (hρ f fv hfv) (by simpa using hL) ec;have W7:(execOp (kU tmps) o).run E.P w=.ok nx w:=by rw[←hinv];obtain⟨dst,op,ty,pos,aft,gd⟩:=o;simp only at hc;subst hc;simp only[execOp,resolve,hcal,bt]
    rcases halt with⟨v',rfl,rfl,h1,_⟩|⟨fr0,ZdH,cu⟩;·exact⟨v',m,w,.one (vo ho hwr hnd W7),h1,R,Step.refl _ _ _⟩
    obtain⟨v',m',w',h1,h2,h3,h4⟩:=cu (on b tmps (.inRegion ops (i :: rest) :: k) ds) cs
    rw[wY ho] at h4;refine⟨v',m',w',?_,h1,h2,h3⟩;rcases ZdH with⟨f',as,rfl,rfl⟩|⟨l,f',ts,a,c',rfl,rfl⟩
    ·exact .head (Vu ho hwr hnd W7) h4
    ·exact .head (Vr ho hwr hnd W7) h4
   ·cases hr
  ·rename_i hcal;rw[←hc] at hr;exact Q5 hr
 ·exact Q5 hr
def Je (jq:ot E.P call) (eK:fY call) (b:Frame) (k:List Item) (ds:List Deferred) (cs:List Frame) :∀(l:List Oper) (j:Nat) (fr:Fr) (h:IH) (fr':Fr) (h':IH) (m:Mp) (w:World) (tmps:Array Value),ops.toList.drop j=l→iX E call nt ops.toList l fr h=some (fr',h') → Rel B w0 m h w→gA m fr tmps→nt≤tmps.size→iA m h.n h'.n → ∃m' w' cJ,Steps E.P (lone (on b tmps (.inRegion ops (List.range' j l.length) :: k) ds) cs w) (lone (on b cJ k ds) cs w')∧gA m' fr' cJ∧nt≤cJ.size∧Rel B w0 m' h' w'∧Step m h w m' h' w'
 | [],j,fr,h,fr',h',m,w,tmps,hl,hr,R,hf,ht,ec=>by simp only[iX] at hr;cases hr;exact⟨m,w,tmps,.one rS,hf,ht,R,Step.refl _ _ _⟩
 | o :: l,j,fr,h,fr',h',m,w,tmps,hl,hr,R,hf,ht,ec=>by
  have ho:ops[j]?=some o:=by
   have:(ops.toList.drop j)[0]?=some o:=by rw[hl];rfl
   simpa using this
  have hl':ops.toList.drop (j+1)=l:=by rw[←Df (i:=1) (j:=j),hl];rfl
  rw[iX] at hr;cases hs:ft E call nt ops.toList o fr h with
  | none=>simp[hs] at hr
  | some p =>
   obtain⟨fr1,h1⟩:=p;simp only[hs] at hr;unfold ft at hs;rw[gX,List.range'_succ];split at hs
   ·rename_i hw;split at hs
    ·rename_i v h2 cu;obtain⟨fr2,mL,he⟩:=bg.1 hs;cases he;have hn1:=QK eK cu;have hn2:=DQ eK l _ _ _ _ hr;obtain⟨v',m1,w1,hS1,hv',R1,S1⟩:=Ou jq ho hw cu R hf (ec.sub (ar _) hn2) b (List.range' (j+1) l.length) k ds cs;obtain⟨hf2,ht2⟩:=wg mL (hf.mono S1.le) ht hv';obtain⟨m',w',cJ,hS,a,b',c,d⟩:=Je jq eK b k ds cs l (j+1) _ _ fr' h' m1 w1 _ hl' hr R1 hf2 ht2 ((S1.fresh ec));exact⟨m',w',cJ,hS1.trans hS,a,b',c,S1.trans d⟩
    ·cases hs
   ·rename_i hw;obtain⟨fr2,mL,he⟩:=bg.1 hs;cases he;obtain⟨hf2,ht2⟩:=wg mL hf ht (aW.undef m);obtain⟨m',w',cJ,hS,a,b',c,d⟩:=Je jq eK b k ds cs l (j+1) _ _ fr' h' m w _ hl' hr R hf2 ht2 ec;exact⟨m',w',cJ,.head (Vs ho (tO hf hw)) hS,a,b',c,d⟩
   ·cases hs
end Go.Id

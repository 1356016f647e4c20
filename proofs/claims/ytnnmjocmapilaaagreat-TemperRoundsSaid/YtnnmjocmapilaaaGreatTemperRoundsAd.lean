/-
  The ideal machine: maps, builtins, and every operation that calls no function.
-/
import Derived.Test.YtnnmjocmapilaaaGreatTemperRoundsAc
set_option linter.unusedVariables false
set_option linter.unusedSimpArgs false
set_option linter.defProp false
set_option linter.deprecated false
namespace Go.Id
open Go Go.RowKit
section
variable {h:IH}{m:Mp}{w w0:World}{es:List (Value×Value)}{B r:Nat}
def Rel.Fs (R:Rel B w0 m h w) {k s:Nat} (hk:mapOf h k=some es) (hm:m k=some (r,s)) :h.ext.get (k / 2)=some (.map es)∧2*(k / 2)=k ∧ ∃c,w.heap[r]?=some (.map c es.length)∧vh m es c:=by
 unfold mapOf at hk;simp only[aX,bT] at hk;by_cases hb:k % 2=1;·rw[aq hb] at hk;cases hk
 ·rw[ah hb] at hk;have hkk:2*(k / 2)=k:=aa;cases hg:h.ext.get (k / 2) with
  | none=>simp[hg] at hk
  | some o =>
   rw[hg] at hk;cases o with
   | map es' =>
    simp only at hk;cases hk;obtain⟨_,c,h1,h2⟩:=R.obj (k / 2) _ r s hg (by rw[hkk];exact hm);exact⟨rfl,hkk,c,h1,h2⟩
   | _=>simp at hk
variable {clock:Nat}{c:Array MapEntry}
def run_getObj_map (P:Program) (h:w.heap[r]?=some (.map c clock)):(getObj r).run P w=.ok (.map c clock) w:=by simp only[getObj,Sem.run,h]
def run_setObj_map (P:Program) (h:w.heap[r]?=some (.map c clock)) (o:Obj):(Go.setObj r o).run P w=.ok () (World.put w r o):=by simp only[Go.setObj,Sem.run,h];rfl
def qk (kt et:TypeId) (k:Value) (ok:Bool) (c:Array MapEntry):Sem Value:=do
 Instr.checkKey c.isEmpty 10000 kt k
 let (v,ok') ←match ←Instr.findKey kt k c.toList with
  | some (_,v)=>pure (v,true)
  | none=>pure (←zeroValue et,false)
 pure (if ok then .tuple #[v,.bool ok'] else v)
variable {k v k':Value}{ok:Bool}
def yr (P:Program) (w:World) {kt et:TypeId} (hcm:vh m es c) (hk:bz m k k')(hl:(match yY P kt k es with
   | none=>none
   | some none=>match tS P et with
    | some z=>bif plain z then some (bif ok then Value.tuple #[z,.bool false] else z) else none
    | none=>none
   | some (some i)=>(es[i]?).map fun e=>bif ok then .tuple #[e.2,.bool true] else e.2)=some v) :
  ∃v',(qk kt et k' ok c).run P w=.ok v' w∧bz m v v':=by
 cases hf:yY P kt k es with
 | none=>simp[hf] at hl
 | some ri =>
  obtain⟨hp,hck,r',yV,hr',hat⟩:=EY hf hcm w;have ek:=hk.iX hp;subst ek;simp only[hf] at hl;cases ri with
  | none =>
   have hn:r'=none:=by cases r'<;>simp_all
   subst hn;simp only at hl;cases hz:tS P et with
   | none=>simp[hz] at hl
   | some z =>
    simp only[hz,aX] at hl;by_cases hzp:plain z=true
    ·rw[aq hzp] at hl;cases ok with
     | false =>
      simp only[fJ,cE] at hl;cases hl;exact⟨_,by simp[qk,hck,yV,hP w hz],.dS hzp⟩
     | true =>
      simp only[cq] at hl;cases hl;exact⟨_,by simp[qk,hck,yV,hP w hz],bz.kY (.cons (.dS hzp) (.cons (.dN rfl) (.nil m)))⟩
    ·rw[ah hzp] at hl;cases hl
  | some i =>
   simp only at hl;cases hei:es[i]? with
   | none=>simp[hei] at hl
   | some e =>
    simp only[hei,jx,aX] at hl;obtain⟨x,hx⟩ : ∃x,r'=some (i,x):=by
     cases r' with
     | none=>simp at hr'
     | some p=>obtain⟨a,b⟩:=p;simp at hr';subst hr';exact⟨b,rfl⟩
    subst hx;obtain⟨e',he',hev⟩:=hat i x rfl;have hE:=hcm.2 i e e' hei he';have hv:bz m e.2 x:=by rw[←hev];exact hE.1.2.2
    cases ok with
    | false =>
     simp only[fJ,cE] at hl;cases hl;exact⟨x,by simp[qk,hck,yV],hv⟩
    | true =>
     simp only[cq] at hl;cases hl;exact⟨.tuple #[x,.bool true],by simp[qk,hck,yV],bz.kY (.cons hv (.cons (.dN rfl) (.nil m)))⟩
variable {mt:TypeId}{mv' mv:Value}
def Rel.lookup (R:Rel B w0 m h w) (P:Program) (hl:lookup P h mt mv k ok=some v) (hmv:bz m mv mv') (hk:bz m k k') :∃v',(Instr.lookup mt mv' k' ok).run P w=.ok v' w∧bz m v v':=by
 unfold Id.lookup at hl;cases hu:P.underlying mt with
 | none=>simp[hu] at hl
 | some d =>
  rw[hu] at hl;cases d with
  | map kt et =>
   simp only at hl;cases hes:entriesOf h mv with
   | none=>rw[hes] at hl;cases hl
   | some es =>
    rw[hes] at hl;simp only at hl;unfold entriesOf at hes;split at hes;·cases hes;have:=hmv.gL rfl;subst this;obtain⟨v',h1,h2⟩:=yr P w (c:=#[]) ⟨rfl,ab⟩ hk hl;refine⟨v',?_,h2⟩;rw[←h1];simp only[Instr.lookup,qk,bJ,cG hu,bW,ck];congr 1
    ·rename_i r;cases hmv with
     | dN h=>simp[Id.dN] at h
     | map hm =>
      obtain⟨_,_,c,rT,hcm⟩:=R.Fs hes hm;obtain⟨v',h1,h2⟩:=yr P w hcm hk hl;refine⟨v',?_,h2⟩;rw[←h1];simp only[Instr.lookup,qk,bJ,cG hu,bW,ck,run_getObj_map P rT];congr 1
    ·cases hes
  | _=>simp at hl
def Rel.mapUpdate {h':IH} (R:Rel B w0 m h w) (P:Program) {v':Value} (hl:mapUpdate P h mt mv k v=some h') (hmv:bz m mv mv') (hk:bz m k k') (hv:bz m v v') :∃w',(Instr.mapUpdate mt mv' k' v').run P w=.ok () w'∧Rel B w0 m h' w'∧Step m h w m h' w':=by
 unfold Id.mapUpdate at hl;split at hl
 ·rename_i kt et r hu;cases hmv with
  | dN h=>simp[Id.dN] at h
  | @map _ r' s hm =>
   cases hes:mapOf h r with
   | none=>simp[hes] at hl
   | some es =>
    simp only[hes,aX] at hl;obtain⟨hg,hrr,c,rT,hcm⟩:=R.Fs hes hm;have hm':m (2*(r / 2))=some (r',s):=by rw[hrr];exact hm
    have hs0:s=0:=(R.obj (r / 2) _ r' s hg hm').1;by_cases hck:Ln (aI P (Instr.checkKey false 10000 kt k))=true
    ·rw[aq hck] at hl;have ZG : ∀w:World,(Instr.checkKey false 10000 kt k).run P w=.ok () w:=by
      cases hx:aI P (Instr.checkKey false 10000 kt k) with
      | none=>rw[hx] at hck;cases hck
      | some u=>exact my P _ _ hx
     cases hf:yY P kt k es with
     | none=>simp[hf] at hl
     | some ri =>
      obtain⟨hp,_,r0,yV,hr0,hat⟩:=EY hf hcm w;have ek:=hk.iX hp;subst ek;simp only[hf] at hl;cases ri with
      | none =>
       simp only at hl;cases hl;have hn:r0=none:=by cases r0<;>simp_all
       subst hn;obtain⟨R1,S1⟩:=R.setObj hg rfl rfl hm' (o1:=.map (es ++ [(k',v)])) (o':=.map (c.push { key:=k',val:=v',born:=es.length }) (es.length+1)) rfl
        (fun w' z hw'=>⟨hs0,c.push { key:=k',val:=v',born:=es.length },by rw[hw',dG];rfl,by simp[hcm.1],fun i e e' he he'=>by
         rw[Array.getElem?_push] at he';by_cases hi:i<es.length;·rw[ef hi] at he;rw[ah (by have:=hcm.1;omega)] at he';exact hcm.2 i e e' he he'
         ·rw[gI aa] at he
          have hi0:i - es.length=0:=by
           rcases im (i - es.length) with h|h;·exact h
           ·rw[cy aT] at he;cases he
          rw[hi0] at he;simp at he;subst he;rw[aq (by have:=hcm.1;omega)] at he';cases he';exact⟨⟨rfl,hp,hv⟩,by show es.length=i;omega⟩⟩)
       refine⟨_,?_,R1,S1⟩;simp[Instr.mapUpdate,cG hu,run_getObj_map P rT,ZG,yV,run_setObj_map P rT]
      | some i =>
       simp only at hl;cases hei:es[i]? with
       | none=>simp[hei] at hl
       | some e =>
        simp only[hei] at hl;by_cases iH:Instr.sameBits 10000 e.1 k'=true
        ·rw[aq iH] at hl;cases hl;obtain⟨x,hx⟩ : ∃x,r0=some (i,x):=by
          cases r0 with
          | none=>simp at hr0
          | some p=>obtain⟨a,b⟩:=p;simp at hr0;subst hr0;exact⟨b,rfl⟩
         subst hx;obtain⟨e',he',_⟩:=hat i x rfl;have hE:=hcm.2 i e e' hei he'
         have hil:i<es.length:=by
          rcases dr i es.length with h|h;·exact h
          ·rw[cy h] at hei;cases hei
         obtain⟨R1,S1⟩:=R.setObj hg rfl rfl hm' (o1:=.map (es.set i (k',v))) (o':=.map (c.modify i fun e => { e with key:=k',val:=v' }) es.length) rfl (fun w' z hw'=>⟨hs0,c.modify i fun e => { e with key:=k',val:=v' },by rw[hw',dB],by simp[hcm.1],fun j a a' ha ha'=>by
           rw[Array.getElem?_modify] at ha';by_cases hj:i=j;·subst hj;rw[Gu (by simpa using hil)] at ha;cases ha;simp only[cq,he',jx,sE] at ha';subst ha';exact⟨⟨rfl,hp,hv⟩,hE.2⟩
           ·rw[List.getElem?_set_ne hj] at ha;simp only[hj,cE] at ha';exact hcm.2 j a a' ha ha'⟩)
         refine⟨_,?_,R1,S1⟩;have hkt:(Instr.keyThatStays (((c[i]?).map (·.key)).getD k') k').run P w=.ok k' w:=by simp only[he',jx,jf,Instr.keyThatStays,hE.1.1,iH,cq,ck]
         simp[Instr.mapUpdate,cG hu,run_getObj_map P rT,ZG,yV,hkt,run_setObj_map P rT]
        ·rw[ah iH] at hl;cases hl
    ·rw[ah hck] at hl;cases hl
 ·cases hl
def EX {P:Program} {t:TypeId} {x y x' y':Value} {b:Bool} (h:yK P t x y=some b) (hx:bz m x x') (hy:bz m y y') (w:World):(Op.equal t x' y').run P w=.ok b w:=by
 unfold yK at h;cases hu:P.underlying t with
 | none=>simp[hu] at h
 | some d =>
  simp only[hu] at h;show(Op.equalIn (9999+1) t x' y').run P w=_;generalize 9999=depth;unfold xK at h;split at h<;>cases h<;>cases hx<;>cases hy<;>first
   | (simp_all [Id.dN];done)
   | simp[Op.equalIn,cG hu]
end
section
def bz.unit (m:Mp):bz m (.tuple #[]) (.tuple #[]):=.tuple rfl fun i v v' h=>by simp at h
variable {v:Value}
def IS {z:List Value} : ∀{n:Nat},v∈de n z→v∈z
 | 0,h=>by cases h
 | n+1,h=>by
  rw[de,fC] at h;rcases h with h|h;·exact h
  ·exact IS h
theorem Cq (z:Array Value) (n:Nat) (hz:z.size≠0):(Builtin.zeroCells z n).toList=de n z.toList:=by rw[←tp z n hz];simp[Builtin.zeroCells]
variable {ts:Array TypeId}{ty:TypeId}{x:Value}{m:Mp}{w:World}{t:TypeId}{x':Value}
def Rel.clear {B:Nat} {w0:World} {h h':IH} (R:Rel B w0 m h w) (P:Program)  (h0:ts[0]?=some t) (hc:zh P h t x=some (v,h')) (hx:bz m x x') :∃w',(Builtin.clear_ ts ty #[x']).run P w=.ok v w'∧bz m v v∧Rel B w0 m h' w'∧Step m h w m h' w':=by
 unfold zh at hc;have e0 : ∀y:Value,(#[y]:Array Value)[0]?=some y:=fun _=>rfl;cases hdt:P.underlying t with
 | none=>simp[hdt] at hc
 | some td =>
  rw[hdt] at hc;cases td with
  | slice e =>
   split at hc;·cases hc;obtain⟨rfl,rfl,rfl⟩:=hx.qO;refine⟨w,?_,.unit m,R,Step.refl _ _ _⟩;simp only[Builtin.clear_,h0,e0,bJ,cG hdt,bW,ck]
   ·rename_i h1 h2 b o dl dk he;cases he
    have hdv : ∃r q cap a,x'=.slice (some a) dl cap∧(0<dk→m b=some (r,q)∧a=⟨r,q+o,none⟩)∧(dk=0→dl=0):=by
     rcases hx.iS with⟨r,q,cap,hm,h1,_,_,_,_,rfl⟩|⟨hl,hk,a,cap,rfl⟩;·exact⟨r,q,cap,_,rfl,fun _=>⟨hm,rfl⟩,fun e=>aa⟩
     ·subst hl;exact⟨0,0,cap,a,rfl,fun e=>aa,fun _=>rfl⟩
    obtain⟨r,q,cap,a,rfl,v9,hzero⟩:=hdv;simp only[aX,bT] at hc;by_cases hn:dl=0;·rw[aq hn] at hc;cases hc;subst hn;refine⟨w,?_,.unit m,R,Step.refl _ _ _⟩;simp only[Builtin.clear_,h0,e0,bJ,cG hdt,bW,ck]
    ·rw[ah hn] at hc;cases hz:bC P e with
     | none=>simp[hz] at hc
     | some z =>
      simp only[hz] at hc;by_cases ft:(z.isEmpty || !(z.all bB))=true;·rw[aq ft] at hc;cases hc
      rw[ah ft] at hc
      simp only[nM,not_or,Bool.not_eq_true,Bool.not_eq_false'] at ft;obtain⟨h1w,hw1,hv1⟩:=bI.1 hc;cases hv1
      obtain⟨zv,hz0,hzp,rfl⟩:=fT hz
      have hk:0<dk:=by
       rcases im dk with e|e
       ·exact absurd (hzero e) hn
       ·exact e
      obtain⟨hm,rfl⟩:=v9 hk
      have hL:dv m (de dl zv.cells.toList) (de dl zv.cells.toList):=dv.de (bz.dS (m:=m) hzp).cells dl
      obtain⟨w',hr1,R1,S1⟩:=R.wr hw1 hm hL (fun v hv=>ji.1 ft.2 v (IS hv)) P
      have hsz:zv.cells.size≠0:=by
       intro e
       have:zv.cells.toList = []:=List.eq_nil_of_length_eq_zero (by rw[mc];exact e)
       rw[this] at ft;simp at ft
      rw[←Cq _ _ hsz] at hr1;refine⟨w',?_,.unit m,R1,S1⟩;obtain⟨n,rfl⟩ : ∃n,dl=n+1:=⟨dl - 1,aa⟩;simp only[Builtin.clear_,h0,e0,bJ,cG hdt,bW,hP w hz0,hr1,ck]
   ·cases hc
  | _=>simp at hc
theorem Rel.cap (P:Program) (h0:ts[0]?=some t) (hc:XK P t x=some v) (hx:bz m x x') :(Builtin.cap_ ts ty #[x']).run P w=.ok v w∧plain v=true:=by
 unfold XK at hc;have e0 : ∀y:Value,(#[y]:Array Value)[0]?=some y:=fun _=>rfl;cases hdt:P.underlying t with
 | none=>simp[hdt] at hc
 | some td =>
  rw[hdt] at hc;cases td with
  | slice e =>
   split at hc;·cases hc;obtain⟨rfl,rfl,rfl⟩:=hx.qO;refine⟨?_,rfl⟩;simp only[Builtin.cap_,h0,e0,bJ,cG hdt,bW,ck];rfl
   ·rename_i h1 h2 b o dl dk he;cases he;simp only[aX,bT] at hc;by_cases hn:dk % 2=1
    ·rw[aq hn] at hc;cases hc;rcases hx.iS with⟨r,q,cap,hm,h3,h4,h5,h6,h7,rfl⟩|⟨hl,hk,a,cap,rfl⟩
     ·refine⟨?_,rfl⟩;simp only[Builtin.cap_,h0,e0,bJ,cG hdt,bW,ck,h6 hn];rfl
     ·omega
    ·rw[ah hn] at hc;cases hc
   ·cases hc
  | _=>simp at hc
end
def Bo (z:Array Value) (n:Nat) (hz:z.size≠0):Builtin.zeroCells z n=(de n z.toList).toArray:=by rw[←tp z n hz];rfl
def zP (P:Program) (w:World) (ts:Array TypeId) (ty:TypeId) (st xt elem:TypeId) (ik k:IntKind) (size bytes:Nat) (z:Value) (n:Nat)(h0:ts[0]?=some st) (h1:ts[1]?=some xt) (hst:P.underlying st=some (.slice elem)) (hxt:P.underlying xt=some (.int ik)) (hsz:bK P elem=some size) (hby:oh P elem=some bytes) (hz:tS P elem=some z)(hn:0<n) (hs0:0<size) (hzs:z.cells.size=size) (hb:bytes≤65536) (nz:n*(bytes+1)≤bZ) :∃d mh rest,(Builtin.append_ ts ty #[.slice none 0 0,.int k n]).run P w=.ok (.slice (some ⟨w.heap.size,0,none⟩) n mh) ((({ w with drawn:=d }:World)).alloc (.cells (de n z.cells.toList ++ rest).toArray elem))∧n≤mh∧rest.length=(mh - n)*z.cells.size:=by
 unfold oh at hby;obtain⟨i,hi,hib⟩:=bI.1 hby;have tG : ¬(0+n≤0):=aa;have hN:=nextslicecap_le (0+n) 0 aa;have h4:n*(bytes+1)=n*bytes+n:=by rw[sH,fI]
 have RK : ¬(Builtin.nextslicecap (0+n) 0*bytes > 2 ^ 48):=by
  have h2:Builtin.nextslicecap (0+n) 0*bytes≤(2*(0+n)+1024)*bytes:=dU _ hN;have h3:(2*(0+n)+1024)*bytes=2*(n*bytes)+1024*bytes:=by rw[fy,dA,w9]
  unfold bZ at nz;omega
 have Xm : ¬((0+n:Nat):Int) > IntKind.i64.max:=by unfold bZ at nz;have e:IntKind.i64.max=9223372036854775807:=aC;rw[e];omega
 have Zc:IntKind.i64.wrap (n:Int)=(n:Int):=xp n (by unfold bZ at nz;omega);let q:=Question.appendCap n 0 elem;have Xp:n≤q.cut (w.tape w.drawn q):=Nat.le_add_right _ _;refine⟨w.drawn+1,q.cut (w.tape w.drawn q),(Builtin.zeroCells z.cells (q.cut (w.tape w.drawn q) - n)).toList,?_,Xp,by simp[Builtin.zeroCells]⟩;have e0:(#[Value.slice none 0 0,Value.int k n]:Array Value)[0]?=some (.slice none 0 0):=rfl;have e1:(#[Value.slice none 0 0,Value.int k n]:Array Value)[1]?=some (.int k n):=rfl;have hl0 : ¬((n:Int)<0):=aa;have hl1 : ¬((n:Int)*(bytes:Int) > 2 ^ 48):=by have:(n:Int)*(bytes:Int)=((n*bytes:Nat):Int):=ab;rw[this];unfold bZ at nz;omega
 have hns : ¬(n*size=0):=by have:=nF hn hs0;omega
 have hold : ∀d,(Builtin.firstCells size 0 (.slice none 0 0)).run P { w with drawn:=d }=.ok #[] { w with drawn:=d }:=fun d=>rfl;simp only[Builtin.append_,h0,h1,e0,e1,bJ,cG hst,bW,dO w hsz,cG hxt,ck,asInt,asIntOf,Zc,cq,ah hl0,run_typeInfo w hi,hib,ah hl1,iv,tG,cE,true_or];rw[ah (fun h=>Xm h.1)];simp only[bJ,run_typeInfo w hi,hib,bW];rw[ah RK];simp only[bJ,run_typeInfo _ hi,bW,run_choose,Question.forced,fJ,cE,run_askRoom,hold,oW,ah hns,hP _ hz,ck,Go.newRow,l8,fy,Bo z.cells n aa];have XC : ∀Z:Array Value,(#[]:Array Value) ++ (de n z.cells.toList).toArray ++ Z=(de n z.cells.toList ++ Z.toList).toArray:=fun Z=>by rw[←uk];simp
 rw[XC];rfl
def Rel.tO {B:Nat} {w0:World} {m:Mp} {h h':IH} {w:World} (R:Rel B w0 m h w) (P:Program) {ts:Array TypeId} {ty st xt:TypeId} {ik:IntKind} {s s' x x' v:Value}(h0:ts[0]?=some st) (h1:ts[1]?=some xt) (hxt:P.underlying xt=some (.int ik)) (ha:tO P h st s x=some (v,h')) (hs:bz m s s') (hx:bz m x x') (fh:jE m h.n h'.n) :∃v' m' w',(Builtin.append_ ts ty #[s',x']).run P w=.ok v' w'∧bz m' v v'∧Rel B w0 m' h' w'∧Step m h w m' h' w':=by
 unfold Id.tO at ha;cases hst:P.underlying st with
 | none=>simp[hst] at ha
 | some d =>
  rw[hst] at ha;cases d with
  | slice elem =>
   cases hsz:bK P elem with
   | none=>simp[hsz] at ha
   | some size =>
   cases hby:oh P elem with
   | none=>simp[hsz,hby] at ha
   | some bytes =>
   cases hz:bC P elem with
   | none=>simp[hsz,hby,hz] at ha
   | some zs =>
   cases hn:oM x bZ with
   | none=>simp[hsz,hby,hz,hn] at ha
   | some n =>
   obtain⟨z,hz0,hzp,rfl⟩:=fT hz;obtain⟨k,rfl,hn1⟩:=mi hn hx;simp only[hsz,hby,hz,hn,aX] at ha;split at ha
   ·rename_i a c;split at ha
    ·rename_i hc;cases ha;simp only[fK,bT,ch,qW] at hc;obtain⟨⟨⟨⟨rfl,rfl⟩,hn0,hs0⟩,LV,hzl⟩,ft,nz⟩:=hc;obtain⟨_,_,rfl⟩:=hs.qO;have hzs:z.cells.size=size:=by simpa using hzl
     obtain⟨d,mh,rest,cH,tG,qo⟩:=zP P w ts ty st xt elem ik k size bytes z n h0 h1 hst hxt hsz hby hz0 hn0 hs0 hzs LV nz;have hm0:m (2*h.n)=none:=fh h.n (aA _) (lj _);have hL:dv m (de n z.cells.toList) (de n z.cells.toList):=dv.de (bz.dS (m:=m) hzp).cells n;have hlen:(de n z.cells.toList).length=n*size:=by rw[qL,hzl]
     have Ny:Rel B w0 m h { w with drawn:=d }:=R.congr rfl (oi R.below d);obtain⟨R1,S1⟩:=Ny.new (.cells (de n z.cells.toList) size none) (.cells (de n z.cells.toList ++ rest).toArray elem) (size,(de n z.cells.toList ++ rest).length) hm0 ⟨(de n z.cells.toList ++ rest).toArray,elem,by rw[heap_alloc,aq rfl],⟨ab,fun i v hi=>by
       obtain⟨v',a,b⟩:=hL.get hi;refine⟨v',?_,b⟩
       have hi':i<(de n z.cells.toList).length:=by
        rcases dr i (de n z.cells.toList).length with h|h;·exact h
        ·rw[cy h] at a;cases a
       simp only[Cg,fy];rw[ef hi'];exact a⟩,rfl,ab⟩ rfl
     refine⟨_,_,_,cH,?_,R1,S1.congr rfl⟩;exact bz.slice (m:=m.upd (2*h.n) (w.heap.size,0) (size,(de n z.cells.toList ++ rest).length)) (b:=2*h.n) (o:=0) (r:=w.heap.size) (s:=0) (len:=n) (k:=2*n) (cap:=mh) (Mp.cw _ _ _ _) aa aa aa aa (by intro _;rw[Mp.pK];simp only[dG,qo,hlen,hzs];rw[←dA];simp only[fy];exact dU _ aa)
    ·cases ha
   ·cases ha
  | _=>simp at ha
section
variable {ρ:Operand→Value}{fr:Fr}{m:Mp}
def uL (hρ : ∀x v,opd fr x=some v→bz m v (ρ x)) : ∀(l:List Operand) (vs:List Value),nV fr l=some vs→dv m vs (l.map ρ)
 | [],vs,h=>by simp only[nV] at h;cases h;exact .nil m
 | x :: l,vs,h=>by
  rw[nV] at h;cases hx:opd fr x with
  | none=>simp[hx] at h
  | some v =>
   cases hl:nV fr l with
   | none=>simp[hx,hl] at h
   | some vs' =>
    simp only[hx,hl] at h;cases h;exact .cons (hρ x v hx) (uL hρ l vs' hl)
def xJ (hρ : ∀x v,opd fr x=some v→bz m v (ρ x)) {o:Option Operand} {v:Option Value} (h:iF fr o=some v):kV m v (o.map ρ):=by
 cases o with
 | none=>simp only[iF] at h;cases h;trivial
 | some x =>
  simp only[iF] at h;obtain⟨u,hu,rfl⟩:=bI.1 h;exact hρ x u hu
variable {x y v:Value}{t:TypeId}{x':Value}
def OC {P:Program} {op:BinOp} {ox oy:Operand} {y':Value} (h:binop P op t ox oy x y=some v) (hx:bz m x x') (hy:bz m y y') (w:World) :(do eqGuard op t ox oy x' y';Go.binOp op t x' y':Sem Value).run P w=.ok v w∧plain v=true:=by
 unfold binop at h;simp only[aX] at h;by_cases hp:(plain x && plain y)=true;·rw[aq hp] at h;simp only[fK] at hp;rw[hx.iX hp.1,hy.iX hp.2];obtain⟨a,b⟩:=kK h;exact⟨b w,a⟩
 ·rw[ah hp] at h;have guard : ∀(op:BinOp) {b:Bool},yK P t x y=some b→(eqGuard op t ox oy x' y').run P w=.ok () w:=by
   intro op b hb
   have hd : ∃d,xK d x y=some b:=by
    unfold yK at hb;split at hb;·exact⟨_,hb⟩
    ·cases hb
   obtain⟨d,hd⟩:=hd;unfold xK at hd;split at hd<;>cases hd<;>cases hx<;>cases hy<;>first
    | (simp_all [Id.dN];done)
    | (unfold eqGuard;split<;>rfl)
  have VH : ∀{b:Bool},yK P t x y=some b→(∀o,Go.binOp .eql t x' y'=(do pure (.bool (←Op.equal t x' y')))∨o)∧(∀o,Go.binOp .neq t x' y'=(do pure (.bool (!(←Op.equal t x' y'))))∨o):=by
   intro b hb
   have hd : ∃d,xK d x y=some b:=by
    unfold yK at hb;split at hb;·exact⟨_,hb⟩
    ·cases hb
   obtain⟨d,hd⟩:=hd;unfold xK at hd;split at hd<;>cases hd<;>cases hx<;>cases hy<;>first
    | (simp_all [Id.dN];done)
    | exact⟨fun _=>.inl rfl,fun _=>.inl rfl⟩
  cases op with
  | eql =>
   simp only at h;obtain⟨b,hb,rfl⟩:=bI.1 h;refine⟨?_,rfl⟩;have e:=((VH hb).1 False).resolve_right id;simp[guard _ hb,e,EX hb hx hy w]
  | neq =>
   simp only at h;obtain⟨b,hb,rfl⟩:=bI.1 h;refine⟨?_,rfl⟩;have e:=((VH hb).2 False).resolve_right id;simp[guard _ hb,e,EX hb hx hy w]
  | _=>cases h
variable {ts:Array TypeId}{ty:TypeId}{h:IH}{w w0:World}{B:Nat}
theorem Rel.tE (R:Rel B w0 m h w) (P:Program) (hl:tE P h t x=some v) (ht:ts[0]?=some t) (hx:bz m x x') :
  (Builtin.len_ ts ty #[x']).run P w=.ok v w∧plain v=true:=by
 unfold Id.tE at hl;have e0:(#[x']:Array Value)[0]?=some x':=rfl;split at hl
 ·rename_i hu;cases hl
  have:=hx.gL rfl;subst this
  exact⟨by simp[Builtin.len_,ht,cG hu,goInt],rfl⟩
 ·rename_i n e hu;cases hl
  exact⟨by simp[Builtin.len_,ht,cG hu,goInt],rfl⟩
 ·rename_i a hu
  split at hl
  ·rename_i n e hu2;cases hl
   exact⟨by simp[Builtin.len_,ht,cG hu,cG hu2,goInt],rfl⟩
  ·cases hl
 ·rename_i e a n c hu;cases hl
  obtain⟨a',c',rfl⟩:=z9 hx (show Id.lenOf (.slice a n c)=some n from rfl);exact⟨by simp[Builtin.len_,ht,cG hu,goInt],rfl⟩
 ·rename_i k e hu;cases hl
  have:=hx.gL rfl;subst this
  exact⟨by simp[Builtin.len_,ht,cG hu,goInt],rfl⟩
 ·rename_i k e r hu
  obtain⟨es,hes,rfl⟩:=bI.1 hl
  cases hx with
  | dN h=>simp[Id.dN] at h
  | map hm =>
   obtain⟨_,_,c,rT,hcm⟩:=R.Fs hes hm
   exact⟨by simp[Builtin.len_,ht,cG hu,run_getObj_map P rT,goInt,hcm.1],rfl⟩
 ·cases hl
variable {vs':Array Value}
def Tf (hv:dv m [x] vs'.toList) : ∃x',vs' = #[x']∧bz m x x':=by
 obtain⟨l⟩:=vs'
 match l,hv with
 | [x'],hv=>exact⟨x',rfl,hv.2 0 x x' rfl rfl⟩
 | [],hv=>have:=hv.1;simp at this
 | _ :: _ :: _,hv=>have:=hv.1;simp at this
def Wg (hv:dv m [x,y] vs'.toList) : ∃x' y',vs' = #[x',y']∧bz m x x'∧bz m y y':=by
 obtain⟨l⟩:=vs'
 match l,hv with
 | [x',y'],hv=>exact⟨x',y',rfl,hv.2 0 x x' rfl rfl,hv.2 1 y y' rfl rfl⟩
 | [],hv=>have:=hv.1;simp at this
 | [_],hv=>have:=hv.1;simp at this
 | _ :: _ :: _ :: _,hv=>have:=hv.1;simp at this
theorem dv.iX : ∀{l l':List Value},dv m l l'→l.all plain=true→l'=l
 | [],[],_,_=>rfl
 | [],_ :: _,h,_=>by have:=h.1;simp at this
 | _ :: _,[],h,_=>by have:=h.1;simp at this
 | a :: l,b :: l',h,hp=>by simp only[List.all_cons,fK] at hp;rw[(h.2 0 a b rfl rfl).iX hp.1,dv.iX (l:=l) (l':=l') ⟨by have:=h.1;simpa using this,fun i v v' x y=>h.2 (i+1) v v' (by simpa using x) (by simpa using y)⟩ hp.2]
def Rel.builtin {h':IH} (R:Rel B w0 m h w) (P:Program) {b:Builtin} {consts:Array Bool} {vs:List Value}  (hb:Id.builtin P h b ts vs=some (v,h')) (hv:dv m vs vs'.toList) (fh:jE m h.n h'.n) :J6 B w0 m h w ((Go.builtin b ts ty consts vs').run P w) v h':=by
 unfold Id.builtin at hb;split at hb
 ·-- len
  rename_i x;obtain⟨x',rfl,hx⟩:=Tf hv;cases hts:ts[0]? with
  | none=>simp[hts] at hb
  | some t =>
   simp only[hts] at hb;obtain⟨u,hu,he⟩:=bI.1 hb;cases he;obtain⟨h1,h2⟩:=R.tE P (ty:=ty) hu hts hx;exact .quiet R (by simp[Go.builtin,h1]) (.dS h2)
 ·-- append
  rename_i s x;obtain⟨s',x',rfl,hs,hx⟩:=Wg hv;simp only[aX] at hb;by_cases hsl:fm P ts[1]?=true
  ·rw[aq hsl] at hb;cases hts:ts[0]? with
   | none=>simp[hts] at hb
   | some st =>
    simp only[hts] at hb;have hxt : ∃xt xe,ts[1]?=some xt∧P.underlying xt=some (.slice xe):=by
     unfold fm at hsl;split at hsl
     ·rename_i xt h1;split at hsl
      ·rename_i xe h2;exact⟨xt,xe,h1,h2⟩
      ·cases hsl
     ·cases hsl
    obtain⟨xt,xe,h1,h2⟩:=hxt;obtain⟨v',m',w',hr,a,b,c⟩:=R.append P (ty:=ty) hts h1 h2 hb hs hx fh;exact⟨_,v',m',w',by simp[Go.builtin,hr],.inl rfl,a,b,c⟩
  ·rw[ah hsl] at hb;by_cases hil:LI P ts[1]?=true
   ·rw[aq hil] at hb;cases hts:ts[0]? with
    | none=>simp[hts] at hb
    | some st =>
     simp only[hts] at hb;have hxt : ∃xt ik,ts[1]?=some xt∧P.underlying xt=some (.int ik):=by
      unfold LI at hil;split at hil
      ·rename_i xt h1;split at hil
       ·rename_i ik h2;exact⟨xt,ik,h1,h2⟩
       ·cases hil
      ·cases hil
     obtain⟨xt,ik,h1,h2⟩:=hxt;obtain⟨v',m',w',hr,a,b,c⟩:=R.tO P (ty:=ty) hts h1 h2 hb hs hx fh;exact⟨_,v',m',w',by simp[Go.builtin,hr],.inl rfl,a,b,c⟩
   ·rw[ah hil] at hb;cases hb
 ·-- copy
  rename_i d s;obtain⟨d',s',rfl,hd,hs⟩:=Wg hv;cases hts:ts[0]? with
  | none=>simp[hts] at hb
  | some dt =>
   simp only[hts] at hb;obtain⟨w',hr,a,b,c⟩:=R.copy P (ty:=ty) hts hb hd hs;exact⟨_,_,m,w',by simp[Go.builtin,hr],.inl rfl,a,b,c⟩
 ·-- clear
  rename_i x;obtain⟨x',rfl,hx⟩:=Tf hv;cases hts:ts[0]? with
  | none=>simp[hts] at hb
  | some t =>
   simp only[hts] at hb;obtain⟨w',hr,a,b,c⟩:=R.clear P (ty:=ty) hts hb hx;exact⟨_,_,m,w',by simp[Go.builtin,hr],.inl rfl,a,b,c⟩
 ·-- cap
  rename_i x;obtain⟨x',rfl,hx⟩:=Tf hv;cases hts:ts[0]? with
  | none=>simp[hts] at hb
  | some t =>
   simp only[hts] at hb;obtain⟨u,hu,he⟩:=bI.1 hb;cases he;obtain⟨h1,h2⟩:=Rel.cap (w:=w) P (ty:=ty) hts hu hx;exact .quiet R (by simp[Go.builtin,h1]) (.dS h2)
 ·simp only[aX] at hb;by_cases hp:vs.all plain=true
  ·rw[aq hp] at hb;obtain⟨u,hu,he⟩:=bI.1 hb;cases he;obtain⟨h1,h2⟩:=kK hu;have e:vs'=vs.toArray:=by rw[←hv.iX hp]
   subst e;exact .quiet R (by simp only[Go.builtin,bJ];rw[show(Builtin.max_ ts ty vs.toArray)=(Builtin.max_ ts 0 vs.toArray) from rfl,h2 w];rfl) (.dS h1)
  ·rw[ah hp] at hb;cases hb
 ·simp only[aX] at hb;by_cases hp:vs.all plain=true
  ·rw[aq hp] at hb;obtain⟨u,hu,he⟩:=bI.1 hb;cases he;obtain⟨h1,h2⟩:=kK hu;have e:vs'=vs.toArray:=by rw[←hv.iX hp]
   subst e;exact .quiet R (by simp only[Go.builtin,bJ];rw[show(Builtin.min_ ts ty vs.toArray)=(Builtin.min_ ts 0 vs.toArray) from rfl,h2 w];rfl) (.dS h1)
  ·rw[ah hp] at hb;cases hb
 ·cases hb
end
set_option maxHeartbeats 16000000
section
variable {v':Value}{m:Mp}
def bz.qc {a:Addr} (h:bz m (.pointer (some a)) v') : ∃a',v'=.pointer (some a'):=by
 cases h with
 | dN h=>simp[Id.dN] at h
 | ptr=>exact⟨_,rfl⟩
def bz.Us {r:Option Nat} (h:bz m (.map r) v') : ∃r',v'=.map r':=by
 cases h with
 | dN h=>exact⟨_,rfl⟩
 | map=>exact⟨_,rfl⟩
variable {c:Array MapEntry}
def Pk {i:Nat} {e:MapEntry} (hb : ∀(j:Nat) (e':MapEntry),c[j]?=some e'→e'.born=j) (hi:c[i]?=some e):c.find? (fun x=>x.born == i)=some e:=by
 have hil:i<c.size:=by
  rcases dr i c.size with h|h;·exact h
  ·rw[Co h] at hi;cases hi
 rw[Array.find?_eq_some_iff_getElem];refine⟨by simp[hb i e hi],i,hil,?_,?_⟩;·rw[oX hil] at hi;exact Kb hi
 ·intro j hj
  have:=hb j c[j] (oX aa);simp[this];omega
variable {w:World}
def tU (P:Program) {r:Nat} {a:Option Nat} {b d:Nat} {c:Array Nat} (h:w.heap[r]?=some (.mapIter a b c d)):(getObj r).run P w=.ok (.mapIter a b c d) w:=by simp only[getObj,Sem.run,h]
def vh.born {es:List (Value×Value)} (h:vh m es c) (j:Nat) (e':MapEntry) (he:c[j]?=some e'):e'.born=j:=by
 have hj:j<c.size:=by
  rcases dr j c.size with h|h;·exact h
  ·rw[Co h] at he;cases he
 have hj2:j<es.length:=by have:=h.1;omega
 exact(h.2 j es[j] e' (aK hj2) he).2
def Uy {B:Nat} {w0:World} {h h':IH} (R:Rel B w0 m h w) (P:Program) {fr:Fr} {ρ:Operand→Value} (hρ : ∀x v,opd fr x=some v→bz m v (ρ x)) (oper:Oper) {v:Value}(hi:iop P fr oper.op h=some (v,h')) (fh:jE m h.n h'.n):J6 B w0 m h w ((execOp ρ oper).run P w) v h':=by
 obtain⟨dst,op,ty,pos,aft,gd⟩:=oper;simp only at hi ⊢;have q : ∀{x:Operand} {u:Value},(opd fr x).map (·,h)=some (v,h')→h'=h∧bz m v (ρ x):=by intro x u hx;obtain⟨a,ha,he⟩:=bI.1 hx;cases he;exact⟨rfl,hρ x _ ha⟩
 unfold iop at hi;split at hi
 ·-- move
  obtain⟨rfl,hv⟩:=q (u:=.nilFunc) hi
  exact .quiet R (by simp[execOp]) hv
 ·obtain⟨rfl,hv⟩:=q (u:=.nilFunc) hi
  exact .quiet R (by simp[execOp]) hv
 ·-- pick
  rename_i c a b;split at hi;·rename_i hc;obtain⟨rfl,hv⟩:=q (u:=.nilFunc) hi;have:=(hρ c _ hc).gL rfl;exact .quiet R (by simp[execOp,this,asBool]) hv
  ·rename_i hc
   obtain⟨rfl,hv⟩:=q (u:=.nilFunc) hi;have:=(hρ c _ hc).gL rfl
   exact .quiet R (by simp[execOp,this,asBool]) hv
  ·cases hi
 ·-- alloc
  rename_i t;obtain⟨z,hz,he⟩:=bI.1 hi;cases he;obtain⟨zv,hz0,hzp,rfl⟩:=fT hz;obtain⟨R1,S1⟩:=R.newRow (fh h.n (aA _) (lj _)) (bz.dS (m:=m) hzp).cells 0 t;refine⟨.value (.pointer (some ⟨w.heap.size,0,none⟩)),_,_,_,?_,.inl rfl,?_,R1,S1⟩
  ·simp only[execOp,Instr.alloc,bJ,hP w hz0,bW,newVar,Go.newRow,l8,ck];rfl
  ·exact bz.ptr (s:=0) (o:=0) (Mp.cw _ _ _ _)
 ·-- box
  rename_i t x;obtain⟨a,ha,he⟩:=bI.1 hi;cases he;have hv:=hρ x a ha;obtain⟨R1,S1⟩:=R.newRow (fh h.n (aA _) (lj _)) hv.cells 0 t;refine⟨.value (.pointer (some ⟨w.heap.size,0,none⟩)),_,_,_,?_,.inl rfl,?_,R1,S1⟩;·simp only[execOp,Instr.box,bJ,bW,newVar,Go.newRow,l8,ck];rfl
  ·exact bz.ptr (s:=0) (o:=0) (Mp.cw _ _ _ _)
 ·-- build
  rename_i t parts;split at hi
  ·rename_i z ps hz hps;simp only[aX] at hi;by_cases ha:dZ P t=true
   ·rw[aq ha] at hi;obtain⟨cs,hcs,he⟩:=bI.1 hi;cases he
    obtain⟨cs',h1,h2⟩:=OB hρ hz hps ha hcs w
    exact .quiet R (by simp only[execOp,bJ,h1];rfl) h2
   ·rw[ah ha] at hi;cases hi
  ·cases hi
 ·-- buildSlice
  rename_i t len parts;split at hi
  ·rename_i ps hps;obtain⟨v',m',w',h1,h2,h3,h4⟩:=(sC P hρ hps hi w).rel R fh
   exact⟨_,v',m',w',by simp only[execOp,bJ,h1];rfl,.inl rfl,h2,h3,h4⟩
  ·cases hi
 ·-- load
  rename_i t x;split at hi
  ·rename_i a ha;obtain⟨u,hu,he⟩:=bI.1 hi;cases he;obtain⟨v',h1,h2⟩:=R.load hu (hρ x a ha)
   exact .quiet R (by simp[execOp,h1]) h2
  ·cases hi
 ·-- store
  rename_i t x y;split at hi
  ·rename_i a u ha hu;obtain⟨hx,hhx,he⟩:=bI.1 hi;cases he;obtain⟨w',h1,h2,h3⟩:=R.store hhx (hρ x a ha) (hρ y u hu)
   exact⟨.skip,undef,m,w',by simp[execOp,h1],.inr ⟨rfl,rfl⟩,.undef m,h2,h3⟩
  ·cases hi
 ·-- nilCheck
  rename_i x;split at hi;·rename_i a ha;cases hi;have hv:=hρ x _ ha;obtain⟨a',e⟩:=hv.qc;exact .quiet R (v':=ρ x) (by simp[execOp,e]) hv
  ·rename_i f xs ys ha
   cases hi;have hv:=hρ x _ ha;obtain⟨fn',xs',ys',e,hf,h1,h2⟩:=hv.yW;cases fn'<;>simp[vk] at hf;subst hf;exact .quiet R (v':=ρ x) (by simp[execOp,e]) hv
  ·rename_i f xs ys ha;cases hi;have hv:=hρ x _ ha;obtain⟨fn',xs',ys',e,hf,h1,h2⟩:=hv.yW;cases fn'<;>simp[vk] at hf;exact .quiet R (v':=ρ x) (by simp[execOp,e]) hv
  ·rename_i r ha;cases hi;have hv:=hρ x _ ha;obtain⟨r',e⟩:=hv.Us
   exact .quiet R (v':=ρ x) (by simp[execOp,e]) hv
  ·cases hi
 ·-- binOp
  rename_i op t x y yt;split at hi;·rename_i a b ha hb;obtain⟨u,hu,he⟩:=bI.1 hi;cases he;obtain⟨h1,h2⟩:=OC hu (hρ x a ha) (hρ y b hb) w;exact .quiet R (by simp only[execOp,bJ] at h1 ⊢;rw[h1];rfl) (.dS h2)
  ·cases hi
 ·-- unOp
  rename_i op t x;split at hi
  ·rename_i a ha;simp only[aX] at hi;by_cases hp:plain a=true
   ·rw[aq hp] at hi;obtain⟨u,hu,he⟩:=bI.1 hi;cases he;obtain⟨h1,h2⟩:=kK hu;exact .quiet R (by simp only[execOp,(hρ x a ha).iX hp,bJ,h2 w];rfl) (.dS h1)
   ·rw[ah hp] at hi;cases hi
  ·cases hi
 ·-- convert
  rename_i s d x;split at hi
  ·rename_i a ha;simp only[aX] at hi;by_cases hp:plain a=true
   ·rw[aq hp] at hi;obtain⟨u,hu,he⟩:=bI.1 hi;cases he;obtain⟨h1,h2⟩:=kK hu;exact .quiet R (by simp only[execOp,(hρ x a ha).iX hp,bJ,h2 w];rfl) (.dS h1)
   ·rw[ah hp] at hi;cases hi
  ·cases hi
 ·-- sliceToArrayPointer
  rename_i t x;split at hi
  ·rename_i n e b o len k hu ha;simp only[aX] at hi;by_cases hc:(Nat.ble n len && Nat.blt 0 k)=true
   ·rw[aq hc] at hi;cases hi;simp only[fK,ch,qW] at hc;rcases(hρ x _ ha).iS with⟨r,s,cap,hm,_,_,_,_,_,e⟩|⟨_,hk,_⟩
    ·exact .quiet R (v':=.pointer (some ⟨r,s+o,none⟩)) (by simp[execOp,e,Instr.arrayAt,cG hu];omega) (.ptr hm)
    ·omega
   ·rw[ah hc] at hi;cases hi
  ·cases hi
 ·-- makeFunc
  rename_i fn first cap
  split at hi
  ·rename_i a b ha hb;split at hi
   ·rename_i f;cases hi;have h1:=uL hρ _ _ ha;have h2:=uL hρ _ _ hb;exact .quiet R (v':=.func (.func f) (first.map ρ) (cap.map ρ)) (by simp[execOp,Instr.makeFunc]) (bz.Ht rfl (by simpa using h1) (by simpa using h2))
   ·cases hi
  ·cases hi
 ·-- makeMap
  rename_i t r;have fin : ∀{v h'},some (Value.map (some (2*h.n)),h.new (.map []))=some (v,h')→jE m h.n h'.n→((Instr.makeMap t (r.map ρ)).run P w=.ok (.map (some w.heap.size)) (w.alloc (.map #[] 0))) →
    J6 B w0 m h w ((execOp ρ { dst:=dst,op:=.makeMap t r,type:=ty,pos:=pos,after:=aft,guard:=gd }).run P w) v h':=by
   intro v h' e fh cH;cases e;obtain⟨R1,S1⟩:=R.new (.map []) (.map #[] 0) (0,0) (fh h.n (aA _) (lj _)) ⟨rfl,#[],by rw[heap_alloc,aq rfl];rfl,rfl,ab⟩ rfl;exact⟨.value (.map (some w.heap.size)),_,_,_,by simp[execOp,cH],.inl rfl,.map (Mp.cw _ _ _ _),R1,S1⟩
  split at hi;·exact fin hi fh (by simp only[Option.map_none,Instr.makeMap,bJ,ck,bW,l8];rfl)
  ·rename_i x;split at hi
   ·rename_i k n kt et hx hu
    have:=(hρ x _ hx).gL rfl
    exact fin hi fh (by simp only[jx,this,Instr.makeMap,bJ,cG hu,asInt,asIntOf,ck,bW,l8];rfl)
   ·cases hi
 ·-- makeSlice
  rename_i t l c;split at hi
  ·rename_i a b ha hb;obtain⟨v',m',w',h1,h2,h3,h4⟩:=(tY P hi (hρ l a ha) (hρ c b hb) w).rel R fh
   exact⟨_,v',m',w',by simp only[execOp,bJ,h1];rfl,.inl rfl,h2,h3,h4⟩
  ·cases hi
 ·-- slice
  rename_i t x lo hi' mx;split at hi;·rename_i a b c d ha hb hc hd;obtain⟨u,hu,he⟩:=bI.1 hi;cases he;obtain⟨v',h1,h2⟩:=R.dE P hu (hρ x a ha) (xJ hρ hb) (xJ hρ hc) (xJ hρ hd);exact .quiet R (by simp only[execOp,bJ,h1];rfl) h2
  ·cases hi
 ·-- fieldAddr
  rename_i t x f;split at hi
  ·rename_i a fd ha hf;split at hi
   ·rename_i b o n hA hS;simp only[aX,bT] at hi;by_cases h0:n=0
    ·rw[aq h0] at hi;cases hi
    ·rw[ah h0] at hi;cases hi;have hp:a=.pointer (some ⟨b,o,none⟩):=by unfold Id.asAddr at hA;split at hA<;>simp_all
     subst hp;obtain⟨r,s,hm,e⟩:=(hρ x _ ha).ou;unfold mZ at hf;cases hu:P.underlying t with
     | none=>simp[hu] at hf
     | some d =>
      rw[hu] at hf;cases d with
      | struct fs =>
       simp only at hf;refine .quiet R (v':=.pointer (some ⟨r,s+(o+fd.offset),none⟩)) ?_ (.ptr hm);simp[execOp,e,Instr.fieldAt,cG hu,hf,Instr.sureAddr,fieldPlace,dO w hS,h0,oS,ma]
      | _=>simp at hf
   ·cases hi
  ·cases hi
 ·-- field
  rename_i t x f;split at hi
  ·rename_i cs fd ha hf;obtain⟨u,hu,he⟩:=bI.1 hi;cases he;obtain⟨cs',e,hL⟩:=(hρ x _ ha).BT;obtain⟨v',h1,h2⟩:=Iy P hu hL w;unfold mZ at hf;cases hut:P.underlying t with
   | none=>simp[hut] at hf
   | some d =>
    rw[hut] at hf
    cases d with
    | struct fs =>
     simp only at hf
     exact .quiet R (by simp[execOp,e,Instr.field,cG hut,hf,asAgg,h1]) h2
    | _=>simp at hf
  ·cases hi
 ·-- indexAddr
  rename_i t x i;split at hi;·rename_i a b ha hb;obtain⟨u,hu,he⟩:=bI.1 hi;cases he;obtain⟨v',h1,h2⟩:=Ej P hu (hρ x a ha) (hρ i b hb) w;exact .quiet R (by simp only[execOp,bJ,h1];rfl) h2
  ·cases hi
 ·-- index
  rename_i t x i;split at hi
  ·rename_i cs b ha hb;split at hi
   ·rename_i n e j hu hj;simp only[aX,qW] at hi;by_cases hlt:j<n
    ·rw[aq hlt] at hi;split at hi
     ·rename_i size hS;obtain⟨u,hu2,he⟩:=bI.1 hi;cases he;obtain⟨cs',e1,hL⟩:=(hρ x _ ha).BT;obtain⟨k,e2⟩:=Af (hρ i b hb) hj;obtain⟨v',h1,h2⟩:=Iy P hu2 hL w;refine .quiet R (v':=v') ?_ h2;have h3:(0:Int)≤Int.ofNat j∧Int.ofNat j<(n:Int):=by constructor<;>simp<;>omega
      simp only[execOp,e1,e2,Instr.index,asIntOf,bJ,ck,bW,cG hu];rw[aq h3];simp[dO w hS,h1]
     ·cases hi
    ·rw[ah hlt] at hi;cases hi
   ·cases hi
  ·rename_i s b ha hb;simp only[aX] at hi;by_cases hp:plain b=true
   ·rw[aq hp] at hi;obtain⟨u,hu,he⟩:=bI.1 hi;cases he;obtain⟨h1,h2⟩:=kK hu
    have e1:=(hρ x _ ha).gL rfl
    exact .quiet R (by simp only[execOp,(hρ i b hb).iX hp,e1,bJ,h2 w];rfl) (.dS h1)
   ·rw[ah hp] at hi;cases hi
  ·cases hi
 ·-- lookup
  rename_i t x k ok;split at hi
  ·rename_i a b ha hb;obtain⟨u,hu,he⟩:=bI.1 hi;cases he;obtain⟨v',h1,h2⟩:=R.lookup P hu (hρ x a ha) (hρ k b hb)
   exact .quiet R (by simp only[execOp,bJ,h1];rfl) h2
  ·cases hi
 ·-- mapUpdate
  rename_i t x k y;split at hi
  ·rename_i a b c ha hb hc;obtain⟨hx,hhx,he⟩:=bI.1 hi;cases he;obtain⟨w',h1,h2,h3⟩:=R.mapUpdate P hhx (hρ x a ha) (hρ k b hb) (hρ y c hc)
   exact⟨.skip,undef,m,w',by simp only[execOp,bJ,h1];rfl,.inr ⟨rfl,rfl⟩,.undef m,h2,h3⟩
  ·cases hi
 ·-- insert
  rename_i t x k y;split at hi;·rename_i a b c ha hb hc;obtain⟨hx,hhx,he⟩:=bI.1 hi;cases he;obtain⟨w',h1,h2,h3⟩:=R.mapUpdate P hhx (hρ x a ha) (hρ k b hb) (hρ y c hc);exact⟨.skip,undef,m,w',by simp only[execOp,bJ,h1];rfl,.inr ⟨rfl,rfl⟩,.undef m,h2,h3⟩
  ·cases hi
 ·-- extract
  rename_i x i;split at hi
  ·rename_i vs ha;obtain⟨u,hu,he⟩:=bI.1 hi;cases he;obtain⟨vs',e,hL⟩:=(hρ x _ ha).zM;obtain⟨v',h1,h2⟩:=hL.get (i:=i) (by simpa using hu);have h3:vs'[i]?=some v':=by simpa using h1
   exact .quiet R (v':=v') (by simp[execOp,e,Instr.extract,h3]) h2
  ·cases hi
 ·-- range over a map
  rename_i t x;split at hi
  ·rename_i kt et k hu hx;obtain⟨es,hes,he⟩:=bI.1 hi;cases he;obtain⟨rm,s,hm,hρx⟩ : ∃rm s,m k=some (rm,s)∧ρ x=.map (some rm):=by
    have:=hρ x _ hx;generalize ρ x=y at this;cases this with
    | dN h=>simp[Id.dN] at h
    | map hm=>exact⟨_,_,hm,rfl⟩
   obtain⟨hg,hkk,c,rT,hcm⟩:=R.Fs hes hm;have hs0:s=0:=(R.obj (k / 2) _ rm s hg (by rw[hkk];exact hm)).1;subst hs0;obtain⟨R1,S1⟩:=R.new (.iter k es.length [] es.length) (.mapIter (some rm) es.length #[] es.length) (0,0) (fh h.n (aA _) (lj _)) ⟨rfl,rm,by rw[heap_alloc,aq rfl],hm⟩ rfl;refine⟨.value (.pointer (some ⟨w.heap.size,0,none⟩)),_,_,_,?_,.inl rfl,.ptr (s:=0) (o:=0) (Mp.cw _ _ _ _),R1,S1⟩;simp only[execOp,Instr.range,hρx,bJ,cG hu,bW,run_getObj_map P rT,l8,ck];rfl
  ·cases hi
 ·-- a map's entry
  rename_i x;split at hi
  ·rename_i b hx;simp only[aX,bT] at hi;split at hi
   ·cases hi
   ·rename_i hb;split at hi
    ·rename_i k since seen last hit;split at hi
     ·rename_i es i hes Zk;split at hi
      ·rename_i Zw
       obtain⟨e,hei,he⟩:=bI.1 hi;cases he;obtain⟨r,s,hm,hρx⟩:=(hρ x _ hx).ou;obtain⟨hs0,rm,rT,hmk⟩:=R.obj (b / 2) _ r s hit (by rw[show 2*(b / 2)=b from by omega];exact hm);subst hs0;obtain⟨hg,hkk,c,Eu,hcm⟩:=R.Fs hes hmk
       have hil:i<es.length:=by
        rcases dr i es.length with h|h;·exact h
        ·rw[cy h] at hei;cases hei
       have hic:i<c.size:=by have:=hcm.1;omega
       have hE:=(hcm.2 i e c[i] hei (oX hic)).1;have yV:=Pk hcm.born (oX hic);have Dx:seen.toArray.back?=some i:=by rw[←Zk];simp[Array.back?,List.getLast?_eq_getElem?]
       refine .quiet R (v':=.tuple #[c[i].key,c[i].val]) ?_ (bz.kY (.cons ?_ (.cons hE.2.2 (.nil m))));·subst Zw;simp only[execOp,Instr.entry,hρx,fy,bJ,tU P rT,Dx,run_getObj_map P Eu,bW,Gi,fJ,cE,yV,ck]
       ·rw[hE.1];exact bz.dS hE.2.1
      ·cases hi
     ·cases hi
    ·cases hi
  ·cases hi
 ·-- call of a builtin
  rename_i c;split at hi
  ·rename_i b hb;split at hi
   ·rename_i vs hvs;have hL:=uL hρ _ _ hvs;have:=R.builtin P (ty:=ty) (consts:=c.args.map fun|.const _=>true|_=>false) (vs':=c.args.map ρ) hi (by simpa using hL) fh;obtain⟨nx,v',m',w',h1,h2⟩:=this;refine⟨nx,v',m',w',?_,h2⟩;rw[←h1];simp only[execOp,resolve,hb,bJ,ck,bW,invoke];rfl
   ·cases hi
  ·cases hi
 ·cases hi
end
end Go.Id
namespace Go.Id
open Go Go.RowKit
section
def on (b:Frame) (tmps:Array Value) (todo:List Item) (ds:List Deferred):Frame :=
 { fn:=b.fn,tmps,todo,defers:=ds,mode:=.run,kind:=b.kind,roundOf:=b.roundOf }
def lh (tmps:Array Value):Operand→Value
 | .tmp t=>tmps.getD t undef
 | .const v=>v
 | .global g=>.pointer (some ⟨g,0,none⟩)
 | .func f=>.func (.func f) #[] #[]
def Hz (b:Frame) (tmps:Array Value) (todo:List Item) (ds:List Deferred):(on b tmps todo ds).eval=lh tmps:=by funext x;cases x<;>rfl
def vE {B:Nat} {w0:World} {m:Mp} {h:IH} {w:World} (R:Rel B w0 m h w) {fr:Fr} {tmps:Array Value} (hf:gZ m fr tmps) : ∀x v,opd fr x=some v→bz m v (lh tmps x):=by
 intro x v hx;cases x with
 | tmp t =>
  simp only[opd] at hx;obtain⟨v',h1,h2⟩:=hf t v hx
  simp only[lh,Cp,h1,jf]
  exact h2
 | const u =>
  simp only[opd,aX] at hx;by_cases hp:plain u=true;·rw[aq hp] at hx;cases hx;exact .dS hp
  ·rw[ah hp] at hx;cases hx
 | global g =>
  simp only[opd,aX,Nat.blt,ch] at hx;split at hx
  case isFalse=>cases hx
  rename_i hg;cases hx;have:=bz.ptr (m:=m) (o:=0) (R.odd g hg);simpa [lh] using this
 | func f =>
  simp only[opd] at hx;cases hx;exact bz.Ht rfl (.nil m) (.nil m)
section
variable {P:Program} {b:Frame} {tmps:Array Value} {ds:List Deferred} {k:List Item} {cs:List Frame} {w:World}
def TP:step P (lone (on b tmps (.code .skip :: k) ds) cs w)=.next (lone (on b tmps k ds) cs w):=jv (by simp[stepG,stepG.exec,on])
variable {l:Nat}
def Qp :step P (lone (on b tmps (.code (.label l) :: k) ds) cs w)=.next (lone (on b tmps k ds) cs w):=jv (by simp[stepG,stepG.exec,on])
variable {id:Nat}
def KL :step P (lone (on b tmps (.inBlock id :: k) ds) cs w)=.next (lone (on b tmps k ds) cs w):=jv (by simp[stepG,stepG.exec,on])
variable {c:Code}
def KK :step P (lone (on b tmps (.inScope c :: k) ds) cs w)=.next (lone (on b tmps k ds) cs w):=jv (by simp[stepG,stepG.exec,on])
variable {x y:Code}
def CH :step P (lone (on b tmps (.code (.seq x y) :: k) ds) cs w)=.next (lone (on b tmps (.code x :: .code y :: k) ds) cs w):=jv (by simp[stepG,stepG.exec,on])
def MI {c:Operand} {t:Bool} (h:lh tmps c=.bool t) :step P (lone (on b tmps (.code (.cond c x y) :: k) ds) cs w)=.next (lone (on b tmps (.code (if t then x else y) :: k) ds) cs w) :=
 jv (by
  have:=congrFun (Hz b tmps (.code (.cond c x y) :: k) ds) c;simp only[on] at this;simp[stepG,stepG.exec,on,this,h])
def yp :step P (lone (on b tmps (.code (.block id c) :: k) ds) cs w)=.next (lone (on b tmps (.code c :: .inBlock id :: k) ds) cs w):=jv (by simp[stepG,stepG.exec,on])
def CI :step P (lone (on b tmps (.code (.scope c) :: k) ds) cs w)=.next (lone (on b tmps (.code c :: .inScope c :: k) ds) cs w):=jv (by simp[stepG,stepG.exec,on])
def MH :step P (lone (on b tmps (.code (.loop c) :: k) ds) cs w)=.next (lone (on b tmps (.code c :: .inLoop c :: k) ds) cs w):=jv (by simp[stepG,stepG.exec,on])
def EU :step P (lone (on b tmps (.inLoop c :: k) ds) cs w)=.next (lone (on b tmps (.code c :: .inLoop c :: k) ds) cs w):=jv (by simp[stepG,stepG.exec,on])
def TQ {k':List Item} (h:exitTo id k=some k'):step P (lone (on b tmps (.code (.exit id) :: k) ds) cs w)=.next (lone (on b tmps k' ds) cs w):=jv (by simp[stepG,stepG.exec,on,h])
variable {ops:Array Oper}
def ET :step P (lone (on b tmps (.code (.region id ops false) :: k) ds) cs w)=.next (lone (on b tmps (.inRegion ops (List.range ops.size) :: k) ds) cs w) :=
 jv (by simp[stepG,stepG.exec,on])
def CJ :step P (lone (on b tmps (.code (.region id ops true) :: k) ds) cs w) = .next (lone (on b tmps (.inRegion ops (Region.schedule (P.follows .mixedOrders) ops (w.tape w.drawn (.order b.fn id))) :: k) ds) cs { w with drawn:=w.drawn+1 }) :=
 jv (by simp[stepG,stepG.exec,on,choose,Sem.run,Question.forced,Question.cut])
def rk :step P (lone (on b tmps (.inRegion ops [] :: k) ds) cs w)=.next (lone (on b tmps k ds) cs w):=jv (by simp[stepG,stepG.exec,on])
def ru (tmps:Array Value) (dst:Option Tmp) (v:Value):Array Value :=
 match dst with
 | some d=>tmps.setIfInBounds d v
 | none=>tmps
variable {i:Nat}{o:Oper}{rest:List Nat}
theorem vP (ho:ops[i]?=some o) (v:Value):(on b tmps (.inRegion ops (i :: rest) :: k) ds).finish v=on b (ru tmps o.dst v) (.inRegion ops rest :: k) ds:=by unfold Frame.finish on;simp only[ho,kD];cases o.dst<;>rfl
def Qo (ho:ops[i]?=some o) (hw:Region.wanted o (yielded ops tmps)=false) :step P (lone (on b tmps (.inRegion ops (i :: rest) :: k) ds) cs w)=.next (lone (on b (ru tmps o.dst undef) (.inRegion ops rest :: k) ds) cs w):=by
 rw[←vP ho];exact jv (by
  have h':((ops[i]?).map (Region.wanted · (yielded ops tmps))).getD false=false:=by simp[ho,hw]
  simp only[on] at *;simp[stepG,stepG.exec,h'])
theorem ym {rest:List Nat} (ho:ops[i]?=some o) (hw:Region.wanted o (yielded ops tmps)=true) (hnd : ∀c,o.op≠.defer c) :stepG P true { frame:=on b tmps (.inRegion ops (i :: rest) :: k) ds,callers:=cs,status:=.running,dying:=none } w = stepG.apply P true (on b tmps (.inRegion ops (i :: rest) :: k) ds) cs none (execOp (lh tmps) o) w:=by
 have he:=Hz b tmps (.inRegion ops (i :: rest) :: k) ds;simp only[on] at he;simp only[stepG,stepG.exec,on,ho,jx,hw,jf,cq,stepG.oper,Frame.oper?,he];cases hr:b.roundOf with
 | none=>simp
 | some l =>
  cases hop:o.op<;>simp_all
variable {w':World}
def uB {v:Value} (ho:ops[i]?=some o) (hw:Region.wanted o (yielded ops tmps)=true) (hnd : ∀c,o.op≠.defer c)(hr:(execOp (lh tmps) o).run P w=.ok (.value v) w') :step P (lone (on b tmps (.inRegion ops (i :: rest) :: k) ds) cs w)=.next (lone (on b (ru tmps o.dst v) (.inRegion ops rest :: k) ds) cs w'):=by rw[←vP ho];refine jv ?_;rw[ym ho hw hnd];simp[stepG.apply,hr]
def Oy (ho:ops[i]?=some o) (hw:Region.wanted o (yielded ops tmps)=true) (hnd : ∀c,o.op≠.defer c)(hr:(execOp (lh tmps) o).run P w=.ok .skip w') :step P (lone (on b tmps (.inRegion ops (i :: rest) :: k) ds) cs w)=.next (lone (on b (ru tmps o.dst undef) (.inRegion ops rest :: k) ds) cs w'):=by rw[←vP ho];refine jv ?_;rw[ym ho hw hnd];simp[stepG.apply,hr]
variable {f:FuncId}
def Qq {args:Array Value} (ho:ops[i]?=some o) (hw:Region.wanted o (yielded ops tmps)=true) (hnd : ∀c,o.op≠.defer c)(hr:(execOp (lh tmps) o).run P w=.ok (.enter f args) w') :step P (lone (on b tmps (.inRegion ops (i :: rest) :: k) ds) cs w)=.next (lone (Frame.enter P f args .normal) (on b tmps (.inRegion ops (i :: rest) :: k) ds :: cs) w'):=by refine jv ?_;rw[ym ho hw hnd];simp[stepG.apply,hr,on]
def Qn {ts:Array Value} {a:Code} (ho:ops[i]?=some o) (hw:Region.wanted o (yielded ops tmps)=true) (hnd : ∀c,o.op≠.defer c)(hr:(execOp (lh tmps) o).run P w=.ok (.round l f ts a c) w') :step P (lone (on b tmps (.inRegion ops (i :: rest) :: k) ds) cs w)=.next (lone (Frame.round l f ts a c .normal) (on b tmps (.inRegion ops (i :: rest) :: k) ds :: cs) w'):=by refine jv ?_;rw[ym ho hw hnd];simp[stepG.apply,hr,on]
end
variable {h:IH}{b:Nat}{vs:List Value}{h':IH}
def Tz {o:Nat} (hw:h.wr b o vs=some h'):h'.n=h.n:=by
 unfold IH.wr at hw;simp only[aX] at hw;split at hw;·cases hw
 ·split at hw
  ·split at hw
   ·split at hw
    ·cases hw;rfl
    ·split at hw
     ·cases hw;rfl
     ·cases hw
   ·cases hw
  ·cases hw
variable {x v:Value}{st:TypeId}{P:Program}{s:Value}
def Tg (ha:append P h st s x=some (v,h')):h.n≤h'.n:=by
 unfold Id.append at ha;simp only[aX] at ha;repeat' (split at ha)
 all_goals first
  | (cases ha;done)
  | (cases ha;exact aA _)
  | (cases ha;exact jh _)
  | (obtain⟨h1,h2,h3⟩:=bI.1 ha;cases h3;exact sI (Tz h2).symm)
def PU (ha:tO P h st s x=some (v,h')):h.n≤h'.n:=by
 unfold Id.tO at ha;simp only[aX] at ha;repeat' (split at ha)
 all_goals first
  | (cases ha;done)
  | (cases ha;exact jh _)
def XH {dt:TypeId} {d:Value} (ha:xV P h dt d s=some (v,h')):h.n≤h'.n:=by
 unfold Id.xV at ha;simp only[aX] at ha;repeat' (split at ha)
 all_goals first
  | (cases ha;done)
  | (cases ha;exact aA _)
  | (obtain⟨h1,h2,h3⟩:=bI.1 ha;cases h3;exact sI (Tz h2).symm)
variable {t:TypeId}
def U5 (ha:zh P h t x=some (v,h')):h.n≤h'.n:=by
 unfold Id.zh at ha;simp only[aX] at ha;repeat' (split at ha)
 all_goals first
  | (cases ha;done)
  | (cases ha;exact aA _)
  | (obtain⟨h1,h2,h3⟩:=bI.1 ha;cases h3;exact sI (Tz h2).symm)
def Lx {o:Option Value} (ha:o.map (·,h)=some (v,h')):h.n≤h'.n:=by obtain⟨a,_,h3⟩:=bI.1 ha;cases h3;exact aA _
def PI {b:Builtin} {ts:Array TypeId} (ha:builtin P h b ts vs=some (v,h')):h.n≤h'.n:=by
 unfold Id.builtin at ha;simp only[aX] at ha;repeat' (split at ha)
 all_goals first
  | (cases ha;done)
  | exact Tg ha
  | exact PU ha
  | exact XH ha
  | exact U5 ha
  | exact Lx ha
def TO {a:Value} (hs:store P h t a v=some h'):h.n≤h'.n:=by
 unfold Id.store at hs;simp only[aX] at hs;repeat' (split at hs)
 all_goals first
  | (cases hs;done)
  | exact sI (Tz hs).symm
def Jb {m k:Value} (hs:mapUpdate P h t m k v=some h'):h.n≤h'.n:=by
 unfold Id.mapUpdate at hs;simp only[aX] at hs;repeat' (split at hs)
 all_goals first
  | (cases hs;done)
  | (cases hs;exact aA _)
def HF {len:Nat} {ps:List (Nat×Value)} (hs:buildSlice P h t len ps=some (v,h')):h.n≤h'.n:=by
 unfold Id.buildSlice at hs;simp only[aX] at hs;repeat' (split at hs)
 all_goals first
  | (cases hs;done)
  | (cases hs;exact jh _)
def Jc {l c:Value} (hs:makeSlice P h t l c=some (v,h')):h.n≤h'.n:=by
 unfold Id.makeSlice at hs;simp only[aX] at hs;repeat' (split at hs)
 all_goals first
  | (cases hs;done)
  | (cases hs;exact jh _)
variable {fr:Fr}
def VP {o:Op} (hi:iop P fr o h=some (v,h')):h.n≤h'.n:=by
 unfold iop at hi;simp only[aX] at hi;split at hi;all_goals try (exact Lx hi)
 all_goals repeat' (split at hi)
 all_goals first
  | (cases hi;done)
  | (cases hi;exact aA _)
  | (cases hi;exact jh _)
  | exact Lx hi
  | exact PI hi
  | (obtain⟨h1,h2,h3⟩:=bI.1 hi;cases h3;exact jh _)
  | (obtain⟨h1,h2,h3⟩:=bI.1 hi;cases h3;exact aA _)
  | (obtain⟨h1,h2,h3⟩:=bI.1 hi;cases h3;first|exact TO h2|exact Jb h2)
  | exact HF hi
  | exact Jc hi
def gK (call:je):Prop:=∀(fv:Value) (vs:List Value) (h h':IH) (v:Value),call fv vs h=some (v,h')→h.n≤h'.n
variable {E:Env}{call:je}
def MO (hc:gK call) {o:Op} (hr:jn E call fr o h=some (v,h')):h.n≤h'.n:=by
 unfold jn at hr;split at hr
 ·split at hr
  ·split at hr
   ·exact hc _ _ _ _ _ hr
   ·cases hr
  ·exact VP hr
 ·exact VP hr
variable {nt:Nat}{fr':Fr}{o:Oper}
def CF (hc:gK call) {ops:List Oper} (hs:iC E call nt ops o fr h=some (fr',h')):h.n≤h'.n:=by
 unfold iC at hs;split at hs
 ·split at hs
  ·rename_i v h2 cH;obtain⟨a,_,e⟩:=bI.1 hs;cases e;exact MO hc cH
  ·cases hs
 ·obtain⟨a,_,e⟩:=bI.1 hs;cases e;exact aA _
 ·cases hs
def CS (hc:gK call) {ops:List Oper} : ∀(l:List Oper) (fr fr':Fr) (h h':IH),lC E call nt ops l fr h=some (fr',h')→h.n≤h'.n
 | [],fr,fr',h,h',hr=>by simp only[lC] at hr;cases hr;exact aA _
 | o :: l,fr,fr',h,h',hr=>by
  rw[lC] at hr;split at hr;·rename_i fr1 h1 hs;exact bV (CF hc hs) (CS hc l _ _ _ _ hr)
  ·cases hr
def Vh (P:Program) (fv:Value) (args:Array Value) (B:Nat) (w0:World) (m:Mp) (h:IH) (w:World) (v:Value) (h':IH):Prop :=
 ∃nx,(do let d ←Deferred.ofValue fv args;invoke d.target d.args:Sem Next).run P w=.ok nx w ∧
  ((∃v',nx=.value v'∧h'=h∧bz m v v' ∧ ∀a∈args.toList,∃k n,a=Value.int k n) ∨
  ∃fr0,((∃f as,nx=.enter f as∧fr0=Frame.enter P f as .normal)∨(∃l f ts a c,nx=.round l f ts a c∧fr0=Frame.round l f ts a c .normal)) ∧
   ∀(c:Frame) (cs:List Frame),∃v' m' w',bz m' v v'∧Rel B w0 m' h' w'∧Step m h w m' h' w'∧Steps P (lone fr0 (c :: cs) w) (lone (c.finish v') cs w'))
def oD (P:Program) (call:je):Prop :=
 ∀(fv:Value) (vs:List Value) (h h':IH) (v:Value),call fv vs h=some (v,h') → ∀(B:Nat) (w0:World) (m:Mp) (w:World) (fv':Value) (vs':Array Value),
  Rel B w0 m h w→bz m fv fv'→dv m vs vs'.toList→jE m h.n h'.n→Vh P fv' vs' B w0 m h w v h'
variable {c:Nat}{m:Mp}
def jE.sub {a d:Nat} (h:jE m a d) (h1:a≤b) (h2:c≤d):jE m b c:=fun k x y=>h k (bV h1 x) (cB y h2)
variable {m':Mp}{w:World}
def Step.fresh {w':World} (s:Step m h w m' h' w') (hf:jE m h.n c):jE m' h'.n c:=by
 intro k a b;have h1:=hf k (bV s.n a) b;apply di;intro hne;have hch:m' (2*k)≠m (2*k):=by rw[h1];exact hne
 obtain⟨k',e,_,c⟩:=s.new _ hch;omega
variable {tmps:Array Value}
def uY {dst:Option Tmp} {v':Value} (hp:ue nt fr dst v=some fr') (hf:gZ m fr tmps) (ht:nt≤tmps.size) (hv:bz m v v'):gZ m fr' (ru tmps dst v')∧nt≤(ru tmps dst v').size:=by
 unfold ue at hp;cases dst with
 | none=>cases hp;exact⟨hf,ht⟩
 | some d =>
  simp only[aX,qW] at hp;by_cases hd:d<nt
  ·rw[aq hd] at hp;cases hp;have hd2:d<tmps.size:=cB hd ht;refine⟨fun t x hx=>?_,by simpa [ru] using ht⟩;simp only[ax,aX,bT] at hx;by_cases e:d=t
   ·subst e;rw[aq rfl] at hx;cases hx;exact⟨v',by simp[ru,hd2],hv⟩
   ·rw[ah e] at hx;obtain⟨x',h1,h2⟩:=hf t x hx;exact⟨x',by simp[ru,e,h1],h2⟩
  ·rw[ah hd] at hp;cases hp
def gZ.mono (hm:m.le m') (h:gZ m fr tmps):gZ m' fr tmps:=fun t v hv=>let ⟨v',a,b⟩:=h t v hv;⟨v',a,b.mono hm⟩
variable {ops:Array Oper}
def sX (hf:gZ m fr tmps) {t:Bool} (hw:dW ops.toList o fr=some t):Region.wanted o (yielded ops tmps)=t:=by
 unfold dW at hw;unfold Region.wanted;cases hg:o.guard with
 | none=>simp only[hg] at hw ⊢;cases hw;rfl
 | some jw =>
  obtain⟨j,want⟩:=jw;simp only[hg] at hw ⊢;split at hw
  ·rename_i d hd;split at hw
   ·rename_i bb hb;cases hw;obtain⟨v',h1,h2⟩:=hf d _ hb;have e:=h2.gL rfl;subst e;have hd':(ops[j]?).bind (·.dst)=some d:=by simpa using hd
    simp only[yielded,hd',kD,h1];cases bb<;>cases want<;>rfl
   ·rename_i bb hb;cases hw;obtain⟨v',h1,h2⟩:=hf d _ hb;obtain⟨cs',rfl,_⟩:=h2.zM;have hd':(ops[j]?).bind (·.dst)=some d:=by simpa using hd
    simp only[yielded,hd',kD,h1];rfl
   ·cases hw
  ·cases hw
def CT {o:Op} (hr:jn E call fr o h=some (v,h')) : ∀c,o≠.defer c:=by intro c e;subst e;simp[jn,iop] at hr
variable {w0:World}{B:Nat}
def KR (jI:oD E.P call) {i:Nat} (ho:ops[i]?=some o)  (hw:dW ops.toList o fr=some true) (hr:jn E call fr o.op h=some (v,h'))(R:Rel B w0 m h w) (hf:gZ m fr tmps) (fh:jE m h.n h'.n) (b:Frame) (rest:List Nat) (k:List Item) (ds:List Deferred) (cs:List Frame) :∃v' m' w',Steps E.P (lone (on b tmps (.inRegion ops (i :: rest) :: k) ds) cs w) (lone (on b (ru tmps o.dst v') (.inRegion ops rest :: k) ds) cs w')∧bz m' v v'∧Rel B w0 m' h' w'∧Step m h w m' h' w':=by
 have hwr:=sX hf hw;have hnd:=CT hr;have hρ:=vE R hf
 have MX:iop E.P fr o.op h=some (v,h') → ∃v' m' w',Steps E.P (lone (on b tmps (.inRegion ops (i :: rest) :: k) ds) cs w) (lone (on b (ru tmps o.dst v') (.inRegion ops rest :: k) ds) cs w')∧bz m' v v'∧Rel B w0 m' h' w'∧Step m h w m' h' w':=by
  intro hi;obtain⟨nx,v',m',w',cH,hy,h1,h2,h3⟩:=Uy R E.P hρ o hi fh;refine⟨v',m',w',?_,h1,h2,h3⟩;rcases hy with rfl|⟨rfl,rfl⟩;·exact .one (uB ho hwr hnd cH)
  ·exact .one (Oy ho hwr hnd cH)
 unfold jn at hr;split at hr
 ·rename_i c hc
  split at hr
  ·rename_i f ZI
   split at hr
   ·rename_i fv vs hfv hvs
    have hL:=uL hρ _ _ hvs;obtain⟨nx,hinv,halt⟩:=jI fv vs h h' v hr B w0 m w (lh tmps f) (c.args.map (lh tmps)) R (hρ f fv hfv) (by simpa using hL) fh;have RO:(execOp (lh tmps) o).run E.P w=.ok nx w:=by rw[←hinv];obtain⟨dst,op,ty,pos,aft,gd⟩:=o;simp only at hc;subst hc;simp only[execOp,resolve,ZI,bJ]
    rcases halt with⟨v',rfl,rfl,h1,_⟩|⟨fr0,Xn,cH⟩;·exact⟨v',m,w,.one (uB ho hwr hnd RO),h1,R,Step.refl _ _ _⟩
    obtain⟨v',m',w',h1,h2,h3,h4⟩:=cH (on b tmps (.inRegion ops (i :: rest) :: k) ds) cs
    rw[vP ho] at h4;refine⟨v',m',w',?_,h1,h2,h3⟩;rcases Xn with⟨f',as,rfl,rfl⟩|⟨l,f',ts,a,c',rfl,rfl⟩
    ·exact .head (Qq ho hwr hnd RO) h4
    ·exact .head (Qn ho hwr hnd RO) h4
   ·cases hr
  ·rename_i ZI;rw[←hc] at hr;exact MX hr
 ·exact MX hr
def GP (jI:oD E.P call) (fG:gK call) (b:Frame) (k:List Item) (ds:List Deferred) (cs:List Frame) :∀(l:List Oper) (j:Nat) (fr:Fr) (h:IH) (fr':Fr) (h':IH) (m:Mp) (w:World) (tmps:Array Value),ops.toList.drop j=l→lC E call nt ops.toList l fr h=some (fr',h') → Rel B w0 m h w→gZ m fr tmps→nt≤tmps.size→jE m h.n h'.n → ∃m' w' cY,Steps E.P (lone (on b tmps (.inRegion ops (List.range' j l.length) :: k) ds) cs w) (lone (on b cY k ds) cs w')∧gZ m' fr' cY∧nt≤cY.size∧Rel B w0 m' h' w'∧Step m h w m' h' w'
 | [],j,fr,h,fr',h',m,w,tmps,hl,hr,R,hf,ht,fh=>by simp only[lC] at hr;cases hr;exact⟨m,w,tmps,.one rk,hf,ht,R,Step.refl _ _ _⟩
 | o :: l,j,fr,h,fr',h',m,w,tmps,hl,hr,R,hf,ht,fh=>by
  have ho:ops[j]?=some o:=by
   have:(ops.toList.drop j)[0]?=some o:=by rw[hl];rfl
   simpa using this
  have hl':ops.toList.drop (j+1)=l:=by rw[←Ci (i:=1) (j:=j),hl];rfl
  rw[lC] at hr;cases hs:iC E call nt ops.toList o fr h with
  | none=>simp[hs] at hr
  | some p =>
   obtain⟨fr1,h1⟩:=p;simp only[hs] at hr;unfold iC at hs;rw[nL,List.range'_succ];split at hs
   ·rename_i hw;split at hs
    ·rename_i v h2 cH;obtain⟨fr2,mY,he⟩:=bI.1 hs;cases he;have hn1:=MO fG cH;have hn2:=CS fG l _ _ _ _ hr;obtain⟨v',m1,w1,hS1,hv',R1,S1⟩:=KR jI ho hw cH R hf (fh.sub (aA _) hn2) b (List.range' (j+1) l.length) k ds cs;obtain⟨hf2,ht2⟩:=uY mY (hf.mono S1.le) ht hv';obtain⟨m',w',cY,hS,a,b',c,d⟩:=GP jI fG b k ds cs l (j+1) _ _ fr' h' m1 w1 _ hl' hr R1 hf2 ht2 ((S1.fresh fh));exact⟨m',w',cY,hS1.trans hS,a,b',c,S1.trans d⟩
    ·cases hs
   ·rename_i hw;obtain⟨fr2,mY,he⟩:=bI.1 hs;cases he;obtain⟨hf2,ht2⟩:=uY mY hf ht (bz.undef m);obtain⟨m',w',cY,hS,a,b',c,d⟩:=GP jI fG b k ds cs l (j+1) _ _ fr' h' m w _ hl' hr R hf2 ht2 fh;exact⟨m',w',cY,.head (Qo ho (sX hf hw)) hS,a,b',c,d⟩
   ·cases hs
end
end Go.Id

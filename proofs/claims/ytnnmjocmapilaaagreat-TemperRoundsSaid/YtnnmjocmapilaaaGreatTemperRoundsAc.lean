/-
  The ideal machine: append and copy.
-/
import Derived.Test.YtnnmjocmapilaaaGreatTemperRoundsAb
import Derived.Laws.Tables
import Derived.Laws.BitsLemmas
set_option linter.unusedVariables false
set_option linter.unusedSimpArgs false
set_option linter.defProp false
set_option linter.deprecated false
namespace Go.Id
open Go Go.RowKit
section
variable {h:IH}{w':World}{m:Mp}{w w0:World}{B:Nat}
def Rel.congr (R:Rel B w0 m h w) (hh:w'.heap=w.heap) (hb:Below B w0 w'):Rel B w0 m h w' :=
 ⟨hb,by rw[hh];exact R.size,fun b cs hx=>let ⟨r0,s0,m0,a,c,el,fz,d,e⟩:=R.base b cs hx;⟨r0,s0,m0,a,c,el,fz,by rw[hh];exact d,e⟩,R.odd,fun k r s hk=>by rw[hh];exact R.even k r s hk,R.dom,
  fun k o r s a b=>(R.obj k o r s a b).mono (Mp.le_refl m) (by rw[hh]) rfl,R.own,R.iJ,R.fam,R.long,R.whole⟩
variable {h':IH}
def Step.congr {m':Mp} {w1:World} (S:Step m h w1 m' h' w') (hh:w1.heap=w.heap):Step m h w m' h' w' :=
 ⟨S.le,S.new,S.n,S.base,fun r hr hk=>by rw[S.frame r (by rw[hh];exact hr) hk,hh],S.idle,by rw[←hh];exact S.size,fun k r s a b c=>by rw[←hh];exact S.img k r s a b c,S.rS⟩
def oi (h:Below B w0 w) (d:Nat):Below B w0 { w with drawn:=d }:=⟨h.os,h.tape,h.output,h.size,h.block⟩
variable {v':Value}
def bz.iS {b o len k:Nat} (h:bz m (.slice (some ⟨b,o,none⟩) len k) v') :(∃r s cap,m b=some (r,s)∧0<k∧len≤k / 2∧k / 2≤cap∧(k % 2=1→cap=k / 2)∧(k % 2=0→s+o+cap*(m.ez b).1≤(m.ez b).2)∧v'=.slice (some ⟨r,s+o,none⟩) len cap)∨(len=0∧k=0 ∧ ∃a cap,v'=.slice (some a) 0 cap):=by
 cases h with
 | dN h=>simp[Id.dN] at h
 | slice hm a b c d e=>exact .inl ⟨_,_,_,hm,a,b,c,d,e,rfl⟩
 | lost=>exact .inr ⟨rfl,rfl,_,_,rfl⟩
variable {n:Nat}
def bz.qO {c:Nat} (h:bz m (.slice none n c) v'):n=0∧c=0∧v'=.slice none 0 0:=by
 cases h with
 | dN h=>simp[Id.dN] at h;obtain⟨rfl,rfl⟩:=h;exact⟨rfl,rfl,rfl⟩
variable {x x':Value}
def z9 (h:bz m x x') (hn:Id.lenOf x=some n) : ∃a c,x'=.slice a n c:=by
 cases h with
 | dN h =>
  unfold Id.lenOf at hn
  split at hn;·cases hn;exact⟨_,_,rfl⟩
  ·cases hn
 | tok=>simp only[Id.lenOf] at hn;cases hn;exact⟨_,_,rfl⟩
 | slice=>simp only[Id.lenOf] at hn;cases hn;exact⟨_,_,rfl⟩
 | lost=>simp only[Id.lenOf] at hn;cases hn;exact⟨_,_,rfl⟩
 | _=>simp[Id.lenOf] at hn
theorem JU {w w2:World} (hh:w2.heap=w.heap) (a:Addr):w2.cell? a=w.cell? a:=by unfold World.cell?;rw[hh]
theorem Rel.first (R:Rel B w0 m h w) (P:Program) {size:Nat} {cs:List Value} (hx:bz m x x') (hf:fe h size n x=some cs) :∃cs',(∀w2:World,w2.heap=w.heap→(Builtin.firstCells size n x').run P w2=.ok cs'.toArray w2)∧dv m cs cs'∧(x=.slice none 0 0∨cs.length=n*size):=by
 unfold fe at hf;split at hf;·cases hf;obtain⟨rfl,rfl,rfl⟩:=hx.qO;exact⟨[],fun _ _=>rfl,.nil m,.inl rfl⟩
 ·rename_i b o len k;simp only[aX,ch,bT] at hf;by_cases hn:n≤len
  ·rw[aq hn] at hf;by_cases h0:n*size=0
   ·rw[aq h0] at hf;cases hf;refine⟨[],fun w2 _=>?_,.nil m,.inr (by simp[h0])⟩;rcases hx.iS with⟨r,s,cap,_,_,_,_,_,_,rfl⟩|⟨_,_,a,cap,rfl⟩
    ·simp only[Builtin.firstCells,h0];rfl
    ·simp only[Builtin.firstCells,h0];rfl
   ·rw[ah h0] at hf;rcases hx.iS with⟨r,s,cap,hm,_,_,_,_,_,rfl⟩|⟨hl,_,_⟩
    ·obtain⟨cs',hL,hlen,hc⟩:=R.rd hf hm;refine⟨cs',fun w2 hh=>?_,hL,.inr hlen⟩;show(loadCells ⟨r,s+o,none⟩ (n*size)).run P w2=_;rw[show n*size=cs'.length from by rw[←hlen];exact hL.1];exact run_loadCells_list w2 _ cs' (fun j v hv=>by rw[JU hh];exact hc j v hv)
    ·exfalso;apply h0;rw[show n=0 by omega];simp
  ·simp[hn] at hf
 ·cases hf
def Fz (Df:Nat) : ∀(rounds c:Nat),Builtin.growBy Df rounds c≤max c (Df+(Df+768) / 4)
 | 0,c=>by simp only[Builtin.growBy];omega
 | rounds+1,c=>by
  rw[Builtin.growBy];by_cases h:c ≥ Df;·rw[aq h];omega
  ·rw[ah h]
   have:=Fz Df rounds (c+(c+768) / 4);omega
def nextslicecap_le (Uj old:Nat) (h:old<Uj):Builtin.nextslicecap Uj old≤2*Uj+1024:=by
 unfold Builtin.nextslicecap;split;·omega
 ·split
  ·omega
  ·have:=Fz Uj 4 old;omega
def qf (P:Program) (w:World) (ts:Array TypeId) (ty:TypeId) (st xt elem xe:TypeId) (a x':Value) (size bytes:Nat) (z:Value) (base:Option Addr) (len cap n:Nat) (old new:List Value)(h0:ts[0]?=some st) (h1:ts[1]?=some xt) (hst:P.underlying st=some (.slice elem)) (hxt:P.underlying xt=some (.slice xe)) (hsz:bK P elem=some size) (hby:oh P elem=some bytes) (hz:tS P elem=some z)(ha:a=.slice base len cap) (hn : ∃xa xc,x'=.slice xa n xc) (VU:cap<len+n) (hb:bytes≤65536) (nz:(len+n)*(bytes+1)≤bZ)(Zp : ∀d,(Builtin.firstCells size len a).run P { w with drawn:=d }=.ok old.toArray { w with drawn:=d }) (Bv : ∀d,(Builtin.firstCells size n x').run P { w with drawn:=d }=.ok new.toArray { w with drawn:=d }) :∃d mh rest,(Builtin.append_ ts ty #[a,x']).run P w=.ok (.slice (some ⟨w.heap.size,0,none⟩) (len+n) mh) ((({ w with drawn:=d }:World)).alloc (.cells ((old ++ new) ++ rest).toArray elem))∧len+n≤mh∧rest.length=(mh - (len+n))*z.cells.size:=by
 obtain⟨xa,xc,rfl⟩:=hn;subst ha;unfold oh at hby;obtain⟨i,hi,hib⟩:=bI.1 hby;have tG : ¬(len+n≤cap):=aa;have hN:=nextslicecap_le (len+n) cap aa;have RK : ¬(Builtin.nextslicecap (len+n) cap*bytes > 2 ^ 48):=by
  have h2:Builtin.nextslicecap (len+n) cap*bytes≤(2*(len+n)+1024)*bytes:=dU _ hN;have h3:(2*(len+n)+1024)*bytes=2*((len+n)*bytes)+1024*bytes:=by rw[dA,w9]
  have h4:(len+n)*(bytes+1)=(len+n)*bytes+(len+n):=by rw[sH,fI]
  unfold bZ at nz;omega
 have Xm : ¬((len+n:Nat):Int) > IntKind.i64.max:=by have:len+n≤(len+n)*(bytes+1):=Ke _ aa;unfold bZ at nz;have e:IntKind.i64.max=9223372036854775807:=aC;rw[e];omega
 let q:=Question.appendCap (len+n) cap elem;have Xp:len+n≤q.cut (w.tape w.drawn q):=Nat.le_add_right _ _;refine⟨w.drawn+1,q.cut (w.tape w.drawn q),(Builtin.zeroCells z.cells (q.cut (w.tape w.drawn q) - (len+n))).toList,?_,Xp,by simp[Builtin.zeroCells]⟩;have e0:(#[Value.slice base len cap,Value.slice xa n xc]:Array Value)[0]?=some (.slice base len cap):=rfl;have e1:(#[Value.slice base len cap,Value.slice xa n xc]:Array Value)[1]?=some (.slice xa n xc):=rfl;simp only[Builtin.append_,h0,h1,e0,e1,bJ,cG hst,bW,dO w hsz,cG hxt,ck,Builtin.lenOf,fJ,cE,tG,Bool.not_false,cq,false_or,Sem.run_ite,run_typeInfo w hi,hib];rw[ah (by intro h;exact Xm h.1)];rw[ah RK];simp only[bW,run_choose,Question.forced,fJ,cE,run_askRoom,run_typeInfo _ hi,Zp,Bv,hP _ hz,Go.newRow,bJ,l8,ck];have XC : ∀Z:Array Value,old.toArray ++ new.toArray ++ Z=((old ++ new) ++ Z.toList).toArray:=fun Z=>by rw[←uk];simp
 rw[XC];rfl
def oq (P:Program) (w w':World) (ts:Array TypeId) (ty:TypeId) (st xt elem xe:TypeId) (x':Value) (size n len cap:Nat) (base:Option Addr) (new:List Value)(h0:ts[0]?=some st) (h1:ts[1]?=some xt) (hst:P.underlying st=some (.slice elem)) (hxt:P.underlying xt=some (.slice xe)) (hsz:bK P elem=some size)(hn : ∃xa xc,x'=.slice xa n xc) (VU:len+n≤cap) (Bv:(Builtin.firstCells size n x').run P w=.ok new.toArray w)(hst' : ∀a,base=some a→(storeCells (a.add (len*size)) new).run P w=.ok () w') (Zr:base=none→w'=w) :(Builtin.append_ ts ty #[.slice base len cap,x']).run P w=.ok (.slice base (len+n) cap) w':=by
 obtain⟨xa,xc,rfl⟩:=hn;have e0:(#[Value.slice base len cap,Value.slice xa n xc]:Array Value)[0]?=some (.slice base len cap):=rfl;have e1:(#[Value.slice base len cap,Value.slice xa n xc]:Array Value)[1]?=some (.slice xa n xc):=rfl;simp only[Builtin.append_,h0,h1,e0,e1,bJ,cG hst,bW,dO w hsz,cG hxt,ck,Builtin.lenOf,fJ,cE,VU,Bool.not_false,cq,Bv];cases base with
 | none=>rw[Zr rfl];rfl
 | some a=>simp[hst' a rfl]
def uA (k:Nat) : ∀(l:List Nat),k∈l→l=l.takeWhile (· != k) ++ k :: (l.dropWhile (· != k)).drop 1
 | [],h=>by cases h
 | a :: l,h=>by
  by_cases e:a=k;·subst e;simp
  ·have h':k∈l:=by
    rcases dV.1 h with h|h;·exact absurd h.symm e
    ·exact h
   have:=uA k l h';simp only[Kf,List.dropWhile_cons,mL,ne_eq,e,BV,cq,List.cons_append];rw[←this]
variable {v:Value}{ts:Array TypeId}{ty:TypeId}
def Rel.append (R:Rel B w0 m h w) (P:Program) {st xt xe:TypeId} {s s':Value}(h0:ts[0]?=some st) (h1:ts[1]?=some xt) (hxt:P.underlying xt=some (.slice xe)) (ha:append P h st s x=some (v,h')) (hs:bz m s s') (hx:bz m x x') (fh:jE m h.n h'.n) :∃v' m' w',(Builtin.append_ ts ty #[s',x']).run P w=.ok v' w'∧bz m' v v'∧Rel B w0 m' h' w'∧Step m h w m' h' w':=by
 unfold Id.append at ha;cases hst:P.underlying st with
 | none=>simp[hst] at ha
 | some d =>
  rw[hst] at ha;cases d with
  | slice elem =>
   cases hsz:bK P elem with
   | none=>simp[hsz] at ha
   | some size =>
   cases hby:oh P elem with
   | none=>simp[hsz,hby] at ha
   | some bytes =>
   cases hz:bC P elem with
   | none=>simp[hsz,hby,hz] at ha
   | some zs =>
   cases hn:Id.lenOf x with
   | none=>simp[hsz,hby,hz,hn] at ha
   | some n =>
   obtain⟨z,hz0,_,hzs⟩:=fT hz;obtain⟨xa,xc,hx'⟩:=z9 hx hn;simp only[hsz,hby,hz,hn,aX,bT] at ha;by_cases hn0:n=0
   ·-- nothing is Zaq
    subst hn0;rw[aq rfl] at ha;have hf0:(Builtin.firstCells size 0 x').run P w=.ok ([]:List Value).toArray w:=by
     subst hx';cases xa with
     | none=>rfl
     | some a=>show(loadCells a (0*size)).run P w=_;rw[kf];rfl
    split at ha
    ·rename_i a c;by_cases hac:(a == 0 && c == 0)=true
     ·rw[aq hac] at ha;cases ha;obtain⟨rfl,rfl,rfl⟩:=hs.qO;refine⟨_,m,w,oq P w w ts ty st xt elem xe x' size 0 0 0 none [] h0 h1 hst hxt hsz ⟨_,_,hx'⟩ aa hf0 ab (fun _=>rfl),hs,R,Step.refl _ _ _⟩
     ·rw[ah hac] at ha;cases ha
    ·rename_i b o len k;cases ha
     have hlc : ∃a Uv cap,s'=.slice (some a) Uv cap∧Uv≤cap:=by
      rcases hs.iS with⟨r,q,cap,_,_,h2,h3,_,_,rfl⟩|⟨rfl,rfl,a,cap,rfl⟩;·exact⟨_,_,_,rfl,bV h2 h3⟩
      ·exact⟨_,_,_,rfl,dQ _⟩
     obtain⟨a,Uv,cap,rfl,hle⟩:=hlc;exact⟨_,m,w,oq P w w ts ty st xt elem xe x' size 0 Uv cap (some a) [] h0 h1 hst hxt hsz ⟨_,_,hx'⟩ aa hf0 (by intro a' _;rfl) ab,hs,R,Step.refl _ _ _⟩
    ·cases ha
   ·rw[ah hn0] at ha;by_cases hsb:(size == 0 || (!(Nat.ble bytes 65536) || !(zs.length == size)))=true
    ·rw[aq hsb] at ha;cases ha
    ·rw[ah hsb] at ha;simp only[nM,bT,Gy,not_or,Bool.not_eq_false,zu,ne_eq,Decidable.not_not] at hsb;obtain⟨VR,LV,Y8⟩:=hsb;have LV:bytes≤65536:=Kd LV;have hzc:z.cells.size=size:=by rw[←Y8,hzs];simp
     cases hfi:fe h size n x with
     | none=>simp[hfi] at ha
     | some new =>
     simp only[hfi] at ha;by_cases ft:(!(new.all bB))=true;·rw[aq ft] at ha;cases ha
     rw[ah ft] at ha
     have hok : ∀c∈new,bB c=true:=by simpa using ft
     have Za:x≠.slice none 0 0:=by intro e;subst e;simp only[Id.lenOf] at hn;cases hn;exact hn0 rfl
     obtain⟨kj,yU,qR,vO⟩:=R.first P hx hfi;have vO:new.length=n*size:=vO.resolve_left Za;have Ny : ∀d,Rel B w0 m h { w with drawn:=d }:=fun d=>R.congr rfl (oi R.below d);split at ha
     ·-- onto nil
      rename_i a c
      by_cases hc:(a == 0 && c == 0 && Nat.ble (n*(bytes+1)) bZ)=true
      ·rw[aq hc] at ha;cases ha;simp only[fK,bT,ch] at hc;obtain⟨rfl,rfl,rfl⟩:=hs.qO;obtain⟨d,mh,rest,cH,tG,qo⟩:=qf P w ts ty st xt elem xe (.slice none 0 0) x' size bytes z none 0 0 n [] kj h0 h1 hst hxt hsz hby hz0 rfl ⟨_,_,hx'⟩ aa LV
        (by rw[fy];exact hc.2) (fun d=>rfl) (fun d=>yU _ rfl)
       rw[fy] at cH tG qo;simp only[kG] at cH;have hm0:m (2*h.n)=none:=fh h.n (aA _) (lj _);obtain⟨R1,S1⟩:=(Ny d).new (.cells new size none) (.cells (kj ++ rest).toArray elem) (size,(kj ++ rest).length) hm0
        ⟨(kj ++ rest).toArray,elem,by rw[heap_alloc,aq rfl],⟨by simp[qR.1],fun i v hi=>by
         obtain⟨v',a,b⟩:=qR.get hi
         refine⟨v',?_,b⟩
         have hi':i<kj.length:=by
          rcases dr i kj.length with h|h
          ·exact h
          ·rw[cy h] at a;cases a
         simp only[Cg,fy];rw[ef hi'];exact a⟩,rfl,ab⟩ rfl
       refine⟨_,_,_,cH,?_,R1,S1.congr rfl⟩;have hp:0<n:=pY hn0;have:=bz.slice (m:=m.upd (2*h.n) (w.heap.size,0) (size,(kj ++ rest).length)) (b:=2*h.n) (o:=0) (r:=w.heap.size) (s:=0) (len:=n) (k:=2*n) (cap:=mh) (Mp.cw _ _ _ _) aa aa aa aa (by intro _;rw[Mp.pK];simp only[dG,qo,hzc,←qR.1,vO];rw[←dA];simp only[fy,gN];exact dU _ aa);exact this
      ·rw[ah hc] at ha;cases ha
     ·rename_i b o len k
      by_cases nz:(!(Nat.ble ((len+n)*(bytes+1)) bZ))=true;·rw[aq nz] at ha;cases ha
      ·rw[ah nz] at ha;have RI:(len+n)*(bytes+1)≤bZ:=by simp only[Gy,Bool.not_eq_false] at nz;exact Kd nz
       by_cases hin:Nat.ble (len+n) (k / 2)=true
       ·-- there is room for sure
        rw[aq hin] at ha;have Zx:=Kd hin;obtain⟨h1w,hw1,hv1⟩:=bI.1 ha;cases hv1;rcases hs.iS with⟨r,q,cap,hmb,hk0,hl,hkc,hx1,hz1,rfl⟩|⟨_,hk,_⟩
        ·obtain⟨w',hr1,R1,S1⟩:=R.wr hw1 hmb qR hok P;refine⟨_,m,w',oq P w w' ts ty st xt elem xe x' size n len cap _ kj h0 h1 hst hxt hsz ⟨_,_,hx'⟩ aa (yU w rfl) (fun a e=>?_) ab,?_,R1,S1⟩
         ·cases e;rw[oS,ma];exact hr1
         ·exact .slice hmb hk0 Zx hkc hx1 hz1
        ·omega
       ·rw[ah hin] at ha;have Zx : ¬len+n≤k / 2:=fun e=>hin (by simpa using e);by_cases uc:k % 2=1
        ·-- there is none for sure
         rw[aq uc] at ha;cases hfo:fe h size len (.slice (some ⟨b,o,none⟩) len k) with
         | none=>simp[hfo] at ha
         | some old =>
          simp only[hfo] at ha;cases ha;obtain⟨uN,Hn,Du,Ho⟩:=R.first P hs hfo
          have Ho:old.length=len*size:=Ho.resolve_left ab
          have wM : ∃base cap,s'=.slice base len cap∧cap<len+n:=by
           rcases hs.iS with⟨r,q,cap,_,_,_,_,hx1,_,rfl⟩|⟨_,hk,_⟩
           ·exact⟨_,cap,rfl,by have:=hx1 uc;omega⟩
           ·omega
          obtain⟨base,cap,rfl,hcl⟩:=wM;obtain⟨d,mh,rest,cH,tG,qo⟩:=qf P w ts ty st xt elem xe _ x' size bytes z base len cap n uN kj h0 h1 hst hxt hsz hby hz0 rfl ⟨_,_,hx'⟩ hcl LV RI (fun d=>Hn _ rfl) (fun d=>yU _ rfl);have hm0:m (2*h.n)=none:=fh h.n (aA _) (lj _);have hon:=Du.append qR;obtain⟨R1,S1⟩:=(Ny d).new (.cells (old ++ new) size none) (.cells (uN ++ kj ++ rest).toArray elem) (size,(uN ++ kj ++ rest).length) hm0 ⟨(uN ++ kj ++ rest).toArray,elem,by rw[heap_alloc,aq rfl],⟨by simp[Du.1,qR.1],fun i v hi=>by
            obtain⟨v',a,b⟩:=hon.get hi
            refine⟨v',?_,b⟩
            have hi':i<(uN ++ kj).length:=by
             rcases dr i (uN ++ kj).length with h|h
             ·exact h
             ·rw[cy h] at a;cases a
            simp only[Cg,fy];rw[ef hi'];exact a⟩,rfl,ab⟩ rfl
          refine⟨_,_,_,cH,?_,R1,S1.congr rfl⟩;have:=bz.slice (m:=m.upd (2*h.n) (w.heap.size,0) (size,(uN ++ kj ++ rest).length)) (b:=2*h.n) (o:=0) (r:=w.heap.size) (s:=0) (len:=len+n) (k:=2*(len+n)) (cap:=mh) (Mp.cw _ _ _ _) aa aa aa aa (by intro _;rw[Mp.pK];simp only[dG,qo,hzc,←Du.1,Ho,←qR.1,vO];rw[←dA,←dA];simp only[fy,gN];exact dU _ aa);exact this
        ·rw[ah uc] at ha;by_cases ud:(len == k / 2 && Nat.blt 0 len && b % 2 == 0)=true
         ·rw[aq ud] at ha;simp only[fK,bT,qW] at ud;obtain⟨⟨hlk,hl0⟩,hb2⟩:=ud;cases hg:h.ext.get (b / 2) with
          | none=>simp[hg] at ha
          | some ob =>
           rw[hg] at ha;cases ob with
           | map es=>simp at ha
           | loop l=>simp at ha
           | iter _ _ _ _=>simp at ha
           | num _=>simp at ha
           | dead=>simp at ha
           | cells cs t fam =>
            simp only at ha;by_cases hce:(o+len*size == cs.length && t == size)=true
            ·rw[aq hce] at ha;simp only[fK,bT] at hce;obtain⟨hce,rfl⟩:=hce;have hb':2*(b / 2)=b:=aa;have hm0:m (2*h.n)=none:=fh h.n (aA _) (by
              cases fam with
              | none=>simp only[sE,BZ] at ha;rw[←ha.2];exact lj _
              | some f=>cases hf:h.eP.get f with
               | none=>simp[hf] at ha
               | some stk=>simp only[hf,sE,BZ] at ha;rw[←ha.2];exact lj _)
             have Zz : ∃f fg below,v=.slice (some ⟨2*h.n,0,none⟩) (len+n) (2*(len+n))∧h'=grown h (b / 2) f cs t fg below (cs.drop o ++ new) t ∧
               Wl h (b / 2) f fg below fam:=by
              cases fam with
              | none=>simp only[sE,BZ] at ha;exact⟨h.n,[],[],ha.1.symm,ha.2.symm,rfl,rfl,rfl⟩
              | some f=>cases hf:h.eP.get f with
               | none=>simp[hf] at ha
               | some stk =>
                simp only[hf,sE,BZ] at ha;obtain⟨st2,Zj,LN⟩:=R.fam (b / 2) cs t f hg;rw[hf] at Zj;cases Zj;exact⟨f,_,_,ha.1.symm,ha.2.symm,rfl,stk,hf,uA _ _ LN⟩
             obtain⟨f,fg,below,rfl,rfl,Bw⟩:=Zz;rcases hs.iS with⟨r,q,cap,hmb,hk0,hl,hkc,hx1,hz1,rfl⟩|⟨_,hk,_⟩
             ·have UC:m (2*(b / 2))=some (r,q):=by rw[hb'];exact hmb
              obtain⟨c,el,hc,gO,he1,he2⟩:=R.obj (b / 2) _ r q hg UC;rw[hb'] at he1 he2;have Fy:=hz1 aa;rw[he1] at Fy;have hr1:=gO.1
              have hdl:(cs.drop o).length=len*t:=aT
              by_cases xP:len+n≤cap
              ·-- in place
               have hmul:(len+n)*t≤cap*t:=dU _ xP;rw[dA] at hmul;have Xd : ∀x∈kj,bB x=true:=by intro x hx;obtain⟨i,hi,e⟩:=List.getElem_of_mem hx;have hi':i<new.length:=qR.1▸hi;exact FZ (qR.2 i new[i] x (aK hi') (by rw[aK hi,e])) (hok _ (mO hi'))
               have RL:kj.length=n*t:=by rw[←qR.1,vO]
               have Zh:=qe P r (q+o+len*t) el kj 0 w c hc aa Xd
               have hne:kj ≠ []:=by
                intro e;have:n*t=0:=by rw[←RL,e];rfl
                rcases Nat.mul_eq_zero.1 this with e|e
                ·exact hn0 e
                ·exact VR e
               rw[ah hne,gN] at Zh;have hrw:=gO.1;have hrs:=R.even (b / 2) r q UC;have mY:(World.put w r (.cells (lf c (q+o+len*t) kj) el)).heap[r]?=some (.cells (lf c (q+o+len*t) kj) el):=by rw[oN,aq ⟨rfl,hrs.2⟩]
               have hpn : ∀p,p≠r→(World.put w r (.cells (lf c (q+o+len*t) kj) el)).heap[p]?=w.heap[p]?:=fun p hp=>by rw[oN,ah (fun e=>hp e.1)]
               obtain⟨R1,S1⟩:=R.grow hg UC hm0 f fg below Bw (cs.drop o ++ new) t r (q+o) (t,(m.ez b).2) (World.put w r (.cells (lf c (q+o+len*t) kj) el)) (vV R.below hrs.1 _) (by rw[mV];exact aA _) ⟨hrs.1,by rw[mV];exact hrs.2⟩ ⟨_,el,mY,⟨by rw[dG,hdl,me];omega,fun i x hi=>by
                 rw[rY kj c _ _ aa];by_cases h2:i<(cs.drop o).length;·rw[ef h2,kh] at hi;rw[ah aa];have:=gO.2 _ _ hi;rw[←ma] at this;exact this
                 ·rw[gI aa] at hi
                  obtain⟨x',a1,a2⟩:=qR.get hi
                  have hlt:i - (cs.drop o).length<kj.length:=by
                   rcases dr (i - (cs.drop o).length) kj.length with e|e
                   ·exact e
                   ·rw[cy e] at a1;cases a1
                  rw[aq aa];refine⟨x',?_,a2⟩;rw[show q+o+i - (q+o+len*t)=i - (cs.drop o).length from by omega];exact a1⟩,rfl,by rw[me];exact he2⟩
                (.inr ⟨rfl,by rw[dG,hdl];omega,fun p hp hpr=>hpn p hpr,fun c2 el2 hc2=>by
                 rw[hc] at hc2;cases hc2;exact⟨_,mY,by rw[me];exact aA _,fun i hi=>by rw[rY kj c _ _ aa,ah aa]⟩⟩)
               refine⟨_,_,_,oq P w _ ts ty st xt elem xe x' t n len cap _ kj h0 h1 hst hxt hsz ⟨_,_,hx'⟩ xP (yU w rfl) (fun a e=>?_) ab,?_,R1,S1⟩
               ·cases e;rw[oS];exact Zh
               ·have:=bz.slice (m:=m.upd (2*h.n) (r,q+o) (t,(m.ez b).2)) (b:=2*h.n) (o:=0) (r:=r) (s:=q+o) (len:=len+n) (k:=2*(len+n)) (cap:=cap) (Mp.cw _ _ _ _) aa aa aa aa
                 (by intro _;rw[Mp.pK];simp only[gN];exact Fy)
                rw[gN] at this;exact this
              ·-- in new memory
               have hfo:fe h t len (.slice (some ⟨b,o,none⟩) len k)=some (cs.drop o):=by
                unfold fe
                have hb0 : ¬b % 2=1:=aa
                have h00 : ¬len*t=0:=by
                 intro e;rcases Nat.mul_eq_zero.1 e with e|e
                 ·omega
                 ·exact VR e
                simp only[aX,ch,aA,cq,bT,h00,cE,IH.rd,IH.row,hb0,hg];rw[aq aa,fB aa]
               obtain⟨uN,Hn,Du,_⟩:=R.first P hs hfo;obtain⟨d,mh,rest,cH,tG,qo⟩:=qf P w ts ty st xt elem xe _ x' t bytes z _ len cap n uN kj h0 h1 hst hxt hsz hby hz0 rfl ⟨_,_,hx'⟩ aa LV RI (fun d=>Hn _ rfl) (fun d=>yU _ rfl);have hon:=Du.append qR;have Zg:(({ w with drawn:=d }:World).alloc (.cells (uN ++ kj ++ rest).toArray elem)).heap.size=w.heap.size+1:=size_alloc _ _;have hat:(({ w with drawn:=d }:World).alloc (.cells (uN ++ kj ++ rest).toArray elem)).heap[w.heap.size]?=some (.cells (uN ++ kj ++ rest).toArray elem):=by rw[heap_alloc];exact aq rfl
               obtain⟨R1,S1⟩:=R.grow hg UC hm0 f fg below Bw (cs.drop o ++ new) t w.heap.size 0 (t,(uN ++ kj ++ rest).length) (({ w with drawn:=d }:World).alloc (.cells (uN ++ kj ++ rest).toArray elem)) (qT (oi R.below d) R.size _) (by rw[Zg];omega) ⟨R.size,by rw[Zg];omega⟩ ⟨_,elem,hat,⟨by simp only[dG,fy,←Du.1,←qR.1,List.size_toArray];omega,fun i x hi=>by
                 obtain⟨x',a1,a2⟩:=hon.get hi
                 refine⟨x',?_,a2⟩
                 have hi':i<(uN ++ kj).length:=by
                  rcases dr i (uN ++ kj).length with h|h
                  ·exact h
                  ·rw[cy h] at a1;cases a1
                 simp only[Cg,fy];rw[ef hi'];exact a1⟩,rfl,ab⟩
                (.inl ⟨aA _,fun p hp=>by rw[heap_alloc];exact ah (Nat.ne_of_lt hp)⟩)
               refine⟨_,_,_,cH,?_,R1,S1⟩;have:=bz.slice (m:=m.upd (2*h.n) (w.heap.size,0) (t,(uN ++ kj ++ rest).length)) (b:=2*h.n) (o:=0) (r:=w.heap.size) (s:=0) (len:=len+n) (k:=2*(len+n)) (cap:=mh) (Mp.cw _ _ _ _) aa aa aa aa
                (by intro _;rw[Mp.pK];simp only[dG,qo,hzc,←Du.1,hdl,←qR.1,vO];rw[←dA,←dA];simp only[fy,gN];exact dU _ aa)
               exact this
             ·omega
            ·rw[ah hce] at ha;cases ha
         ·rw[ah ud] at ha;cases ha
     ·cases ha
  | _=>simp at ha
def Rel.copy (R:Rel B w0 m h w) (P:Program) {dt:TypeId} {d d':Value}(h0:ts[0]?=some dt) (hc:xV P h dt d x=some (v,h')) (hd:bz m d d') (hx:bz m x x') :∃w',(Builtin.copy_ ts ty #[d',x']).run P w=.ok v w'∧bz m v v∧Rel B w0 m h' w'∧Step m h w m h' w':=by
 unfold xV at hc;cases hdt:P.underlying dt with
 | none=>simp[hdt] at hc
 | some td =>
  rw[hdt] at hc;cases td with
  | slice e =>
   cases hdn:Id.lenOf d with
   | none=>simp[hdn] at hc
   | some dn =>
   cases hsn:Id.lenOf x with
   | none=>simp[hdn,hsn] at hc
   | some sn =>
   cases hsz:bK P e with
   | none=>simp[hdn,hsn,hsz] at hc
   | some size =>
   simp only[hdn,hsn,hsz] at hc;cases hfi:fe h size (Nat.min sn dn) x with
   | none=>simp[hfi] at hc
   | some cs =>
   simp only[hfi,aX] at hc;obtain⟨xa,xc,rfl⟩:=z9 hx hsn;obtain⟨cs',cH,hL,_⟩:=R.first P hx hfi;have hlen:(Builtin.lenOf (.slice xa sn xc)).run P w=.ok sn w:=rfl;have e0 : ∀y:Value,(#[y,Value.slice xa sn xc]:Array Value)[0]?=some y:=fun _=>rfl;have e1 : ∀y:Value,(#[y,Value.slice xa sn xc]:Array Value)[1]?=some (.slice xa sn xc):=fun _=>rfl;split at hc;·rename_i a b;cases hc;obtain⟨rfl,rfl,rfl⟩:=hd.qO;simp only[Id.lenOf] at hdn;cases hdn;refine⟨w,?_,.dN rfl,R,Step.refl _ _ _⟩;have Hp:Nat.min sn 0=0:=Nat.min_zero sn;simp only[Hp] at cH ⊢;simp only[Builtin.copy_,h0,e0,e1,bJ,cG hdt,bW,hlen,dO w hsz,Hp,cH w rfl,ck];rfl
   ·rename_i b o dl dk;simp only[Id.lenOf] at hdn;cases hdn
    have hdv : ∃r q cap a,d'=.slice (some a) dn cap∧(0<dk→m b=some (r,q)∧a=⟨r,q+o,none⟩)∧(dk=0→dn=0):=by
     rcases hd.iS with⟨r,q,cap,hm,h1,_,_,_,_,rfl⟩|⟨hl,hk,a,cap,rfl⟩;·exact⟨r,q,cap,_,rfl,fun _=>⟨hm,rfl⟩,fun e=>aa⟩
     ·subst hl;exact⟨0,0,cap,a,rfl,fun e=>aa,fun _=>rfl⟩
    obtain⟨r,q,cap,a,rfl,v9,hzero⟩:=hdv;by_cases UF:cs.isEmpty=true
    ·rw[aq UF] at hc;cases hc;have hcs:cs = []:=by simpa using UF
     subst hcs;have hcs':cs' = []:=by have:=hL.1;simpa using this.symm
     subst hcs';refine⟨w,?_,.dN rfl,R,Step.refl _ _ _⟩;simp only[Builtin.copy_,h0,e0,e1,bJ,cG hdt,bW,hlen,dO w hsz,cH w rfl,ck];rfl
    ·rw[ah UF] at hc;by_cases ft:(!(cs.all bB))=true
     ·rw[aq ft] at hc;cases hc
     rw[ah ft] at hc;obtain⟨h1w,hw1,hv1⟩:=bI.1 hc;cases hv1;have hk:0<dk:=by
      rcases im dk with e|e
      ·have:=hzero e;subst this;exfalso;apply UF;have Hp:Nat.min sn 0=0:=Nat.min_zero sn;rw[Hp] at hfi;unfold fe at hfi;split at hfi
       ·cases hfi;rfl
       ·simp only[aX,ch,dQ,cq,kf,pW] at hfi;cases hfi;rfl
       ·cases hfi
      ·exact e
     obtain⟨hm,rfl⟩:=v9 hk;obtain⟨w',hr1,R1,S1⟩:=R.wr hw1 hm hL (by simpa using ft) P;refine⟨w',?_,.dN rfl,R1,S1⟩;simp only[Builtin.copy_,h0,e0,e1,bJ,cG hdt,bW,hlen,dO w hsz,cH w rfl,hr1,ck];rfl
   ·cases hc
  | _=>simp at hc
end
section
theorem GL (c:Array Value) (q:Nat) (vs:List Value) (h:q+vs.length≤c.size):(lf c q vs).toList=IH.bf c.toList q vs:=by apply iO;intro i;rw[rf (xs:=lf c q vs),rY _ _ _ _ h,Dy _ _ _ (by simpa using h)];split<;>simp
theorem DA (off:Nat) : ∀(l:List Value) (k:Nat) (c:Array Value),(l.zipIdx k).foldl (fun cs p=>cs.setIfInBounds (off+p.2) p.1) c=lf c (off+k) l
 | [],k,c=>rfl
 | v :: l,k,c=>by rw[List.zipIdx_cons,Gw,DA off l (k+1),lf,ma]
def Oe (m:Mp) (a b:Nat×Value):Prop:=b.1=a.1∧bz m a.2 b.2
variable {m:Mp}
def dv.bf {a a' b b':List Value} (h:dv m a a') (k:dv m b b') (o:Nat) (hb:o+b.length≤a.length):dv m (IH.bf a o b) (IH.bf a' o b'):=by have h1:=h.1;have h2:=k.1;unfold IH.bf;rw[←h2];exact(h.take o).append (k.append (h.drop _))
def DC (place:Nat→Option (Nat×Nat)) : ∀(ps ps':List (Nat×Value)) (cs:List Value) (c':Array Value) (r:List Value),dv m cs c'.toList → ps.length=ps'.length→(∀(i:Nat) (a b:Nat×Value),ps[i]?=some a→ps'[i]?=some b→Oe m a b)→eK place cs ps=some r → ∃r',Instr.fill place c' ps'=some r'∧dv m r r'.toList
 | [],[],cs,c',r,h,_,_,hf=>by simp only[eK] at hf;cases hf;exact⟨c',rfl,h⟩
 | [],_ :: _,_,_,_,_,hl,_,_=>by simp at hl
 | _ :: _,[],_,_,_,_,hl,_,_=>by simp at hl
 | (i,v) :: ps,(i',v') :: ps',cs,c',r,h,hl,hp,hf=>by
  obtain⟨h1,h2⟩:=hp 0 _ _ rfl rfl;simp only at h1 h2;subst h1;rw[eK] at hf;cases hpl:place i' with
  | none=>simp[hpl] at hf
  | some on =>
   obtain⟨o,n⟩:=on;simp only[hpl,aX] at hf;by_cases hc:(v.cells.size == n && Nat.ble (o+n) cs.length)=true
   ·rw[aq hc] at hf;simp only[fK,bT,ch] at hc;have hcs:c'.size=cs.length:=by have:=h.1;simp at this;omega
    have hv':=DO h2;have hlen:o+v'.cells.toList.length≤c'.size:=by rw[mc,hv',hc.1,hcs];exact hc.2
    have ZA:v'.cells.zipIdx.foldl (fun cs x=>match x with|(c,j)=>cs.setIfInBounds (o+j) c) c'=lf c' o v'.cells.toList:=by rw[←Array.foldl_toList,Array.toList_zipIdx];exact DA o v'.cells.toList 0 c'
    rw[Instr.fill,hpl];simp only;rw[ZA,ah (by simp only[ne_eq,nM,aS,not_or,Decidable.not_not,gt_iff_lt,Nat.not_lt];exact⟨by rw[hv',hc.1],by rw[hv',hc.1,hcs];exact hc.2⟩)];refine DC place ps ps' _ _ r ?_ (by simpa using hl) (fun j a b ha hb=>hp (j+1) a b (by simpa using ha) (by simpa using hb)) hf;rw[GL _ _ _ hlen];exact h.bf h2.cells o (by rw[mc,hc.1];exact hc.2)
   ·rw[ah hc] at hf;cases hf
variable {ρ:Operand→Value}{fr:Fr}
def uK (hρ : ∀x v,opd fr x=some v→bz m v (ρ x)) : ∀(l:List (Nat×Operand)) (ps:List (Nat×Value)),partsOf fr l=some ps → ps.length=l.length ∧ ∀(i:Nat) (a b:Nat×Value),ps[i]?=some a→(l.map fun p=>(p.1,ρ p.2))[i]?=some b→Oe m a b
 | [],ps,h=>by simp only[partsOf] at h;cases h;exact⟨rfl,ab⟩
 | (i,x) :: l,ps,h=>by
  rw[partsOf] at h;cases hx:opd fr x with
  | none=>simp[hx] at h
  | some v =>
   cases hl:partsOf fr l with
   | none=>simp[hx,hl] at h
   | some vs =>
    simp only[hx,hl] at h;cases h;obtain⟨h1,h2⟩:=uK hρ l vs hl;refine⟨by simp[h1],fun j a b ha hb=>?_⟩;cases j with
    | zero=>simp at ha hb;subst ha;subst hb;exact⟨rfl,hρ x v hx⟩
    | succ j=>simp at ha hb;exact h2 j a b ha (by simpa using hb)
def OB {P:Program} {t:TypeId} (hρ : ∀x v,opd fr x=some v→bz m v (ρ x)) {parts:Array (Nat×Operand)} {z cs:List Value} {ps:List (Nat×Value)}(hz:bC P t=some z) (hps:partsOf fr parts.toList=some ps) (ha:dZ P t=true) (hf:eK (placeOf P t) z ps=some cs) (w:World) :∃cs',(Instr.build t (parts.map fun(i,x)=>(i,ρ x))).run P w=.ok (.agg cs') w∧bz m (.agg cs.toArray) (.agg cs'):=by
 obtain⟨zv,hz1,hz2,rfl⟩:=fT hz;unfold tS at hz1;obtain⟨it,hit,hz3⟩:=Kc.1 hz1;obtain⟨hl,hp⟩:=uK hρ _ _ hps;have hL0:dv m zv.cells.toList zv.cells.toList:=(bz.dS hz2).cells;have Eu:(parts.map fun(x:Nat×Operand)=>match x with|(i,x)=>(i,ρ x)).toList=parts.toList.map fun p=>(p.1,ρ p.2):=by rw[Array.toList_map]
 have key : ∀place:Nat→Option (Nat×Nat),(∀i p,placeOf P t i=some p→place i=some p) → ∃r',Instr.fill place zv.cells (parts.toList.map fun p=>(p.1,ρ p.2))=some r'∧dv m cs r'.toList:=by
  intro place Xb;have up : ∀(ps:List (Nat×Value)) (a r:List Value),eK (placeOf P t) a ps=some r→eK place a ps=some r:=by
   intro ps
   induction ps with
   | nil=>intro a r h;exact h
   | cons p ps ih =>
    obtain⟨i,v⟩:=p;intro a r h
    rw[eK] at h ⊢
    cases hpi:placeOf P t i with
    | none=>simp[hpi] at h
    | some on =>
     rw[Xb i on hpi];rw[hpi] at h;obtain⟨o,n⟩:=on;simp only[aX] at h ⊢;by_cases hc:(v.cells.size == n && Nat.ble (o+n) a.length)=true;·rw[aq hc] at h ⊢;exact ih _ _ h
     ·rw[ah hc] at h;cases h
  exact DC place ps _ _ _ _ hL0 (by simp[hl]) hp (up ps _ _ hf)
 have hb : ∃r',P.built t (parts.map fun(x:Nat×Operand)=>match x with|(i,x)=>(i,ρ x)).toList=some r'∧dv m cs r'.toList:=by
  rw[Eu];unfold Program.built dZ at *;cases hu:P.underlying t with
  | none=>simp[hu] at ha
  | some d =>
   rw[hu] at ha;cases d with
   | array n e =>
    simp only[Gk] at ha;obtain⟨ie,hie⟩:=ha;obtain⟨r',h1,h2⟩:=key (fun i=>some (i*ie.size,ie.size)) (by
     intro i p hpi;simp only[placeOf,hu,bK,hie,jx] at hpi;exact hpi)
    refine⟨r',?_,h2⟩;simp only[hit,hz3,hie];exact h1
   | struct fs =>
    simp only[Array.all_eq_true_iff_forall_mem,Gk] at ha;have hpl : ∀(l:List Field),(∀f∈l,∃i,P.info? f.type=some i) → ∃pl,l.mapM (fun f=>(P.info? f.type).map fun i=>(f.offset,i.size))=some pl ∧ ∀(j:Nat) (f:Field),l[j]?=some f → ∃i,P.info? f.type=some i∧pl[j]?=some (f.offset,i.size):=by
     intro l
     induction l with
     | nil=>intro _;exact⟨[],rfl,ab⟩
     | cons f l ih =>
      intro h;obtain⟨i,hi⟩:=h f ab;obtain⟨pl,h1,h2⟩:=ih (fun g hg=>h g (by simp[hg]));refine⟨(f.offset,i.size) :: pl,by simp[List.mapM_cons,hi,h1],fun j g hj=>?_⟩;cases j with
      | zero=>simp at hj;subst hj;exact⟨i,hi,rfl⟩
      | succ j=>simp at hj;obtain⟨i',a,b⟩:=h2 j g hj;exact⟨i',a,by simpa using b⟩
    obtain⟨pl,hpl1,hpl2⟩:=hpl fs.toList (fun f hf=>ha f (by simpa using hf));obtain⟨r',h1,h2⟩:=key (pl.toArray[·]?) (by
     intro i p hpi;simp only[placeOf,hu] at hpi;cases hfi:fs[i]? with
     | none=>simp[hfi] at hpi
     | some f =>
      simp only[hfi,bK] at hpi;obtain⟨i',a,b⟩:=hpl2 i f (by simpa using hfi);rw[a] at hpi;simp only[jx] at hpi;rw[←hpi];simpa using b)
    refine⟨r',?_,h2⟩;simp only[hit,hz3,hpl1];exact h1
   | _=>simp at ha
 obtain⟨r',h1,h2⟩:=hb;exact⟨r',run_build w t _ r' h1,bz.vX (by simpa using h2)⟩
end
section
variable {v:Value}{m:Mp}
def mi {v':Value} {most n:Nat} (h:oM v most=some n) (hv:bz m v v') : ∃k,v'=.int k (n:Int)∧n≤most:=by
 unfold oM at h;split at h
 ·rename_i k i;have hv':=hv.gL rfl
  subst hv'
  cases i with
  | ofNat j =>
   simp only[aX,ch] at h;by_cases hj:j≤most;·rw[aq hj] at h;cases h;exact⟨k,rfl,hj⟩
   ·rw[ah hj] at h;cases h
  | negSucc j=>simp at h
 ·cases h
def vy (P:Program) (w:World) (k:IntKind) (n y:Nat) (code:BoundsCode) (h:n≤y):(Instr.sliceBound (.int k (n:Int)) y code).run P w=.ok n w:=by simp only[Instr.sliceBound,asIntOf,bJ,ck,bW];rw[aq aa];simp
def kV (m:Mp):Option Value→Option Value→Prop
 | none,none=>True
 | some v,some v'=>bz m v v'
 | _,_=>False
variable {x:Option Value}
def kV.yJ (h:kV m none x):x=none:=by cases x<;>simp_all [kV]
def kV.qc (h:kV m (some v) x) : ∃v',x=some v'∧bz m v v':=by
 cases x with
 | none=>simp[kV] at h
 | some v'=>exact⟨v',rfl,h⟩
variable {mx mx' hi lo lo' hi':Option Value}{len cap:Nat}
def tK (P:Program) (w:World) (isSlice:Bool) {c:Nat} (hlo:kV m lo lo') (hhi:kV m hi hi') (hmx:kV m mx mx'){l h:Nat} {om:Option Nat} (hb:jD len c lo hi mx=some (l,h,om)) (hc:c≤cap) (hlen:len≤c) :(Instr.sliceBounds isSlice len cap lo' hi' mx').run P w=.ok (l,h,om.getD cap) w∧l≤h∧h≤om.getD c∧om.getD c≤c:=by
 have low : ∀{h l:Nat},Jf lo h=some l→l≤h ∧ ∀code,(match lo' with|some v=>Instr.sliceBound v h code|none=>pure 0:Sem Nat).run P w=.ok l w:=by
  intro h l hl;unfold Jf at hl;cases lo with
  | none=>rw[hlo.yJ];simp only at hl;cases hl;exact⟨dQ _,fun _=>rfl⟩
  | some v =>
   obtain⟨v',rfl,hv⟩:=hlo.qc;obtain⟨k,rfl,hle⟩:=mi hl hv;exact⟨hle,fun code=>vy P w k l h code hle⟩
 unfold jD at hb;cases mx with
 | none =>
  rw[hmx.yJ];simp only at hb;cases hh:RN hi len c with
  | none=>simp[hh] at hb
  | some h1 =>
   simp only[hh] at hb;cases hl:Jf lo h1 with
   | none=>simp[hl] at hb
   | some l1 =>
    simp only[hl] at hb;cases hb;obtain⟨h2,cH⟩:=low hl;unfold RN at hh;cases hi with
    | none =>
     rw[hhi.yJ];simp only at hh;cases hh;refine⟨?_,h2,hlen,aA _⟩;have:=cH .sliceB;cases lo'<;>simp_all [Instr.sliceBounds]
    | some v =>
     obtain⟨v',rfl,hv⟩:=hhi.qc;obtain⟨k,rfl,hle⟩:=mi hh hv;refine⟨?_,h2,hle,aA _⟩;have hb:=fun code=>vy P w k h cap code aa;have:=cH .sliceB;cases lo'<;>simp_all [Instr.sliceBounds]
 | some mv =>
  obtain⟨mv',rfl,hmv⟩:=hmx.qc;simp only at hb;cases hm:oM mv c with
  | none=>simp[hm] at hb
  | some mm =>
   simp only[hm] at hb;obtain⟨k,rfl,hmc⟩:=mi hm hmv;have hb1:=fun code=>vy P w k mm cap code aa;cases hi with
   | none=>simp at hb
   | some hv =>
    obtain⟨hv',rfl,hhv⟩:=hhi.qc;simp only at hb;cases hh:oM hv mm with
    | none=>simp[hh] at hb
    | some h1 =>
     simp only[hh] at hb;obtain⟨k2,rfl,hhm⟩:=mi hh hhv;have hb2:=fun code=>vy P w k2 h1 mm code hhm;cases hl:Jf lo h1 with
     | none=>simp[hl] at hb
     | some l1 =>
      simp only[hl] at hb;cases hb;obtain⟨h2,cH⟩:=low hl;refine⟨?_,h2,hhm,hmc⟩;have:=cH .slice3C;cases lo'<;>simp_all [Instr.sliceBounds]
theorem Ge (r p n:Nat):Addr.add ⟨r,p,none⟩ n=⟨r,p+n,none⟩:=oS r p n
variable {size b k o s r:Nat}
def tn {room:Bool} (hr:fN size room (.slice (some ⟨b,o,none⟩) len k) lo hi mx=some v)(hm:m b=some (r,s)) (hk0:0<k) (hl:len≤k / 2) (hkc:k / 2≤cap) (hx:k % 2=1→cap=k / 2) (hz:k % 2=0→s+o+cap*(m.ez b).1≤(m.ez b).2) (Fy:room=true→(m.ez b).1=size)(hlo:kV m lo lo') (hhi:kV m hi hi') (hmx:kV m mx mx') (P:Program) (isSlice:Bool) (w:World) :∃l h mm,(Instr.sliceBounds isSlice len cap lo' hi' mx').run P w=.ok (l,h,mm) w∧bz m v (.slice (some (if mm=l then ⟨r,s+o,none⟩ else Addr.add ⟨r,s+o,none⟩ (l*size))) (h - l) (mm - l)):=by
 unfold fN at hr;cases hb:jD len (k / 2) lo hi mx with
 | none=>simp[hb] at hr
 | some lhm =>
  obtain⟨l,h,om⟩:=lhm;simp only[hb,aX,bT] at hr;obtain⟨cH,h1,h2,h3⟩:=tK P w isSlice hlo hhi hmx hb hkc hl;rw[ah aa] at hr;refine⟨l,h,_,cH,?_⟩;cases om with
  | none =>
   simp only[Option.getD_none] at hr h2 h3 ⊢;by_cases hlk:l=k / 2
   ·rw[aq hlk] at hr;have hh0:h - l=0:=aa;rw[hh0];by_cases uc:k % 2=1
    ·rw[aq uc] at hr;cases hr;have:=hx uc;rw[aq aa];rw[show cap - l=0 from by omega];exact .slice hm aa aa aa (by intro _;rfl) (by intro e;omega)
    ·rw[ah uc] at hr;cases hr;exact .lost
   ·rw[ah hlk] at hr;by_cases hod:(k % 2 == 1 || room)=true
    ·rw[aq hod] at hr;cases hr;rw[ah aa,Ge];have e1:s+o+l*size=s+(o+l*size):=aa;rw[e1];refine .slice hm aa aa aa (fun e=>by have:=hx aa;omega) (fun e=>?_);have hev:k % 2=0:=aa
     have hrm:room=true:=by
      simp only[nM,bT] at hod;rcases hod with h|h;·omega
      ·exact h
     have hsz:=Fy hrm;have h1:=hz hev
     rw[hsz] at h1 ⊢
     have:(cap - l)*size+l*size=cap*size:=by rw[←dA];congr 1;omega
     omega
    ·rw[ah hod] at hr;cases hr
  | some mm =>
   simp only[jf] at hr h2 h3 ⊢;by_cases hlm:l=mm;·rw[aq hlm] at hr;cases hr;rw[aq hlm.symm,show h - l=0 from by omega,show mm - l=0 from by omega];exact .slice hm aa aa aa (by intro _;rfl) (by intro e;omega)
   ·rw[ah hlm] at hr;cases hr
    rw[ah (fun e=>hlm e.symm),Ge];have e1:s+o+l*size=s+(o+l*size):=aa;rw[e1];exact .slice hm aa aa aa (by intro _;omega) (by intro e;omega)
variable {h:IH}{w w0:World}{B:Nat}
def KW (R:Rel B w0 m h w) (hr:roomy h size (.slice (some ⟨b,o,none⟩) len k)=true) (hm:m b=some (r,s)):(m.ez b).1=size:=by
 unfold roomy at hr;simp only[fK,bT] at hr;obtain⟨hb,hr⟩:=hr;cases hg:h.ext.get (b / 2) with
 | none=>simp[hg] at hr
 | some x =>
  rw[hg] at hr;cases x with
  | cells cs e f =>
   simp only[bT] at hr;have hb':2*(b / 2)=b:=aa;obtain⟨c,el,_,_,h1,_⟩:=R.obj (b / 2) _ r s hg (by rw[hb'];exact hm);rw[hb'] at h1;rw[h1,hr]
  | _=>simp at hr
variable {t:TypeId}
def Rel.dE (R:Rel B w0 m h w) (P:Program) {x x':Value} (hs:dE P h t x lo hi mx=some v)(hx:bz m x x') (hlo:kV m lo lo') (hhi:kV m hi hi') (hmx:kV m mx mx') :∃v',(Instr.sliceAt t x' lo' hi' mx').run P w=.ok v' w∧bz m v v':=by
 unfold Id.dE at hs;cases hu:P.underlying t with
 | none=>simp[hu] at hs
 | some d =>
  rw[hu] at hs;cases d with
  | slice e =>
   simp only at hs;cases hsz:bK P e with
   | none=>simp[hsz] at hs
   | some size =>
    simp only[hsz] at hs;cases x with
    | slice a len k =>
     cases a with
     | none =>
      obtain⟨rfl,rfl,rfl⟩:=hx.qO;unfold fN at hs;simp only[pW,sV,cg] at hs;cases hb:jD 0 0 lo hi mx with
      | none=>simp[hb] at hs
      | some lhm =>
       obtain⟨l,hh,om⟩:=lhm;simp only[hb] at hs;cases hs;obtain⟨cH,h1,h2,h3⟩:=tK P w true hlo hhi hmx hb (aA 0) (aA 0);have hl0:l=0:=aa;have hh0:hh=0:=aa;subst hl0;subst hh0;refine⟨.slice none 0 0,?_,.dN rfl⟩;have hm0:om.getD 0=0:=aa;rw[hm0] at cH;simp[Instr.sliceAt,cG hu,Instr.slice,cH,dO w hsz]
     | some a =>
      obtain⟨b,o,sp⟩:=a;cases sp with
      | some q=>simp[fN] at hs
      | none =>
      rcases hx.iS with⟨r,s,cap,hm,h1,h2,h3,h4,h5,rfl⟩|⟨rfl,rfl,a,cap,rfl⟩;·obtain⟨l,hh,mm,cH,hv⟩:=tn hs hm h1 h2 h3 h4 h5 (fun e=>KW R e hm) hlo hhi hmx P true w;refine⟨_,?_,hv⟩;simp[Instr.sliceAt,cG hu,Instr.slice,cH,dO w hsz];split<;>simp
      ·-- a lost slice: it stays one
       unfold fN at hs;cases hb:jD 0 (0 / 2) lo hi mx with
       | none=>simp[hb] at hs
       | some lhm =>
        obtain⟨l,hh,om⟩:=lhm;simp only[hb,pW,cg] at hs;cases hs;obtain⟨cH,h1,h2,h3⟩:=tK P w (cap:=cap) true hlo hhi hmx hb aa aa;have hl0:l=0:=aa;have hh0:hh=0:=aa;subst hl0;subst hh0;refine⟨.slice (some (if om.getD cap=0 then a else a.add (0*size))) 0 (om.getD cap - 0),?_,.lost⟩;simp[Instr.sliceAt,cG hu,Instr.slice,cH,dO w hsz];split<;>simp
    | _=>simp[fN] at hs
  | array n e =>
   simp only at hs;cases hsz:bK P e with
   | none=>simp[hsz] at hs
   | some size =>
    cases hA:asAddr x with
    | none=>simp[hsz,hA] at hs
    | some bo =>
     obtain⟨b,o⟩:=bo;have hp:x=.pointer (some ⟨b,o,none⟩):=by unfold asAddr at hA;split at hA<;>simp_all
     subst hp;obtain⟨r,s,hm,rfl⟩:=hx.ou;simp only[hsz,hA] at hs;obtain⟨l,hh,mm,cH,hv⟩:=tn hs hm aa aa (cap:=n) aa aa aa ab hlo hhi hmx P false w;refine⟨_,?_,hv⟩;simp[Instr.sliceAt,cG hu,Instr.sureAddr,cH,dO w hsz]
  | pointer arr =>
   simp only at hs;cases hua:P.underlying arr with
   | none=>simp[hua] at hs
   | some da =>
    rw[hua] at hs;cases da with
    | array n e =>
     simp only at hs;cases hsz:bK P e with
     | none=>simp[hsz] at hs
     | some size =>
      cases hA:Id.asAddr x with
      | none=>simp[hsz,hA] at hs
      | some bo =>
       obtain⟨b,o⟩:=bo;have hp:x=.pointer (some ⟨b,o,none⟩):=by unfold Id.asAddr at hA;split at hA<;>simp_all
       subst hp;obtain⟨r,s,hm,rfl⟩:=hx.ou;simp only[hsz,hA] at hs;obtain⟨l,hh,mm,cH,hv⟩:=tn hs hm aa aa (cap:=n) aa aa aa ab hlo hhi hmx P false w;refine⟨_,?_,hv⟩;simp[Instr.sliceAt,cG hu,Instr.slice,Go.asAddr,cG hua,cH,dO w hsz]
    | _=>simp at hs
  | string =>
   simp only[aX] at hs;by_cases hp:(plain x && (lo.all plain && hi.all plain && mx.all plain))=true
   ·rw[aq hp] at hs;simp only[fK] at hp;have e0:=hx.iX hp.1;have ep : ∀{a b:Option Value},kV m a b→a.all plain=true→b=a:=by
     intro a b hab ha;cases a with
     | none=>exact hab.yJ
     | some v=>obtain⟨v',rfl,hv⟩:=hab.qc;rw[hv.iX (by simpa using ha)]
    rw[e0,ep hlo hp.2.1.1,ep hhi hp.2.1.2,ep hmx hp.2.2];obtain⟨hpv,cH⟩:=kK hs;refine⟨v,?_,.dS hpv⟩;have this:=cH w;simp only[Instr.sliceAt,bJ,cG hu,bW];exact this
   ·rw[ah hp] at hs;cases hs
  | _=>simp at hs
theorem IU (z:List Value) (hz:z ≠ []) : ∀(n i:Nat),(de n z)[i]?=if i<n*z.length then z[i % z.length]? else none
 | 0,i=>by simp[de]
 | n+1,i=>by
  have v9:0<z.length:=Gt.2 hz;rw[de];by_cases h:i<z.length;·rw[ef h,aq (by rw[dA];omega),dR h]
  ·rw[gI aa,IU z hz n (i - z.length)]
   have e:(i - z.length) % z.length=i % z.length:=by rw[Nat.mod_eq_sub_mod (a:=i) aa]
   rw[e];by_cases h2:i - z.length<n*z.length;·rw[aq h2,aq (by rw[dA];omega)]
   ·rw[ah h2,ah (by rw[dA];omega)]
theorem qL (z:List Value) : ∀n,(de n z).length=n*z.length
 | 0=>by simp[de]
 | n+1=>by rw[de,dG,qL z n,dA];omega
theorem tp (z:Array Value) (n:Nat) (hz:z.size≠0):((Array.range (n*z.size)).map (fun i=>z[i % z.size]!)).toList=de n z.toList:=by
 apply iO
 intro i;have hz':z.toList ≠ []:=by intro e;apply hz;have:=kC List.length e;simpa using this
 rw[IU z.toList hz' n i,rf,Array.getElem?_map,mc];by_cases h:i<n*z.size;·rw[aq h];have hm:i % z.size<z.size:=ec _ aa;simp[h,hm]
 ·rw[ah h]
  simp[h]
def xp (n:Nat) (h:n≤1099511627776):IntKind.i64.wrap (n:Int)=(n:Int):=by rw[IntKind.wrap_i64];omega
theorem dv.de {z:List Value} (h:dv m z z) : ∀n,dv m (Id.de n z) (Id.de n z)
 | 0=>.nil m
 | n+1=>h.append (dv.de h n)
def vi (m:Mp) (w:World) (h h':IH) (run:Result Value) (v:Value):Prop :=
 ∃cs cs' e t v',h'=h.new (.cells cs e none)∧dv m cs cs'∧run=.ok v' (w.alloc (.cells cs'.toArray t)) ∧ ∀m':Mp,m' (2*h.n)=some (w.heap.size,0)→bz m' v v'
variable {h':IH}
def tY (P:Program) {l l' c c':Value} (hs:makeSlice P h t l c=some (v,h')) (hl:bz m l l') (hc:bz m c c') (w:World) :vi m w h h' ((Instr.makeSlice t l' c').run P w) v:=by
 unfold Id.makeSlice at hs;cases hu:P.underlying t with
 | none=>simp[hu] at hs
 | some d =>
  rw[hu] at hs;cases d with
  | slice e =>
   simp only at hs;cases hln:oM l bZ with
   | none=>simp[hln] at hs
   | some ln =>
   cases hcn:oM c bZ with
   | none=>simp[hln,hcn] at hs
   | some cn =>
   cases hsz:bK P e with
   | none=>simp[hln,hcn,hsz] at hs
   | some n =>
   cases hby:oh P e with
   | none=>simp[hln,hcn,hsz,hby] at hs
   | some by_ =>
   cases hz:bC P e with
   | none=>simp[hln,hcn,hsz,hby,hz] at hs
   | some z =>
   simp only[hln,hcn,hsz,hby,hz,aX] at hs;by_cases rV:(Nat.ble ln cn && Nat.ble (cn*(by_+1)) bZ && z.length == n)=true
   ·rw[aq rV] at hs;cases hs;simp only[fK,ch,bT] at rV;obtain⟨⟨hlc,nz⟩,hzn⟩:=rV;obtain⟨zv,hz0,hzp,rfl⟩:=fT hz;obtain⟨kl,rfl,hl1⟩:=mi hln hl;obtain⟨kc,rfl,hc1⟩:=mi hcn hc;unfold oh at hby;obtain⟨i,hi,hib⟩:=bI.1 hby;have hmul:cn*(by_+1)=cn*by_+cn:=by rw[sH,fI]
    have hbc:by_*cn=cn*by_:=gE _ _;unfold bZ at nz hl1 hc1;have W3:=xp ln hl1;have W4:=xp cn hc1;have xQ : ∃cells:Array Value,(if cn*n=0 then pure #[] else do pure (←zeroValue e).cells:Sem (Array Value)).run P w=.ok cells w∧((Array.range (cn*n)).map (fun i=>cells[i % cells.size]!)).toList=de cn zv.cells.toList:=by
     by_cases h0:cn*n=0
     ·rw[aq h0];refine⟨#[],rfl,?_⟩;rw[h0];have:(de cn zv.cells.toList).length=0:=by rw[qL,hzn,h0]
      rw[jK.1 this];simp
     ·rw[ah h0];refine⟨zv.cells,by simp[hP w hz0],?_⟩;have hs:zv.cells.size=n:=by simpa using hzn
      rw[←hs];exact tp zv.cells cn (by rw[hs];intro e;apply h0;rw[e,Nat.mul_zero])
    obtain⟨cells,rU,LR⟩:=xQ
    have hLz:dv m (de cn zv.cells.toList) (de cn zv.cells.toList):=dv.de (bz.dS (m:=m) hzp).cells cn
    refine⟨_,_,n,e,.slice (some ⟨w.heap.size,0,none⟩) ln cn,rfl,hLz,?_,fun m' hm=>?_⟩
    ·have e1:(Array.range (cn*n)).map (fun i=>cells[i % cells.size]!)=(de cn zv.cells.toList).toArray:=by rw[←LR]
     simp only[Instr.makeSlice,bJ,cG hu,bW,asInt,asIntOf,ck,run_typeInfo w hi,hib,W3,W4];have Zn:(by_:Int)*(cn:Int)=((by_*cn:Nat):Int):=ab;have hno : ¬((decide ((cn:Int)<0) || decide ((by_:Int)*(cn:Int) > 2 ^ 48) || decide ((ln:Int)<0) || decide ((ln:Int) > (cn:Int)))=true):=by simp only[nM,aS,Zn];omega
     rw[ah hno];simp only[iv,bJ,run_askRoom,bW,dO w hsz];by_cases h0:cn*n=0;·rw[aq h0] at rU ⊢;simp only[ck] at rU;cases rU;simp only[bJ,ck,bW,Go.newRow,l8];rw[e1];rfl
     ·rw[ah h0] at rU ⊢
      simp only[bJ,hP w hz0,bW,ck] at rU;cases rU;simp only[bJ,hP w hz0,ck,bW,Go.newRow,l8];rw[e1];rfl
    ·exact .slice (s:=0) hm aa aa aa (by intro _;omega) (by intro e;omega)
   ·rw[ah rV] at hs;cases hs
  | _=>simp at hs
def vi.rel {run:Result Value} (M:vi m w h h' run v) (R:Rel B w0 m h w) (fh:jE m h.n h'.n) :∃v' m' w',run=.ok v' w'∧bz m' v v'∧Rel B w0 m' h' w'∧Step m h w m' h' w':=by obtain⟨cs,cs',e,t,v',rfl,hL,cH,hv⟩:=M;obtain⟨R1,S1⟩:=R.newRow (fh h.n (aA _) (lj _)) hL e t;exact⟨v',_,_,cH,hv _ (Mp.cw _ _ _ _),R1,S1⟩
end
section
variable {v:Value}{t:TypeId}{m:Mp}
def sC (P:Program) {h h':IH} {len:Nat} {parts:Array (Nat×Operand)} {ps:List (Nat×Value)} {fr:Fr} {ρ:Operand→Value}  (hρ : ∀x v,opd fr x=some v→bz m v (ρ x)) (hps:partsOf fr parts.toList=some ps) (hs:buildSlice P h t len ps=some (v,h')) (w:World) :vi m w h h' ((Instr.buildSlice t len (parts.map fun(i,x)=>(i,ρ x))).run P w) v:=by
 unfold Id.buildSlice at hs;cases hu:P.underlying t with
 | none=>simp[hu] at hs
 | some d =>
  rw[hu] at hs;cases d with
  | slice e =>
   simp only at hs;cases hsz:bK P e with
   | none=>simp[hsz] at hs
   | some n =>
   cases hz:bC P e with
   | none=>simp[hsz,hz] at hs
   | some z =>
   simp only[hsz,hz,aX] at hs;by_cases rV:(Nat.ble (len*n) sr && z.length == n)=true
   ·rw[aq rV] at hs;simp only[fK,ch,bT] at rV;obtain⟨nz,hzn⟩:=rV;obtain⟨zv,hz0,hzp,rfl⟩:=fT hz;cases hf:eK (fun i=>some (i*n,n)) (de len zv.cells.toList) ps with
    | none=>simp[hf] at hs
    | some cells =>
     simp only[hf] at hs;cases hs;have xQ : ∃zc:Array Value,(if len*n=0 then pure #[] else do pure (←zeroValue e).cells:Sem (Array Value)).run P w=.ok zc w∧((Array.range (len*n)).map (fun i=>zc[i % zc.size]!)).toList=de len zv.cells.toList:=by
      by_cases h0:len*n=0
      ·rw[aq h0];refine⟨#[],rfl,?_⟩;rw[h0];have:(de len zv.cells.toList).length=0:=by rw[qL,hzn,h0]
       rw[jK.1 this];simp
      ·rw[ah h0];refine⟨zv.cells,by simp[hP w hz0],?_⟩;have hs:zv.cells.size=n:=by simpa using hzn
       rw[←hs];exact tp zv.cells len (by rw[hs];intro e;apply h0;rw[e,Nat.mul_zero])
     obtain⟨zc,rU,LR⟩:=xQ;have hLz:dv m (de len zv.cells.toList) (((Array.range (len*n)).map (fun i=>zc[i % zc.size]!))).toList:=by rw[LR];exact dv.de (bz.dS (m:=m) hzp).cells len
     obtain⟨hl,hp⟩:=uK hρ _ _ hps;obtain⟨r',VW,hL⟩:=DC (fun i=>some (i*n,n)) ps (parts.toList.map fun p=>(p.1,ρ p.2)) _ _ _ hLz (by simp[hl]) hp hf;have Eu:(parts.map fun(x:Nat×Operand)=>match x with|(i,x)=>(i,ρ x)).toList=parts.toList.map fun p=>(p.1,ρ p.2):=by rw[Array.toList_map]
     refine⟨_,r'.toList,n,e,.slice (some ⟨w.heap.size,0,none⟩) len len,rfl,hL,?_,fun m' hm=>?_⟩
     ·simp only[Instr.buildSlice,bJ,cG hu,bW,dO w hsz];rw[ah (by unfold sr at nz;omega)];by_cases h0:len*n=0
      ·rw[aq h0] at rU ⊢;simp only[ck] at rU;cases rU;simp only[bJ,ck,bW,Eu,VW,Go.newRow,l8];rfl
      ·rw[ah h0] at rU ⊢;simp only[bJ,hP w hz0,bW,ck] at rU;cases rU;simp only[bJ,hP w hz0,ck,bW,Eu,VW,Go.newRow,l8];rfl
     ·exact .slice (s:=0) hm aa aa aa (by intro _;omega) (by intro e;omega)
   ·rw[ah rV] at hs;cases hs
  | _=>simp at hs
variable {i i':Value}
def Af {n:Int} (h:bz m i i') (hi:idxOf i=some n) : ∃k,i'=.int k n:=by
 unfold idxOf at hi;split at hi;·cases hi;exact⟨_,h.gL rfl⟩
 ·cases hi
def Ej (P:Program) {x x':Value} (hs:indexAddr P t x i=some v) (hx:bz m x x') (hi:bz m i i') (w:World) :∃v',(Instr.indexAt t x' i').run P w=.ok v' w∧bz m v v':=by
 unfold Id.indexAddr at hs;split at hs
 ·rename_i n e b o j hu hj;obtain⟨k,rfl⟩:=Af hi hj;obtain⟨r,s,hm,rfl⟩:=hx.ou;split at hs
  ·rename_i size j hsz;simp only[aX,qW] at hs;by_cases hlt:j<n
   ·rw[aq hlt] at hs;cases hs;refine⟨.pointer (some ⟨r,s+(o+j*size),none⟩),?_,.ptr hm⟩;have h2:(0:Int)≤Int.ofNat j∧Int.ofNat j<(n:Int):=by constructor<;>simp<;>omega
    simp only[Instr.indexAt,asIntOf,bJ,ck,bW,cG hu,Instr.sureAddr];rw[aq h2];simp[dO w hsz,oS,ma]
   ·rw[ah hlt] at hs;cases hs
  ·cases hs
 ·rename_i e b o n k j hu hj;obtain⟨ki,rfl⟩:=Af hi hj;split at hs
  ·rename_i size j hsz;simp only[aX,qW] at hs;by_cases hlt:j<n
   ·rw[aq hlt] at hs;cases hs;rcases hx.iS with⟨r,s,cap,hm,_,_,_,_,_,rfl⟩|⟨h0,_⟩
    ·refine⟨.pointer (some ⟨r,s+(o+j*size),none⟩),?_,.ptr hm⟩;have h2:(0:Int)≤Int.ofNat j∧Int.ofNat j<(n:Int):=by constructor<;>simp<;>omega
     simp only[Instr.indexAt,asIntOf,bJ,ck,bW,cG hu];rw[aq h2];simp[dO w hsz,oS,ma]
    ·omega
   ·rw[ah hlt] at hs;cases hs
  ·cases hs
 ·cases hs
def Iy (P:Program) {cs cs':Array Value} {off:Nat} (hs:partOf P t cs off=some v) (hx:dv m cs.toList cs'.toList) (w:World) :∃v',(part t cs' off).run P w=.ok v' w∧bz m v v':=by
 unfold Id.partOf at hs;split at hs
 ·rename_i n ha hsz;cases hs;refine⟨.agg (cs'.extract off (off+n)),?_,bz.vX ?_⟩
  ·simp[part,tk w ha,dO w hsz]
  ·simp only[Array.toList_extract];have:=(hx.drop off).take (off+n - off);simpa [Kh] using this
 ·rename_i ha;obtain⟨v',h1,h2⟩:=hx.get (i:=off) (v:=v) (by simpa using hs);refine⟨v',?_,h2⟩;have:cs'[off]?=some v':=by simpa using h1
  simp[part,tk w ha,this]
 ·cases hs
def yX (kind:TypeDesc) (k:Value) : ∀(es es':List MapEntry) (i:Nat),es.map (·.key)=es'.map (·.key) → (Instr.findNow kind k es i).map (fun o=>o.map (·.1))=(Instr.findNow kind k es' i).map (fun o=>o.map (·.1))
 | [],[],i,_=>rfl
 | [],_ :: _,i,h=>by simp at h
 | _ :: _,[],i,h=>by simp at h
 | e :: es,e' :: es',i,h=>by
  simp only[jJ,List.cons.injEq] at h;have ih:=yX kind k es es' (i+1) h.2;simp only[Instr.findNow,h.1];cases Instr.sameNow kind k e'.key with
  | none=>rfl
  | some b=>cases b<;>simp[ih]
def DB (kind:TypeDesc) (k:Value) : ∀(es:List MapEntry) (i j:Nat) (v:Value),Instr.findNow kind k es i=some (some (j,v))→i≤j ∧ ∃e,es[j - i]?=some e∧e.val=v
 | [],i,j,v,h=>by simp[Instr.findNow] at h
 | e :: es,i,j,v,h=>by
  simp only[Instr.findNow] at h;split at h;·simp only[sE,BZ] at h;obtain⟨rfl,rfl⟩:=h;exact⟨aA _,e,ab,rfl⟩
  ·obtain⟨h1,e',h2,h3⟩:=DB kind k es (i+1) j v h
   refine⟨aa,e',?_,h3⟩;rw[show j - i=(j - (i+1))+1 from by omega];simpa using h2
  ·cases h
def ub (P:Program) (w:World) (kt:TypeId) (k:Value) : ∀(es es':List MapEntry) (i:Nat) (r:Option (Nat×Value)),es.map (·.key)=es'.map (·.key)→aI P (Instr.findAsking kt k es i)=some r → ∃r',(Instr.findAsking kt k es' i).run P w=.ok r' w∧r'.map (·.1)=r.map (·.1) ∧ ∀j v,r'=some (j,v)→i≤j ∧ ∃e,es'[j - i]?=some e∧e.val=v
 | [],[],i,r,_,h=>by simp only[Instr.findAsking] at h;cases h;exact⟨none,rfl,rfl,ab⟩
 | [],_ :: _,i,r,h,_=>by simp at h
 | _ :: _,[],i,r,h,_=>by simp at h
 | e :: es,e' :: es',i,r,h,hp=>by
  simp only[jJ,List.cons.injEq] at h;have pb : ∀{α β:Type} (s:Sem α) (f:α→Sem β) (b:β),aI P (s.bind f)=some b → ∃a,aI P s=some a∧aI P (f a)=some b:=by
   intro α β s f b
   induction s with
   | pure a=>intro h;exact⟨a,rfl,h⟩
   | program g ih=>intro h;simp only[Sem.bind,aI] at h ⊢;exact ih P h
   | _=>intro h;simp[Sem.bind,aI] at h
  have hp':aI P ((Op.equal kt k e.key).bind fun b=>if b=true then pure (some (i,e.val)) else Instr.findAsking kt k es (i+1))=some r:=hp;obtain⟨b,hb,qo⟩:=pb _ _ _ hp';have cH:=my P _ _ hb w
  rw[h.1] at cH
  cases b with
  | true =>
   have hr:r=some (i,e.val):=by have:aI P (Sem.pure (some (i,e.val)))=some r:=qo;simp only[aI] at this;cases this;rfl
   subst hr;refine⟨some (i,e'.val),?_,rfl,?_⟩
   ·simp[Instr.findAsking,cH]
   ·intro j v hjv;cases hjv;exact⟨aA _,e',ab,rfl⟩
  | false =>
   obtain⟨r',h1,h2,h3⟩:=ub P w kt k es es' (i+1) r h.2 qo;refine⟨r',?_,h2,?_⟩;·simp[Instr.findAsking,cH,h1]
   ·intro j v hjv
    obtain⟨a,e'',c,d⟩:=h3 j v hjv;refine⟨aa,e'',?_,d⟩;rw[show j - i=(j - (i+1))+1 from by omega];simpa using c
variable {P:Program}
def G6 {α β:Type} {s:Sem α} {f:α→Sem β} {b:β} (h:aI P (s >>= f)=some b) : ∃a,aI P s=some a∧aI P (f a)=some b:=by
 have h':aI P (s.bind f)=some b:=h;clear h;revert h'
 induction s with
 | pure a=>intro h;exact⟨a,rfl,h⟩
 | program g ih=>intro h;simp only[Sem.bind,aI] at h ⊢;exact ih P h
 | _=>intro h;simp[Sem.bind,aI] at h
def EY {kt:TypeId} {k:Value} {es:List (Value×Value)} {c:Array MapEntry} {r:Option Nat} (hf:yY P kt k es=some r) (hm:vh m es c) (w:World) :plain k=true∧(Instr.checkKey c.isEmpty 10000 kt k).run P w=.ok () w ∧ ∃r',(Instr.findKey kt k c.toList).run P w=.ok r' w∧r'.map (·.1)=r ∧ ∀j v,r'=some (j,v) → ∃e,c[j]?=some e∧e.val=v:=by
 unfold yY at hf;simp only[aX] at hf;by_cases hp:plain k=true
 ·rw[aq hp] at hf;have Xo:c.isEmpty=es.isEmpty:=by have:=hm.1;rw[Bool.eq_iff_iff,Kl,List.isEmpty_iff,←jK];omega
  cases h1:aI P (Instr.checkKey es.isEmpty 10000 kt k) with
  | none=>simp[h1] at hf
  | some u =>
   cases h2:aI P (Instr.findKey kt k (gj es)) with
   | none=>simp[h1,h2] at hf
   | some r0 =>
    simp only[h1,h2] at hf;cases hf;have VV:(gj es).map (·.key)=c.toList.map (·.key):=by
     apply iO;intro i;simp only[gj,uh,dM,rf];by_cases hi:i<es.length
     ·have hi':i<c.size:=by have:=hm.1;omega
      have:=hm.2 i es[i] c[i] (aK hi) (by simp[hi']);simp[hi,hi',this.1.1]
     ·have hi' : ¬i<c.size:=by have:=hm.1;omega
      simp[cy (Gn hi),Co (Gn hi')]
    refine⟨hp,by rw[Xo];exact my P _ _ h1 w,?_⟩;unfold Instr.findKey at h2 ⊢;obtain⟨d,hd,h3⟩:=G6 h2;have ZE:=my P _ _ hd w;simp only[bJ,ZE,bW];have hk:=yX d k (gj es) c.toList 0 VV;cases h4:Instr.findNow d k (gj es) 0 with
    | some r1 =>
     rw[h4] at h3 hk;have hr1:r1=r0:=by have:aI P (Sem.pure r1)=some r0:=h3;simp only[aI] at this;cases this;rfl
     subst hr1;cases h5:Instr.findNow d k c.toList 0 with
     | none=>rw[h5] at hk;simp at hk
     | some r2 =>
      rw[h5] at hk;simp only[jx,sE] at hk;refine⟨r2,rfl,hk.symm,fun j v hjv=>?_⟩;subst hjv;obtain⟨_,e,a,b⟩:=DB d k c.toList 0 j v h5;exact⟨e,by simpa using a,b⟩
    | none =>
     rw[h4] at h3 hk;cases h5:Instr.findNow d k c.toList 0 with
     | some r2=>rw[h5] at hk;simp at hk
     | none =>
      obtain⟨r',a,b,c'⟩:=ub P w kt k (gj es) c.toList 0 r0 VV h3;exact⟨r',a,b,fun j v hjv=>let ⟨_,e,x,y⟩:=c' j v hjv;⟨e,by simpa using x,y⟩⟩
 ·rw[ah hp] at hf;cases hf
end
end Go.Id

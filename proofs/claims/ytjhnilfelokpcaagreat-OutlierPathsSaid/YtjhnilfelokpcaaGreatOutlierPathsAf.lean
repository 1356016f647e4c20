/-
  The ideal machine: clear and cap on slices. The ideal machine: an append of zeros (append(s, make(..)...)) onto a slice that is nil.
-/
import Derived.Test.YtjhnilfelokpcaaGreatOutlierPathsAe
set_option linter.unusedVariables false
set_option linter.unusedSimpArgs false
set_option linter.defProp false
set_option linter.deprecated false
namespace Go.Id
open Go Go.RowKit
theorem aC.unit (m:Mp):aC m (.tuple #[]) (.tuple #[]):=.tuple rfl fun i v v' h=>by simp at h
theorem Ff {z:List Value} {v:Value} : ∀{n:Nat},v∈bS n z→v∈z
 | 0,h=>by cases h
 | n+1,h=>by
  rw[bS,List.mem_append] at h
  rcases h with h|h
  ·exact h
  ·exact Ff h
theorem yn (z:Array Value) (n:Nat) (hz:z.size≠0):(Builtin.zeroCells z n).toList=bS n z.toList:=by
 rw[←oL z n hz]
 simp[Builtin.zeroCells]
theorem Rel.clear {B:Nat} {w0:World} {m:Mp} {h h':IH} {w:World} (R:Rel B w0 m h w) (P:Program) {ts:Array TypeId} {ty t:TypeId} {x x' v:Value}
  (h0:ts[0]?=some t) (hc:uM P h t x=some (v,h')) (hx:aC m x x') :
  ∃w',(Builtin.clear_ ts ty #[x']).run P w=.ok v w'∧aC m v v∧Rel B w0 m h' w'∧Step m h w m h' w':=by
 unfold uM at hc
 have e0 : ∀y:Value,(#[y]:Array Value)[0]?=some y:=fun _=>rfl
 cases hdt:P.underlying t with
 | none=>simp[hdt] at hc
 | some td =>
  rw[hdt] at hc
  cases td with
  | slice e =>
   split at hc
   ·cases hc
    obtain⟨rfl,rfl,rfl⟩:=hx.kU
    refine⟨w,?_,.unit m,R,Step.refl _ _ _⟩
    simp only[Builtin.clear_,h0,e0,Sem.run_bind,Go.run_underlying hdt,Result.andThen_ok,Sem.run_pure]
   ·rename_i h1 h2 b o dl dk he
    cases he
    have hdv : ∃r q cap a,x'=.slice (some a) dl cap∧(0<dk→m b=some (r,q)∧a=⟨r,q+o,none⟩)∧(dk=0→dl=0):=by
     rcases hx.dA with⟨r,q,cap,hm,h1,_,_,_,_,rfl⟩|⟨hl,hk,a,cap,rfl⟩
     ·exact⟨r,q,cap,_,rfl,fun _=>⟨hm,rfl⟩,fun e=>by omega⟩
     ·subst hl;exact⟨0,0,cap,a,rfl,fun e=>by omega,fun _=>rfl⟩
    obtain⟨r,q,cap,a,rfl,uw,hzero⟩:=hdv
    simp only[cond_eq_ite,beq_iff_eq] at hc
    by_cases hn:dl=0
    ·rw[if_pos hn] at hc;cases hc
     subst hn
     refine⟨w,?_,.unit m,R,Step.refl _ _ _⟩
     simp only[Builtin.clear_,h0,e0,Sem.run_bind,Go.run_underlying hdt,Result.andThen_ok,Sem.run_pure]
    ·rw[if_neg hn] at hc
     cases hz:aB P e with
     | none=>simp[hz] at hc
     | some z =>
      simp only[hz] at hc
      by_cases fK:(z.isEmpty || !(z.all aH))=true
      ·rw[if_pos fK] at hc;cases hc
      rw[if_neg fK] at hc
      simp only[Bool.or_eq_true,not_or,Bool.not_eq_true,Bool.not_eq_false'] at fK
      obtain⟨h1w,hw1,hv1⟩:=Option.map_eq_some_iff.1 hc
      cases hv1
      obtain⟨zv,hz0,hzp,rfl⟩:=cR hz
      have hk:0<dk:=by
       rcases Nat.eq_zero_or_pos dk with e|e
       ·exact absurd (hzero e) hn
       ·exact e
      obtain⟨hm,rfl⟩:=uw hk
      have hL:bz m (bS dl zv.cells.toList) (bS dl zv.cells.toList):=bz.bS (aC.bT (m:=m) hzp).cells dl
      obtain⟨w',hr1,R1,S1⟩:=R.wr hw1 hm hL (fun v hv=>List.all_eq_true.1 fK.2 v (Ff hv)) P
      have hsz:zv.cells.size≠0:=by
       intro e
       have:zv.cells.toList = []:=List.eq_nil_of_length_eq_zero (by rw[Array.length_toList];exact e)
       rw[this] at fK;simp at fK
      rw[←yn _ _ hsz] at hr1
      refine⟨w',?_,.unit m,R1,S1⟩
      obtain⟨n,rfl⟩ : ∃n,dl=n+1:=⟨dl - 1,by omega⟩
      simp only[Builtin.clear_,h0,e0,Sem.run_bind,Go.run_underlying hdt,Result.andThen_ok,dP w hz0,hr1,Sem.run_pure]
   ·cases hc
  | _=>simp at hc
theorem Rel.cap {m:Mp} {w:World} (P:Program) {ts:Array TypeId} {ty t:TypeId} {x x' v:Value} (h0:ts[0]?=some t) (hc:VU P t x=some v) (hx:aC m x x') :
  (Builtin.cap_ ts ty #[x']).run P w=.ok v w∧plain v=true:=by
 unfold VU at hc
 have e0 : ∀y:Value,(#[y]:Array Value)[0]?=some y:=fun _=>rfl
 cases hdt:P.underlying t with
 | none=>simp[hdt] at hc
 | some td =>
  rw[hdt] at hc
  cases td with
  | slice e =>
   split at hc
   ·cases hc
    obtain⟨rfl,rfl,rfl⟩:=hx.kU
    refine⟨?_,rfl⟩
    simp only[Builtin.cap_,h0,e0,Sem.run_bind,Go.run_underlying hdt,Result.andThen_ok,Sem.run_pure]
    rfl
   ·rename_i h1 h2 b o dl dk he
    cases he
    simp only[cond_eq_ite,beq_iff_eq] at hc
    by_cases hn:dk % 2=1
    ·rw[if_pos hn] at hc;cases hc
     rcases hx.dA with⟨r,q,cap,hm,h3,h4,h5,h6,h7,rfl⟩|⟨hl,hk,a,cap,rfl⟩
     ·refine⟨?_,rfl⟩
      simp only[Builtin.cap_,h0,e0,Sem.run_bind,Go.run_underlying hdt,Result.andThen_ok,Sem.run_pure,h6 hn]
      rfl
     ·omega
    ·rw[if_neg hn] at hc;cases hc
   ·cases hc
  | _=>simp at hc
end Go.Id

namespace Go.Id
open Go Go.RowKit
theorem xq (z:Array Value) (n:Nat) (hz:z.size≠0):Builtin.zeroCells z n=(bS n z.toList).toArray:=by
 rw[←oL z n hz]
 rfl
theorem vg (P:Program) (w:World) (ts:Array TypeId) (ty:TypeId) (st xt elem:TypeId) (ik k:IntKind) (size bytes:Nat) (z:Value) (n:Nat)
  (h0:ts[0]?=some st) (h1:ts[1]?=some xt) (hst:P.underlying st=some (.slice elem)) (hxt:P.underlying xt=some (.int ik)) (hsz:aJ P elem=some size) (hby:gM P elem=some bytes) (hz:px P elem=some z)
  (hn:0<n) (hs0:0<size) (hzs:z.cells.size=size) (hb:bytes≤65536) (jv:n*(bytes+1)≤aI) :
  ∃d iK rest,(Builtin.append_ ts ty #[.slice none 0 0,.int k n]).run P w=.ok (.slice (some ⟨w.heap.size,0,none⟩) n iK) ((({ w with drawn:=d }:World)).alloc (.cells (bS n z.cells.toList ++ rest).toArray elem))∧n≤iK∧rest.length=(iK - n)*z.cells.size:=by
 unfold gM at hby
 obtain⟨i,hi,hib⟩:=Option.map_eq_some_iff.1 hby
 have mB : ¬(0+n≤0):=by omega
 have hN:=nextslicecap_le (0+n) 0 (by omega)
 have h4:n*(bytes+1)=n*bytes+n:=by rw[Nat.mul_add,Nat.mul_one]
 have Vv : ¬(Builtin.nextslicecap (0+n) 0*bytes > 2 ^ 48):=by
  have h2:Builtin.nextslicecap (0+n) 0*bytes≤(2*(0+n)+1024)*bytes:=Nat.mul_le_mul_right _ hN
  have h3:(2*(0+n)+1024)*bytes=2*(n*bytes)+1024*bytes:=by rw[Nat.zero_add,Nat.add_mul,Nat.mul_assoc]
  unfold aI at jv
  omega
 have Vy : ¬((0+n:Nat):Int) > IntKind.i64.max:=by
  unfold aI at jv
  have e:IntKind.i64.max=9223372036854775807:=by decide
  rw[e];omega
 have W4:IntKind.i64.wrap (n:Int)=(n:Int):=sj n (by unfold aI at jv;omega)
 let q:=Question.appendCap n 0 elem
 have VB:n≤q.cut (w.tape w.drawn q):=Nat.le_add_right _ _
 refine⟨w.drawn+1,q.cut (w.tape w.drawn q),(Builtin.zeroCells z.cells (q.cut (w.tape w.drawn q) - n)).toList,?_,VB,by simp[Builtin.zeroCells]⟩
 have e0:(#[Value.slice none 0 0,Value.int k n]:Array Value)[0]?=some (.slice none 0 0):=rfl
 have e1:(#[Value.slice none 0 0,Value.int k n]:Array Value)[1]?=some (.int k n):=rfl
 have hl0 : ¬((n:Int)<0):=by omega
 have hl1 : ¬((n:Int)*(bytes:Int) > 2 ^ 48):=by
  have:(n:Int)*(bytes:Int)=((n*bytes:Nat):Int):=by simp
  rw[this]
  unfold aI at jv
  omega
 have hns : ¬(n*size=0):=by
  have:=Nat.mul_pos hn hs0
  omega
 have hold : ∀d,(Builtin.firstCells size 0 (.slice none 0 0)).run P { w with drawn:=d }=.ok #[] { w with drawn:=d }:=fun d=>rfl
 simp only[Builtin.append_,h0,h1,e0,e1,Sem.run_bind,Go.run_underlying hst,Result.andThen_ok,cd w hsz,Go.run_underlying hxt,Sem.run_pure,asInt,asIntOf,W4,if_true,if_neg hl0,run_typeInfo w hi,hib,if_neg hl1,Int.toNat_natCast,mB,if_false,true_or]
 rw[if_neg (fun h=>Vy h.1)]
 simp only[Sem.run_bind,run_typeInfo w hi,hib,Result.andThen_ok]
 rw[if_neg Vv]
 simp only[Sem.run_bind,run_typeInfo _ hi,Result.andThen_ok,run_choose,Question.forced,Bool.false_eq_true,if_false,run_askRoom,hold,Bool.not_true,if_neg hns,dP _ hz,Sem.run_pure,Go.newRow,run_newObj,Nat.zero_add,xq z.cells n (by omega)]
 have VM : ∀Z:Array Value,(#[]:Array Value) ++ (bS n z.cells.toList).toArray ++ Z=(bS n z.cells.toList ++ Z.toList).toArray:=fun Z=>by rw[←Array.toList_inj];simp
 rw[VM]
 rfl
theorem Rel.mW {B:Nat} {w0:World} {m:Mp} {h h':IH} {w:World} (R:Rel B w0 m h w) (P:Program) {ts:Array TypeId} {ty st xt:TypeId} {ik:IntKind} {s s' x x' v:Value}
  (h0:ts[0]?=some st) (h1:ts[1]?=some xt) (hxt:P.underlying xt=some (.int ik)) (ha:mW P h st s x=some (v,h')) (hs:aC m s s') (hx:aC m x x') (cB:dX m h.n h'.n) :
  ∃v' m' w',(Builtin.append_ ts ty #[s',x']).run P w=.ok v' w'∧aC m' v v'∧Rel B w0 m' h' w'∧Step m h w m' h' w':=by
 unfold Id.mW at ha
 cases hst:P.underlying st with
 | none=>simp[hst] at ha
 | some d =>
  rw[hst] at ha
  cases d with
  | slice elem =>
   cases hsz:aJ P elem with
   | none=>simp[hsz] at ha
   | some size =>
   cases hby:gM P elem with
   | none=>simp[hsz,hby] at ha
   | some bytes =>
   cases hz:aB P elem with
   | none=>simp[hsz,hby,hz] at ha
   | some zs =>
   cases hn:iq x aI with
   | none=>simp[hsz,hby,hz,hn] at ha
   | some n =>
   obtain⟨z,hz0,hzp,rfl⟩:=cR hz
   obtain⟨k,rfl,hn1⟩:=iL hn hx
   simp only[hsz,hby,hz,hn,cond_eq_ite] at ha
   split at ha
   ·rename_i a c
    split at ha
    ·rename_i hc
     cases ha
     simp only[Bool.and_eq_true,beq_iff_eq,Nat.ble_eq,Nat.blt_eq] at hc
     obtain⟨⟨⟨⟨rfl,rfl⟩,hn0,hs0⟩,Ie,hzl⟩,fK,jv⟩:=hc
     obtain⟨_,_,rfl⟩:=hs.kU
     have hzs:z.cells.size=size:=by simpa using hzl
     obtain⟨d,iK,rest,bB,mB,mg⟩:=vg P w ts ty st xt elem ik k size bytes z n h0 h1 hst hxt hsz hby hz0 hn0 hs0 hzs Ie jv
     have hm0:m (2*h.n)=none:=cB h.n (Nat.le_refl _) (Nat.lt_succ_self _)
     have hL:bz m (bS n z.cells.toList) (bS n z.cells.toList):=bz.bS (aC.bT (m:=m) hzp).cells n
     have hlen:(bS n z.cells.toList).length=n*size:=by rw[mJ,hzl]
     have Kb:Rel B w0 m h { w with drawn:=d }:=R.congr rfl (jO R.below d)
     obtain⟨R1,S1⟩:=Kb.new (.cells (bS n z.cells.toList) size none) (.cells (bS n z.cells.toList ++ rest).toArray elem) (size,(bS n z.cells.toList ++ rest).length) hm0
      ⟨(bS n z.cells.toList ++ rest).toArray,elem,by rw[heap_alloc,if_pos rfl],⟨by simp,fun i v hi=>by
       obtain⟨v',a,b⟩:=hL.get hi
       refine⟨v',?_,b⟩
       have hi':i<(bS n z.cells.toList).length:=by
        rcases Nat.lt_or_ge i (bS n z.cells.toList).length with h|h
        ·exact h
        ·rw[List.getElem?_eq_none h] at a;cases a
       simp only[List.getElem?_toArray,Nat.zero_add]
       rw[List.getElem?_append_left hi'];exact a⟩,rfl,by simp⟩ rfl
     refine⟨_,_,_,bB,?_,R1,S1.congr rfl⟩
     exact aC.slice (m:=m.upd (2*h.n) (w.heap.size,0) (size,(bS n z.cells.toList ++ rest).length)) (b:=2*h.n) (o:=0) (r:=w.heap.size) (s:=0) (len:=n) (k:=2*n) (cap:=iK) (Mp.bm _ _ _ _) (by omega) (by omega) (by omega) (by omega) (by intro _;rw[Mp.kW];simp only[List.length_append,mg,hlen,hzs];rw[←Nat.add_mul];simp only[Nat.zero_add];exact Nat.mul_le_mul_right _ (by omega))
    ·cases ha
   ·cases ha
  | _=>simp at ha
end Go.Id

namespace Go.Id
open Go Go.RowKit
theorem qj {m:Mp} {fr:Fr} {ρ:Operand→Value} (hρ : ∀x v,opd fr x=some v→aC m v (ρ x)) : ∀(l:List Operand) (vs:List Value),gh fr l=some vs→bz m vs (l.map ρ)
 | [],vs,h=>by simp only[gh] at h;cases h;exact .nil m
 | x :: l,vs,h=>by
  rw[gh] at h
  cases hx:opd fr x with
  | none=>simp[hx] at h
  | some v =>
   cases hl:gh fr l with
   | none=>simp[hx,hl] at h
   | some vs' =>
    simp only[hx,hl] at h;cases h
    exact .cons (hρ x v hx) (qj hρ l vs' hl)
theorem sM {m:Mp} {fr:Fr} {ρ:Operand→Value} (hρ : ∀x v,opd fr x=some v→aC m v (ρ x)) {o:Option Operand} {v:Option Value} (h:cY fr o=some v):gO m v (o.map ρ):=by
 cases o with
 | none=>simp only[cY] at h;cases h;trivial
 | some x =>
  simp only[cY] at h
  obtain⟨u,hu,rfl⟩:=Option.map_eq_some_iff.1 h
  exact hρ x u hu
theorem Lp {P:Program} {m:Mp} {op:BinOp} {t:TypeId} {ox oy:Operand} {x y x' y' v:Value} (h:binop P op t ox oy x y=some v) (hx:aC m x x') (hy:aC m y y') (w:World) :
  (do eqGuard op t ox oy x' y';Go.binOp op t x' y':Sem Value).run P w=.ok v w∧plain v=true:=by
 unfold binop at h
 simp only[cond_eq_ite] at h
 by_cases hp:(plain x && plain y)=true
 ·rw[if_pos hp] at h
  simp only[Bool.and_eq_true] at hp
  rw[hx.cW hp.1,hy.cW hp.2]
  obtain⟨a,b⟩:=gG h
  exact⟨b w,a⟩
 ·rw[if_neg hp] at h
  have guard : ∀(op:BinOp) {b:Bool},uj P t x y=some b→(eqGuard op t ox oy x' y').run P w=.ok () w:=by
   intro op b hb
   have hd : ∃d,sV d x y=some b:=by
    unfold uj at hb
    split at hb
    ·exact⟨_,hb⟩
    ·cases hb
   obtain⟨d,hd⟩:=hd
   unfold sV at hd
   split at hd<;>cases hd<;>cases hx<;>cases hy<;>first
    | (simp_all [Id.bJ];done)
    | (unfold eqGuard;split<;>rfl)
  have TO : ∀{b:Bool},uj P t x y=some b→(∀o,Go.binOp .eql t x' y'=(do pure (.bool (←Op.equal t x' y')))∨o)∧(∀o,Go.binOp .neq t x' y'=(do pure (.bool (!(←Op.equal t x' y'))))∨o):=by
   intro b hb
   have hd : ∃d,sV d x y=some b:=by
    unfold uj at hb
    split at hb
    ·exact⟨_,hb⟩
    ·cases hb
   obtain⟨d,hd⟩:=hd
   unfold sV at hd
   split at hd<;>cases hd<;>cases hx<;>cases hy<;>first
    | (simp_all [Id.bJ];done)
    | exact⟨fun _=>.inl rfl,fun _=>.inl rfl⟩
  cases op with
  | eql =>
   simp only at h
   obtain⟨b,hb,rfl⟩:=Option.map_eq_some_iff.1 h
   refine⟨?_,rfl⟩
   have e:=((TO hb).1 False).resolve_right id
   simp[guard _ hb,e,Bl hb hx hy w]
  | neq =>
   simp only at h
   obtain⟨b,hb,rfl⟩:=Option.map_eq_some_iff.1 h
   refine⟨?_,rfl⟩
   have e:=((TO hb).2 False).resolve_right id
   simp[guard _ hb,e,Bl hb hx hy w]
  | _=>cases h
theorem Rel.qo {B:Nat} {w0:World} {m:Mp} {h:IH} {w:World} (R:Rel B w0 m h w) (P:Program) {t:TypeId} {ts:Array TypeId} {ty:TypeId} {x x' v:Value} (hl:qo P h t x=some v) (ht:ts[0]?=some t) (hx:aC m x x') :
  (Builtin.len_ ts ty #[x']).run P w=.ok v w∧plain v=true:=by
 unfold Id.qo at hl
 have e0:(#[x']:Array Value)[0]?=some x':=rfl
 split at hl
 ·rename_i hu;cases hl
  have:=hx.ct rfl;subst this
  exact⟨by simp[Builtin.len_,ht,Go.run_underlying hu,goInt],rfl⟩
 ·rename_i n e hu;cases hl
  exact⟨by simp[Builtin.len_,ht,Go.run_underlying hu,goInt],rfl⟩
 ·rename_i a hu
  split at hl
  ·rename_i n e hu2;cases hl
   exact⟨by simp[Builtin.len_,ht,Go.run_underlying hu,Go.run_underlying hu2,goInt],rfl⟩
  ·cases hl
 ·rename_i e a n c hu;cases hl
  obtain⟨a',c',rfl⟩:=vE hx (show Id.lenOf (.slice a n c)=some n from rfl)
  exact⟨by simp[Builtin.len_,ht,Go.run_underlying hu,goInt],rfl⟩
 ·rename_i k e hu;cases hl
  have:=hx.ct rfl;subst this
  exact⟨by simp[Builtin.len_,ht,Go.run_underlying hu,goInt],rfl⟩
 ·rename_i k e r hu
  obtain⟨es,hes,rfl⟩:=Option.map_eq_some_iff.1 hl
  cases hx with
  | bJ h=>simp[Id.bJ] at h
  | map hm =>
   obtain⟨_,_,c,nY,hcm⟩:=R.BL hes hm
   exact⟨by simp[Builtin.len_,ht,Go.run_underlying hu,run_getObj_map P nY,goInt,hcm.1],rfl⟩
 ·cases hl
theorem Rd {m:Mp} {x:Value} {vs':Array Value} (hv:bz m [x] vs'.toList) : ∃x',vs' = #[x']∧aC m x x':=by
 obtain⟨l⟩:=vs'
 match l,hv with
 | [x'],hv=>exact⟨x',rfl,hv.2 0 x x' rfl rfl⟩
 | [],hv=>have:=hv.1;simp at this
 | _ :: _ :: _,hv=>have:=hv.1;simp at this
theorem Uo {m:Mp} {x y:Value} {vs':Array Value} (hv:bz m [x,y] vs'.toList) : ∃x' y',vs' = #[x',y']∧aC m x x'∧aC m y y':=by
 obtain⟨l⟩:=vs'
 match l,hv with
 | [x',y'],hv=>exact⟨x',y',rfl,hv.2 0 x x' rfl rfl,hv.2 1 y y' rfl rfl⟩
 | [],hv=>have:=hv.1;simp at this
 | [_],hv=>have:=hv.1;simp at this
 | _ :: _ :: _ :: _,hv=>have:=hv.1;simp at this
theorem bz.cW {m:Mp} : ∀{l l':List Value},bz m l l'→l.all plain=true→l'=l
 | [],[],_,_=>rfl
 | [],_ :: _,h,_=>by have:=h.1;simp at this
 | _ :: _,[],h,_=>by have:=h.1;simp at this
 | a :: l,b :: l',h,hp=>by
  simp only[List.all_cons,Bool.and_eq_true] at hp
  rw[(h.2 0 a b rfl rfl).cW hp.1,bz.cW (l:=l) (l':=l') ⟨by have:=h.1;simpa using this,fun i v v' x y=>h.2 (i+1) v v' (by simpa using x) (by simpa using y)⟩ hp.2]
theorem Rel.builtin {B:Nat} {w0:World} {m:Mp} {h h':IH} {w:World} (R:Rel B w0 m h w) (P:Program) {b:Builtin} {ts:Array TypeId} {ty:TypeId} {consts:Array Bool} {vs:List Value} {vs':Array Value} {v:Value}
  (hb:Id.builtin P h b ts vs=some (v,h')) (hv:bz m vs vs'.toList) (cB:dX m h.n h'.n) :
  GI B w0 m h w ((Go.builtin b ts ty consts vs').run P w) v h':=by
 unfold Id.builtin at hb
 split at hb
 ·-- len
  rename_i x
  obtain⟨x',rfl,hx⟩:=Rd hv
  cases hts:ts[0]? with
  | none=>simp[hts] at hb
  | some t =>
   simp only[hts] at hb
   obtain⟨u,hu,he⟩:=Option.map_eq_some_iff.1 hb
   cases he
   obtain⟨h1,h2⟩:=R.qo P (ty:=ty) hu hts hx
   exact .quiet R (by simp[Go.builtin,h1]) (.bT h2)
 ·-- append
  rename_i s x
  obtain⟨s',x',rfl,hs,hx⟩:=Uo hv
  simp only[cond_eq_ite] at hb
  by_cases hsl:cM P ts[1]?=true
  ·rw[if_pos hsl] at hb
   cases hts:ts[0]? with
   | none=>simp[hts] at hb
   | some st =>
    simp only[hts] at hb
    have hxt : ∃xt xe,ts[1]?=some xt∧P.underlying xt=some (.slice xe):=by
     unfold cM at hsl
     split at hsl
     ·rename_i xt h1
      split at hsl
      ·rename_i xe h2;exact⟨xt,xe,h1,h2⟩
      ·cases hsl
     ·cases hsl
    obtain⟨xt,xe,h1,h2⟩:=hxt
    obtain⟨v',m',w',hr,a,b,c⟩:=R.append P (ty:=ty) hts h1 h2 hb hs hx cB
    exact⟨_,v',m',w',by simp[Go.builtin,hr],.inl rfl,a,b,c⟩
  ·rw[if_neg hsl] at hb
   by_cases hil:Dp P ts[1]?=true
   ·rw[if_pos hil] at hb
    cases hts:ts[0]? with
    | none=>simp[hts] at hb
    | some st =>
     simp only[hts] at hb
     have hxt : ∃xt ik,ts[1]?=some xt∧P.underlying xt=some (.int ik):=by
      unfold Dp at hil
      split at hil
      ·rename_i xt h1
       split at hil
       ·rename_i ik h2;exact⟨xt,ik,h1,h2⟩
       ·cases hil
      ·cases hil
     obtain⟨xt,ik,h1,h2⟩:=hxt
     obtain⟨v',m',w',hr,a,b,c⟩:=R.mW P (ty:=ty) hts h1 h2 hb hs hx cB
     exact⟨_,v',m',w',by simp[Go.builtin,hr],.inl rfl,a,b,c⟩
   ·rw[if_neg hil] at hb;cases hb
 ·-- copy
  rename_i d s
  obtain⟨d',s',rfl,hd,hs⟩:=Uo hv
  cases hts:ts[0]? with
  | none=>simp[hts] at hb
  | some dt =>
   simp only[hts] at hb
   obtain⟨w',hr,a,b,c⟩:=R.copy P (ty:=ty) hts hb hd hs
   exact⟨_,_,m,w',by simp[Go.builtin,hr],.inl rfl,a,b,c⟩
 ·-- clear
  rename_i x
  obtain⟨x',rfl,hx⟩:=Rd hv
  cases hts:ts[0]? with
  | none=>simp[hts] at hb
  | some t =>
   simp only[hts] at hb
   obtain⟨w',hr,a,b,c⟩:=R.clear P (ty:=ty) hts hb hx
   exact⟨_,_,m,w',by simp[Go.builtin,hr],.inl rfl,a,b,c⟩
 ·-- cap
  rename_i x
  obtain⟨x',rfl,hx⟩:=Rd hv
  cases hts:ts[0]? with
  | none=>simp[hts] at hb
  | some t =>
   simp only[hts] at hb
   obtain⟨u,hu,he⟩:=Option.map_eq_some_iff.1 hb
   cases he
   obtain⟨h1,h2⟩:=Rel.cap (w:=w) P (ty:=ty) hts hu hx
   exact .quiet R (by simp[Go.builtin,h1]) (.bT h2)
 ·simp only[cond_eq_ite] at hb
  by_cases hp:vs.all plain=true
  ·rw[if_pos hp] at hb
   obtain⟨u,hu,he⟩:=Option.map_eq_some_iff.1 hb
   cases he
   obtain⟨h1,h2⟩:=gG hu
   have e:vs'=vs.toArray:=by rw[←hv.cW hp]
   subst e
   exact .quiet R (by simp only[Go.builtin,Sem.run_bind];rw[show(Builtin.max_ ts ty vs.toArray)=(Builtin.max_ ts 0 vs.toArray) from rfl,h2 w];rfl) (.bT h1)
  ·rw[if_neg hp] at hb;cases hb
 ·simp only[cond_eq_ite] at hb
  by_cases hp:vs.all plain=true
  ·rw[if_pos hp] at hb
   obtain⟨u,hu,he⟩:=Option.map_eq_some_iff.1 hb
   cases he
   obtain⟨h1,h2⟩:=gG hu
   have e:vs'=vs.toArray:=by rw[←hv.cW hp]
   subst e
   exact .quiet R (by simp only[Go.builtin,Sem.run_bind];rw[show(Builtin.min_ ts ty vs.toArray)=(Builtin.min_ ts 0 vs.toArray) from rfl,h2 w];rfl) (.bT h1)
  ·rw[if_neg hp] at hb;cases hb
 ·cases hb
end Go.Id

namespace Go.Id
open Go Go.RowKit
set_option maxHeartbeats 16000000
theorem aC.lP {m:Mp} {a:Addr} {v':Value} (h:aC m (.pointer (some a)) v') : ∃a',v'=.pointer (some a'):=by
 cases h with
 | bJ h=>simp[Id.bJ] at h
 | ptr=>exact⟨_,rfl⟩
theorem aC.Sn {m:Mp} {r:Option Nat} {v':Value} (h:aC m (.map r) v') : ∃r',v'=.map r':=by
 cases h with
 | bJ h=>exact⟨_,rfl⟩
 | map=>exact⟨_,rfl⟩
theorem ML {c:Array MapEntry} {i:Nat} {e:MapEntry} (hb : ∀(j:Nat) (e':MapEntry),c[j]?=some e'→e'.born=j) (hi:c[i]?=some e):c.find? (fun x=>x.born == i)=some e:=by
 have hil:i<c.size:=by
  rcases Nat.lt_or_ge i c.size with h|h
  ·exact h
  ·rw[Array.getElem?_eq_none h] at hi;cases hi
 rw[Array.find?_eq_some_iff_getElem]
 refine⟨by simp[hb i e hi],i,hil,?_,?_⟩
 ·rw[Array.getElem?_eq_getElem hil] at hi;exact Option.some.inj hi
 ·intro j hj
  have:=hb j c[j] (Array.getElem?_eq_getElem (by omega))
  simp[this];omega
theorem pD (P:Program) {w:World} {r:Nat} {a:Option Nat} {b d:Nat} {c:Array Nat} (h:w.heap[r]?=some (.mapIter a b c d)):(getObj r).run P w=.ok (.mapIter a b c d) w:=by
 simp only[getObj,Sem.run,h]
theorem qJ.born {m:Mp} {es:List (Value×Value)} {c:Array MapEntry} (h:qJ m es c) (j:Nat) (e':MapEntry) (he:c[j]?=some e'):e'.born=j:=by
 have hj:j<c.size:=by
  rcases Nat.lt_or_ge j c.size with h|h
  ·exact h
  ·rw[Array.getElem?_eq_none h] at he;cases he
 have hj2:j<es.length:=by have:=h.1;omega
 exact(h.2 j es[j] e' (List.getElem?_eq_getElem hj2) he).2
theorem Sy {B:Nat} {w0:World} {m:Mp} {h h':IH} {w:World} (R:Rel B w0 m h w) (P:Program) {fr:Fr} {ρ:Operand→Value} (hρ : ∀x v,opd fr x=some v→aC m v (ρ x)) (oper:Oper) {v:Value}
  (hi:iop P fr oper.op h=some (v,h')) (cB:dX m h.n h'.n):GI B w0 m h w ((execOp ρ oper).run P w) v h':=by
 obtain⟨dst,op,ty,pos,aft,gd⟩:=oper
 simp only at hi ⊢
 have q : ∀{x:Operand} {u:Value},(opd fr x).map (·,h)=some (v,h')→h'=h∧aC m v (ρ x):=by
  intro x u hx
  obtain⟨a,ha,he⟩:=Option.map_eq_some_iff.1 hx
  cases he;exact⟨rfl,hρ x _ ha⟩
 unfold iop at hi
 split at hi
 ·-- move
  obtain⟨rfl,hv⟩:=q (u:=.nilFunc) hi
  exact .quiet R (by simp[execOp]) hv
 ·obtain⟨rfl,hv⟩:=q (u:=.nilFunc) hi
  exact .quiet R (by simp[execOp]) hv
 ·-- pick
  rename_i c a b
  split at hi
  ·rename_i hc
   obtain⟨rfl,hv⟩:=q (u:=.nilFunc) hi
   have:=(hρ c _ hc).ct rfl
   exact .quiet R (by simp[execOp,this,asBool]) hv
  ·rename_i hc
   obtain⟨rfl,hv⟩:=q (u:=.nilFunc) hi
   have:=(hρ c _ hc).ct rfl
   exact .quiet R (by simp[execOp,this,asBool]) hv
  ·cases hi
 ·-- alloc
  rename_i t
  obtain⟨z,hz,he⟩:=Option.map_eq_some_iff.1 hi
  cases he
  obtain⟨zv,hz0,hzp,rfl⟩:=cR hz
  obtain⟨R1,S1⟩:=R.newRow (cB h.n (Nat.le_refl _) (Nat.lt_succ_self _)) (aC.bT (m:=m) hzp).cells 0 t
  refine⟨.value (.pointer (some ⟨w.heap.size,0,none⟩)),_,_,_,?_,.inl rfl,?_,R1,S1⟩
  ·simp only[execOp,Instr.alloc,Sem.run_bind,dP w hz0,Result.andThen_ok,newVar,Go.newRow,run_newObj,Sem.run_pure];rfl
  ·exact aC.ptr (s:=0) (o:=0) (Mp.bm _ _ _ _)
 ·-- box
  rename_i t x
  obtain⟨a,ha,he⟩:=Option.map_eq_some_iff.1 hi
  cases he
  have hv:=hρ x a ha
  obtain⟨R1,S1⟩:=R.newRow (cB h.n (Nat.le_refl _) (Nat.lt_succ_self _)) hv.cells 0 t
  refine⟨.value (.pointer (some ⟨w.heap.size,0,none⟩)),_,_,_,?_,.inl rfl,?_,R1,S1⟩
  ·simp only[execOp,Instr.box,Sem.run_bind,Result.andThen_ok,newVar,Go.newRow,run_newObj,Sem.run_pure];rfl
  ·exact aC.ptr (s:=0) (o:=0) (Mp.bm _ _ _ _)
 ·-- build
  rename_i t parts
  split at hi
  ·rename_i z ps hz hps
   simp only[cond_eq_ite] at hi
   by_cases ha:bU P t=true
   ·rw[if_pos ha] at hi
    obtain⟨cs,hcs,he⟩:=Option.map_eq_some_iff.1 hi
    cases he
    obtain⟨cs',h1,h2⟩:=Lo hρ hz hps ha hcs w
    exact .quiet R (by simp only[execOp,Sem.run_bind,h1];rfl) h2
   ·rw[if_neg ha] at hi;cases hi
  ·cases hi
 ·-- buildSlice
  rename_i t len parts
  split at hi
  ·rename_i ps hps
   obtain⟨v',m',w',h1,h2,h3,h4⟩:=(ot P hρ hps hi w).rel R cB
   exact⟨_,v',m',w',by simp only[execOp,Sem.run_bind,h1];rfl,.inl rfl,h2,h3,h4⟩
  ·cases hi
 ·-- load
  rename_i t x
  split at hi
  ·rename_i a ha
   obtain⟨u,hu,he⟩:=Option.map_eq_some_iff.1 hi
   cases he
   obtain⟨v',h1,h2⟩:=R.load hu (hρ x a ha)
   exact .quiet R (by simp[execOp,h1]) h2
  ·cases hi
 ·-- store
  rename_i t x y
  split at hi
  ·rename_i a u ha hu
   obtain⟨hx,hhx,he⟩:=Option.map_eq_some_iff.1 hi
   cases he
   obtain⟨w',h1,h2,h3⟩:=R.store hhx (hρ x a ha) (hρ y u hu)
   exact⟨.skip,undef,m,w',by simp[execOp,h1],.inr ⟨rfl,rfl⟩,.undef m,h2,h3⟩
  ·cases hi
 ·-- nilCheck
  rename_i x
  split at hi
  ·rename_i a ha
   cases hi
   have hv:=hρ x _ ha
   obtain⟨a',e⟩:=hv.lP
   exact .quiet R (v':=ρ x) (by simp[execOp,e]) hv
  ·rename_i f xs ys ha
   cases hi
   have hv:=hρ x _ ha
   obtain⟨fn',xs',ys',e,hf,h1,h2⟩:=hv.uB
   cases fn'<;>simp[qL] at hf
   subst hf
   exact .quiet R (v':=ρ x) (by simp[execOp,e]) hv
  ·rename_i f xs ys ha
   cases hi
   have hv:=hρ x _ ha
   obtain⟨fn',xs',ys',e,hf,h1,h2⟩:=hv.uB
   cases fn'<;>simp[qL] at hf
   exact .quiet R (v':=ρ x) (by simp[execOp,e]) hv
  ·rename_i r ha
   cases hi
   have hv:=hρ x _ ha
   obtain⟨r',e⟩:=hv.Sn
   exact .quiet R (v':=ρ x) (by simp[execOp,e]) hv
  ·cases hi
 ·-- binOp
  rename_i op t x y yt
  split at hi
  ·rename_i a b ha hb
   obtain⟨u,hu,he⟩:=Option.map_eq_some_iff.1 hi
   cases he
   obtain⟨h1,h2⟩:=Lp hu (hρ x a ha) (hρ y b hb) w
   exact .quiet R (by simp only[execOp,Sem.run_bind] at h1 ⊢;rw[h1];rfl) (.bT h2)
  ·cases hi
 ·-- unOp
  rename_i op t x
  split at hi
  ·rename_i a ha
   simp only[cond_eq_ite] at hi
   by_cases hp:plain a=true
   ·rw[if_pos hp] at hi
    obtain⟨u,hu,he⟩:=Option.map_eq_some_iff.1 hi
    cases he
    obtain⟨h1,h2⟩:=gG hu
    exact .quiet R (by simp only[execOp,(hρ x a ha).cW hp,Sem.run_bind,h2 w];rfl) (.bT h1)
   ·rw[if_neg hp] at hi;cases hi
  ·cases hi
 ·-- convert
  rename_i s d x
  split at hi
  ·rename_i a ha
   simp only[cond_eq_ite] at hi
   by_cases hp:plain a=true
   ·rw[if_pos hp] at hi
    obtain⟨u,hu,he⟩:=Option.map_eq_some_iff.1 hi
    cases he
    obtain⟨h1,h2⟩:=gG hu
    exact .quiet R (by simp only[execOp,(hρ x a ha).cW hp,Sem.run_bind,h2 w];rfl) (.bT h1)
   ·rw[if_neg hp] at hi;cases hi
  ·cases hi
 ·-- sliceToArrayPointer
  rename_i t x
  split at hi
  ·rename_i n e b o len k hu ha
   simp only[cond_eq_ite] at hi
   by_cases hc:(Nat.ble n len && Nat.blt 0 k)=true
   ·rw[if_pos hc] at hi;cases hi
    simp only[Bool.and_eq_true,Nat.ble_eq,Nat.blt_eq] at hc
    rcases(hρ x _ ha).dA with⟨r,s,cap,hm,_,_,_,_,_,e⟩|⟨_,hk,_⟩
    ·exact .quiet R (v':=.pointer (some ⟨r,s+o,none⟩)) (by simp[execOp,e,Instr.arrayAt,Go.run_underlying hu];omega) (.ptr hm)
    ·omega
   ·rw[if_neg hc] at hi;cases hi
  ·cases hi
 ·-- makeFunc
  rename_i fn first cap
  split at hi
  ·rename_i a b ha hb
   split at hi
   ·rename_i f
    cases hi
    have h1:=qj hρ _ _ ha
    have h2:=qj hρ _ _ hb
    exact .quiet R (v':=.func (.func f) (first.map ρ) (cap.map ρ)) (by simp[execOp,Instr.makeFunc]) (aC.Dz rfl (by simpa using h1) (by simpa using h2))
   ·cases hi
  ·cases hi
 ·-- makeMap
  rename_i t r
  have fin : ∀{v h'},some (Value.map (some (2*h.n)),h.new (.map []))=some (v,h')→dX m h.n h'.n→((Instr.makeMap t (r.map ρ)).run P w=.ok (.map (some w.heap.size)) (w.alloc (.map #[] 0))) →
    GI B w0 m h w ((execOp ρ { dst:=dst,op:=.makeMap t r,type:=ty,pos:=pos,after:=aft,guard:=gd }).run P w) v h':=by
   intro v h' e cB bB
   cases e
   obtain⟨R1,S1⟩:=R.new (.map []) (.map #[] 0) (0,0) (cB h.n (Nat.le_refl _) (Nat.lt_succ_self _)) ⟨rfl,#[],by rw[heap_alloc,if_pos rfl];rfl,rfl,by simp⟩ rfl
   exact⟨.value (.map (some w.heap.size)),_,_,_,by simp[execOp,bB],.inl rfl,.map (Mp.bm _ _ _ _),R1,S1⟩
  split at hi
  ·exact fin hi cB (by simp only[Option.map_none,Instr.makeMap,Sem.run_bind,Sem.run_pure,Result.andThen_ok,run_newObj];rfl)
  ·rename_i x
   split at hi
   ·rename_i k n kt et hx hu
    have:=(hρ x _ hx).ct rfl
    exact fin hi cB (by simp only[Option.map_some,this,Instr.makeMap,Sem.run_bind,Go.run_underlying hu,asInt,asIntOf,Sem.run_pure,Result.andThen_ok,run_newObj];rfl)
   ·cases hi
 ·-- makeSlice
  rename_i t l c
  split at hi
  ·rename_i a b ha hb
   obtain⟨v',m',w',h1,h2,h3,h4⟩:=(pF P hi (hρ l a ha) (hρ c b hb) w).rel R cB
   exact⟨_,v',m',w',by simp only[execOp,Sem.run_bind,h1];rfl,.inl rfl,h2,h3,h4⟩
  ·cases hi
 ·-- slice
  rename_i t x lo hi' mx
  split at hi
  ·rename_i a b c d ha hb hc hd
   obtain⟨u,hu,he⟩:=Option.map_eq_some_iff.1 hi
   cases he
   obtain⟨v',h1,h2⟩:=R.cy P hu (hρ x a ha) (sM hρ hb) (sM hρ hc) (sM hρ hd)
   exact .quiet R (by simp only[execOp,Sem.run_bind,h1];rfl) h2
  ·cases hi
 ·-- fieldAddr
  rename_i t x f
  split at hi
  ·rename_i a fd ha hf
   split at hi
   ·rename_i b o n hA hS
    simp only[cond_eq_ite,beq_iff_eq] at hi
    by_cases h0:n=0
    ·rw[if_pos h0] at hi;cases hi
    ·rw[if_neg h0] at hi;cases hi
     have hp:a=.pointer (some ⟨b,o,none⟩):=by unfold Id.asAddr at hA;split at hA<;>simp_all
     subst hp
     obtain⟨r,s,hm,e⟩:=(hρ x _ ha).jU
     unfold fl at hf
     cases hu:P.underlying t with
     | none=>simp[hu] at hf
     | some d =>
      rw[hu] at hf
      cases d with
      | struct fs =>
       simp only at hf
       refine .quiet R (v':=.pointer (some ⟨r,s+(o+fd.offset),none⟩)) ?_ (.ptr hm)
       simp[execOp,e,Instr.fieldAt,Go.run_underlying hu,hf,Instr.sureAddr,fieldPlace,cd w hS,h0,kE,Nat.add_assoc]
      | _=>simp at hf
   ·cases hi
  ·cases hi
 ·-- field
  rename_i t x f
  split at hi
  ·rename_i cs fd ha hf
   obtain⟨u,hu,he⟩:=Option.map_eq_some_iff.1 hi
   cases he
   obtain⟨cs',e,hL⟩:=(hρ x _ ha).pk
   obtain⟨v',h1,h2⟩:=EM P hu hL w
   unfold fl at hf
   cases hut:P.underlying t with
   | none=>simp[hut] at hf
   | some d =>
    rw[hut] at hf
    cases d with
    | struct fs =>
     simp only at hf
     exact .quiet R (by simp[execOp,e,Instr.field,Go.run_underlying hut,hf,asAgg,h1]) h2
    | _=>simp at hf
  ·cases hi
 ·-- indexAddr
  rename_i t x i
  split at hi
  ·rename_i a b ha hb
   obtain⟨u,hu,he⟩:=Option.map_eq_some_iff.1 hi
   cases he
   obtain⟨v',h1,h2⟩:=AD P hu (hρ x a ha) (hρ i b hb) w
   exact .quiet R (by simp only[execOp,Sem.run_bind,h1];rfl) h2
  ·cases hi
 ·-- index
  rename_i t x i
  split at hi
  ·rename_i cs b ha hb
   split at hi
   ·rename_i n e j hu hj
    simp only[cond_eq_ite,Nat.blt_eq] at hi
    by_cases hlt:j<n
    ·rw[if_pos hlt] at hi
     split at hi
     ·rename_i size hS
      obtain⟨u,hu2,he⟩:=Option.map_eq_some_iff.1 hi
      cases he
      obtain⟨cs',e1,hL⟩:=(hρ x _ ha).pk
      obtain⟨k,e2⟩:=vH (hρ i b hb) hj
      obtain⟨v',h1,h2⟩:=EM P hu2 hL w
      refine .quiet R (v':=v') ?_ h2
      have h3:(0:Int)≤Int.ofNat j∧Int.ofNat j<(n:Int):=by constructor<;>simp<;>omega
      simp only[execOp,e1,e2,Instr.index,asIntOf,Sem.run_bind,Sem.run_pure,Result.andThen_ok,Go.run_underlying hu]
      rw[if_pos h3]
      simp[cd w hS,h1]
     ·cases hi
    ·rw[if_neg hlt] at hi;cases hi
   ·cases hi
  ·rename_i s b ha hb
   simp only[cond_eq_ite] at hi
   by_cases hp:plain b=true
   ·rw[if_pos hp] at hi
    obtain⟨u,hu,he⟩:=Option.map_eq_some_iff.1 hi
    cases he
    obtain⟨h1,h2⟩:=gG hu
    have e1:=(hρ x _ ha).ct rfl
    exact .quiet R (by simp only[execOp,(hρ i b hb).cW hp,e1,Sem.run_bind,h2 w];rfl) (.bT h1)
   ·rw[if_neg hp] at hi;cases hi
  ·cases hi
 ·-- lookup
  rename_i t x k ok
  split at hi
  ·rename_i a b ha hb
   obtain⟨u,hu,he⟩:=Option.map_eq_some_iff.1 hi
   cases he
   obtain⟨v',h1,h2⟩:=R.lookup P hu (hρ x a ha) (hρ k b hb)
   exact .quiet R (by simp only[execOp,Sem.run_bind,h1];rfl) h2
  ·cases hi
 ·-- mapUpdate
  rename_i t x k y
  split at hi
  ·rename_i a b c ha hb hc
   obtain⟨hx,hhx,he⟩:=Option.map_eq_some_iff.1 hi
   cases he
   obtain⟨w',h1,h2,h3⟩:=R.mapUpdate P hhx (hρ x a ha) (hρ k b hb) (hρ y c hc)
   exact⟨.skip,undef,m,w',by simp only[execOp,Sem.run_bind,h1];rfl,.inr ⟨rfl,rfl⟩,.undef m,h2,h3⟩
  ·cases hi
 ·-- insert
  rename_i t x k y
  split at hi
  ·rename_i a b c ha hb hc
   obtain⟨hx,hhx,he⟩:=Option.map_eq_some_iff.1 hi
   cases he
   obtain⟨w',h1,h2,h3⟩:=R.mapUpdate P hhx (hρ x a ha) (hρ k b hb) (hρ y c hc)
   exact⟨.skip,undef,m,w',by simp only[execOp,Sem.run_bind,h1];rfl,.inr ⟨rfl,rfl⟩,.undef m,h2,h3⟩
  ·cases hi
 ·-- extract
  rename_i x i
  split at hi
  ·rename_i vs ha
   obtain⟨u,hu,he⟩:=Option.map_eq_some_iff.1 hi
   cases he
   obtain⟨vs',e,hL⟩:=(hρ x _ ha).nD
   obtain⟨v',h1,h2⟩:=hL.get (i:=i) (by simpa using hu)
   have h3:vs'[i]?=some v':=by simpa using h1
   exact .quiet R (v':=v') (by simp[execOp,e,Instr.extract,h3]) h2
  ·cases hi
 ·-- range over a map
  rename_i t x
  split at hi
  ·rename_i kt et k hu hx
   obtain⟨es,hes,he⟩:=Option.map_eq_some_iff.1 hi
   cases he
   obtain⟨rm,s,hm,hρx⟩ : ∃rm s,m k=some (rm,s)∧ρ x=.map (some rm):=by
    have:=hρ x _ hx
    generalize ρ x=y at this
    cases this with
    | bJ h=>simp[Id.bJ] at h
    | map hm=>exact⟨_,_,hm,rfl⟩
   obtain⟨hg,hkk,c,nY,hcm⟩:=R.BL hes hm
   have hs0:s=0:=(R.obj (k / 2) _ rm s hg (by rw[hkk];exact hm)).1
   subst hs0
   obtain⟨R1,S1⟩:=R.new (.iter k es.length [] es.length) (.mapIter (some rm) es.length #[] es.length) (0,0) (cB h.n (Nat.le_refl _) (Nat.lt_succ_self _)) ⟨rfl,rm,by rw[heap_alloc,if_pos rfl],hm⟩ rfl
   refine⟨.value (.pointer (some ⟨w.heap.size,0,none⟩)),_,_,_,?_,.inl rfl,.ptr (s:=0) (o:=0) (Mp.bm _ _ _ _),R1,S1⟩
   simp only[execOp,Instr.range,hρx,Sem.run_bind,Go.run_underlying hu,Result.andThen_ok,run_getObj_map P nY,run_newObj,Sem.run_pure]
   rfl
  ·cases hi
 ·-- a map's entry
  rename_i x
  split at hi
  ·rename_i b hx
   simp only[cond_eq_ite,beq_iff_eq] at hi
   split at hi
   ·cases hi
   ·rename_i hb
    split at hi
    ·rename_i k since seen last hit
     split at hi
     ·rename_i es i hes Xe
      split at hi
      ·rename_i Xr
       obtain⟨e,hei,he⟩:=Option.map_eq_some_iff.1 hi
       cases he
       obtain⟨r,s,hm,hρx⟩:=(hρ x _ hx).jU
       obtain⟨hs0,rm,nY,hmk⟩:=R.obj (b / 2) _ r s hit (by rw[show 2*(b / 2)=b from by omega];exact hm)
       subst hs0
       obtain⟨hg,hkk,c,AN,hcm⟩:=R.BL hes hmk
       have hil:i<es.length:=by
        rcases Nat.lt_or_ge i es.length with h|h
        ·exact h
        ·rw[List.getElem?_eq_none h] at hei;cases hei
       have hic:i<c.size:=by have:=hcm.1;omega
       have hE:=(hcm.2 i e c[i] hei (Array.getElem?_eq_getElem hic)).1
       have uy:=ML hcm.born (Array.getElem?_eq_getElem hic)
       have zN:seen.toArray.back?=some i:=by rw[←Xe];simp[Array.back?,List.getLast?_eq_getElem?]
       refine .quiet R (v':=.tuple #[c[i].key,c[i].val]) ?_ (aC.fu (.cons ?_ (.cons hE.2.2 (.nil m))))
       ·subst Xr
        simp only[execOp,Instr.entry,hρx,Nat.zero_add,Sem.run_bind,pD P nY,zN,run_getObj_map P AN,Result.andThen_ok,bne_self_eq_false,Bool.false_eq_true,if_false,uy,Sem.run_pure]
       ·rw[hE.1];exact aC.bT hE.2.1
      ·cases hi
     ·cases hi
    ·cases hi
  ·cases hi
 ·-- call of a builtin
  rename_i c
  split at hi
  ·rename_i b hb
   split at hi
   ·rename_i vs hvs
    have hL:=qj hρ _ _ hvs
    have:=R.builtin P (ty:=ty) (consts:=c.args.map fun|.const _=>true|_=>false) (vs':=c.args.map ρ) hi (by simpa using hL) cB
    obtain⟨nx,v',m',w',h1,h2⟩:=this
    refine⟨nx,v',m',w',?_,h2⟩
    rw[←h1]
    simp only[execOp,resolve,hb,Sem.run_bind,Sem.run_pure,Result.andThen_ok,invoke]
    rfl
   ·cases hi
  ·cases hi
 ·cases hi
end Go.Id

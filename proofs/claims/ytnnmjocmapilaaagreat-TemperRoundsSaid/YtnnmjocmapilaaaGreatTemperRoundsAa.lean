/-
  Short names for theorems that come often, and proofs that come often as theorems with a de
-/
import Derived.KernelRfl
import Derived.Laws.Entries
import Derived.Laws.Sem
import Derived.Laws.Cells
import Derived.Laws.Externs
import Derived.Calls
import Derived.Control
import GoSem.Step
import Derived.Below
set_option linter.unusedVariables false
set_option linter.unusedSimpArgs false
set_option linter.defProp false
set_option linter.deprecated false
set_option linter.defProp false
set_option linter.deprecated false
namespace Go.Id
open Go
theorem aa {p:Prop} (h:p:=by omega):p:=h
theorem ab {p:Prop} (h:p:=by simp):p:=h
theorem aN {p:Prop} (h:p:=by assumption):p:=h
theorem aC {p:Prop} (h:p:=by decide):p:=h
theorem ae {p:Prop} (h:p:=by kernel_rfl):p:=h
theorem bX {p:Prop} (h:p:=by with_reducible assumption):p:=h
theorem bd {p:Prop} (h:p:=by simp <;> omega):p:=h
theorem aT {p:Prop} (h:p:=by simp; omega):p:=h
theorem cI {p:Prop} (h:p:=by decide +kernel):p:=h
theorem gh {p:Prop} (h:p:=by grind):p:=h
def Cp:=@Array.getD_eq_getD_getElem?
def oX:=@Array.getElem?_eq_getElem
def Co:=@Array.getElem?_eq_none
def md:=@Array.getElem?_eq_some_iff
def Gz:=@Array.getElem?_setIfInBounds
def rf:=@Array.getElem?_toList
def Kl:=@Array.isEmpty_iff_size_eq_zero
def mc:=@Array.length_toList
def Kk:=@Array.size_setIfInBounds
def Cn:=@Array.toList_append
def uk:=@Array.toList_inj
def fK:=@Bool.and_eq_true
def sV:=@Bool.and_self
def sU:=@Bool.eq_false_iff
def Cm:=@Bool.false_and
def fJ:=@Bool.false_eq_true
def Gy:=@Bool.not_eq_true'
def oW:=@Bool.not_true
def nM:=@Bool.or_eq_true
def di:=@Classical.byContradiction
def cG:=@Go.run_underlying
def Cl:=@Int.ediv_neg
def fV:=@Int.eq_ofNat_of_zero_le
def Ck:=@Int.gcd_natCast_natCast
def zH:=@Int.lt_or_le
def Cj:=@Int.mul_neg
def jz:=@Int.natAbs_natCast
def oV:=@Int.natCast_ediv
def xj:=@Int.natCast_emod
def uj:=@Int.natCast_mul
def jy:=@Int.natCast_nonneg
def Kj:=@Int.tdiv_eq_ediv_of_nonneg
def Ki:=@Int.tmod_eq_emod_of_nonneg
def iv:=@Int.toNat_natCast
def ji:=@List.all_eq_true
def Gx:=@List.append_nil
def Ci:=@List.drop_drop
def zG:=@List.drop_of_length_le
def cC:=@List.drop_zero
def iO:=@List.ext_getElem?
def Kh:=@List.extract_eq_take_drop
def Ch:=@List.flatMap_cons
def Gw:=@List.foldl_cons
def bH:=@List.getD_eq_getElem?_getD
def ef:=@List.getElem?_append_left
def gI:=@List.getElem?_append_right
def Kg:=@List.getElem?_cons_succ
def kh:=@List.getElem?_drop
def aK:=@List.getElem?_eq_getElem
def cy:=@List.getElem?_eq_none
def bU:=@List.getElem?_eq_some_iff
def dM:=@List.getElem?_map
def gH:=@List.getElem?_of_mem
def ui:=@List.getElem?_range
def Gv:=@List.getElem?_replicate
def re:=@List.getElem?_set
def Gu:=@List.getElem?_set_self
def gR:=@List.getElem?_take
def Cg:=@List.getElem?_toArray
def mO:=@List.getElem_mem
def dG:=@List.length_append
def nL:=@List.length_cons
def ra:=@List.length_drop
def jK:=@List.length_eq_zero_iff
def cz:=@List.length_map
def Gt:=@List.length_pos_iff
def dB:=@List.length_set
def qZ:=@List.length_singleton
def gG:=@List.length_take
def gF:=@List.map_append
def jJ:=@List.map_cons
def uh:=@List.map_map
def nJ:=@List.map_nil
def xh:=@List.map_set
def sN:=@List.map_take
def fC:=@List.mem_append
def dV:=@List.mem_cons
def qY:=@List.mem_filter
def Gs:=@List.mem_filterMap
def ir:=@List.mem_map
def bh:=@List.mem_of_getElem?
def Cf:=@List.mem_of_mem_take
def xg:=@List.mem_or_eq_of_mem_set
def qX:=@List.mem_range
def gQ:=@List.mem_singleton
def kG:=@List.nil_append
def Gr:=@List.nodup_append
def Ce:=@List.nodup_cons
def sM:=@List.range_succ
def zF:=@List.sum_cons
def Kf:=@List.takeWhile_cons
def zC:=@List.take_append_of_le_length
def sK:=@List.take_length
def fB:=@List.take_of_length_le
def zB:=@List.take_take
def ma:=@Nat.add_assoc
def xf:=@Nat.add_comm
def dA:=@Nat.add_mul
def Cd:=@Nat.add_mul_mod_self_left
def Cc:=@Nat.add_sub_cancel
def gN:=@Nat.add_zero
def zy:=@Nat.and_two_pow_sub_one_eq_mod
def ch:=@Nat.ble_eq
def qW:=@Nat.blt_eq
def mN:=@Nat.div_add_mod
def Gq:=@Nat.div_div_eq_div_mul
def mM:=@Nat.div_eq_of_lt
def oU:=@Nat.div_le_self
def oT:=@Nat.div_lt_iff_lt_mul
def zx:=@Nat.dvd_mul_left
def xd:=@Nat.dvd_mul_right
def qV:=@Nat.dvd_trans
def im:=@Nat.eq_zero_or_pos
def zw:=@Nat.gcd_dvd_right
def Gp:=@Nat.le_div_iff_mul_le
def Cb:=@Nat.le_max_left
def Ca:=@Nat.le_max_right
def Ke:=@Nat.le_mul_of_pos_right
def Kd:=@Nat.le_of_ble_eq_true
def sJ:=@Nat.le_of_dvd
def sI:=@Nat.le_of_eq
def kF:=@Nat.le_of_lt
def Gn:=@Nat.le_of_not_lt
def aA:=@Nat.le_refl
def jh:=@Nat.le_succ
def bV:=@Nat.le_trans
def il:=@Nat.lt_of_le_of_lt
def cB:=@Nat.lt_of_lt_of_le
def dr:=@Nat.lt_or_ge
def qU:=@Nat.lt_succ_of_lt
def lj:=@Nat.lt_succ_self
def nI:=@Nat.min_eq_left
def dR:=@Nat.mod_eq_of_lt
def ec:=@Nat.mod_lt
def B6:=@Nat.mod_mul_right_div_self
def sH:=@Nat.mul_add
def w9:=@Nat.mul_assoc
def gE:=@Nat.mul_comm
def jg:=@Nat.mul_le_mul
def dU:=@Nat.mul_le_mul_right
def fI:=@Nat.mul_one
def nF:=@Nat.mul_pos
def pY:=@Nat.pos_of_ne_zero
def dT:=@Nat.pow_add
def wZ:=@Nat.pow_dvd_pow
def fA:=@Nat.pow_le_pow_right
def Gm:=@Nat.pow_lt_pow_iff_right
def sG:=@Nat.pow_lt_pow_right
def wY:=@Nat.pow_mul
def gM:=@Nat.pow_pos
def eH:=@Nat.pow_succ
def sF:=@Nat.pow_zero
def kE:=@Nat.shiftRight_eq_div_pow
def nD:=@Nat.sub_self
def wX:=@Nat.succ_mul
def pX:=@Nat.two_pow_pos
def Gl:=@Nat.xor_lt_two_pow
def fy:=@Nat.zero_add
def dQ:=@Nat.zero_le
def kf:=@Nat.zero_mul
def Kc:=@Option.bind_eq_some_iff
def kD:=@Option.bind_some
def jf:=@Option.getD_some
def Gk:=@Option.isSome_iff_exists
def bI:=@Option.map_eq_some_iff
def jx:=@Option.map_some
def Kb:=@Option.some.inj
def sE:=@Option.some.injEq
def B0:=@Prod.mk.inj
def BZ:=@Prod.mk.injEq
def wW:=@Rat.divInt_eq_div
def ug:=@Rat.le_of_lt
def BY:=@Rat.mul_nonneg
def Gj:=@Rat.natCast_pos
def BX:=@Rat.num_nonneg
def bW:=@Go.Result.andThen_ok
def bJ:=@Go.Sem.run_bind
def ck:=@Go.Sem.run_pure
def zu:=@beq_eq_false_iff_ne
def bT:=@beq_iff_eq
def pW:=@beq_self_eq_true
def zr:=@bne_eq_false_iff_eq
def mL:=@bne_iff_ne
def Gi:=@bne_self_eq_false
def aX:=@Bool.cond_eq_ite
def fU:=@cond_false
def cg:=@cond_true
def kC:=@congrArg
def BW:=@decide_eq_decide
def bF:=@decide_eq_false
def aV:=@decide_eq_false_iff_not
def ct:=@decide_eq_true
def aS:=@decide_eq_true_eq
def nC:=@decide_false
def wV:=@decide_true
def cE:=@if_false
def ah:=@if_neg
def aq:=@if_pos
def cq:=@if_true
def BV:=@not_false_eq_true
def l8:=@Go.run_newObj
def jv:=@Go.step_lone_go
def aB:=@And.intro
end Go.Id
namespace Go.Id
open Go
open Go renaming Operand→QY,Program→QX,TypeId→QZ,Value→QQ
open Nat renaming reduceAdd→zA,reduceEqDiff→zE,reduceLeDiff→zL
open Nat (reduceMul)
set_option maxHeartbeats 16000000
def dN:QQ→Bool
 | .bool _|.int _ _|.string _|.nilFunc|.nilIface|.pointer none|.map none=>true
 | .slice none n c=>n == 0 && c == 0
 | _=>false
def plain:QQ→Bool
 | .agg cs=>cs.all dN
 | v=>dN v
abbrev Fr:=List (Nat×QQ)
def ax:Fr→Nat→Option QQ
 | [],_=>none
 | (s,v) :: r,t=>bif s == t then some v else ax r t
def ue (nt:Nat) (fr:Fr) (dst:Option Tmp) (v:QQ):Option Fr :=
 match dst with
 | none=>some fr
 | some d=>bif Nat.blt d nt then some ((d,v) :: fr) else none
def jB (fr:Fr):List Nat→Fr
 | [] => []
 | t :: l=>match ax fr t with
  | some v=>(t,v) :: jB fr l
  | none=>jB fr l
def nj:Nat→List QQ→Fr
 | _,[] => []
 | i,v :: l=>(i,v) :: nj (i+1) l
def opd (fr:Fr):QY→Option QQ
 | .tmp t=>ax fr t
 | .const v=>bif plain v then some v else none
 | .global g=>bif Nat.blt g 4294967296 then some (.pointer (some ⟨2*g+1,0,none⟩)) else none
 | .func f=>some (.func (.func f) #[] #[])
def nV (fr:Fr):List QY→Option (List QQ)
 | []=>some []
 | x :: l=>match opd fr x,nV fr l with
  | some v,some vs=>some (v :: vs)
  | _,_=>none
inductive Tr (α:Type) where
 | leaf:Tr α
 | node:Tr α→Option α→Tr α→Tr α
namespace Tr
def get {α:Type}:Tr α→Nat→Option α
 | .leaf,_=>none
 | .node l v r,n=>bif n == 0 then v else bif n % 2 == 1 then l.get (n / 2) else r.get ((n - 1) / 2)
def one {α:Type}:Nat→Nat→α→Tr α
 | 0,_,x=>.node .leaf (some x) .leaf
 | f+1,n,x=>bif n == 0 then .node .leaf (some x) .leaf else bif n % 2 == 1 then .node (one f (n / 2) x) none .leaf else .node .leaf none (one f ((n - 1) / 2) x)
def set {α:Type}:Tr α→Nat→α→Tr α
 | .leaf,n,x=>one n n x
 | .node l v r,n,x=>bif n == 0 then .node l (some x) r else bif n % 2 == 1 then .node (l.set (n / 2) x) v r else .node l v (r.set ((n - 1) / 2) x)
end Tr
structure jq where
 state:LoopState
 pending:Option Code
 fn:FuncId
 nt:Nat
 fr:Fr
 params:List Nat
 assign:Code
 body:Code
inductive cX where
 | cells (cs:List QQ) (e:Nat) (fam:Option Nat)      -- e: the cells of an element, where it was made by make, a literal or append
 | map (es:List (QQ×QQ))
 | loop (r:jq)
 | iter (k since:Nat) (seen:List Nat) (last:Nat)        -- an iterator over map k: the entries that have been, by their places
 | num (x:Nat)        -- the words of a number; nobody writes them
 | dead
structure IH where
 base:Nat→Option (List QQ)
 n:Nat
 ext:Tr cX
 eP:Tr (List Nat)
namespace IH
def new (h:IH) (o:cX):IH:={ h with n:=h.n+1,ext:=h.ext.set h.n o }
def row (h:IH) (b:Nat):Option (List QQ) :=
 bif b % 2 == 1 then h.base (b / 2) else match h.ext.get (b / 2) with
  | some (.cells cs _ _)=>some cs
  | _=>none
def rd (h:IH) (b o n:Nat):Option (List QQ) :=
 match h.row b with
 | some cs=>bif Nat.ble (o+n) cs.length then some ((cs.drop o).take n) else none
 | none=>none
def gC (e:Tr cX):List Nat→Tr cX
 | []=>e
 | k :: l=>gC (e.set k .dead) l
def bf (cs:List QQ) (o:Nat) (vs:List QQ):List QQ:=cs.take o ++ (vs ++ cs.drop (o+vs.length))
def wr (h:IH) (b o:Nat) (vs:List QQ):Option IH :=
 bif b % 2 == 1 then none else match h.ext.get (b / 2) with
  | some (.cells cs t fam) =>
   bif Nat.ble (o+vs.length) cs.length then
    match fam with
    | none=>some { h with ext:=h.ext.set (b / 2) (.cells (bf cs o vs) t none) }
    | some f=>match h.eP.get f with
     | some st=>some { h with ext:=(gC h.ext (st.filter (· != b / 2))).set (b / 2) (.cells (bf cs o vs) t none) }
     | none=>none
   else none
  | _=>none
end IH
def aI (P:QX) {α:Type}:Sem α→Option α
 | .pure a=>some a
 | .program k=>aI P (k P)
 | _=>none
def fb (P:QX) (s:Sem QQ):Option QQ :=
 match aI P s with
 | some v=>bif plain v then some v else none
 | none=>none
def cu (P:QX) (t:QZ):Option Bool:=(P.underlying t).map fun d=>match d with|.struct _|.array _ _=>true|_=>false
def bK (P:QX) (t:QZ):Option Nat:=(P.info? t).map (·.size)
def oh (P:QX) (t:QZ):Option Nat:=(P.info? t).map (·.bytes)
def tS (P:QX) (t:QZ):Option QQ:=(P.info? t).bind (·.zero)
def bC (P:QX) (t:QZ):Option (List QQ):=match tS P t with
 | some z=>bif plain z then some z.cells.toList else none
 | none=>none
def asAddr:QQ→Option (Nat×Nat)
 | .pointer (some ⟨b,o,none⟩)=>some (b,o)
 | _=>none
def bB:QQ→Bool
 | .agg _=>false
 | .tuple _=>false
 | _=>true
def ptr (b o:Nat):QQ:=.pointer (some ⟨b,o,none⟩)
def load (P:QX) (h:IH) (t:QZ) (a:QQ):Option QQ :=
 match asAddr a,cu P t,bK P t with
 | some (b,o),some true,some n=>(h.rd b o n).map fun cs=>.agg cs.toArray
 | some (b,o),some false,_=>(h.rd b o 1).bind (·.head?)
 | _,_,_=>none
def store (P:QX) (h:IH) (t:QZ) (a v:QQ):Option IH :=
 match asAddr a,bK P t with
 | some (b,o),some n=>bif v.cells.size == n && v.cells.toList.all bB then h.wr b o v.cells.toList else none
 | _,_=>none
def bZ:Nat:=1099511627776
def sr:Nat:=16777216
def de:Nat→List QQ→List QQ
 | 0,_ => []
 | n+1,z=>z ++ de n z
def eK (place:Nat→Option (Nat×Nat)) (cells:List QQ):List (Nat×QQ)→Option (List QQ)
 | []=>some cells
 | (i,v) :: rest=>match place i with
  | none=>none
  | some (o,n)=>bif v.cells.size == n && Nat.ble (o+n) cells.length then eK place (IH.bf cells o v.cells.toList) rest else none
def idxOf:QQ→Option Int
 | .int _ n=>some n
 | _=>none
def oM (v:QQ) (most:Nat):Option Nat :=
 match v with
 | .int _ n=>match n with
  | .ofNat m=>bif Nat.ble m most then some m else none
  | .negSucc _=>none
 | _=>none
def RN (hi:Option QQ) (len c:Nat):Option Nat:=match hi with
 | none=>some len
 | some v=>oM v c
def Jf (lo:Option QQ) (h:Nat):Option Nat:=match lo with
 | none=>some 0
 | some v=>oM v h
def jD (len c:Nat) (lo hi mx:Option QQ):Option (Nat×Nat×Option Nat) :=
 match mx with
 | none=>match RN hi len c with
  | none=>none
  | some h=>match Jf lo h with
   | none=>none
   | some l=>some (l,h,none)
 | some mv=>match oM mv c with
  | none=>none
  | some m=>match hi with
   | none=>none
   | some hv=>match oM hv m with
    | none=>none
    | some h=>match Jf lo h with
     | none=>none
     | some l=>some (l,h,some m)
def fN (size:Nat) (room:Bool) (x:QQ) (lo hi mx:Option QQ):Option QQ :=
 match x with
 | .slice none n c=>bif n == 0 && c == 0 then (match jD 0 0 lo hi mx with|some _=>some (.slice none 0 0)|none=>none) else none
 | .slice (some ⟨b,o,none⟩) len k =>
  match jD len (k / 2) lo hi mx with
  | none=>none
  | some (l,h,om) =>
   bif k == 0 then some (.slice (some ⟨b,o,none⟩) 0 0) else match om with
   | none =>
    bif l == k / 2 then (bif k % 2 == 1 then some (.slice (some ⟨b,o,none⟩) 0 1) else some (.slice (some ⟨b,o,none⟩) 0 0))
    else bif k % 2 == 1 || room then some (.slice (some ⟨b,o+l*size,none⟩) (h - l) (k - 2*l)) else none
   | some m =>
    bif l == m then some (.slice (some ⟨b,o,none⟩) 0 1)
    else some (.slice (some ⟨b,o+l*size,none⟩) (h - l) (2*(m - l)+1))
 | _=>none
def fe (h:IH) (size n:Nat) (x:QQ):Option (List QQ) :=
 match x with
 | .slice none _ _=>some []
 | .slice (some ⟨b,o,none⟩) len _=>bif Nat.ble n len then (bif n*size == 0 then some [] else h.rd b o (n*size)) else none
 | _=>none
def lenOf:QQ→Option Nat
 | .slice _ n _=>some n
 | _=>none
def grown (h:IH) (k f:Nat) (cs:List QQ) (t:Nat) (fg below:List Nat) (cs':List QQ) (t':Nat):IH :=
 { h with n:=h.n+1,ext:=((IH.gC h.ext fg).set k (.cells cs t (some f))).set h.n (.cells cs' t' (some f)),eP:=h.eP.set f (h.n :: k :: below) }
def append (P:QX) (h:IH) (st:QZ) (s x:QQ):Option (QQ×IH) :=
 match P.underlying st with
 | some (.slice elem)=>match bK P elem,oh P elem,bC P elem,lenOf x with
  | some size,some bytes,some zs,some n =>
   bif n == 0 then (match s with|.slice none a c=>bif a == 0 && c == 0 then some (s,h) else none|.slice (some ⟨_,_,none⟩) _ _=>some (s,h)|_=>none) else
   bif size == 0 || (!(Nat.ble bytes 65536) || !(zs.length == size)) then none else
   match fe h size n x with
   | none=>none
   | some new=>bif !(new.all bB) then none else match s with
    | .slice none a c=>bif a == 0 && c == 0 && Nat.ble (n*(bytes+1)) bZ then some (.slice (some ⟨2*h.n,0,none⟩) n (2*n),h.new (.cells new size none)) else none
    | .slice (some ⟨b,o,none⟩) len k =>
     bif !(Nat.ble ((len+n)*(bytes+1)) bZ) then none else
     bif Nat.ble (len+n) (k / 2) then (h.wr b (o+len*size) new).map fun h=>(.slice (some ⟨b,o,none⟩) (len+n) k,h)
     else bif k % 2 == 1 then
      match fe h size len s with
      | none=>none
      | some old=>some (.slice (some ⟨2*h.n,0,none⟩) (len+n) (2*(len+n)),h.new (.cells (old ++ new) size none))
     else bif len == k / 2 && Nat.blt 0 len && b % 2 == 0 then
      match h.ext.get (b / 2) with
      | some (.cells cs t fam) =>
       bif o+len*size == cs.length && t == size then
        match fam with
        | none=>some (.slice (some ⟨2*h.n,0,none⟩) (len+n) (2*(len+n)),grown h (b / 2) h.n cs t [] [] (cs.drop o ++ new) size)
        | some f=>match h.eP.get f with
         | none=>none
         | some stk=>some (.slice (some ⟨2*h.n,0,none⟩) (len+n) (2*(len+n)),
           grown h (b / 2) f cs t (stk.takeWhile (· != b / 2)) ((stk.dropWhile (· != b / 2)).drop 1) (cs.drop o ++ new) size)
       else none
      | _=>none
     else none
    | _=>none
  | _,_,_,_=>none
 | _=>none
def mZ (P:QX) (t:QZ) (f:Nat):Option Field :=
 match P.underlying t with
 | some (.struct fs)=>fs[f]?
 | _=>none
def partOf (P:QX) (t:QZ) (cs:Array QQ) (off:Nat):Option QQ :=
 match cu P t,bK P t with
 | some true,some n=>some (.agg (cs.extract off (off+n)))
 | some false,_=>cs[off]?
 | _,_=>none
def xK:TypeDesc→QQ→QQ→Option Bool
 | .slice _,.slice none _ _,.slice none _ _=>some true
 | .slice _,.slice none _ _,.slice (some ⟨_,_,none⟩) _ _=>some false
 | .slice _,.slice (some ⟨_,_,none⟩) _ _,.slice none _ _=>some false
 | .map _ _,.map none,.map none=>some true
 | .map _ _,.map none,.map (some _)=>some false
 | .map _ _,.map (some _),.map none=>some false
 | .func _ _ _,.nilFunc,.nilFunc=>some true
 | .func _ _ _,.nilFunc,.func _ _ _=>some false
 | .func _ _ _,.func _ _ _,.nilFunc=>some false
 | .pointer _,.pointer none,.pointer none=>some true
 | .pointer _,.pointer none,.pointer (some _)=>some false
 | .pointer _,.pointer (some _),.pointer none=>some false
 | _,_,_=>none
def yK (P:QX) (t:QZ) (x y:QQ):Option Bool :=
 match P.underlying t with
 | some d=>xK d x y
 | none=>none
def binop (P:QX) (op:BinOp) (t:QZ) (ox oy:QY) (x y:QQ):Option QQ :=
 bif plain x && plain y then fb P (do eqGuard op t ox oy x y;Go.binOp op t x y)
 else match op with
  | .eql=>(yK P t x y).map .bool
  | .neq=>(yK P t x y).map fun b=>.bool !b
  | _=>none
def placeOf (P:QX) (t:QZ) (i:Nat):Option (Nat×Nat) :=
 match P.underlying t with
 | some (.struct fs)=>match fs[i]? with
  | some f=>(bK P f.type).map fun n=>(f.offset,n)
  | none=>none
 | some (.array _ e)=>(bK P e).map fun n=>(i*n,n)
 | _=>none
def dZ (P:QX) (t:QZ):Bool :=
 match P.underlying t with
 | some (.struct fs)=>fs.all fun f=>(P.info? f.type).isSome
 | some (.array _ e)=>(P.info? e).isSome
 | _=>false
def partsOf (fr:Fr):List (Nat×QY)→Option (List (Nat×QQ))
 | []=>some []
 | (i,x) :: l=>match opd fr x,partsOf fr l with
  | some v,some vs=>some ((i,v) :: vs)
  | _,_=>none
def gj (es:List (QQ×QQ)):List MapEntry:=es.map fun e => { key:=e.1,val:=.nilIface,born:=0 }
def mapOf (h:IH) (k:Nat):Option (List (QQ×QQ)) :=
 bif k % 2 == 1 then none else match h.ext.get (k / 2) with
 | some (.map es)=>some es
 | _=>none
def yY (P:QX) (kt:QZ) (k:QQ) (es:List (QQ×QQ)):Option (Option Nat) :=
 bif plain k then
  match aI P (Instr.checkKey es.isEmpty 10000 kt k),aI P (Instr.findKey kt k (gj es)) with
  | some (),some r=>some (r.map (·.1))
  | _,_=>none
 else none
def entriesOf (h:IH):QQ→Option (List (QQ×QQ))
 | .map none=>some []
 | .map (some r)=>mapOf h r
 | _=>none
def Ln:Option Unit→Bool
 | some _=>true
 | none=>false
def lookup (P:QX) (h:IH) (mt:QZ) (m k:QQ) (ok:Bool):Option QQ :=
 match P.underlying mt with
 | some (.map kt et) =>
  match entriesOf h m with
  | none=>none
  | some es=>match yY P kt k es with
   | none=>none
   | some none=>match tS P et with
    | some z=>bif plain z then some (bif ok then .tuple #[z,.bool false] else z) else none
    | none=>none
   | some (some i)=>(es[i]?).map fun e=>bif ok then .tuple #[e.2,.bool true] else e.2
 | _=>none
def mapUpdate (P:QX) (h:IH) (mt:QZ) (m k v:QQ):Option IH :=
 match P.underlying mt,m with
 | some (.map kt _),.map (some r) =>
  match mapOf h r with
  | none=>none
  | some es =>
   bif Ln (aI P (Instr.checkKey false 10000 kt k)) then
   match yY P kt k es with
   | none=>none
   | some none=>some { h with ext:=h.ext.set (r / 2) (.map (es ++ [(k,v)])) }
   | some (some i)=>match es[i]? with
    | some e=>bif Instr.sameBits 10000 e.1 k then some { h with ext:=h.ext.set (r / 2) (.map (es.set i (k,v))) } else none
    | none=>none
   else none
 | _,_=>none
def makeSlice (P:QX) (h:IH) (t:QZ) (l c:QQ):Option (QQ×IH) :=
 match P.underlying t with
 | some (.slice e)=>match oM l bZ,oM c bZ,bK P e,oh P e,bC P e with
  | some l,some c,some n,some by_,some z =>
   bif Nat.ble l c && Nat.ble (c*(by_+1)) bZ && z.length == n then
    some (.slice (some ⟨2*h.n,0,none⟩) l (2*c+1),h.new (.cells (de c z) n none))
   else none
  | _,_,_,_,_=>none
 | _=>none
def buildSlice (P:QX) (h:IH) (t:QZ) (len:Nat) (parts:List (Nat×QQ)):Option (QQ×IH) :=
 match P.underlying t with
 | some (.slice e)=>match bK P e,bC P e with
  | some n,some z=>bif Nat.ble (len*n) sr && z.length == n then
    match eK (fun i=>some (i*n,n)) (de len z) parts with
    | some cells=>some (.slice (some ⟨2*h.n,0,none⟩) len (2*len+1),h.new (.cells cells n none))
    | none=>none
   else none
  | _,_=>none
 | _=>none
def indexAddr (P:QX) (t:QZ) (x i:QQ):Option QQ :=
 match P.underlying t,x,idxOf i with
 | some (.array n e),.pointer (some ⟨b,o,none⟩),some i=>match bK P e,i with
  | some size,.ofNat j=>bif Nat.blt j n then some (.pointer (some ⟨b,o+j*size,none⟩)) else none
  | _,_=>none
 | some (.slice e),.slice (some ⟨b,o,none⟩) n _,some i=>match bK P e,i with
  | some size,.ofNat j=>bif Nat.blt j n then some (.pointer (some ⟨b,o+j*size,none⟩)) else none
  | _,_=>none
 | _,_,_=>none
def roomy (h:IH) (size:Nat) (x:QQ):Bool :=
 match x with
 | .slice (some ⟨b,_,_⟩) _ _=>b % 2 == 0 && (match h.ext.get (b / 2) with
  | some (.cells _ e _)=>e == size
  | _=>false)
 | _=>false
def dE (P:QX) (h:IH) (t:QZ) (x:QQ) (lo hi mx:Option QQ):Option QQ :=
 match P.underlying t with
 | some (.slice e)=>match bK P e with
  | some size=>fN size (roomy h size x) x lo hi mx
  | none=>none
 | some (.array n e)=>match bK P e,asAddr x with
  | some size,some (b,o)=>fN size false (.slice (some ⟨b,o,none⟩) n (2*n+1)) lo hi mx
  | _,_=>none
 | some (.pointer arr)=>match P.underlying arr with
  | some (.array n e)=>match bK P e,asAddr x with
   | some size,some (b,o)=>fN size false (.slice (some ⟨b,o,none⟩) n (2*n+1)) lo hi mx
   | _,_=>none
  | _=>none
 | some .string=>bif plain x && (lo.all plain && hi.all plain && mx.all plain) then fb P (Instr.slice t x lo hi mx) else none
 | _=>none
def iF (fr:Fr):Option QY→Option (Option QQ)
 | none=>some none
 | some x=>(opd fr x).map some
def xV (P:QX) (h:IH) (dt:QZ) (d s:QQ):Option (QQ×IH) :=
 match P.underlying dt,lenOf d,lenOf s with
 | some (.slice e),some dn,some sn=>match bK P e with
  | some size =>
   let n:=Nat.min sn dn
   match fe h size n s with
   | none=>none
   | some cs=>match d with
    | .slice none _ _=>some (.int .i64 n,h)
    | .slice (some ⟨b,o,none⟩) _ _=>bif cs.isEmpty then some (.int .i64 n,h) else bif !(cs.all bB) then none else (h.wr b o cs).map fun h=>(.int .i64 n,h)
    | _=>none
  | none=>none
 | _,_,_=>none
def zh (P:QX) (h:IH) (t:QZ) (x:QQ):Option (QQ×IH) :=
 match P.underlying t,x with
 | some (.slice _),.slice none _ _=>some (.tuple #[],h)
 | some (.slice e),.slice (some ⟨b,o,none⟩) n _=>bif n == 0 then some (.tuple #[],h) else
  match bC P e with
  | some z=>bif z.isEmpty || !(z.all bB) then none else (h.wr b o (de n z)).map fun h=>(.tuple #[],h)
  | none=>none
 | _,_=>none
def XK (P:QX) (t:QZ) (x:QQ):Option QQ :=
 match P.underlying t,x with
 | some (.slice _),.slice none _ _=>some (.int .i64 0)
 | some (.slice _),.slice (some ⟨_,_,none⟩) _ k=>bif k % 2 == 1 then some (.int .i64 ((k / 2:Nat):Int)) else none
 | _,_=>none
def tE (P:QX) (h:IH) (t:QZ) (x:QQ):Option QQ :=
 match P.underlying t,x with
 | some .string,.string s=>some (.int .i64 s.size)
 | some (.array n _),_=>some (.int .i64 n)
 | some (.pointer a),_=>match P.underlying a with
  | some (.array n _)=>some (.int .i64 n)
  | _=>none
 | some (.slice _),.slice _ n _=>some (.int .i64 n)
 | some (.map _ _),.map none=>some (.int .i64 0)
 | some (.map _ _),.map (some r)=>(mapOf h r).map fun es=>.int .i64 es.length
 | _,_=>none
def fm (P:QX) (t:Option QZ):Bool :=
 match t with
 | some t=>match P.underlying t with
  | some (.slice _)=>true
  | _=>false
 | none=>false
def LI (P:QX) (t:Option QZ):Bool :=
 match t with
 | some t=>match P.underlying t with
  | some (.int _)=>true
  | _=>false
 | none=>false
def tO (P:QX) (h:IH) (st:QZ) (s x:QQ):Option (QQ×IH) :=
 match P.underlying st with
 | some (.slice elem)=>match bK P elem,oh P elem,bC P elem,oM x bZ with
  | some size,some bytes,some zs,some n=>match s with
   | .slice none a c =>
    bif a == 0 && c == 0 && (Nat.blt 0 n && Nat.blt 0 size) && (Nat.ble bytes 65536 && zs.length == size) && (zs.all bB && Nat.ble (n*(bytes+1)) bZ) then
     some (.slice (some ⟨2*h.n,0,none⟩) n (2*n),h.new (.cells (de n zs) size none)) else none
   | _=>none
  | _,_,_,_=>none
 | _=>none
def builtin (P:QX) (h:IH) (b:Builtin) (ts:Array QZ) (args:List QQ):Option (QQ×IH) :=
 match b,args with
 | .len,[x]=>match ts[0]? with
  | some t=>(tE P h t x).map (·,h)
  | none=>none
 | .append,[s,x]=>bif fm P ts[1]? then
   (match ts[0]? with|some st=>append P h st s x|none=>none) else
   bif LI P ts[1]? then (match ts[0]? with|some st=>tO P h st s x|none=>none) else none
 | .copy,[d,s]=>match ts[0]? with
  | some dt=>xV P h dt d s
  | none=>none
 | .clear,[x]=>match ts[0]? with
  | some t=>zh P h t x
  | none=>none
 | .cap,[x]=>match ts[0]? with
  | some t=>(XK P t x).map (·,h)
  | none=>none
 | .max,_=>bif args.all plain then (fb P (Builtin.max_ ts 0 args.toArray)).map (·,h) else none
 | .min,_=>bif args.all plain then (fb P (Builtin.min_ ts 0 args.toArray)).map (·,h) else none
 | _,_=>none
def iop (P:QX) (fr:Fr) (o:Op) (h:IH):Option (QQ×IH) :=
 match o with
 | .move x|.assign x=>(opd fr x).map (·,h)
 | .pick c a b=>match opd fr c with
  | some (.bool true)=>(opd fr a).map (·,h)
  | some (.bool false)=>(opd fr b).map (·,h)
  | _=>none
 | .alloc t=>(bC P t).map fun z=>(ptr (2*h.n) 0,h.new (.cells z 0 none))
 | .box t x=>(opd fr x).map fun v=>(ptr (2*h.n) 0,h.new (.cells v.cells.toList 0 none))
 | .build t parts=>match bC P t,partsOf fr parts.toList with
  | some z,some ps=>bif dZ P t then (eK (placeOf P t) z ps).map fun cs=>(.agg cs.toArray,h) else none
  | _,_=>none
 | .buildSlice t len parts=>match partsOf fr parts.toList with
  | some ps=>buildSlice P h t len ps
  | none=>none
 | .load t a=>match opd fr a with
  | some a=>(load P h t a).map (·,h)
  | none=>none
 | .store t a x=>match opd fr a,opd fr x with
  | some a,some v=>(store P h t a v).map (undef,·)
  | _,_=>none
 | .nilCheck x=>match opd fr x with
  | some (.pointer (some a))=>some (.pointer (some a),h)
  | some (.func (.func f) xs ys)=>some (.func (.func f) xs ys,h)
  | some (.func (.yield f) xs ys)=>some (.func (.yield f) xs ys,h)
  | some (.map r)=>some (.map r,h)
  | _=>none
 | .binOp op t x y _=>match opd fr x,opd fr y with
  | some a,some b=>(binop P op t x y a b).map (·,h)
  | _,_=>none
 | .unOp op _ x=>match opd fr x with
  | some v=>bif plain v then (fb P (Op.unary op v)).map (·,h) else none
  | none=>none
 | .convert s d x=>match opd fr x with
  | some v=>bif plain v then (fb P (Go.convert s d v)).map (·,h) else none
  | none=>none
 | .sliceToArrayPointer t x=>match P.underlying t,opd fr x with
  | some (.array n _),some (.slice (some ⟨b,o,none⟩) len k)=>bif Nat.ble n len && Nat.blt 0 k then some (.pointer (some ⟨b,o,none⟩),h) else none
  | _,_=>none
 | .makeFunc fn first cap=>match nV fr first.toList,nV fr cap.toList with
  | some a,some b=>match fn with
   | .func f=>some (.func (.func f) a.toArray b.toArray,h)
   | _=>none
  | _,_=>none
 | .makeMap t r=>match r with
  | none=>some (.map (some (2*h.n)),h.new (.map []))
  | some x=>match opd fr x,P.underlying t with
   | some (.int _ _),some (.map _ _)=>some (.map (some (2*h.n)),h.new (.map []))
   | _,_=>none
 | .makeSlice t l c=>match opd fr l,opd fr c with
  | some l,some c=>makeSlice P h t l c
  | _,_=>none
 | .slice t x lo hi mx=>match opd fr x,iF fr lo,iF fr hi,iF fr mx with
  | some x,some lo,some hi,some mx=>(dE P h t x lo hi mx).map (·,h)
  | _,_,_,_=>none
 | .fieldAddr t x f=>match opd fr x,mZ P t f with
  | some x,some f=>match asAddr x,bK P f.type with
   | some (b,o),some n=>bif n == 0 then none else some (ptr b (o+f.offset),h)
   | _,_=>none
  | _,_=>none
 | .field t x f=>match opd fr x,mZ P t f with
  | some (.agg cs),some f=>(partOf P f.type cs f.offset).map (·,h)
  | _,_=>none
 | .indexAddr t x i=>match opd fr x,opd fr i with
  | some x,some i=>(indexAddr P t x i).map (·,h)
  | _,_=>none
 | .index t x i=>match opd fr x,opd fr i with
  | some (.agg cs),some i=>match P.underlying t,idxOf i with
   | some (.array n e),some (.ofNat j)=>bif Nat.blt j n then match bK P e with
     | some size=>(partOf P e cs (j*size)).map (·,h)
     | none=>none
    else none
   | _,_=>none
  | some (.string s),some i=>bif plain i then (fb P (Instr.index t (.string s) i)).map (·,h) else none
  | _,_=>none
 | .lookup t m k ok=>match opd fr m,opd fr k with
  | some m,some k=>(lookup P h t m k ok).map (·,h)
  | _,_=>none
 | .mapUpdate t m k v|.insert t m k v=>match opd fr m,opd fr k,opd fr v with
  | some m,some k,some v=>(mapUpdate P h t m k v).map (undef,·)
  | _,_,_=>none
 | .extract x i=>match opd fr x with
  | some (.tuple vs)=>(vs[i]?).map (·,h)
  | _=>none
 | .range t x=>match P.underlying t,opd fr x with
  | some (.map _ _),some (.map (some k))=>(mapOf h k).map fun es=>(ptr (2*h.n) 0,h.new (.iter k es.length [] es.length))
  | _,_=>none
 | .entry x=>match opd fr x with
  | some (.pointer (some ⟨b,0,none⟩))=>bif b % 2 == 1 then none else match h.ext.get (b / 2) with
   | some (.iter k _ seen last)=>match mapOf h k,seen.getLast? with
    | some es,some i=>bif es.length == last then (es[i]?).map fun e=>(.tuple #[e.1,e.2],h) else none
    | _,_=>none
   | _=>none
  | _=>none
 | .call c=>match c.callee with
  | .builtin b=>match nV fr c.args.toList with
   | some vs=>builtin P h b c.argTypes vs
   | none=>none
  | _=>none
 | _=>none
end Go.Id
namespace Go.Id
open Go
open Go renaming Operand→QY,Program→QX,TypeId→QZ,Value→QQ
open Nat renaming reduceAdd→zA,reduceEqDiff→zE,reduceLeDiff→zL
open Nat (reduceMul)
set_option maxHeartbeats 16000000
structure Env where
 P:QX
 lv:FuncId→Nat→Option (List Nat)
 Jp:FuncId→Option (List QQ→IH→Option (QQ×IH))
abbrev je:=QQ→List QQ→IH→Option (QQ×IH)
def dW (ops:List Oper) (o:Oper) (fr:Fr):Option Bool :=
 match o.guard with
 | none=>some true
 | some (j,want)=>match (ops[j]?).bind (·.dst) with
  | some d=>match ax fr d with
   | some (.bool b)=>some (b == want)
   | some (.tuple _)=>some false
   | _=>none
  | none=>none
def jn (E:Env) (call:je) (fr:Fr) (o:Op) (h:IH):Option (QQ×IH) :=
 match o with
 | .call c=>match c.callee with
  | .value f=>match opd fr f,nV fr c.args.toList with
   | some fv,some vs=>call fv vs h
   | _,_=>none
  | _=>iop E.P fr (.call c) h
 | o=>iop E.P fr o h
def iC (E:Env) (call:je) (nt:Nat) (ops:List Oper) (o:Oper) (fr:Fr) (h:IH):Option (Fr×IH) :=
 match dW ops o fr with
 | some true=>match jn E call fr o.op h with
  | some (v,h)=>(ue nt fr o.dst v).map (·,h)
  | none=>none
 | some false=>(ue nt fr o.dst undef).map (·,h)
 | none=>none
def lC (E:Env) (call:je) (nt:Nat) (ops:List Oper):List Oper→Fr→IH→Option (Fr×IH)
 | [],fr,h=>some (fr,h)
 | o :: l,fr,h=>match iC E call nt ops o fr h with
  | some (fr,h)=>lC E call nt ops l fr h
  | none=>none
inductive Yc where
 | pure|load|alloc|chain
 deriving DecidableEq
def fE:Op→Yc
 | .move _|.assign _|.pick _ _ _|.build _ _|.nilCheck _|.binOp _ _ _ _ _|.unOp _ _ _|.convert _ _ _|.sliceToArrayPointer _ _|.makeFunc _ _ _|.fieldAddr _ _ _|.field _ _ _
 | .indexAddr _ _ _|.index _ _ _|.extract _ _=>.pure
 | .load _ _|.lookup _ _ _ _|.slice _ _ _ _ _=>.load
 | .alloc _|.box _ _|.buildSlice _ _ _|.makeMap _ _|.makeSlice _ _ _=>.alloc
 | .call c=>match c.callee with
  | .builtin .len=>.load
  | .builtin .max=>.pure
  | .builtin .min=>.pure
  | _=>.chain
 | _=>.chain
def xL (acc:List Nat) (o:Oper):Nat:=o.after.toList.foldr (fun e s=>bif Region.binds .any e then s ||| 2 ^ e.on ||| acc.getD e.on 0 else s) 0
def tX:List Nat→List Oper→List Nat
 | acc,[]=>acc
 | acc,o :: l=>tX (acc ++ [xL acc o]) l
def tmpsOf (l:List Operand):List Nat:=l.filterMap fun x=>match x with|.tmp t=>some t|_=>none
def reads (ops:List Oper) (o:Oper):List Nat :=
 tmpsOf o.op.operands.toList ++ (match o.guard with|some (g,_)=>((ops[g]?).bind (·.dst)).toList|none => [])
def Bh (ops:List Oper) (x y:Oper):Bool :=
 (match x.dst with|some d=>y.dst == some d || (reads ops y).contains d|none=>false) || (match y.dst with|some d=>(reads ops x).contains d|none=>false)
def tz (ops:List Oper):Bool :=
 let ms:=tX [] ops
 (List.range ops.length).all fun j=>match ops[j]? with
  | none=>true
  | some y =>
   y.after.toList.all (fun e => !Region.binds .any e || Nat.blt e.on j) &&
   (match y.guard with|none=>true|some (g,_)=>(ms.getD j 0).testBit g) &&
   (List.range j).all fun i=>match ops[i]? with
    | none=>true
    | some x=>(ms.getD j 0).testBit i || !(Bh ops x y || (fE x.op == .chain && fE y.op == .chain))
def Eo (ops:List Oper):List (Nat×List Nat) :=
 let ms:=tX [] ops;let chain:=(List.range ops.length).filter fun k=>match ops[k]? with|some o=>fE o.op == .chain|none=>false
 (List.range ops.length).filterMap fun i=>match ops[i]? with
  | none=>none
  | some o=>bif fE o.op == .load then
    some (i,(chain ++ [ops.length]).filter fun p =>
     chain.all fun k=>bif Nat.blt k p then !(ms.getD k 0).testBit i else !(ms.getD i 0).testBit k)
   else none
def trace (E:Env) (call:je) (nt:Nat) (ops:List Oper):List Oper→Fr→IH→Option (List (Fr×IH))
 | [],fr,h=>some [(fr,h)]
 | o :: l,fr,h=>match iC E call nt ops o fr h with
  | some (fr',h')=>(trace E call nt ops l fr' h').map ((fr,h) :: ·)
  | none=>none
def eqS:QQ→QQ→Bool
 | .bool a,.bool b=>a == b
 | .int j a,.int k b=>j == k && a == b
 | .string a,.string b=>a.data.toList == b.data.toList
 | .pointer a,.pointer b=>a == b
 | .slice a n c,.slice b m d=>a == b && n == m && c == d
 | .map a,.map b=>a == b
 | .nilFunc,.nilFunc=>true
 | .nilIface,.nilIface=>true
 | _,_=>false
def eqL:List QQ→List QQ→Bool
 | [],[]=>true
 | a :: l,b :: m=>eqS a b && eqL l m
 | _,_=>false
def eqA:QQ→QQ→Bool
 | .agg a,.agg b=>eqL a.toList b.toList
 | .func f a c,.func g b d=>f == g && eqL a.toList b.toList && eqL c.toList d.toList
 | a,b=>eqS a b
def eqT:List QQ→List QQ→Bool
 | [],[]=>true
 | a :: l,b :: m=>eqA a b && eqT l m
 | _,_=>false
def XB:QQ→QQ→Bool
 | .tuple a,.tuple b=>eqT a.toList b.toList
 | a,b=>eqA a b
noncomputable def eqV (a b:QQ):Bool:=XB a b || @decide (a=b) (Classical.propDecidable _)
def JD (a:QQ):eqV a a=true:=by simp[eqV]
noncomputable section
def jS (P:QX) (fr:Fr) (o:Op) (h h':IH):Bool :=
 match iop P fr o h,iop P fr o h' with
 | some (v,_),some (v',_)=>eqV v v'
 | _,_=>false
def steady (P:QX) (ops:List Oper) (tr:List (Fr×IH)) (pl:List (Nat×List Nat)):Bool :=
 pl.all fun e=>match ops[e.1]?,tr[e.1]? with
  | some o,some (fr,h)=>match dW ops o fr with
   | some true=>e.2.all fun p=>match tr[p]? with
    | some (_,h')=>jS P fr o.op h h'
    | none=>false
   | _=>true
  | _,_=>false
def oH (E:Env) (call:je) (nt:Nat) (ops:List Oper) (fr:Fr) (h:IH):Option (Fr×IH) :=
 match trace E call nt ops ops fr h with
 | none=>none
 | some tr=>bif tz ops && steady E.P ops tr (Eo ops) then tr[ops.length]? else none
inductive dL where
 | normal
 | exit (id:Nat)
 | ret
abbrev Out:=Option (dL×Fr×IH)
def qQ (b:Fr→IH→Out):Nat→Fr→IH→Out
 | 0,_,_=>none
 | n+1,fr,h=>match b fr h with
  | some (.normal,fr,h)=>qQ b n fr h
  | some (.exit i,fr,h)=>some (.exit i,fr,h)
  | some (.ret,fr,h)=>some (.ret,fr,h)
  | none=>none
def od (E:Env) (fn:FuncId) (id:Nat) (fr:Fr):Fr :=
 match E.lv fn id with
 | some l=>jB fr l
 | none=>fr
def mj (h:IH) (k:Nat):Option jq :=
 match h.ext.get k with
 | some (.loop r)=>some r
 | _=>none
def Al:Option Code→Option dL
 | none=>some .normal
 | some (.exit i)=>some (.exit i)
 | some .ret=>some .ret
 | _=>none
def vz (h:IH):Option Nat→Bool
 | none=>true
 | some l=>(mj h l).isSome
def ot (E:Env) (call:je) (fn:FuncId) (nt:Nat) (rd:Option Nat) (f:Operand) (params:List Nat) (assign body:Code) (fr:Fr) (h:IH):Out :=
 match (bif vz h rd then opd fr f else none) with
 | none=>none
 | some fv =>
  match call fv [.func (.yield (2*h.n)) #[] #[]] (h.new (.loop { state:=.ready,pending:=none,fn,nt,fr,params,assign,body })) with
  | none=>none
  | some (_,h1)=>match mj h1 h.n with
   | none=>none
   | some r=>bif r.state == .busy then none else match Al r.pending with
    | none=>none
    | some e=>some (e,fr,{ h1 with ext:=h1.ext.set h.n .dead })
def Dd (ops:List Oper) (draw:Bool):Option (Nat×Nat×Nat) :=
 match draw,ops with
 | false,[⟨some nx,.next (.tmp it) false,_,_,_,none⟩,⟨some more,.extract (.tmp x) 0,_,_,_,none⟩]=>bif x == nx then some (it,nx,more) else none
 | _,_=>none
def tq (nt nx more:Nat) (v:QQ) (b:Bool) (fr:Fr):Option Fr :=
 match ue nt fr (some nx) v with
 | some fr=>ue nt fr (some more) (.bool b)
 | none=>none
def Hj (fr:Fr) (h:IH) (it kb k:Nat) (es:List (QQ×QQ)) (seen:List Nat):Prop :=
 ax fr it=some (ptr (2*kb) 0)∧h.ext.get kb=some (.iter k es.length seen es.length)∧mapOf h k=some es
open Classical in
def iV (rest:Fr→IH→Out) (hd:Fr→Fr) (nt it nx more kb k:Nat) (es:List (QQ×QQ)):List Nat→List Nat→Fr→IH→Out
 | [],seen,fr,h=>if Hj (hd fr) h it kb k es seen then
   match tq nt nx more (.tuple #[.bool false]) false (hd fr) with
   | none=>none
   | some fr=>match rest fr h with
    | some (.normal,_,_)=>none
    | o=>o
  else none
 | i :: l,seen,fr,h=>if Hj (hd fr) h it kb k es seen then
   match es[i]? with
   | none=>none
   | some e=>match tq nt nx more (.tuple #[.bool true,e.1,e.2]) true (hd fr) with
    | none=>none
    | some fr=>match rest fr { h with ext:=h.ext.set kb (.iter k es.length (seen ++ [i]) es.length) } with
     | some (.normal,fr,h)=>iV rest hd nt it nx more kb k es l (seen ++ [i]) fr h
     | o=>o
  else none
open Classical in
def common (nt n:Nat) (R:List Nat→Out):Out :=
 if c : ∃o:dL×IH,∀l:List Nat,l.Perm (List.range n) → ∃fr,R l=some (o.1,fr,o.2) then
  some (c.choose.1,(List.range nt).filterMap (fun t=>if d : ∃v,∀l:List Nat,l.Perm (List.range n) → ∀e fr h,R l=some (e,fr,h)→ax fr t=some v then some (t,d.choose) else none),c.choose.2)
 else none
def Jk (kb:Nat):Out→Out
 | none=>none
 | some p=>match p.2.2.ext.get kb with
  | some (.iter _ _ _ _)=>some (p.1,p.2.1,{ p.2.2 with ext:=p.2.2.ext.set kb .dead })
  | _=>none
open Classical in
def vF (rest:Fr→IH→Out) (hd:Fr→Fr) (nt it nx more:Nat) (fr:Fr) (h:IH):Out :=
 match ax (hd fr) it with
 | some (.pointer (some ⟨b,0,none⟩))=>bif b % 2 == 1 then none else match h.ext.get (b / 2) with
  | some (.iter k _ _ _)=>match mapOf h k with
   | some es=>common nt es.length fun l=>if l.Perm (List.range es.length) then Jk (b / 2) (iV rest hd nt it nx more (b / 2) k es l [] fr h) else none
   | none=>none
  | _=>none
 | _=>none
def evC (E:Env) (call:je) (fn:FuncId) (nt:Nat) (rd:Option Nat) (n:Nat):Code→Fr→IH→Out
 | .skip,fr,h=>some (.normal,fr,h)
 | .label _,fr,h=>some (.normal,fr,h)
 | .region id ops draw,fr,h =>
  match (bif draw then oH E call nt ops.toList (od E fn id fr) h else lC E call nt ops.toList ops.toList (od E fn id fr) h) with
  | some (fr,h)=>some (.normal,fr,h)
  | none=>none
 | .seq a b,fr,h=>match evC E call fn nt rd n a fr h with
  | some (.normal,fr,h)=>evC E call fn nt rd n b fr h
  | some (.exit i,fr,h)=>some (.exit i,fr,h)
  | some (.ret,fr,h)=>some (.ret,fr,h)
  | none=>none
 | .cond c a b,fr,h=>match opd fr c with
  | some (.bool true)=>evC E call fn nt rd n a fr h
  | some (.bool false)=>evC E call fn nt rd n b fr h
  | _=>none
 | .block id b,fr,h=>match evC E call fn nt rd n b fr h with
  | some (.exit i,fr,h)=>bif i == id then some (.normal,fr,h) else some (.exit i,fr,h)
  | some (.normal,fr,h)=>some (.normal,fr,h)
  | some (.ret,fr,h)=>some (.ret,fr,h)
  | none=>none
 | .loop b,fr,h=>match b with
  | .seq (.region id ops draw) rest=>match Dd ops.toList draw with
   | some (it,nx,more)=>vF (evC E call fn nt rd n rest) (od E fn id) nt it nx more fr h
   | none=>qQ (evC E call fn nt rd n (.seq (.region id ops draw) rest)) n fr h
  | b=>qQ (evC E call fn nt rd n b) n fr h
 | .scope b,fr,h=>evC E call fn nt rd n b fr h
 | .rangeFunc f ps a b,fr,h=>ot E call fn nt rd f ps.toList a b fr h
 | .exit i,fr,h=>some (.exit i,fr,h)
 | .ret,fr,h=>some (.ret,fr,h)
 | .goto _,_,_=>none
 | .refuse _,_,_=>none
def oJ (P:QX) (fr:Fr) (h:IH):ResultVar→Option QQ
 | .tmp t=>ax fr t
 | .cell a t=>match ax fr a with
  | some v=>load P h t v
  | none=>none
def eG (P:QX) (fr:Fr) (h:IH):List ResultVar→Option (List QQ)
 | []=>some []
 | r :: l=>match oJ P fr h r,eG P fr h l with
  | some v,some vs=>some (v :: vs)
  | _,_=>none
def single:List QQ→QQ
 | [v]=>v
 | vs=>.tuple vs.toArray
def og (name:String) (args:List QQ):Option QQ :=
 match args with
 | [.int .u64 (.ofNat x),.int .u64 (.ofNat y),.int .u64 (.ofNat c)]=>bif Nat.ble c 1 then
   (bif name == "math/bits.Add64" then some (.tuple #[.int .u64 ((x+y+c) % 18446744073709551616:Nat),.int .u64 ((x+y+c) / 18446744073709551616:Nat)])
    else bif name == "math/bits.Sub64" then some (.tuple #[.int .u64 ((x+18446744073709551616 - y - c) % 18446744073709551616:Nat),.int .u64 ((bif Nat.blt x (y+c) then 1 else 0:Nat))]) else none)
  else none
 | _=>none
def xX (E:Env) (call:je) (n:Nat) (f:FuncId) (args:List QQ) (h:IH):Option (QQ×IH) :=
 match E.Jp f with
 | some g=>g args h
 | none=>match E.P.funcs[f]? with
  | none=>none
  | some fn=>match fn.body with
   | none=>(og fn.name args).map (·,h)
   | some c=>bif Nat.ble args.length fn.ntmps then
     match evC E call f fn.ntmps none n c (nj 0 args) h with
     | some (.exit _,_,_)=>none
     | some (_,fr,h)=>(eG E.P fr h fn.results.toList).map fun vs=>(single vs,h)
     | none=>none
    else none
def iT (nt:Nat):List Nat→List QQ→Fr→Option Fr
 | [],[],fr=>some fr
 | t :: l,v :: vs,fr=>match ue nt fr (some t) v with
  | some fr=>iT nt l vs fr
  | none=>none
 | _,_,_=>none
def fu (E:Env) (call:je) (n:Nat) (l:Nat) (args:List QQ) (h:IH):Option (QQ×IH) :=
 match mj h l with
 | none=>none
 | some r=>match iT r.nt r.params args r.fr with
  | none=>none
  | some fr=>match evC E call r.fn r.nt (some l) n r.assign fr h with
   | some (.normal,fr,h)=>match mj h l with
    | none=>none
    | some r1=>bif r1.state == .ready then
      match evC E call r.fn r.nt (some l) n r.body fr { h with ext:=h.ext.set l (.loop { r1 with state:=.busy }) } with
      | none=>none
      | some (e,_,h)=>match mj h l with
       | none=>none
       | some r2=>match e with
        | .normal=>some (.bool true,{ h with ext:=h.ext.set l (.loop { r2 with state:=.ready,pending:=none }) })
        | .exit i=>some (.bool false,{ h with ext:=h.ext.set l (.loop { r2 with state:=.done,pending:=some (.exit i) }) })
        | .ret=>some (.bool false,{ h with ext:=h.ext.set l (.loop { r2 with state:=.done,pending:=some .ret }) })
     else none
   | _=>none
def fP (E:Env):Nat→je
 | 0,_,_,_=>none
 | n+1,fv,vs,h=>match fv with
  | .func (.func f) first cap=>xX E (fP E n) n f (first.toList ++ (vs ++ cap.toList)) h
  | .func (.yield l) first _=>bif l % 2 == 0 then fu E (fP E n) n (l / 2) (first.toList ++ vs) h else none
  | _=>none
end
end Go.Id
namespace Go.Id
open Go Go.RowKit
section
structure Mp where
 at_:Nat→Option (Nat×Nat)
 ez:Nat→Nat×Nat
instance:CoeFun Mp fun _=>Nat→Option (Nat×Nat):=⟨Mp.at_⟩
def Mp.le (m m':Mp):Prop:=∀b x,m b=some x→m' b=some x∧m'.ez b=m.ez b
def Mp.le_refl (m:Mp):m.le m:=fun _ _ h=>⟨h,rfl⟩
def Mp.le_trans {a b c:Mp} (h:a.le b) (k:b.le c):a.le c:=fun x y e=>let ⟨p,q⟩:=h x y e;let ⟨r,s⟩:=k x y p;⟨r,s.trans q⟩
def vk (m:Mp):Fn→Fn→Prop
 | .yield l,.yield r => ∃s,m l=some (r,s)
 | .func f,.func g=>f=g
 | _,_=>False
inductive bz (m:Mp):Value→Value→Prop where
 | dN {v:Value} (h:dN v=true):bz m v v
 | ptr {b o r s:Nat} (h:m b=some (r,s)):bz m (.pointer (some ⟨b,o,none⟩)) (.pointer (some ⟨r,s+o,none⟩))
 | slice {b o r s len k cap:Nat} (h:m b=some (r,s)) (hk0:0<k) (hl:len≤k / 2) (hk:k / 2≤cap) (hx:k % 2=1→cap=k / 2) (hz:k % 2=0→s+o+cap*(m.ez b).1≤(m.ez b).2) :
   bz m (.slice (some ⟨b,o,none⟩) len k) (.slice (some ⟨r,s+o,none⟩) len cap)
 | lost {b o cap:Nat} {a:Addr}:bz m (.slice (some ⟨b,o,none⟩) 0 0) (.slice (some a) 0 cap)
 | tok {b n cap:Nat} {a:Option Addr} (hc:n≤cap) (h:(n=0∧(a=none→cap=0)) ∨ ∃r s,m b=some (r,s)∧a=some ⟨r,s,none⟩):bz m (.slice (some ⟨b,0,some 0⟩) n 0) (.slice a n cap)
 | map {b r s:Nat} (h:m b=some (r,s)):bz m (.map (some b)) (.map (some r))
 | func {fn fn':Fn} {xs xs' ys ys':Array Value} (hf:vk m fn fn') (hx:xs.size=xs'.size) (hy:ys.size=ys'.size)
   (h1 : ∀(i:Nat) (v v':Value),xs[i]?=some v→xs'[i]?=some v'→bz m v v') (h2 : ∀(i:Nat) (v v':Value),ys[i]?=some v→ys'[i]?=some v'→bz m v v'):bz m (.func fn xs ys) (.func fn' xs' ys')
 | agg {cs cs':Array Value} (hs:cs.size=cs'.size) (h : ∀(i:Nat) (v v':Value),cs[i]?=some v→cs'[i]?=some v'→bz m v v'):bz m (.agg cs) (.agg cs')
 | tuple {cs cs':Array Value} (hs:cs.size=cs'.size) (h : ∀(i:Nat) (v v':Value),cs[i]?=some v→cs'[i]?=some v'→bz m v v'):bz m (.tuple cs) (.tuple cs')
variable {m' m:Mp}
def vk.mono (hm:m.le m') {f g:Fn} (h:vk m f g):vk m' f g:=by cases f<;>cases g<;>simp_all [vk];obtain⟨s,h⟩:=h;exact⟨s,(hm _ _ h).1⟩
variable {v v':Value}
def bz.mono (hm:m.le m') (h:bz m v v'):bz m' v v':=by
 induction h with
 | dN h=>exact .dN h
 | ptr h=>exact .ptr (hm _ _ h).1
 | slice h a b c d e=>exact .slice (hm _ _ h).1 a b c d (by rw[(hm _ _ h).2];exact e)
 | lost=>exact .lost
 | tok hc h=>exact .tok hc (h.imp id fun⟨r,s,h1,h2⟩=>⟨r,s,(hm _ _ h1).1,h2⟩)
 | map h=>exact .map (hm _ _ h).1
 | func hf hx hy _ _ i1 i2=>exact .func (hf.mono hm) hx hy i1 i2
 | agg hs _ ih=>exact .agg hs ih
 | tuple hs _ ih=>exact .tuple hs ih
def bz.gL (h:bz m v v') (hv:Id.dN v=true):v'=v:=by cases h<;>simp_all [Id.dN]
def bz.undef (m:Mp):bz m undef undef:=.tuple rfl ab
def dv (m:Mp) (l l':List Value):Prop:=l.length=l'.length ∧ ∀(i:Nat) (v v':Value),l[i]?=some v→l'[i]?=some v'→bz m v v'
def dv.nil (m:Mp):dv m [] []:=⟨rfl,ab⟩
variable {l l':List Value}
def dv.cons (h:bz m v v') (t:dv m l l'):dv m (v :: l) (v' :: l'):=by
 refine⟨by simp[t.1],fun i x x' hx hx'=>?_⟩;cases i with
 | zero=>simp at hx hx';subst hx;subst hx';exact h
 | succ i=>simp at hx hx';exact t.2 i x x' hx hx'
variable {a' a:List Value}
def dv.append {b b':List Value} (h:dv m a a') (k:dv m b b'):dv m (a ++ b) (a' ++ b'):=by
 refine⟨by simp[h.1,k.1],fun i v v' hv hv'=>?_⟩;by_cases hi:i<a.length;·rw[ef hi] at hv;rw[ef (h.1▸hi)] at hv';exact h.2 i v v' hv hv'
 ·rw[gI aa] at hv;rw[gI (by have:=h.1;omega)] at hv'
  rw[←h.1] at hv';exact k.2 _ v v' hv hv'
def dv.take (h:dv m a a') (n:Nat):dv m (a.take n) (a'.take n):=by
 refine⟨by simp[h.1],fun i v v' hv hv'=>?_⟩;rw[gR] at hv hv';by_cases hi:i<n;·simp only[hi,cq] at hv hv';exact h.2 i v v' hv hv'
 ·simp[hi] at hv
def dv.drop (h:dv m a a') (n:Nat):dv m (a.drop n) (a'.drop n):=by refine⟨by simp[h.1],fun i v v' hv hv'=>?_⟩;rw[kh] at hv hv';exact h.2 _ v v' hv hv'
def dv.get (h:dv m a a') {i:Nat} (hv:a[i]?=some v) : ∃v',a'[i]?=some v'∧bz m v v':=by
 have hi:i<a.length:=by
  rcases dr i a.length with h|h;·exact h
  ·rw[cy h] at hv;cases hv
 have hi':i<a'.length:=h.1▸hi;exact⟨a'[i],aK hi',h.2 i v _ hv (aK hi')⟩
def dv.dN (h:dv m l l') (hs:l.all Id.dN=true):l'=l:=by
 apply iO fun i=>?_;by_cases hi:i<l.length;·obtain⟨v',h1,h2⟩:=h.get (aK hi);rw[h1,aK hi];rw[h2.gL (by have:=ji.1 hs;exact this _ (mO hi))]
 ·rw[cy (show l'.length≤i from h.1▸Gn hi),cy (Gn hi)]
def dv.T0 (hs:l.all Id.dN=true):dv m l l:=by refine⟨rfl,fun i v v' a b=>?_⟩;rw[a] at b;cases b;exact .dN (ji.1 hs _ (bh a))
variable {cs cs':Array Value}
def bz.vX (h:dv m cs.toList cs'.toList):bz m (.agg cs) (.agg cs') :=
 .agg (by simpa using h.1) (fun i v v' a b=>h.2 i v v' (by simpa using a) (by simpa using b))
def bz.kY (h:dv m cs.toList cs'.toList):bz m (.tuple cs) (.tuple cs') :=
 .tuple (by simpa using h.1) (fun i v v' a b=>h.2 i v v' (by simpa using a) (by simpa using b))
def bz.BT (h:bz m (.agg cs) v') : ∃cs',v'=.agg cs'∧dv m cs.toList cs'.toList:=by
 cases h with
 | dN h=>simp[Id.dN] at h
 | agg hs h=>exact⟨_,rfl,by simpa using hs,fun i v v' a b=>h i v v' (by simpa using a) (by simpa using b)⟩
def bz.zM (h:bz m (.tuple cs) v') : ∃cs',v'=.tuple cs'∧dv m cs.toList cs'.toList:=by
 cases h with
 | dN h=>simp[Id.dN] at h
 | tuple hs h=>exact⟨_,rfl,by simpa using hs,fun i v v' a b=>h i v v' (by simpa using a) (by simpa using b)⟩
variable {ys:Array Value}{fn:Fn}{xs:Array Value}
def bz.yW (h:bz m (.func fn xs ys) v') :∃fn' xs' ys',v'=.func fn' xs' ys'∧vk m fn fn'∧dv m xs.toList xs'.toList∧dv m ys.toList ys'.toList:=by
 cases h with
 | dN h=>simp[Id.dN] at h
 | func hf hx hy h1 h2 =>
  exact⟨_,_,_,rfl,hf,⟨by simpa using hx,fun i v v' a b=>h1 i v v' (by simpa using a) (by simpa using b)⟩,⟨by simpa using hy,fun i v v' a b=>h2 i v v' (by simpa using a) (by simpa using b)⟩⟩
def bz.Ht {fn':Fn} {xs' ys':Array Value} (hf:vk m fn fn') (h1:dv m xs.toList xs'.toList) (h2:dv m ys.toList ys'.toList) :bz m (.func fn xs ys) (.func fn' xs' ys') :=
 .func hf (by simpa using h1.1) (by simpa using h2.1) (fun i v v' a b=>h1.2 i v v' (by simpa using a) (by simpa using b)) (fun i v v' a b=>h2.2 i v v' (by simpa using a) (by simpa using b))
def bz.ou {b o:Nat} (h:bz m (.pointer (some ⟨b,o,none⟩)) v') : ∃r s,m b=some (r,s)∧v'=.pointer (some ⟨r,s+o,none⟩):=by
 cases h with
 | dN h=>simp[Id.dN] at h
 | ptr h=>exact⟨_,_,h,rfl⟩
def bz.iX (h:bz m v v') (hv:plain v=true):v'=v:=by
 by_cases ha : ∃cs,v=.agg cs;·obtain⟨cs,rfl⟩:=ha;obtain⟨cs',rfl,hl⟩:=h.BT;have:cs'.toList=cs.toList:=hl.dN (by simpa [plain] using hv);rw[uk.1 this]
 ·exact h.gL (by unfold plain at hv;split at hv<;>simp_all)
def bz.dS (hv:plain v=true):bz m v v:=by
 by_cases ha : ∃cs,v=.agg cs;·obtain⟨cs,rfl⟩:=ha;exact bz.vX (.T0 (by simpa [plain] using hv))
 ·exact .dN (by unfold plain at hv;split at hv<;>simp_all)
def bz.cells (h:bz m v v'):dv m v.cells.toList v'.cells.toList:=by
 by_cases ha : ∃cs,v=.agg cs;·obtain⟨cs,rfl⟩:=ha;obtain⟨cs',rfl,hl⟩:=h.BT;exact hl
 ·have e1:v.cells = #[v]:=by cases v<;>simp_all [Value.cells]
  have e2:v'.cells = #[v']:=by cases h<;>simp_all [Value.cells]
  rw[e1,e2];exact .cons h (.nil m)
def gZ (m:Mp) (fr:Fr) (tmps:Array Value):Prop:=∀t v,ax fr t=some v → ∃v',tmps[t]?=some v'∧bz m v v'
structure pO (m:Mp) (l:jq) (l':Loop):Prop where
 state:l'.state=l.state
 pending:l'.pending=l.pending
 fn:l'.fn=l.fn
 tmps:gZ m l.fr l'.tmps
 nt:l.nt≤l'.tmps.size
 params:l'.params.toList=l.params
 assign:l'.assign=l.assign
 body:l'.body=l.body
def Tt (m:Mp) (e:Value×Value) (e':MapEntry):Prop:=e'.key=e.1∧plain e.1=true∧bz m e.2 e'.val
def vh (m:Mp) (es:List (Value×Value)) (c:Array MapEntry):Prop:=es.length=c.size ∧ ∀(i:Nat) (e:Value×Value) (e':MapEntry),es[i]?=some e→c[i]?=some e'→Tt m e e'∧e'.born=i
def wU (m:Mp) (cs:List Value) (c:Array Value) (s:Nat):Prop:=s+cs.length≤c.size ∧ ∀(i:Nat) (v:Value),cs[i]?=some v → ∃v',c[s+i]?=some v'∧bz m v v'
def Z3 (x:Nat):List Nat:=if h:x=0 then [] else x % 18446744073709551616 :: Z3 (x / 18446744073709551616)
 termination_by x
 decreasing_by exact Nat.div_lt_self (pY h) aC
def TA (x:Nat):List Value:=(Z3 x).map fun d:Nat=>Value.int .u64 (d:Int)
def mo (m:Mp) (w:World) (r s:Nat) (z:Nat×Nat):cX→Prop
 | .cells cs e _ => ∃c el,w.heap[r]?=some (.cells c el)∧wU m cs c s∧z.1=e∧z.2≤c.size
 | .map es=>s=0 ∧ ∃c,w.heap[r]?=some (.map c es.length)∧vh m es c
 | .loop l=>s=0 ∧ ∃l',w.heap[r]?=some (.loop l')∧pO m l l'
 | .iter k since seen last=>s=0 ∧ ∃rm,w.heap[r]?=some (.mapIter (some rm) since seen.toArray last)∧m k=some (rm,0)
 | .num x=>x=0 ∨ ∃c el,w.heap[r]?=some (.cells c el)∧wU m (TA x) c s
 | .dead=>True
def cX.alive:cX→Bool
 | .dead=>false
 | _=>true
def cX.isNum:cX→Bool
 | .num _=>true
 | _=>false
def Kin (h:IH) (k k':Nat):Prop:=∃cs t cs' t' f st,h.ext.get k=some (.cells cs t (some f))∧h.ext.get k'=some (.cells cs' t' (some f))∧h.eP.get f=some st∧k∈st∧k'∈st
structure Rel (B:Nat) (w0:World) (m:Mp) (h:IH) (w:World):Prop where
 below:Below B w0 w
 size:B≤w.heap.size
 base : ∀b cs,h.base b=some cs → ∃r s,m (2*b+1)=some (r,s)∧r<B ∧ ∃c el fz,w.heap[r]?=some (.cells c el fz)∧wU m cs c s
 odd : ∀b,b<4294967296→m (2*b+1)=some (b,0)
 even : ∀k r s,m (2*k)=some (r,s)→B≤r∧r<w.heap.size
 dom : ∀k,h.n≤k→h.ext.get k=none
 obj : ∀k o r s,h.ext.get k=some o→m (2*k)=some (r,s)→mo m w r s (m.ez (2*k)) o
 own : ∀k k' o o' r s s',k≠k'→h.ext.get k=some o→h.ext.get k'=some o'→o.alive=true→o'.alive=true→m (2*k)=some (r,s)→m (2*k')=some (r,s')→Kin h k k'∨(o.isNum=true∧o'.isNum=true)
 iJ : ∀f st,h.eP.get f=some st→f<h.n∧(∀x∈st,x<h.n)∧st.Nodup
 fam : ∀k cs t f,h.ext.get k=some (.cells cs t (some f)) → ∃st,h.eP.get f=some st∧k∈st
 long : ∀f st,h.eP.get f=some st→st.Pairwise fun x y => ∀cs t g cs' t' g' r s s',h.ext.get x=some (.cells cs t g)→h.ext.get y=some (.cells cs' t' g') →
  m (2*x)=some (r,s)→m (2*y)=some (r,s')→s'+cs'.length≤s+cs.length
 whole : ∀f st x y,h.eP.get f=some st→x∈st→y∈st→(m (2*x)).isSome=true→(m (2*y)).isSome=true
structure Step (m:Mp) (h:IH) (w:World) (m':Mp) (h':IH) (w':World):Prop where
 le:m.le m'
 new : ∀b,m' b≠m b → ∃k,b=2*k∧h.n≤k∧k<h'.n
 n:h.n≤h'.n
 base:h'.base=h.base
 frame : ∀r,r<w.heap.size→(∀k s,k<h.n→m (2*k)≠some (r,s))→w'.heap[r]?=w.heap[r]?
 idle : ∀k,k<h.n→m (2*k)=none→h'.ext.get k=h.ext.get k
 size:w.heap.size≤w'.heap.size
 img : ∀k r s,h.n≤k→k<h'.n→m' (2*k)=some (r,s)→w.heap.size≤r ∨ ∃k0 s0,k0<h.n∧m (2*k0)=some (r,s0)
 rS : ∀k,k<h.n→m (2*k)=none→(∀f st,h.eP.get f=some st→k∉st) → ∀f st,h'.eP.get f=some st→k∉st
def jE (m:Mp) (a b:Nat):Prop:=∀k,a≤k→k<b→m (2*k)=none
def Step.refl (m:Mp) (h:IH) (w:World):Step m h w m h w :=
 ⟨Mp.le_refl m,fun _ e=>absurd rfl e,aA _,rfl,fun _ _ _=>rfl,fun _ _ _=>rfl,aA _,fun k r s a b=>aa,fun _ _ _ h=>h⟩
variable {h:IH}{w:World}
theorem Step.old {h':IH} {w':World} (s:Step m h w m' h' w') {k:Nat} (hk:k<h.n):m' (2*k)=m (2*k):=by apply di;intro hne;obtain⟨k',e,a,_⟩:=s.new _ hne;omega
def Step.trans {m1 m2:Mp} {h1 h2:IH} {w1 w2:World} (s:Step m h w m1 h1 w1) (t:Step m1 h1 w1 m2 h2 w2):Step m h w m2 h2 w2:=by
 refine⟨Mp.le_trans s.le t.le,fun b hb=>?_,bV s.n t.n,t.base.trans s.base,fun r hr hk=>?_,fun k hk hm=>?_,bV s.size t.size,fun k r x hk1 hk2 hx=>?_,fun k hk hm hf=>t.rS k (cB hk s.n) (by rw[s.old hk,hm]) (s.rS k hk hm hf)⟩
 ·by_cases h12:m2 b=m1 b
  ·rw[h12] at hb;obtain⟨k,e,a,c⟩:=s.new b hb;exact⟨k,e,a,cB c t.n⟩
  ·obtain⟨k,e,a,c⟩:=t.new b h12;exact⟨k,e,bV s.n a,c⟩
 ·rw[t.frame r (cB hr s.size) ?_,s.frame r hr hk];intro k x hk1 hm1;by_cases hkn:k<h.n
  ·exact hk k x hkn (by rw[←s.old hkn];exact hm1)
  ·rcases s.img k r x aa hk1 hm1 with e|⟨k0,s0,e1,e2⟩
   ·omega
   ·exact hk k0 s0 e1 e2
 ·have hm1:m1 (2*k)=none:=by rw[s.old hk,hm]
  rw[t.idle k (cB hk s.n) hm1,s.idle k hk hm]
 ·by_cases hkn:k<h1.n
  ·rw[t.old hkn] at hx;exact s.img k r x hk1 hkn hx
  ·rcases t.img k r x aa hk2 hx with e|⟨k0,s0,e1,e2⟩
   ·exact .inl (bV s.size e)
   ·by_cases hk0:k0<h.n
    ·rw[s.old hk0] at e2;exact .inr ⟨k0,s0,hk0,e2⟩
    ·exact s.img k0 r s0 aa e1 e2
end
end Go.Id

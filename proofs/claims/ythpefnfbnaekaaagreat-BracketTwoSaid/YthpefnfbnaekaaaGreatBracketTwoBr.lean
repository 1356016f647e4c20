/-
  Weakest preconditions over the ideal machine: a list that grows and is emptied (l = l[:0]) to grow again in its place. Contracts: wardmoteref06: minimums; stores beside lists.
-/
import Derived.Test.YthpefnfbnaekaaaGreatBracketTwoBn
import Derived.Test.YthpefnfbnaekaaaGreatBracketTwoBq
import Derived.Test.YthpefnfbnaekaaaGreatBracketTwoAr
set_option linter.unusedVariables false
set_option linter.unusedSimpArgs false
set_option linter.defProp false
set_option linter.deprecated false
namespace Go.Id
open Go
def RAcc (h:IH) (n0:Nat) (v:Value) (n:Nat) (cs:List Value):Prop :=
 cs.length=n∧((v=.slice none 0 0∧n=0) ∨ ∃k fam tl,v=.slice (some ⟨2*k,0,none⟩) n (2*(n+tl.length))∧0<n+tl.length∧n0≤k∧k<h.n∧h.ext.get k=some (.cells (cs ++ tl) 1 fam)∧TopFam h n0 k fam)
theorem RAcc.nil (h:IH) (n0:Nat):RAcc h n0 (.slice none 0 0) 0 []:=⟨rfl,.inl ⟨rfl,rfl⟩⟩
theorem RAcc.sl {h:IH} {n0:Nat} {v:Value} {n:Nat} {cs:List Value} (a:RAcc h n0 v n cs):SlOf h 1 v n cs:=by
 obtain⟨hl,a|⟨k,fam,tl,rfl,hn,h1,h2,h3,h4⟩⟩:=a
 ·exact⟨by omega,by omega,.inl a⟩
 ·refine⟨by omega,by omega,.inr ⟨2*k,0,2*(n+tl.length),rfl,.inr ⟨by omega,by omega,cs ++ tl,.inr ⟨by omega,by omega,fam,?_⟩,?_,?_,?_⟩⟩⟩
  ·rw[show 2*k / 2=k from by omega,h3]
  ·rw[row_even];simp[IH.cells,h3]
  ·rw[List.drop_zero,Nat.mul_one,List.take_append_of_le_length (by omega),List.take_of_length_le (by omega)]
  ·rw[List.length_append];omega
theorem TopFam.ext {h h':IH} {n0 k:Nat} {fam:Option Nat} (t:TopFam h n0 k fam) (e:Ext h h'):TopFam h' n0 k fam:=by
 cases fam with
 | none=>trivial
 | some f =>
  obtain⟨a1,a2,rest,a3,a4⟩:=t
  exact⟨a1,by have:=e.n;omega,rest,by rw[e.fams f a2];exact a3,a4⟩
theorem RAcc.ext {h h':IH} {n0:Nat} {v:Value} {n:Nat} {cs:List Value} (a:RAcc h n0 v n cs) (e:Ext h h'):RAcc h' n0 v n cs:=by
 obtain⟨hl,a|⟨k,fam,tl,rfl,hn,h1,h2,h3,h4⟩⟩:=a
 ·exact⟨hl,.inl a⟩
 ·exact⟨hl,.inr ⟨k,fam,tl,rfl,hn,h1,by have:=e.n;omega,by rw[e.get k h2];exact h3,h4.ext e⟩⟩
theorem RAcc.cut {h:IH} {n0:Nat} {v:Value} {n:Nat} {cs:List Value} (a:RAcc h n0 v n cs) {P:Program} {t e:TypeId} (hu:P.underlying t=some (.slice e)) (hT:sizeT P e=some 1) {kd:IntKind} :
  ∃v',sliceOp P h t v none (some (.int kd 0)) none=some v'∧RAcc h n0 v' 0 []:=by
 obtain⟨hl,⟨rfl,rfl⟩|⟨k,fam,tl,rfl,hn,h1,h2,h3,h4⟩⟩:=a
 ·refine⟨.slice none 0 0,?_,RAcc.nil h n0⟩
  have b0:Nat.ble 0 0=true:=rfl
  simp[sliceOp,hu,hT,resliced,boundsOf,hiOf,loOf,natOf,b0]
 ·refine⟨.slice (some ⟨2*k,0,none⟩) 0 (2*(n+tl.length)),?_,rfl,.inr ⟨k,fam,cs ++ tl,by rw[List.length_append,Nat.zero_add,hl],by rw[List.length_append];omega,h1,h2,by rw[List.nil_append];exact h3,h4⟩⟩
  have hr:roomy h 1 (.slice (some ⟨2*k,0,none⟩) n (2*(n+tl.length)))=true:=by simp[roomy,h3]
  have c1:(2*(n+tl.length) == 0)=false:=by simp;omega
  have c2:((0:Nat) == 2*(n+tl.length) / 2)=false:=by
   rw[show 2*(n+tl.length) / 2=n+tl.length from by omega]
   simp;omega
  have b0:hiOf (some (.int kd 0)) n (2*(n+tl.length) / 2)=some 0:=rfl
  simp only[sliceOp,hu,hT,resliced,boundsOf,b0,loOf,hr,c1,c2,cond_true,cond_false,Bool.or_true,Nat.zero_mul,Nat.mul_zero,Nat.sub_zero,Nat.zero_add]
theorem RAcc.app1 {h:IH} {n0:Nat} {v:Value} {n:Nat} {cs:List Value} (a:RAcc h n0 v n cs) {P:Program} {t:TypeId} {bytes:Nat} (hT:appT P t=some (1,bytes)) {x:Value}
  (hc:cellOK x=true) (hsz:(n+1)*(bytes+1)≤1099511627776) (h0:n0≤h.n) {h0':IH} (e0:Ext h0' h) (hn0:h0'.n≤n0) :
  ∃v' h',append P (h.new (.cells [x] 1 none)) t v (.slice (some ⟨2*h.n,0,none⟩) 1 3)=some (v',h')∧RAcc h' n0 v' (n+1) (cs ++ [x])∧Ext h0' h'∧h.n≤h'.n:=by
 obtain⟨hl,⟨rfl,rfl⟩|⟨k,fam,tl,rfl,hn,h1,h2,h3,h4⟩⟩:=a
 ·obtain rfl:cs = []:=List.length_eq_zero_iff.1 hl
  obtain⟨v',h',b1,b2,b3,b4⟩:=(Acc.nil h n0 (sz:=1) (by omega)).app1 hT hc hsz h0 e0 hn0
  refine⟨v',h',b1,?_,b4,b3.n⟩
  obtain⟨_,c2,⟨_,c3⟩|⟨k,fam,rfl,c4,c5,c6,c7,c8⟩⟩:=b2
  ·omega
  ·exact⟨by omega,.inr ⟨k,fam,[],by simp,by simp,c5,c6,by rw[List.append_nil];exact c7,c8⟩⟩
 ·cases tl with
  | nil =>
   rw[List.append_nil] at h3
   have A:Acc h n0 1 (.slice (some ⟨2*k,0,none⟩) n (2*n)) n cs:=⟨by omega,by omega,.inr ⟨k,fam,rfl,by simpa using hn,h1,h2,h3,h4⟩⟩
   obtain⟨v',h',b1,b2,b3,b4⟩:=A.app1 hT hc hsz h0 e0 hn0
   refine⟨v',h',b1,?_,b4,b3.n⟩
   obtain⟨_,c2,⟨_,c3⟩|⟨k,fam,rfl,c4,c5,c6,c7,c8⟩⟩:=b2
   ·omega
   ·exact⟨by omega,.inr ⟨k,fam,[],by simp,by simp,c5,c6,by rw[List.append_nil];exact c7,c8⟩⟩
  | cons y tl =>
   unfold appT at hT
   split at hT
   case h_2=>cases hT
   rename_i e hu
   split at hT
   case h_2=>cases hT
   rename_i zs z1 z2 z3
   simp only[cond_eq_ite] at hT
   split at hT
   case isTrue=>cases hT
   rename_i hbad
   cases hT
   have hbad':((1:Nat) == 0 || (!(Nat.ble bytes 65536) || !(zs.length == 1)))=false:=by simpa using hbad
   have hk:(h.new (.cells [x] 1 none)).ext.get k=some (.cells (cs ++ y :: tl) 1 fam):=by rw[get_new_old _ _ (by omega)];exact h3
   have k1:(2*k % 2 == 1)=false:=by simp
   have k2:2*k / 2=k:=by omega
   have hfirst:firstOf (h.new (.cells [x] 1 none)) 1 1 (.slice (some ⟨2*h.n,0,none⟩) 1 3)=some [x]:=by
    have hr:(h.new (.cells [x] 1 none)).row (2*h.n)=some [x]:=row_new_same _ _ _ _ rfl
    simp only[firstOf,cond_eq_ite,Nat.ble_eq,Nat.le_refl,if_true,beq_iff_eq]
    rw[if_neg (by omega),rd_of hr,if_pos (by simp)]
    rfl
   have hroom:Nat.ble (n+1) (2*(n+(y :: tl).length) / 2)=true:=by rw[Nat.ble_eq,List.length_cons];omega
   have hble:Nat.ble ((n+1)*(bytes+1)) sizeMost=true:=by rw[Nat.ble_eq];exact hsz
   have hok:([x].all cellOK)=true:=by simp[hc]
   have hle:Nat.ble (0+n*1 + [x].length) (cs ++ y :: tl).length=true:=by rw[Nat.ble_eq,List.length_append,List.length_cons,List.length_cons,List.length_nil];omega
   have hsp:IH.splice (cs ++ y :: tl) (0+n*1) [x]=cs ++ [x] ++ tl:=by
    rw[show 0+n*1=cs.length from by omega]
    simp[IH.splice]
   have ap:append P (h.new (.cells [x] 1 none)) t (.slice (some ⟨2*k,0,none⟩) n (2*(n+(y :: tl).length))) (.slice (some ⟨2*h.n,0,none⟩) 1 3) =
     ((h.new (.cells [x] 1 none)).wr (2*k) (0+n*1) [x]).map fun h=>(.slice (some ⟨2*k,0,none⟩) (n+1) (2*(n+(y :: tl).length)),h):=by
    simp only[Id.append,hu,z1,z2,z3,lenOf,hbad',hfirst,hok,hble,hroom,cond_true,cond_false,Bool.not_true]
    rfl
   have hw : ∃h',(h.new (.cells [x] 1 none)).wr (2*k) (0+n*1) [x]=some h'∧h'.n=h.n+1∧h'.ext.get k=some (.cells (cs ++ [x] ++ tl) 1 none)∧Ext h0' h':=by
    have e1:=e0.new (.cells [x] 1 none)
    cases fam with
    | none =>
     refine⟨(h.new (.cells [x] 1 none)).put k (.cells (cs ++ [x] ++ tl) 1 none),?_,rfl,get_put_same _ _ rfl,e1.put (by omega) _⟩
     simp only[IH.wr,k1,k2,hk,hle,cond_true,cond_false,hsp];rfl
    | some f =>
     obtain⟨a1,a2,rest,a3,a4⟩:=h4
     have a3':(h.new (.cells [x] 1 none)).fams.get f=some (k :: rest):=a3
     refine⟨{ h.new (.cells [x] 1 none) with ext:=(IH.killAll (h.new (.cells [x] 1 none)).ext (((k :: rest).filter (· != k)))).set k (.cells (cs ++ [x] ++ tl) 1 none) },?_,rfl,?_,⟨e1.n,e1.base,fun j hj=>?_,e1.fams⟩⟩
     ·simp only[IH.wr,k1,k2,hk,hle,cond_true,cond_false,hsp,a3']
     ·simp[Tr.get_set]
     ·have hjk:j≠k:=by omega
      rw[Tr.get_set,if_neg hjk,get_killAll,if_neg]
      ·exact e1.get j hj
      ·intro hm
       simp only[List.mem_filter,List.mem_cons,bne_iff_ne,ne_eq] at hm
       rcases hm with⟨rfl|hm,hne⟩
       ·exact hne rfl
       ·have:=a4 j hm;omega
   obtain⟨h',w1,w2,w3,w4⟩:=hw
   refine⟨_,h',by rw[ap,w1];rfl,⟨by simp[hl],.inr ⟨k,none,tl,?_,by omega,h1,by omega,w3,trivial⟩⟩,w4,by omega⟩
   rw[List.length_cons,show n+(tl.length+1)=n+1+tl.length from by omega]
end Go.Id

namespace Go.Id
open Go
theorem Acc.put_below {h:IH} {n0 sz:Nat} {v:Value} {n:Nat} {cs:List Value} (a:Acc h n0 sz v n cs) {k:Nat} (hk:k<n0) (o:IObj):Acc (h.put k o) n0 sz v n cs:=by
 obtain⟨hz,hl,a|⟨j,fam,rfl,hn,h1,h2,h3,h4⟩⟩:=a
 ·exact⟨hz,hl,.inl a⟩
 ·refine⟨hz,hl,.inr ⟨j,fam,rfl,hn,h1,h2,?_,?_⟩⟩
  ·rw[get_put_old _ _ (by omega)];exact h3
  ·cases fam with
   | none=>trivial
   | some f=>exact h4
theorem SlOf.put_ne {h:IH} {kb n c:Nat} {cs:List Value} (s:SlOf h 1 (.slice (some ⟨2*kb,0,none⟩) n c) n cs) {k:Nat} (hk:k≠kb) (o:IObj):SlOf (h.put k o) 1 (.slice (some ⟨2*kb,0,none⟩) n c) n cs:=by
 obtain⟨hz,hl,⟨h1,_⟩|⟨b,o2,k2,h1,h2⟩⟩:=s
 ·cases h1
 ·cases h1
  refine⟨hz,hl,.inr ⟨_,_,_,rfl,?_⟩⟩
  rcases h2 with h2|⟨a1,a2,row,a3,a4,a5,a6⟩
  ·exact .inl h2
  ·have ek:2*kb / 2=kb:=by omega
   refine .inr ⟨a1,a2,row,?_,?_,a5,a6⟩
   ·rcases a3 with a3|⟨b1,b2,f,b3⟩
    ·exact .inl a3
    ·refine .inr ⟨b1,b2,f,?_⟩
     rw[ek] at b3 ⊢
     rw[get_put_old _ _ (by omega)];exact b3
   ·rw[row_put_old _ _ _ (by omega)];exact a4
def IH.upTo (h:IH) (n:Nat):IH:={ h with n:=n }
theorem ext_upTo {h:IH} {n:Nat} (hn:n≤h.n):Ext (h.upTo n) h:=⟨hn,rfl,fun _ _=>rfl,fun _ _=>rfl⟩
theorem Ext.upTo {a b:IH} (e:Ext a b) {n:Nat} (hn:a.n≤n):Ext a (b.upTo n):=⟨hn,e.base,fun k hk=>e.get k hk,fun k hk=>e.fams k hk⟩
end Go.Id

namespace Go.Id
open Go
def SomeAward (h:IH) (r:Value):Prop:=∃(sv tv:Value) (o:Int) (ov:Value) (e:Int) (A:List Int),r=.tuple #[.agg #[sv,tv,KI o,ov],KI e]∧SlOf h 1 sv A.length (A.map KI)∧A.length≤60∧(∀x∈A,0≤x∧x≤1000)∧cellOK tv=true∧tv.cells = #[tv]∧cellOK ov=true∧ov.cells = #[ov]
abbrev givenC (sv tv:Value) (o:Int) (ov:Value):List Value:=[sv,tv,KI o,ov]
theorem SomeAward.none {h:IH} (e:Int):SomeAward h (.tuple #[.agg #[.slice none 0 0,.slice none 0 0,KI 0,.slice none 0 0],KI e]) :=
 ⟨_,_,0,_,e,[],rfl,SlOf.nil _ (by omega),by simp,(fun x hx=>by cases hx),rfl,rfl,rfl,rfl⟩
structure GvS (H0 hh:IH) (fr:Fr) (vp:Value) (people:List Int) (m seats:Int) (k8 b13 kS:Nat) (A:List Int) (left:Int) (ov:Value) (on:Nat) (oc:List Value):Prop where
 e:Ext H0 hh
 lt:k8<b13∧b13<kS∧kS<hh.n
 g8:hh.ext.get k8=some (.cells (givenC (.slice none 0 0) (.slice none 0 0) 0 (.slice none 0 0)) 0 none)
 g13:hh.ext.get b13=some (.cells (givenC (blkV kS people.length) (.slice none 0 0) 0 ov) 0 none)
 gS:hh.ext.get kS=some (.cells (A.map KI) 1 none)
 acc:Acc hh (kS+1) 1 ov on oc
 la:A.length=people.length
 pos : ∀x∈A,0≤x
 sum:A.sum+left=seats
 f0:fget fr 0=some vp
 f2:fget fr 2=some (KI m)
 f8:fget fr 8=some (ptr (2*k8) 0)
 f13:fget fr 13=some (ptr (2*b13) 0)
 f14:fget fr 14=some (KI left)
theorem sum_set : ∀(l:List Int) (i:Nat) (d:Int),i<l.length→(l.set i (l.getD i 0+d)).sum=l.sum+d
 | [],i,d,h=>by simp at h
 | a :: l,0,d,_=>by simp[];omega
 | a :: l,i+1,d,h=>by
  have ih:=sum_set l i d (by simpa using h)
  rw[List.getD_cons_succ,List.set_cons_succ,List.sum_cons,ih,List.sum_cons];omega
theorem ld_cell {h:IH} {k o:Nat} {cs:List Value} {e:Nat} {f:Option Nat} {v:Value} (g:h.ext.get k=some (.cells cs e f)) (hv:cs[o]?=some v):load Proofs.Tryz.prog h 29 (ptr (2*k) o)=some v:=by
 rw[load_scal ag29,ld_of (row_of g),hv]
theorem le_sum : ∀(l:List Int),(∀x∈l,0≤x) → ∀x∈l,x≤l.sum
 | [],_,x,hx=>by cases hx
 | a :: l,h,x,hx=>by
  have h1:=sum_nonneg l fun y hy=>h y (List.mem_cons_of_mem _ hy)
  have h2:=h a List.mem_cons_self
  rw[List.sum_cons]
  rcases List.mem_cons.1 hx with rfl|hx
  ·omega
  ·have:=le_sum l (fun y hy=>h y (List.mem_cons_of_mem _ hy)) x hx
   omega
end Go.Id

namespace Go.Id
open Go
def AllInts (h:IH) (vs:List Value):Prop:=∀v∈vs,∃L:List Int,SlOf h 1 v L.length (L.map KI)∧L.length≤1000
theorem AllInts.keep {h h':IH} {vs:List Value} (a:AllInts h vs) (e:Keep h h'):AllInts h' vs:=fun v hv=>let ⟨L,h1,h2⟩:=a v hv;⟨L,h1.keep e,h2⟩
theorem AllInts.cok {h:IH} {vs:List Value} (a:AllInts h vs):vs.all cellOK=true:=List.all_eq_true.2 fun v hv=>let ⟨_,h1,_⟩:=a v hv;h1.cok
def ListsAt (h:IH) (n0:Nat) (lv:Value) (vs:List Value):Prop:=AllInts h vs∧((∃k,lv=.slice (some ⟨2*k,0,none⟩) vs.length (2*vs.length+1)∧0<vs.length∧n0≤k∧k<h.n∧h.ext.get k=some (.cells vs 1 none))∨Acc h n0 1 lv vs.length vs)
theorem ListsAt.sl {h:IH} {n0:Nat} {lv:Value} {vs:List Value} (a:ListsAt h n0 lv vs):SlOf h 1 lv vs.length vs:=by
 rcases a.2 with⟨k,rfl,h1,h2,h3,h4⟩|a
 ·exact sl_block h4 h3 (by omega) (by omega) (by omega) (by omega)
 ·exact a.sl
theorem ListsAt.ext {h h':IH} {n0:Nat} {lv:Value} {vs:List Value} (a:ListsAt h n0 lv vs) (e:Ext h h'):ListsAt h' n0 lv vs:=by
 refine⟨a.1.keep e.keep,?_⟩
 rcases a.2 with⟨k,rfl,h1,h2,h3,h4⟩|a
 ·exact .inl ⟨k,rfl,h1,h2,by have:=e.n;omega,e.kept h3 h4⟩
 ·exact .inr (a.ext e)
end Go.Id

namespace Go.Id
open Go
open Go.Proofs.Tryz (prog)
open Nat (reduceAdd reduceEqDiff reduceLeDiff)
set_option maxHeartbeats 16000000
def claimC (m at_ p s:Nat):List Value:=KN at_ :: KN p :: KN s :: rankC m p s
theorem rankC_rk (m p s:Nat):rankC m p s=.bool (postZ m s) :: shC (shq (rankX m p s)).1 (shq (rankX m p s)).2:=by
 unfold rankC rankX
 cases postZ m s<;>rfl
theorem rankC_len (m p s:Nat):(rankC m p s).length=17:=by rw[rankC_rk,rk_len]
theorem claimC_next (m at_ p s:Nat):List.take 17 (List.drop 3 (claimC m at_ p s))=rankC m p s:=by
 show List.take 17 (rankC m p s)=_
 rw[List.take_of_length_le (by rw[rankC_len];omega)]
theorem claimC_len (m at_ p s:Nat):(claimC m at_ p s).length=20:=by
 show(rankC m p s).length+1+1+1=20
 rw[rankC_len]
theorem claimCmp_ok {h:IH} {k1 k2 m a1 p1 s1 a2 p2 s2:Nat} (g1:h.ext.get k1=some (.cells (claimC m a1 p1 s1) 0 none)) (g2:h.ext.get k2=some (.cells (claimC m a2 p2 s2) 0 none))
  (b1:p1≤1000000000∧s1≤1000) (b2:p2≤1000000000∧s2≤1000) :
  WV prog (.func (.func 138) #[] #[]) [ptr (2*k1) 0,ptr (2*k2) 0] h fun r h'=>Ext h h'∧r=KI (cmpRank m p1 s1 p2 s2):=by
 have r1:=row_of g1
 have r2:=row_of g2
 refine enter (nt:=14) (rs:=[.tmp 4]) Proofs.Tryz.func138 rfl rfl rfl (by simp) ?_
 simp -dsimp (maxSteps:=1000000) (disch:=try exact dx) only[wpS,reduceEqDiff,reduceLeDiff,reduceAdd,fa156_2,ld115,r1,r2,claimC_next,claimC_len]
 rw[rankC_rk,rankC_rk]
 refine call (rkCmp_ok (rankX_qw b1.1 b1.2) (rankX_qw b2.1 b2.2)) ?_
 rintro _ h1 ⟨X1,rfl⟩
 simp -dsimp (maxSteps:=1000000) (disch:=try exact dx) only[wpS,reduceEqDiff]
 exact⟨X1,rfl⟩
structure Claim where
 k:Nat
 at_:Nat
 p:Nat
 s:Nat
def Claim.ptr (c:Claim):Value:=Id.ptr (2*c.k) 0
def Claim.key (m:Nat) (c:Claim):Bool×Rat:=keyC m c.p c.s
def noClaim:Claim:=⟨0,0,0,0⟩
def keysL (m:Nat) (l:List Claim) (i:Nat):Bool×Rat:=(l.getD i noClaim).key m
def Claims (h:IH) (m:Nat) (l:List Claim):Prop:=∀c∈l,h.ext.get c.k=some (.cells (claimC m c.at_ c.p c.s) 0 none)∧c.k<h.n∧c.p≤1000000000∧c.s≤1000
theorem Claims.ext {h h':IH} {m:Nat} {l:List Claim} (C:Claims h m l) (e:Ext h h'):Claims h' m l:=fun c hc=>by
 obtain⟨a,b,c1⟩:=C c hc
 exact⟨e.kept b a,by have:=e.n;omega,c1⟩
theorem cmpRank_pos (m p s q t:Nat):0<cmpRank m p s q t↔ltK (keyC m q t) (keyC m p s):=by
 have h:=cmpR_lt (postZ m t) (rankX m q t) (postZ m s) (rankX m p s)
 unfold keyC
 rw[←h]
 unfold cmpRank cmpR cmpQ
 cases postZ m s<;>cases postZ m t<;>simp<;>(repeat' split)<;>grind
theorem cmpRank_neg (m p s q t:Nat):cmpRank m p s q t<0↔ltK (keyC m p s) (keyC m q t):=cmpR_lt _ _ _ _
theorem asc_len : ∀(l:List Nat) (lo n:Nat),l.Pairwise (· < ·)→(∀y∈l,lo≤y∧y<n)→l.length≤n - lo
 | [],_,_,_,_=>by simp
 | a :: l,lo,n,h,hb=>by
  have h1:=List.pairwise_cons.1 h
  have ha:=hb a List.mem_cons_self
  have:=asc_len l (a+1) n h1.2 fun y hy=>⟨h1.1 y hy,(hb y (List.mem_cons_of_mem _ hy)).2⟩
  rw[List.length_cons]
  omega
theorem best_walk {h:IH} {v:Value} {m:Nat} {l:List Claim} (hv:SlOf h 1 v l.length (l.map Claim.ptr)) (hC:Claims h m l) (hl:l.length≤60) :
  WV prog (.func (.func 137) #[] #[]) [v,.func (.func 138) #[] #[]] h
   fun r h'=>Ext h h'∧RAcc h' h.n r (bestN (keysL m l) l.length).length ((bestN (keysL m l) l.length).map fun i=>(l.getD i noClaim).ptr):=by
 have L0:=hv.now
 refine enter (nt:=36) (rs:=[.tmp 4]) Proofs.Tryz.func137 rfl rfl rfl (by simp) ?_
 simp -dsimp (maxSteps:=1000000) (disch:=try exact dx) only[wpS,reduceEqDiff,reduceAdd,L0.len sl149]
 refine loop (fun mm fr g => ∃(i:Nat) (bv:Value),i+mm=l.length∧Ext h g∧RAcc g h.n bv (bestN (keysL m l) i).length ((bestN (keysL m l) i).map fun j=>(l.getD j noClaim).ptr)∧fget fr 1=some (.func (.func 138) #[] #[])∧fget fr 5=some bv∧fget fr 9=some v∧fget fr 10=some (KN l.length)∧fget fr 11=some (KN i)) l.length
  ⟨0,.slice none 0 0,by omega,Ext.refl _,RAcc.nil _ _,by simp,by simp,by simp,by simp,by simp⟩ ?_
 rintro mm fr g ⟨i,bv,him,E,A,f1,f5,f9,f10,f11⟩
 have En:=E.n
 have P0:=(hv.keep E.keep).now
 by_cases ci:i<l.length
 ·obtain⟨x,hx⟩ : ∃x,l[i]?=some x:=⟨_,List.getElem?_eq_getElem ci⟩
  have hxd:l.getD i noClaim=x:=by rw[List.getD_eq_getElem?_getD,hx];rfl
  obtain⟨xg,xn,xp,xs⟩:=hC x (List.mem_of_getElem? hx)
  have lP:=P0.ld (P:=prog) (t:=152) (c:=i) (by simp<;>omega) ag152
  rw[List.getElem?_map,hx] at lP
  have lP:load prog g 152 (elemAddr v i)=some (Id.ptr (2*x.k) 0):=lP
  have BO:=best_ok (keysL m l) i
  have B1:bestN (keysL m l) (i+1)=bestStep (keysL m l) (bestN (keysL m l) i) i:=rfl
  obtain⟨B,hB⟩ : ∃B,B=bestN (keysL m l) i:=⟨_,rfl⟩
  rw[←hB] at A BO B1
  have BN:=A.sl.now
  have Bi:B.length≤i:=asc_len B 0 i BO.asc fun y hy=>⟨by omega,BO.lt y hy⟩
  have e2:IntKind.i64.wrap ((i:Int)+1)=((i+1:Nat):Int):=by rw[wrap_i64 (by omega)];omega
  simp -dsimp (maxSteps:=1000000) (disch:=try exact dx) only[wpS,wpT,reduceEqDiff,f5,f9,f10,f11,P0.idx es149 ci,lP,BN.len sl149]
  refine bq_cut (fun fr2 g2 => ∃c:Int,(bestN (keysL m l) (i+1)=if 0<c then [i] else if c<0 then B else B ++ [i])∧Ext g g2∧fget fr2 1=some (.func (.func 138) #[] #[])∧fget fr2 5=some bv∧fget fr2 7=some (Id.ptr (2*x.k) 0)∧fget fr2 8=some (KI c)∧fget fr2 9=some v∧fget fr2 10=some (KN l.length)∧fget fr2 11=some (KN i)) (fun hc=>?_) (fun hc=>?_) ?_
  ·have B0:0<B.length:=by simpa [List.length_pos_iff] using hc
   obtain⟨b0,hb0⟩ : ∃b,B[0]?=some b:=⟨_,List.getElem?_eq_getElem B0⟩
   have bl0:=BO.lt b0 (List.mem_of_getElem? hb0)
   obtain⟨y,hy⟩ : ∃y,l[b0]?=some y:=⟨_,List.getElem?_eq_getElem (by omega)⟩
   have hyd:l.getD b0 noClaim=y:=by rw[List.getD_eq_getElem?_getD,hy];rfl
   obtain⟨yg,yn,yp,ys⟩:=hC y (List.mem_of_getElem? hy)
   have lB:=BN.ld (P:=prog) (t:=152) (c:=0) (by simp<;>omega) ag152
   rw[List.getElem?_map,hb0] at lB
   have lB:load prog g 152 (elemAddr bv 0)=some (l.getD b0 noClaim).ptr:=lB
   rw[hyd] at lB
   have lB:load prog g 152 (elemAddr bv 0)=some (Id.ptr (2*y.k) 0):=lB
   have ix:indexAddr prog 149 bv (.int .i64 0)=some (elemAddr bv 0):=by
    have:=BN.idx (P:=prog) (t:=149) es149 (k:=.i64) (j:=0) B0
    simpa using this
   simp -dsimp (maxSteps:=1000000) (disch:=try exact dx) only[wpS,wpT,reduceEqDiff,f1,f5,ix,lB]
   refine call (claimCmp_ok (E.kept xn xg) (E.kept yn yg) ⟨xp,xs⟩ ⟨yp,ys⟩) ?_
   rintro _ g2 ⟨X2,rfl⟩
   simp -dsimp (maxSteps:=1000000) (disch:=try exact dx) only[wpS,reduceEqDiff]
   refine⟨cmpRank m x.p x.s y.p y.s,?_,X2,by simp[f1],by simp[f5],by simp,by simp,by simp[f9],by simp[f10],by simp[f11]⟩
   have kx:keysL m l i=keyC m x.p x.s:=by unfold keysL Claim.key;rw[hxd]
   have ky:keysL m l b0=keyC m y.p y.s:=by unfold keysL Claim.key;rw[hyd]
   cases B with
   | nil=>simp at B0
   | cons b B =>
    simp at hb0;subst hb0
    rw[B1]
    simp only[bestStep,kx,ky,cmpRank_pos,cmpRank_neg]
  ·have B0:B = []:=by simpa using hc
   simp -dsimp (maxSteps:=1000000) (disch:=try exact dx) only[wpS]
   refine⟨1,?_,Ext.refl _,by simp[f1],by simp[f5],by simp,by simp,by simp[f9],by simp[f10],by simp[f11]⟩
   rw[B1,B0]
   rfl
  ·rintro fr2 g2 ⟨c,hcB,E2,f1,f5,f7,f8,f9,f10,f11⟩
   have A2:=A.ext E2
   have E2n:=E2.n
   by_cases d1:0<c
   ·obtain⟨v0,hsl,A3⟩:=A2.cut (P:=prog) (t:=149) u149 sz152 (kd:=.i64)
    obtain⟨v',h5,hap,A5,E5,n5⟩:=A3.app1 (P:=prog) (t:=149) ap149 (x:=Id.ptr (2*x.k) 0) rfl (by omega) (by omega) (E.trans E2) (Nat.le_refl _)
    simp -dsimp (maxSteps:=1000000) (disch:=try exact dx) only[wpS,wpT,reduceEqDiff,reduceLeDiff,reduceAdd,bs149,ba149_149,f5,f7,f8,f11,hsl,hap,e2]
    refine⟨mm - 1,by omega,i+1,v',by omega,E5,?_,by simp[f1],by simp,by simp[f9],by simp[f10],by simp⟩
    rw[hcB,if_pos d1]
    show RAcc h5 h.n v' 1 [(l.getD i noClaim).ptr]
    rw[hxd]
    exact A5
   ·by_cases d2:0≤c
    ·obtain⟨v',h5,hap,A5,E5,n5⟩:=A2.app1 (P:=prog) (t:=149) ap149 (x:=Id.ptr (2*x.k) 0) rfl (by omega) (by omega) (E.trans E2) (Nat.le_refl _)
     simp -dsimp (maxSteps:=1000000) (disch:=try exact dx) only[wpS,wpT,reduceEqDiff,reduceLeDiff,reduceAdd,bs149,ba149_149,f5,f7,f8,f11,hap,e2]
     refine⟨mm - 1,by omega,i+1,v',by omega,E5,?_,by simp[f1],by simp,by simp[f9],by simp[f10],by simp⟩
     rw[hcB,if_neg d1,if_neg (by omega),List.length_append,List.map_append,List.map_cons,List.map_nil,hxd]
     exact A5
    ·simp -dsimp (maxSteps:=1000000) (disch:=try exact dx) only[wpS,wpT,reduceEqDiff,f8,f11,e2]
     refine⟨mm - 1,by omega,i+1,bv,by omega,E.trans E2,?_,by simp[f1],by simp[f5],by simp[f9],by simp[f10],by simp⟩
     rw[hcB,if_neg d1,if_pos (by omega)]
     exact A2
 ·obtain rfl:i=l.length:=by omega
  simp -dsimp (maxSteps:=1000000) (disch:=try exact dx) only[wpS,wpT,reduceEqDiff,f5,f10,f11]
  exact⟨E,A⟩
end Go.Id

namespace Go.Id
open Go
structure RaceP where
 n:Nat
 m:Nat
 kr:Nat
 kt:Nat
 kb1:Nat
 kb2:Nat
 kk:Nat→Nat
 at_:Nat→Nat
 p:Nat→Nat
 va:Value
def RaceP.cl (R:RaceP) (s:Nat→Nat) (i:Nat):Claim:=⟨R.kk i,R.at_ i,R.p i,s i⟩
def RaceP.cls (R:RaceP) (s:Nat→Nat):List Claim:=(List.range R.n).map (R.cl s)
structure RaceP.OK (R:RaceP):Prop where
 inc : ∀i j,i<j→j<R.n→R.kk i<R.kk j
 lo : ∀i,i<R.n→R.kr<R.kk i∧R.kk i<R.kt
 bx:R.kr<R.kt∧R.kt<R.kb1∧R.kb1<R.kb2
 pp : ∀i,i<R.n→1≤R.p i∧R.p i≤1000000000
 mm:11≤R.m∧R.m≤15
 nn:0<R.n∧R.n≤60
theorem RaceP.OK.ne {R:RaceP} (O:R.OK) {i j:Nat} (hi:i<R.n) (hj:j<R.n) (h:i≠j):R.kk i≠R.kk j:=by
 rcases Nat.lt_or_gt_of_ne h with h|h
 ·have:=O.inc i j h hj;omega
 ·have:=O.inc j i h hi;omega
structure Own (R:RaceP) (h h':IH):Prop where
 n:h.n≤h'.n
 base:h'.base=h.base
 get : ∀k,k<h.n→k≠R.kr→k≠R.kt→(∀i,i<R.n→k≠R.kk i)→h'.ext.get k=h.ext.get k
 fams : ∀f,f<h.n→h'.fams.get f=h.fams.get f
theorem Own.refl (R:RaceP) (h:IH):Own R h h:=⟨Nat.le_refl _,rfl,fun _ _ _ _ _=>rfl,fun _ _=>rfl⟩
theorem Own.ext {R:RaceP} {a b c:IH} (o:Own R a b) (e:Ext b c):Own R a c :=
 ⟨Nat.le_trans o.n e.n,e.base.trans o.base,fun k hk h1 h2 h3=>(e.get k (Nat.lt_of_lt_of_le hk o.n)).trans (o.get k hk h1 h2 h3),fun f hf=>(e.fams f (Nat.lt_of_lt_of_le hf o.n)).trans (o.fams f hf)⟩
theorem Own.putR {R:RaceP} {a b:IH} (o:Own R a b) (x:IObj):Own R a (b.put R.kr x) :=
 ⟨o.n,o.base,fun k hk h1 h2 h3=>by rw[get_put_old _ _ h1];exact o.get k hk h1 h2 h3,o.fams⟩
theorem Own.putT {R:RaceP} {a b:IH} (o:Own R a b) (x:IObj):Own R a (b.put R.kt x) :=
 ⟨o.n,o.base,fun k hk h1 h2 h3=>by rw[get_put_old _ _ h2];exact o.get k hk h1 h2 h3,o.fams⟩
theorem Own.putK {R:RaceP} {a b:IH} (o:Own R a b) {i:Nat} (hi:i<R.n) (x:IObj):Own R a (b.put (R.kk i) x) :=
 ⟨o.n,o.base,fun k hk h1 h2 h3=>by rw[get_put_old _ _ (h3 i hi)];exact o.get k hk h1 h2 h3,o.fams⟩
structure RaceAt (R:RaceP) (h:IH) (s:Nat→Nat) (left:Int) (tv:Value):Prop where
 gr:h.ext.get R.kr=some (.cells [KN R.m,R.va,KI left] 0 none)
 gc : ∀i,i<R.n→h.ext.get (R.kk i)=some (.cells (claimC R.m (R.at_ i) (R.p i) (s i)) 0 none)
 gt:h.ext.get R.kt=some (.cells [tv] 0 none)
 g1:h.ext.get R.kb1=some (.cells [ptr (2*R.kr) 0] 0 none)
 g2:h.ext.get R.kb2=some (.cells [ptr (2*R.kt) 0] 0 none)
 sl:SlOf h 1 R.va R.n ((List.range R.n).map fun i=>ptr (2*R.kk i) 0)
 lt:R.kb2<h.n
theorem RaceAt.ext {R:RaceP} (O:R.OK) {h h':IH} {s:Nat→Nat} {left:Int} {tv:Value} (r:RaceAt R h s left tv) (e:Ext h h'):RaceAt R h' s left tv:=by
 obtain⟨a,b,c,d,f,g,l⟩:=r
 have bx:=O.bx
 exact⟨e.kept (by omega) a,fun i hi=>e.kept (by have:=O.lo i hi;omega) (b i hi),e.kept (by omega) c,e.kept (by omega) d,e.kept (by omega) f,g.keep e.keep,by have:=e.n;omega⟩
theorem RaceAt.claims {R:RaceP} (O:R.OK) {h:IH} {s:Nat→Nat} {left:Int} {tv:Value} (r:RaceAt R h s left tv) (hs : ∀i,i<R.n→s i≤1000):Claims h R.m (R.cls s):=by
 intro c hc
 obtain⟨i,hi,rfl⟩:=List.mem_map.1 hc
 have hi:=List.mem_range.1 hi
 have bx:=O.bx
 have lo:=O.lo i hi
 exact⟨r.gc i hi,(show R.kk i<h.n by have:=r.lt;omega),(O.pp i hi).2,hs i hi⟩
theorem sp_seat (m a p s:Nat) (x:Value):IH.splice (claimC m a p s) 2 [x]=KN a :: KN p :: x :: rankC m p s:=rfl
theorem sp_next (a p s:Nat) (x:List Value) (m s0:Nat) (hx:x.length=17):IH.splice (KN a :: KN p :: KN s :: rankC m p s0) 3 x=KN a :: KN p :: KN s :: x:=by
 show KN a :: KN p :: KN s :: (x ++ List.drop (3+x.length) (KN a :: KN p :: KN s :: rankC m p s0))=_
 rw[List.drop_eq_nil_of_le (by simp[rankC_len];omega),List.append_nil]
theorem RaceAt.upd {R:RaceP} (O:R.OK) {h H:IH} {s:Nat→Nat} {left l2:Int} {tv:Value} (r:RaceAt R h s left tv) {i:Nat} (hi:i<R.n) (hn:h.n≤H.n) (hk:Keep h H) (hg : ∀k,k<h.n→k≠R.kr→k≠R.kk i→H.ext.get k=h.ext.get k)
  (g1:H.ext.get R.kr=some (.cells [KN R.m,R.va,KI l2] 0 none)) (g2:H.ext.get (R.kk i)=some (.cells (claimC R.m (R.at_ i) (R.p i) (s i+1)) 0 none)):RaceAt R H (given s [i]) l2 tv:=by
 obtain⟨a,b,c,d,f,g,l⟩:=r
 have bx:=O.bx
 have lo:=O.lo i hi
 refine⟨g1,fun j hj=>?_,(hg _ (by omega) (by omega) (by omega)).trans c,(hg _ (by omega) (by omega) (by omega)).trans d,(hg _ (by omega) (by omega) (by omega)).trans f,g.keep hk,by omega⟩
 have lj:=O.lo j hj
 by_cases hji:j=i
 ·subst hji
  rw[g2];simp[given]
 ·rw[hg _ (by omega) (by omega) (O.ne hj hi hji),b j hj];simp[given,hji]
theorem bestN_congr {ks ks':Nat→Bool×Rat} : ∀n,(∀i,i<n→ks i=ks' i)→bestN ks n=bestN ks' n
 | 0,_=>rfl
 | n+1,h=>by
  have ih:=bestN_congr n fun i hi=>h i (by omega)
  have bo:=best_ok ks n
  rw[bestN,bestN,←ih]
  cases hB:bestN ks n with
  | nil=>rfl
  | cons b l =>
   rw[hB] at bo
   have hb:=bo.lt b List.mem_cons_self
   show(if ltK (ks b) (ks n) then [n] else if ltK (ks n) (ks b) then b :: l else b :: l ++ [n])=(if ltK (ks' b) (ks' n) then [n] else if ltK (ks' n) (ks' b) then b :: l else b :: l ++ [n])
   rw[h b (by omega),h n (by omega)]
def RaceP.best (R:RaceP) (s:Nat→Nat):List Nat:=bestN (fun i=>keyC R.m (R.p i) (s i)) R.n
theorem RaceP.best_eq (R:RaceP) (s:Nat→Nat):bestN (keysL R.m (R.cls s)) R.n=R.best s:=by
 refine bestN_congr R.n fun i hi=>?_
 unfold keysL RaceP.cls
 rw[List.getD_eq_getElem?_getD,List.getElem?_map,List.getElem?_range hi]
 rfl
theorem given_snoc (s:Nat→Nat) (B:List Nat) (x:Nat) (h:x∉B):given (given s B) [x]=given s (B ++ [x]):=by
 funext i
 unfold given
 by_cases hx:i=x
 ·subst hx;simp[h]
 ·simp[hx]
def RaceEnd (R:RaceP) (h:IH) (low:Nat→Nat) (s:Nat→Nat) (left:Nat):Prop :=
 Fair R.m R.n R.p low s∧((left=0∧RaceAt R h s 0 (.slice none 0 0))∨(0<left∧left<(R.best s).length ∧ ∃tv,RaceAt R h s left tv∧SlOf h 1 tv (R.best s).length ((R.best s).map fun i=>ptr (2*R.kk i) 0)))
end Go.Id

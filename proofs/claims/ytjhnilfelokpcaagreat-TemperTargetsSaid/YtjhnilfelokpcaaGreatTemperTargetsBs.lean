/-
  Tables of functions whose values are known; what a closed function gives. Tables of functions on numbers.
-/
import Derived.Test.YtjhnilfelokpcaaGreatTemperTargetsBk
import Derived.Test.YtjhnilfelokpcaaGreatTemperTargetsBr
import Derived.Test.YtjhnilfelokpcaaGreatTemperTargetsAq
import Derived.Test.YtjhnilfelokpcaaGreatTemperTargetsBh
import Derived.Test.YtjhnilfelokpcaaGreatTemperTargetsAr
import Derived.Test.YtjhnilfelokpcaaGreatTemperTargetsAt
import Derived.Test.YtjhnilfelokpcaaGreatTemperTargetsBo
import Derived.Test.YtjhnilfelokpcaaGreatTemperTargetsBg
set_option linter.unusedVariables false
set_option linter.unusedSimpArgs false
set_option linter.defProp false
set_option linter.deprecated false
namespace Go.Id
open Go
noncomputable section
def tbOf (l:List (FuncId×(List Value→Option Value))) (f:FuncId):Option (List Value→Option Value):=List.rec (motive:=fun _=>Option (List Value→Option Value)) none (fun p _ ih=>iB (Nat.beq f p.1) (some p.2) ih) l
def EntryOK (P:Program) (f:FuncId) (g:List Value→Option Value):Prop :=
 (∃fn,P.funcs[f]?=some fn∧fn.body.isSome=true) ∧ ∀args v,args.all plain=true→g args=some v→plainT v=true∧Gives P f args v
theorem tbOf_mem : ∀{l:List (FuncId×(List Value→Option Value))} {f:FuncId} {g:List Value→Option Value},tbOf l f=some g→(f,g)∈l
 | [],_,_,h=>by cases h
 | p :: l,f,g,h=>by
  change iB (Nat.beq f p.1) (some p.2) (tbOf l f)=some g at h
  rw[iB_eq] at h
  cases hb:Nat.beq f p.1 with
  | true =>
   rw[hb] at h;cases h
   have:=Nat.beq_eq.mp hb
   subst this
   exact List.mem_cons_self
  | false =>
   rw[hb] at h
   exact List.mem_cons_of_mem _ (tbOf_mem h)
theorem sound_tb {P:Program} (S:Sound (E0 P)) {l:List (FuncId×(List Value→Option Value))} (h : ∀p∈l,EntryOK P p.1 p.2):Sound (E1 P (tbOf l)) :=
 sound1 S (fun f g hg=>(h _ (tbOf_mem hg)).1) (fun f g hg=>(h _ (tbOf_mem hg)).2)
theorem entry_wv {P:Program} (S:Sound (E0 P)) {f:FuncId} {fn:Func} (hf:P.funcs[f]?=some fn) (hb:fn.body.isSome=true) {g:List Value→Option Value}
  (h : ∀args v,args.all plain=true→g args=some v→plainT v=true∧WV P (.func (.func f) #[] #[]) args (IH.start fun _=>none) fun r _=>r=v):EntryOK P f g :=
 ⟨⟨fn,hf,hb⟩,fun args v hp e=>⟨(h args v hp e).1,gives_wv S ⟨fn,hf,hb⟩ hp (h args v hp e).2⟩⟩
def okT (args:List Value):Option Value:=match args with
 | []=>some (.bool true)
 | _=>none
theorem entry_true {E:Env} (S:Sound E) {n:Nat} {f:FuncId} {fn:Func} (hf:E.P.funcs[f]?=some fn) (hb:fn.body.isSome=true) (h:boolF E (n+1) f (fun _=>none)=true):EntryOK E.P f okT:=by
 refine⟨⟨fn,hf,hb⟩,fun args v hp e=>?_⟩
 unfold okT at e
 split at e
 ·cases e
  obtain⟨h',hr⟩:=boolF_true h
  exact⟨rfl,gives_run S hr ⟨fn,hf,hb⟩ hp⟩
 ·cases e
end
end Go.Id

namespace Go.Id
open Go
noncomputable section
abbrev NumE:=FuncId×(List NK×(List NV→Option NR))
def tnOf (l:List NumE) (f:FuncId):Option (List Value→IH→Option (Value×IH)):=List.rec (motive:=fun _=>Option (List Value→IH→Option (Value×IH))) none (fun p _ ih=>iB (Nat.beq f p.1) (some (nint p.2.1 p.2.2)) ih) l
theorem tnOf_mem : ∀{l:List NumE} {f:FuncId} {g:List Value→IH→Option (Value×IH)},tnOf l f=some g → ∃p∈l,p.1=f∧g=nint p.2.1 p.2.2
 | [],_,_,h=>by cases h
 | p :: l,f,g,h=>by
  change iB (Nat.beq f p.1) (some (nint p.2.1 p.2.2)) (tnOf l f)=some g at h
  rw[iB_eq] at h
  cases hb:Nat.beq f p.1 with
  | true =>
   rw[hb] at h;cases h
   exact⟨p,List.mem_cons_self,(Nat.beq_eq.mp hb).symm,rfl⟩
  | false =>
   rw[hb] at h
   obtain⟨q,h1,h2⟩:=tnOf_mem h
   exact⟨q,List.mem_cons_of_mem _ h1,h2⟩
theorem sound_tn {P:Program} (S:Sound (E0 P)) {tb:List (FuncId×(List Value→Option Value))} (h : ∀p∈tb,EntryOK P p.1 p.2) {tn:List NumE} (k : ∀p∈tn,NumFn P p.1 p.2.2):Sound (E2 P (tbOf tb) (tnOf tn)) :=
 sound2 S (sound_tb S h) fun f g hg=>by
  obtain⟨p,h1,h2,h3⟩:=tnOf_mem hg
  exact⟨p.2.1,p.2.2,h3,h2▸k p h1⟩
end
end Go.Id

namespace Go.Proofs.YtjhnilfelokpcaaGreat
open Go.ChangeShapes Go.WideShapes Go.ChangeAt Go.RowKit Go.Id
noncomputable def tn2:List NumE:=[(114,[.val],readS),(116,[.val],rfromS),(153,[.long],wholeS),(105,[.rat],rtoldS),(216,[.rat],rturnS),(117,[.rat,.rat],rplusS),(160,[.rat,.rat],rminusS),(118,[.rat,.rat],rtimesS),(152,[.rat,.rat],roverS),(107,[.rat,.rat],rcmpS),(66,[.val],wlongerS),(64,[.val],wfromS),(68,[.long],wtoldS),(246,[.long],wturnS),(115,[.long],wsideS),(201,[.long,.long],wplusS),(243,[.long,.long],wminusS),(67,[.long,.long],wtimesS),(196,[.long,.long],wcmpS),(199,[.long,.long],wcommonS),(218,[.long,.long],wpartsS)]
theorem num_2 : ∀p∈tn2,NumFn Tryz.prog p.1 p.2.2:=by
 intro p hp
 simp only[tn2,List.mem_cons,List.not_mem_nil,or_false] at hp
 rcases hp with rfl|rfl|rfl|rfl|rfl|rfl|rfl|rfl|rfl|rfl|rfl|rfl|rfl|rfl|rfl|rfl|rfl|rfl|rfl|rfl|rfl
 ·exact num_read
 ·exact num_rfrom
 ·exact num_whole
 ·exact num_rtold
 ·exact num_rturn
 ·exact num_rplus
 ·exact num_rminus
 ·exact num_rtimes
 ·exact num_rover
 ·exact num_rcmp
 ·exact num_wlonger
 ·exact num_wfrom
 ·exact num_wtold
 ·exact num_wturn
 ·exact num_wside
 ·exact num_wplus
 ·exact num_wminus
 ·exact num_wtimes
 ·exact num_wcmp
 ·exact num_wcommon
 ·exact num_wparts
noncomputable def tb2:List (FuncId×(List Value→Option Value)):=[(197,make2),(108,of2),(43,of2),(113,check1),(36,cmp2)]
theorem val_2 : ∀p∈tb2,EntryOK Tryz.prog p.1 p.2:=by
 intro p hp
 simp only[tb2,List.mem_cons,List.not_mem_nil,or_false] at hp
 rcases hp with rfl|rfl|rfl|rfl|rfl
 ·exact entry_wv Tryz.sound Tryz.func197 rfl val_make
 ·exact entry_wv Tryz.sound Tryz.func108 rfl val_of
 ·exact entry_wv Tryz.sound Tryz.func43 rfl val_of02
 ·exact entry_wv Tryz.sound Tryz.func113 rfl val_check
 ·exact entry_wv Tryz.sound Tryz.func36 rfl val_cmp
theorem sound_2:Sound (E2 Tryz.prog (tbOf tb2) (tnOf tn2)):=sound_tn Tryz.sound val_2 num_2
end Go.Proofs.YtjhnilfelokpcaaGreat

namespace Go.Proofs.YtjhnilfelokpcaaGreat
open Go.ChangeShapes Go.WideShapes Go.ChangeAt Go.RowKit Go.Id
theorem works34_true:boolF (E2 Tryz.prog (tbOf tb2) (tnOf tn2)) (4999+1) 10 (fun _=>none)=true:=by decide +kernel
noncomputable def tbT:FuncId→Option (List Value→Option Value):=tbOf [(10,okT)]
theorem sound_T:Sound (E1 Tryz.prog tbT):=sound_tb Tryz.sound fun p hp=>by
 obtain rfl:=List.mem_singleton.1 hp
 exact entry_true (E:=E2 Tryz.prog (tbOf tb2) (tnOf tn2)) sound_2 Tryz.func10 rfl works34_true
end Go.Proofs.YtjhnilfelokpcaaGreat

namespace Go.Id
open Go
def Follows (P:Program) (f:FuncId) (nt:Nat) (run:Fr→IH→Out) (c:Code):Prop :=
 (∀fr h e fr' h',run fr h=some (e,fr',h')→h.n≤h'.n) ∧ ∀(b:Frame) (z B:Nat) (w0:World) (cs:List Frame),b.fn=f→SimCode (E0 P) run b none B w0 z nt cs c
theorem follows_code {E:Env} (S:Sound E) (n:Nat) (f:FuncId) (nt:Nat) (c:Code):Follows E.P f nt (evC E (callV E n) f nt none n c) c:=by
 refine⟨fun fr h e fr' h' hr=>evC_n (callV_mono S n) _ _ _ _ _ _ hr,fun b z B w0 cs hb=>?_⟩
 subst hb
 exact sim_code (E:=E) (callV_sim S n) (callV_mono S n) S.mixed n c
def seqR (ra rb:Fr→IH→Out):Fr→IH→Out:=fun fr h=>match ra fr h with
 | some (.normal,fr,h)=>rb fr h
 | o=>o
theorem follows_seq {P:Program} {f:FuncId} {nt:Nat} {ra rb:Fr→IH→Out} {x y:Code} (hx:Follows P f nt ra x) (hy:Follows P f nt rb y):Follows P f nt (seqR ra rb) (.seq x y):=by
 refine⟨fun fr h e fr' h' hr=>?_,fun b z B w0 cs hb=>?_⟩
 ·unfold seqR at hr
  split at hr
  ·rename_i hx1
   exact Nat.le_trans (hx.1 _ _ _ _ _ hx1) (hy.1 _ _ _ _ _ hr)
  ·exact hx.1 _ _ _ _ _ hr
 ·intro fr h e fr' h' hr m w tmps k ds R hf ht hfr hfo hd hz
  unfold seqR at hr
  split at hr
  ·rename_i fr1 h1 hx1
   have n1:=hx.1 _ _ _ _ _ hx1
   have n2:=hy.1 _ _ _ _ _ hr
   obtain⟨m1,w1,tmps1,ds1,k1,a1,a2,a3,a4,a5,a6,a7⟩:=hx.2 b z B w0 cs hb fr h .normal fr1 h1 hx1 m w tmps (.code y :: k) ds R hf ht (hfr.sub (Nat.le_refl _) n2) hfo hd hz
   obtain rfl:k1=_:=a2
   refine .first (.head st_seq a1) (.step a6 ?_)
   exact hy.2 b z B w0 cs hb fr1 h1 e fr' h' hr m1 w1 tmps1 k ds1 a5 a3 a4 (a6.fresh hfr) (hfo.mono a6.le) a7 (Nat.le_trans hz a6.size)
  ·rename_i hne
   cases e with
   | normal=>exact absurd hr (hne _ _)
   | exit i=>exact .first (.one st_seq) ((hx.2 b z B w0 cs hb fr h _ _ _ hr m w tmps (.code y :: k) ds R hf ht hfr hfo hd hz).out (by simp) (fun i _=>rfl))
   | ret=>exact .first (.one st_seq) ((hx.2 b z B w0 cs hb fr h _ _ _ hr m w tmps (.code y :: k) ds R hf ht hfr hfo hd hz).out (by simp) (fun i hi=>by cases hi))
theorem follows_calls {P:Program} {f:FuncId} {fn:Func} {c:Code} {run:Fr→IH→Out} (hfn:P.funcs[f]?=some fn) (hc:fn.body=some c) (F:Follows P f fn.ntmps run c) {args:List Value} {h h1:IH} {e:IExit} {fr1:Fr} {vs:List Value}
  (hlen':args.length≤fn.ntmps) (hx:run (enterFr 0 args) h=some (e,fr1,h1)) (hne : ∀i,e≠.exit i) (hvs:resultsOf P fr1 h1 fn.results.toList=some vs)
  {B:Nat} {w0:World} {m:Mp} {w:World} {args':Array Value} (R:Rel B w0 m h w) (hargs:LRel m args args'.toList) (hfr:Fresh m h.n h1.n):CallsTo P f args' B w0 m h w (single vs) h1:=by
 have hsz:args'.size=args.length:=by rw[hargs.1];simp
 intro cs
 let b:Frame:={ fn:=f,tmps:=#[],todo:=[],defers:=[],mode:=.run,kind:=.normal,roundOf:=none }
 let tmps:Array Value:=args' ++ Array.replicate (fn.ntmps - args'.size) undef
 have hen:Frame.enter P f args' .normal=on b tmps [.code c] []:=by
  simp[Frame.enter,hfn,hc,on,b,tmps]
 have htmps:FrRel m (enterFr 0 args) tmps:=by
  intro t u hu
  rw[fget_enterFr] at hu
  simp only[Nat.zero_le,if_true,Nat.sub_zero] at hu
  obtain⟨u',h2,h3⟩:=hargs.get hu
  have h4:args'[t]?=some u':=by simpa using h2
  refine⟨u',?_,h3⟩
  have:=(Array.getElem?_eq_some_iff.1 h4).1
  rw[Array.getElem?_append_left this,h4]
 have htsz:fn.ntmps≤tmps.size:=by simp[tmps];omega
 obtain⟨m1,w1,tmps1,ds1,k1,a1,a2,a3,a4,a5,a6,a7⟩:=F.2 b w.heap.size B w0 cs rfl _ _ _ _ _ hx m w tmps [] [] R htmps htsz hfr (.inl ⟨rfl,rfl⟩) (DefOK.nil _ _ _ _) (Nat.le_refl _)
 obtain⟨rs,d1,d2,d3⟩:=a7
 have hleave : ∃todo,step P (lone (on b tmps1 k1 ds1) cs w1)=.next (lone { on b tmps1 todo ds1 with mode:=.returning } cs w1):=by
  cases e with
  | normal=>obtain rfl:k1=_:=a2;exact⟨_,stepR_end (b:=b) (a:=⟨tmps1,ds1⟩) rfl⟩
  | exit i=>exact absurd rfl (hne i)
  | ret=>obtain⟨k2,rfl⟩:=a2;exact⟨_,stepR_ret (b:=b) (a:=⟨tmps1,ds1⟩) rfl⟩
 obtain⟨todo,hleave⟩:=hleave
 obtain⟨w2,b1,b2,b3,b4⟩:=unwind_marks (P:=P) R.size rs { on b tmps1 todo ds1 with mode:=.returning } cs w1 rfl d1 d2 d3 a5
 obtain⟨v',r1,r2⟩:=results_run b2 a3 hvs
 refine⟨.returned v',w2,{ on b tmps1 todo ds1 with mode:=.returning,defers:=[] },⟨v',m1,rfl,r2,b2,?_⟩,?_,?_,?_⟩
 ·refine⟨a6.le,a6.new,a6.n,a6.base,fun r hr hk=>?_,a6.idle,by rw[b3];exact a6.size,a6.img,a6.idleF⟩
  rw[b4 r (fun hm=>by have:=(d3 r hm).1;omega)]
  exact a6.frame r hr hk
 ·exact(by rw[hen];exact a1.trans (.head hleave b1):Steps P (lone (Frame.enter P f args' .normal) cs w) _)
 ·rfl
 ·exact⟨rfl,rfl,rfl,fn,hfn,r1⟩
end Go.Id

namespace Go.Id
open Go Go.RowKit
def partAt:Code→Nat→Code
 | .seq a _,0=>a
 | .seq _ b,n+1=>partAt b n
 | c,_=>c
def restAt:Code→Nat→Code
 | c,0=>c
 | .seq _ b,n+1=>restAt b n
 | c,_=>c
theorem parts_true {P:Program} {tb:FuncId→Option (List Value→Option Value)} (S0:Sound (E0 P)) (S1:Sound (E1 P tb)) {f:FuncId} {fn:Func} {a b rest:Code} {rs:List ResultVar} {nt:Nat} (hfn:P.funcs[f]?=some fn) (hc:fn.body=some (.seq a (.seq b rest))) (hrs:fn.results.toList=rs) (hnt:fn.ntmps=nt)
  {args:List Value} {base:Nat→Option (List Value)} {A:Nat→Nat×Nat} (hlen:args.length≤nt) {fra fr1:Fr} {ha h1:IH} {n:Nat}
  (ea:evC (E1 P tb) (callV (E1 P tb) n) f nt none n a (enterFr 0 args) (IH.start base)=some (.normal,fra,ha))
  (eb:evC (E1 P tb) (callV (E1 P tb) n) f nt none n b fra ha=some (.normal,fr1,h1))
  (w:Do (wpC P f nt none rest fr1 h1) (retK P rs fun r _=>r=.bool true) nx)
  {W:World} {args':Array Value} (hb:BaseOK A base W) (hargs:LRel (Mp.startOf A) args args'.toList):Calls P f args' W fun e W'=>e=.returned (.bool true)∧Below W.heap.size W W':=by
 subst hrs hnt
 obtain⟨⟨e,fr2,h2⟩,⟨N,hN⟩,hq⟩:=wpC_sound w
 have hn:=hN N (Nat.le_refl _)
 have key : ∀(K:Prop),retK P fn.results.toList (fun r _=>r=.bool true) e fr2 h2→(∀vs,(∀i,e≠.exit i)→resultsOf P fr2 h2 fn.results.toList=some vs→single vs=.bool true→K)→K:=by
  intro K hr k
  cases e with
  | exit i=>exact hr.elim
  | normal=>obtain⟨l,h3,h4⟩:=(hr:Ex _ _);exact k l (fun i h=>by cases h) h3 h4
  | ret=>obtain⟨l,h3,h4⟩:=(hr:Ex _ _);exact k l (fun i h=>by cases h) h3 h4
 refine key _ hq fun vs hne hvs hs=>?_
 have F:=follows_seq (follows_code S1 n f fn.ntmps a) (follows_seq (follows_code S1 n f fn.ntmps b) (follows_code S0 N f fn.ntmps rest))
 have hx:seqR (evC (E1 P tb) (callV (E1 P tb) n) f fn.ntmps none n a) (seqR (evC (E1 P tb) (callV (E1 P tb) n) f fn.ntmps none n b) (evC (E0 P) (callV (E0 P) N) f fn.ntmps none N rest)) (enterFr 0 args) (IH.start base)=some (e,fr2,h2):=by
  unfold seqR
  rw[ea]
  show(match evC (E1 P tb) (callV (E1 P tb) n) f fn.ntmps none n b fra ha with|some (.normal,fr,h)=>_|o=>o)=_
  rw[eb]
  exact hn
 refine(follows_calls hfn hc F hlen hx hne hvs (Rel.start hb) hargs (fun k _ _=>Mp.startOf_even A k)).mono fun e w' ⟨v',m',he,hv,R,_⟩=>?_
 rw[hs] at hv
 rw[he,hv.scal_eq rfl]
 exact⟨rfl,R.below⟩
end Go.Id

namespace Go.Id
open Go
open Go.Proofs.Tryz (prog)
open Nat (reduceAdd reduceEqDiff reduceLeDiff)
set_option maxHeartbeats 16000000
noncomputable def tb34:FuncId→Option (List Value→Option Value):=tbOf [(10,okT)]
noncomputable abbrev bodyTg:Code:=Proofs.Tryz.f3.body.getD .skip
theorem tg0 (base:Nat→Option (List Value)) (sz:Nat) (vN vS vL vA vR vQ w:Value) (a b i j:Int) :
  evC (E1 prog tb34) (callV (E1 prog tb34) 1) 3 188 none 1 (partAt bodyTg 0) (enterFr 0 [.agg #[B8 sz,vN,vS,vL,vA,vR,vQ],w,KI a,KI b,KI i,KI j]) (IH.start base)=some (.normal,(12,.bool false) :: (6,ptr 0 0) :: enterFr 0 [.agg #[B8 sz,vN,vS,vL,vA,vR,vQ],w,KI a,KI b,KI i,KI j],(IH.start base).new (.cells [B8 sz,vN,vS,vL,vA,vR,vQ] 0 none)):=rfl
theorem tg1 (fr:Fr) (h:IH) :
  evC (E1 prog tb34) (callV (E1 prog tb34) 1) 3 188 none 1 (partAt bodyTg 1) fr h=some (.normal,(37,.bool false) :: (36,.bool true) :: fr,h):=rfl
noncomputable abbrev QG:IExit→Fr→IH→Prop:=retK prog [.tmp 12] fun r _=>r=.bool true
structure TLf (fr:Fr) (w v14 v17:Value) (a b i j:Int) (bx:Nat):Prop where
 f1:fget fr 1=some w
 f2:fget fr 2=some (KI a)
 f3:fget fr 3=some (KI b)
 f4:fget fr 4=some (KI i)
 f5:fget fr 5=some (KI j)
 f6:fget fr 6=some (ptr (2*bx) 0)
 f14:fget fr 14=some v14
 f17:fget fr 17=some v17
theorem chance_form (s:List Int) (a b x y:Int) : ∃(p:Nat×Nat) (e:Int),(p.1<W8∧p.2<W8)∧chanceRes s a b x y=.tuple #[shV p.1 p.2,KI e]:=by
 have w0:0<W8:=by have:=H8_two;have:=H8_pos;omega
 unfold chanceRes
 by_cases c:ladErr s [a,b]≠0
 ·rw[if_pos c]
  exact⟨(0,0),_,⟨w0,w0⟩,rfl⟩
 rw[if_neg c]
 by_cases c2:x<0∨(s.length:Int)≤x∨y<0∨(s.length:Int)≤y
 ·rw[if_pos c2]
  exact⟨(0,0),_,⟨w0,w0⟩,rfl⟩
 rw[if_neg c2]
 have c:ladErr s [a,b]=0:=Classical.not_not.1 c
 obtain⟨⟨s1,s2,s3⟩,_,_,l3⟩:=ladErr_zero c
 have hq:=exq_qw (chK_le (l3 a (by simp)) (l3 b (by simp)) s3 (x:=x.toNat) (y:=y.toNat) (by omega) (by omega))
 exact⟨shq _,0,shq_lt hq,by rw[shareV_shq]⟩
theorem wiSl_nil (h:IH):WiSl h (.slice none 0 0) []:=⟨SlOf.nil _ (by omega),by simp,fun n hn=>by cases hn⟩
section
variable {h hh:IH} {fr:Fr} {sz bx:Nat} {vN vS vL vA vR vQ w:Value} {lN lS lL lA ws:List Nat} {lR lQ:List Int} {a b i j:Int}
theorem tg2 (hw:WiAr h w ws) (f1:fget fr 1=some w) (f2:fget fr 2=some (KI a)) (f3:fget fr 3=some (KI b)) (f4:fget fr 4=some (KI i)) (f5:fget fr 5=some (KI j)) (f6:fget fr 6=some (ptr (2*bx) 0)):Do (wpC prog 3 188 none (partAt bodyTg 2) fr h) (seqK (fun fr h'=>Pst (h'=h ∧ ∃w ws,WiSl h w ws∧fget fr 1=some w∧fget fr 2=some (KI a)∧fget fr 3=some (KI b)∧fget fr 4=some (KI i)∧fget fr 5=some (KI j)∧fget fr 6=some (ptr (2*bx) 0)) nx) QG) nx:=by
 show Do (wpC _ _ _ _ (.region _ _ _) fr h) _ _
 have lv:=hw.2.1
 obtain⟨M,hM⟩ : ∃M,M=min ws.length 6:=⟨_,rfl⟩
 have hmin:(if (6:Int)<(ws.length:Int) then (6:Int) else (ws.length:Int))=(M:Int):=by split<;>omega
 obtain⟨w2,e2,s2⟩:=hw.first (Keep.refl h) (m:=M) (by omega) (by omega)
 simp -dsimp (maxSteps:=1000000) (disch:=try exact dx) only[wpS,reduceEqDiff,f1,hw.1.len sl28,min_ii,hmin,e2]
 exact⟨rfl,w2,_,s2,by simp,by simp[f2],by simp[f3],by simp[f4],by simp[f5],by simp[f6]⟩
theorem tg3 (hS:BySl h vS lS) (hL:BySl h vL lL) (hA:BySl h vA lA) (cN:cellOK vN=true) (cR:cellOK vR=true) (cQ:cellOK vQ=true) (hsz:sz<256) (g:h.ext.get bx=some (.cells [B8 sz,vN,vS,vL,vA,vR,vQ] 0 none)) (f1:fget fr 1=some w) (f2:fget fr 2=some (KI a)) (f3:fget fr 3=some (KI b)) (f4:fget fr 4=some (KI i)) (f5:fget fr 5=some (KI j)) (f6:fget fr 6=some (ptr (2*bx) 0)):Do (wpC prog 3 188 none (partAt bodyTg 3) fr h) (seqK (fun fr h'=>Pst (Ext h h' ∧ ∃v13 v14 s l,InSl h' v13 s∧InSl h' v14 l∧s.length≤62∧fget fr 13=some v13∧fget fr 14=some v14∧fget fr 1=some w∧fget fr 2=some (KI a)∧fget fr 3=some (KI b)∧fget fr 4=some (KI i)∧fget fr 5=some (KI j)∧fget fr 6=some (ptr (2*bx) 0)) nx) QG) nx:=by
 show Do (wpC _ _ _ _ (.region _ _ _) fr h) _ _
 have tk7:List.take 7 (List.drop 0 [B8 sz,vN,vS,vL,vA,vR,vQ]) = [B8 sz,vN,vS,vL,vA,vR,vQ]:=rfl
 have hr : ∀ox oy,binop prog .rem 5 ox oy (B8 sz) (.int .u8 4)=some (.int .u8 ((sz % 4:Nat):Int)):=fun ox oy=>rem_natk _ _ .u8 ox oy sz 4 (by omega)
 obtain⟨n,hn⟩ : ∃n,n=1+sz % 4:=⟨_,rfl⟩
 have en:(1:Int)+((sz % 4:Nat):Int)=(n:Int):=by omega
 simp -dsimp (maxSteps:=1000000) (disch:=try exact dx) only[wpS,wpT,reduceEqDiff,reduceLeDiff,reduceAdd,ld27,fa27_0,fa24_0,ld5,cv5_3,f6,row_of g,tk7,hr,en]
 refine call (lists_ok (n:=n) hS hL hA (by omega) (by omega) cN cR cQ) ?_
 rintro _ h1 ⟨X1,v13,v14,v15,s,l,t,rfl,s13,s14,s15,hl⟩
 simp -dsimp (maxSteps:=1000000) (disch:=try exact dx) only[wpS,reduceEqDiff]
 exact⟨X1,v13,v14,s,l,s13,s14,by omega,by simp,by simp,by simp[f1],by simp[f2],by simp[f3],by simp[f4],by simp[f5],by simp[f6]⟩
theorem tg4 (hR:InAr h vR lR) (hQ:InAr h vQ lQ) {v13 v14:Value} (g:h.ext.get bx=some (.cells [B8 sz,vN,vS,vL,vA,vR,vQ] 0 none)) (f13:fget fr 13=some v13) (f14:fget fr 14=some v14) (f1:fget fr 1=some w) (f2:fget fr 2=some (KI a)) (f3:fget fr 3=some (KI b)) (f4:fget fr 4=some (KI i)) (f5:fget fr 5=some (KI j)) (f6:fget fr 6=some (ptr (2*bx) 0)):Do (wpC prog 3 188 none (partAt bodyTg 4) fr h) (seqK (fun fr h'=>Pst (h'=h ∧ ∃v16 v17 s l,InSl h v16 s∧InSl h v17 l∧s.length≤62∧fget fr 13=some v13∧fget fr 16=some v16∧TLf fr w v14 v17 a b i j bx) nx) QG) nx:=by
 show Do (wpC _ _ _ _ (.region _ _ _) fr h) _ _
 have lR':=hR.2.1
 have lQ':=hQ.2.1
 obtain⟨M,hM⟩ : ∃M,M=min lR.length 62:=⟨_,rfl⟩
 have hmin:(if (62:Int)<(lR.length:Int) then (62:Int) else (lR.length:Int))=(M:Int):=by split<;>omega
 obtain⟨N,hN⟩ : ∃N,N=min lQ.length 8:=⟨_,rfl⟩
 have hmin2:(if (8:Int)<(lQ.length:Int) then (8:Int) else (lQ.length:Int))=(N:Int):=by split<;>omega
 obtain⟨w1,e1,s1⟩:=hR.first (Keep.refl h) (m:=M) (by omega) (by omega)
 obtain⟨w2,e2,s2⟩:=hQ.first (Keep.refl h) (m:=N) (by omega) (by omega)
 simp -dsimp (maxSteps:=1000000) (disch:=try exact dx) only[wpS,reduceEqDiff,fa27_4,ld25,fa27_5,f6,row_of g,hR.1.len sl25,hQ.1.len sl25,min_ii,hmin,hmin2,e1,e2]
 exact⟨rfl,w1,w2,_,_,s1,s2,by rw[List.length_take];omega,by simp[f13],by simp,⟨by simp[f1],by simp[f2],by simp[f3],by simp[f4],by simp[f5],by simp[f6],by simp[f14],by simp⟩⟩
theorem teU64w (x:Int) : ∃y:Nat,IntKind.u64.wrap x=(y:Int):=by
 have h:0≤IntKind.u64.wrap x:=by
  show 0≤x % 18446744073709551616
  omega
 exact⟨_,(Int.toNat_of_nonneg h).symm⟩
theorem TLf.up {fr fr':Fr} {w v14 v17:Value} {a b i j:Int} {bx:Nat} (s:TLf fr w v14 v17 a b i j bx) (h1:fget fr' 1=fget fr 1) (h2:fget fr' 2=fget fr 2) (h3:fget fr' 3=fget fr 3) (h4:fget fr' 4=fget fr 4) (h5:fget fr' 5=fget fr 5) (h6:fget fr' 6=fget fr 6) (h14:fget fr' 14=fget fr 14) (h17:fget fr' 17=fget fr 17):TLf fr' w v14 v17 a b i j bx :=
 ⟨h1.trans s.f1,h2.trans s.f2,h3.trans s.f3,h4.trans s.f4,h5.trans s.f5,h6.trans s.f6,h14.trans s.f14,h17.trans s.f17⟩
theorem tg5 {v13 v14 v16 v17:Value} {s0 s1 l0 l1:List Int} (hw:WiSl hh w ws) (s13:InSl hh v13 s0) (s16:InSl hh v16 s1) (s14:InSl hh v14 l0) (s17:InSl hh v17 l1) (z0:s0.length≤62) (z1:s1.length≤62) (hN:BySl hh vN lN) (lbx:bx<hh.n) (gb:hh.ext.get bx=some (.cells [B8 sz,vN,vS,vL,vA,vR,vQ] 0 none))
  (ha:In64 a) (hb:In64 b) (hi:In64 i) (hj:In64 j) (f13:fget fr 13=some v13) (f16:fget fr 16=some v16) (L:TLf fr w v14 v17 a b i j bx):Do (wpC prog 3 188 none (restAt bodyTg 5) fr hh) QG nx:=by
 have tk2b:List.take 2 (List.drop 0 [B8 sz,vN,vS,vL,vA,vR,vQ]) = [B8 sz,vN]:=rfl
 have j0:idxAt 0 3=some 0:=by decide
 have j1:idxAt 1 3=some 1:=by decide
 have j2:idxAt 2 3=some 2:=by decide
 obtain⟨ya,hya⟩:=teU64w a
 obtain⟨yb,hyb⟩:=teU64w b
 obtain⟨yi,hyi⟩:=teU64w i
 obtain⟨yj,hyj⟩:=teU64w j
 obtain⟨qa,hqa⟩ : ∃q:Nat,q=ya % 9:=⟨_,rfl⟩
 obtain⟨qb,hqb⟩ : ∃q:Nat,q=yb % 9:=⟨_,rfl⟩
 obtain⟨qi,hqi⟩ : ∃q:Nat,q=yi % 4:=⟨_,rfl⟩
 obtain⟨qj,hqj⟩ : ∃q:Nat,q=yj % 4:=⟨_,rfl⟩
 have ra : ∀ox oy,binop prog .rem 35 ox oy (.int .u64 (ya:Int)) (.int .u64 9)=some (.int .u64 (qa:Int)):=fun ox oy=>by rw[hqa];exact rem_natk _ _ .u64 ox oy ya 9 (by omega)
 have rb : ∀ox oy,binop prog .rem 35 ox oy (.int .u64 (yb:Int)) (.int .u64 9)=some (.int .u64 (qb:Int)):=fun ox oy=>by rw[hqb];exact rem_natk _ _ .u64 ox oy yb 9 (by omega)
 have ri : ∀ox oy,binop prog .rem 35 ox oy (.int .u64 (yi:Int)) (.int .u64 4)=some (.int .u64 (qi:Int)):=fun ox oy=>by rw[hqi];exact rem_natk _ _ .u64 ox oy yi 4 (by omega)
 have rj : ∀ox oy,binop prog .rem 35 ox oy (.int .u64 (yj:Int)) (.int .u64 4)=some (.int .u64 (qj:Int)):=fun ox oy=>by rw[hqj];exact rem_natk _ _ .u64 ox oy yj 4 (by omega)
 show Do (wpC _ _ _ _ (.seq _ _) fr hh) _ _
 simp -dsimp (maxSteps:=1000000) (disch:=try exact dx) only[wpS,wpT,reduceEqDiff,reduceLeDiff,reduceAdd,bv32,pl32_0,pl32_1,f13,f16,s13.1.cells,s16.1.cells]
 refine loop (fun m fr g => ∃k:Nat,k+m=2∧Ext hh g∧TLf fr w v14 v17 a b i j bx∧fget fr 71=some (.agg #[v13,v16])∧fget fr 72=some (KN k)) 2
  ⟨0,by omega,Ext.refl _,L.up (by simp) (by simp) (by simp) (by simp) (by simp) (by simp) (by simp) (by simp),by simp,by simp⟩ ?_
 clear L
 rintro m fr g ⟨k,hkm,E,L,f71,f72⟩
 simp -dsimp (maxSteps:=1000000) (disch:=try exact dx) only[wpS,f72]
 refine bq_intro ?_ ?_<;>intro hc<;>simp only[decide_eq_true_eq,decide_eq_false_iff_not] at hc
 ·obtain⟨vs,s,hvs,ss0,sl⟩ : ∃vs s,indexV prog 32 (.agg #[v13,v16]) (KN k)=some vs∧InSl hh vs s∧s.length≤62:=by
   rcases(by omega:k=0∨k=1) with rfl|rfl
   ·exact⟨v13,s0,by kernel_rfl,s13,z0⟩
   ·exact⟨v16,s1,by kernel_rfl,s16,z1⟩
  have ss:=ss0.keep E.keep
  simp -dsimp (maxSteps:=1000000) (disch:=try exact dx) only[wpS,wpT,reduceEqDiff,reduceLeDiff,reduceAdd,bv32,pl32_0,pl32_1,f71,f72,hvs,L.f14,L.f17,s14.1.cells,s17.1.cells]
  refine loop (fun m2 fr gg => ∃o:Nat,o+m2=2∧Ext g gg∧TLf fr w v14 v17 a b i j bx∧fget fr 19=some vs∧fget fr 71=some (.agg #[v13,v16])∧fget fr 72=some (KN k)∧fget fr 77=some (.agg #[v14,v17])∧fget fr 78=some (KN o)) 2
   ⟨0,by omega,Ext.refl _,L.up (by simp) (by simp) (by simp) (by simp) (by simp) (by simp) (by simp) (by simp),by simp,by simp[f71],by simp[f72],by simp,by simp⟩ ?_
  clear L f71 f72
  rintro m2 fr gg ⟨o,hom,EE,L,f19,f71,f72,f77,f78⟩
  simp -dsimp (maxSteps:=1000000) (disch:=try exact dx) only[wpS,f78]
  refine bq_intro ?_ ?_<;>intro hc2<;>simp only[decide_eq_true_eq,decide_eq_false_iff_not] at hc2
  ·obtain⟨vl,l,hvl,sl0⟩ : ∃vl l,indexV prog 32 (.agg #[v14,v17]) (KN o)=some vl∧InSl hh vl l:=by
    rcases(by omega:o=0∨o=1) with rfl|rfl
    ·exact⟨v14,l0,by kernel_rfl,s14⟩
    ·exact⟨v17,l1,by kernel_rfl,s17⟩
   simp -dsimp (maxSteps:=1000000) (disch:=try exact dx) only[wpS,wpT,reduceEqDiff,f19,f77,f78,hvl]
   refine call (teCheck_ok (ss.keep EE.keep) (sl0.keep (E.trans EE).keep)) ?_
   rintro _ g3 ⟨X3,rfl⟩
   simp -dsimp (maxSteps:=1000000) (disch:=try exact dx) only[wpS,reduceEqDiff,f19]
   refine call (rfCheck34_ok (ss.keep (EE.trans X3).keep) (sl0.keep ((E.trans EE).trans X3).keep)) ?_
   rintro _ _ ⟨rfl,rfl⟩
   have ee:(ladErr s l != ladErr s l)=false:=by simp
   simp -dsimp (maxSteps:=1000000) (disch:=try exact dx) only[wpS,reduceEqDiff,f78,ee]
   exact⟨m2 - 1,by omega,o+1,by omega,EE.trans X3,L.up (by simp) (by simp) (by simp) (by simp) (by simp) (by simp) (by simp) (by simp),by simp[f19],by simp[f71],by simp[f72],by simp[f77],by simp⟩
  ·clear hc2
   simp -dsimp (maxSteps:=1000000) (disch:=try exact dx) only[wpS,wpT,reduceEqDiff,reduceLeDiff,reduceAdd,cv3_35,cv35_3,bv36,pl36_0,pl36_1,L.f2,hya,ra]
   refine loop (fun m4 fr g4 => ∃o4:Nat,o4+m4=2∧Ext gg g4∧TLf fr w v14 v17 a b i j bx∧fget fr 19=some vs∧fget fr 71=some (.agg #[v13,v16])∧fget fr 72=some (KN k)∧fget fr 94=some (.agg #[KI a,KI (qa:Int)])∧fget fr 95=some (KN o4)) 2
    ⟨0,by omega,Ext.refl _,L.up (by simp) (by simp) (by simp) (by simp) (by simp) (by simp) (by simp) (by simp),by simp[f19],by simp[f71],by simp[f72],by simp,by simp⟩ ?_
   clear L f19 f71 f72 f77 f78
   rintro m4 fr g4 ⟨o4,ho4,E4,L,f19,f71,f72,f94,f95⟩
   simp -dsimp (maxSteps:=1000000) (disch:=try exact dx) only[wpS,f95]
   refine bq_intro ?_ ?_<;>intro hc4<;>simp only[decide_eq_true_eq,decide_eq_false_iff_not] at hc4
   ·obtain⟨kk,hkk,ik⟩ : ∃kk,indexV prog 36 (.agg #[KI a,KI (qa:Int)]) (KN o4)=some (KI kk)∧In64 kk:=by
     rcases(by omega:o4=0∨o4=1) with rfl|rfl
     ·exact⟨a,by kernel_rfl,ha⟩
     ·exact⟨(qa:Int),by kernel_rfl,by omega,by omega⟩
    have Eh4:=(E.trans EE).trans E4
    have ss4:=ss.keep (EE.trans E4).keep
    have gb4:=Eh4.kept lbx gb
    have lss:=ss0.2.1
    simp -dsimp (maxSteps:=1000000) (disch:=try exact dx) only[wpS,wpT,reduceEqDiff,reduceLeDiff,reduceAdd,fa27_0,ld24,f94,f95,hkk,L.f1,L.f6,row_of gb4,tk2b,f19,ss0.1.len sl25]
    refine call (dweights_ok (sz:=sz) (hN.keep Eh4.keep) s.length (by omega)) ?_
    rintro vo g5 ⟨X5,wo,so,hlo⟩
    have hw5:=hw.keep (Eh4.trans X5).keep
    have cw:=hw.1.cells
    have cwo:=so.1.cells
    simp -dsimp (maxSteps:=1000000) (disch:=try exact dx) only[wpS,wpT,reduceEqDiff,reduceLeDiff,reduceAdd,bv38,pl38_0,pl38_1,cw,cwo]
    refine loop (fun m6 fr g6 => ∃o6:Nat,o6+m6=2∧Ext g5 g6∧TLf fr w v14 v17 a b i j bx∧fget fr 19=some vs∧fget fr 23=some (KI kk)∧fget fr 71=some (.agg #[v13,v16])∧fget fr 72=some (KN k)∧fget fr 94=some (.agg #[KI a,KI (qa:Int)])∧fget fr 95=some (KN o4)∧fget fr 104=some (.agg #[w,vo])∧fget fr 105=some (KN o6)) 2
     ⟨0,by omega,Ext.refl _,L.up (by simp) (by simp) (by simp) (by simp) (by simp) (by simp) (by simp) (by simp),by simp[f19],by simp,by simp[f71],by simp[f72],by simp[f94],by simp[f95],by simp,by simp⟩ ?_
    clear L f19 f71 f72 f94 f95
    rintro m6 fr g6 ⟨o6,ho6,E6,L,f19,f23,f71,f72,f94,f95,f104,f105⟩
    simp -dsimp (maxSteps:=1000000) (disch:=try exact dx) only[wpS,f105]
    refine bq_intro ?_ ?_<;>intro hc6<;>simp only[decide_eq_true_eq,decide_eq_false_iff_not] at hc6
    ·obtain⟨vy,y,hvy,sy⟩ : ∃vy y,indexV prog 38 (.agg #[w,vo]) (KN o6)=some vy∧WiSl g5 vy y:=by
      rcases(by omega:o6=0∨o6=1) with rfl|rfl
      ·exact⟨w,ws,by kernel_rfl,hw5⟩
      ·exact⟨vo,wo,by kernel_rfl,so⟩
     have X46:=X5.trans E6
     have ss6:=ss4.keep X46.keep
     have sy6:=sy.keep E6.keep
     simp -dsimp (maxSteps:=1000000) (disch:=try exact dx) only[wpS,wpT,reduceEqDiff,f19,f23,f104,f105,hvy]
     refine call (teTargets_ok sy6 ss6 ik) ?_
     rintro _ g7 ⟨X7,out1,rfl,a1,a2⟩
     simp -dsimp (maxSteps:=1000000) (disch:=try exact dx) only[wpS,reduceEqDiff,f19,f23]
     refine call (rfTargets_ok (sy6.keep X7.keep) (ss6.keep X7.keep) ik) ?_
     rintro _ g8 ⟨X8,out2,rfl,b1,b2⟩
     obtain⟨lo,q1,q2⟩ : ∃lo,WiSl g8 out1 lo∧WiSl g8 out2 lo:=by
      by_cases cz:tgErr y s kk=0
      ·exact⟨_,(a1 cz).keep X8.keep,b1 cz⟩
      ·exact⟨[],by rw[a2 cz];exact wiSl_nil _,by rw[b2 cz];exact wiSl_nil _⟩
     simp -dsimp (maxSteps:=1000000) (disch:=try exact dx) only[wpS,reduceEqDiff]
     refine call (wiequal_ok q1 q2) ?_
     rintro _ _ ⟨rfl,rfl⟩
     have ee:(tgErr y s kk != tgErr y s kk)=false:=by simp
     simp -dsimp (maxSteps:=1000000) (disch:=try exact dx) only[wpS,wpT,reduceEqDiff,f105,ee]
     exact⟨m6 - 1,by omega,o6+1,by omega,(E6.trans X7).trans X8,L.up (by simp) (by simp) (by simp) (by simp) (by simp) (by simp) (by simp) (by simp),by simp[f19],by simp[f23],by simp[f71],by simp[f72],by simp[f94],by simp[f95],by simp[f104],by simp⟩
    ·clear hc6
     simp -dsimp (maxSteps:=1000000) (disch:=try exact dx) only[wpS,wpT,reduceEqDiff,reduceLeDiff,reduceAdd,cv3_35,cv35_3,bv45,pl45_0,pl45_1,pl45_2,bv46,pl46_0,pl46_1,L.f3,L.f4,L.f5,hyb,hyi,hyj,rb,ri,rj]
     refine loop (fun m8 fr g8 => ∃o8:Nat,o8+m8=2∧Ext g6 g8∧TLf fr w v14 v17 a b i j bx∧fget fr 19=some vs∧fget fr 23=some (KI kk)∧fget fr 71=some (.agg #[v13,v16])∧fget fr 72=some (KN k)∧fget fr 94=some (.agg #[KI a,KI (qa:Int)])∧fget fr 95=some (KN o4)∧fget fr 149=some (.agg #[KI b,KI i,KI j,KI (qb:Int),KI (qi:Int),KI (qj:Int)])∧fget fr 150=some (KN o8)) 2
      ⟨0,by omega,Ext.refl _,L.up (by simp) (by simp) (by simp) (by simp) (by simp) (by simp) (by simp) (by simp),by simp[f19],by simp[f23],by simp[f71],by simp[f72],by simp[f94],by simp[f95],by simp,by simp⟩ ?_
     clear L f19 f23 f71 f72 f94 f95 f104 f105
     rintro m8 fr g8 ⟨o8,ho8,E8,L,f19,f23,f71,f72,f94,f95,f149,f150⟩
     simp -dsimp (maxSteps:=1000000) (disch:=try exact dx) only[wpS,f150]
     refine bq_intro ?_ ?_<;>intro hc8<;>simp only[decide_eq_true_eq,decide_eq_false_iff_not] at hc8
     ·obtain⟨x1,x2,x3,hx,i1,i2,i3⟩ : ∃x1 x2 x3,indexV prog 46 (.agg #[KI b,KI i,KI j,KI (qb:Int),KI (qi:Int),KI (qj:Int)]) (KN o8)=some (.agg #[KI x1,KI x2,KI x3])∧In64 x1∧In64 x2∧In64 x3:=by
       rcases(by omega:o8=0∨o8=1) with rfl|rfl
       ·exact⟨b,i,j,by kernel_rfl,hb,hi,hj⟩
       ·exact⟨(qb:Int),(qi:Int),(qj:Int),by kernel_rfl,⟨by omega,by omega⟩,⟨by omega,by omega⟩,⟨by omega,by omega⟩⟩
      have ss8:=ss4.keep (X5.trans (E6.trans E8)).keep
      have gx:((g8.new (.cells [KI 0,KI 0,KI 0] 0 none)).put g8.n (.cells [KI x1,KI x2,KI x3] 0 none)).ext.get g8.n=some (.cells [KI x1,KI x2,KI x3] 0 none):=by simp (disch:=try exact dx) only[get_put_same]
      have ex:Ext g8 ((g8.new (.cells [KI 0,KI 0,KI 0] 0 none)).put g8.n (.cells [KI x1,KI x2,KI x3] 0 none)):=((Ext.refl g8).new _).put (Nat.le_refl _) _
      simp -dsimp (maxSteps:=1000000) (disch:=try exact dx) only[wpS,wpT,reduceEqDiff,reduceLeDiff,reduceAdd,zc45,st45,ar45,ld3,f149,f150,hx,f19,f23,row_of gx,j0,j1,j2]
      obtain⟨H9,hH9⟩ : ∃H,H=(g8.new (.cells [KI 0,KI 0,KI 0] 0 none)).put g8.n (.cells [KI x1,KI x2,KI x3] 0 none):=⟨_,rfl⟩
      rw[←hH9] at gx ex ⊢
      have n9:H9.n=g8.n+1:=by rw[hH9];rfl
      clear hH9
      refine call (teChance_ok (ss8.keep ex.keep) ik i1 i2 i3) ?_
      rintro _ ga ⟨Xa,rfl⟩
      obtain⟨p,e,pw,hr⟩:=chance_form s kk x1 x2 x3
      rw[hr]
      have gxa:=Xa.kept (by omega) gx
      have na:=Xa.n
      obtain⟨Ha,hHa⟩ : ∃H,H=(ga.new (.cells Z16 0 none)).put ga.n (.cells (shC p.1 p.2) 0 none):=⟨_,rfl⟩
      have nHa:Ha.n=ga.n+1:=by rw[hHa];rfl
      have ea:Ext ga Ha:=by rw[hHa];exact((Ext.refl _).new _).put (Nat.le_refl _) _
      have gp:Ha.ext.get ga.n=some (.cells (shC p.1 p.2) 0 none):=by rw[hHa];simp (disch:=try exact dx) only[get_put_same]
      have gxb:=ea.kept (by omega) gxa
      simp -dsimp (maxSteps:=1000000) (disch:=try exact dx) only[wpS,wpT,reduceEqDiff,reduceLeDiff,reduceAdd,zc48,st48,shV_cells,shC_len,shC_all,sh_sp3]
      rw[←hHa]
      clear hHa
      simp -dsimp (maxSteps:=1000000) (disch:=try exact dx) only[wpS,reduceEqDiff,ar45,ld3,f19,f23,row_of gxb,j0,j1,j2]
      refine call (rfChance34_ok (ss8.keep ((ex.trans Xa).trans ea).keep) ik i1 i2 i3) ?_
      rintro _ gq ⟨Xq,rfl⟩
      rw[hr]
      have nq:=Xq.n
      have gpq:=Xq.kept (by omega) gp
      have eq:Ext gq ((gq.new (.cells Z16 0 none)).put gq.n (.cells (shC p.1 p.2) 0 none)):=((Ext.refl _).new _).put (Nat.le_refl _) _
      have hne : ∀ox oy,binop prog .neq 48 ox oy (.agg (shC p.1 p.2).toArray) (.agg (shC p.1 p.2).toArray)=some (.bool false):=fun ox oy=>by
       rw[sh_neq pw.1 pw.2 pw.1 pw.2,decide_eq_true ⟨rfl,rfl⟩];rfl
      have ee:(e != e)=false:=by simp
      simp -dsimp (maxSteps:=1000000) (disch:=try exact dx) only[wpS,wpT,reduceEqDiff,reduceLeDiff,reduceAdd,zc48,st48,ld48,shV_cells,shC_len,shC_all,sh_sp3,row_of gpq,sh_take,hne,ee,f150]
      exact⟨m8 - 1,by omega,o8+1,by omega,(((E8.trans ex).trans Xa).trans (ea.trans Xq)).trans eq,L.up (by simp) (by simp) (by simp) (by simp) (by simp) (by simp) (by simp) (by simp),by simp[f19],by simp[f23],by simp[f71],by simp[f72],by simp[f94],by simp[f95],by simp[f149],by simp⟩
     ·clear hc8
      simp -dsimp (maxSteps:=1000000) (disch:=try exact dx) only[wpS,reduceEqDiff,f95]
      exact⟨m4 - 1,by omega,o4+1,by omega,E4.trans (X5.trans (E6.trans E8)),L.up (by simp) (by simp) (by simp) (by simp) (by simp) (by simp) (by simp) (by simp),by simp[f19],by simp[f71],by simp[f72],by simp[f94],by simp⟩
   ·simp -dsimp (maxSteps:=1000000) (disch:=try exact dx) only[wpS,wpT,reduceEqDiff,f72]
    exact⟨m - 1,by omega,k+1,by omega,(E.trans EE).trans E4,L.up (by simp) (by simp) (by simp) (by simp) (by simp) (by simp) (by simp) (by simp),by simp[f71],by simp⟩
 ·simp -dsimp (maxSteps:=1000000) (disch:=try exact dx) only[wpS,wpT]
theorem targets_rest (hw:WiAr h w ws) (hN:BySl h vN lN) (hS:BySl h vS lS) (hL:BySl h vL lL) (hA:BySl h vA lA) (hR:InAr h vR lR) (hQ:InAr h vQ lQ) (hsz:sz<256) (lbx:bx<h.n) (gb:h.ext.get bx=some (.cells [B8 sz,vN,vS,vL,vA,vR,vQ] 0 none))
  (ha:In64 a) (hb:In64 b) (hi:In64 i) (hj:In64 j) (f1:fget fr 1=some w) (f2:fget fr 2=some (KI a)) (f3:fget fr 3=some (KI b)) (f4:fget fr 4=some (KI i)) (f5:fget fr 5=some (KI j)) (f6:fget fr 6=some (ptr (2*bx) 0)) :
  Do (wpC prog 3 188 none (restAt bodyTg 2) fr h) (retK prog [.tmp 12] fun r _=>r=.bool true) nx:=by
 show Do (wpC _ _ _ _ (.seq (partAt bodyTg 2) (restAt bodyTg 3)) fr h) QG _
 rw[d_seq];refine cut _ (tg2 hw f1 f2 f3 f4 f5 f6) ?_;clear f1 f2 f3 f4 f5 f6;rintro fr2 _ ⟨rfl,w2,ws2,hw2,f1,f2,f3,f4,f5,f6⟩
 show Do (wpC _ _ _ _ (.seq (partAt bodyTg 3) (restAt bodyTg 4)) fr2 _) QG _
 rw[d_seq];refine cut _ (tg3 hS hL hA hN.1.cok hR.1.cok hQ.1.cok hsz gb f1 f2 f3 f4 f5 f6) ?_;clear f1 f2 f3 f4 f5 f6;rintro fr3 h3 ⟨E3,v13,v14,s,l,s13,s14,z0,f13,f14,f1,f2,f3,f4,f5,f6⟩
 have gb3:=E3.kept lbx gb
 have n3:=E3.n
 show Do (wpC _ _ _ _ (.seq (partAt bodyTg 4) (restAt bodyTg 5)) fr3 h3) QG _
 rw[d_seq];refine cut _ (tg4 (hR.keep E3.keep) (hQ.keep E3.keep) gb3 f13 f14 f1 f2 f3 f4 f5 f6) ?_;clear f1 f2 f3 f4 f5 f6 f13 f14;rintro fr4 _ ⟨rfl,v16,v17,s1,l1,s16,s17,z1,f13,f16,L⟩
 exact tg5 (hw2.keep E3.keep) s13 s16 s14 s17 z0 z1 (hN.keep E3.keep) (by omega) gb3 ha hb hi hj f13 f16 L
end
end Go.Id

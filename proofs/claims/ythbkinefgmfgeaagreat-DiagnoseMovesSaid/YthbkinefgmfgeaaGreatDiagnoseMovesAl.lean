/-
  Contracts: package diagnose: products, autocovariances. The greater and the lesser of two integers. Contracts: slices.Chunk. Contracts: package diagnose: Mean, Auto. Contracts: package diagnose: Batches. Contracts: the reference's fractions: lowest terms. Contracts: the reference's fractions: sums, differences, products, quotients, order.
-/
import Derived.Test.YthbkinefgmfgeaaGreatDiagnoseMovesAk
import Derived.Test.YthbkinefgmfgeaaGreatDiagnoseMovesAf
import Derived.Test.YthbkinefgmfgeaaGreatDiagnoseMovesAi
import Derived.Test.YthbkinefgmfgeaaGreatDiagnoseMovesAh
set_option linter.unusedVariables false
set_option linter.unusedSimpArgs false
set_option linter.defProp false
set_option linter.deprecated false
/-! Contracts: package diagnose: products, autocovariances. -/
namespace Go.Id
open Go
theorem Keep.putAny {a b:IH} (g:Keep a b) {k:Nat} (hk : ∀c e f,b.ext.get k=some (.cells c e f)→e=0) (o:IObj):Keep a (b.put k o):=⟨g.n,g.base,fun j c e f1 hj hg he=>by
 obtain⟨f2,h2⟩:=g.get j c e f1 hj hg he
 refine⟨f2,?_⟩
 rw[get_put,if_neg]
 ·exact h2
 ·rintro rfl;exact he (hk _ _ _ h2)⟩
theorem ElSl.ldAll {R:IH→Value→Rat→Prop} (k:Kept R) {h:IH} {v:Value} {l:List Rat} (s:ElSl R h v l) {i:Nat} {q:Rat} (hi:l[i]?=some q) {P:Program} {t:TypeId} (hT:isAggT P t=some true) (hS:sizeT P t=some 4) :
  ∃a s b u,∀h',Keep h h'→load P h' t (elemAddr v (i*4))=some (.agg #[a,s,b,u])∧R h' (.agg #[a,s,b,u]) q:=by
 obtain⟨cs,hs,hc,hl⟩:=s
 have hil:=(List.getElem?_eq_some_iff.1 hi).1
 have hcl:=hc.len
 obtain⟨a,s,b,u,e1,r⟩:=hc.at hi
 exact⟨a,s,b,u,fun h' e=>⟨by rw[hs.ldAgg e (by omega) (by omega) hT hS,e1],k _ _ _ _ r e⟩⟩
def qpr (l:List Rat) (c:Rat) (k t:Nat):Rat:=(l.getD t 0 - c)*(l.getD (t+k) 0 - c)
def qprods (l:List Rat) (c:Rat) (k:Nat):List Rat:=(List.range (l.length - k)).map (qpr l c k)
def qauto (l:List Rat) (c:Rat) (k:Nat):Rat:=qsum (qprods l c k) / qlen l
theorem qprods_len (l:List Rat) (c:Rat) (k:Nat):(qprods l c k).length=l.length - k:=by simp[qprods]
theorem qprods_at {l:List Rat} {c:Rat} {k t:Nat} (h:t<l.length - k):(qprods l c k)[t]?=some (qpr l c k t):=by simp[qprods,h]
theorem getD_of {l:List Rat} {i:Nat} {q:Rat} (h:l[i]?=some q):l.getD i 0=q:=by rw[List.getD_eq_getElem?_getD,h];rfl
theorem qpr_bits {l:List Rat} {c:Rat} {kb kc:Nat} (hk : ∀q∈l,QB kb q) (hc:QB kc c) {k t:Nat} (h:t+k<l.length):QB (kb+kc+1+(kb+kc+1)) (qpr l c k t):=by
 obtain⟨x,hx⟩ : ∃q,l[t]?=some q:=⟨_,List.getElem?_eq_getElem (by omega)⟩
 obtain⟨y,hy⟩ : ∃q,l[t+k]?=some q:=⟨_,List.getElem?_eq_getElem (by omega)⟩
 rw[qpr,getD_of hx,getD_of hy]
 exact((hk x (List.mem_of_getElem? hx)).sub hc).mul ((hk y (List.mem_of_getElem? hy)).sub hc)
set_option maxHeartbeats 4000000 in
theorem products1_ok {h:IH} {y:Value} {l:List Rat} {c:Rat} {b b2 lag:Nat} {s a1 s1 b1 t1:Value} {kb kc:Nat} (J:Nat→IH→Prop) (D:IH→Prop)
  (hlag:lag<l.length) (hk : ∀q∈l,QB kb q) (hc:QB kc c) (hs:kb+kc+1+(kb+kc+1)<16000000)
  (hJ : ∀i h,J i h→b<h.n∧b2<h.n∧h.ext.get b=some (.cells [s,a1,s1,b1,t1] 0 none)∧h.ext.get b2=some (.cells [KN lag] 0 none)∧ElSl PRat h s l∧PRat h (.agg #[a1,s1,b1,t1]) c)
  (hJe : ∀i h h',J i h→Ext h h'→J i h') (h0:J 0 h) (hD : ∀h,J (l.length - lag) h→D h)
  (step : ∀i h w,i<l.length - lag→J i h→PRat h w (qpr l c lag i)→WV Proofs.Tryz.prog y [w] h fun r h'=>r=.bool true∧J (i+1) h') :
  WV Proofs.Tryz.prog (.func (.func 161) #[] #[ptr (2*b) 0,ptr (2*b2) 0]) [y] h fun _ h'=>D h':=by
 obtain⟨_,_,gb,gb2,hl,_⟩:=hJ 0 h h0
 obtain⟨cs0,hs0,_,hlen⟩:=id hl
 have eL:(l.length:Int) - (lag:Int)=((l.length - lag:Nat):Int):=by omega
 refine enter (nt:=36) (rs:=[]) Proofs.Tryz.func161 rfl rfl rfl (by simp) ?_
 simp -dsimp (disch:=omega) only[wpS,Nat.reduceEqDiff,Nat.reduceAdd,fa107_0,ld103,ld3,row_of gb,row_of gb2,hs0.len sl103,eL]
 refine loop (fun m fr h1 => ∃i:Nat,i+m=l.length - lag∧J i h1∧fget fr 0=some y∧fget fr 1=some (ptr (2*b) 0)∧fget fr 2=some (ptr (2*b2) 0)∧fget fr 9=some (KN (l.length - lag))∧fget fr 10=some (KN i)) (l.length - lag)
  ⟨0,by omega,h0,by simp,by simp,by simp,by simp,by simp⟩ ?_
 clear gb gb2 hl hs0
 rintro m fr h1 ⟨i,him,hJ1,f0,f1,f2,f9,f10⟩
 obtain⟨nb,nb2,gb,gb2,hl,hcc⟩:=hJ i h1 hJ1
 simp -dsimp (disch:=omega) only[wpS,f9,f10]
 refine bq_intro ?_ ?_<;>intro hcx<;>simp only[decide_eq_true_eq,decide_eq_false_iff_not] at hcx
 ·have hi:i<l.length - lag:=by omega
  obtain⟨x,hx⟩ : ∃q,l[i]?=some q:=⟨_,List.getElem?_eq_getElem (by omega)⟩
  obtain⟨z,hz⟩ : ∃q,l[i+lag]?=some q:=⟨_,List.getElem?_eq_getElem (by omega)⟩
  have qx:=hk x (List.mem_of_getElem? hx)
  have qz:=hk z (List.mem_of_getElem? hz)
  obtain⟨xa,xs,xb,xu,hxl⟩:=hl.ldAll kept_p hx (P:=Proofs.Tryz.prog) (t:=83) ag83 sz83
  obtain⟨za,zs,zb,zu,hzl⟩:=hl.ldAll kept_p hz (P:=Proofs.Tryz.prog) (t:=83) ag83 sz83
  obtain⟨cs1,hs1,_,_⟩:=id hl
  have eI:(i:Int)+(lag:Int)=((i+lag:Nat):Int):=by omega
  have X0:=Ext.refl h1
  have L10:load Proofs.Tryz.prog h1 103 (ptr (2*b) 0)=some s:=by
   have r:=row_of gb
   simp -dsimp (disch:=omega) only[wpS,ld103,r]
  have L12:load Proofs.Tryz.prog h1 3 (ptr (2*b2) 0)=some (KN lag):=by
   have r:=row_of gb2
   simp -dsimp (disch:=omega) only[wpS,ld3,r]
  have L17:load Proofs.Tryz.prog h1 83 (ptr (2*b) 1)=some (.agg #[a1,s1,b1,t1]):=by
   have r:=row_of gb
   simp -dsimp (disch:=omega) only[wpS,wpT,Nat.reduceLeDiff,Nat.reduceAdd,ld83,r]
   rfl
  simp -dsimp (disch:=omega) only[wpS,wpT,Nat.reduceEqDiff,f10]
  refine drawn [(10,[8]),(12,[8]),(15,[8]),(17,[8])] (by kernel_rfl) (by kernel_rfl) rfl ?_
  simp -dsimp (disch:=omega) only[wpS,wpT,Nat.reduceEqDiff,Nat.reduceLeDiff,Nat.reduceAdd,fa107_0,ld103,ld83,fa107_1,f0,f1,row_of gb,hs1.idx es103 (show i<l.length by omega),(hxl h1 (Keep.refl _)).1]
  refine call (rminus_ok (hxl h1 (Keep.refl _)).2 hcc qx hc (by omega)) ?_
  rintro r1 h2 ⟨X2,p1⟩
  have m2:=X2.n
  simp -dsimp (disch:=omega) only[wpS,wpT,Nat.reduceEqDiff,Nat.reduceLeDiff,Nat.reduceAdd,fa107_0,ld103,ld3,ld83,fa107_1,f1,f2,row_of (X2.kept nb gb),row_of (X2.kept nb2 gb2),eI,hs1.idx es103 (show i+lag<l.length by omega),(hzl h2 X2.keep).1]
  refine call (rminus_ok (hzl h2 X2.keep).2 (hcc.keep X2.keep) qz hc (by omega)) ?_
  rintro r2 h3 ⟨hE3,p2⟩
  have X3:=X2.trans hE3
  simp -dsimp (disch:=omega) only[wpS,Nat.reduceEqDiff]
  refine call (rtimes_ok (p1.keep hE3.keep) p2 (qx.sub hc) (qz.sub hc) hs) ?_
  rintro r3 h4 ⟨hE4,p3⟩
  have X4:=X3.trans hE4
  have e3:(x - c)*(z - c)=qpr l c lag i:=by rw[qpr,getD_of hx,getD_of hz]
  rw[e3] at p3
  simp -dsimp (disch:=omega) only[wpS,Nat.reduceEqDiff]
  refine call (step i h4 r3 hi (hJe _ _ _ hJ1 X4) p3) ?_
  rintro _ h5 ⟨rfl,hJ5⟩
  simp -dsimp (disch:=omega) only[wpS,wpT,Nat.reduceEqDiff]
  refine⟨wpSteady_c2 (wpSteady_one rfl rfl rfl rfl (steady_ext (H0:=h1) rfl (by omega) X2 X0 L10)) (wpSteady_c2 (wpSteady_one rfl rfl rfl rfl (steady_ext (H0:=h1) (b:=2*b2) (o:=0) f2 (by omega) X2 X0 L12)) (wpSteady_c2 (wpSteady_one rfl rfl rfl rfl (steady_load rfl (hzl h2 X2.keep).1 (hzl h1 (Keep.refl _)).1)) (wpSteady_one rfl rfl rfl rfl (steady_ext (H0:=h1) rfl (by omega) X2 X0 L17)))),?_⟩
  simp -dsimp (disch:=omega) only[wpS,wpT,Nat.reduceEqDiff,Nat.reduceAdd,f10]
  exact⟨m - 1,by omega,i+1,by omega,hJ5,by simp[f0],by simp[f1],by simp[f2],by simp[f9],by simp⟩
 ·obtain rfl:i=l.length - lag:=by omega
  simp -dsimp (disch:=omega) only[wpS,wpT]
  exact hD _ hJ1
theorem tk5' (a b c d e:Value):List.take 5 (List.drop 0 [a,b,c,d,e]) = [a,b,c,d,e]:=rfl
theorem products_ok {h:IH} {s a1 s1 b1 t1:Value} {lag:Nat} (o0:s.cells = #[s]) (o1:cellOK s=true) (o2:([a1,s1,b1,t1]:List Value).all cellOK=true) :
  WV Proofs.Tryz.prog (.func (.func 124) #[] #[]) [.agg #[s,a1,s1,b1,t1],KN lag] h fun r h'=>r=.func (.func 161) #[] #[ptr (2*h.n) 0,ptr (2*(h.n+1)) 0]∧h'=(h.new (.cells [s,a1,s1,b1,t1] 0 none)).new (.cells [KN lag] 0 none):=by
 refine enter (nt:=6) (rs:=[.tmp 4]) Proofs.Tryz.func124 rfl rfl rfl (by simp) ?_
 simp -dsimp (disch:=omega) only[wpS,wpT,Nat.reduceEqDiff,Nat.reduceAdd]
set_option maxHeartbeats 4000000 in
theorem auto_ok {h:IH} {v:Value} {l:List Rat} {c:Rat} {lag:Nat} (hv:RunIs h v l c) (hlag:lag<l.length) {kb kc:Nat} (hk : ∀q∈l,QB kb q) (hc:QB kc c) (hb:l.length*(kb+kc+1+(kb+kc+1)+1)+17<16000000) :
  WV Proofs.Tryz.prog (.func (.func 74) #[] #[]) [v,KN lag] h fun r h'=>Ext h h'∧PRat h' r (qauto l c lag):=by
 obtain⟨s,a1,s1,b1,t1,rfl,hs,hcc⟩:=hv
 obtain⟨cs0,hs0,_,hlen⟩:=id hs
 obtain⟨sc,so⟩:=hs.co
 obtain⟨_,_,_,_,hhe,_,_,_,o1,_,o2,o3,o4⟩:=hcc.parts
 cases hhe
 have hsm:kb+kc+1+(kb+kc+1)<16000000:=by
  have:1*(kb+kc+1+(kb+kc+1)+1)≤l.length*(kb+kc+1+(kb+kc+1)+1):=Nat.mul_le_mul_right _ (by omega)
  omega
 have hQ : ∀i,i≤l.length - lag→QB (i*(kb+kc+1+(kb+kc+1)+1)) (qsum ((qprods l c lag).take i)):=by
  intro i hi
  refine QB.qsum (fun q hq=>?_) i (by rw[qprods_len];exact hi)
  obtain⟨t,ht,rfl⟩:=List.mem_map.1 hq
  exact qpr_bits hk hc (by simp at ht;omega)
 refine enter (nt:=27) (rs:=[.cell 4 83]) Proofs.Tryz.func74 rfl rfl rfl (by simp) ?_
 simp -dsimp (disch:=omega) only[wpS,Nat.reduceEqDiff,Nat.reduceAdd,zc83]
 have E1:Ext h ((h.new (.cells [s,a1,s1,b1,t1] 0 none)).new (.cells ZR 0 none)):=((Ext.refl h).new _).new _
 have g0:((h.new (.cells [s,a1,s1,b1,t1] 0 none)).new (.cells ZR 0 none)).ext.get h.n=some (.cells [s,a1,s1,b1,t1] 0 none):=by simp (disch:=first|omega|(simp only[new_n,put_n];omega)|(repeat first|rw[new_n]|rw[put_n])) only[get_new_same,get_new_old]
 have g1:((h.new (.cells [s,a1,s1,b1,t1] 0 none)).new (.cells ZR 0 none)).ext.get (h.n+1)=some (.cells ZR 0 none):=by simp (disch:=first|omega|(simp only[new_n,put_n];omega)|(repeat first|rw[new_n]|rw[put_n])) only[get_new_same]
 refine call (rfrom_ok 0 ⟨by omega,by omega⟩) ?_
 rintro z h1 ⟨X1,p1⟩
 have m1:=X1.n
 simp only[new_n] at m1
 obtain⟨a3,s3,b3,t3,rfl,_,_,d1,q1,d2,q2,q3,q4⟩:=p1.parts
 have k0:=X1.kept (by simp<;>omega) g0
 have k1:=X1.kept (by simp) g1
 simp -dsimp (disch:=omega) only[wpS,wpT,Nat.reduceEqDiff,Nat.reduceLeDiff,Nat.reduceAdd,zc83,st83,fa107_0,ld103,ld107,q1,q2,q3,q4,row_of k0,hs0.len sl103,tk5']
 obtain⟨H2,hH2⟩ : ∃H2,H2=(h1.new (.cells ZR 0 none)).put h1.n (.cells [a3,s3,b3,t3] 0 none):=⟨_,rfl⟩
 have e2:Ext h1 H2:=by rw[hH2];exact((Ext.refl _).new _).put (Nat.le_refl _) _
 have n2:H2.n=h1.n+1:=by rw[hH2];rfl
 have gs:H2.ext.get h1.n=some (.cells [a3,s3,b3,t3] 0 none):=by rw[hH2];simp (disch:=first|omega|(simp only[new_n,put_n];omega)|(repeat first|rw[new_n]|rw[put_n])) only[get_put_same]
 have j0:=e2.kept (by omega) k0
 have j1:=e2.kept (by omega) k1
 have E2:=(E1.trans X1).trans e2
 have p2:=p1.keep e2.keep
 rw[←hH2]
 clear hH2 k0 k1 g0 g1
 refine call (products_ok sc so (by simp[o1,o2,o3,o4])) ?_
 rintro _ _ ⟨rfl,rfl⟩
 simp -dsimp (disch:=omega) only[wpS]
 have E3:Ext H2 ((H2.new (.cells [s,a1,s1,b1,t1] 0 none)).new (.cells [KN lag] 0 none)):=((Ext.refl _).new _).new _
 have gr:((H2.new (.cells [s,a1,s1,b1,t1] 0 none)).new (.cells [KN lag] 0 none)).ext.get H2.n=some (.cells [s,a1,s1,b1,t1] 0 none):=by simp (disch:=first|omega|(simp only[new_n,put_n];omega)|(repeat first|rw[new_n]|rw[put_n])) only[get_new_same,get_new_old]
 have gl:((H2.new (.cells [s,a1,s1,b1,t1] 0 none)).new (.cells [KN lag] 0 none)).ext.get (H2.n+1)=some (.cells [KN lag] 0 none):=by simp (disch:=first|omega|(simp only[new_n,put_n];omega)|(repeat first|rw[new_n]|rw[put_n])) only[get_new_same]
 obtain⟨H3,hH3⟩ : ∃H3,H3=(H2.new (.cells [s,a1,s1,b1,t1] 0 none)).new (.cells [KN lag] 0 none):=⟨_,rfl⟩
 have n3:H3.n=H2.n+2:=by rw[hH3];rfl
 rw[←hH3] at E3 gr gl ⊢
 clear hH3
 refine range2 (p:=17) (nt:=27) rfl rfl (by decide) (fun r y hfn hnt hbd hy=>?_)
 have E3':=E2.trans E3
 let J:Nat→IH→Prop:=fun i hh=>Ext h hh∧H3.n<hh.n∧hh.ext.get H3.n=some (.loop r)∧hh.ext.get H2.n=some (.cells [s,a1,s1,b1,t1] 0 none)∧hh.ext.get (H2.n+1)=some (.cells [KN lag] 0 none)∧hh.ext.get h.n=some (.cells [s,a1,s1,b1,t1] 0 none)∧hh.ext.get (h.n+1)=some (.cells ZR 0 none) ∧
  ∃a s b t,hh.ext.get h1.n=some (.cells [a,s,b,t] 0 none)∧PRat hh (.agg #[a,s,b,t]) (qsum ((qprods l c lag).take i))
 have J0:J 0 (H3.new (.loop r)):=by
  refine⟨E3'.new _,by simp,get_new_same _ _ rfl,?_,?_,?_,?_,a3,s3,b3,t3,?_,p2.keep (E3.new _).keep⟩
  ·rw[get_new_old _ _ (by omega)];exact gr
  ·rw[get_new_old _ _ (by omega)];exact gl
  ·rw[get_new_old _ _ (by omega)];exact E3.kept (by omega) j0
  ·rw[get_new_old _ _ (by omega)];exact E3.kept (by omega) j1
  ·rw[get_new_old _ _ (by omega)];exact E3.kept (by omega) gs
 have Je : ∀i h h',J i h→Ext h h'→J i h':=by
  rintro i x x' ⟨a1,a2,a3,a4,a5,a6,a7,a,s,b,t,a8,a9⟩ e
  have en:=e.n
  exact⟨a1.trans e,by omega,e.kept a2 a3,e.kept (by omega) a4,e.kept (by omega) a5,e.kept (by omega) a6,e.kept (by omega) a7,a,s,b,t,e.kept (by omega) a8,a9.keep e.keep⟩
 refine products1_ok (b:=H2.n) (b2:=H2.n+1) (lag:=lag) (l:=l) (c:=c) (s:=s) (a1:=a1) (s1:=s1) (b1:=b1) (t1:=t1) J _ hlag hk hc hsm ?_ Je J0 ?_ ?_
 ·rintro i x ⟨x1,x2,x3,x4,x5,x6,x7,_⟩
  exact⟨by omega,by omega,x4,x5,hs.keep kept_p x1.keep,hcc.keep x1.keep⟩
 ·rintro hd ⟨x1,x2,x3,x4,x5,x6,x7,a4,s4,b4,t4,x8,x9⟩
  refine .inl ⟨x3,?_⟩
  have m0:=E3'.n
  have hdd : ∀j,j≠H3.n→(hd.put H3.n .dead).ext.get j=hd.ext.get j:=fun j hj=>get_put_old _ _ hj
  have kd:Keep hd (hd.put H3.n .dead):=(Keep.refl hd).putAny (by rintro c e f hc;rw[x3] at hc;cases hc) _
  have ed:Ext h (hd.put H3.n .dead):=x1.put (by omega) _
  have d1:(hd.put H3.n .dead).ext.get h.n=some (.cells [s,a1,s1,b1,t1] 0 none):=by rw[hdd _ (by omega)];exact x6
  have d2:(hd.put H3.n .dead).ext.get (h.n+1)=some (.cells ZR 0 none):=by rw[hdd _ (by omega)];exact x7
  have d3:(hd.put H3.n .dead).ext.get h1.n=some (.cells [a4,s4,b4,t4] 0 none):=by rw[hdd _ (by omega)];exact x8
  have dn:(hd.put H3.n .dead).n=hd.n:=rfl
  have d4:=x9.keep kd
  obtain⟨K0,hK0⟩ : ∃K0,K0=hd.put H3.n .dead:=⟨_,rfl⟩
  rw[←hK0] at kd ed d1 d2 d3 dn d4 ⊢
  clear hK0 hdd
  rw[show(qprods l c lag).take (l.length - lag)=qprods l c lag from List.take_of_length_le (by rw[qprods_len];omega)] at d4
  have X0:=Ext.refl K0
  obtain⟨_,_,L1⟩:=pl4 d3
  simp -dsimp (disch:=omega) only[wpS]
  refine drawn [(0,[5])] (by kernel_rfl) (by kernel_rfl) rfl ?_
  simp -dsimp (disch:=omega) only[wpS,wpT,Nat.reduceEqDiff,Nat.reduceLeDiff,Nat.reduceAdd,fa107_0,ld103,ld83,row_of d1,row_of d3,hs0.len sl103,tk4']
  refine call (rfrom_ok (l.length:Int) ⟨by omega,by omega⟩) ?_
  rintro r6 h6 ⟨X6,p6⟩
  have m6:=X6.n
  simp -dsimp (disch:=omega) only[wpS,Nat.reduceEqDiff]
  have hQl:=hQ (l.length - lag) (Nat.le_refl _)
  rw[show(qprods l c lag).take (l.length - lag)=qprods l c lag from List.take_of_length_le (by rw[qprods_len];omega)] at hQl
  have hb6:(l.length - lag)*(kb+kc+1+(kb+kc+1)+1)+17<16000000:=by
   have:(l.length - lag)*(kb+kc+1+(kb+kc+1)+1)≤l.length*(kb+kc+1+(kb+kc+1)+1):=Nat.mul_le_mul_right _ (by omega)
   omega
  refine call (rover_ok (d4.keep X6.keep) p6 hQl (qlen_bits hlen) hb6 (qlen_ne (by intro h0;rw[h0] at hlag;simp at hlag))) ?_
  rintro r7 h7 ⟨X7,p7⟩
  have m7:=X7.n
  obtain⟨_,_,_,_,rfl,_,_,_,v1,_,v2,v3,v4⟩:=p7.parts
  have kg:=X7.kept (by omega) (X6.kept (by omega) d2)
  have X67:=X6.trans X7
  simp -dsimp (disch:=omega) only[wpS,wpT,Nat.reduceEqDiff,Nat.reduceLeDiff,Nat.reduceAdd,st83,kg,v1,v2,v3,v4]
  refine⟨by repeat' first|refine wpSteady_c2 ?_ ?_|refine wpSteady_t2 ?_ ?_|exact wpSteady_one rfl rfl rfl rfl (steady_ext (H0:=K0) rfl (by omega) (by assumption) (by assumption) (by with_reducible assumption)),?_⟩
  simp -dsimp (disch:=omega) only[wpS,wpT,Nat.reduceEqDiff,Nat.reduceLeDiff,Nat.reduceAdd,ld83,tk4']
  exact⟨(ed.trans X67).put (by omega) _,p7.keep ((Keep.refl _).put kg _)⟩
 ·rintro i x w hi ⟨x1,x2,x3,x4,x5,x6,x7,a4,s4,b4,t4,x8,x9⟩ hw
  obtain⟨wa,ws,wb,wt,rfl,_,_,_,u1,_,u2,u3,u4⟩:=hw.parts
  refine hy _ x _ x3 ?_
  simp -dsimp (disch:=omega) only[wpS,wpT,Nat.reduceEqDiff,Nat.reduceLeDiff,Nat.reduceAdd,zc83,st83,u1,u2,u3,u4]
  obtain⟨H5,hH5⟩ : ∃H5,H5=(x.new (.cells ZR 0 none)).put x.n (.cells [wa,ws,wb,wt] 0 none):=⟨_,rfl⟩
  have e5:Ext x H5:=by rw[hH5];exact((Ext.refl _).new _).put (Nat.le_refl _) _
  have n5:H5.n=x.n+1:=by rw[hH5];rfl
  have gw:H5.ext.get x.n=some (.cells [wa,ws,wb,wt] 0 none):=by rw[hH5];simp (disch:=first|omega|(simp only[new_n,put_n];omega)|(repeat first|rw[new_n]|rw[put_n])) only[get_put_same]
  rw[←hH5]
  clear hH5
  obtain⟨y1,y2,y3,y4,y5,y6,y7,a5,s5,b5,t5,y8,y9⟩:=Je i x H5 ⟨x1,x2,x3,x4,x5,x6,x7,a4,s4,b4,t4,x8,x9⟩ e5
  refine⟨rfl,y3,?_⟩
  rw[hfn,hnt,hbd]
  have m0:=E3'.n
  have kb1:Keep H5 (H5.put H3.n (.loop (busyL r))):=(Keep.refl _).putAny (by rintro c e f hc;rw[y3] at hc;cases hc) _
  have eb:Ext h (H5.put H3.n (.loop (busyL r))):=y1.put (by omega) _
  have z0 : ∀j,j≠H3.n→(H5.put H3.n (.loop (busyL r))).ext.get j=H5.ext.get j:=fun j hj=>get_put_old _ _ hj
  have zl:(H5.put H3.n (.loop (busyL r))).ext.get H3.n=some (.loop (busyL r)):=get_put_same _ _ rfl
  have z8:=(z0 h1.n (by omega)).trans y8
  have zw:=(z0 x.n (by omega)).trans gw
  have z4:=(z0 H2.n (by omega)).trans y4
  have z5:=(z0 (H2.n+1) (by omega)).trans y5
  have z6:=(z0 h.n (by omega)).trans y6
  have z7:=(z0 (h.n+1) (by omega)).trans y7
  have zn:(H5.put H3.n (.loop (busyL r))).n=H5.n:=rfl
  have w9:=y9.keep kb1
  have ww:=(hw.keep e5.keep).keep kb1
  obtain⟨K0,hK0⟩ : ∃K0,K0=H5.put H3.n (.loop (busyL r)):=⟨_,rfl⟩
  rw[←hK0] at kb1 eb zl z8 zw z4 z5 z6 z7 zn w9 ww ⊢
  clear hK0 z0
  simp -dsimp (disch:=omega) only[wpS,wpT,Nat.reduceEqDiff,Nat.reduceLeDiff,Nat.reduceAdd,ld83,row_of z8,row_of zw,tk4']
  have hib:i*(kb+kc+1+(kb+kc+1)+1)+(kb+kc+1+(kb+kc+1))+1<16000000:=by
   have:(i+1)*(kb+kc+1+(kb+kc+1)+1)≤l.length*(kb+kc+1+(kb+kc+1)+1):=Nat.mul_le_mul_right _ (by omega)
   rw[Nat.add_mul] at this;omega
  refine call (rplus_ok w9 ww (hQ i (by omega)) (qpr_bits hk hc (by omega)) hib) ?_
  rintro r7 h7 ⟨X7,p7⟩
  have m7:=X7.n
  rw[show qsum ((qprods l c lag).take i)+qpr l c lag i=qsum ((qprods l c lag).take (i+1)) by rw[take_snoc (qprods_at hi),qsum_snoc]] at p7
  obtain⟨a7,s7,b7,t7,rfl,_,_,_,v1,_,v2,v3,v4⟩:=p7.parts
  have q8:=X7.kept (by omega) z8
  simp -dsimp (disch:=omega) only[wpS,wpT,Nat.reduceEqDiff,Nat.reduceLeDiff,Nat.reduceAdd,st83,q8,v1,v2,v3,v4]
  have ql:=X7.kept (by omega) zl
  refine⟨by simp (disch:=first|omega|(simp only[new_n,put_n];omega)|(repeat first|rw[new_n]|rw[put_n])) only[get_put_old];exact ql,?_⟩
  show _∧J (i+1) _
  refine⟨rfl,((eb.trans X7).put (by omega) _).put (by omega) _,by simp only[put_n];omega,get_put_same _ _ rfl,by simp (disch:=first|omega|(simp only[new_n,put_n];omega)|(repeat first|rw[new_n]|rw[put_n])) only[get_put_old];exact X7.kept (by omega) z4,by simp (disch:=first|omega|(simp only[new_n,put_n];omega)|(repeat first|rw[new_n]|rw[put_n])) only[get_put_old];exact X7.kept (by omega) z5,by simp (disch:=first|omega|(simp only[new_n,put_n];omega)|(repeat first|rw[new_n]|rw[put_n])) only[get_put_old];exact X7.kept (by omega) z6,by simp (disch:=first|omega|(simp only[new_n,put_n];omega)|(repeat first|rw[new_n]|rw[put_n])) only[get_put_old];exact X7.kept (by omega) z7,a7,s7,b7,t7,by simp (disch:=first|omega|(simp only[new_n,put_n];omega)|(repeat first|rw[new_n]|rw[put_n])) only[get_put_same,get_put_old],?_⟩
  exact p7.keep (((Keep.refl h7).put q8 _).putAny (by rintro c e f hc;rw[get_put_old _ _ (by omega),ql] at hc;cases hc) _)
end Go.Id

/-! The greater and the lesser of two integers. -/
namespace Go.Id
open Go
theorem max_ii (P:Program) (h:IH) (ts:Array TypeId) (k:IntKind) (a b:Int):builtin P h .max ts [.int k a,.int k b]=some (.int k (if a<b then b else a),h):=by
 have h1:pureRun P (Builtin.max_ ts 0 #[.int k a,.int k b])=some (.int k (if a<b then b else a)):=by
  unfold Builtin.max_
  simp
  rfl
 show(bif [Value.int k a,Value.int k b].all plain then (pureVal P (Builtin.max_ ts 0 #[.int k a,.int k b])).map (·,h) else none)=_
 simp only[pureVal,h1]
 rfl
theorem min_ii (P:Program) (h:IH) (ts:Array TypeId) (k:IntKind) (a b:Int):builtin P h .min ts [.int k a,.int k b]=some (.int k (if b<a then b else a),h):=by
 have h1:pureRun P (Builtin.min_ ts 0 #[.int k a,.int k b])=some (.int k (if b<a then b else a)):=by
  unfold Builtin.min_
  simp
  rfl
 show(bif [Value.int k a,Value.int k b].all plain then (pureVal P (Builtin.min_ ts 0 #[.int k a,.int k b])).map (·,h) else none)=_
 simp only[pureVal,h1]
 rfl
end Go.Id

/-! Contracts: slices.Chunk. -/
namespace Go.Id
open Go
theorem SlOf.slice3 {h h':IH} {sz:Nat} {v:Value} {n:Nat} {cs:List Value} (s:SlOf h sz v n cs) {P:Program} {t:TypeId} {e:TypeId} (hu:P.underlying t=some (.slice e)) (hT:sizeT P e=some sz) {l m:Nat} (hl:l<m) (hm:m≤n) {k1 k2 k3:IntKind} :
  ∃v',sliceOp P h' t v (some (.int k1 (l:Int))) (some (.int k2 (m:Int))) (some (.int k3 (m:Int)))=some v'∧SlOf h sz v' (m - l) ((cs.drop (l*sz)).take ((m - l)*sz)):=by
 obtain⟨hz,hlen,⟨rfl,rfl⟩|⟨b,o,k,rfl,s⟩⟩:=s
 ·omega
 ·obtain⟨rfl,rfl⟩|⟨a1,a2,row,a3,h1,h2,h3⟩:=s
  ·omega
  ·have hk0:(k == 0)=false:=by simp;omega
   have b1:natOf (.int k3 (m:Int)) (k / 2)=some m:=natOf_nat (by omega)
   have b2:natOf (.int k2 (m:Int)) m=some m:=natOf_nat (Nat.le_refl _)
   have b3:natOf (.int k1 (l:Int)) m=some l:=natOf_nat (by omega)
   have hlm:(l == m)=false:=by simp;omega
   have hls:l*sz+(m - l)*sz=m*sz:=by rw[←Nat.add_mul];congr 1;omega
   have hmn:m*sz≤n*sz:=Nat.mul_le_mul_right _ hm
   refine⟨.slice (some ⟨b,o+l*sz,none⟩) (m - l) (2*(m - l)+1),?_,hz,?_,.inr ⟨b,o+l*sz,2*(m - l)+1,rfl,.inr ⟨by omega,by omega,row,?_,h1,?_,by omega⟩⟩⟩
   ·simp only[sliceOp,hu,hT,resliced,boundsOf,b1,b2,loOf,b3,hk0,hlm,cond_false]
   ·rw[List.length_take,List.length_drop];omega
   ·rcases a3 with a3|a3
    ·exact .inl ⟨a3.1,by omega⟩
    ·exact .inr a3
   ·rw[←h2,List.drop_take,List.take_take,List.drop_drop,Nat.min_eq_left (by omega)]
theorem ElSl.part {R:IH→Value→Rat→Prop} {h h':IH} {v:Value} {l:List Rat} (s:ElSl R h v l) {P:Program} {t e:TypeId} (hu:P.underlying t=some (.slice e)) (hT:sizeT P e=some 4) {i m:Nat} (hi:i<m) (hm:m≤l.length) :
  ∃v',sliceOp P h' t v (some (.int .i64 (i:Int))) (some (.int .i64 (m:Int))) (some (.int .i64 (m:Int)))=some v'∧ElSl R h v' ((l.drop i).take (m - i)):=by
 obtain⟨cs,hs,hc,hl⟩:=s
 obtain⟨v',e1,e2⟩:=hs.slice3 (h':=h') (k1:=.i64) (k2:=.i64) (k3:=.i64) hu hT hi hm
 have hlen:((l.drop i).take (m - i)).length=m - i:=by simp;omega
 exact⟨v',e1,_,by rw[hlen];exact e2,hc.drop.take,by omega⟩
theorem chunk_ok {h:IH} {s:Value} {sz:Nat} (o0:s.cells = #[s]) (h1:1≤sz) :
  WV Proofs.Tryz.prog (.func (.func 70) #[] #[]) [s,KN sz] h fun r h'=>r=.func (.func 121) #[] #[ptr (2*h.n) 0,ptr (2*(h.n+1)) 0]∧h'=(h.new (.cells [s] 0 none)).new (.cells [KN sz] 0 none):=by
 have c1:decide ((sz:Int)<1)=false:=decide_eq_false (by omega)
 refine enter (nt:=9) (rs:=[.tmp 4]) Proofs.Tryz.func70 rfl rfl rfl (by simp) ?_
 simp -dsimp (maxSteps:=1000000) (disch:=first|omega|(simp only[new_n,put_n];omega)|decide +kernel|(repeat first|rw[new_n]|rw[put_n])) only[wpS,wpT,Nat.reduceEqDiff,Nat.reduceAdd,ld3,o0,c1]
set_option maxHeartbeats 2000000 in
theorem chunk1_ok {h:IH} {y:Value} {l:List Rat} {b b2 sz:Nat} {s:Value} (hsz:1≤sz) (hb:sz≤100000) (J:Nat→IH→Prop) (D:IH→Prop)
  (hJ : ∀i h,J i h→h.ext.get b=some (.cells [s] 0 none)∧h.ext.get b2=some (.cells [KN sz] 0 none)∧ElSl PRat h s l) (h0:J 0 h) (hD : ∀i h,l.length≤i→J i h→D h)
  (step : ∀i h w,i<l.length→J i h→ElSl PRat h w ((l.drop i).take (min sz (l.length - i)))→WV Proofs.Tryz.prog y [w] h fun r h'=>(r=.bool true∧J (i+sz) h')∨(r=.bool false∧D h')) :
  WV Proofs.Tryz.prog (.func (.func 121) #[] #[ptr (2*b) 0,ptr (2*b2) 0]) [y] h fun _ h'=>D h':=by
 refine enter (nt:=31) (rs:=[]) Proofs.Tryz.func121 rfl rfl rfl (by simp) ?_
 simp -dsimp (maxSteps:=1000000) (disch:=first|omega|(simp only[new_n,put_n];omega)|decide +kernel|(repeat first|rw[new_n]|rw[put_n])) only[wpS,Nat.reduceAdd]
 refine loop (fun m fr h1 => ∃i:Nat,l.length≤i+m∧i≤300000∧J i h1∧fget fr 0=some y∧fget fr 1=some (ptr (2*b) 0)∧fget fr 2=some (ptr (2*b2) 0)∧fget fr 4=some (KN i)) l.length
  ⟨0,by omega,by omega,h0,by simp,by simp,by simp,by simp⟩ ?_
 rintro m fr h1 ⟨i,him,hib,hJ1,f0,f1,f2,f4⟩
 obtain⟨g1,g2,hs⟩:=hJ i h1 hJ1
 obtain⟨cs,hs0,_,hlb⟩:=id hs
 simp -dsimp (maxSteps:=1000000) (disch:=first|omega|(simp only[new_n,put_n];omega)|decide +kernel|(repeat first|rw[new_n]|rw[put_n])) only[wpS,Nat.reduceEqDiff,ld103,f1,f4,row_of g1,hs0.len sl103]
 refine bq_intro ?_ ?_<;>intro hc<;>simp only[decide_eq_true_eq,decide_eq_false_iff_not] at hc
 ·have hi:i<l.length:=by omega
  obtain⟨w0,hw0,hsl0⟩:=hs0.slice (h':=h1) (Keep.refl _) u103 sz83 (l:=i) (m:=l.length) (by omega) (Nat.le_refl _) (lo:=some (KN i)) (hi:=none) (natOf_nat (k:=.i64) (by omega)) (fun c hc=>rfl)
  have hmin:(if ((l.length - i:Nat):Int)<(sz:Int) then ((l.length - i:Nat):Int) else (sz:Int))=((min sz (l.length - i):Nat):Int):=by split<;>omega
  have eA:(i:Int)+((min sz (l.length - i):Nat):Int)=((i+min sz (l.length - i):Nat):Int):=by omega
  obtain⟨w1,hw1,hp⟩:=hs.part (h':=h1) (P:=Proofs.Tryz.prog) (t:=103) u103 sz83 (i:=i) (m:=i+min sz (l.length - i)) (by omega) (by omega)
  rw[Nat.add_sub_cancel_left] at hp
  simp -dsimp (maxSteps:=1000000) (disch:=first|omega|(simp only[new_n,put_n];omega)|decide +kernel|(repeat first|rw[new_n]|rw[put_n])) only[wpS,wpT,Nat.reduceEqDiff,ld103,ld3,f0,f1,f2,f4,row_of g1,row_of g2,hw0,hsl0.len sl103,min_ii,hmin,eA,hw1]
  refine call (step i h1 w1 hi hJ1 hp) ?_
  rintro r h2 (⟨rfl,hJ2⟩|⟨rfl,hD2⟩)
  ·obtain⟨q1,q2,_⟩:=hJ _ _ hJ2
   simp -dsimp (maxSteps:=1000000) (disch:=first|omega|(simp only[new_n,put_n];omega)|decide +kernel|(repeat first|rw[new_n]|rw[put_n])) only[wpS,wpT,Nat.reduceEqDiff,ld3,f2,f4,row_of q2]
   exact⟨m - sz,by omega,i+sz,by omega,by omega,hJ2,by simp[f0],by simp[f1],by simp[f2],by simp⟩
  ·simp -dsimp (maxSteps:=1000000) (disch:=first|omega|(simp only[new_n,put_n];omega)|decide +kernel|(repeat first|rw[new_n]|rw[put_n])) only[wpS,wpT,Nat.reduceEqDiff]
   exact hD2
 ·simp -dsimp (maxSteps:=1000000) (disch:=first|omega|(simp only[new_n,put_n];omega)|decide +kernel|(repeat first|rw[new_n]|rw[put_n])) only[wpS,wpT]
  exact hD i _ (by omega) hJ1
end Go.Id

/-! Contracts: package diagnose: Mean, Auto. -/
namespace Go.Id
open Go
noncomputable def toldV (q:Rat):Value:=open Classical in if QW q then .tuple #[shareV q,KI 0] else .tuple #[shV 0 0,KI 6]
theorem toldV_form (q:Rat) : ∃n d e,toldV q=.tuple #[shV n d,KI e]:=by
 unfold toldV
 by_cases h:QW q
 ·exact⟨_,_,0,by rw[if_pos h]⟩
 ·exact⟨0,0,6,by rw[if_neg h]⟩
abbrev errV (e:Int):Value:=.tuple #[shV 0 0,KI e]
theorem chErr_iff {l:List (Nat×Nat)}:chErr l=0↔l.length≤200∧allOk l∧l ≠ []:=by
 unfold chErr
 constructor
 ·intro h
  split at h
  ·omega
  ·split at h
   ·omega
   ·split at h
    ·omega
    ·rename_i h1 h2 h3
     exact⟨by omega,Classical.not_not.1 h2,fun h0=>h3 (by rw[h0];rfl)⟩
 ·rintro⟨h1,h2,h3⟩
  rw[if_neg (by omega),if_neg (by simpa using h2),if_neg (fun h=>h3 (List.length_eq_zero_iff.1 h))]
theorem chErr_range (l:List (Nat×Nat)):0≤chErr l∧chErr l≤20:=by
 unfold chErr
 split
 ·omega
 ·split
  ·omega
  ·split<;>omega
noncomputable def meanRes (l:List (Nat×Nat)):Value:=if chErr l=0 then toldV (qmean (l.map rOf)) else errV (chErr l)
noncomputable def autoRes (l:List (Nat×Nat)) (lag:Int):Value:=if chErr l=0 then (if 0≤lag∧lag<l.length then toldV (qauto (l.map rOf) (qmean (l.map rOf)) lag.toNat) else errV 2) else errV (chErr l)
abbrev mBits (n k:Nat):Nat:=n*(k+1)+17
abbrev aBits (n k:Nat):Nat:=n*(k+mBits n k+1+(k+mBits n k+1)+1)+17
theorem mle_a (n k:Nat):mBits n k≤aBits n k:=by
 have:n*(k+1)≤n*(k+mBits n k+1+(k+mBits n k+1)+1):=Nat.mul_le_mul_left _ (by omega)
 unfold aBits mBits at *
 omega
set_option maxHeartbeats 1000000 in
theorem dgMean_ok {h:IH} {v:Value} {l:List (Nat×Nat)} (hv:ShSl h v l) {k:Nat} (hk:allOk l → ∀q∈l.map rOf,QB k q) (hb:l.length≤200→mBits l.length k<16000000) :
  WV Proofs.Tryz.prog (.func (.func 21) #[] #[]) [v] h fun r h'=>Ext h h'∧r=meanRes l:=by
 have her:=chErr_range l
 refine enter (nt:=18) (rs:=[.cell 2 30,.tmp 3]) Proofs.Tryz.func21 rfl rfl rfl (by simp) ?_
 simp -dsimp (disch:=omega) only[wpS,Nat.reduceEqDiff,zc30]
 have E1:Ext h (h.new (.cells Z16 0 none)):=(Ext.refl h).new _
 have g1:(h.new (.cells Z16 0 none)).ext.get h.n=some (.cells Z16 0 none):=by simp (disch:=first|omega|(simp only[new_n,put_n];omega)|(repeat first|rw[new_n]|rw[put_n])) only[get_new_same]
 refine call (dgcheck_ok (hv.keep E1.keep)) ?_
 rintro _ h1 ⟨X1,rfl⟩
 have m1:=X1.n
 simp only[new_n] at m1
 have k1:=X1.kept (by simp) g1
 unfold meanRes
 by_cases he:chErr l=0
 ·rw[if_pos he,he]
  obtain⟨e1,e2,e3⟩:=chErr_iff.1 he
  simp -dsimp (disch:=omega) only[wpS,wpT,Nat.reduceEqDiff]
  refine call (chain_ok (hv.keep (E1.trans X1).keep) e2 (by omega) e3 (hk e2) (hb e1)) ?_
  rintro _ h2 ⟨X2,s,a1,s1,b1,t1,rfl,hs,hc⟩
  have m2:=X2.n
  simp -dsimp (disch:=omega) only[wpS,Nat.reduceEqDiff,fp107_0,Bool.false_eq_true]
  refine call (mean_ok hs (by simpa using e3) (hk e2) (by rw[List.length_map];exact hb e1)) ?_
  rintro r3 h3 ⟨X3,p3⟩
  have m3:=X3.n
  simp -dsimp (disch:=omega) only[wpS,Nat.reduceEqDiff]
  refine call (rtold_ok p3) ?_
  rintro _ h4 ⟨X4,rfl⟩
  have m4:=X4.n
  have kg:=X4.kept (by omega) (X3.kept (by omega) (X2.kept (by omega) k1))
  obtain⟨n,d,e,hf⟩:=toldV_form (qmean (l.map rOf))
  have hf':=hf
  unfold toldV at hf'
  rw[hf',hf]
  simp -dsimp (disch:=omega) only[wpS,wpT,Nat.reduceEqDiff,Nat.reduceLeDiff,Nat.reduceAdd,st30,ld30,kg,shV_cells,shC_len,shC_all,sh_sp3,sh_take]
  exact⟨((((E1.trans X1).trans X2).trans X3).trans X4).put (by omega) _,rfl⟩
 ·rw[if_neg he]
  have he':(chErr l == 0)=false:=by simpa using he
  simp -dsimp (disch:=omega) only[wpS,wpT,Nat.reduceEqDiff,Nat.reduceLeDiff,Nat.reduceAdd,bv30,st30,ld30,k1,sh_tz]
  exact⟨(E1.trans X1).put (by omega) _,by rw[sh_zeroV]⟩
set_option maxHeartbeats 1000000 in
theorem dgAuto_ok {h:IH} {v:Value} {l:List (Nat×Nat)} {lag:Int} (hv:ShSl h v l) {k:Nat} (hk:allOk l → ∀q∈l.map rOf,QB k q) (hb:l.length≤200→aBits l.length k<16000000) :
  WV Proofs.Tryz.prog (.func (.func 23) #[] #[]) [v,KI lag] h fun r h'=>Ext h h'∧r=autoRes l lag:=by
 have her:=chErr_range l
 refine enter (nt:=29) (rs:=[.cell 4 30,.tmp 5]) Proofs.Tryz.func23 rfl rfl rfl (by simp) ?_
 simp -dsimp (disch:=omega) only[wpS,Nat.reduceEqDiff,Nat.reduceAdd,zc30]
 have E1:Ext h (h.new (.cells Z16 0 none)):=(Ext.refl h).new _
 have g1:(h.new (.cells Z16 0 none)).ext.get h.n=some (.cells Z16 0 none):=by simp (disch:=first|omega|(simp only[new_n,put_n];omega)|(repeat first|rw[new_n]|rw[put_n])) only[get_new_same]
 refine call (dgcheck_ok (hv.keep E1.keep)) ?_
 rintro _ h1 ⟨X1,rfl⟩
 have m1:=X1.n
 simp only[new_n] at m1
 have k1:=X1.kept (by simp) g1
 unfold autoRes
 by_cases he:chErr l=0
 ·rw[if_pos he,he]
  obtain⟨e1,e2,e3⟩:=chErr_iff.1 he
  by_cases hl:0≤lag∧lag<l.length
  ·rw[if_pos hl]
   obtain⟨j,rfl⟩:=Int.eq_ofNat_of_zero_le hl.1
   have hj:j<l.length:=by omega
   have c1:decide ((j:Int)<0)=false:=decide_eq_false (by omega)
   have c2:decide ((l.length:Int)≤(j:Int))=false:=decide_eq_false (by omega)
   simp -dsimp (disch:=omega) only[wpS,wpT,Nat.reduceEqDiff,hv.1.len sl25,c1,c2]
   refine call (chain_ok (hv.keep (E1.trans X1).keep) e2 (by omega) e3 (hk e2) (Nat.lt_of_le_of_lt (mle_a _ _) (hb e1))) ?_
   rintro r2 h2 ⟨X2,hr⟩
   have m2:=X2.n
   simp -dsimp (disch:=omega) only[wpS,Nat.reduceEqDiff]
   have hmb:=qmean_bits (l:=l.map rOf) (by simpa using e3) (by simp;omega) (hk e2)
   rw[List.length_map] at hmb
   refine call (auto_ok hr (by rw[List.length_map];exact hj) (hk e2) hmb (by rw[List.length_map];exact hb e1)) ?_
   rintro r3 h3 ⟨X3,p3⟩
   have m3:=X3.n
   simp -dsimp (disch:=omega) only[wpS,Nat.reduceEqDiff]
   refine call (rtold_ok p3) ?_
   rintro _ h4 ⟨X4,rfl⟩
   have m4:=X4.n
   have kg:=X4.kept (by omega) (X3.kept (by omega) (X2.kept (by omega) k1))
   rw[Int.toNat_natCast]
   obtain⟨n,d,e,hf⟩:=toldV_form (qauto (l.map rOf) (qmean (l.map rOf)) j)
   have hf':=hf
   unfold toldV at hf'
   rw[hf',hf]
   simp -dsimp (disch:=omega) only[wpS,wpT,Nat.reduceEqDiff,Nat.reduceLeDiff,Nat.reduceAdd,st30,ld30,kg,shV_cells,shC_len,shC_all,sh_sp3,sh_take]
   exact⟨((((E1.trans X1).trans X2).trans X3).trans X4).put (by omega) _,rfl⟩
  ·rw[if_neg hl]
   by_cases hneg:lag<0
   ·have c1:decide (lag<0)=true:=decide_eq_true hneg
    simp -dsimp (disch:=omega) only[wpS,wpT,Nat.reduceEqDiff,Nat.reduceLeDiff,Nat.reduceAdd,bv30,st30,ld30,c1,k1,sh_tz]
    exact⟨(E1.trans X1).put (by omega) _,by rw[sh_zeroV]⟩
   ·have c1:decide (lag<0)=false:=decide_eq_false hneg
    have c2:decide ((l.length:Int)≤lag)=true:=decide_eq_true (by omega)
    simp -dsimp (disch:=omega) only[wpS,wpT,Nat.reduceEqDiff,Nat.reduceLeDiff,Nat.reduceAdd,bv30,st30,ld30,hv.1.len sl25,c1,c2,k1,sh_tz]
    exact⟨(E1.trans X1).put (by omega) _,by rw[sh_zeroV]⟩
 ·rw[if_neg he]
  have he':(chErr l == 0)=false:=by simpa using he
  simp -dsimp (disch:=omega) only[wpS,wpT,Nat.reduceEqDiff,Nat.reduceLeDiff,Nat.reduceAdd,bv30,st30,ld30,k1,sh_tz]
  exact⟨(E1.trans X1).put (by omega) _,by rw[sh_zeroV]⟩
end Go.Id

/-! Contracts: package diagnose: Batches. -/
namespace Go.Id
open Go
def shOf (q:Rat):Nat×Nat:=(wideN q.num,wideN (q.den:Int))
theorem shOf_lt {q:Rat} (h:QW q):(shOf q).1<W8∧(shOf q).2<W8:=⟨wideN_lt h.1,wideN_lt h.2⟩
def bmean (l:List Rat) (sz j:Nat):Rat:=qmean ((l.drop (j*sz)).take sz)
def bmeans (l:List Rat) (sz:Nat):List Rat:=(List.range (l.length / sz)).map (bmean l sz)
noncomputable def batErr (l:List (Nat×Nat)) (sz:Int):Int:=open Classical in if chErr l=0 then (if 1≤sz∧sz≤l.length then (if ∀q∈bmeans (l.map rOf) sz.toNat,QW q then 0 else 6) else 2) else chErr l
theorem bmeans_len (l:List Rat) (sz:Nat):(bmeans l sz).length=l.length / sz:=by simp[bmeans]
theorem bmeans_at {l:List Rat} {sz j:Nat} (h:j<l.length / sz):(bmeans l sz)[j]?=some (bmean l sz j):=by simp[bmeans,h]
theorem shL_snoc (l:List (Nat×Nat)) (p:Nat×Nat):shL (l ++ [p])=shL l ++ shC p.1 p.2:=by simp[shL]
theorem Acc.putLoop {h:IH} {n0 sz:Nat} {v:Value} {n:Nat} {cs:List Value} (a:Acc h n0 sz v n cs) {k:Nat} {r:ILoop} (hr:h.ext.get k=some (.loop r)) (o:IObj):Acc (h.put k o) n0 sz v n cs:=by
 obtain⟨hz,hl,a|⟨kk,fam,rfl,hn,q1,q2,q3,q4⟩⟩:=a
 ·exact⟨hz,hl,.inl a⟩
 ·refine⟨hz,hl,.inr ⟨kk,fam,rfl,hn,q1,q2,?_,?_⟩⟩
  ·rw[get_put_old _ _ (by rintro rfl;rw[hr] at q3;cases q3)];exact q3
  ·cases fam<;>exact q4
set_option maxHeartbeats 8000000 in
theorem dgBatches_ok {h:IH} {v:Value} {l:List (Nat×Nat)} {size:Int} (hv:ShSl h v l) {k:Nat} (hk:allOk l → ∀q∈l.map rOf,QB k q) (hb:l.length≤200→mBits l.length k<16000000) :
  WV Proofs.Tryz.prog (.func (.func 20) #[] #[]) [v,KI size] h fun r h'=>Ext h h' ∧ ∃s,r=.tuple #[s,KI (batErr l size)]∧if batErr l size=0 then ShSl h' s ((bmeans (l.map rOf) size.toNat).map shOf) else s=.slice none 0 0:=by
 have her:=chErr_range l
 refine enter (nt:=47) (rs:=[.cell 4 25,.cell 5 40]) Proofs.Tryz.func20 rfl rfl rfl (by simp) ?_
 simp -dsimp (disch:=omega) only[wpS,Nat.reduceEqDiff,Nat.reduceAdd,zc25,zc40]
 obtain⟨H0,hH0,n0,E0,g0,g1,g2⟩:=boxes3 h [KI size] [.slice none 0 0] [KI 0]
 rw[←hH0]
 clear hH0
 refine call (dgcheck_ok (hv.keep E0.keep)) ?_
 rintro _ h1 ⟨X1,rfl⟩
 have m1:=X1.n
 have k0:=X1.kept (by omega) g0
 have k1:=X1.kept (by omega) g1
 have k2:=X1.kept (by omega) g2
 have E1:=E0.trans X1
 have errEnd : ∀(e:Int),e≠0→batErr l size=e → ∀hh:IH,Ext h hh→(Ext h hh ∧ ∃s,Value.tuple #[.slice none 0 0,KI e]=.tuple #[s,KI (batErr l size)]∧if batErr l size=0 then ShSl hh s ((bmeans (l.map rOf) size.toNat).map shOf) else s=.slice none 0 0):=by
  intro e he hbe hh hE
  exact⟨hE,_,by rw[hbe],by rw[if_neg (by rw[hbe];exact he)]⟩
 by_cases he:chErr l=0
 case neg =>
  have hbe:batErr l size=chErr l:=by rw[batErr,if_neg he]
  have he':(chErr l == 0)=false:=by simpa using he
  simp -dsimp (disch:=omega) only[wpS,wpT,Nat.reduceEqDiff,Nat.reduceLeDiff,st25,st40,ld25,ld40,k1,k2]
  exact errEnd _ he hbe _ ((E1.put (by omega) _).put (by omega) _)
 obtain⟨e1,e2,e3⟩:=chErr_iff.1 he
 have hl0:0<l.length:=List.length_pos_iff.2 e3
 have hkk:=hk e2
 have hbb:=hb e1
 rw[he]
 by_cases hsz:1≤size∧size≤l.length
 case neg =>
  have hbe:batErr l size=2:=by rw[batErr,if_pos he,if_neg hsz]
  by_cases hlt:size<1
  ·have c1:decide (size<1)=true:=decide_eq_true hlt
   simp -dsimp (disch:=omega) only[wpS,wpT,Nat.reduceEqDiff,Nat.reduceLeDiff,zc25,st25,st40,ld3,ld25,ld40,row_of k0,k1,k2,c1]
   exact errEnd _ (by omega) hbe _ ((E1.put (by omega) _).put (by omega) _)
  ·have c1:decide (size<1)=false:=decide_eq_false hlt
   have c2:decide ((l.length:Int)<size)=true:=decide_eq_true (by omega)
   simp -dsimp (disch:=omega) only[wpS,wpT,Nat.reduceEqDiff,Nat.reduceLeDiff,zc25,st25,st40,ld3,ld25,ld40,row_of k0,k1,k2,c1,c2,hv.1.len sl25]
   exact errEnd _ (by omega) hbe _ ((E1.put (by omega) _).put (by omega) _)
 obtain⟨sz,rfl⟩:=Int.eq_ofNat_of_zero_le (show 0≤size by omega)
 have hs1:1≤sz:=by omega
 have hs2:sz≤l.length:=by omega
 rw[Int.toNat_natCast] at errEnd ⊢
 have c1:decide ((sz:Int)<1)=false:=decide_eq_false (by omega)
 have c2:decide ((l.length:Int)<(sz:Int))=false:=decide_eq_false (by omega)
 simp -dsimp (disch:=omega) only[wpS,wpT,Nat.reduceEqDiff,zc25,ld3,row_of k0,c1,c2,hv.1.len sl25]
 have x2:Ext h1 (h1.new (.cells [.slice none 0 0] 0 none)):=(Ext.refl h1).new _
 obtain⟨H2,hH2⟩ : ∃H2,H2=h1.new (.cells [.slice none 0 0] 0 none):=⟨_,rfl⟩
 have n2:H2.n=h1.n+1:=by rw[hH2];rfl
 have g7:H2.ext.get h1.n=some (.cells [.slice none 0 0] 0 none):=by rw[hH2];simp (disch:=first|omega|(simp only[new_n,put_n];omega)|(repeat first|rw[new_n]|rw[put_n])) only[get_new_same]
 rw[←hH2] at x2 ⊢
 clear hH2
 have E2:=E1.trans x2
 have j0:=x2.kept (by omega) k0
 have j1:=x2.kept (by omega) k1
 have j2:=x2.kept (by omega) k2
 have X0:=Ext.refl H2
 have L1:load Proofs.Tryz.prog H2 3 (ptr (2*h.n) 0)=some (KN sz):=by
  have r:=row_of j0
  simp -dsimp (disch:=omega) only[wpS,ld3,r]
 refine drawn [(2,[1])] (by kernel_rfl) (by kernel_rfl) rfl ?_
 simp -dsimp (disch:=omega) only[wpS,Nat.reduceEqDiff]
 refine call (read_list_ok (hv.keep E2.keep) e2 (by omega)) ?_
 rintro ls h3 ⟨X3,hls⟩
 have m3:=X3.n
 simp -dsimp (disch:=omega) only[wpS,Nat.reduceEqDiff,ld3,row_of (X3.kept (by omega) j0)]
 refine call (chunk_ok hls.co.1 hs1) ?_
 rintro _ _ ⟨rfl,rfl⟩
 simp -dsimp (disch:=omega) only[wpS]
 have X4:Ext h3 ((h3.new (.cells [ls] 0 none)).new (.cells [KN sz] 0 none)):=((Ext.refl _).new _).new _
 refine⟨by repeat' first|refine wpSteady_c2 ?_ ?_|refine wpSteady_t2 ?_ ?_|exact wpSteady_one rfl rfl rfl rfl (steady_ext (H0:=H2) rfl (by omega) (by assumption) (by assumption) (by with_reducible assumption)),?_⟩
 obtain⟨H4,hH4⟩ : ∃H4,H4=(h3.new (.cells [ls] 0 none)).new (.cells [KN sz] 0 none):=⟨_,rfl⟩
 have n4:H4.n=h3.n+2:=by rw[hH4];rfl
 have gc:H4.ext.get h3.n=some (.cells [ls] 0 none):=by rw[hH4];simp (disch:=first|omega|(simp only[new_n,put_n];omega)|(repeat first|rw[new_n]|rw[put_n])) only[get_new_same,get_new_old]
 have gd:H4.ext.get (h3.n+1)=some (.cells [KN sz] 0 none):=by rw[hH4];simp (disch:=first|omega|(simp only[new_n,put_n];omega)|(repeat first|rw[new_n]|rw[put_n])) only[get_new_same]
 rw[←hH4] at X4 ⊢
 clear hH4
 simp -dsimp (disch:=omega) only[wpS,wpT,Nat.reduceAdd]
 have X24:=X3.trans X4
 have E4:=E2.trans X24
 have hlen:(l.map rOf).length=l.length:=List.length_map ..
 refine range2 (p:=28) (nt:=47) rfl rfl (by decide) (fun r y hfn hnt hbd hy=>?_)
 let C:IH→Prop:=fun hh=>Ext h hh∧Keep h3 hh∧H4.n<hh.n∧hh.ext.get h3.n=some (.cells [ls] 0 none)∧hh.ext.get (h3.n+1)=some (.cells [KN sz] 0 none)∧hh.ext.get h.n=some (.cells [KN sz] 0 none)
 let O:Nat→IH→Prop:=fun j hh=>hh.ext.get (h.n+1)=some (.cells [.slice none 0 0] 0 none)∧hh.ext.get (h.n+1+1)=some (.cells [KI 0] 0 none)∧(∀q∈(bmeans (l.map rOf) sz).take j,QW q) ∧ ∃out,hh.ext.get h1.n=some (.cells [out] 0 none)∧Acc hh h.n 16 out (((bmeans (l.map rOf) sz).take j).map shOf).length (shL (((bmeans (l.map rOf) sz).take j).map shOf))
 let J:Nat→IH→Prop:=fun i hh=>C hh∧hh.ext.get H4.n=some (.loop r) ∧ ∃j,i=j*sz∧j≤l.length / sz∧O j hh
 let D:IH→Prop:=fun hh=>C hh∧(((hh.ext.get H4.n=some (.loop r)∨hh.ext.get H4.n=some (.loop (doneL r (.exit 0))))∧O (l.length / sz) hh)∨(hh.ext.get H4.n=some (.loop (doneL r .ret))∧hh.ext.get (h.n+1)=some (.cells [.slice none 0 0] 0 none)∧hh.ext.get (h.n+1+1)=some (.cells [KI 6] 0 none) ∧ ¬∀q∈bmeans (l.map rOf) sz,QW q))
 have hjsz : ∀j,j≤l.length / sz→j*sz≤l.length:=fun j hj=>Nat.le_trans (Nat.mul_le_mul_right _ hj) (Nat.div_mul_le_self _ _)
 have hend : ∀j,j≤l.length / sz→l.length<j*sz+sz→j=l.length / sz:=by
  intro j hj hlt
  apply Nat.le_antisymm hj
  have:l.length / sz<j+1:=by
   rw[Nat.div_lt_iff_lt_mul (by omega),Nat.add_mul,Nat.one_mul];exact hlt
  omega
 have tr : ∀(hx:IH) (r':ILoop) (obj:IObj),hx.ext.get H4.n=some (.loop r')→C hx→C (hx.put H4.n obj) ∧ ∀j',O j' hx→O j' (hx.put H4.n obj):=by
  rintro hx r' obj hg ⟨c1,c2,c3,c4,c5,c6⟩
  have z0 : ∀j,j≠H4.n→(hx.put H4.n obj).ext.get j=hx.ext.get j:=fun j hj=>get_put_old _ _ hj
  refine⟨⟨c1.put (by omega) _,c2.putAny (by rintro c e f hc;rw[hg] at hc;cases hc) _,c3,?_,?_,?_⟩,?_⟩
  ·rw[z0 _ (by omega)];exact c4
  ·rw[z0 _ (by omega)];exact c5
  ·rw[z0 _ (by omega)];exact c6
  ·rintro j' ⟨o1,o2,o3,out,o4,o5⟩
   refine⟨?_,?_,o3,out,?_,o5.putLoop hg _⟩
   ·rw[z0 _ (by omega)];exact o1
   ·rw[z0 _ (by omega)];exact o2
   ·rw[z0 _ (by omega)];exact o4
 have hC0 : ∀hh,C hh→ElSl PRat hh ls (l.map rOf):=fun hh c=>hls.keep kept_p c.2.1
 refine(WV.mono (chunk1_ok (b:=h3.n) (b2:=h3.n+1) (sz:=sz) (l:=l.map rOf) (s:=ls) hs1 (by omega) J D ?_ ?_ ?_ ?_) ?_)
 ·rintro i hh ⟨c,_⟩
  exact⟨c.2.2.2.1,c.2.2.2.2.1,hC0 hh c⟩
 ·refine⟨⟨E4.new _,(X4.new _).keep,by simp,?_,?_,?_⟩,get_new_same _ _ rfl,0,by omega,Nat.zero_le _,?_,?_,?_,.slice none 0 0,?_,?_⟩
  ·rw[get_new_old _ _ (by omega)];exact gc
  ·rw[get_new_old _ _ (by omega)];exact gd
  ·rw[get_new_old _ _ (by omega)];exact X24.kept (by omega) j0
  ·rw[get_new_old _ _ (by omega)];exact X24.kept (by omega) j1
  ·rw[get_new_old _ _ (by omega)];exact X24.kept (by omega) j2
  ·intro q hq;simp at hq
  ·rw[get_new_old _ _ (by omega)];exact X24.kept (by omega) g7
  ·exact Acc.nil _ _ (by omega)
 ·rintro i hh hi ⟨c,hr,j,rfl,hj,o⟩
  rw[hlen] at hi
  have:=hjsz j hj
  have hje:j=l.length / sz:=hend j hj (by omega)
  rw[hje] at o
  exact⟨c,.inl ⟨.inl hr,o⟩⟩
 ·rintro i hh w hi ⟨c,hr,j,rfl,hj,o⟩ hw
  rw[hlen] at hi hw
  refine hy w hh _ hr ?_
  simp -dsimp (disch:=omega) only[wpS,Nat.reduceEqDiff]
  refine⟨rfl,hr,?_⟩
  rw[hfn,hnt,hbd]
  obtain⟨cb,ob⟩:=tr hh r (.loop (busyL r)) hr c
  have ob:=ob j o
  have zl:(hh.put H4.n (.loop (busyL r))).ext.get H4.n=some (.loop (busyL r)):=get_put_same _ _ rfl
  have kb1:Keep hh (hh.put H4.n (.loop (busyL r))):=(Keep.refl _).putAny (by rintro c e f hc;rw[hr] at hc;cases hc) _
  obtain⟨hb,hhb⟩ : ∃hb,hb=hh.put H4.n (.loop (busyL r)):=⟨_,rfl⟩
  rw[←hhb] at cb ob zl kb1 ⊢
  clear hhb
  obtain⟨c1,c2,c3,c4,c5,zz6⟩:=id cb
  obtain⟨o1,o2,o3,out,o4,o5⟩:=id ob
  obtain⟨cs,hws,_,_⟩:=id hw
  have hwl:(((l.map rOf).drop (j*sz)).take (min sz (l.length - j*sz))).length=min sz (l.length - j*sz):=by simp<;>omega
  have hwlen:=fun(h':IH)=>hws.len (P:=Proofs.Tryz.prog) sl103 h'
  rw[hwl] at hwlen
  by_cases hfull:j*sz+sz≤l.length
  ·have hmin:min sz (l.length - j*sz)=sz:=by omega
   rw[hmin] at hwlen hw
   have hjn:j<l.length / sz:=by
    apply Classical.byContradiction;intro hn
    have:j=l.length / sz:=by omega
    have h5:=Nat.lt_div_mul_add (a:=l.length) (show 0<sz by omega)
    rw[←this] at h5;omega
   have hPn:((l.map rOf).drop (j*sz)).take sz ≠ []:=by
    intro h0
    rw[hmin] at hwl
    rw[h0] at hwl;simp at hwl;omega
   have hPB : ∀q∈((l.map rOf).drop (j*sz)).take sz,QB k q:=fun q hq=>hkk q (List.mem_of_mem_drop (List.mem_of_mem_take hq))
   have hPb:(((l.map rOf).drop (j*sz)).take sz).length*(k+1)+17<16000000:=by
    rw[hmin] at hwl
    rw[hwl]
    have:sz*(k+1)≤l.length*(k+1):=Nat.mul_le_mul_right _ hs2
    unfold mBits at hbb
    omega
   have cdec:decide ((sz:Int)<(sz:Int))=false:=decide_eq_false (by omega)
   simp -dsimp (disch:=omega) only[wpS,Nat.reduceEqDiff,ld3,hwlen hb,row_of zz6,cdec]
   refine call (mean_ok (hw.keep kept_p kb1) hPn hPB hPb) ?_
   rintro rm h6 ⟨X6,p6⟩
   have m6:=X6.n
   simp -dsimp (disch:=omega) only[wpS,Nat.reduceEqDiff]
   refine call (rtold_ok p6) ?_
   rintro _ h7 ⟨X7,rfl⟩
   have m7:=X7.n
   have X67:=X6.trans X7
   have hbm:qmean (((l.map rOf).drop (j*sz)).take sz)=bmean (l.map rOf) sz j:=rfl
   have hat:=bmeans_at (l:=l.map rOf) (sz:=sz) (j:=j) (by rw[hlen];exact hjn)
   rw[hbm]
   have kk7:Keep hh h7:=kb1.trans X67.keep
   have c7:C h7:=⟨c1.trans X67,c2.trans X67.keep,by omega,X67.kept (by omega) c4,X67.kept (by omega) c5,X67.kept (by omega) zz6⟩
   have zl7:=X67.kept c3 zl
   have o17:=X67.kept (by omega) o1
   have o27:=X67.kept (by omega) o2
   have o47:=X67.kept (by omega) o4
   by_cases hq:QW (bmean (l.map rOf) sz j)
   ·rw[if_pos hq]
    have eA:Ext h7 ((h7.new (.cells Z16 0 none)).put h7.n (.cells (shC (wideN (bmean (l.map rOf) sz j).num) (wideN ((bmean (l.map rOf) sz j).den:Int))) 0 none)):=((Ext.refl _).new _).put (Nat.le_refl _) _
    have hcnt:(((bmeans (l.map rOf) sz).take j).map shOf).length≤200:=by
     rw[List.length_map,List.length_take]
     have:=Nat.div_le_self l.length sz
     omega
    obtain⟨out',h8,hap,hA8,hG8,hE8⟩:=(o5.ext (X67.trans eA)).appN (P:=Proofs.Tryz.prog) (t:=25) ap25 (m:=1) (new:=shC (wideN (bmean (l.map rOf) sz j).num) (wideN ((bmean (l.map rOf) sz j).den:Int))) (by omega) (by rw[shC_len]) (shC_all _ _) (by omega) (by simp only[put_n,new_n];omega) (c1.trans (X67.trans eA)) (Nat.le_refl _)
    have n8:=hG8.n
    simp only[put_n,new_n] at n8
    have cellsInj : ∀{c:List Value} (c':List Value) (e:Nat) (f:Option Nat),IObj.cells c 0 none=.cells c' e f→e=0:=by rintro c c' e f ⟨⟩;rfl
    have w7:=hG8.var (by simp only[put_n,new_n];omega) ((eA.kept (by omega) o47))
    have w1:=hG8.var (by simp only[put_n,new_n];omega) ((eA.kept (by omega) o17))
    have w2:=hG8.var (by simp only[put_n,new_n];omega) ((eA.kept (by omega) o27))
    have w4:=hG8.var (by simp only[put_n,new_n];omega) ((eA.kept (by omega) c7.2.2.2.1))
    have w5:=hG8.var (by simp only[put_n,new_n];omega) ((eA.kept (by omega) c7.2.2.2.2.1))
    have w6:=hG8.var (by simp only[put_n,new_n];omega) ((eA.kept (by omega) c7.2.2.2.2.2))
    have wl:=hG8.box (by simp only[put_n,new_n];omega) ((eA.kept c7.2.2.1 zl7)) (by rintro c e f ⟨⟩)
    have eT:((bmeans (l.map rOf) sz).take (j+1)).map shOf=((bmeans (l.map rOf) sz).take j).map shOf ++ [shOf (bmean (l.map rOf) sz j)]:=by rw[take_snoc hat,List.map_append];rfl
    have hA8':Acc h8 h.n 16 out' (((bmeans (l.map rOf) sz).take (j+1)).map shOf).length (shL (((bmeans (l.map rOf) sz).take (j+1)).map shOf)):=by
     rw[eT,shL_snoc,List.length_append]
     exact hA8
    have hap':append Proofs.Tryz.prog (((h7.new (.cells Z16 0 none)).put h7.n (.cells (shC (wideN (bmean (l.map rOf) sz j).num) (wideN ((bmean (l.map rOf) sz j).den:Int))) 0 none)).new (.cells (shC (wideN (bmean (l.map rOf) sz j).num) (wideN ((bmean (l.map rOf) sz j).den:Int))) 16 none)) 25 out (.slice (some ⟨2*(h7.n+1),0,none⟩) 1 3)=some (out',h8):=hap
    simp -dsimp (disch:=omega) only[wpS,wpT,Nat.reduceEqDiff,Nat.reduceLeDiff,Nat.reduceAdd,st25,zc30,st30,ld25,ld30,bs25,ba25_25,shV_cells,shC_len,shC_all,sh_sp3,sh_take,row_of o47,hap',w7,hA8.sl.cells,hA8.sl.cok]
    refine⟨by simp (disch:=first|omega|(simp only[new_n,put_n];omega)|(repeat first|rw[new_n]|rw[put_n])) only[get_put_old];exact wl,.inl ⟨rfl,?_⟩⟩
    have k8:Keep h3 h8:=(c7.2.1.trans eA.keep).trans hG8.keep
    have k81:Keep h3 (h8.put h1.n (.cells [out'] 0 none)):=k8.put w7 _
    show J (j*sz+sz) _
    refine⟨⟨(hE8.put (by omega) _).put (by omega) _,k81.putAny (by rintro c e f hc;rw[get_put_old _ _ (by omega),wl] at hc;cases hc) _,by simp only[put_n];omega,by simp (disch:=first|omega|(simp only[new_n,put_n];omega)|(repeat first|rw[new_n]|rw[put_n])) only[get_put_old];exact w4,by simp (disch:=first|omega|(simp only[new_n,put_n];omega)|(repeat first|rw[new_n]|rw[put_n])) only[get_put_old];exact w5,by simp (disch:=first|omega|(simp only[new_n,put_n];omega)|(repeat first|rw[new_n]|rw[put_n])) only[get_put_old];exact w6⟩,get_put_same _ _ rfl,j+1,by rw[Nat.add_mul,Nat.one_mul],by omega,by simp (disch:=first|omega|(simp only[new_n,put_n];omega)|(repeat first|rw[new_n]|rw[put_n])) only[get_put_old];exact w1,by simp (disch:=first|omega|(simp only[new_n,put_n];omega)|(repeat first|rw[new_n]|rw[put_n])) only[get_put_old];exact w2,?_,out',by simp (disch:=first|omega|(simp only[new_n,put_n];omega)|(repeat first|rw[new_n]|rw[put_n])) only[get_put_same,get_put_old],(hA8'.put w7 _).putLoop (by rw[get_put_old _ _ (by omega)];exact wl) _⟩
    rw[take_snoc hat]
    intro q hqm
    rcases List.mem_append.1 hqm with hqm|hqm
    ·exact o3 q hqm
    ·simp at hqm;subst hqm;exact hq
   ·rw[if_neg hq]
    simp -dsimp (disch:=omega) only[wpS,wpT,Nat.reduceEqDiff,Nat.reduceLeDiff,Nat.reduceAdd,st25,st40,zc30,st30,shV_cells,shC_len,shC_all,sh_sp3,o17,o27]
    obtain⟨d1,d2,d3,d4,d5,d6⟩:=c7
    refine⟨by simp (disch:=first|omega|(simp only[new_n,put_n];omega)|(repeat first|rw[new_n]|rw[put_n])) only[get_new_old,get_put_old];exact zl7,.inr ⟨rfl,?_⟩⟩
    have e9:Ext h (((h7.new (.cells Z16 0 none)).put h7.n (.cells (shC 0 0) 0 none))):=(d1.new _).put (by omega) _
    have k9:Keep h3 (((h7.new (.cells Z16 0 none)).put h7.n (.cells (shC 0 0) 0 none))):=d2.trans (((Ext.refl h7).new _).put (Nat.le_refl _) _).keep
    have k91:=k9.put (cs:=[.slice none 0 0]) (f:=none) (k:=h.n+1) (by simp (disch:=first|omega|(simp only[new_n,put_n];omega)|(repeat first|rw[new_n]|rw[put_n])) only[get_new_old,get_put_old];exact o17) (.cells [.slice none 0 0] 0 none)
    have k92:=k91.put (cs:=[KI 0]) (f:=none) (k:=h.n+1+1) (by simp (disch:=first|omega|(simp only[new_n,put_n];omega)|(repeat first|rw[new_n]|rw[put_n])) only[get_new_old,get_put_old];exact o27) (.cells [KI 6] 0 none)
    show D _
    refine⟨⟨((e9.put (by omega) _).put (by omega) _).put (by omega) _,k92.putAny (by rintro c e f hc;rw[get_put_old _ _ (by omega),get_put_old _ _ (by omega),get_put_old _ _ (by omega),get_new_old _ _ (by omega),zl7] at hc;cases hc) _,by simp only[put_n,new_n];omega,by simp (disch:=first|omega|(simp only[new_n,put_n];omega)|(repeat first|rw[new_n]|rw[put_n])) only[get_new_old,get_put_old];exact d4,by simp (disch:=first|omega|(simp only[new_n,put_n];omega)|(repeat first|rw[new_n]|rw[put_n])) only[get_new_old,get_put_old];exact d5,by simp (disch:=first|omega|(simp only[new_n,put_n];omega)|(repeat first|rw[new_n]|rw[put_n])) only[get_new_old,get_put_old];exact d6⟩,.inr ⟨get_put_same _ _ rfl,by simp (disch:=first|omega|(simp only[new_n,put_n];omega)|(repeat first|rw[new_n]|rw[put_n])) only[get_put_same,get_put_old],by simp (disch:=first|omega|(simp only[new_n,put_n];omega)|(repeat first|rw[new_n]|rw[put_n])) only[get_put_same,get_put_old],fun hall=>hq (hall _ (List.mem_of_getElem? hat))⟩⟩
  ·have hmin:min sz (l.length - j*sz)=l.length - j*sz:=by omega
   rw[hmin] at hwlen
   have cdec:decide (((l.length - j*sz:Nat):Int)<(sz:Int))=true:=decide_eq_true (by omega)
   simp -dsimp (disch:=omega) only[wpS,Nat.reduceEqDiff,ld3,hwlen hb,row_of zz6,cdec]
   have hje:j=l.length / sz:=hend j hj (by omega)
   obtain⟨t1,t2⟩:=tr hb (busyL r) (.loop (doneL r (.exit 0))) zl cb
   refine⟨zl,.inr ⟨rfl,t1,.inl ⟨.inr (get_put_same _ _ rfl),?_⟩⟩⟩
   rw[←hje]
   exact t2 j ob
 ·rintro _ hh ⟨c,hd⟩
  have okEnd : ∀r',hh.ext.get H4.n=some (.loop r')→O (l.length / sz) hh → ∀fr:Fr,fget fr 4=some (ptr (2*(h.n+1)) 0)→fget fr 5=some (ptr (2*(h.n+1+1)) 0)→fget fr 7=some (ptr (2*h1.n) 0)→True:=fun _ _ _ _ _ _ _=>trivial
  rcases hd with⟨hr,o⟩|⟨hr,q1,q2,q3⟩
  ·have hbe:batErr l (sz:Int)=0:=by
    obtain⟨_,_,o3,_⟩:=o
    rw[batErr,if_pos he,if_pos ⟨by omega,by omega⟩,Int.toNat_natCast,if_pos]
    intro q hq
    refine o3 q ?_
    rw[List.take_of_length_le (by rw[bmeans_len,hlen];omega)]
    exact hq
   have fin : ∀r',hh.ext.get H4.n=some (.loop r') → ∃out,(hh.put H4.n .dead).ext.get h1.n=some (.cells [out] 0 none)∧(hh.put H4.n .dead).ext.get (h.n+1)=some (.cells [.slice none 0 0] 0 none)∧(hh.put H4.n .dead).ext.get (h.n+1+1)=some (.cells [KI 0] 0 none)∧Ext h (hh.put H4.n .dead)∧ShSl (hh.put H4.n .dead) out ((bmeans (l.map rOf) sz).map shOf)∧H4.n<(hh.put H4.n .dead).n:=by
    intro r' hg
    obtain⟨t1,t2⟩:=tr hh r' .dead hg c
    obtain⟨p1,p2,p3,out,p4,p5⟩:=t2 _ o
    have et:(bmeans (l.map rOf) sz).take (l.length / sz)=bmeans (l.map rOf) sz:=List.take_of_length_le (by rw[bmeans_len,hlen];omega)
    rw[et] at p3 p5
    refine⟨out,p4,p1,p2,t1.1,⟨p5.sl,?_,?_⟩,t1.2.2.1⟩
    ·rw[List.length_map,bmeans_len,hlen]
     have:=Nat.div_le_self l.length sz
     omega
    ·intro p hp
     obtain⟨q,hq,rfl⟩:=List.mem_map.1 hp
     exact shOf_lt (p3 q hq)
   rcases hr with hr|hr
   ·refine .inl ⟨hr,?_⟩
    obtain⟨out,f1,f2,f3,f4,f5,f6⟩:=fin _ hr
    obtain⟨K0,hK0⟩ : ∃K0,K0=hh.put H4.n .dead:=⟨_,rfl⟩
    rw[←hK0] at f1 f2 f3 f4 f5 f6 ⊢
    clear hK0
    simp -dsimp (disch:=omega) only[wpS,wpT,Nat.reduceEqDiff,Nat.reduceLeDiff,st25,st40,ld25,ld40,row_of f1,f2,f3,f5.1.cells,f5.1.cok]
    refine⟨(f4.put (by omega) _).put (by omega) _,out,by rw[hbe],?_⟩
    rw[if_pos hbe]
    exact f5.keep (((Keep.refl K0).put f2 _).put (cs:=[KI 0]) (f:=none) (by simp (disch:=first|omega|(simp only[new_n,put_n];omega)|(repeat first|rw[new_n]|rw[put_n])) only[get_put_old];exact f3) _)
   ·refine .inr (.inl ⟨0,hr,?_⟩)
    obtain⟨out,f1,f2,f3,f4,f5,f6⟩:=fin _ hr
    obtain⟨K0,hK0⟩ : ∃K0,K0=hh.put H4.n .dead:=⟨_,rfl⟩
    rw[←hK0] at f1 f2 f3 f4 f5 f6 ⊢
    clear hK0
    simp -dsimp (disch:=omega) only[wpS,wpT,Nat.reduceEqDiff,Nat.reduceLeDiff,st25,st40,ld25,ld40,row_of f1,f2,f3,f5.1.cells,f5.1.cok]
    refine⟨(f4.put (by omega) _).put (by omega) _,out,by rw[hbe],?_⟩
    rw[if_pos hbe]
    exact f5.keep (((Keep.refl K0).put f2 _).put (cs:=[KI 0]) (f:=none) (by simp (disch:=first|omega|(simp only[new_n,put_n];omega)|(repeat first|rw[new_n]|rw[put_n])) only[get_put_old];exact f3) _)
  ·have hbe:batErr l (sz:Int)=6:=by
    rw[batErr,if_pos he,if_pos ⟨by omega,by omega⟩,Int.toNat_natCast,if_neg q3]
   refine .inr (.inr ⟨hr,?_⟩)
   obtain⟨t1,_⟩:=tr hh _ .dead hr c
   have f1:(hh.put H4.n .dead).ext.get (h.n+1)=some (.cells [.slice none 0 0] 0 none):=by rw[get_put_old _ _ (by omega)];exact q1
   have f2:(hh.put H4.n .dead).ext.get (h.n+1+1)=some (.cells [KI 6] 0 none):=by rw[get_put_old _ _ (by omega)];exact q2
   obtain⟨K0,hK0⟩ : ∃K0,K0=hh.put H4.n .dead:=⟨_,rfl⟩
   rw[←hK0] at f1 f2 t1 ⊢
   clear hK0
   simp -dsimp (disch:=omega) only[wpS,Nat.reduceEqDiff,ld25,ld40,row_of f1,row_of f2]
   exact errEnd 6 (by omega) hbe _ t1.1
end Go.Id

/-! Contracts: the reference's fractions: lowest terms. -/
namespace Go.Id
open Go
def RPair (h:IH) (v:Value) (n d:Int):Prop:=∃a s b t,v=.agg #[a,s,b,t]∧LongIs h (.agg #[a,s]) n∧LongIs h (.agg #[b,t]) d
theorem RPair.keep {h h':IH} {v:Value} {n d:Int} (p:RPair h v n d) (e:Keep h h'):RPair h' v n d:=let ⟨a,s,b,t,h1,h2,h3⟩:=p;⟨a,s,b,t,h1,h2.keep e,h3.keep e⟩
def RRat (h:IH) (v:Value) (q:Rat):Prop:=RPair h v q.num q.den
theorem RRat.keep {h h':IH} {v:Value} {q:Rat} (p:RRat h v q) (e:Keep h h'):RRat h' v q:=RPair.keep p e
theorem LongIs.cells2 {h:IH} {v:Value} {z:Int} (d:LongIs h v z) : ∃s,v=.agg #[.bool (decide (z<0)),s]∧s.cells = #[s]∧cellOK s=true:=let ⟨s,n,a,b,c,_⟩:=d.form;⟨s,a,b,c⟩
theorem LongIs.co {h:IH} {a s:Value} {z:Int} (d:LongIs h (.agg #[a,s]) z):a=.bool (decide (z<0))∧s.cells = #[s]∧cellOK s=true:=by
 obtain⟨s',h1,h2,h3⟩:=d.cells2
 cases h1
 exact⟨rfl,h2,h3⟩
theorem low_turn {n d:Int} (hd:d<0):n / (-(Int.gcd n d:Int))=(Rat.divInt n d).num∧d / (-(Int.gcd n d:Int))=(Rat.divInt n d).den:=by
 obtain⟨a,b⟩:=low_neg (n:=n) hd
 rw[Int.ediv_neg,Int.ediv_neg]
 exact⟨a,b⟩
set_option maxHeartbeats 4000000 in
theorem rlowest_ok {h:IH} {v w:Value} {n d:Int} (hv:LongIs h v n) (hw:LongIs h w d) (sn:SmallI n) (sd:SmallI d) (d0:d≠0) :
  WV Proofs.Tryz.prog (.func (.func 118) #[] #[]) [v,w] h fun r h'=>Ext h h'∧RRat h' r (Rat.divInt n d):=by
 obtain⟨s,rfl,c1,o1⟩:=hv.cells2
 obtain⟨t,rfl,c2,o2⟩:=hw.cells2
 have sg:SmallI (Int.gcd n d:Int):=by
  have h1:Int.gcd n d≤d.natAbs:=Nat.le_of_dvd (by omega) (Nat.gcd_dvd_right _ _)
  exact small_nat (sd.le h1)
 refine enter (nt:=32) (rs:=[.cell 4 91]) Proofs.Tryz.func118 rfl rfl rfl (by simp) ?_
 simp -dsimp (maxSteps:=1000000) (disch:=first|omega|(simp only[new_n,put_n];omega)|decide +kernel|(repeat first|rw[new_n]|rw[put_n])) only[wpS,wpT,Nat.reduceEqDiff,Nat.reduceLeDiff,Nat.reduceAdd,zc91,ld89]
 obtain⟨H0,hH0,n0,E0,g0,g1,g2⟩:=boxes3 h [.bool (decide (n<0)),s] [.bool (decide (d<0)),t] ZR
 rw[←hH0]
 clear hH0
 refine call (divisor_ok (hv.keep E0.keep) (hw.keep E0.keep) sn sd) ?_
 rintro _ h1 ⟨hE1,hg⟩
 obtain⟨sg1,rfl,c3,o3⟩:=hg.cells2
 have hng:decide ((Int.gcd n d:Int)<0)=false:=decide_eq_false (by omega)
 rw[hng] at hg ⊢
 have x1:=E0.trans hE1
 have n1:=(hE1).n;try simp only[new_n,put_n] at n1
 simp -dsimp (maxSteps:=1000000) (disch:=first|omega|(simp only[new_n,put_n];omega)|decide +kernel|(repeat first|rw[new_n]|rw[put_n])) only[wpS,wpT,Nat.reduceEqDiff,Nat.reduceLeDiff,Nat.reduceAdd,zc89,st89,fa89_0,ld4,o3,row_of (hE1.kept (by omega) g1),tk2']
 obtain⟨H2,hH2⟩ : ∃H2,H2=(h1.new (.cells ZL 0 none)).put h1.n (.cells [.bool false,sg1] 0 none):=⟨_,rfl⟩
 have e2:Ext h1 H2:=by rw[hH2];exact((Ext.refl _).new _).put (Nat.le_refl _) _
 have n2:H2.n=h1.n+1:=by rw[hH2];rfl
 have gg:H2.ext.get h1.n=some (.cells [.bool false,sg1] 0 none):=by rw[hH2];simp (disch:=first|omega|(simp only[new_n,put_n];omega)|(repeat first|rw[new_n]|rw[put_n])) only[get_put_same]
 rw[←hH2]
 clear hH2
 have x2:=x1.trans e2
 have kk0:=e2.kept (by omega) (hE1.kept (by omega) g0)
 have kk1:=e2.kept (by omega) (hE1.kept (by omega) g1)
 have kk2:=e2.kept (by omega) (hE1.kept (by omega) g2)
 refine bq_cut (fun fr2 H3 => ∃(g:Int) (ag sg2:Value),Ext h H3∧h1.n+1≤H3.n∧H3.ext.get h.n=some (.cells [.bool (decide (n<0)),s] 0 none)∧H3.ext.get (h.n+1)=some (.cells [.bool (decide (d<0)),t] 0 none)∧H3.ext.get (h.n+1+1)=some (.cells ZR 0 none)∧H3.ext.get h1.n=some (.cells [ag,sg2] 0 none)∧LongIs H3 (.agg #[ag,sg2]) g∧SmallI g∧g≠0∧n / g=(Rat.divInt n d).num∧d / g=(Rat.divInt n d).den ∧
  LongIs H3 (.agg #[.bool (decide (n<0)),s]) n∧LongIs H3 (.agg #[.bool (decide (d<0)),t]) d∧fget fr2 2=some (ptr (2*h.n) 0)∧fget fr2 3=some (ptr (2*(h.n+1)) 0)∧fget fr2 4=some (ptr (2*(h.n+1+1)) 0)∧fget fr2 5=some (ptr (2*h1.n) 0)) (fun hb=>?_) (fun hb=>?_) ?_
 ·have hd:d<0:=by simpa using hb
  obtain⟨b1,b2⟩:=low_turn (n:=n) hd
  simp -dsimp (maxSteps:=1000000) (disch:=first|omega|(simp only[new_n,put_n];omega)|decide +kernel|(repeat first|rw[new_n]|rw[put_n])) only[wpS,wpT,Nat.reduceEqDiff,Nat.reduceLeDiff,Nat.reduceAdd,ld89,row_of gg,tk2']
  refine call (turn_ok (hg.keep e2.keep)) ?_
  rintro _ h3 ⟨hE3,hT⟩
  obtain⟨sT,rfl,c4,o4⟩:=hT.cells2
  have n3:=(hE3).n;try simp only[new_n,put_n] at n3
  have kg:=hE3.kept (by omega) gg
  simp -dsimp (maxSteps:=1000000) (disch:=first|omega|(simp only[new_n,put_n];omega)|decide +kernel|(repeat first|rw[new_n]|rw[put_n])) only[wpS,wpT,Nat.reduceEqDiff,Nat.reduceLeDiff,Nat.reduceAdd,st89,kg,o4]
  have kp:=(Keep.refl h3).put kg (.cells [.bool (decide (-(Int.gcd n d:Int)<0)),sT] 0 none)
  have x3:=x2.trans hE3
  have hng:=gcd_ne (n:=n) (d:=d) (by omega)
  refine⟨-(Int.gcd n d:Int),_,sT,x3.put (by omega) _,by simp only[put_n];omega,by simp (disch:=first|omega|(simp only[new_n,put_n];omega)|(repeat first|rw[new_n]|rw[put_n])) only[get_put_old];exact hE3.kept (by omega) kk0,by simp (disch:=first|omega|(simp only[new_n,put_n];omega)|(repeat first|rw[new_n]|rw[put_n])) only[get_put_old];exact hE3.kept (by omega) kk1,by simp (disch:=first|omega|(simp only[new_n,put_n];omega)|(repeat first|rw[new_n]|rw[put_n])) only[get_put_old];exact hE3.kept (by omega) kk2,get_put_same _ _ rfl,hT.keep kp,by rw[SmallI,Int.natAbs_neg];exact sg,by omega,b1,b2,hv.keep (x3.keep.trans kp),hw.keep (x3.keep.trans kp),by simp,by simp,by simp,by simp⟩
 ·have hd:0<d:=by
   have : ¬d<0:=by simpa using hb
   omega
  obtain⟨b1,b2⟩:=low_pos (n:=n) hd
  simp -dsimp (maxSteps:=1000000) (disch:=first|omega|(simp only[new_n,put_n];omega)|decide +kernel|(repeat first|rw[new_n]|rw[put_n])) only[wpS,wpT]
  exact⟨Int.gcd n d,_,sg1,x2,by omega,kk0,kk1,kk2,gg,hg.keep e2.keep,sg,gcd_ne d0,b1,b2,hv.keep x2.keep,hw.keep x2.keep,by simp,by simp,by simp,by simp⟩
 clear hg kk0 kk1 kk2 gg x2 e2
 rintro fr2 H3 ⟨g,ag,sg2,x3,n3,k0,k1,k2,kg,hg,sgg,g0',b1,b2,hv3,hw3,f2,f3,f4,f5⟩
 rw[d_seq]
 simp -dsimp (maxSteps:=1000000) (disch:=first|omega|(simp only[new_n,put_n];omega)|decide +kernel|(repeat first|rw[new_n]|rw[put_n])) only[wpS,wpT,Nat.reduceEqDiff,Nat.reduceLeDiff,Nat.reduceAdd,ld89,f2,f5,row_of k0,row_of kg,tk2']
 refine call (lparts_ok hv3 hg sn sgg g0') ?_
 rintro _ h4 ⟨hE4,q,u,rfl,hq,hu⟩
 rw[b1] at hq
 obtain⟨sq,rfl,c4,o4⟩:=hq.cells2
 obtain⟨su,rfl,c5,o5⟩:=hu.cells2
 have n4:=(hE4).n;try simp only[new_n,put_n] at n4
 have x4:=x3.trans hE4
 simp -dsimp (maxSteps:=1000000) (disch:=first|omega|(simp only[new_n,put_n];omega)|decide +kernel|(repeat first|rw[new_n]|rw[put_n])) only[wpS,wpT,Nat.reduceEqDiff,Nat.reduceLeDiff,Nat.reduceAdd,ld89,zc89,st89,o4,o5,f3,f5,row_of (hE4.kept (by omega) k1),row_of (hE4.kept (by omega) kg),tk2']
 obtain⟨H5,hH5⟩ : ∃H4,H4=((((h4.new (.cells ZL 0 none)).new (.cells ZL 0 none)).put h4.n (.cells [.bool (decide ((Rat.divInt n d).num<0)),sq] 0 none)).put (h4.n+1) (.cells [.bool (decide (n % g<0)),su] 0 none)):=⟨_,rfl⟩
 have e5:Ext h4 H5:=by rw[hH5];exact((((Ext.refl _).new _).new _).put (Nat.le_refl _) _).put (by omega) _
 have n5:H5.n=h4.n+2:=by rw[hH5];rfl
 have gq:H5.ext.get h4.n=some (.cells [.bool (decide ((Rat.divInt n d).num<0)),sq] 0 none):=by rw[hH5];simp (disch:=first|omega|(simp only[new_n,put_n];omega)|(repeat first|rw[new_n]|rw[put_n])) only[get_put_same,get_put_old]
 rw[←hH5]
 clear hH5
 refine call (lparts_ok (hw3.keep (hE4.trans e5).keep) (hg.keep (hE4.trans e5).keep) sd sgg g0') ?_
 rintro _ h6 ⟨hE6,q2,u2,rfl,hq2,hu2⟩
 rw[b2] at hq2
 obtain⟨sq2,rfl,c6,o6⟩:=hq2.cells2
 obtain⟨su2,rfl,c7,o7⟩:=hu2.cells2
 have n6:=(hE6).n;try simp only[new_n,put_n] at n6
 have hdf:decide (((Rat.divInt n d).den:Int)<0)=false:=decide_eq_false (by omega)
 rw[hdf] at hq2 ⊢
 have x6:=(x4.trans e5).trans hE6
 have kq:=hE6.kept (by omega) gq
 have kr:=hE6.kept (by omega) (e5.kept (by omega) (hE4.kept (by omega) k2))
 simp -dsimp (maxSteps:=1000000) (disch:=first|omega|(simp only[new_n,put_n];omega)|decide +kernel|(repeat first|rw[new_n]|rw[put_n])) only[wpS,wpT,Nat.reduceEqDiff,Nat.reduceLeDiff,Nat.reduceAdd,ld89,zc89,st89,bv91,pl91_0,pl91_1,st91,ld91,o6,o7,f4,row_of kq,kr,o4,tk2',tk4']
 refine⟨?_,_,_,_,_,rfl,hq.keep ((e5.trans hE6).keep.trans ?_),hq2.keep ?_⟩
 ·exact((((x6.new _).new _).put (by omega) _).put (by omega) _).put (by omega) _
 ·exact(((((Keep.refl h6).new _).new _).put (cs:=ZL) (f:=none) (by simp (disch:=first|omega|(simp only[new_n,put_n];omega)|(repeat first|rw[new_n]|rw[put_n])) only[get_new_same,get_new_old]) _).put (cs:=ZL) (f:=none) (by simp (disch:=first|omega|(simp only[new_n,put_n];omega)|(repeat first|rw[new_n]|rw[put_n])) only[get_new_same,get_put_old]) _).put (cs:=ZR) (f:=none) (by simp (disch:=first|omega|(simp only[new_n,put_n];omega)|(repeat first|rw[new_n]|rw[put_n])) only[get_new_old,get_put_old];exact kr) _
 ·exact(((((Keep.refl h6).new _).new _).put (cs:=ZL) (f:=none) (by simp (disch:=first|omega|(simp only[new_n,put_n];omega)|(repeat first|rw[new_n]|rw[put_n])) only[get_new_same,get_new_old]) _).put (cs:=ZL) (f:=none) (by simp (disch:=first|omega|(simp only[new_n,put_n];omega)|(repeat first|rw[new_n]|rw[put_n])) only[get_new_same,get_put_old]) _).put (cs:=ZR) (f:=none) (by simp (disch:=first|omega|(simp only[new_n,put_n];omega)|(repeat first|rw[new_n]|rw[put_n])) only[get_new_old,get_put_old];exact kr) _
end Go.Id

/-! Contracts: the reference's fractions: sums, differences, products, quotients, order. -/
namespace Go.Id
open Go
theorem RRat.parts {h:IH} {v:Value} {q:Rat} (p:RRat h v q) : ∃a s b t,v=.agg #[a,s,b,t]∧LongIs h (.agg #[a,s]) q.num∧LongIs h (.agg #[b,t]) q.den∧s.cells = #[s]∧cellOK s=true∧t.cells = #[t]∧cellOK t=true∧cellOK a=true∧cellOK b=true:=by
 obtain⟨a,s,b,t,rfl,h1,h2⟩:=p
 obtain⟨rfl,c1,o1⟩:=h1.co
 obtain⟨rfl,c2,o2⟩:=h2.co
 exact⟨_,s,_,t,rfl,h1,h2,c1,o1,c2,o2,rfl,rfl⟩
theorem ql4 {H:IH} {k:Nat} {a s b t:Value} (g:H.ext.get k=some (.cells [a,s,b,t] 0 none)):load Proofs.Tryz.prog H 89 (ptr (2*k) 0)=some (.agg #[a,s])∧load Proofs.Tryz.prog H 89 (ptr (2*k) 2)=some (.agg #[b,t])∧load Proofs.Tryz.prog H 91 (ptr (2*k) 0)=some (.agg #[a,s,b,t]):=by
 have r:=row_of g
 refine⟨?_,?_,?_⟩
 ·simp -dsimp (disch:=omega) only[wpS,wpT,Nat.reduceLeDiff,Nat.reduceAdd,ld89,r]
  rfl
 ·simp -dsimp (disch:=omega) only[wpS,wpT,Nat.reduceLeDiff,Nat.reduceAdd,ld89,r]
  rfl
 ·simp -dsimp (disch:=omega) only[wpS,wpT,Nat.reduceLeDiff,Nat.reduceAdd,ld91,r]
  rfl
set_option maxHeartbeats 2000000 in
theorem qplus_ok {h:IH} {v w:Value} {x y:Rat} {a b:Nat} (hv:RRat h v x) (hw:RRat h w y) (qx:QB a x) (qy:QB b y) (hk:a+b+1<16000000) :
  WV Proofs.Tryz.prog (.func (.func 65) #[] #[]) [v,w] h fun r h'=>Ext h h'∧RRat h' r (x+y):=by
 obtain⟨a1,s1,b1,t1,rfl,hn1,hd1,c1,o1,c2,o2,o3,o4⟩:=hv.parts
 obtain⟨a2,s2,b2,t2,rfl,hn2,hd2,c5,o5,c6,o6,o7,o8⟩:=hw.parts
 refine enter (nt:=22) (rs:=[.cell 4 91]) Proofs.Tryz.func65 rfl rfl rfl (by simp) ?_
 simp -dsimp (disch:=omega) only[wpS,Nat.reduceEqDiff,Nat.reduceAdd,zc91]
 obtain⟨H0,hH0,n0,E0,g0,g1,g2⟩:=boxes3 h [a1,s1,b1,t1] [a2,s2,b2,t2] ZR
 rw[←hH0]
 clear hH0
 have X0:=Ext.refl H0
 obtain⟨L1,L2,_⟩:=ql4 g0
 obtain⟨L3,L4,_⟩:=ql4 g1
 refine drawn [(6,[4]),(8,[4]),(12,[4,9,10]),(14,[4,9,10])] (by kernel_rfl) (by kernel_rfl) rfl ?_
 simp -dsimp (disch:=omega) only[wpS,wpT,Nat.reduceEqDiff,Nat.reduceLeDiff,Nat.reduceAdd,fa91_0,ld89,fa91_1,row_of g0,row_of g1,tkA,tkB]
 refine call (times_ok (hn1.keep E0.keep) (hd2.keep E0.keep) (half_bits qx.1 (by omega)) (half_bits qy.den' (by omega))) ?_
 rintro r1 h1 ⟨X1,p1⟩
 have m1:=X1.n
 simp -dsimp (disch:=omega) only[wpS,wpT,Nat.reduceEqDiff,Nat.reduceLeDiff,Nat.reduceAdd,fa91_0,ld89,fa91_1,row_of (X1.kept (by omega) g0),row_of (X1.kept (by omega) g1),tkA,tkB]
 refine call (times_ok (hn2.keep (E0.trans X1).keep) (hd1.keep (E0.trans X1).keep) (half_bits qy.1 (by omega)) (half_bits qx.den' (by omega))) ?_
 rintro r2 h2 ⟨hE2,p2⟩
 have m2:=hE2.n
 have X2:=X1.trans hE2
 simp -dsimp (disch:=omega) only[wpS,Nat.reduceEqDiff]
 have b1':=mul_bits qx.1 qy.den'
 have b2':=mul_bits qy.1 qx.den'
 have b3':=qx.addN qy
 have b4':=mul_bits qx.den' qy.den'
 have sb1:SmallI (x.num*y.den):=small_bits b1' (by omega)
 have sb2:SmallI (y.num*x.den):=small_bits b2' (by omega)
 have sb3:SmallI (x.num*y.den+y.num*x.den):=small_bits b3' hk
 have sb4:SmallI ((x.den:Int)*y.den):=small_bits b4' (by omega)
 refine call (plus_ok (p1.keep hE2.keep) p2 sb1 sb2) ?_
 rintro r3 h3 ⟨hE3,p3⟩
 have m3:=hE3.n
 have X3:=X2.trans hE3
 simp -dsimp (disch:=omega) only[wpS,wpT,Nat.reduceEqDiff,Nat.reduceLeDiff,Nat.reduceAdd,ld89,fa91_1,row_of (X3.kept (by omega) g0),row_of (X3.kept (by omega) g1),tkB]
 refine call (times_ok (hd1.keep (E0.trans X3).keep) (hd2.keep (E0.trans X3).keep) (half_bits qx.den' (by omega)) (half_bits qy.den' (by omega))) ?_
 rintro r4 h4 ⟨hE4,p4⟩
 have m4:=hE4.n
 have X4:=X3.trans hE4
 simp -dsimp (disch:=omega) only[wpS,Nat.reduceEqDiff]
 refine call (rlowest_ok (p3.keep hE4.keep) p4 sb3 sb4 (dd_ne x y)) ?_
 rintro r5 h5 ⟨hE5,p5⟩
 have m5:=hE5.n
 have X5:=X4.trans hE5
 rw[←rat_add] at p5
 obtain⟨a3,s3,b3,t3,rfl,_,_,d1,o1,d2,o2,o3,o4⟩:=p5.parts
 have kg:=X5.kept (by omega) g2
 simp -dsimp (disch:=omega) only[wpS,wpT,Nat.reduceEqDiff,Nat.reduceLeDiff,Nat.reduceAdd,st91,kg,o1,o2,o3,o4]
 refine⟨by repeat' first|refine wpSteady_c2 ?_ ?_|refine wpSteady_t2 ?_ ?_|exact wpSteady_one rfl rfl rfl rfl (steady_ext (H0:=H0) rfl (by omega) (by assumption) (by assumption) (by with_reducible assumption)),?_⟩
 simp -dsimp (disch:=omega) only[wpS,wpT,Nat.reduceEqDiff,Nat.reduceLeDiff,Nat.reduceAdd,ld91,tk4']
 exact⟨(E0.trans X5).put (by omega) _,p5.keep ((Keep.refl _).put kg _)⟩
set_option maxHeartbeats 2000000 in
theorem qtimes_ok {h:IH} {v w:Value} {x y:Rat} {a b:Nat} (hv:RRat h v x) (hw:RRat h w y) (qx:QB a x) (qy:QB b y) (hk:a+b<16000000) :
  WV Proofs.Tryz.prog (.func (.func 66) #[] #[]) [v,w] h fun r h'=>Ext h h'∧RRat h' r (x*y):=by
 obtain⟨a1,s1,b1,t1,rfl,hn1,hd1,c1,o1,c2,o2,o3,o4⟩:=hv.parts
 obtain⟨a2,s2,b2,t2,rfl,hn2,hd2,c5,o5,c6,o6,o7,o8⟩:=hw.parts
 refine enter (nt:=16) (rs:=[.cell 4 91]) Proofs.Tryz.func66 rfl rfl rfl (by simp) ?_
 simp -dsimp (disch:=omega) only[wpS,Nat.reduceEqDiff,Nat.reduceAdd,zc91]
 obtain⟨H0,hH0,n0,E0,g0,g1,g2⟩:=boxes3 h [a1,s1,b1,t1] [a2,s2,b2,t2] ZR
 rw[←hH0]
 clear hH0
 have X0:=Ext.refl H0
 obtain⟨L1,L2,_⟩:=ql4 g0
 obtain⟨L3,L4,_⟩:=ql4 g1
 have sb1:SmallI (x.num*y.num):=small_bits (mul_bits qx.1 qy.1) hk
 have sb2:SmallI ((x.den:Int)*y.den):=small_bits (mul_bits qx.den' qy.den') hk
 refine drawn [(6,[4]),(8,[4])] (by kernel_rfl) (by kernel_rfl) rfl ?_
 simp -dsimp (disch:=omega) only[wpS,wpT,Nat.reduceEqDiff,Nat.reduceLeDiff,Nat.reduceAdd,fa91_0,ld89,row_of g0,row_of g1,tkA]
 refine call (times_ok (hn1.keep E0.keep) (hn2.keep E0.keep) (half_bits qx.1 (by omega)) (half_bits qy.1 (by omega))) ?_
 rintro r1 h1 ⟨X1,p1⟩
 have m1:=X1.n
 simp -dsimp (disch:=omega) only[wpS,wpT,Nat.reduceEqDiff,Nat.reduceLeDiff,Nat.reduceAdd,ld89,fa91_1,row_of (X1.kept (by omega) g0),row_of (X1.kept (by omega) g1),tkB]
 refine call (times_ok (hd1.keep (E0.trans X1).keep) (hd2.keep (E0.trans X1).keep) (half_bits qx.den' (by omega)) (half_bits qy.den' (by omega))) ?_
 rintro r2 h2 ⟨hE2,p2⟩
 have m2:=hE2.n
 have X2:=X1.trans hE2
 simp -dsimp (disch:=omega) only[wpS,Nat.reduceEqDiff]
 refine call (rlowest_ok (p1.keep hE2.keep) p2 sb1 sb2 (dd_ne x y)) ?_
 rintro r5 h5 ⟨hE5,p5⟩
 have m5:=hE5.n
 have X5:=X2.trans hE5
 rw[←rat_mul] at p5
 obtain⟨a3,s3,b3,t3,rfl,_,_,d1,o1,d2,o2,o3,o4⟩:=p5.parts
 have kg:=X5.kept (by omega) g2
 simp -dsimp (disch:=omega) only[wpS,wpT,Nat.reduceEqDiff,Nat.reduceLeDiff,Nat.reduceAdd,st91,kg,o1,o2,o3,o4]
 refine⟨by repeat' first|refine wpSteady_c2 ?_ ?_|refine wpSteady_t2 ?_ ?_|exact wpSteady_one rfl rfl rfl rfl (steady_ext (H0:=H0) rfl (by omega) (by assumption) (by assumption) (by with_reducible assumption)),?_⟩
 simp -dsimp (disch:=omega) only[wpS,wpT,Nat.reduceEqDiff,Nat.reduceLeDiff,Nat.reduceAdd,ld91,tk4']
 exact⟨(E0.trans X5).put (by omega) _,p5.keep ((Keep.refl _).put kg _)⟩
set_option maxHeartbeats 2000000 in
theorem qover_ok {h:IH} {v w:Value} {x y:Rat} {a b:Nat} (hv:RRat h v x) (hw:RRat h w y) (qx:QB a x) (qy:QB b y) (hk:a+b<16000000) (y0:y≠0) :
  WV Proofs.Tryz.prog (.func (.func 68) #[] #[]) [v,w] h fun r h'=>Ext h h'∧RRat h' r (x / y):=by
 obtain⟨a1,s1,b1,t1,rfl,hn1,hd1,c1,o1,c2,o2,o3,o4⟩:=hv.parts
 obtain⟨a2,s2,b2,t2,rfl,hn2,hd2,c5,o5,c6,o6,o7,o8⟩:=hw.parts
 refine enter (nt:=16) (rs:=[.cell 4 91]) Proofs.Tryz.func68 rfl rfl rfl (by simp) ?_
 simp -dsimp (disch:=omega) only[wpS,Nat.reduceEqDiff,Nat.reduceAdd,zc91]
 obtain⟨H0,hH0,n0,E0,g0,g1,g2⟩:=boxes3 h [a1,s1,b1,t1] [a2,s2,b2,t2] ZR
 rw[←hH0]
 clear hH0
 have X0:=Ext.refl H0
 obtain⟨L1,L2,_⟩:=ql4 g0
 obtain⟨L3,L4,_⟩:=ql4 g1
 have sb1:SmallI (x.num*y.den):=small_bits (mul_bits qx.1 qy.den') hk
 have sb2:SmallI ((x.den:Int)*y.num):=small_bits (mul_bits qx.den' qy.1) hk
 refine drawn [(6,[4]),(8,[4])] (by kernel_rfl) (by kernel_rfl) rfl ?_
 simp -dsimp (disch:=omega) only[wpS,wpT,Nat.reduceEqDiff,Nat.reduceLeDiff,Nat.reduceAdd,fa91_0,ld89,fa91_1,row_of g0,row_of g1,tkA,tkB]
 refine call (times_ok (hn1.keep E0.keep) (hd2.keep E0.keep) (half_bits qx.1 (by omega)) (half_bits qy.den' (by omega))) ?_
 rintro r1 h1 ⟨X1,p1⟩
 have m1:=X1.n
 simp -dsimp (disch:=omega) only[wpS,wpT,Nat.reduceEqDiff,Nat.reduceLeDiff,Nat.reduceAdd,fa91_0,ld89,fa91_1,row_of (X1.kept (by omega) g0),row_of (X1.kept (by omega) g1),tkA,tkB]
 refine call (times_ok (hd1.keep (E0.trans X1).keep) (hn2.keep (E0.trans X1).keep) (half_bits qx.den' (by omega)) (half_bits qy.1 (by omega))) ?_
 rintro r2 h2 ⟨hE2,p2⟩
 have m2:=hE2.n
 have X2:=X1.trans hE2
 simp -dsimp (disch:=omega) only[wpS,Nat.reduceEqDiff]
 refine call (rlowest_ok (p1.keep hE2.keep) p2 sb1 sb2 (Int.mul_ne_zero (den_ne x) (num_ne y0))) ?_
 rintro r5 h5 ⟨hE5,p5⟩
 have m5:=hE5.n
 have X5:=X2.trans hE5
 rw[←rat_div] at p5
 obtain⟨a3,s3,b3,t3,rfl,_,_,d1,o1,d2,o2,o3,o4⟩:=p5.parts
 have kg:=X5.kept (by omega) g2
 simp -dsimp (disch:=omega) only[wpS,wpT,Nat.reduceEqDiff,Nat.reduceLeDiff,Nat.reduceAdd,st91,kg,o1,o2,o3,o4]
 refine⟨by repeat' first|refine wpSteady_c2 ?_ ?_|refine wpSteady_t2 ?_ ?_|exact wpSteady_one rfl rfl rfl rfl (steady_ext (H0:=H0) rfl (by omega) (by assumption) (by assumption) (by with_reducible assumption)),?_⟩
 simp -dsimp (disch:=omega) only[wpS,wpT,Nat.reduceEqDiff,Nat.reduceLeDiff,Nat.reduceAdd,ld91,tk4']
 exact⟨(E0.trans X5).put (by omega) _,p5.keep ((Keep.refl _).put kg _)⟩
theorem ord_rat (x y:Rat):(if x.num*y.den<y.num*x.den then (-1:Int) else if y.num*x.den<x.num*y.den then 1 else 0)=if x<y then -1 else if x=y then 0 else 1:=by
 simp only[Rat.lt_iff,Rat.eq_iff_mul_eq_mul]
 split
 ·rfl
 ·split<;>split<;>first|rfl|omega
set_option maxHeartbeats 2000000 in
theorem qorder_ok {h:IH} {v w:Value} {x y:Rat} {a b:Nat} (hv:RRat h v x) (hw:RRat h w y) (qx:QB a x) (qy:QB b y) (hk:a+b<16000000) :
  WV Proofs.Tryz.prog (.func (.func 85) #[] #[]) [v,w] h fun r h'=>Ext h h'∧r=KI (if x<y then -1 else if x=y then 0 else 1):=by
 obtain⟨a1,s1,b1,t1,rfl,hn1,hd1,c1,o1,c2,o2,o3,o4⟩:=hv.parts
 obtain⟨a2,s2,b2,t2,rfl,hn2,hd2,c5,o5,c6,o6,o7,o8⟩:=hw.parts
 refine enter (nt:=16) (rs:=[.tmp 4]) Proofs.Tryz.func85 rfl rfl rfl (by simp) ?_
 simp -dsimp (disch:=omega) only[wpS,Nat.reduceEqDiff,Nat.reduceAdd]
 obtain⟨H0,hH0,n0,E0,g0,g1⟩:=boxes2 h [a1,s1,b1,t1] [a2,s2,b2,t2]
 rw[←hH0]
 clear hH0
 have X0:=Ext.refl H0
 obtain⟨L1,L2,_⟩:=ql4 g0
 obtain⟨L3,L4,_⟩:=ql4 g1
 have sb1:SmallI (x.num*y.den):=small_bits (mul_bits qx.1 qy.den') hk
 have sb2:SmallI (y.num*x.den):=small_bits (by rw[Nat.add_comm];exact mul_bits qy.1 qx.den') hk
 refine drawn [(6,[4]),(8,[4])] (by kernel_rfl) (by kernel_rfl) rfl ?_
 simp -dsimp (disch:=omega) only[wpS,wpT,Nat.reduceEqDiff,Nat.reduceLeDiff,Nat.reduceAdd,fa91_0,ld89,fa91_1,row_of g0,row_of g1,tkA,tkB]
 refine call (times_ok (hn1.keep E0.keep) (hd2.keep E0.keep) (half_bits qx.1 (by omega)) (half_bits qy.den' (by omega))) ?_
 rintro r1 h1 ⟨X1,p1⟩
 have m1:=X1.n
 simp -dsimp (disch:=omega) only[wpS,wpT,Nat.reduceEqDiff,Nat.reduceLeDiff,Nat.reduceAdd,fa91_0,ld89,fa91_1,row_of (X1.kept (by omega) g0),row_of (X1.kept (by omega) g1),tkA,tkB]
 refine call (times_ok (hn2.keep (E0.trans X1).keep) (hd1.keep (E0.trans X1).keep) (half_bits qy.1 (by omega)) (half_bits qx.den' (by omega))) ?_
 rintro r2 h2 ⟨hE2,p2⟩
 have m2:=hE2.n
 have X2:=X1.trans hE2
 simp -dsimp (disch:=omega) only[wpS,Nat.reduceEqDiff]
 refine call (lorder_ok (p1.keep hE2.keep) p2 sb1 sb2) ?_
 rintro _ h5 ⟨hE5,rfl⟩
 have X5:=X2.trans hE5
 rw[ord_rat]
 simp -dsimp (disch:=omega) only[wpS,Nat.reduceEqDiff]
 refine⟨by repeat' first|refine wpSteady_c2 ?_ ?_|refine wpSteady_t2 ?_ ?_|exact wpSteady_one rfl rfl rfl rfl (steady_ext (H0:=H0) rfl (by omega) (by assumption) (by assumption) (by with_reducible assumption)),?_⟩
 simp -dsimp (disch:=omega) only[wpS,wpT,Nat.reduceEqDiff,Nat.reduceAdd]
 exact E0.trans X5
theorem qturn_ok {h:IH} {v:Value} {x:Rat} (hv:RRat h v x) :
  WV Proofs.Tryz.prog (.func (.func 131) #[] #[]) [v] h fun r h'=>Ext h h'∧RRat h' r (-x):=by
 obtain⟨a1,s1,b1,t1,rfl,hn1,hd1,c1,o1,c2,o2,o3,o4⟩:=hv.parts
 refine enter (nt:=9) (rs:=[.cell 2 91]) Proofs.Tryz.func131 rfl rfl rfl (by simp) ?_
 simp -dsimp (disch:=omega) only[wpS,zc91]
 obtain⟨H0,hH0,n0,E0,g0,g1⟩:=boxes2 h [a1,s1,b1,t1] ZR
 rw[←hH0]
 clear hH0
 have X0:=Ext.refl H0
 obtain⟨L1,L2,_⟩:=ql4 g0
 refine drawn [(4,[2])] (by kernel_rfl) (by kernel_rfl) rfl ?_
 simp -dsimp (disch:=omega) only[wpS,wpT,Nat.reduceEqDiff,Nat.reduceLeDiff,Nat.reduceAdd,fa91_0,ld89,row_of g0,tkA]
 refine call (turn_ok (hn1.keep E0.keep)) ?_
 rintro r1 h1 ⟨X1,p1⟩
 have m1:=X1.n
 obtain⟨s3,rfl,c5,o5⟩:=p1.cells2
 have kg:=X1.kept (by omega) g1
 simp -dsimp (disch:=omega) only[wpS,wpT,Nat.reduceEqDiff,Nat.reduceLeDiff,Nat.reduceAdd,ld89,fa91_1,bv91,pl91_0,pl91_1,st91,row_of (X1.kept (by omega) g0),kg,tkB,o5,o2,o4]
 refine⟨by repeat' first|refine wpSteady_c2 ?_ ?_|refine wpSteady_t2 ?_ ?_|exact wpSteady_one rfl rfl rfl rfl (steady_ext (H0:=H0) rfl (by omega) (by assumption) (by assumption) (by with_reducible assumption)),?_⟩
 simp -dsimp (disch:=omega) only[wpS,wpT,Nat.reduceEqDiff,Nat.reduceLeDiff,Nat.reduceAdd,ld91,tk4']
 have kp:=(Keep.refl h1).put kg (.cells [.bool (decide (-x.num<0)),s3,b1,t1] 0 none)
 exact⟨(E0.trans X1).put (by omega) _,_,_,_,_,rfl,p1.keep kp,hd1.keep ((E0.trans X1).keep.trans kp)⟩
set_option maxHeartbeats 2000000 in
theorem qminus_ok {h:IH} {v w:Value} {x y:Rat} {a b:Nat} (hv:RRat h v x) (hw:RRat h w y) (qx:QB a x) (qy:QB b y) (hk:a+b+1<16000000) :
  WV Proofs.Tryz.prog (.func (.func 84) #[] #[]) [v,w] h fun r h'=>Ext h h'∧RRat h' r (x - y):=by
 obtain⟨a1,s1,b1,t1,rfl,hn1,hd1,c1,o1,c2,o2,o3,o4⟩:=hv.parts
 obtain⟨a2,s2,b2,t2,rfl,hn2,hd2,c5,o5,c6,o6,o7,o8⟩:=hw.parts
 refine enter (nt:=9) (rs:=[.cell 4 91]) Proofs.Tryz.func84 rfl rfl rfl (by simp) ?_
 simp -dsimp (disch:=omega) only[wpS,Nat.reduceEqDiff,Nat.reduceAdd,zc91]
 obtain⟨H0,hH0,n0,E0,g0,g1,g2⟩:=boxes3 h [a1,s1,b1,t1] [a2,s2,b2,t2] ZR
 rw[←hH0]
 clear hH0
 have X0:=Ext.refl H0
 obtain⟨_,_,L1⟩:=ql4 g0
 obtain⟨_,_,L2⟩:=ql4 g1
 refine drawn [(0,[3])] (by kernel_rfl) (by kernel_rfl) rfl ?_
 simp -dsimp (disch:=omega) only[wpS,wpT,Nat.reduceEqDiff,Nat.reduceLeDiff,Nat.reduceAdd,ld91,row_of g0,row_of g1,tk4']
 refine call (qturn_ok (hw.keep E0.keep)) ?_
 rintro r1 h1 ⟨X1,p1⟩
 have m1:=X1.n
 simp -dsimp (disch:=omega) only[wpS,Nat.reduceEqDiff]
 refine call (qplus_ok (hv.keep (E0.trans X1).keep) p1 qx qy.neg hk) ?_
 rintro r2 h2 ⟨hE2,p2⟩
 have X2:=X1.trans hE2
 have m2:=hE2.n
 rw[←Rat.sub_eq_add_neg] at p2
 obtain⟨a3,s3,b3,t3,rfl,_,_,d1,o1,d2,o2,o3,o4⟩:=p2.parts
 have kg:=X2.kept (by omega) g2
 simp -dsimp (disch:=omega) only[wpS,wpT,Nat.reduceEqDiff,Nat.reduceLeDiff,Nat.reduceAdd,st91,kg,o1,o2,o3,o4]
 refine⟨by repeat' first|refine wpSteady_c2 ?_ ?_|refine wpSteady_t2 ?_ ?_|exact wpSteady_one rfl rfl rfl rfl (steady_ext (H0:=H0) rfl (by omega) (by assumption) (by assumption) (by with_reducible assumption)),?_⟩
 simp -dsimp (disch:=omega) only[wpS,wpT,Nat.reduceEqDiff,Nat.reduceLeDiff,Nat.reduceAdd,ld91,tk4']
 exact⟨(E0.trans X2).put (by omega) _,p2.keep ((Keep.refl _).put kg _)⟩
end Go.Id

/-
  OutlierValid: for every input the law returns true, and each argument reads as it did. Conditions: none but the row's own.
-/
import Derived.Test.YtnnmjocmapilaaaGreatOutlierValidBc
import Derived.Test.YtnnmjocmapilaaaGreatOutlierValidBe
import Derived.Test.YtnnmjocmapilaaaGreatOutlierValidBn
set_option linter.unusedVariables false
set_option linter.unusedSimpArgs false
set_option linter.defProp false
set_option linter.deprecated false
namespace Go.Proofs.YtnnmjocmapilaaaGreat
open Go.ChangeShapes Go.WideShapes Go.ChangeAt Go.RowKit Go.Id
theorem wf_u16 {x:Int} (h:(Lit.int .u16 x).wf=true):0≤x∧x<65536:=by
 simp only[Lit.wf,Bool.and_eq_true,decide_eq_true_eq] at h
 have h1:(0:Int)≤x:=h.1
 have h2:x≤(65535:Int):=h.2
 exact⟨h1,by omega⟩
theorem Za5 {m:Mp} (n d:Nat):aD m (shV n d) (.agg (shC n d).toArray):=.bP (BP n d)
set_option maxRecDepth 100000 in
theorem rW (os:Os) (started:os.Started) (H:Type) (enc:TypeId×Value→H) :
  ReturnsInHanded {} Tryz.checked os 5 .any (Rows.outlierValidSpec.pre6 enc Tryz.prog Tryz.f5 Rows.outlierValidRow.domain false) (Rows.outlierValidSpec.post enc Tryz.prog Tryz.f5 false true false false):=by
 refine returnsInHanded_of_change (C:=Tryz.checked) Tryz.own started (by kernel_rfl) Tryz.func5
  (ChangeSpec.witness6 (enc:=enc) (C:=Tryz.checked) false ⟨#[],#[.agg #[.int .u8 0,.slice none 0 0],.agg #[.int .u8 0,.slice none 0 0],.slice none 0 0,.agg #[.bool false,.slice none 0 0,.int .u32 0,.bool false,.slice none 0 0,.int .u32 0],.int .u8 0],[]⟩ 8 (by kernel_rfl) (by kernel_rfl) (by kernel_rfl) (by kernel_rfl)) ?_
 intro W base args ds gs before Zi hW hcnd _
 have nV : ∀(j:Nat) t v,Tryz.f5.params[j]?=some t→args[j]?=some v→Value.okWide Tryz.prog W .any base t v:=Zi
 have hW':=hW
 obtain⟨p,q,hA0,hV,rfl,hfz,hnd⟩:=hW
 have hA:DataW.TrodAll enc Tryz.prog W 0 (fun _=>true) true Tryz.f5.params.toList args.toList ds p:=hA0
 have hA1:=hA
 rw[Tryz.params5] at hA nV
 obtain⟨a0,r0,d0,ds0,p0,q0,e0,rfl,rfl,t0,h0A⟩:=trodAll_cons hA
 obtain⟨a1,r1,d1,ds1,p1,q1,rfl,rfl,rfl,t1,h1A⟩:=trodAll_cons h0A
 obtain⟨a2,r2,d2,ds2,p2,q2,rfl,rfl,rfl,t2,h2A⟩:=trodAll_cons h1A
 obtain⟨a3,r3,d3,ds3,p3,q3,rfl,rfl,rfl,t3,h3A⟩:=trodAll_cons h2A
 obtain⟨a4,r4,d4,ds4,p4,q4,rfl,rfl,rfl,t4,h4A⟩:=trodAll_cons h3A
 obtain⟨rfl,rfl,rfl⟩:=trodAll_nil h4A
 obtain⟨rfl,rfl⟩:=trodVars_none hV
 obtain rfl:args = #[a0,a1,a2,a3,a4]:=by cases args;simpa using e0
 obtain⟨z0,rfl,_⟩:=okWide_struct yR (nV 0 _ _ rfl rfl)
 obtain⟨fu0,t0⟩:=t0
 obtain⟨k0,yN0,lN0,g0,kb0,m0,sN0⟩:=Cc (fun _=>none) t0
 obtain rfl:z0 = #[B8 k0,yN0]:=by cases z0;simpa using g0
 obtain⟨z1,rfl,_⟩:=okWide_struct yR (nV 1 _ _ rfl rfl)
 obtain⟨fu1,t1⟩:=t1
 obtain⟨k1,yN1,lN1,g1,kb1,m1,sN1⟩:=Cc (fun _=>none) t1
 obtain rfl:z1 = #[B8 k1,yN1]:=by cases z1;simpa using g1
 obtain⟨b2,n2,c2,rfl⟩:=okWide_slice EX (nV 2 _ _ rfl rfl)
 obtain⟨fu2,t2⟩:=t2
 obtain⟨v2,l2,g2,m2,s2⟩:=Fb (fun _=>none) t2
 cases g2
 obtain⟨z3,rfl,_⟩:=okWide_struct C5 (nV 3 _ _ rfl rfl)
 obtain⟨fu3,t3⟩:=t3
 obtain⟨ba3,ya3,na3,bb3,yb3,nb3,g3,m3,i3⟩:=Rn (fun _=>none) t3
 obtain rfl:z3 = #[.bool ba3,ya3,.int .u32 na3,.bool bb3,yb3,.int .u32 nb3]:=by cases z3;simpa using g3
 obtain⟨x4,rfl,_,_,w4⟩:=open_int VZ (nV 4 _ _ rfl rfl) t4
 have i4:0≤x4∧x4<256:=wf_u8 w4
 have hb:=SH (W:=W) (G:=fun _=>none) (fun b cs h=>by cases h)
 refine(Ix (tb:=MC) (nt:=157) (rs:=[.tmp 10]) Tryz.sound (show Sound (E1 Tryz.prog MC) from SQ) Tryz.func5 rfl rfl rfl (by simp) (ov0 _ _ _ _ _ _ _ _ _ _ _ _ _) (ov1 _ _) (FZ (b5:=0) (b6:=1) (b8:=2) (sN0.aa ((((Ext.refl _).new _).new _).new _).aa) kb0 (sN1.aa ((((Ext.refl _).new _).new _).new _).aa) kb1 (s2.aa ((((Ext.refl _).new _).new _).new _).aa) i3 i4 ((ax _ _ (by simp)).trans ((ax _ _ (by simp)).trans (ah _ _ rfl))) ((ax _ _ (by simp)).trans (ah _ _ rfl)) (ah _ _ rfl) (by simp) (by simp) (by simp) rfl rfl rfl rfl rfl) hb (args':=#[.agg #[B8 k0,yN0],.agg #[B8 k1,yN1],.slice b2 n2 c2,.agg #[.bool ba3,ya3,.int .u32 na3,.bool bb3,yb3,.int .u32 nb3],.int .u8 x4]) (.cons (.kf (.cons (.bD rfl) (.cons (rC m0) (.nil _)))) (.cons (.kf (.cons (.bD rfl) (.cons (rC m1) (.nil _)))) (.cons (rC m2) (.cons (.kf (.cons (.bD rfl) (.cons (rC m3.1) (.cons (.bD rfl) (.cons (.bD rfl) (.cons (rC m3.2) (.cons (.bD rfl) (.nil _)))))))) (.cons (.bD rfl) (.nil _))))))).mono fun e W' ⟨he,hk⟩=>?_
 subst he
 refine⟨_,rfl,A6 (pa:=p0 ++ (p1 ++ (p2 ++ (p3 ++ (p4 ++ []))))) (pv:=[]) hW' (fun _ _ _=>trodAll_mk1 (shut_bool Tryz.underlying4 _)) (fun sp hs=>?_) (fun _ _=>rfl) hk⟩
 exact sB Tryz.kids Tryz.pos hk hA1 (fun t ht=>by
  rw[Tryz.params5] at ht
  simp at ht
  rcases ht with rfl|rfl|rfl|rfl|rfl<;>exact of_decide_eq_true (by kernel_rfl)) (fun x hx=>hs x (by simpa using hx))
theorem outlierValid_row:Rows.OutlierValidSaid :=
 OpenClaim.holds_of_wide 5 Tryz.f5 rfl rfl rfl rfl rfl rfl rfl ⟨rfl,rfl,rfl,rfl,rfl⟩ rfl rfl rfl rfl rfl (by kernel_rfl) Tryz.func5 (by kernel_rfl)
  (of_decide_eq_true (by kernel_rfl)) (by unfold Func.isWrapper;first|(rw[if_pos (by decide +kernel)];kernel_rfl)|(rw[if_neg (by decide +kernel)];exact⟨rfl,rfl⟩))
  (fun os started H enc _=>rW os started H enc)
#print axioms outlierValid_row
end Go.Proofs.YtnnmjocmapilaaaGreat

/-
  OutlierTells: for every input the law returns true, and each argument reads as it did. Conditions: none but the row's own.
-/
import Derived.Test.YtjhnilfelokpcaaGreatOutlierTellsBh
import Derived.Test.YtjhnilfelokpcaaGreatOutlierTellsBo
import Derived.Test.YtjhnilfelokpcaaGreatOutlierTellsBq
set_option linter.unusedVariables false
set_option linter.unusedSimpArgs false
set_option linter.defProp false
set_option linter.deprecated false
namespace Go.Proofs.YtjhnilfelokpcaaGreat
open Go.ChangeShapes Go.WideShapes Go.ChangeAt Go.RowKit Go.Id
theorem wf_u16 {x:Int} (h:(Lit.int .u16 x).wf=true):0≤x∧x<65536:=by
 simp only[Lit.wf,Bool.and_eq_true,decide_eq_true_eq] at h
 have h1:(0:Int)≤x:=h.1
 have h2:x≤(65535:Int):=h.2
 exact⟨h1,by omega⟩
theorem shV_rel {m:Mp} (n d:Nat):VRel m (shV n d) (.agg (shC n d).toArray):=.plain_mk (plain_shV n d)
set_option maxRecDepth 100000 in
theorem outlierTells_lifted (os:Os) (started:os.Started) (H:Type) (enc:TypeId×Value→H) :
  ReturnsInHanded {} Tryz.checked os 7 .any (Rows.outlierTellsSpec.pre6 enc Tryz.prog Tryz.f7 Rows.outlierTellsRow.domain false) (Rows.outlierTellsSpec.post enc Tryz.prog Tryz.f7 false true false false):=by
 refine returnsInHanded_of_change (C:=Tryz.checked) Tryz.own started (by kernel_rfl) Tryz.func7
  (ChangeSpec.witness6 (enc:=enc) (C:=Tryz.checked) false ⟨#[],#[.slice none 0 0,.int .u8 0,.agg #[.bool false,.slice none 0 0,.int .u32 0,.bool false,.slice none 0 0,.int .u32 0],.agg #[.bool false,.slice none 0 0,.int .u32 0,.bool false,.slice none 0 0,.int .u32 0]],[]⟩ 8 (by kernel_rfl) (by kernel_rfl) (by kernel_rfl) (by kernel_rfl)) ?_
 intro W base args ds gs before hval0 hW hcnd _
 have hval : ∀(j:Nat) t v,Tryz.f7.params[j]?=some t→args[j]?=some v→Value.okWide Tryz.prog W .any base t v:=hval0
 have hW':=hW
 obtain⟨p,q,hA0,hV,rfl,hfz,hnd⟩:=hW
 have hA:DataW.TrodAll enc Tryz.prog W 0 (fun _=>true) true Tryz.f7.params.toList args.toList ds p:=hA0
 have hA1:=hA
 rw[Tryz.params7] at hA hval
 obtain⟨a0,r0,d0,ds0,p0,q0,e0,rfl,rfl,t0,h0A⟩:=trodAll_cons hA
 obtain⟨a1,r1,d1,ds1,p1,q1,rfl,rfl,rfl,t1,h1A⟩:=trodAll_cons h0A
 obtain⟨a2,r2,d2,ds2,p2,q2,rfl,rfl,rfl,t2,h2A⟩:=trodAll_cons h1A
 obtain⟨a3,r3,d3,ds3,p3,q3,rfl,rfl,rfl,t3,h3A⟩:=trodAll_cons h2A
 obtain⟨rfl,rfl,rfl⟩:=trodAll_nil h3A
 obtain⟨rfl,rfl⟩:=trodVars_none hV
 obtain rfl:args = #[a0,a1,a2,a3]:=by cases args;simpa using e0
 obtain⟨b0,n0,c0,rfl⟩:=okWide_slice u_drafts (hval 0 _ _ rfl rfl)
 obtain⟨fu0,t0⟩:=t0
 obtain⟨v0,l0,g0,m0,s0⟩:=tell_drafts (fun _=>none) t0
 cases g0
 obtain⟨x1,rfl,_,_,w1⟩:=open_int u_u8 (hval 1 _ _ rfl rfl) t1
 have i1:0≤x1∧x1<256:=wf_u8 w1
 obtain⟨z2,rfl,_⟩:=okWide_struct u_draft (hval 2 _ _ rfl rfl)
 obtain⟨fu2,t2⟩:=t2
 obtain⟨ba2,ya2,na2,bb2,yb2,nb2,g2,m2,i2⟩:=draft_of (fun _=>none) t2
 obtain rfl:z2 = #[.bool ba2,ya2,.int .u32 na2,.bool bb2,yb2,.int .u32 nb2]:=by cases z2;simpa using g2
 obtain⟨z3,rfl,_⟩:=okWide_struct u_draft (hval 3 _ _ rfl rfl)
 obtain⟨fu3,t3⟩:=t3
 obtain⟨ba3,ya3,na3,bb3,yb3,nb3,g3,m3,i3⟩:=draft_of (fun _=>none) t3
 obtain rfl:z3 = #[.bool ba3,ya3,.int .u32 na3,.bool bb3,yb3,.int .u32 nb3]:=by cases z3;simpa using g3
 have hb:=tell_ok (W:=W) (G:=fun _=>none) (fun b cs h=>by cases h)
 refine(parts_true (tb:=tb38) (nt:=183) (rs:=[.tmp 8]) Tryz.sound (show Sound (E1 Tryz.prog tb38) from sound_O) Tryz.func7 rfl rfl rfl (by simp) (ot0 _ _ _ _ _ _ _ _ _ _ _ _ _ _ _) (ot1 _ _) (oltells_rest (a:=0) (b:=1) (s0.keep (((Ext.refl _).new _).new _).keep) i1 ((get_new_old _ _ (by simp)).trans (get_new_same _ _ rfl)) (get_new_same _ _ rfl) (by simp) (by simp) i2 i3 rfl rfl rfl rfl) hb (args':=#[.slice b0 n0 c0,.int .u8 x1,.agg #[.bool ba2,ya2,.int .u32 na2,.bool bb2,yb2,.int .u32 nb2],.agg #[.bool ba3,ya3,.int .u32 na3,.bool bb3,yb3,.int .u32 nb3]]) (.cons (trV_rel m0) (.cons (.scal rfl) (.cons (.agg_iff (.cons (.scal rfl) (.cons (trV_rel m2.1) (.cons (.scal rfl) (.cons (.scal rfl) (.cons (trV_rel m2.2) (.cons (.scal rfl) (.nil _)))))))) (.cons (.agg_iff (.cons (.scal rfl) (.cons (trV_rel m3.1) (.cons (.scal rfl) (.cons (.scal rfl) (.cons (trV_rel m3.2) (.cons (.scal rfl) (.nil _)))))))) (.nil _)))))).mono fun e W' ⟨he,hk⟩=>?_
 subst he
 refine⟨_,rfl,post_of_below (pa:=p0 ++ (p1 ++ (p2 ++ (p3 ++ [])))) (pv:=[]) hW' (fun _ _ _=>trodAll_mk1 (shut_bool Tryz.underlying4 _)) (fun sp hs=>?_) (fun _ _=>rfl) hk⟩
 exact trodAll_stays Tryz.kids Tryz.pos hk hA1 (fun t ht=>by
  rw[Tryz.params7] at ht
  simp at ht
  rcases ht with rfl|rfl|rfl|rfl<;>exact of_decide_eq_true (by kernel_rfl)) (fun x hx=>hs x (by simpa using hx))
theorem outlierTells_row:Rows.OutlierTellsSaid :=
 OpenClaim.holds_of_wide 7 Tryz.f7 rfl rfl rfl rfl rfl rfl rfl ⟨rfl,rfl,rfl,rfl,rfl⟩ rfl rfl rfl rfl rfl (by kernel_rfl) Tryz.func7 (by kernel_rfl)
  (of_decide_eq_true (by kernel_rfl)) (by unfold Func.isWrapper;first|(rw[if_pos (by decide +kernel)];kernel_rfl)|(rw[if_neg (by decide +kernel)];exact⟨rfl,rfl⟩))
  (fun os started H enc _=>outlierTells_lifted os started H enc)
#print axioms outlierTells_row
end Go.Proofs.YtjhnilfelokpcaaGreat

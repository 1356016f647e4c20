/-
  TemperTargets: for every input the law returns true, and each argument reads as it did. Conditions: none but the row's own.
-/
import Derived.Test.YtjhnilfelokpcaaGreatTemperTargetsBp
import Derived.Test.YtjhnilfelokpcaaGreatTemperTargetsBs
set_option linter.unusedVariables false
set_option linter.unusedSimpArgs false
set_option linter.defProp false
set_option linter.deprecated false
namespace Go.Proofs.YtjhnilfelokpcaaGreat
open Go.ChangeShapes Go.WideShapes Go.ChangeAt Go.RowKit Go.Id
theorem wf_u16 {x:Int} (h:(Lit.int .u16 x).wf=true):0≤x∧x<65536:=by
 simp only[Lit.wf,Bool.and_eq_true,decide_eq_true_eq] at h
 have h1:(0:Int)≤x:=h.1
 have h2:x≤(65535:Int):=h.2
 exact⟨h1,by omega⟩
theorem shV_rel {m:Mp} (n d:Nat):VRel m (shV n d) (.agg (shC n d).toArray):=.plain_mk (plain_shV n d)
set_option maxRecDepth 100000 in
theorem temperTargets_lifted (os:Os) (started:os.Started) (H:Type) (enc:TypeId×Value→H) :
  ReturnsInHanded {} Tryz.checked os 3 .any (Rows.temperTargetsSpec.pre6 enc Tryz.prog Tryz.f3 Rows.temperTargetsRow.domain false) (Rows.temperTargetsSpec.post enc Tryz.prog Tryz.f3 false true false false):=by
 refine returnsInHanded_of_change (C:=Tryz.checked) Tryz.own started (by kernel_rfl) Tryz.func3
  (ChangeSpec.witness6 (enc:=enc) (C:=Tryz.checked) false ⟨#[],#[.agg #[.int .u8 0,.slice none 0 0,.slice none 0 0,.slice none 0 0,.slice none 0 0,.slice none 0 0,.slice none 0 0],.slice none 0 0,.int .i64 0,.int .i64 0,.int .i64 0,.int .i64 0],[]⟩ 8 (by kernel_rfl) (by kernel_rfl) (by kernel_rfl) (by kernel_rfl)) ?_
 intro W base args ds gs before hval0 hW hcnd _
 have hval : ∀(j:Nat) t v,Tryz.f3.params[j]?=some t→args[j]?=some v→Value.okWide Tryz.prog W .any base t v:=hval0
 have hW':=hW
 obtain⟨p,q,hA0,hV,rfl,hfz,hnd⟩:=hW
 have hA:DataW.TrodAll enc Tryz.prog W 0 (fun _=>true) true Tryz.f3.params.toList args.toList ds p:=hA0
 have hA1:=hA
 rw[Tryz.params3] at hA hval
 obtain⟨a0,r0,d0,ds0,p0,q0,e0,rfl,rfl,t0,h0A⟩:=trodAll_cons hA
 obtain⟨a1,r1,d1,ds1,p1,q1,rfl,rfl,rfl,t1,h1A⟩:=trodAll_cons h0A
 obtain⟨a2,r2,d2,ds2,p2,q2,rfl,rfl,rfl,t2,h2A⟩:=trodAll_cons h1A
 obtain⟨a3,r3,d3,ds3,p3,q3,rfl,rfl,rfl,t3,h3A⟩:=trodAll_cons h2A
 obtain⟨a4,r4,d4,ds4,p4,q4,rfl,rfl,rfl,t4,h4A⟩:=trodAll_cons h3A
 obtain⟨a5,r5,d5,ds5,p5,q5,rfl,rfl,rfl,t5,h5A⟩:=trodAll_cons h4A
 obtain⟨rfl,rfl,rfl⟩:=trodAll_nil h5A
 obtain⟨rfl,rfl⟩:=trodVars_none hV
 obtain rfl:args = #[a0,a1,a2,a3,a4,a5]:=by cases args;simpa using e0
 obtain⟨z0,rfl,_⟩:=okWide_struct u_case (hval 0 _ _ rfl rfl)
 obtain⟨fu0,t0⟩:=t0
 obtain⟨k0,yN0,yS0,yL0,yA0,yR0,yQ0,lN0,lS0,lL0,lA0,lR0,lQ0,g0,kb0,m0,sN0,sS0,sL0,sA0,sR0,sQ0⟩:=case_of (fun _=>none) t0
 obtain rfl:z0 = #[B8 k0,yN0,yS0,yL0,yA0,yR0,yQ0]:=by cases z0;simpa using g0
 obtain⟨b1,n1,c1,rfl⟩:=okWide_slice u_wides (hval 1 _ _ rfl rfl)
 obtain⟨fu1,t1⟩:=t1
 obtain⟨v1,l1,g1,m1,s1⟩:=tell_wides (fun _=>none) t1
 cases g1
 obtain⟨x2,rfl,_,_,w2⟩:=open_int u_int (hval 2 _ _ rfl rfl) t2
 have i2:In64 x2:=wf_i64 w2
 obtain⟨x3,rfl,_,_,w3⟩:=open_int u_int (hval 3 _ _ rfl rfl) t3
 have i3:In64 x3:=wf_i64 w3
 obtain⟨x4,rfl,_,_,w4⟩:=open_int u_int (hval 4 _ _ rfl rfl) t4
 have i4:In64 x4:=wf_i64 w4
 obtain⟨x5,rfl,_,_,w5⟩:=open_int u_int (hval 5 _ _ rfl rfl) t5
 have i5:In64 x5:=wf_i64 w5
 have hb:=tell_ok (W:=W) (G:=fun _=>none) (fun b cs h=>by cases h)
 refine(parts_true (tb:=tb34) (nt:=188) (rs:=[.tmp 12]) Tryz.sound (show Sound (E1 Tryz.prog tb34) from sound_T) Tryz.func3 rfl rfl rfl (by simp) (tg0 _ _ _ _ _ _ _ _ _ _ _ _ _) (tg1 _ _) (targets_rest (bx:=0) (s1.keep (((Ext.refl _).new _)).keep) (sN0.keep (((Ext.refl _).new _)).keep) (sS0.keep (((Ext.refl _).new _)).keep) (sL0.keep (((Ext.refl _).new _)).keep) (sA0.keep (((Ext.refl _).new _)).keep) (sR0.keep (((Ext.refl _).new _)).keep) (sQ0.keep (((Ext.refl _).new _)).keep) kb0 (by simp) (get_new_same _ _ rfl) i2 i3 i4 i5 rfl rfl rfl rfl rfl rfl) hb (args':=#[.agg #[B8 k0,yN0,yS0,yL0,yA0,yR0,yQ0],.slice b1 n1 c1,.int .i64 x2,.int .i64 x3,.int .i64 x4,.int .i64 x5]) (.cons (.agg_iff (.cons (.scal rfl) (.cons (trV_rel m0.1) (.cons (trV_rel m0.2.1) (.cons (trV_rel m0.2.2.1) (.cons (trV_rel m0.2.2.2.1) (.cons (trV_rel m0.2.2.2.2.1) (.cons (trV_rel m0.2.2.2.2.2) (.nil _))))))))) (.cons (trV_rel m1) (.cons (.scal rfl) (.cons (.scal rfl) (.cons (.scal rfl) (.cons (.scal rfl) (.nil _)))))))).mono fun e W' ⟨he,hk⟩=>?_
 subst he
 refine⟨_,rfl,post_of_below (pa:=p0 ++ (p1 ++ (p2 ++ (p3 ++ (p4 ++ (p5 ++ [])))))) (pv:=[]) hW' (fun _ _ _=>trodAll_mk1 (shut_bool Tryz.underlying4 _)) (fun sp hs=>?_) (fun _ _=>rfl) hk⟩
 exact trodAll_stays Tryz.kids Tryz.pos hk hA1 (fun t ht=>by
  rw[Tryz.params3] at ht
  simp at ht
  rcases ht with rfl|rfl|rfl|rfl|rfl|rfl<;>exact of_decide_eq_true (by kernel_rfl)) (fun x hx=>hs x (by simpa using hx))
theorem temperTargets_row:Rows.TemperTargetsSaid :=
 OpenClaim.holds_of_wide 3 Tryz.f3 rfl rfl rfl rfl rfl rfl rfl ⟨rfl,rfl,rfl,rfl,rfl⟩ rfl rfl rfl rfl rfl (by kernel_rfl) Tryz.func3 (by kernel_rfl)
  (of_decide_eq_true (by kernel_rfl)) (by unfold Func.isWrapper;first|(rw[if_pos (by decide +kernel)];kernel_rfl)|(rw[if_neg (by decide +kernel)];exact⟨rfl,rfl⟩))
  (fun os started H enc _=>temperTargets_lifted os started H enc)
#print axioms temperTargets_row
end Go.Proofs.YtjhnilfelokpcaaGreat

/-
  Contracts: package kernel: Filter. Lists that grow, with the sizes of their families' blocks: a store into one leaves everything of another size as it is.
-/
import Derived.Test.YtnanhedgenokpaaGreatTemperDetailedAt
import Derived.Test.YtnanhedgenokpaaGreatTemperDetailedBq
import Derived.Test.YtnanhedgenokpaaGreatTemperDetailedBr
import Derived.Test.YtnanhedgenokpaaGreatTemperDetailedBp
import Derived.Test.YtnanhedgenokpaaGreatTemperDetailedBk
import Derived.Test.YtnanhedgenokpaaGreatTemperDetailedBe
set_option linter.unusedVariables false
set_option linter.unusedSimpArgs false
set_option linter.defProp false
set_option linter.deprecated false
namespace Go.Id
open Go
open Go.Proofs.Tryz (prog)
open Nat renaming reduceAdd→zA,reduceEqDiff→zE,reduceLeDiff→zL
set_option maxHeartbeats 16000000
structure FJ (hh H:IH) (fr:Fr) (v v7 out v10:Value) (n i d e b11:Nat) (g:Nat→Rat) (cs:List Value):Prop where
 E:Ext hh H
 rb:RowB H 4 hh.n v10 n cs
 done : ∀k,k<e→RatAt PRat H cs k (g k)
 b1:hh.n<b11
 b2:b11<H.n
 box : ∃a s b u,H.ext.get b11=some (.cells [a,s,b,u] 0 none)∧PRat H (.agg #[a,s,b,u]) (offS g i d)
 f0:fget fr 0=some v
 f7:fget fr 7=some v7
 f8:fget fr 8=some out
 f9:fget fr 9=some (KN i)
 f10:fget fr 10=some v10
 f11:fget fr 11=some (ptr (2*b11) 0)
 f35:fget fr 35=some (KN n)
 f36:fget fr 36=some (KN i)
 f44:fget fr 44=some (KN n)
theorem FJ.fr {hh H:IH} {fr gr:Fr} {v v7 out v10:Value} {n i d e b11:Nat} {g:Nat→Rat} {cs:List Value} (s:FJ hh H fr v v7 out v10 n i d e b11 g cs) (f0:fget gr 0=some v) (f7:fget gr 7=some v7) (f8:fget gr 8=some out) (f9:fget gr 9=some (KN i)) (f10:fget gr 10=some v10) (f11:fget gr 11=some (ptr (2*b11) 0)) (f35:fget gr 35=some (KN n)) (f36:fget gr 36=some (KN i)) (f44:fget gr 44=some (KN n)):FJ hh H gr v v7 out v10 n i d e b11 g cs :=
 ⟨s.E,s.rb,s.done,s.b1,s.b2,s.box,f0,f7,f8,f9,f10,f11,f35,f36,f44⟩
theorem FJ.ext {hh H H':IH} {fr:Fr} {v v7 out v10:Value} {n i d e b11:Nat} {g:Nat→Rat} {cs:List Value} (s:FJ hh H fr v v7 out v10 n i d e b11 g cs) (X:Ext H H'):FJ hh H' fr v v7 out v10 n i d e b11 g cs:=by
 obtain⟨a,s',b,u,h1,h2⟩:=s.box
 exact⟨s.E.trans X,s.rb.ext X,fun k hk=>(s.done k hk).mono fun v p=>p.keep X.keep,s.b1,Nat.lt_of_lt_of_le s.b2 X.n,⟨a,s',b,u,X.kept s.b2 h1,h2.keep X.keep⟩,s.f0,s.f7,s.f8,s.f9,s.f10,s.f11,s.f35,s.f36,s.f44⟩
theorem FJ.set {hh H:IH} {fr:Fr} {v v7 out v10:Value} {n i d e b11:Nat} {g:Nat→Rat} {cs:List Value} (s:FJ hh H fr v v7 out v10 n i d e b11 g cs) {j:Nat} (hj:j<n) (hje:e≤j) {x1 x2 x3 x4:Value} (hc:([x1,x2,x3,x4]:List Value).all cellOK=true) :
  ∃H',store prog H 139 (elemAddr v10 (j*4)) (.agg #[x1,x2,x3,x4])=some H'∧FJ hh H' fr v v7 out v10 n i d e b11 g (IH.splice cs (j*4) [x1,x2,x3,x4])∧KeepZ 1 H H'∧H'.n=H.n∧(∀k,k≠hh.n→H'.ext.get k=H.ext.get k):=by
 obtain⟨h1,h2⟩:=s.rb.set (P:=prog) (t:=139) sz139 hj (x:=.agg #[x1,x2,x3,x4]) (xs:=[x1,x2,x3,x4]) rfl rfl hc
 have kz:KeepZ 1 H (H.put hh.n (.cells (IH.splice cs (j*4) [x1,x2,x3,x4]) 4 none)):=(KeepZ.refl 1 H).put s.rb.got (by decide) _
 have hl:=s.rb.len
 obtain⟨a,s',b,u,g1,g2⟩:=s.box
 have hb:=s.b1
 refine⟨_,h1,⟨s.E.put (Nat.le_refl _) _,h2,fun k hk=>((s.done k hk).mono fun v p=>p.keepZ kz).other (by omega) (by omega),s.b1,s.b2,⟨a,s',b,u,by rw[get_put_old _ _ (by omega)];exact g1,g2.keepZ kz⟩,s.f0,s.f7,s.f8,s.f9,s.f10,s.f11,s.f35,s.f36,s.f44⟩,kz,rfl,fun k hk=>get_put_old _ _ hk⟩
theorem FJ.off {hh H:IH} {fr:Fr} {v v7 out v10:Value} {n i d d' e b11:Nat} {g:Nat→Rat} {cs:List Value} (s:FJ hh H fr v v7 out v10 n i d e b11 g cs) {z1 z2 z3 z4:Value} (p:PRat H (.agg #[z1,z2,z3,z4]) (offS g i d')):FJ hh (H.put b11 (.cells [z1,z2,z3,z4] 0 none)) fr v v7 out v10 n i d' e b11 g cs:=by
 obtain⟨a,s',b,u,h1,h2⟩:=s.box
 have K:=(Keep.refl H).put h1 (.cells [z1,z2,z3,z4] 0 none)
 have hb:=s.b1
 exact⟨s.E.put (by omega) _,s.rb.put h1 _,fun k hk=>(s.done k hk).mono fun v p=>p.keep K,s.b1,s.b2,⟨_,_,_,_,get_put_same _ _ rfl,p.keep K⟩,s.f0,s.f7,s.f8,s.f9,s.f10,s.f11,s.f35,s.f36,s.f44⟩
theorem FJ.same {hh H:IH} {fr:Fr} {v v7 out v10:Value} {n i d d' e b11:Nat} {g:Nat→Rat} {cs:List Value} (s:FJ hh H fr v v7 out v10 n i d e b11 g cs) (h:offS g i d'=offS g i d):FJ hh H fr v v7 out v10 n i d' e b11 g cs:=by
 obtain⟨a,s',b,u,h1,h2⟩:=s.box
 exact⟨s.E,s.rb,s.done,s.b1,s.b2,⟨a,s',b,u,h1,by rw[h];exact h2⟩,s.f0,s.f7,s.f8,s.f9,s.f10,s.f11,s.f35,s.f36,s.f44⟩
theorem FJ.more {hh H:IH} {fr:Fr} {v v7 out v10:Value} {n i d e e' b11:Nat} {g:Nat→Rat} {cs:List Value} (s:FJ hh H fr v v7 out v10 n i d e b11 g cs) (h : ∀k,k<e'→RatAt PRat H cs k (g k)):FJ hh H fr v v7 out v10 n i d e' b11 g cs :=
 ⟨s.E,s.rb,h,s.b1,s.b2,s.box,s.f0,s.f7,s.f8,s.f9,s.f10,s.f11,s.f35,s.f36,s.f44⟩
theorem cmp_less (x y:Rat):(if x<y then (-1:Int) else if x=y then 0 else 1)<0↔x<y:=by
 by_cases h:x<y
 ·rw[if_pos h];exact⟨fun _=>h,fun _=>by omega⟩
 ·rw[if_neg h]
  refine⟨fun k=>?_,fun k=>absurd k h⟩
  split at k<;>omega
theorem kfilter_ok {h:IH} {v w:Value} {ll:List (List (Nat×Nat))} {t:List Nat} (hv:ShLs h v ll) (hw:WiSl h w t) :
  WV prog (.func (.func 24) #[] #[]) [v,w] h fun r h'=>Ext h h' ∧ ∃out,r=.tuple #[out,KI (filtE ll t)]∧(filtE ll t=0→ShLs h' out (filtLL ll t))∧(filtE ll t≠0→out=.slice none 0 0):=by
 obtain⟨_,_,hlen⟩:=hv.co
 have hlw:=hw.1.len (P:=prog) sl42
 have htb:=hw.2.1
 refine enter (nt:=115) (rs:=[.tmp 4,.tmp 5]) Proofs.Tryz.func24 rfl rfl rfl (by simp) ?_
 simp -dsimp (disch:=try exact dx) only[wpS,zE,zA]
 refine call (kcheck_ok hv) ?_
 rintro _ h1 ⟨X1,rfl⟩
 by_cases hk:kerOk ll
 case neg =>
  have e:filtE ll t=330:=by rw[filtE,if_pos hk]
  rw[e,kerE,if_neg hk]
  simp -dsimp (disch:=try exact dx) only[wpS,wpT,zE]
  exact⟨X1,_,rfl,fun h=>absurd h (by decide),fun _=>rfl⟩
 rw[kerE,if_pos hk]
 have hk1:=hk.1
 have hk2:=hk.2.1
 obtain⟨n,hn⟩ : ∃n,n=ll.length:=⟨_,rfl⟩
 rw[←hn] at hk1 hk2 hlen
 by_cases ht:t.length=n
 case neg =>
  have e:filtE ll t=2:=by rw[filtE,if_neg (fun h=>h hk),if_pos (.inl (by omega))]
  have d:(((t.length:Nat):Int) != ((n:Nat):Int))=true:=by simpa using fun h=>ht (by omega)
  rw[e]
  simp -dsimp (disch:=try exact dx) only[wpS,wpT,zE,hlen,hlw,d]
  exact⟨X1,_,rfl,fun h=>absurd h (by decide),fun _=>rfl⟩
 have d:(((t.length:Nat):Int) != ((n:Nat):Int))=false:=by simp[ht]
 simp -dsimp (disch:=try exact dx) only[wpS,wpT,zE,hlen,hlw,d]
 refine call (knegative_ok (least:=1) (hw.keep X1.keep) ⟨by omega,by omega⟩) ?_
 rintro _ h2 ⟨X2,rfl⟩
 by_cases hneg : ∃p∈t,wdI p<1
 case pos =>
  have e:filtE ll t=2:=by rw[filtE,if_neg (fun h=>h hk),if_pos (.inr hneg)]
  rw[decide_eq_true hneg,e]
  simp -dsimp (disch:=try exact dx) only[wpS,zE]
  exact⟨X1.trans X2,_,rfl,fun h=>absurd h (by decide),fun _=>rfl⟩
 rw[decide_eq_false hneg]
 have e:filtE ll t=(open Classical in if filtOk ll t then 0 else 6):=by rw[filtE,if_neg (fun h=>h hk),if_neg (fun h=>h.elim (fun h=>h (by omega)) hneg)]
 simp -dsimp (disch:=try exact dx) only[wpS,zE]
 refine call (kread_ok (hw.keep (X1.trans X2).keep) (by omega)) ?_
 rintro v7 h3 ⟨X3,sv7⟩
 have X03:=(X1.trans X2).trans X3
 have pt : ∀j,j<n→t.getD j 0<W8∧1≤wdI (t.getD j 0)∧(t.map wrat)[j]?=some (wrat (t.getD j 0)):=fun j hj=>by
  have hjt:j<t.length:=by omega
  have hm:t.getD j 0∈t:=by rw[List.getD_eq_getElem?_getD,List.getElem?_eq_getElem hjt];exact List.getElem_mem hjt
  refine⟨hw.2.2 _ hm,Classical.byContradiction fun hc=>hneg ⟨_,hm,by omega⟩,?_⟩
  rw[List.getElem?_map,List.getD_eq_getElem?_getD,List.getElem?_eq_getElem hjt];rfl
 have hv3:=hv.keep X03.keep
 simp -dsimp (disch:=try exact dx) only[wpS,zE,hlen]
 refine loop (fun m fr hh => ∃(i:Nat) (out:Value) (vs:List Value),i+m=n∧vs.length=i∧Ext h3 hh∧Acc hh h3.n 1 out i vs∧(∀k,k<i → ∃w,vs[k]?=some w∧ShSl hh w ((filtRow ll t k).map shq))∧(∀k,k<i → ∀q∈filtRow ll t k,QW q)∧fget fr 0=some v∧fget fr 7=some v7∧fget fr 8=some out∧fget fr 35=some (KN n)∧fget fr 36=some (KN i)) n
  ⟨0,.slice none 0 0,[],by omega,rfl,Ext.refl _,Acc.nil _ _ (by omega),fun k hk=>by omega,fun k hk=>by omega,by simp,by simp,by simp,by simp,by simp⟩ ?_
 rintro m fr hh ⟨i,out,vs,him,hvl,hE,hA,hR,hQ,f0,f7,f8,f35,f36⟩
 have nE:=hE.n
 simp -dsimp (disch:=try exact dx) only[wpS,f35,f36]
 refine bq_intro ?_ ?_<;>intro hc<;>simp only[decide_eq_true_eq,decide_eq_false_iff_not] at hc
 ·have hi:i<n:=by omega
  simp -dsimp (disch:=try exact dx) only[wpS,wpT,zE,ms153,f0,f36,hlen]
  obtain⟨v10,hv10⟩ : ∃x,x=Value.slice (some ⟨2*hh.n,0,none⟩) n (2*n+1):=⟨_,rfl⟩
  obtain⟨H1,hH1⟩ : ∃H,H=hh.new (.cells (repl n ZR) 4 none):=⟨_,rfl⟩
  have E1:Ext hh H1:=by rw[hH1];exact(Ext.refl hh).new _
  have n1:H1.n=hh.n+1:=by rw[hH1];rfl
  have r1:RowB H1 4 hh.n v10 n (repl n ZR):=⟨hv10,by rw[repl_len];rfl,by omega,by omega,by omega,by rw[hH1];simp (disch:=try exact dx) only[get_new_same]⟩
  rw[←hv10,←hH1]
  clear hH1 hv10
  refine call (rfrom_ok 1 ⟨by omega,by omega⟩) ?_
  rintro r4 h4 ⟨X4,p4⟩
  have m4:=X4.n
  obtain⟨a3,s3,b3,t3,rfl,_,_,d1,o1,d2,o2,o3,o4⟩:=p4.parts
  simp -dsimp (disch:=try exact dx) only[wpS,wpT,zE,zL,zA,zc139,st139,f0,hlen,o1,o2,o3,o4]
  have E5:Ext h4 ((h4.new (.cells ZR 0 none)).put h4.n (.cells [a3,s3,b3,t3] 0 none)):=((Ext.refl h4).new _).put (Nat.le_refl _) _
  refine loop (fun m2 fr H => ∃(j:Nat) (cs:List Value),j+m2=n∧FJ hh H fr v v7 out v10 n i j j h4.n (goQ ll t i) cs∧fget fr 45=some (KN j)) n
   ⟨0,_,by omega,⟨(E1.trans X4).trans E5,r1.ext (X4.trans E5),fun k hk=>by omega,by omega,by simp,⟨a3,s3,b3,t3,by simp (disch:=try exact dx) only[get_put_same],p4.keep E5.keep⟩,by simp[f0],by simp[f7],by simp[f8],by simp,by simp,by simp,by simp[f35],by simp[f36],by simp⟩,by simp⟩ ?_
  clear f0 f7 f8 f35 f36 r1 E1 X4 p4 E5
  rintro m2 fr H ⟨j,cs,hjm,s,f45⟩
  simp -dsimp (disch:=try exact dx) only[wpS,s.f44,f45]
  refine bq_intro ?_ ?_<;>intro hc2<;>simp only[decide_eq_true_eq,decide_eq_false_iff_not] at hc2
  ·have hj:j<n:=by omega
   obtain⟨ri,p,e1,l1,e2,ok1,nn1,k1⟩:=kerOk_at hk (i:=i) (j:=j) (by omega) (by omega)
   obtain⟨rj,q,e3,l3,e4,ok2,nn2,k2⟩:=kerOk_at hk (i:=j) (j:=i) (by omega) (by omega)
   have hvh:=hv3.keep hE.keep
   obtain⟨wi,A1,A2,A3⟩:=hvh.atAll e1
   obtain⟨wj,B1,B2,B3⟩:=hvh.atAll e3
   have Lp:=fun h' (K:Keep hh h')=>A2.ld K e2
   have Lq:=fun h' (K:Keep hh h')=>B2.ld K e4
   have ip:=A2.1.idx es60 (P:=prog) (k:=.i64) (j:=j) (by omega)
   have iq:=B2.1.idx es60 (P:=prog) (k:=.i64) (j:=i) (by omega)
   have wp:=A2.2.2 p (List.mem_of_getElem? e2)
   have wq:=B2.2.2 q (List.mem_of_getElem? e4)
   have K0:=s.E.keep
   simp -dsimp (disch:=try exact dx) only[wpS,wpT,zE,f45]
   refine drawn [(11,[7]),(14,[7])] (by kernel_rfl) (by kernel_rfl) rfl ?_
   simp -dsimp (disch:=try exact dx) only[wpS,zE,s.f0,s.f9,A3,A1 H K0,ip,Lp H K0]
   refine call (shread_ok p.1 p.2 wp.1 wp.2) ?_
   rintro r5 h5 ⟨X5,p5⟩
   have p5:=p5.rat ok1
   rw[←k1] at p5
   have K5:=(s.E.trans X5).keep
   simp -dsimp (disch:=try exact dx) only[wpS,zE,s.f0,s.f9,B3,B1 h5 K5,iq,Lq h5 K5]
   refine call (shread_ok q.1 q.2 wq.1 wq.2) ?_
   rintro r6 h6 ⟨X6,p6⟩
   have p6:=p6.rat ok2
   rw[←k2] at p6
   have X56:=X5.trans X6
   have p5:=p5.keep X6.keep
   obtain⟨x1,x2,x3,x4,rfl,_,_,d1,o1,d2,o2,o3,o4⟩:=p5.parts
   obtain⟨y1,y2,y3,y4,rfl,_,_,d5,o5,d6,o6,o7,o8⟩:=p6.parts
   simp -dsimp (disch:=try exact dx) only[wpS,wpT,zE,zL,zA,zc139,st139,o1,o2,o3,o4,o5,o6,o7,o8]
   refine⟨by repeat' first|refine wpSteady_c2 ?_ ?_|refine wpSteady_t2 ?_ ?_|exact wpSteady_one rfl rfl rfl rfl (steady_load rfl (B1 _ K5) (B1 _ K0))|exact wpSteady_one rfl rfl rfl rfl (steady_load rfl (Lq _ K5) (Lq _ K0)),?_⟩
   obtain⟨H7,hH7⟩ : ∃X,X=(((h6.new (.cells ZR 0 none)).new (.cells ZR 0 none)).put h6.n (.cells [x1,x2,x3,x4] 0 none)).put (h6.n+1) (.cells [y1,y2,y3,y4] 0 none):=⟨_,rfl⟩
   have E7:Ext h6 H7:=by rw[hH7];exact((((Ext.refl h6).new _).new _).put (Nat.le_refl _) _).put (Nat.le_succ _) _
   have n7:H7.n=h6.n+2:=by rw[hH7];rfl
   have gx:H7.ext.get h6.n=some (.cells [x1,x2,x3,x4] 0 none):=by rw[hH7];simp (disch:=try exact dx) only[get_put_same,get_put_old]
   have gy:H7.ext.get (h6.n+1)=some (.cells [y1,y2,y3,y4] 0 none):=by rw[hH7];simp (disch:=try exact dx) only[get_put_same]
   rw[←hH7]
   clear hH7
   have s7:=s.ext (X56.trans E7)
   have p5:=p5.keep E7.keep
   have p6:=p6.keep E7.keep
   have hb6:=s7.E.n
   have hb66:hh.n<h6.n:=by have:=(s.E.trans X56).n;have:=s.b1;have:=(s.ext X56).b2;omega
   obtain⟨H8,st8,s8,kz8,n8,gk8⟩:=s7.set hj (Nat.le_refl j) (x1:=x1) (x2:=x2) (x3:=x3) (x4:=x4) (by simp[o1,o2,o3,o4])
   have ix : ∀k,k<n→indexAddr prog 153 v10 (KN k)=some (elemAddr v10 (k*4)):=fun k hk=>s7.rb.sl.idx es153 (k:=.i64) hk
   simp -dsimp (disch:=try exact dx) only[wpS,wpT,zE,zL,zA,ld139,s.f10,row_of gx,tk4',ix j hj,st8]
   have hcl:=s7.rb.len
   have q5:=p5.keepZ kz8
   have q6:=p6.keepZ kz8
   have at8:RatAt PRat H8 (IH.splice cs (j*4) [x1,x2,x3,x4]) j (kAt ll i j):=RatAt.set (by omega) q5
   have gx8:H8.ext.get h6.n=some (.cells [x1,x2,x3,x4] 0 none):=(gk8 _ (by omega)).trans gx
   have gy8:H8.ext.get (h6.n+1)=some (.cells [y1,y2,y3,y4] 0 none):=(gk8 _ (by omega)).trans gy
   clear p5 p6 s7 gx gy st8 kz8 gk8
   have sv:=sv7.keep kept_p hE.keep
   have sv0 : ∃cs,SlOf hh 4 v7 (t.map wrat).length cs:=⟨_,sv.choose_spec.1⟩
   obtain⟨cst,svt⟩:=sv0
   rw[List.length_map] at svt
   obtain⟨u1,u2,u3,u4,Lu,pu⟩:=sv.atAll kept_p (pt j hj).2.2 ag139 sz139 (P:=prog)
   obtain⟨w1,w2,w3,w4,Lw,pw⟩:=sv.atAll kept_p (pt i hi).2.2 ag139 sz139 (P:=prog)
   have iu:=svt.idx es153 (P:=prog) (k:=.i64) (j:=j) (by omega)
   have iw:=svt.idx es153 (P:=prog) (k:=.i64) (j:=i) (by omega)
   have K8:=s8.E.keep
   refine drawn [(9,[5])] (by kernel_rfl) (by kernel_rfl) rfl ?_
   simp -dsimp (disch:=try exact dx) only[wpS,wpT,zE,zL,zA,ld139,s.f7,row_of gy8,tk4',iu,Lu H8 K8]
   have qb1:QB 512 (kAt ll i j):=by rw[k1];exact qb512 wp.1 wp.2 ok1
   have qb2:QB 512 (kAt ll j i):=by rw[k2];exact qb512 wq.1 wq.2 ok2
   have qb3:=wrat_qb (pt j hj).1
   have qb4:=wrat_qb (pt i hi).1
   refine call (rtimes_ok q6 (pu.keep K8) qb2 qb3 (by omega)) ?_
   rintro r9 h9 ⟨X9,p9⟩
   have K9:=(s8.E.trans X9).keep
   simp -dsimp (disch:=try exact dx) only[wpS,zE,s.f7,s.f9,iw,Lw h9 K9]
   refine call (rover_ok p9 (pw.keep K9) (qb2.mul qb3) qb4 (by omega) (wrat_ne (pt i hi).2.1)) ?_
   rintro r10 h10 ⟨X10,p10⟩
   have X90:=X9.trans X10
   have qb10:=(qb2.mul qb3).div qb4 (wrat_ne (pt i hi).2.1)
   obtain⟨bk,hbk⟩ : ∃x,x=kAt ll j i*wrat (t.getD j 0) / wrat (t.getD i 0):=⟨_,rfl⟩
   have hgo:goQ ll t i j=if bk<kAt ll i j then bk else kAt ll i j:=by rw[hbk];rfl
   rw[←hbk] at p10 qb10
   clear hbk p9 qb2 qb3 qb4
   obtain⟨z1,z2,z3,z4,rfl,_,_,d9,o9,d10,o10,o11,o12⟩:=p10.parts
   simp -dsimp (disch:=try exact dx) only[wpS,wpT,zE,zL,zA,zc139,st139,o9,o10,o11,o12]
   refine⟨by repeat' first|refine wpSteady_c2 ?_ ?_|refine wpSteady_t2 ?_ ?_|exact wpSteady_one rfl rfl rfl rfl (steady_load rfl (Lw _ K9) (Lw _ K8)),?_⟩
   obtain⟨H11,hH11⟩ : ∃X,X=(h10.new (.cells ZR 0 none)).put h10.n (.cells [z1,z2,z3,z4] 0 none):=⟨_,rfl⟩
   have E11:Ext h10 H11:=by rw[hH11];exact((Ext.refl h10).new _).put (Nat.le_refl _) _
   have n11:H11.n=h10.n+1:=by rw[hH11];rfl
   have gz:H11.ext.get h10.n=some (.cells [z1,z2,z3,z4] 0 none):=by rw[hH11];simp (disch:=try exact dx) only[get_put_same]
   rw[←hH11]
   clear hH11
   have X811:=X90.trans E11
   have gx11:=X811.kept (by omega) gx8
   simp -dsimp (disch:=try exact dx) only[wpS,wpT,zE,zL,zA,ld139,row_of gz,row_of gx11,tk4']
   refine call (rcmp_ok (p10.keep E11.keep) (q5.keep X811.keep) qb10 qb1 (by omega)) ?_
   rintro _ h12 ⟨X12,rfl⟩
   obtain⟨zz,hz,hzc⟩ : ∃z:Int,(if bk<kAt ll i j then (-1:Int) else if bk=kAt ll i j then 0 else 1)=z∧(z<0↔bk<kAt ll i j):=⟨_,rfl,cmp_less _ _⟩
   rw[hz]
   have X812:=X811.trans X12
   have s12:=s8.ext X812
   have gz12:=X12.kept (by omega) gz
   have at12:=at8.mono fun v p=>p.keep X812.keep
   have pz12:=p10.keep (E11.trans X12).keep
   simp -dsimp (disch:=try exact dx) only[wpS,zE]
   refine bq_cut (fun fr' h' => ∃cs',FJ hh h' fr' v v7 out v10 n i j (j+1) h4.n (goQ ll t i) cs'∧fget fr' 12=some (KN j)∧fget fr' 45=some (KN j)) (fun hb=>?_) (fun hb=>?_) ?_
   ·simp only[decide_eq_true_eq] at hb
    rw[if_pos (hzc.1 hb)] at hgo
    obtain⟨H13,st13,s13,kz13,n13,gk13⟩:=s12.set hj (Nat.le_refl j) (x1:=z1) (x2:=z2) (x3:=z3) (x4:=z4) (by simp[o9,o10,o11,o12])
    simp -dsimp (disch:=try exact dx) only[wpS,wpT,zE,zL,zA,ld139,s.f10,row_of gz12,tk4',ix j hj,st13]
    refine⟨_,(s13.more fun k hk=>?_).fr (by simp[s.f0]) (by simp[s.f7]) (by simp[s.f8]) (by simp[s.f9]) (by simp[s.f10]) (by simp[s.f11]) (by simp[s.f35]) (by simp[s.f36]) (by simp[s.f44]),by simp,by simp[f45]⟩
    by_cases hkj:k=j
    ·subst hkj
     rw[hgo]
     exact RatAt.set (by rw[s12.rb.len];omega) (pz12.keepZ kz13)
    ·exact s13.done k (by omega)
   ·simp only[decide_eq_false_iff_not] at hb
    rw[if_neg (fun h=>hb (hzc.2 h))] at hgo
    simp -dsimp (disch:=try exact dx) only[wpS,wpT]
    refine⟨_,(s12.more fun k hk=>?_).fr (by simp[s.f0]) (by simp[s.f7]) (by simp[s.f8]) (by simp[s.f9]) (by simp[s.f10]) (by simp[s.f11]) (by simp[s.f35]) (by simp[s.f36]) (by simp[s.f44]),by simp,by simp[f45]⟩
    by_cases hkj:k=j
    ·subst hkj
     rw[hgo]
     exact at12
    ·exact s12.done k (by omega)
   ·rintro fr' h' ⟨cs',s',g12,g45⟩
    have gq : ∀k,k<n→QB 1536 (goQ ll t i k):=fun k hk'=>by
     obtain⟨_,a,b1,_,b2,b3,_,b4⟩:=kerOk_at hk (i:=i) (j:=k) (by omega) (by omega)
     obtain⟨_,c,b5,_,b6,b7,_,b8⟩:=kerOk_at hk (i:=k) (j:=i) (by omega) (by omega)
     have w1:=(hvh.atAll b1).choose_spec.2.1.2.2 a (List.mem_of_getElem? b2)
     have w2:=(hvh.atAll b5).choose_spec.2.1.2.2 c (List.mem_of_getElem? b6)
     exact goQ_qb (by rw[b4];exact qb512 w1.1 w1.2 b3) (by rw[b8];exact qb512 w2.1 w2.2 b7) (pt k hk').1 (pt i hi).1 (pt i hi).2.1
    by_cases hij:i=j
    ·have d:(((i:Nat):Int) != ((j:Nat):Int))=false:=by simp[hij]
     simp -dsimp (disch:=try exact dx) only[wpS,zE,s'.f9,g12,g45,d]
     have eo:offS (goQ ll t i) i (j+1)=offS (goQ ll t i) i j:=by rw[offS,if_pos hij.symm]
     refine⟨m2 - 1,by omega,j+1,cs',by omega,(s'.same eo).fr (by simp[s'.f0]) (by simp[s'.f7]) (by simp[s'.f8]) (by simp[s'.f9]) (by simp[s'.f10]) (by simp[s'.f11]) (by simp[s'.f35]) (by simp[s'.f36]) (by simp[s'.f44]),by simp⟩
    ·have d:(((i:Nat):Int) != ((j:Nat):Int))=true:=by simpa using fun h=>hij (by omega)
     obtain⟨a,sa,b,u,hbox,pbox⟩:=s'.box
     obtain⟨c1,c2,c3,c4,lrow,prow⟩:=s'.rb.ld (s'.done j (by omega)) hj ag139 sz139 (P:=prog)
     simp -dsimp (disch:=try exact dx) only[wpS,wpT,zE,zL,zA,ld139,s'.f9,s'.f10,s'.f11,g12,d,row_of hbox,tk4',ix j hj,lrow]
     refine call (rminus_ok pbox prow (offS_qb fun k hk'=>gq k (by omega)) (gq j hj) (by omega)) ?_
     rintro r15 h15 ⟨X15,p15⟩
     have eo:offS (goQ ll t i) i (j+1)=offS (goQ ll t i) i j - goQ ll t i j:=by rw[offS,if_neg fun h=>hij h.symm]
     rw[←eo] at p15
     obtain⟨z5,z6,z7,z8,rfl,_,_,d13,o13,d14,o14,o15,o16⟩:=p15.parts
     have hbox2:=X15.kept s'.b2 hbox
     simp -dsimp (disch:=try exact dx) only[wpS,wpT,zE,zL,zA,st139,s'.f11,g45,hbox2,o13,o14,o15,o16]
     refine⟨m2 - 1,by omega,j+1,cs',by omega,((s'.ext X15).off p15).fr (by simp[s'.f0]) (by simp[s'.f7]) (by simp[s'.f8]) (by simp[s'.f9]) (by simp[s'.f10]) (by simp[s'.f11]) (by simp[s'.f35]) (by simp[s'.f36]) (by simp[s'.f44]),by simp⟩
  ·obtain rfl:j=n:=by omega
   obtain⟨a,sa,b,u,hbox,pbox⟩:=s.box
   obtain⟨_,_,_,_,he,_,_,_,o1,_,o2,o3,o4⟩:=pbox.parts
   cases he
   obtain⟨st,rb'⟩:=s.rb.set (P:=prog) (t:=139) sz139 hi (x:=.agg #[a,sa,b,u]) (xs:=[a,sa,b,u]) rfl rfl (by simp[o1,o2,o3,o4])
   have kz:KeepZ 1 H (H.put hh.n (.cells (IH.splice cs (i*4) [a,sa,b,u]) 4 none)):=(KeepZ.refl 1 H).put s.rb.got (by decide) _
   have E16:Ext hh (H.put hh.n (.cells (IH.splice cs (i*4) [a,sa,b,u]) 4 none)):=s.E.put (Nat.le_refl _) _
   have hcl:=s.rb.len
   have hrow:ElSl PRat (H.put hh.n (.cells (IH.splice cs (i*4) [a,sa,b,u]) 4 none)) v10 (filtRow ll t i):=by
    refine⟨_,by rw[filtRow_len,←hn];exact rb'.sl,ElCs_of (by rw[filtRow_len,←hn];exact rb'.len) fun k q hq=>?_,by rw[filtRow_len];omega⟩
    have hkn:k<ll.length:=by have:=(List.getElem?_eq_some_iff.1 hq).1;rwa [filtRow_len] at this
    rw[filtRow_at hkn] at hq
    cases hq
    by_cases hki:k=i
    ·subst hki
     rw[filtQ,if_pos rfl,←hn]
     exact RatAt.set (by omega) (pbox.keepZ kz)
    ·rw[filtQ,if_neg hki]
     exact((s.done k (by omega)).mono fun v p=>p.keepZ kz).other (by omega) hki
   obtain⟨H16,hH16⟩ : ∃X,X=H.put hh.n (.cells (IH.splice cs (i*4) [a,sa,b,u]) 4 none):=⟨_,rfl⟩
   rw[←hH16] at st E16 hrow
   clear hH16 rb' kz
   have ix:indexAddr prog 153 v10 (KN i)=some (elemAddr v10 (i*4)):=s.rb.sl.idx es153 (k:=.i64) hi
   simp -dsimp (disch:=try exact dx) only[wpS,wpT,zE,zL,zA,ld139,s.f9,s.f10,s.f11,row_of hbox,tk4',ix,st]
   refine call (ktold_ok hrow (by rw[filtRow_len];omega)) ?_
   rintro r17 h17 ⟨X17,q1,q2⟩
   have E17:=E16.trans X17
   by_cases hall : ∀q∈filtRow ll t i,QW q
   ·obtain⟨w,rfl,sw⟩:=q1 hall
    have n17:=E17.n
    obtain⟨out',h18,hap,hA8,hG8,hE8⟩:=(hA.ext E17).app1 (P:=prog) (t:=38) ap38 (x:=w) sw.co.2 (by omega) (by omega) (hE.trans E17) (Nat.le_refl _)
    simp -dsimp (disch:=try exact dx) only[wpS,wpT,zE,zL,zA,bs38,ba38_38,s.f8,s.f36,sw.co,hap]
    refine⟨m - 1,by omega,i+1,out',vs ++ [w],by omega,by simp[hvl],hE8,hA8,fun k hk'=>?_,fun k hk'=>?_,by simp[s.f0],by simp[s.f7],by simp,by simp[s.f35],by simp⟩
    ·by_cases hki:k=i
     ·subst hki
      exact⟨w,by rw[←hvl];simp,sw.keep hG8.keep⟩
     ·obtain⟨w',h1,h2⟩:=hR k (by omega)
      exact⟨w',by rw[List.getElem?_append_left (by omega)];exact h1,(h2.keep E17.keep).keep hG8.keep⟩
    ·by_cases hki:k=i
     ·subst hki;exact hall
     ·exact hQ k (by omega)
   ·obtain rfl:=q2 hall
    rw[e,if_neg fun h=>hall (h i (by omega))]
    simp -dsimp (disch:=try exact dx) only[wpS,wpT,zE]
    exact⟨(X03.trans hE).trans E17,_,rfl,fun h=>absurd h (by decide),fun _=>rfl⟩
 ·obtain rfl:i=n:=by omega
  simp -dsimp (disch:=try exact dx) only[wpS,wpT,zE,f8]
  have hfo:filtOk ll t:=fun k hk=>hQ k (by omega)
  rw[e,if_pos hfo]
  refine⟨X03.trans hE,out,rfl,fun _=>⟨vs,by rw[filtLL_len,←hn];exact hA.sl,by rw[filtLL_len];omega,fun k x hx=>?_⟩,fun h=>absurd rfl h⟩
  have hkl:k<ll.length:=by have:=(List.getElem?_eq_some_iff.1 hx).1;rwa [filtLL_len] at this
  rw[filtLL_at hkl] at hx
  cases hx
  exact hR k (by omega)
end Go.Id

namespace Go.Id
open Go
def FamZ (h:IH) (sz:Nat) (v:Value):Prop:=∀k n c,v=.slice (some ⟨2*k,0,none⟩) n c → ∀cs f rest,h.ext.get k=some (.cells cs sz (some f))→h.fams.get f=some (k :: rest) → ∀j∈rest,∃c' f',h.ext.get j=some (.cells c' sz f')
def AccF (h:IH) (n0 sz:Nat) (v:Value) (n:Nat) (cs:List Value):Prop:=Acc h n0 sz v n cs∧FamZ h sz v
end Go.Id

namespace Go.Id
open Go
end Go.Id

namespace Go.Id
open Go
def pQ (g:Nat→Rat) (i j:Nat):Rat:=if i=j then 0 else g j
def sumP (g:Nat→Rat) (i:Nat):Nat→Rat
 | 0=>0
 | j+1=>sumP g i j+pQ g i j
structure FR (hh H:IH) (fr:Fr) (v v6 out rw:Value) (i d e b10:Nat) (g:Nat→Rat) (cs:List Value):Prop where
 E:Ext hh H
 acc:AccF H hh.n 4 rw e cs
 els:ElCs RRat H ((List.range e).map (pQ g i)) cs
 b1:hh.n≤b10
 b2:b10<H.n
 box : ∃a s b u,H.ext.get b10=some (.cells [a,s,b,u] 0 none)∧RRat H (.agg #[a,s,b,u]) (sumP g i d)
 f0:fget fr 0=some v
 f6:fget fr 6=some v6
 f7:fget fr 7=some out
 f8:fget fr 8=some (KN i)
 f9:fget fr 9=some rw
 f10:fget fr 10=some (ptr (2*b10) 0)
section
variable {hh H H':IH} {fr gr:Fr} {v v6 out rw:Value} {i d e b10:Nat} {g:Nat→Rat} {cs:List Value}
end
end Go.Id

namespace Go.Id
open Go
set_option maxHeartbeats 16000000
open Classical in
noncomputable def levE (ll:List (List (Nat×Nat))) (ws:List Nat) (s:List Int) (level:Int):Int:=if ¬kerOk ll then 330 else if tgErr ws s level≠0 then tgErr ws s level else if s.length≠ll.length then 2 else filtE ll (mapZ (tgtZ s level) ws ws.length)
theorem teLevel_ok {h:IH} {v w x:Value} {ll:List (List (Nat×Nat))} {ws:List Nat} {s:List Int} {level:Int} (hv:ShLs h v ll) (hw:WiSl h w ws) (hs:InSl h x s) (hl:In64 level) :
  WV Proofs.Tryz.prog (.func (.func 20) #[] #[]) [v,w,x,KI level] h fun r h'=>Ext h h' ∧ ∃out,r=.tuple #[out,KI (levE ll ws s level)]∧(levE ll ws s level=0→ShLs h' out (filtLL ll (mapZ (tgtZ s level) ws ws.length)))∧(levE ll ws s level≠0→out=.slice none 0 0):=by
 obtain⟨_,_,hlen⟩:=hv.co
 have hls:=hs.1.len (P:=Proofs.Tryz.prog) sl25
 refine enter (nt:=38) (rs:=[.tmp 8,.tmp 9]) Proofs.Tryz.func20 rfl rfl rfl (by simp) ?_
 simp -dsimp (disch:=try exact dx) only[wpS,Nat.reduceEqDiff,Nat.reduceAdd]
 refine call (kcheck_ok hv) ?_
 rintro _ h1 ⟨X1,rfl⟩
 by_cases hk:kerOk ll
 case neg =>
  have e:levE ll ws s level=330:=by rw[levE,if_pos hk]
  rw[e,kerE,if_neg hk]
  simp -dsimp (disch:=try exact dx) only[wpS,wpT,Nat.reduceEqDiff]
  exact⟨X1,_,rfl,fun h=>absurd h (by decide),fun _=>rfl⟩
 rw[kerE,if_pos hk]
 simp -dsimp (disch:=try exact dx) only[wpS,wpT,Nat.reduceEqDiff]
 refine call (teTargets_ok (hw.keep X1.keep) (hs.keep X1.keep) hl) ?_
 rintro _ h2 ⟨X2,t,rfl,q1,q2⟩
 have X12:=X1.trans X2
 by_cases ht:tgErr ws s level=0
 case neg =>
  have e:levE ll ws s level=tgErr ws s level:=by rw[levE,if_neg (fun h=>h hk),if_pos ht]
  have d:(tgErr ws s level != 0)=true:=by simpa using ht
  rw[e]
  simp -dsimp (disch:=try exact dx) only[wpS,Nat.reduceEqDiff,d]
  exact⟨X12,_,rfl,fun h=>absurd h ht,fun _=>rfl⟩
 rw[ht]
 by_cases hn:s.length=ll.length
 case neg =>
  have e:levE ll ws s level=2:=by rw[levE,if_neg (fun h=>h hk),if_neg (fun h=>h ht),if_pos hn]
  have d:(((s.length:Nat):Int) != ((ll.length:Nat):Int))=true:=by simpa using fun h=>hn (by omega)
  rw[e]
  simp -dsimp (disch:=try exact dx) only[wpS,wpT,Nat.reduceEqDiff,hlen,hls,d]
  exact⟨X12,_,rfl,fun h=>absurd h (by decide),fun _=>rfl⟩
 have e:levE ll ws s level=filtE ll (mapZ (tgtZ s level) ws ws.length):=by rw[levE,if_neg (fun h=>h hk),if_neg (fun h=>h ht),if_neg (fun h=>h hn)]
 have d:(((s.length:Nat):Int) != ((ll.length:Nat):Int))=false:=by simp[hn]
 simp -dsimp (disch:=try exact dx) only[wpS,wpT,Nat.reduceEqDiff,hlen,hls,d]
 refine call (kfilter_ok (hv.keep X12.keep) (q1 ht)) ?_
 rintro _ h3 ⟨X3,out,rfl,q3,q4⟩
 rw[e]
 simp -dsimp (disch:=try exact dx) only[wpS,Nat.reduceEqDiff]
 exact⟨X12.trans X3,out,rfl,q3,q4⟩
end Go.Id

namespace Go.Id
open Go
def SimB (b:Nat) (h h':IH):Prop:=h'.n=h.n∧h'.base=h.base∧(∀j,j≠b→h'.ext.get j=h.ext.get j)∧h'.fams=h.fams
theorem SimB.refl (b:Nat) (h:IH):SimB b h h:=⟨rfl,rfl,fun _ _=>rfl,rfl⟩
theorem SimB.put {b:Nat} {h h':IH} (s:SimB b h h') (o:IObj):SimB b h (h'.put b o):=⟨s.1,s.2.1,fun j hj=>(get_put_old _ _ hj).trans (s.2.2.1 j hj),s.2.2.2⟩
end Go.Id

namespace Go.Id
open Go
end Go.Id

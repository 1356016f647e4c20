/-
  Contracts: package outlier: Path, Through, all that they return. A bent kernel: right only if small; the lengths of what is drawn.
-/
import Derived.Test.YtjhnilfelokpcaaGreatOutlierPathsAq
import Derived.Test.YtjhnilfelokpcaaGreatOutlierPathsBl
import Derived.Test.YtjhnilfelokpcaaGreatOutlierPathsBq
import Derived.Test.YtjhnilfelokpcaaGreatOutlierPathsBm
import Derived.Test.YtjhnilfelokpcaaGreatOutlierPathsBe
import Derived.Test.YtjhnilfelokpcaaGreatOutlierPathsBj
import Derived.Test.YtjhnilfelokpcaaGreatOutlierPathsBf
import Derived.Test.YtjhnilfelokpcaaGreatOutlierPathsBb
set_option linter.unusedVariables false
set_option linter.unusedSimpArgs false
set_option linter.defProp false
set_option linter.deprecated false
namespace Go.Id
open Go
open Go.Proofs.Tryz (prog)
open Nat renaming reduceAdd→zA,reduceEqDiff→zE,reduceLeDiff→zL
set_option maxHeartbeats 16000000
noncomputable def kK (ll:List (List (Nat×Nat))) (x n:Int):Int:=open Classical in if ¬fk ll then 330 else if x<0∨(ll.length:Int)≤x∨n<0∨20<n then 2 else 0
theorem lD {ll:List (List (Nat×Nat))} {x n:Int} (h:kK ll x n=0):fk ll ∧ ∃X N:Nat,x=X∧n=N∧X<ll.length∧N≤20:=by
 unfold kK at h
 split at h
 ·omega
 rename_i hk
 split at h
 ·omega
 rename_i hc
 have hk:=Classical.not_not.1 hk
 exact⟨hk,x.toNat,n.toNat,by omega,by omega,by omega,by omega⟩
theorem BF {h:IH} {v:Value} {ll:List (List (Nat×Nat))} {x n:Int} (hv:hP h v ll) :
  WV prog (.func (.func 96) #[] #[]) [v,KI x,KI n] h fun r h'=>Ext h h'∧r=KI (kK ll x n):=by
 obtain⟨cv,co,hlen⟩:=hv.co
 unfold kK
 refine enter (nt:=29) (rs:=[.tmp 6]) Proofs.Tryz.func96 rfl rfl rfl (by simp) ?_
 simp -dsimp (disch:=try exact dx) only[wpS,zE,zA]
 refine call (BR hv) ?_
 rintro _ h1 ⟨X1,rfl⟩
 unfold PE
 by_cases hk:fk ll
 case neg =>
  rw[if_neg hk,if_pos hk]
  simp -dsimp (disch:=try exact dx) only[wpS,wpT,zE]
  exact X1
 rw[if_pos hk,if_neg (fun h=>h hk)]
 by_cases c1:x<0
 ·rw[if_pos (.inl c1)]
  simp -dsimp (disch:=try exact dx) only[wpS,wpT,zE]
  exact X1
 by_cases c2:(ll.length:Int)≤x
 ·rw[if_pos (.inr (.inl c2))]
  simp -dsimp (disch:=try exact dx) only[wpS,wpT,zE,hlen]
  exact X1
 by_cases c3:n<0
 ·rw[if_pos (.inr (.inr (.inl c3)))]
  simp -dsimp (disch:=try exact dx) only[wpS,wpT,zE,hlen]
  exact X1
 by_cases c4:20<n
 ·rw[if_pos (.inr (.inr (.inr c4)))]
  simp -dsimp (disch:=try exact dx) only[wpS,wpT,zE,hlen]
  exact X1
 rw[if_neg (by omega)]
 simp -dsimp (disch:=try exact dx) only[wpS,wpT,zE,hlen]
 exact X1
noncomputable def qh (ll:List (List (Nat×Nat))) (x n:Int) (s:Nat):List Int×Nat×Int:=if kK ll x n≠0 then ([],0,kK ll x n) else match fx ll n.toNat [x.toNat] s with
 | none=>([],0,9)
 | some q=>(pI q.1,q.2,0)
def O6 (h:IH) (F:List Int×Nat×Int) (r:Value):Prop:=∃out,r=.tuple #[out,chV F.2.1,KI F.2.2]∧bI h 1 out F.1.length (F.1.map KI)
theorem sU (h:IH):bI h 1 (.slice none 0 0) ([]:List Int).length (([]:List Int).map KI):=bI.nil h (by decide)
theorem L6 {h:IH} {v:Value} {ll:List (List (Nat×Nat))} {x n:Int} {s:Nat} (hv:hP h v ll) (hk:fk ll→oT ll) (hs:s<18446744073709551616) :
  WV prog (.func (.func 29) #[] #[]) [v,KI x,KI n,chV s] h fun r h'=>Ext h h'∧O6 h' (qh ll x n s) r:=by
 by_cases c:kK ll x n=0
 ·obtain⟨ho,X,N,rfl,rfl,hX,hN⟩:=lD c
  refine(Pa hv (hk ho) ho hX hN hs).mono fun r h' ⟨e,hr⟩=>⟨e,?_⟩
  unfold qh
  rw[if_neg (fun h=>h c),Int.toNat_natCast,Int.toNat_natCast]
  revert hr
  rcases fx ll N [X] s with _|q<;>intro hr
  ·exact⟨_,hr,sU h'⟩
  ·obtain⟨out,rfl,hG⟩:=hr
   exact⟨out,rfl,by have:=hG.sl;rw[←l4] at this;exact this⟩
 ·have ef:qh ll x n s=([],0,kK ll x n):=by unfold qh;rw[if_pos c]
  rw[ef]
  obtain⟨H0,hH0⟩ : ∃H,H=(h.new (.cells [K64 s] 0 none)).new (.cells [.int .u64 0] 0 none):=⟨_,rfl⟩
  have n0:H0.n=h.n+2:=by rw[hH0];rfl
  have E0:Ext h H0:=by rw[hH0];exact((Ext.refl h).new _).new _
  have c9:H0.ext.get (h.n+1)=some (.cells [.int .u64 0] 0 none):=by rw[hH0];simp (disch:=try exact dx) only[ab]
  refine enter (nt:=29) (rs:=[.tmp 8,.cell 9 63,.tmp 10]) Proofs.Tryz.func29 rfl rfl rfl (by simp) ?_
  simp -dsimp (disch:=try exact dx) only[wpS,zE,zA,jr,chV]
  rw[←hH0]
  clear hH0
  refine call (BF (hv.ae E0.ae)) ?_
  rintro _ h1 ⟨X1,rfl⟩
  have m1:=X1.n
  have d:(kK ll x n != 0)=true:=by simpa using c
  have k9:=X1.kept (by omega) c9
  simp -dsimp (disch:=try exact dx) only[wpS,wpT,zE,zL,eX,dj,bZ,d,k9,tk1]
  exact⟨(E0.trans X1).put (by omega) _,_,rfl,sU _⟩
noncomputable def mz (ll:List (List (Nat×Nat))) (x n s:Nat):Option (List Nat×Nat×Nat):=match fM (n+1) TR s with
 | none=>none
 | some (k,s1)=>match fx ll k [x] s1 with
  | none=>none
  | some (b,s2)=>match fx ll (n - k) [x] s2 with
   | none=>none
   | some (o,s3)=>some (b.reverse ++ o.drop 1,k,s3)
def N4 (h:IH):Option (List Nat×Nat×Nat)→Value→Prop
 | none,r=>r=.tuple #[.slice none 0 0,KI 0,chV 0,KI 9]
 | some q,r => ∃out,r=.tuple #[out,KN q.2.1,chV q.2.2,KI 0]∧bI h 1 out q.1.length ((pI q.1).map KI)
theorem Er {h:IH} {v:Value} {ll:List (List (Nat×Nat))} {x n s:Nat} (hv:hP h v ll) (hk:oT ll) (hko:fk ll) (hx:x<ll.length) (hn:n≤20) (hs:s<18446744073709551616) :
  WV prog (.func (.func 31) #[] #[]) [v,KN x,KN n,chV s] h fun r h'=>Ext h h'∧N4 h' (mz ll x n s) r:=by
 obtain⟨cv,co,hlen⟩:=hv.co
 obtain⟨H0,hH0⟩ : ∃H,H=(h.new (.cells [K64 s] 0 none)).new (.cells [.int .u64 0] 0 none):=⟨_,rfl⟩
 have n0:H0.n=h.n+2:=by rw[hH0];rfl
 have E0:Ext h H0:=by rw[hH0];exact((Ext.refl h).new _).new _
 have c7:H0.ext.get h.n=some (.cells [K64 s] 0 none):=by rw[hH0];simp (disch:=try exact dx) only[ab,ar]
 have c9:H0.ext.get (h.n+1)=some (.cells [.int .u64 0] 0 none):=by rw[hH0];simp (disch:=try exact dx) only[ab]
 have ok0:kX ll [x]:=⟨fun y hy=>by rw[List.mem_singleton.1 hy];exact hx,fun i hi=>by simp at hi⟩
 refine enter (nt:=76) (rs:=[.tmp 8,.tmp 9,.cell 10 63,.tmp 11]) Proofs.Tryz.func31 rfl rfl rfl (by simp) ?_
 simp -dsimp (disch:=try exact dx) only[wpS,zE,zA,jr,chV]
 rw[←hH0]
 clear hH0
 refine call (Fl (hv.ae E0.ae) hko hx hn) ?_
 rintro _ h1 ⟨X1,rfl⟩
 have m1:=X1.n
 have e7:=X1.kept (by omega) c7
 have e9:=X1.kept (by omega) c9
 simp -dsimp (disch:=try exact dx) only[wpS,wpT,zE,zL,Uk,JH,bZ,aj e7,tk1,cv]
 refine call (Iv (s:=s) (n:=(n:Int)+1) ⟨by omega,by omega⟩) ?_
 rintro _ h2 ⟨X2,rfl⟩
 have m2:=X2.n
 have X02:=(E0.trans X1).trans X2
 have g7:=X2.kept (by omega) e7
 have g9:=X2.kept (by omega) e9
 unfold wj
 rw[if_neg (by omega),show((n:Int)+1).toNat=n+1 by omega]
 rcases hb:fM (n+1) TR s with _|⟨k,s1⟩
 ·simp -dsimp (disch:=try exact dx) only[wpS,wpT,zE,zL,eX,dj,bZ,g7,g9,chV,tk1]
  exact⟨(X02.put (by omega) _).put (by omega) _,by rw[show mz ll x n s=none by unfold mz;simp only[hb]];rfl⟩
 have hkb:=rr (by omega) hb
 simp -dsimp (disch:=try exact dx) only[wpS,wpT,zE,zL,dj,bZ,g7,chV,tk1]
 obtain⟨H3,hH3⟩ : ∃H,H=h2.put h.n (.cells [K64 s1] 0 none):=⟨_,rfl⟩
 have n3:H3.n=h2.n:=by rw[hH3];rfl
 have E3:Ext h H3:=by rw[hH3];exact X02.put (Nat.le_refl _) _
 have j7:H3.ext.get h.n=some (.cells [K64 s1] 0 none):=by rw[hH3];simp (disch:=try exact dx) only[aa]
 have j9:H3.ext.get (h.n+1)=some (.cells [.int .u64 0] 0 none):=by rw[hH3,ah _ _ (by omega)];exact g9
 rw[←hH3]
 clear hH3
 refine call (IP (ze (n:=k) (hv.ae E3.ae) hk hx (by omega) hkb.2)) ?_
 rintro r1 h4 ⟨X4,hr1⟩
 have m4:=X4.n
 have k7:=X4.kept (by omega) j7
 have k9:=X4.kept (by omega) j9
 have E4:=E3.trans X4
 revert hr1
 rcases hp1:fx ll k [x] s1 with _|⟨b,s2⟩<;>intro hr1
 ·obtain rfl:=hr1
  simp -dsimp (maxSteps:=1000000) (disch:=first|omega|(simp only[ax,ay];omega)|decide +kernel|(repeat first|rw[ax]|rw[ay])) only[wpS,wpT,zE,zL,eX,dj,bZ,k7,k9,chV,tk1]
  exact⟨(E4.put (by omega) _).put (by omega) _,by rw[show mz ll x n s=none by unfold mz;simp only[hb,hp1]];rfl⟩
 obtain⟨HC,rfl,hG1⟩:=hr1
 obtain⟨q1,q2,q3,q4⟩:=lZ hk (by simp) ok0 hkb.2 hp1
 rw[List.length_singleton] at q2
 have hB1:=hG1.VE (show 0<b.length by omega)
 simp -dsimp (maxSteps:=1000000) (disch:=first|omega|(simp only[ax,ay];omega)|decide +kernel|(repeat first|rw[ax]|rw[ay])) only[wpS,wpT,zE,zL,dj,bZ,k7,chV,tk1]
 obtain⟨H5,hH5⟩ : ∃H,H=h4.put h.n (.cells [K64 s2] 0 none):=⟨_,rfl⟩
 have n5:H5.n=h4.n:=by rw[hH5];rfl
 have E5:Ext h H5:=by rw[hH5];exact E4.put (Nat.le_refl _) _
 have hB2:nw H5 (H3.n+3) h4.n HC b.length ((pI b).map KI):=by rw[hH5];exact hB1.put (by omega) _
 have l7:H5.ext.get h.n=some (.cells [K64 s2] 0 none):=by rw[hH5];simp (disch:=first|omega|(simp only[ax,ay];omega)|(repeat first|rw[ax]|rw[ay])) only[aa]
 have l9:H5.ext.get (h.n+1)=some (.cells [.int .u64 0] 0 none):=by rw[hH5,ah _ _ (by omega)];exact k9
 have F5:(n:Int) - (k:Int)=((n - k:Nat):Int):=by omega
 rw[←hH5]
 clear hH5
 simp -dsimp (disch:=try exact dx) only[F5]
 refine call (IP (ze (n:=n - k) (hv.ae E5.ae) hk hx (by omega) q3)) ?_
 rintro r2 h6 ⟨X6,hr2⟩
 have m6:=X6.n
 have o7:=X6.kept (by omega) l7
 have o9:=X6.kept (by omega) l9
 have E6:=E5.trans X6
 revert hr2
 rcases hp2:fx ll (n - k) [x] s2 with _|⟨o,s3⟩<;>intro hr2
 ·obtain rfl:=hr2
  simp -dsimp (maxSteps:=1000000) (disch:=first|omega|(simp only[ax,ay];omega)|decide +kernel|(repeat first|rw[ax]|rw[ay])) only[wpS,wpT,zE,zL,eX,dj,bZ,o7,o9,chV,tk1]
  exact⟨(E6.put (by omega) _).put (by omega) _,by rw[show mz ll x n s=none by unfold mz;simp only[hb,hp1,hp2]];rfl⟩
 obtain⟨HB,rfl,hG2⟩:=hr2
 obtain⟨t1,t2,t3,t4⟩:=lZ hk (by simp) ok0 q3 hp2
 rw[List.length_singleton] at t2
 simp -dsimp (maxSteps:=1000000) (disch:=first|omega|(simp only[ax,ay];omega)|decide +kernel|(repeat first|rw[ax]|rw[ay])) only[wpS,wpT,zE,zL,dj,o7,chV]
 obtain⟨H7,hH7⟩ : ∃H,H=h6.put h.n (.cells [K64 s3] 0 none):=⟨_,rfl⟩
 have n7:H7.n=h6.n:=by rw[hH7];rfl
 have E7:Ext h H7:=by rw[hH7];exact E6.put (Nat.le_refl _) _
 have hB7:nw H7 (H3.n+3) h4.n HC b.length ((pI b).map KI):=by rw[hH7];exact(hB2.ext X6).put (by omega) _
 have hG7:Gro H7 (H5.n+3) 1 HB o.length ((pI o).map KI):=by rw[hH7];exact hG2.put o7 _
 have p7:H7.ext.get h.n=some (.cells [K64 s3] 0 none):=by rw[hH7];simp (disch:=first|omega|(simp only[ax,ay];omega)|(repeat first|rw[ax]|rw[ay])) only[aa]
 have p9:H7.ext.get (h.n+1)=some (.cells [.int .u64 0] 0 none):=by rw[hH7,ah _ _ (by omega)];exact o9
 rw[←hH7]
 clear hH7
 have ZZ:nw H7 (H3.n+3) h4.n HC (pI b).length ((pI b).map KI):=by rw[l4];exact hB7
 refine call (Fb ZZ (by rw[l4];omega)) ?_
 rintro _ h8 ⟨S8,hB8⟩
 have n8:=S8.1
 have hG8:=hG7.sim S8 (by omega)
 have r7:=(S8.2.2.1 h.n (.inl (by omega))).trans p7
 have r9:=(S8.2.2.1 (h.n+1) (.inl (by omega))).trans p9
 have E8:=S8.ext E7 (by omega)
 have hs2:=hG8.sl
 obtain⟨w,hw,hsw⟩:=hs2.slice (aN.refl h8) (P:=prog) (t:=25) u25 sz3 (l:=1) (m:=o.length) (by omega) (Nat.le_refl _) (lo:=some (KN 1)) (hi:=none) (iY (k:=.i64) (by omega)) (fun c hc=>rfl)
 have hw':cy prog h8 25 HB (some (KI 1)) none none=some w:=hw
 have hlo:H3.n+3<h8.n:=by
  obtain⟨_,k',c',f',_,_,_,a1,a2,a3,_⟩:=hB8
  omega
 have F7:(((((pI o).map KI).drop (1*1)).take ((o.length - 1)*1)).all aH)=true:=List.all_eq_true.2 fun x hx=>by
  obtain⟨y,_,rfl⟩:=List.mem_map.1 (List.mem_of_mem_drop (List.mem_of_mem_take hx))
  rfl
 have XE:=hB8.gro
 rw[l4] at XE
 obtain⟨out,h9,ha,hso,hGr,hE9⟩:=XE.app (P:=prog) (t:=25) uR hsw (by omega) F7 (by omega) (Nat.le_of_lt hlo)
 have E9:Ext h h9:=(Kj E8 (by omega)).trans hE9
 have u7:=hGr.var (by omega) r7
 have u9:=hGr.var (by omega) r9
 simp -dsimp (disch:=try exact dx) only[wpS]
 refine drawn [(5,[3])] (by kernel_rfl) (by kernel_rfl) rfl ?_
 simp -dsimp (maxSteps:=1000000) (disch:=first|omega|(simp only[ax,ay];omega)|decide +kernel|(repeat first|rw[ax]|rw[ay])) only[wpS,wpT,zE,zL,dj,bZ,fY,hw',ha,aj u7,u9,tk1]
 have La:load prog h8 63 (ptr (2*h.n) 0)=some (.agg #[K64 s3]):=by
  have r:=aj r7
  simp -dsimp (disch:=try exact dx) only[wpS,wpT,zL,bZ,r,tk1]
 have Lb:load prog h9 63 (ptr (2*h.n) 0)=some (.agg #[K64 s3]):=by
  have r:=aj u7
  simp -dsimp (disch:=try exact dx) only[wpS,wpT,zL,bZ,r,tk1]
 refine⟨ao rfl rfl rfl rfl (aT (v:=.agg #[K64 s3]) rfl ?_ ?_),?_⟩
 ·skip
  with_reducible first|exact La|exact Lb
 ·with_reducible first|exact La|exact Lb
 simp -dsimp (disch:=try exact dx) only[wpS,wpT,zE,zL,zA,bZ,tk1]
 have eL:(pI (b.reverse ++ o.drop 1)).map KI=(pI b).reverse.map KI ++ ((((pI o).map KI).drop (1*1)).take ((o.length - 1)*1)):=by
  rw[List.take_of_length_le (by simp)]
  simp only[pI,List.map_append,List.map_reverse,List.map_drop,Nat.one_mul]
 refine⟨E9.put (by omega) _,?_⟩
 rw[show mz ll x n s=some (b.reverse ++ o.drop 1,k,s3) by unfold mz;simp only[hb,hp1,hp2]]
 refine⟨out,rfl,?_⟩
 show bI _ 1 out (b.reverse ++ o.drop 1).length _
 rw[eL,show(b.reverse ++ o.drop 1).length=b.length+(o.length - 1) by rw[List.length_append,List.length_reverse,List.length_drop]]
 exact hso.ae ((aN.refl h9).put u9 _)
noncomputable def xz (ll:List (List (Nat×Nat))) (x n:Int) (s:Nat):List Int×Int×Nat×Int:=if kK ll x n≠0 then ([],0,0,kK ll x n) else match mz ll x.toNat n.toNat s with
 | none=>([],0,0,9)
 | some q=>(pI q.1,q.2.1,q.2.2,0)
def CJ (h:IH) (F:List Int×Int×Nat×Int) (r:Value):Prop:=∃out,r=.tuple #[out,KI F.2.1,chV F.2.2.1,KI F.2.2.2]∧bI h 1 out F.1.length (F.1.map KI)
theorem Jf {h:IH} {ll:List (List (Nat×Nat))} {X N s:Nat} {r:Value} (c:kK ll X N=0) (hr:N4 h (mz ll X N s) r):CJ h (xz ll X N s) r:=by
 unfold xz
 rw[if_neg (fun h=>h c),Int.toNat_natCast,Int.toNat_natCast]
 revert hr
 rcases mz ll X N s with _|q<;>intro hr
 ·exact⟨_,hr,sU h⟩
 ·obtain⟨out,rfl,hG⟩:=hr
  exact⟨out,rfl,by rw[←l4] at hG;exact hG⟩
theorem Es {h:IH} {v:Value} {ll:List (List (Nat×Nat))} {x n:Int} {s:Nat} (hv:hP h v ll) (hk:fk ll→oT ll) (hs:s<18446744073709551616) :
  WV prog (.func (.func 31) #[] #[]) [v,KI x,KI n,chV s] h fun r h'=>Ext h h'∧CJ h' (xz ll x n s) r:=by
 by_cases c:kK ll x n=0
 ·obtain⟨ho,X,N,rfl,rfl,hX,hN⟩:=lD c
  exact(Er hv (hk ho) ho hX hN hs).mono fun r h' ⟨e,hr⟩=>⟨e,Jf c hr⟩
 ·have ef:xz ll x n s=([],0,0,kK ll x n):=by unfold xz;rw[if_pos c]
  rw[ef]
  obtain⟨H0,hH0⟩ : ∃H,H=(h.new (.cells [K64 s] 0 none)).new (.cells [.int .u64 0] 0 none):=⟨_,rfl⟩
  have n0:H0.n=h.n+2:=by rw[hH0];rfl
  have E0:Ext h H0:=by rw[hH0];exact((Ext.refl h).new _).new _
  have c9:H0.ext.get (h.n+1)=some (.cells [.int .u64 0] 0 none):=by rw[hH0];simp (disch:=try exact dx) only[ab]
  refine enter (nt:=76) (rs:=[.tmp 8,.tmp 9,.cell 10 63,.tmp 11]) Proofs.Tryz.func31 rfl rfl rfl (by simp) ?_
  simp -dsimp (disch:=try exact dx) only[wpS,zE,zA,jr,chV]
  rw[←hH0]
  clear hH0
  refine call (BF (hv.ae E0.ae)) ?_
  rintro _ h1 ⟨X1,rfl⟩
  have m1:=X1.n
  have d:(kK ll x n != 0)=true:=by simpa using c
  have k9:=X1.kept (by omega) c9
  simp -dsimp (disch:=try exact dx) only[wpS,wpT,zE,zL,eX,dj,bZ,d,k9,tk1]
  exact⟨(E0.trans X1).put (by omega) _,_,rfl,sU _⟩
end Go.Id

namespace Go.Id
open Go
theorem RY {p q:Nat×Nat} (hp:p.1<W8∧p.2<W8) (hq:q.1<W8∧q.2<W8) (op:okS p.1 p.2) (oq:okS q.1 q.2) (h:rOf p=rOf q):p=q:=by
 obtain⟨a1,a2⟩:=dZ op
 obtain⟨b1,b2⟩:=dZ oq
 rw[h] at a1 a2
 have e1:wdI p.1=wdI q.1:=a1.symm.trans b1
 have e2:wdI p.2=wdI q.2:=a2.symm.trans b2
 have c1:p.1=q.1:=by rw[←qQ hp.1,←qQ hq.1,e1]
 have c2:p.2=q.2:=by rw[←qQ hp.2,←qQ hq.2,e2]
 exact Prod.ext c1 c2
theorem Bw (l:List Rat) (a:Rat):l.foldl (· + ·) a=a+gF l:=by
 induction l generalizing a with
 | nil=>exact(Rat.add_zero a).symm
 | cons b l ih =>
  show l.foldl (· + ·) (a+b)=a+l.foldl (· + ·) (0+b)
  rw[ih,ih,Rat.zero_add,Rat.add_assoc]
theorem OR (l m:List Rat):gF (l ++ m)=gF l+gF m:=by
 unfold gF
 rw[List.foldl_append,Bw];rfl
theorem LL (q:Rat) (l:List Rat):gF (q :: l)=q+gF l:=by
 show l.foldl (· + ·) (0+q)=_
 rw[Bw,Rat.zero_add]
theorem Ly {x:List (Nat×Nat)} {p:Nat×Nat} {j:Nat} (hj:j<x.length) (hx:kj x) (hw : ∀q∈x,q.1<W8∧q.2<W8) (hp:p.1<W8∧p.2<W8) (h:kj (x.set j p)):x.set j p=x:=by
 have hxj:x[j]?=some x[j]:=List.getElem?_eq_getElem hj
 have ex:x=x.take j ++ x[j] :: x.drop (j+1):=by rw[List.getElem_cons_drop,List.take_append_drop]
 have es:x.set j p=x.take j ++ p :: x.drop (j+1):=by rw[List.set_eq_take_append_cons_drop,if_pos hj]
 have h1:=hx.2
 have h2:=h.2
 rw[es] at h2
 rw[ex] at h1
 rw[List.map_append,List.map_cons,OR,LL] at h1 h2
 have e:rOf p=rOf x[j]:=by
  generalize gF ((x.take j).map rOf)=a at h1 h2
  generalize gF ((x.drop (j+1)).map rOf)=b at h1 h2
  grind
 have op:okS p.1 p.2:=(Dc (h.1 p (by rw[es];simp))).1
 have oq:okS x[j].1 x[j].2:=(Dc (hx.1 _ (List.getElem_mem hj))).1
 rw[RY hp (hw _ (List.getElem_mem hj)) op oq e,List.set_getElem_self]
theorem Nl {ll mm:List (List (Nat×Nat))} {p:Nat×Nat} (hb:ID p ll mm) (k1:oT ll) (k2:fk ll) (hw:IJ ll) (hp:p.1<W8∧p.2<W8) (hm:fk mm):oT mm:=by
 rcases hb with rfl|⟨x,hx,rfl⟩|⟨i,x,hx,hc⟩
 ·exact k1
 ·exfalso
  have h1:=(k1.2.2 x hx).1
  have h2:=(hm.2.2 x (by simp)).1
  rw[List.length_append,List.length_singleton] at h2
  omega
 ·have hxm:=List.mem_of_getElem? hx
  have hi:=(List.getElem?_eq_some_iff.1 hx).1
  rcases hc with rfl|rfl|⟨j,hj,rfl⟩
  ·refine⟨by rw[List.length_set];exact k1.1,by rw[List.length_set];exact k1.2.1,fun y hy=>?_⟩
   rw[List.length_set]
   rcases List.mem_or_eq_of_mem_set hy with hy|rfl
   ·exact k1.2.2 y hy
   ·obtain⟨a1,⟨S,a2⟩,q,a3,a4⟩:=k1.2.2 x hxm
    exact⟨by rw[List.length_reverse];exact a1,⟨S,a2.1,a2.2.1,fun p hp=>a2.2.2 p (List.mem_reverse.1 hp)⟩,q,List.mem_reverse.2 a3,a4⟩
  ·exfalso
   have h1:=(k1.2.2 x hxm).1
   have h2:=(hm.2.2 (x ++ [p]) (List.mem_iff_getElem?.2 ⟨i,List.getElem?_set_self hi⟩)).1
   rw[List.length_append,List.length_singleton,List.length_set] at h2
   omega
  ·have h2:=(hm.2.2 (x.set j p) (List.mem_iff_getElem?.2 ⟨i,List.getElem?_set_self hi⟩)).2
   have e:=Ly hj (k2.2.2 x hxm).2 (hw x hxm) hp h2
   have e2:ll.set i x=ll:=by
    refine List.ext_getElem? fun k=>?_
    rw[List.getElem?_set]
    split
    ·rename_i hik
     subst hik
     exact hx.symm
    ·rfl
   rw[e,e2]
   exact k1
theorem LU {ll:List (List (Nat×Nat))} {x n:Int} {s:Nat} (hk:fk ll→oT ll) (hs:s<18446744073709551616):(qh ll x n s).1.length≤21:=by
 unfold qh
 by_cases c:kK ll x n=0
 ·obtain⟨ho,X,N,rfl,rfl,hX,hN⟩:=lD c
  rw[if_neg (fun h=>h c),Int.toNat_natCast,Int.toNat_natCast]
  rcases hp:fx ll N [X] s with _|⟨b,t⟩
  ·exact Nat.zero_le _
  ·obtain⟨_,q2,_,_⟩:=lZ (hk ho) (by simp) ⟨fun y hy=>by rw[List.mem_singleton.1 hy];exact hX,fun i hi=>by simp at hi⟩ hs hp
   rw[List.length_singleton] at q2
   show(pI b).length≤21
   rw[l4];omega
 ·rw[if_pos c]
  exact Nat.zero_le _
theorem N5 {ll:List (List (Nat×Nat))} {x n:Int} {s:Nat} (hk:fk ll→oT ll) (hs:s<18446744073709551616):(xz ll x n s).1.length≤21:=by
 unfold xz
 by_cases c:kK ll x n=0
 ·obtain⟨ho,X,N,rfl,rfl,hX,hN⟩:=lD c
  have ok0:kX ll [X]:=⟨fun y hy=>by rw[List.mem_singleton.1 hy];exact hX,fun i hi=>by simp at hi⟩
  rw[if_neg (fun h=>h c),Int.toNat_natCast,Int.toNat_natCast]
  unfold mz
  rcases hb:fM (N+1) TR s with _|⟨k,s1⟩
  ·exact Nat.zero_le _
  have hkb:=rr (by omega) hb
  dsimp only
  rcases hp1:fx ll k [X] s1 with _|⟨b,s2⟩
  ·exact Nat.zero_le _
  obtain⟨_,q2,q3,_⟩:=lZ (hk ho) (by simp) ok0 hkb.2 hp1
  rw[List.length_singleton] at q2
  dsimp only
  rcases hp2:fx ll (N - k) [X] s2 with _|⟨o,s3⟩
  ·exact Nat.zero_le _
  obtain⟨_,t2,_,_⟩:=lZ (hk ho) (by simp) ok0 q3 hp2
  rw[List.length_singleton] at t2
  show(pI (b.reverse ++ o.drop 1)).length≤21
  rw[l4,List.length_append,List.length_reverse,List.length_drop]
  omega
 ·rw[if_pos c]
  exact Nat.zero_le _
end Go.Id

namespace Go.Id
open Go
open Go.Proofs.Tryz (prog)
open Nat renaming reduceAdd→zA,reduceEqDiff→zE,reduceLeDiff→zL
set_option maxHeartbeats 16000000
theorem UQ {S:Nat} {l:List (Nat×Nat)} (h:smR S l):nnR l:=fun p hp=>by
 obtain⟨a,b,c⟩:=h.2.2 p hp
 have h1:=mY
 have h2:=h.2.1
 have h3:=Nat.le_of_dvd h.1 c
 exact⟨by omega,b,by omega⟩
theorem RP {S:Nat} {l:List (Nat×Nat)} (h:smR S l):RC l:=fun w hw=>by
 obtain⟨p,hp,rfl⟩:=List.mem_map.1 hw
 have:=UC h hp
 have:=mY
 omega
open Classical in
theorem Bv {h:IH} {v:Value} {ll:List (List (Nat×Nat))} {x n:Int} (hv:hP h v ll) :
  WV prog (.func (.func 98) #[] #[]) [v,KI x,KI n] h fun r h'=>Ext h h'∧r=KI (kK ll x n):=by
 obtain⟨cv,co,hlen⟩:=hv.co
 unfold kK
 refine enter (nt:=26) (rs:=[.tmp 6]) Proofs.Tryz.func98 rfl rfl rfl (by simp) ?_
 simp -dsimp (disch:=try exact dx) only[wpS,zE,zA]
 refine call (MA hv) ?_
 rintro _ h1 ⟨X1,rfl⟩
 by_cases hk:fk ll
 case neg =>
  rw[decide_eq_false hk,if_pos hk]
  simp -dsimp (disch:=try exact dx) only[wpS,wpT,zE]
  exact X1
 rw[decide_eq_true hk,if_neg (fun h=>h hk)]
 by_cases c1:x<0
 ·rw[if_pos (.inl c1)]
  simp -dsimp (disch:=try exact dx) only[wpS,wpT,zE]
  exact X1
 by_cases c2:(ll.length:Int)≤x
 ·rw[if_pos (.inr (.inl c2))]
  simp -dsimp (disch:=try exact dx) only[wpS,wpT,zE,hlen]
  exact X1
 by_cases c3:n<0
 ·rw[if_pos (.inr (.inr (.inl c3)))]
  simp -dsimp (disch:=try exact dx) only[wpS,wpT,zE,hlen]
  exact X1
 by_cases c4:20<n
 ·rw[if_pos (.inr (.inr (.inr c4)))]
  simp -dsimp (disch:=try exact dx) only[wpS,wpT,zE,hlen]
  exact X1
 rw[if_neg (by omega)]
 simp -dsimp (disch:=try exact dx) only[wpS,wpT,zE,hlen]
 exact X1
theorem vh {h:IH} {v:Value} {ll:List (List (Nat×Nat))} {x n s:Nat} (hv:hP h v ll) (hk:oT ll) (hx:x<ll.length) (hn:n≤20) (hs:s<18446744073709551616) :
  WV prog (.func (.func 99) #[] #[]) [v,KN x,KN n,chV s] h fun r h'=>Ext h h'∧match fx ll n [x] s with
   | none=>r=.tuple #[.slice none 0 0,chV 0,KI 9]
   | some q => ∃out,r=.tuple #[out,chV q.2,KI 0]∧bI h' 1 out q.1.length ((pI q.1).map KI):=by
 obtain⟨cv,co,_⟩:=hv.co
 obtain⟨H0,hH0⟩ : ∃H,H=(h.new (.cells [K64 s] 0 none)).new (.cells [.int .u64 0] 0 none):=⟨_,rfl⟩
 have n0:H0.n=h.n+2:=by rw[hH0];rfl
 have E0:Ext h H0:=by rw[hH0];exact((Ext.refl h).new _).new _
 have c7:H0.ext.get h.n=some (.cells [K64 s] 0 none):=by rw[hH0];simp (disch:=try exact dx) only[ab,ar]
 have c9:H0.ext.get (h.n+1)=some (.cells [.int .u64 0] 0 none):=by rw[hH0];simp (disch:=try exact dx) only[ab]
 refine enter (nt:=57) (rs:=[.tmp 8,.cell 9 63,.tmp 10]) Proofs.Tryz.func99 rfl rfl rfl (by simp) ?_
 simp -dsimp (disch:=try exact dx) only[wpS,wpT,zE,zL,zA,jr,tw,chV]
 obtain⟨H1,hH1⟩ : ∃H,H=H0.new (.cells [KN x] 1 none):=⟨_,rfl⟩
 have n1:H1.n=h.n+3:=by rw[hH1,ax];omega
 have E1:Ext H0 H1:=by rw[hH1];exact(Ext.refl H0).new _
 have G1:Gro H1 (h.n+2) 1 (.slice (some ⟨2*H0.n,0,none⟩) 1 3) 1 ((pI [x]).map KI):=by
  have:=Kg (h:=H0) (sz:=1) (m:=1) (cs:=[KN x]) (by omega) rfl (by omega)
  rw[hH1,←n0]
  exact this
 rw[←hH0,←hH1]
 clear hH0 hH1
 refine loop (fun m fr hh => ∃(i:Nat) (out:Value) (p:List Nat) (si:Nat),i+m=n∧p.length=i+1∧si<18446744073709551616∧kX ll p∧fx ll n [x] s=fx ll m p si∧Ext h hh∧h.n+2<hh.n∧Gro hh (h.n+2) 1 out p.length ((pI p).map KI)∧hh.ext.get h.n=some (.cells [K64 si] 0 none)∧hh.ext.get (h.n+1)=some (.cells [.int .u64 0] 0 none)∧ai fr 0=some v∧ai fr 2=some (KN n)∧ai fr 7=some (ptr (2*h.n) 0)∧ai fr 9=some (ptr (2*(h.n+1)) 0)∧ai fr 11=some out∧ai fr 12=some (KN i)) n
  ⟨0,_,[x],s,by omega,rfl,hs,⟨fun y hy=>by rw[List.mem_singleton.1 hy];exact hx,fun i hi=>by simp at hi⟩,rfl,E0.trans E1,by omega,G1,E1.kept (by omega) c7,E1.kept (by omega) c9,by simp,by simp,by simp,by simp,by first|(simp;done)|(simp;omega),by simp⟩ ?_
 rintro m fr hh ⟨i,out,p,si,him,hpl,hsi,hok,hT,hE,hnn,hG,g7,g9,f0,f2,f7,f9,f11,f12⟩
 have hen:=hE.n
 simp -dsimp (disch:=try exact dx) only[wpS,zE,f2,f12]
 refine aA ?_ ?_<;>intro hc<;>simp only[decide_eq_true_eq,decide_eq_false_iff_not] at hc
 ·obtain⟨q,rfl⟩ : ∃q,m=q+1:=⟨m - 1,by omega⟩
  have hl:=kD (p:=p) (by omega)
  have ge:=y7 (p:=p) (by omega)
  rw[show p.length - 1=i by omega] at hl ge
  obtain⟨y,hy⟩ : ∃y,y=p.getLastD 0:=⟨_,rfl⟩
  rw[fx] at hT
  rw[←hy] at hl ge hT
  obtain⟨row,S,hr,hw,hrl,hS,s0,sb⟩:=uv hk (hok.1 _ (List.mem_of_getElem? hl))
  obtain⟨w,w1,w2,w3⟩:=hv.at hE.ae hr
  have sl:=hG.sl
  have idx:=sl.idx gU (P:=prog) (k:=.i64) (j:=i) (by omega)
  rw[Nat.mul_one] at idx
  have ld:=(sl.ld (aN.refl hh) (by simp;omega) ag3 (P:=prog) (c:=i)).trans ge
  simp -dsimp (disch:=try exact dx) only[wpS,wpT,zE,f0,f11,f12,idx,ld,w1,w3 .i64]
  have hk2:=hk.2.1
  refine call (CU w2 (UQ hS) (by omega)) ?_
  rintro _ h2 ⟨X2,q1,_⟩
  obtain⟨ws,rfl,hws⟩:=q1 (RP hS)
  have m2:=X2.n
  have g7':=X2.kept (by omega) g7
  simp -dsimp (disch:=try exact dx) only[wpS,wpT,zE,zL,bZ,f7,aj g7',tk1]
  have lw:(wL row).length≤400:=by rw[lK];omega
  refine call (LF hws lw (Nat.lt_of_le_of_lt sb (Nat.lt_trans (by decide) mY)) s0 hsi) ?_
  rintro _ h3 ⟨X3,rfl⟩
  have m3:=X3.n
  have X23:=X2.trans X3
  have k7:=X23.kept (by omega) g7
  have k9:=X23.kept (by omega) g9
  unfold BE
  rcases hd:jx (ck (wL row) (wL row).length) si with _|⟨u,t⟩
  ·rw[hw,hd] at hT
   rw[hT]
   simp -dsimp (disch:=try exact dx) only[wpS,wpT,zE,zL,jr,eX,dj,bZ,f9,chV,k9,tk1]
   exact⟨((((hE.trans X23).new _).put (by omega) _).put (by omega) _),rfl⟩
  ·have hut:=mq s0 hsi hd
   simp -dsimp (disch:=try exact dx) only[wpS,wpT,zE,zL,zA,jr,tw,dj,bZ,fY,f7,f11,chV,k7,tk1]
   obtain⟨z,hz⟩ : ∃z,z=gX (wL row) u (wL row).length 0:=⟨_,rfl⟩
   have hst:=vv hk (p:=p) (by omega) hok (u:=u) (t:=t) hsi (by rw[←hy,hw];exact hd)
   rw[←hy,hw,←hz] at hst
   rw[hw,hd] at hT
   simp only[←hz] at hT
   rw[←hz]
   obtain⟨H4,hH4⟩ : ∃H,H=((h3.new (.cells [.int .u64 0] 0 none)).put h3.n (.cells [K64 t] 0 none)).put h.n (.cells [K64 t] 0 none):=⟨_,rfl⟩
   have n4:H4.n=h3.n+1:=by rw[hH4];rfl
   have Ea:Ext h3 ((h3.new (.cells [.int .u64 0] 0 none)).put h3.n (.cells [K64 t] 0 none)):=((Ext.refl h3).new _).put (Nat.le_refl _) _
   have ka:=Ea.kept (by omega) k7
   have E4:Ext h H4:=by rw[hH4];exact((hE.trans X23).trans Ea).put (by omega) _
   have G4:Gro H4 (h.n+2) 1 out p.length ((pI p).map KI):=by rw[hH4];exact(hG.ext (X23.trans Ea)).put ka _
   have j7:H4.ext.get h.n=some (.cells [K64 t] 0 none):=by rw[hH4];exact aa _ _ rfl
   have j9:H4.ext.get (h.n+1)=some (.cells [.int .u64 0] 0 none):=by rw[hH4,ah _ _ (by omega)];exact Ea.kept (by omega) k9
   obtain⟨dI,h8,hap,hA8,hG8,hE8⟩:=G4.Aq (P:=prog) (t:=25) uR (m:=1) (new:=[KN z]) (by omega) rfl rfl (by omega) (by omega) E4 (by omega)
   have tj:append prog ((((h3.new (.cells [.int .u64 0] 0 none)).put h3.n (.cells [K64 t] 0 none)).put h.n (.cells [K64 t] 0 none)).new (.cells [KN z] 1 none)) 25 out (.slice (some ⟨2*(h3.n+1),0,none⟩) 1 3)=some (dI,h8):=by rw[←n4,←hH4];exact hap
   simp -dsimp (disch:=try exact dx) only[wpS,zE,f12,tj]
   refine⟨q,by omega,i+1,dI,p ++ [z],t,by omega,by simp[hpl],hut.2,hst,hT,hE8,Nat.lt_of_lt_of_le (by omega) hG8.n,?_,hG8.var (by omega) j7,hG8.var (by omega) j9,by simp[f0],by simp[f2],by simp[f7],by simp[f9],by simp,by simp⟩
   have e:(pI (p ++ [z])).map KI=(pI p).map KI ++ [KN z]:=by simp only[pI,List.map_append,List.map_cons,List.map_nil]
   rw[List.length_append,List.length_singleton,e]
   exact .inl hA8
 ·obtain rfl:m=0:=by omega
  rw[fx] at hT
  rw[hT]
  simp -dsimp (disch:=try exact dx) only[wpS,wpT,zE,zL,dj,bZ,f7,f9,f11,aj g7,g9,tk1]
  exact⟨hE.put (by omega) _,out,rfl,hG.sl.ae ((aN.refl hh).put g9 _)⟩
theorem EZ {h:IH} {v:Value} {ll:List (List (Nat×Nat))} {x n:Int} {s:Nat} (hv:hP h v ll) (hk:fk ll→oT ll) (hs:s<18446744073709551616) :
  WV prog (.func (.func 30) #[] #[]) [v,KI x,KI n,chV s] h fun r h'=>Ext h h'∧O6 h' (qh ll x n s) r:=by
 obtain⟨cv,co,_⟩:=hv.co
 obtain⟨H0,hH0⟩ : ∃H,H=(h.new (.cells [K64 s] 0 none)).new (.cells [.int .u64 0] 0 none):=⟨_,rfl⟩
 have n0:H0.n=h.n+2:=by rw[hH0];rfl
 have E0:Ext h H0:=by rw[hH0];exact((Ext.refl h).new _).new _
 have c7:H0.ext.get h.n=some (.cells [K64 s] 0 none):=by rw[hH0];simp (disch:=try exact dx) only[ab,ar]
 have c9:H0.ext.get (h.n+1)=some (.cells [.int .u64 0] 0 none):=by rw[hH0];simp (disch:=try exact dx) only[ab]
 refine enter (nt:=28) (rs:=[.tmp 8,.cell 9 63,.tmp 10]) Proofs.Tryz.func30 rfl rfl rfl (by simp) ?_
 simp -dsimp (disch:=try exact dx) only[wpS,zE,zA,jr,chV]
 rw[←hH0]
 clear hH0
 refine call (Bv (hv.ae E0.ae)) ?_
 rintro _ h1 ⟨X1,rfl⟩
 have m1:=X1.n
 have k9:=X1.kept (by omega) c9
 have k7:=X1.kept (by omega) c7
 by_cases c:kK ll x n=0
 ·obtain⟨ho,X,N,rfl,rfl,hX,hN⟩:=lD c
  rw[c]
  simp -dsimp (disch:=try exact dx) only[wpS,wpT,zE,zL,bZ,aj k7,tk1]
  refine call (vh (hv.ae (E0.trans X1).ae) (hk ho) hX hN hs) ?_
  rintro r h2 ⟨X2,hr⟩
  have m2:=X2.n
  have j9:=X2.kept (by omega) k9
  have XX:=(E0.trans X1).trans X2
  unfold qh
  rw[if_neg (fun h=>h c),Int.toNat_natCast,Int.toNat_natCast]
  revert hr
  rcases fx ll N [X] s with _|⟨p,t⟩<;>intro hr
  ·obtain rfl:=hr
   simp -dsimp (disch:=try exact dx) only[wpS,wpT,zE,zL,dj,bZ,j9,chV,tk1]
   exact⟨XX.put (by omega) _,_,rfl,sU _⟩
  ·obtain⟨out,rfl,hG⟩:=hr
   simp -dsimp (disch:=try exact dx) only[wpS,wpT,zE,zL,dj,bZ,j9,chV,tk1]
   exact⟨XX.put (by omega) _,out,rfl,by rw[←l4] at hG;exact hG.ae ((aN.refl h2).put j9 _)⟩
 ·have ef:qh ll x n s=([],0,kK ll x n):=by unfold qh;rw[if_pos c]
  rw[ef]
  have d:(kK ll x n != 0)=true:=by simpa using c
  simp -dsimp (disch:=try exact dx) only[wpS,wpT,zE,zL,eX,dj,bZ,d,k9,tk1]
  exact⟨(E0.trans X1).put (by omega) _,_,rfl,sU _⟩
theorem yS {h:IH} {v:Value} {ll:List (List (Nat×Nat))} {x n:Int} {s:Nat} (hv:hP h v ll) (hk:fk ll→oT ll) (hs:s<18446744073709551616) :
  WV prog (.func (.func 32) #[] #[]) [v,KI x,KI n,chV s] h fun r h'=>Ext h h'∧CJ h' (xz ll x n s) r:=by
 obtain⟨cv,co,_⟩:=hv.co
 obtain⟨H0,hH0⟩ : ∃H,H=(h.new (.cells [K64 s] 0 none)).new (.cells [.int .u64 0] 0 none):=⟨_,rfl⟩
 have n0:H0.n=h.n+2:=by rw[hH0];rfl
 have E0:Ext h H0:=by rw[hH0];exact((Ext.refl h).new _).new _
 have c7:H0.ext.get h.n=some (.cells [K64 s] 0 none):=by rw[hH0];simp (disch:=try exact dx) only[ab,ar]
 have c9:H0.ext.get (h.n+1)=some (.cells [.int .u64 0] 0 none):=by rw[hH0];simp (disch:=try exact dx) only[ab]
 refine enter (nt:=87) (rs:=[.tmp 8,.tmp 9,.cell 10 63,.tmp 11]) Proofs.Tryz.func32 rfl rfl rfl (by simp) ?_
 simp -dsimp (disch:=try exact dx) only[wpS,zE,zA,jr,chV]
 rw[←hH0]
 clear hH0
 refine call (Bv (hv.ae E0.ae)) ?_
 rintro _ h1 ⟨X1,rfl⟩
 have m1:=X1.n
 have k9:=X1.kept (by omega) c9
 have k7:=X1.kept (by omega) c7
 by_cases c:kK ll x n=0
 case neg =>
  have ef:xz ll x n s=([],0,0,kK ll x n):=by unfold xz;rw[if_pos c]
  rw[ef]
  have d:(kK ll x n != 0)=true:=by simpa using c
  simp -dsimp (disch:=try exact dx) only[wpS,wpT,zE,zL,eX,dj,bZ,d,k9,tk1]
  exact⟨(E0.trans X1).put (by omega) _,_,rfl,sU _⟩
 obtain⟨ho,X,N,rfl,rfl,hX,hN⟩:=lD c
 have hkS:=hk ho
 have ok0:kX ll [X]:=⟨fun y hy=>by rw[List.mem_singleton.1 hy];exact hX,fun i hi=>by simp at hi⟩
 suffices SB : ∀r h',N4 h' (mz ll X N s) r→CJ h' (xz ll X N s) r by
  rw[c]
  simp -dsimp (disch:=try exact dx) only[wpS,wpT,zE,zL,bZ,aj k7,tk1]
  refine call (Ho (n:=(N:Int)+1) hs ⟨by omega,by omega⟩) ?_
  rintro _ h2 ⟨X2,rfl⟩
  have m2:=X2.n
  have X02:=(E0.trans X1).trans X2
  have g7:=X2.kept (by omega) k7
  have g9:=X2.kept (by omega) k9
  unfold wj
  rw[if_neg (by omega),show((N:Int)+1).toNat=N+1 by omega]
  rcases hb:fM (N+1) TR s with _|⟨k,s1⟩
  ·simp -dsimp (disch:=try exact dx) only[wpS,wpT,zE,zL,eX,dj,bZ,g7,g9,chV,tk1]
   exact⟨(X02.put (by omega) _).put (by omega) _,SB _ _ (by rw[show mz ll X N s=none by unfold mz;simp only[hb]];rfl)⟩
  have hkb:=rr (by omega) hb
  simp -dsimp (disch:=try exact dx) only[wpS,wpT,zE,zL,dj,bZ,g7,chV,tk1]
  obtain⟨H3,hH3⟩ : ∃H,H=h2.put h.n (.cells [K64 s1] 0 none):=⟨_,rfl⟩
  have n3:H3.n=h2.n:=by rw[hH3];rfl
  have E3:Ext h H3:=by rw[hH3];exact X02.put (Nat.le_refl _) _
  have j7:H3.ext.get h.n=some (.cells [K64 s1] 0 none):=by rw[hH3];simp (disch:=try exact dx) only[aa]
  have j9:H3.ext.get (h.n+1)=some (.cells [.int .u64 0] 0 none):=by rw[hH3,ah _ _ (by omega)];exact g9
  rw[←hH3]
  clear hH3
  refine call (vh (n:=k) (hv.ae E3.ae) hkS hX (by omega) hkb.2) ?_
  rintro r1 h4 ⟨X4,hr1⟩
  have m4:=X4.n
  have e7:=X4.kept (by omega) j7
  have e9:=X4.kept (by omega) j9
  have E4:=E3.trans X4
  revert hr1
  rcases hp1:fx ll k [X] s1 with _|⟨b,s2⟩<;>intro hr1
  ·obtain rfl:=hr1
   simp -dsimp (maxSteps:=1000000) (disch:=first|omega|(simp only[ax,ay];omega)|decide +kernel|(repeat first|rw[ax]|rw[ay])) only[wpS,wpT,zE,zL,eX,dj,bZ,e7,e9,chV,tk1]
   exact⟨(E4.put (by omega) _).put (by omega) _,SB _ _ (by rw[show mz ll X N s=none by unfold mz;simp only[hb,hp1]];rfl)⟩
  obtain⟨HC,rfl,hG1⟩:=hr1
  obtain⟨q1,q2,q3,q4⟩:=lZ hkS (by simp) ok0 hkb.2 hp1
  rw[List.length_singleton] at q2
  simp -dsimp (maxSteps:=1000000) (disch:=first|omega|(simp only[ax,ay];omega)|decide +kernel|(repeat first|rw[ax]|rw[ay])) only[wpS,wpT,zE,zL,dj,bZ,e7,chV,tk1]
  obtain⟨H5,hH5⟩ : ∃H,H=h4.put h.n (.cells [K64 s2] 0 none):=⟨_,rfl⟩
  have n5:H5.n=h4.n:=by rw[hH5];rfl
  have E5:Ext h H5:=by rw[hH5];exact E4.put (Nat.le_refl _) _
  have K5:aN h4 H5:=by rw[hH5];exact(aN.refl h4).put e7 _
  have l7:H5.ext.get h.n=some (.cells [K64 s2] 0 none):=by rw[hH5];simp (disch:=first|omega|(simp only[ax,ay];omega)|(repeat first|rw[ax]|rw[ay])) only[aa]
  have l9:H5.ext.get (h.n+1)=some (.cells [.int .u64 0] 0 none):=by rw[hH5,ah _ _ (by omega)];exact e9
  have F5:(N:Int) - (k:Int)=((N - k:Nat):Int):=by omega
  rw[←hH5]
  clear hH5
  simp -dsimp (disch:=try exact dx) only[F5]
  refine call (vh (n:=N - k) (hv.ae E5.ae) hkS hX (by omega) q3) ?_
  rintro r2 h6 ⟨X6,hr2⟩
  have m6:=X6.n
  have o7:=X6.kept (by omega) l7
  have o9:=X6.kept (by omega) l9
  have E6:=E5.trans X6
  revert hr2
  rcases hp2:fx ll (N - k) [X] s2 with _|⟨o,s3⟩<;>intro hr2
  ·obtain rfl:=hr2
   simp -dsimp (maxSteps:=1000000) (disch:=first|omega|(simp only[ax,ay];omega)|decide +kernel|(repeat first|rw[ax]|rw[ay])) only[wpS,wpT,zE,zL,eX,dj,bZ,o7,o9,chV,tk1]
   exact⟨(E6.put (by omega) _).put (by omega) _,SB _ _ (by rw[show mz ll X N s=none by unfold mz;simp only[hb,hp1,hp2]];rfl)⟩
  obtain⟨HB,rfl,hG2⟩:=hr2
  obtain⟨t1,t2,t3,t4⟩:=lZ hkS (by simp) ok0 q3 hp2
  rw[List.length_singleton] at t2
  simp -dsimp (maxSteps:=1000000) (disch:=first|omega|(simp only[ax,ay];omega)|decide +kernel|(repeat first|rw[ax]|rw[ay])) only[wpS,wpT,zE,zL,dj,o7,chV]
  obtain⟨H7,hH7⟩ : ∃H,H=h6.put h.n (.cells [K64 s3] 0 none):=⟨_,rfl⟩
  have n7:H7.n=h6.n:=by rw[hH7];rfl
  have E7:Ext h H7:=by rw[hH7];exact E6.put (Nat.le_refl _) _
  have K7:aN h6 H7:=by rw[hH7];exact(aN.refl h6).put o7 _
  have p7:H7.ext.get h.n=some (.cells [K64 s3] 0 none):=by rw[hH7];simp (disch:=first|omega|(simp only[ax,ay];omega)|(repeat first|rw[ax]|rw[ay])) only[aa]
  have p9:H7.ext.get (h.n+1)=some (.cells [.int .u64 0] 0 none):=by rw[hH7,ah _ _ (by omega)];exact o9
  rw[←hH7]
  clear hH7
  have sb:bI H7 1 HC b.length ((pI b).map KI):=(((hG1.ae K5).ae X6.ae).ae K7)
  have so:bI H7 1 HB o.length ((pI o).map KI):=hG2.ae K7
  have lb:=sb.len eH (P:=prog)
  have lpb:(pI b).length=b.length:=l4 b
  simp -dsimp (disch:=try exact dx) only[wpS,zE,lb]
  refine loop (fun m fr hh => ∃(j:Nat) (out:Value),j+m=b.length∧Ext H7 hh∧Acc hh H7.n 1 out j (((pI b).reverse.take j).map KI)∧ai fr 7=some (ptr (2*h.n) 0)∧ai fr 10=some (ptr (2*(h.n+1)) 0)∧ai fr 13=some (KN k)∧ai fr 15=some HC∧ai fr 16=some HB∧ai fr 17=some out∧ai fr 18=some (KI ((b.length:Int) - 1 - (j:Int)))) b.length
   ⟨0,.slice none 0 0,by omega,Ext.refl _,Acc.nil _ _ (by omega),by simp,by simp,by simp,by simp,by simp,by simp,by simp⟩ ?_
  rintro m fr hh ⟨j,out,hjm,hE,hA,f7,f10,f13,f15,f16,f17,f18⟩
  have hnn:=hE.n
  simp -dsimp (disch:=try exact dx) only[wpS,zE,f18]
  refine aA ?_ ?_<;>intro hc<;>simp only[decide_eq_true_eq,decide_eq_false_iff_not] at hc
  ·have hj:j<b.length:=by omega
   obtain⟨i,hi⟩ : ∃i,i=b.length - 1 - j:=⟨_,rfl⟩
   have ei:(b.length:Int) - 1 - (j:Int)=(i:Int):=by omega
   have ix:=sb.idx gU (P:=prog) (k:=.i64) (j:=i) (by omega)
   rw[Nat.mul_one] at ix
   have ld:=WE sb hE.ae (i:=i) (by omega)
   obtain⟨y,hy⟩ : ∃y,y=b.getD i 0:=⟨_,rfl⟩
   rw[←hy] at ld
   obtain⟨dI,h8,hap,hA8,hG8,hE8⟩:=hA.DX (P:=prog) (t:=25) uR (x:=KN y) rfl (by omega) (by omega) hE (Nat.le_refl _)
   simp -dsimp (disch:=try exact dx) only[wpS,wpT,zE,zL,zA,tw,fY,f15,f17,f18,ei,ix,ld,hap]
   refine⟨m - 1,by omega,j+1,dI,by omega,hE8,?_,by simp[f7],by simp[f10],by simp[f13],by simp[f15],by simp[f16],by simp,?_⟩
   ·have er:(pI b).reverse[j]?=some ((y:Nat):Int):=by
     rw[List.getElem?_reverse (by omega),lpb,←hi,List.getElem?_map,hy,List.getD_eq_getElem?_getD,List.getElem?_eq_getElem (by omega)];rfl
    rw[List.take_add_one,er,List.map_append]
    exact hA8
   ·simp;omega
  obtain rfl:j=b.length:=by omega
  have ok1:=hE.n
  rw[List.take_of_length_le (by rw[List.length_reverse,lpb];omega)] at hA
  have r7:=hE.kept (by omega) p7
  have r9:=hE.kept (by omega) p9
  have E8:=E7.trans hE
  have hG:Gro hh H7.n 1 out b.length ((pI b).reverse.map KI):=.inl hA
  obtain⟨w,hw,hsw⟩:=so.slice hE.ae (P:=prog) (t:=25) u25 sz3 (l:=1) (m:=o.length) (by omega) (Nat.le_refl _) (lo:=some (KN 1)) (hi:=none) (iY (k:=.i64) (by omega)) (fun c hc=>rfl)
  have hw':cy prog hh 25 HB (some (KI 1)) none none=some w:=hw
  have F7:(((((pI o).map KI).drop (1*1)).take ((o.length - 1)*1)).all aH)=true:=List.all_eq_true.2 fun x hx=>by
   obtain⟨y,_,rfl⟩:=List.mem_map.1 (List.mem_of_mem_drop (List.mem_of_mem_take hx))
   rfl
  obtain⟨dI,h9,ha,hso,hGr,hE9⟩:=hG.app (P:=prog) (t:=25) uR (hsw.ae hE.ae) (by omega) F7 (by omega) (by omega)
  have E9:Ext h h9:=(Kj E8 (by have:=E7.n;omega)).trans hE9
  have u7:=hGr.var (by omega) r7
  have u9:=hGr.var (by omega) r9
  simp -dsimp (disch:=try exact dx) only[wpS,wpT]
  refine drawn [(5,[3])] (by kernel_rfl) (by kernel_rfl) rfl ?_
  simp -dsimp (disch:=try exact dx) only[wpS,wpT,zE,zL,dj,bZ,fY,f7,f10,f13,f16,f17,hw',ha,aj u7,u9,tk1]
  refine⟨ao rfl rfl rfl rfl (aT f7 (BQ u7) (BQ r7)),?_⟩
  simp -dsimp (disch:=try exact dx) only[wpS,wpT,zE,zL,zA,bZ,f10,tk1]
  have eL:(pI (b.reverse ++ o.drop 1)).map KI=(pI b).reverse.map KI ++ ((((pI o).map KI).drop (1*1)).take ((o.length - 1)*1)):=by
   rw[List.take_of_length_le (by simp)]
   simp only[pI,List.map_append,List.map_reverse,List.map_drop,Nat.one_mul]
  refine⟨E9.put (by omega) _,SB _ _ ?_⟩
  rw[show mz ll X N s=some (b.reverse ++ o.drop 1,k,s3) by unfold mz;simp only[hb,hp1,hp2]]
  refine⟨dI,rfl,?_⟩
  show bI _ 1 dI (b.reverse ++ o.drop 1).length _
  rw[eL,show(b.reverse ++ o.drop 1).length=b.length+(o.length - 1) by rw[List.length_append,List.length_reverse,List.length_drop]]
  exact hso.ae ((aN.refl h9).put u9 _)
 exact fun r h' hr=>Jf c hr
end Go.Id

namespace Go.Id
open Go
structure TLf (fr:Fr) (w v14 v17:Value) (a b i j:Int) (bx:Nat):Prop where
 f1:ai fr 1=some w
 f2:ai fr 2=some (KI a)
 f3:ai fr 3=some (KI b)
 f4:ai fr 4=some (KI i)
 f5:ai fr 5=some (KI j)
 f6:ai fr 6=some (ptr (2*bx) 0)
 f14:ai fr 14=some v14
 f17:ai fr 17=some v17
section
variable {h hh:IH} {fr:Fr} {sz bx:Nat} {vN vS vL vA vR vQ w:Value} {lN lS lL lA ws:List Nat} {lR lQ:List Int} {a b i j:Int}
theorem N6 (x:Int) : ∃y:Nat,IntKind.u64.wrap x=(y:Int):=by
 have h:0≤IntKind.u64.wrap x:=by
  show 0≤x % 18446744073709551616
  omega
 exact⟨_,(Int.toNat_of_nonneg h).symm⟩
end
end Go.Id

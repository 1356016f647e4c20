/-
  OutlierRises: for every input the law returns true, and each argument reads as it did. Conditions: none but the row's own.
-/
import Derived.Test.YtnnmjocmapilaaaGreatOutlierRisesAi
import Derived.Test.YtnnmjocmapilaaaGreatOutlierRisesBa
import Derived.Test.YtnnmjocmapilaaaGreatOutlierRisesAt
import Derived.Test.YtnnmjocmapilaaaGreatOutlierRisesAu
set_option linter.unusedVariables false
set_option linter.unusedSimpArgs false
set_option linter.defProp false
set_option linter.deprecated false
namespace Go.Id
open Go
open Go.Proofs.Tryz (prog)
open Nat renaming reduceAdd→zA,reduceEqDiff→zE,reduceLeDiff→zL
set_option maxHeartbeats 16000000
def yK (s:Rat) (p:Nat×Nat):Rat:=rOf p*Rat.divInt 3 2+s
theorem QJ (b:Bool) (n:Int) (b2:Bool) (n2:Int):fW (shq (ua b n b2 n2))∧QW (ua b n b2 n2):=by
 obtain⟨a,c,h1,h2,e⟩:=Eo b n b2 n2
 rw[e]
 exact⟨⟨a,c,h1,h2,rfl⟩,gX ⟨by omega,by omega⟩ ⟨by omega,by omega⟩ (by omega)⟩
theorem QB.qw {x:Nat} {q:Rat} (h:QB x q) (hx:x≤60):QW q:=by
 obtain⟨h1,h2⟩:=h
 have a:2 ^ x≤2 ^ 60:=Nat.pow_le_pow_right (by omega) hx
 have b:(2:Nat) ^ 60=1152921504606846976:=by decide
 have c:=se
 exact⟨⟨by omega,by omega⟩,by omega,by omega⟩
theorem Mo {a c:Int} (ha : -1000<a∧a<1000) (hc:0<c∧c<25):OvL c.toNat 10 (Rat.divInt a c):=by
 have e:((c.toNat:Nat):Int)=c:=by omega
 have b:(2:Nat) ^ 10=1024:=by decide
 refine⟨by omega,by omega,a,by rw[e,Rat.divInt_eq_div],by omega⟩
theorem Mn (m:Nat) (hm:0<m) (h:m<1024):OvL m 10 1:=by
 have b:(2:Nat) ^ 10=1024:=by decide
 have:=oh hm
 exact⟨hm,by omega,(m:Int),by grind,by omega⟩
variable {s:Rat}{p:Nat×Nat}
theorem ES (hp:fW p) (hs:fW (shq s)) (hq:QW s):QW (rOf p*Rat.divInt 3 2)∧QW (yK s p):=by
 obtain⟨a,c,ha,hc,rfl⟩:=hp
 obtain⟨a2,c2,ha2,hc2,e2⟩:=hs
 have w1:=gX (n:=a) (d:=c) ⟨by omega,by omega⟩ ⟨by omega,by omega⟩ (by omega)
 have w2:=gX (n:=a2) (d:=c2) ⟨by omega,by omega⟩ ⟨by omega,by omega⟩ (by omega)
 have es:s=Rat.divInt a2 c2:=by rw[←(bX hq).1,e2,(bX w2).1]
 unfold yK
 rw[(bX w1).1,es]
 have t:OvL 2 10 (Rat.divInt 3 2):=⟨by omega,by decide,3,by rw[Rat.divInt_eq_div];rfl,by decide⟩
 have x:=(Mo ha hc).mul t
 have y:=x.mul (Mn c2.toNat (by omega) (by omega))
 have z:=((Mo ha2 hc2).mul (Mn (c.toNat*2) (by omega) (by omega))).mono (y:=10+10+10) (by omega)
 rw[Nat.mul_comm,Rat.mul_one] at z
 rw[Rat.mul_one] at y
 exact⟨x.qb.qw (by omega),(y.add z).qb.qw (by omega)⟩
def w8 (s:Rat) (f:List (Nat×Nat)):List (Nat×Nat):=f.map fun p=>shq (yK s p)
variable {f:List (Nat×Nat)}{i:Nat}
theorem HK (hf : ∀p∈f,fW p) (hs:fW (shq s)) (hq:QW s) (hi:i<f.length):ft (w8 s f) i=ft f i*Rat.divInt 3 2+s:=by
 unfold ft w8
 rw[List.getD_eq_getElem?_getD,List.getD_eq_getElem?_getD,List.getElem?_map,List.getElem?_eq_getElem hi]
 exact(bX (ES (hf _ (List.getElem_mem hi)) hs hq).2).1
theorem U3 (hf : ∀p∈f,fW p) (hs:fW (shq s)) (hq:QW s) (i j:Nat) (hi:i<f.length) (hj:j<f.length):leF (ft (w8 s f)) i j=leF (ft f) i j:=by
 unfold leF
 rw[HK hf hs hq hi,HK hf hs hq hj]
 refine decide_eq_decide.2 ?_
 have e:Rat.divInt 3 2=3 / 2:=by rw[Rat.divInt_eq_div];rfl
 rw[e]
 generalize ft f i=x
 generalize ft f j=y
 constructor<;>intro h<;>grind
theorem UA {n:Nat} (i j:Nat) (hi:i<n) (hj:j<n):leF (ft (List.replicate n p)) i j=true:=by
 unfold leF ft
 rw[List.getD_eq_getElem?_getD,List.getD_eq_getElem?_getD,List.getElem?_replicate,List.getElem?_replicate,if_pos hi,if_pos hj]
 exact decide_eq_true Rat.le_refl
theorem OV (h:f[i]?=some p):shL (w8 s (f.take (i+1)))=shL (w8 s (f.take i)) ++ shC (shq (yK s p)).1 (shq (yK s p)).2:=by
 rw[eV h,w8,List.map_append,List.map_cons,List.map_nil,Ac];rfl
theorem Oo (p:Nat×Nat) (i:Nat):shL (List.replicate (i+1) p)=shL (List.replicate i p) ++ shC p.1 p.2:=by
 rw[List.replicate_succ',Ac]
variable {a1:Bool}{x2:Value}{m2:Int}{x1:Value}{a2:Bool}{m1:Int}{fr:Fr}{b12:Nat}
set_option maxRecDepth 100000 in
theorem Ho {H:IH} {kv wv fv:Value} {ll:List (List (Nat×Nat))} {t:List Nat} {lo hi:Nat×Nat} {S c19 c20:Nat} (rk:rV ll t) (h8:ll.length≤8) (sk:ji H kv ll) (sw:ni H wv t) (sf:gw H fv f) (sh : ∀p∈f,fW p) (lf:f.length=ll.length)
  (hS:S≤20) (blo:lo.1<W8∧lo.2<W8) (bhi:hi.1<W8∧hi.2<W8) (olo:okS lo.1 lo.2) (ohi:okS hi.1 hi.2) (lo0:0≤rOf lo) (lo1:rOf lo≤1) (hi1:rOf hi≤1) (le:rOf lo≤rOf hi)
  (qd:aB x1=true∧aB x2=true∧(0≤m1∧m1<4294967296)∧(0≤m2∧m2<4294967296))
  (g12:H.ext.get b12=some (.cells [.bool a1,x1,.int .u32 m1,.bool a2,x2,.int .u32 m2] 0 none)) (l12:b12<H.n)
  (g19:H.ext.get c19=some (.cells (shC lo.1 lo.2) 0 none)) (g20:H.ext.get c20=some (.cells (shC hi.1 hi.2) 0 none)) (l19:c19<H.n) (l20:c20<H.n)
  (f12:ab fr 12=some (ptr (2*b12) 0)) (f15:ab fr 15=some kv) (f16:ab fr 16=some wv) (f17:ab fr 17=some fv) (f18:ab fr 18=some (KN S)) (f19:ab fr 19=some (ptr (2*c19) 0)) (f20:ab fr 20=some (ptr (2*c20) 0)) (f23:ab fr 23=some (.slice none 0 0)) (f24:ab fr 24=some (.slice none 0 0)) :
  Do (wpC prog 6 231 none (Ey BG 7) fr H) QRi nx:=by
 obtain⟨d1,d2,d3,d4⟩:=qd
 have tk6:List.take 6 (List.drop 0 [.bool a1,x1,.int .u32 m1,.bool a2,x2,.int .u32 m2]) = [.bool a1,x1,.int .u32 m1,.bool a2,x2,.int .u32 m2]:=rfl
 have Ld : ∀H:IH,H.ext.get b12=some (.cells [.bool a1,x1,.int .u32 m1,.bool a2,x2,.int .u32 m2] 0 none)→load prog H 58 (ptr (2*b12) 0)=some (.agg #[.bool a1,x1,.int .u32 m1,.bool a2,x2,.int .u32 m2]):=fun H g=>by
  have r:=aj g
  simp -dsimp (disch:=omega) only[wpS,wpT,zL,zA,ld58,r,tk6]
 obtain⟨s,hs⟩:=aT (ua a1 m1 a2 m2)
 obtain⟨ss,sq⟩:=QJ a1 m1 a2 m2
 rw[←hs] at ss sq
 have O0:=sf.1.len (P:=prog) tZ
 have l1:=rk.ko.1
 show Do (wpC _ _ _ _ (.seq _ _) fr H) _ _
 simp -dsimp (disch:=omega) only[wpS,wpT,zL,zA,KQ,ug,uf,f17,O0]
 refine loop (fun m fr hh => ∃(i:Nat) (v1 v2:Value),i+m=f.length∧Ext H hh∧Gf hh H.n 16 v1 v2 i (shL (w8 s (f.take i))) (shL (List.replicate i (shq s)))∧ab fr 12=some (ptr (2*b12) 0)∧ab fr 15=some kv∧ab fr 16=some wv∧ab fr 17=some fv∧ab fr 18=some (KN S)∧ab fr 19=some (ptr (2*c19) 0)∧ab fr 20=some (ptr (2*c20) 0)∧ab fr 23=some v1∧ab fr 24=some v2∧ab fr 74=some fv∧ab fr 75=some (KN f.length)∧ab fr 76=some (KN i)) f.length
  ⟨0,.slice none 0 0,.slice none 0 0,by omega,Ext.refl _,.inl ⟨rfl,rfl,rfl,by simp[w8,shL]⟩,by simp[f12,f15,f16,f17,f18,f19,f20,f23,f24]⟩ ?_
 clear f12 f15 f16 f17 f18 f19 f20 f23 f24
 rintro m fr hh ⟨i,v1,v2,him,E,A,f12,f15,f16,f17,f18,f19,f20,f23,f24,f74,f75,f76⟩
 simp -dsimp (disch:=omega) only[wpS,wpT,zL,zA,KQ,ug,uf,f75,f76]
 refine au ?_ ?_<;>intro hc<;>simp only[decide_eq_true_eq,decide_eq_false_iff_not] at hc
 ·have hi':i<f.length:=by omega
  obtain⟨p,hp⟩:=iC (l:=f) (i:=i) hi'
  have pm:=List.mem_of_getElem? hp
  have pw:=sf.2.2 p pm
  have pok:okS p.1 p.2:=by
   obtain⟨a,c,ha,hc,rfl⟩:=sh p pm
   exact(bX (gX ⟨by omega,by omega⟩ ⟨by omega,by omega⟩ (by omega))).2
  obtain⟨qw1,qw2⟩:=ES (sh p pm) ss sq
  have EN:=E.n
  obtain⟨G1,hG1,n1,Z1,k1⟩:=xR hh p
  simp -dsimp (disch:=omega) only[wpS,wpT,zE,zL,zA,fR,dF,KQ,ug,uf,f74,f76,sf.1.idx xl hi',sf.ld E.aa hp,aD,ax,aV,bg]
  rw[←hG1]
  clear hG1
  obtain⟨_,_,L1⟩:=psh k1
  refine drawn [(0,[2])] (by kernel_rfl) (by kernel_rfl) rfl ?_
  simp -dsimp (disch:=omega) only[wpS,zE,L1]
  refine call (pR 3 2 ⟨by omega,by omega⟩ ⟨by omega,by omega⟩ (by omega)) ?_
  rintro _ h1 ⟨X1,rfl⟩
  rw[bK]
  have q32:QW (Rat.divInt 3 2):=gX ⟨by omega,by omega⟩ ⟨by omega,by omega⟩ (by omega)
  obtain⟨_,_,L11⟩:=psh (X1.kept (by omega) k1)
  simp -dsimp (disch:=omega) only[wpS,zE]
  refine call (QK pw (gT q32) pok (bX q32).2) ?_
  rintro _ h2 ⟨X2,rfl⟩
  rw[(bX q32).1,qK qw1]
  obtain⟨y,hy⟩:=aT (shq (rOf p*Rat.divInt 3 2))
  have yw:=gT qw1
  have yo:=(bX qw1).2
  have yr:=(bX qw1).1
  rw[←hy] at yw yo yr ⊢
  obtain⟨G2,hG2,n2,Z2,k2⟩:=xR h2 y
  simp -dsimp (disch:=omega) only[wpS,wpT,zE,zL,zA,fR,dF,aD,ax,aV,bg]
  refine⟨ad rfl rfl rfl rfl (ai rfl L1 L11),?_⟩
  try rw[←hG2]
  clear hG2
  have V2:=(X1.trans X2).trans Z2
  have E2:=(E.trans Z1).trans V2
  have Y0:=E2.kept l12 g12
  obtain⟨_,_,L2⟩:=psh k2
  have LD2:=Ld _ Y0
  simp -dsimp (disch:=omega) only[wpS,wpT,zL,zA,KQ,ug,uf]
  refine drawn [(0,[3])] (by kernel_rfl) (by kernel_rfl) rfl ?_
  simp -dsimp (disch:=omega) only[wpS,zE,f12,L2,LD2]
  refine call (yk (by simpa using d1) (by simpa using d2) d3.1 d3.2 d4.1 d4.2) ?_
  rintro _ h3 ⟨X3,rfl⟩
  rw[←hs,bK]
  have o2:=X3.n
  have k23:=X3.kept (by omega) k2
  obtain⟨_,_,L23⟩:=psh k23
  have sw2:=gT sq
  simp -dsimp (disch:=omega) only[wpS,zE]
  refine call (QO yw sw2 yo (bX sq).2) ?_
  rintro _ h4 ⟨X4,rfl⟩
  have er:rOf y+rOf (shq s)=yK s p:=by rw[yr,(bX sq).1];rfl
  rw[er,qK qw2]
  obtain⟨G3,hG3,n3,Z3,k3⟩:=xR h4 (shq (yK s p))
  simp -dsimp (disch:=omega) only[wpS,wpT,zE,zL,zA,fR,dF,aD,ax,aV,bg]
  refine⟨ad rfl rfl rfl rfl (ai rfl L2 L23),?_⟩
  try rw[←hG3]
  clear hG3
  have V3:=(X3.trans X4).trans Z3
  have E3:=E2.trans V3
  have g123:=E3.kept l12 g12
  have m3:=E3.n
  obtain⟨_,_,L3⟩:=psh k3
  have LD3:=Ld _ g123
  obtain⟨v1',j1,ap1,Gr1,E4,nx2⟩:=(A.ext ((Z1.trans V2).trans V3)).XY (P:=prog) (t:=61) KX (by omega) (new1:=shC (shq (yK s p)).1 (shq (yK s p)).2) (new2:=shC (shq s).1 (shq s).2) (by rw[ax]) (by rw[ax]) (aV _ _) (aV _ _) (by omega) (by omega) E3 (Nat.le_refl _)
  have nj1:=Gr1.n
  have W1:=(Ext.refl G3).new (.cells (shC (shq (yK s p)).1 (shq (yK s p)).2) 16 none)
  have L3n:=(psh (W1.kept (by omega) k3)).2.2
  have LDn:=Ld _ (W1.kept (by omega) g123)
  have LDj:=Ld _ (E4.kept l12 g12)
  simp -dsimp (disch:=omega) only[wpS,wpT,zE,zL,zA,KQ,ug,uf]
  refine drawn [(1,[3]),(5,[3])] (by kernel_rfl) (by kernel_rfl) rfl ?_
  simp -dsimp (disch:=omega) only[wpS,wpT,zE,zL,zA,B9,nR,f12,f23,f24,L3,LDj,aD,ax,bg,ap1]
  refine call (yk (by simpa using d1) (by simpa using d2) d3.1 d3.2 d4.1 d4.2) ?_
  rintro _ j2 ⟨Y2,rfl⟩
  rw[←hs,bK]
  obtain⟨v2',j3,ap2,A5,Gr2,E5⟩:=nx2 j2 Y2
  simp -dsimp (disch:=omega) only[wpS,wpT,zE,zL,zA,B9,nR,aD,ax,bg,ap2]
  refine⟨aw (ad rfl rfl rfl rfl (ai rfl L3 L3n)) (ad rfl rfl rfl rfl (ai f12 LDj LDn)),?_⟩
  rw[←OV hp,←Oo] at A5
  simp -dsimp (disch:=omega) only[wpS,wpT,zE,zL,zA,KQ,ug,uf,f76]
  exact⟨m - 1,by omega,i+1,v1',v2',by omega,E5,A5,by simp[f12,f15,f16,f17,f18,f19,f20,f74,f75]⟩
 ·obtain rfl:i=f.length:=by omega
  rw[List.take_of_length_le (Nat.le_refl _)] at A
  obtain⟨sa,sb⟩:=A.sl (by omega)
  have EN:=E.n
  have mvs : ∀q∈w8 s f,∃p∈f,shq (yK s p)=q:=fun q hq=>List.mem_map.1 hq
  have lm:(w8 s f).length=f.length:=by simp[w8]
  have okf : ∀p∈f,okS p.1 p.2:=fun p pm=>by
   obtain⟨a,c,ha,hc,rfl⟩:=sh p pm
   exact(bX (gX ⟨by omega,by omega⟩ ⟨by omega,by omega⟩ (by omega))).2
  have sm:gw hh v1 (w8 s f):=⟨by rw[lm];exact sa,by omega,fun q hq=>by
   obtain⟨p,pm,rfl⟩:=mvs q hq
   exact gT (ES (sh p pm) ss sq).2⟩
  have sr:gw hh v2 (List.replicate f.length (shq s)):=⟨by rw[List.length_replicate];exact sb,by rw[List.length_replicate];omega,fun q hq=>by rw[List.eq_of_mem_replicate hq];exact gT sq⟩
  simp -dsimp (disch:=omega) only[wpR,wpT]
  exact EJ (M:=w8 s f) (L:=List.replicate f.length (shq s)) rk h8 (sk.aa E.aa) (sw.aa E.aa) (sf.aa E.aa) sm sr okf (fun q hq=>by
   obtain⟨p,pm,rfl⟩:=mvs q hq
   exact(bX (ES (sh p pm) ss sq).2).2) (fun q hq=>by rw[List.eq_of_mem_replicate hq];exact(bX sq).2) lf (by omega) (by rw[List.length_replicate];exact lf) (fun a b ha hb=>U3 sh ss sq a b (by omega) (by omega)) (fun a b ha hb=>UA a b (by omega) (by omega)) hS blo bhi olo ohi lo0 lo1 hi1 le (E.kept l19 g19) (E.kept l20 g20) (by omega) (by omega) (by simp[f15]) (by simp[f16]) (by simp[f17]) (by simp[f18]) (by simp[f19]) (by simp[f20]) (by simp[f23]) (by simp[f24])
theorem or0 (base:Nat→Option (List Value)) (s1 s2:Nat) (y1 y2 v x1 x2 x3 x4 x5 x6:Value) (a1 a2 a3 a4 a5 a6:Bool) (m1 m2 m3 m4 m5 m6:Int) (st:Int) :
  evC (E1 prog N3) (cc (E1 prog N3) 1) 6 231 none 1 (partAt BG 0) (dL 0 [.agg #[B8 s1,y1],.agg #[B8 s2,y2],v,.agg #[.bool a1,x1,.int .u32 m1,.bool a2,x2,.int .u32 m2],.agg #[.bool a3,x3,.int .u32 m3,.bool a4,x4,.int .u32 m4],.agg #[.bool a5,x5,.int .u32 m5,.bool a6,x6,.int .u32 m6],.int .u8 st]) (IH.start base)=some (.normal,(14,.bool false) :: (12,ptr 8 0) :: (11,ptr 6 0) :: (10,ptr 4 0) :: (8,ptr 2 0) :: (7,ptr 0 0) :: dL 0 [.agg #[B8 s1,y1],.agg #[B8 s2,y2],v,.agg #[.bool a1,x1,.int .u32 m1,.bool a2,x2,.int .u32 m2],.agg #[.bool a3,x3,.int .u32 m3,.bool a4,x4,.int .u32 m4],.agg #[.bool a5,x5,.int .u32 m5,.bool a6,x6,.int .u32 m6],.int .u8 st],(((((IH.start base).new (.cells [B8 s1,y1] 0 none)).new (.cells [B8 s2,y2] 0 none)).new (.cells [.bool a1,x1,.int .u32 m1,.bool a2,x2,.int .u32 m2] 0 none)).new (.cells [.bool a3,x3,.int .u32 m3,.bool a4,x4,.int .u32 m4] 0 none)).new (.cells [.bool a5,x5,.int .u32 m5,.bool a6,x6,.int .u32 m6] 0 none)):=rfl
theorem or1 (fr:Fr) (h:IH) :
  evC (E1 prog N3) (cc (E1 prog N3) 1) 6 231 none 1 (partAt BG 1) fr h=some (.normal,(46,.bool false) :: (45,.bool true) :: fr,h):=rfl
abbrev dcs (a1 a2:Bool) (x1 x2:Value) (m1 m2:Int):List Value:=[.bool a1,x1,.int .u32 m1,.bool a2,x2,.int .u32 m2]
set_option maxRecDepth 100000 in
theorem JL {h:IH} {s1 s2 m b7 b8 b10 b11:Nat} {y1 y2 v x3 x4 x5 x6:Value} {l1 l2:List Nat} {a3 a4 a5 a6:Bool} {m3 m4 m5 m6 st:Int} (hv1:xK h y1 l1) (hs1:s1<256) (hv2:xK h y2 l2) (hs2:s2<256) (hd:P1 h v m)
  (qu:aB x1=true∧aB x2=true∧(0≤m1∧m1<4294967296)∧(0≤m2∧m2<4294967296)) (qm:aB x3=true∧aB x4=true∧(0≤m3∧m3<4294967296)∧(0≤m4∧m4<4294967296)) (qb:aB x5=true∧aB x6=true∧(0≤m5∧m5<4294967296)∧(0≤m6∧m6<4294967296)) (q5:0≤st∧st<256)
  (g7:h.ext.get b7=some (.cells [B8 s1,y1] 0 none)) (g8:h.ext.get b8=some (.cells [B8 s2,y2] 0 none)) (g10:h.ext.get b10=some (.cells (dcs a1 a2 x1 x2 m1 m2) 0 none)) (g11:h.ext.get b11=some (.cells (dcs a3 a4 x3 x4 m3 m4) 0 none)) (g12:h.ext.get b12=some (.cells (dcs a5 a6 x5 x6 m5 m6) 0 none)) (l7:b7<h.n) (l8:b8<h.n) (l10:b10<h.n) (l11:b11<h.n) (l12:b12<h.n)
  (f2:ab fr 2=some v) (f6:ab fr 6=some (.int .u8 st)) (f7:ab fr 7=some (ptr (2*b7) 0)) (f8:ab fr 8=some (ptr (2*b8) 0)) (f10:ab fr 10=some (ptr (2*b10) 0)) (f11:ab fr 11=some (ptr (2*b11) 0)) (f12:ab fr 12=some (ptr (2*b12) 0)) :
  Do (wpC prog 6 231 none (Ey BG 2) fr h) QRi nx:=by
 have ta:List.take 2 (List.drop 0 [B8 s1,y1]) = [B8 s1,y1]:=rfl
 have tb:List.take 2 (List.drop 0 [B8 s2,y2]) = [B8 s2,y2]:=rfl
 have tk6 : ∀(a b:Bool) (x y:Value) (n k:Int),List.take 6 (List.drop 0 (dcs a b x y n k))=dcs a b x y n k:=fun _ _ _ _ _ _=>rfl
 have Ld : ∀(H:IH) (k:Nat) (a b:Bool) (x y:Value) (i j:Int),H.ext.get k=some (.cells (dcs a b x y i j) 0 none)→load prog H 58 (ptr (2*k) 0)=some (.agg #[.bool a,x,.int .u32 i,.bool b,y,.int .u32 j]):=fun H k a b x y i j g=>by
  have r:=aj g
  simp -dsimp (disch:=omega) only[wpS,wpT,zL,zA,ld58,r,tk6]
 obtain⟨u1,u2,u3,u4⟩:=qu
 obtain⟨w1,w2,w3,w4⟩:=qm
 show Do (wpC _ _ _ _ (.seq _ _) fr h) _ _
 simp -dsimp (disch:=omega) only[wpS,wpT,zE,zL,zA,Yt,f7,f8,aj g7,aj g8,ta,tb]
 refine call (EL hv1 hs1 hv2 hs2) ?_
 rintro _ h1 ⟨X1,kv,wv,ll,t,rfl,sk,sw,ko,n1,n4,lt,pt,rv⟩
 obtain⟨c1,c2,hlen⟩:=sk.co
 simp -dsimp (disch:=omega) only[wpS,zE,f2,hlen]
 refine call (JJ (hd.aa X1.aa) (by omega)) ?_
 rintro fv h2 ⟨X2,f,sf,lf,sh⟩
 obtain⟨S,hS,hS4⟩ : ∃S:Nat,st % 5=(S:Int)∧S≤4:=⟨(st % 5).toNat,by omega,by omega⟩
 have X12:=X1.trans X2
 have g102:=X12.kept l10 g10
 have g112:=X12.kept l11 g11
 have Y0:=X12.kept l12 g12
 have e1:=X12.n
 simp -dsimp (disch:=omega) only[wpS,zE,Iu,f6,hS]
 refine drawn [(2,[1])] (by kernel_rfl) (by kernel_rfl) rfl ?_
 simp -dsimp (disch:=omega) only[wpS,zE,f10,Ld h2 b10 _ _ _ _ _ _ g102]
 refine call (Dp (by simpa using u1) (by simpa using u2) u3.1 u3.2 u4.1 u4.2) ?_
 rintro _ h3 ⟨X3,a,c,a10,a11,a12,a13,rfl⟩
 obtain⟨t1,t2,t3⟩:=Qp a10 a11 a12 a13
 rw[bK]
 generalize Rat.divInt a c=u at t1 t2 t3 ⊢
 have g113:=X3.kept (by omega) g112
 simp -dsimp (disch:=omega) only[wpS,zE,f11,Ld h3 b11 _ _ _ _ _ _ g113]
 refine call (Dp (by simpa using w1) (by simpa using w2) w3.1 w3.2 w4.1 w4.2) ?_
 rintro _ h4 ⟨X4,a',c',b10',b11',b12',b13',rfl⟩
 obtain⟨t4,t5,t6⟩:=Qp b10' b11' b12' b13'
 rw[bK]
 generalize Rat.divInt a' c'=w at t4 t5 t6 ⊢
 simp -dsimp (disch:=try exact dx) only[wpS,wpT,zE,zL,zA,fR,dF,aD,ax,aV,bg]
 refine⟨ad rfl rfl rfl rfl (ai f11 (Ld h3 b11 _ _ _ _ _ _ g113) (Ld h2 b11 _ _ _ _ _ _ g112)),?_⟩
 obtain⟨p,hp⟩:=aT (shq u)
 obtain⟨q,hq⟩:=aT (shq w)
 have bp:=gT t1
 have op:=(bX t1).2
 have rp:=(bX t1).1
 have bq:=gT t4
 have oq:=(bX t4).2
 have rq:=(bX t4).1
 rw[←hp] at bp op rp ⊢
 rw[←hq] at bq oq rq ⊢
 obtain⟨H5,hH5⟩:=aT ((((h4.new (.cells Z16 0 none)).new (.cells Z16 0 none)).put h4.n (.cells (shC p.1 p.2) 0 none)).put (h4.n+1) (.cells (shC q.1 q.2) 0 none))
 have F5:Ext h4 H5:=by rw[hH5];exact((((Ext.refl h4).new _).new _).put (Nat.le_refl _) _).put (by omega) _
 have e5:H5.n=h4.n+2:=by rw[hH5];rfl
 have k19:H5.ext.get h4.n=some (.cells (shC p.1 p.2) 0 none):=by rw[hH5];simp (disch:=omega) only[ae,ak]
 have k20:H5.ext.get (h4.n+1)=some (.cells (shC q.1 q.2) 0 none):=by rw[hH5];simp (disch:=omega) only[ae]
 rw[←hH5]
 clear hH5
 have X25:=(X3.trans X4).trans F5
 have X15:=X2.trans X25
 have e3:=X3.n
 have e4:=X4.n
 simp -dsimp (disch:=omega) only[wpS,wpT,zE,zL,zA,cq,aj k19,aj k20,ax,aS]
 refine call (Aa bp bq op oq) ?_
 rintro _ h6 ⟨X6,rfl⟩
 rw[rp,rq]
 obtain⟨z,hz,hzl⟩:=Zp u w
 rw[hz]
 clear hz
 have Yw:=X6.kept (by omega) k19
 have Yv:=X6.kept (by omega) k20
 have e6:=X6.n
 have X26:=X25.trans X6
 simp -dsimp (disch:=omega) only[wpS,zE]
 refine fB (fun fr H => ∃lo hi:Nat×Nat,Ext h2 H∧h4.n+1<H.n∧(lo.1<W8∧lo.2<W8)∧(hi.1<W8∧hi.2<W8)∧okS lo.1 lo.2∧okS hi.1 hi.2∧0≤rOf lo∧rOf lo≤1∧rOf hi≤1∧rOf lo≤rOf hi∧H.ext.get h4.n=some (.cells (shC lo.1 lo.2) 0 none)∧H.ext.get (h4.n+1)=some (.cells (shC hi.1 hi.2) 0 none)∧ab fr 12=some (ptr (2*b12) 0)∧ab fr 15=some kv∧ab fr 16=some wv∧ab fr 17=some fv∧ab fr 18=some (KN S)∧ab fr 19=some (ptr (2*h4.n) 0)∧ab fr 20=some (ptr (2*(h4.n+1)) 0)) (fun hc=>?_) (fun hc=>?_) ?_
 ·have hlt:w<u:=hzl.1 (of_decide_eq_true hc)
  simp -dsimp (disch:=omega) only[wpS,wpT,zE,zL,dF,cq,aj Yw,aj Yv,Yw,Yv,ax,aV,aS,LN]
  refine⟨q,p,(X26.put (by omega) _).put (by omega) _,by simp only[aM];omega,bq,bp,oq,op,by rw[rq];exact t5,by rw[rq];exact t6,by rw[rp];exact t3,by rw[rp,rq];exact Rat.le_of_lt hlt,?_,ae _ _ rfl,by simp[f12]⟩
  rw[ak _ _ (by omega)]
  exact ae _ _ rfl
 ·have hle:u≤w:=Rat.not_lt.1 fun k=>by
   have:=hzl.2 k
   have:=of_decide_eq_false hc
   omega
  simp -dsimp (disch:=omega) only[wpS]
  exact⟨p,q,X26,by omega,bp,bq,op,oq,by rw[rp];exact t2,by rw[rp];exact t3,by rw[rq];exact t6,by rw[rp,rq];exact hle,Yw,Yv,by simp[f12]⟩
 clear f2 f6 f7 f8 f10 f11 f12
 rintro fr H ⟨lo,hi,E,nH,blo,bhi,olo,ohi,lo0,lo1,hi1,le,g19,g20,f12,f15,f16,f17,f18,f19,f20⟩
 have g12H:=E.kept (by omega) Y0
 have kd:=(X2.trans E).aa
 have en:=E.n
 rw[kX]
 simp -dsimp (disch:=omega) only[wpR]
 exact Ho (S:=S) (f:=f) (lo:=lo) (hi:=hi) ⟨ko,lt,pt,rv⟩ (by omega) (sk.aa kd) (sw.aa kd) (sf.aa E.aa) sh lf (by omega) blo bhi olo ohi lo0 lo1 hi1 le qb g12H (by omega) g19 g20 (by omega) (by omega) (by simp[f12]) (by simp[f15]) (by simp[f16]) (by simp[f17]) (by simp[f18]) (by simp[f19]) (by simp[f20]) (by simp) (by simp)
end Go.Id
namespace Go.Proofs.YtnnmjocmapilaaaGreat
open Go.ChangeShapes Go.WideShapes Go.ChangeAt Go.RowKit Go.Id
theorem wf_u16 {x:Int} (h:(Lit.int .u16 x).wf=true):0≤x∧x<65536:=by
 simp only[Lit.wf,Bool.and_eq_true,decide_eq_true_eq] at h
 have h1:(0:Int)≤x:=h.1
 have h2:x≤(65535:Int):=h.2
 exact⟨h1,by omega⟩
theorem Zdg {m:Mp} (n d:Nat):aG m (shV n d) (.agg (shC n d).toArray):=.bV (CL n d)
set_option maxRecDepth 100000 in
theorem sZ (os:Os) (started:os.Started) (H:Type) (enc:TypeId×Value→H) :
  ReturnsInHanded {} Tryz.checked os 6 .any (Rows.outlierRisesSpec.pre6 enc Tryz.prog Tryz.f6 Rows.outlierRisesRow.domain false) (Rows.outlierRisesSpec.post enc Tryz.prog Tryz.f6 false true false false):=by
 refine returnsInHanded_of_change (C:=Tryz.checked) Tryz.own started (by kernel_rfl) Tryz.func6
  (ChangeSpec.witness6 (enc:=enc) (C:=Tryz.checked) false ⟨#[],#[.agg #[.int .u8 0,.slice none 0 0],.agg #[.int .u8 0,.slice none 0 0],.slice none 0 0,.agg #[.bool false,.slice none 0 0,.int .u32 0,.bool false,.slice none 0 0,.int .u32 0],.agg #[.bool false,.slice none 0 0,.int .u32 0,.bool false,.slice none 0 0,.int .u32 0],.agg #[.bool false,.slice none 0 0,.int .u32 0,.bool false,.slice none 0 0,.int .u32 0],.int .u8 0],[]⟩ 8 (by kernel_rfl) (by kernel_rfl) (by kernel_rfl) (by kernel_rfl)) ?_
 intro W base args ds gs before Zbq hW hcnd _
 have ng : ∀(j:Nat) t v,Tryz.f6.params[j]?=some t→args[j]?=some v→Value.okWide Tryz.prog W .any base t v:=Zbq
 have hW':=hW
 obtain⟨p,q,hA0,hV,rfl,hfz,hnd⟩:=hW
 have hA:DataW.TrodAll enc Tryz.prog W 0 (fun _=>true) true Tryz.f6.params.toList args.toList ds p:=hA0
 have hA1:=hA
 rw[Tryz.params6] at hA ng
 obtain⟨a0,r0,d0,ds0,p0,q0,e0,rfl,rfl,t0,h0A⟩:=trodAll_cons hA
 obtain⟨a1,r1,d1,ds1,p1,q1,rfl,rfl,rfl,t1,h1A⟩:=trodAll_cons h0A
 obtain⟨a2,r2,d2,ds2,p2,q2,rfl,rfl,rfl,t2,h2A⟩:=trodAll_cons h1A
 obtain⟨a3,r3,d3,ds3,p3,q3,rfl,rfl,rfl,t3,h3A⟩:=trodAll_cons h2A
 obtain⟨a4,r4,d4,ds4,p4,q4,rfl,rfl,rfl,t4,h4A⟩:=trodAll_cons h3A
 obtain⟨a5,r5,d5,ds5,p5,q5,rfl,rfl,rfl,t5,h5A⟩:=trodAll_cons h4A
 obtain⟨a6,r6,d6,ds6,p6,q6,rfl,rfl,rfl,t6,h6A⟩:=trodAll_cons h5A
 obtain⟨rfl,rfl,rfl⟩:=trodAll_nil h6A
 obtain⟨rfl,rfl⟩:=trodVars_none hV
 obtain rfl:args = #[a0,a1,a2,a3,a4,a5,a6]:=by cases args;simpa using e0
 obtain⟨z0,rfl,_⟩:=okWide_struct zJ (ng 0 _ _ rfl rfl)
 obtain⟨fu0,t0⟩:=t0
 obtain⟨k0,yN0,lN0,g0,kb0,m0,sN0⟩:=C7 (fun _=>none) t0
 obtain rfl:z0 = #[B8 k0,yN0]:=by cases z0;simpa using g0
 obtain⟨z1,rfl,_⟩:=okWide_struct zJ (ng 1 _ _ rfl rfl)
 obtain⟨fu1,t1⟩:=t1
 obtain⟨k1,yN1,lN1,g1,kb1,m1,sN1⟩:=C7 (fun _=>none) t1
 obtain rfl:z1 = #[B8 k1,yN1]:=by cases z1;simpa using g1
 obtain⟨b2,n2,c2,rfl⟩:=okWide_slice Gz (ng 2 _ _ rfl rfl)
 obtain⟨fu2,t2⟩:=t2
 obtain⟨v2,l2,g2,m2,s2⟩:=GD (fun _=>none) t2
 cases g2
 obtain⟨z3,rfl,_⟩:=okWide_struct uP (ng 3 _ _ rfl rfl)
 obtain⟨fu3,t3⟩:=t3
 obtain⟨ba3,ya3,na3,bb3,yb3,nb3,g3,m3,i3⟩:=Bi (fun _=>none) t3
 obtain rfl:z3 = #[.bool ba3,ya3,.int .u32 na3,.bool bb3,yb3,.int .u32 nb3]:=by cases z3;simpa using g3
 obtain⟨z4,rfl,_⟩:=okWide_struct uP (ng 4 _ _ rfl rfl)
 obtain⟨fu4,t4⟩:=t4
 obtain⟨ba4,ya4,na4,bb4,yb4,nb4,g4,m4,i4⟩:=Bi (fun _=>none) t4
 obtain rfl:z4 = #[.bool ba4,ya4,.int .u32 na4,.bool bb4,yb4,.int .u32 nb4]:=by cases z4;simpa using g4
 obtain⟨z5,rfl,_⟩:=okWide_struct uP (ng 5 _ _ rfl rfl)
 obtain⟨fu5,t5⟩:=t5
 obtain⟨ba5,ya5,na5,bb5,yb5,nb5,g5,m5,i5⟩:=Bi (fun _=>none) t5
 obtain rfl:z5 = #[.bool ba5,ya5,.int .u32 na5,.bool bb5,yb5,.int .u32 nb5]:=by cases z5;simpa using g5
 obtain⟨x6,rfl,_,_,w6⟩:=open_int XE (ng 6 _ _ rfl rfl) t6
 have i6:0≤x6∧x6<256:=wf_u8 w6
 have hb:=Ug (W:=W) (G:=fun _=>none) (fun b cs h=>by cases h)
 refine(JI (tb:=N3) (nt:=231) (rs:=[.tmp 14]) Tryz.sound (show Sound (E1 Tryz.prog N3) from Up) Tryz.func6 rfl rfl rfl (by simp) (or0 _ _ _ _ _ _ _ _ _ _ _ _ _ _ _ _ _ _ _ _ _ _ _ _ _) (or1 _ _) (JL (b7:=0) (b8:=1) (b10:=2) (b11:=3) (b12:=4) (sN0.aa ((((((Ext.refl _).new _).new _).new _).new _).new _).aa) kb0 (sN1.aa ((((((Ext.refl _).new _).new _).new _).new _).new _).aa) kb1 (s2.aa ((((((Ext.refl _).new _).new _).new _).new _).new _).aa) i3 i4 i5 i6 ((aq _ _ (by simp)).trans ((aq _ _ (by simp)).trans ((aq _ _ (by simp)).trans ((aq _ _ (by simp)).trans (ah _ _ rfl))))) ((aq _ _ (by simp)).trans ((aq _ _ (by simp)).trans ((aq _ _ (by simp)).trans (ah _ _ rfl)))) ((aq _ _ (by simp)).trans ((aq _ _ (by simp)).trans (ah _ _ rfl))) ((aq _ _ (by simp)).trans (ah _ _ rfl)) (ah _ _ rfl) (by simp) (by simp) (by simp) (by simp) (by simp) rfl rfl rfl rfl rfl rfl rfl) hb (args':=#[.agg #[B8 k0,yN0],.agg #[B8 k1,yN1],.slice b2 n2 c2,.agg #[.bool ba3,ya3,.int .u32 na3,.bool bb3,yb3,.int .u32 nb3],.agg #[.bool ba4,ya4,.int .u32 na4,.bool bb4,yb4,.int .u32 nb4],.agg #[.bool ba5,ya5,.int .u32 na5,.bool bb5,yb5,.int .u32 nb5],.int .u8 x6]) (.cons (.iV (.cons (.bA rfl) (.cons (kD m0) (.nil _)))) (.cons (.iV (.cons (.bA rfl) (.cons (kD m1) (.nil _)))) (.cons (kD m2) (.cons (.iV (.cons (.bA rfl) (.cons (kD m3.1) (.cons (.bA rfl) (.cons (.bA rfl) (.cons (kD m3.2) (.cons (.bA rfl) (.nil _)))))))) (.cons (.iV (.cons (.bA rfl) (.cons (kD m4.1) (.cons (.bA rfl) (.cons (.bA rfl) (.cons (kD m4.2) (.cons (.bA rfl) (.nil _)))))))) (.cons (.iV (.cons (.bA rfl) (.cons (kD m5.1) (.cons (.bA rfl) (.cons (.bA rfl) (.cons (kD m5.2) (.cons (.bA rfl) (.nil _)))))))) (.cons (.bA rfl) (.nil _))))))))).mono fun e W' ⟨he,hk⟩=>?_
 subst he
 refine⟨_,rfl,BX (pa:=p0 ++ (p1 ++ (p2 ++ (p3 ++ (p4 ++ (p5 ++ (p6 ++ []))))))) (pv:=[]) hW' (fun _ _ _=>trodAll_mk1 (shut_bool Tryz.underlying4 _)) (fun sp hs=>?_) (fun _ _=>rfl) hk⟩
 exact tA Tryz.kids Tryz.pos hk hA1 (fun t ht=>by
  rw[Tryz.params6] at ht
  simp at ht
  rcases ht with rfl|rfl|rfl|rfl|rfl|rfl|rfl<;>exact of_decide_eq_true (by kernel_rfl)) (fun x hx=>hs x (by simpa using hx))
theorem outlierRises_row:Rows.OutlierRisesSaid :=
 OpenClaim.holds_of_wide 6 Tryz.f6 rfl rfl rfl rfl rfl rfl rfl ⟨rfl,rfl,rfl,rfl,rfl⟩ rfl rfl rfl rfl rfl (by kernel_rfl) Tryz.func6 (by kernel_rfl)
  (of_decide_eq_true (by kernel_rfl)) (by unfold Func.isWrapper;first|(rw[if_pos (by decide +kernel)];kernel_rfl)|(rw[if_neg (by decide +kernel)];exact⟨rfl,rfl⟩))
  (fun os started H enc _=>sZ os started H enc)
#print axioms outlierRises_row
end Go.Proofs.YtnnmjocmapilaaaGreat

/-
  A round of tempering, as plain numbers
-/
import Derived.Test.YtnnmjocmapilaaaGreatTemperRoundsAx
set_option linter.unusedVariables false
set_option linter.unusedSimpArgs false
set_option linter.defProp false
set_option linter.deprecated false
namespace Go.Id
open Go
open Go renaming Operand→QY,Program→QX,TypeId→QZ,Value→QQ
open Nat renaming reduceAdd→zA,reduceEqDiff→zE,reduceLeDiff→zL
open Nat (reduceMul)
set_option maxHeartbeats 16000000
open Go.Proofs.Tryz (prog)
section
def xN (ll:List (List (Nat×Nat))) (ws:List Nat) (s:List Int) (lev:Int):List (List (Nat×Nat)):=oY ll (mK (mJ s lev) ws ws.length)
noncomputable def v8 (ll:List (List (Nat×Nat))) (ws:List Nat) (s:List Int):List Int→Int
 | []=>0
 | a :: l=>if ig ll ws s a≠0 then ig ll ws s a else v8 ll ws s l
noncomputable def mvT (rows:Nat→List (Nat×Nat)):Nat→Nat→List Nat→Nat→List Nat×Nat×Int
 | 0,_,p,s=>(p,s,0)
 | m+1,i,p,s=>if (mvF (rows i) s).2.2≠0 then ([],0,(mvF (rows i) s).2.2) else mvT rows m (i+1) (p ++ [(mvF (rows i) s).1]) (mvF (rows i) s).2.1
def qJ (p:List Nat) (k:Nat):List Nat:=(p.set k (p.getD (k+1) 0)).set (k+1) (p.getD k 0)
noncomputable def exF (s lv:List Int) (p:List Nat) (c:Nat):List Nat×Int×Nat×Int:=if p.length<2 then (p,-1,c,0) else match jR (p.length - 1) TR c with
 | none=>([],0,0,9)
 | some (k,c2)=>let q:=oO (shq (exq (chK s (lv.getD k 0) (lv.getD (k+1) 0) (p.getD k 0) (p.getD (k+1) 0)))) c2
  if q.2.2≠0 then ([],0,0,q.2.2) else if q.1=false then (p,-1,q.2.1,0) else (qJ p k,k,q.2.1,0)
noncomputable def GV (ll:List (List (Nat×Nat))) (ws:List Nat) (s lv st:List Int) (c:Nat):List Nat×Int×Nat×Int:=open Classical in
 if ¬jH ll then ([],0,0,330) else if jO s lv≠0 then ([],0,0,340) else if v8 ll ws s lv≠0 then ([],0,0,v8 ll ws s lv) else if st.length≠lv.length∨st.any (ns ((ll.length:Int) - 1))=true then ([],0,0,2) else
 let f:=mvT (fun i=>(xN ll ws s (lv.getD i 0)).getD (st.getD i 0).toNat []) lv.length 0 [] c
 if f.2.2≠0 then ([],0,0,f.2.2) else exF s lv f.1 f.2.1
def MQ (h:IH) (F:List Nat×Int×Nat×Int) (r:QQ):Prop:=∃out,r=.tuple #[out,KI F.2.1,chV F.2.2.1,KI F.2.2.2]∧df h 1 out F.1.length (F.1.map KN)
variable {h:IH}
def fj {e:Int}:MQ h ([],0,0,e) (.tuple #[.slice none 0 0,KI 0,chV 0,KI e]):=⟨_,rfl,df.nil h aC⟩
theorem Jd (ll:List (List (Nat×Nat))) (ws:List Nat) (s:List Int) (l m:List Int) (h : ∀a∈l,ig ll ws s a=0):v8 ll ws s (l ++ m)=v8 ll ws s m:=by
 induction l with
 | nil=>rfl
 | cons a l ih =>
  rw[List.cons_append,v8,ah (fun hn=>hn (h a ab)),ih fun x hx=>h x (by simp[hx])]
variable {s:List Int}{ll:List (List (Nat×Nat))}{ws:List Nat}
def vJ {lev:Int} (h:ig ll ws s lev=0):jH (xN ll ws s lev)∧(xN ll ws s lev).length=ll.length∧s.length=ll.length:=by
 unfold ig at h
 split at h
 ·omega
 rename_i hk
 have hk:=Classical.not_not.1 hk
 split at h
 ·omega
 split at h
 ·omega
 rename_i hs
 unfold jo at h
 rw[ah (fun x=>x hk)] at h
 split at h
 ·omega
 rename_i hc
 split at h
 ·rename_i ho
  refine⟨LZ hk (di fun hn=>hc (.inl hn)) (fun p hp=>?_) ho,iI _ _,aa⟩
  apply di
  intro hn
  exact hc (.inr ⟨p,hp,aa⟩)
 ·omega
variable {lv:List Int}{a:Int}
theorem Nr {i:Nat} (hi:lv[i]?=some a) (h : ∀j b,j<i→lv[j]?=some b→ig ll ws s b=0) (ha:ig ll ws s a≠0):v8 ll ws s lv=ig ll ws s a:=by
 have hil:=(bU.1 hi).1;have e:lv=lv.take i ++ a :: lv.drop (i+1):=by rw[aK hil] at hi;cases hi;rw[List.getElem_cons_drop,List.take_append_drop]
 rw[e,Jd,v8,aq ha];intro b hb;obtain⟨j,hj⟩:=gH hb;have hjl:=(bU.1 hj).1;rw[gG] at hjl;rw[gR,aq aa] at hj;exact h j b aa hj
theorem Je (h : ∀j b,j<lv.length→lv[j]?=some b→ig ll ws s b=0):v8 ll ws s lv=0:=by
 have:=Jd ll ws s lv [] fun a ha=>by obtain⟨j,hj⟩:=gH ha;exact h j a (bU.1 hj).1 hj
 rw[Gx] at this;exact this
def Na {l:List Nat} {s:Nat} (h0:0<du l l.length) (hs:s<18446744073709551616):(tW l s).2.1<18446744073709551616∧((tW l s).2.2=0→(tW l s).1<l.length):=by
 unfold tW;split
 ·rcases hd:mD (du l l.length) s with _|⟨u,t⟩
  ·exact⟨Nat.succ_pos _,fun h=>by cases h⟩
  ·obtain⟨a,b⟩:=sh h0 hs hd;exact⟨b,fun _=>(OV a).1⟩
 ·exact⟨aC,fun h=>by cases h⟩
def BS {most:Int} {l:List Int} (h : ∀x∈l,0≤x∧x≤most) : ¬l.any (ns most)=true:=fun hn=>by obtain⟨x,hx,hb⟩:=List.any_eq_true.1 hn;have:=h x hx;simp[ns] at hb;omega
theorem tJ {b:Int} {x y:Nat} (h1:1≤s.length) (h2:s.length≤60) (h3 : ∀x∈s,0≤x∧x≤30) (ha:0≤a∧a≤8) (hb:0≤b∧b≤8) (hx:x<s.length) (hy:y<s.length):ke s a b x y=.tuple #[mf (exq (chK s a b x y)),KI 0]:=by
 have e:jO s [a,b]=0:=by
  unfold jO
  have o1:=BS h3
  have o2:=BS (most:=8) (l:=[a,b]) fun z hz=>by
   rcases dV.1 hz with rfl|hz;·exact ha
   ·rw[gQ.1 hz];exact hb
  rw[ah];rintro(c|c|c|c|c|c);·omega
  ·omega
  ·exact o1 c
  ·simp at c
  ·simp at c
  ·exact o2 c
 unfold ke;rw[ah (fun h=>h e),ah aa,iv,iv]
open Classical in
def KX {kv wv sv lvv stv:QQ} {st:List Int} {c:Nat} (hk:iN h kv ll) (hw:iQ h wv ws) (hs:fF h sv s) (hl:fF h lvv lv) (ht:fF h stv st) (hc:c<18446744073709551616) :WV prog (.func (.func 13) #[] #[]) [kv,wv,sv,lvv,stv,chV c] h fun r h'=>Ext h h'∧MQ h' (GV ll ws s lv st c) r:=by
 obtain⟨cv,co,hlen⟩:=hk.co;have Lz:=hl.1.len (P:=prog) dY;have Qj:=ht.1.len (P:=prog) dY;obtain⟨H0,hH0⟩ : ∃H,H=(h.new (.cells [K64 c] 0 none)).new (.cells [.int .u64 0] 0 none):=⟨_,rfl⟩;have n0:H0.n=h.n+2:=by rw[hH0];rfl
 have E0:Ext h H0:=by rw[hH0];exact((Ext.refl h).new _).new _
 have c11:H0.ext.get h.n=some (.cells [K64 c] 0 none):=by rw[hH0];simp (disch:=try exact dx) only[ar,aE]
 have c14:H0.ext.get (h.n+1)=some (.cells [.int .u64 0] 0 none):=by rw[hH0];simp (disch:=try exact dx) only[ar]
 refine enter (nt:=197) (rs:=[.tmp 12,.tmp 13,.cell 14 36,.tmp 15]) Proofs.Tryz.func13 rfl rfl rfl ab ?_;simp -dsimp (disch:=try exact dx) only[wpS,zE,zA,lz,chV];rw[←hH0];clear hH0;refine call (Aa (hk.ai E0.ai)) ?_;rintro _ h1 ⟨X1,rfl⟩;have m1:=X1.n;have d14:=X1.kept aa c14;have d11:=X1.kept aa c11;have E1:=E0.trans X1;unfold GV;by_cases ok:jH ll
 case neg =>
  rw[bF ok,aq ok];simp -dsimp (disch:=try exact dx) only[wpS,wpT,zE,zL,fw,dX,cP,d14,tk1];exact⟨E1.put aa _,fj⟩
 rw[ct ok,ah (fun h=>h ok)];simp -dsimp (disch:=try exact dx) only[wpS,wpT,zE];refine call (tm (hs.ai E1.ai) (hl.ai E1.ai)) ?_;rintro _ z1 ⟨ez,rfl⟩;rw[ez];clear ez z1;rcases pU s lv with le|le
 case inr =>
  rw[le,aq aC];simp -dsimp (disch:=try exact dx) only[wpS,wpT,zE,zL,fw,dX,cP,d14,tk1];exact⟨E1.put aa _,fj⟩
 rw[le,ah aC];obtain⟨⟨s1,s2,s3⟩,l1,l2,l3⟩:=kN le;simp -dsimp (disch:=try exact dx) only[wpS,wpT,zE];refine loop (fun m fr hh => ∃(i:Nat) (out:QQ) (kvs:List QQ),i+m=lv.length∧Ext h1 hh∧Acc hh h1.n 1 out i kvs∧(∀j b,j<i→lv[j]?=some b → ∃kv',kvs[j]?=some kv'∧iN hh kv' (xN ll ws s b)∧ig ll ws s b=0)∧ax fr 0=some kv∧ax fr 1=some wv∧ax fr 2=some sv∧ax fr 3=some lvv∧ax fr 4=some stv∧ax fr 11=some (ptr (2*h.n) 0)∧ax fr 14=some (ptr (2*(h.n+1)) 0)∧ax fr 17=some out∧ax fr 18=some (KN i)) lv.length
  ⟨0,.slice none 0 0,[],aa,Ext.refl _,Acc.nil _ _ aa,fun j b hj=>aa,ab,ab,ab,ab,ab,ab,ab,ab,ab⟩ ?_
 rintro m fr hh ⟨i,out,kvs,him,hE,hA,hL,f0,f1,f2,f3,f4,f11,f14,f17,f18⟩;have hnn:=hE.n;have lc:lv.length≤6:=l2;simp -dsimp (disch:=try exact dx) only[wpS,zE,f3,f18,Lz];refine aG ?_ ?_<;>intro hb1<;>simp only[aS,aV] at hb1
 ·have hi:i<lv.length:=aa
  obtain⟨a,ha⟩ : ∃a,lv[i]?=some a:=⟨_,aK hi⟩;have a64:=hl.2.2 a (bh ha);have EH:=E1.trans hE;have idx:=hl.1.idx gl (P:=prog) (k:=.i64) hi;have ld:=fc hl EH.ai ha;simp -dsimp (disch:=try exact dx) only[wpS,wpT,zE,f0,f1,f2,f3,f18,idx,ld];refine call (K3 (hk.ai EH.ai) (hw.ai EH.ai) (hs.ai EH.ai) a64) ?_;rintro _ h2 ⟨X2,o2,rfl,q1,q2⟩;have m2:=X2.n;have X12:=hE.trans X2;by_cases le2:ig ll ws s a=0
  case neg =>
   rw[q2 le2,Nr ha (fun j b hj hb=>(hL j b hj hb).choose_spec.2.2) le2,aq le2];have d:(ig ll ws s a != 0)=true:=by simpa using le2
   have e14:=X12.kept aa d14;simp -dsimp (disch:=try exact dx) only[wpS,wpT,zE,zL,fw,dX,cP,d,f14,e14,tk1];exact⟨(E1.trans X12).put aa _,fj⟩
  rw[le2];have sk:=q1 le2;obtain⟨co1,co2,_⟩:=sk.co;obtain⟨cV,h5,hap,hA5,hG5,hE5⟩:=(hA.ext X2).qC (P:=prog) (t:=118) Zau (m:=1) (new:=[o2]) aa rfl (by simp[co2]) aa aa X12 (aA _);simp -dsimp (disch:=try exact dx) only[wpS,wpT,zE,zL,zA,Zaa,PS,f17,f18,co1,hap];refine⟨m - 1,aa,i+1,cV,kvs ++ [o2],aa,hE5,hA5,fun j b hj hb=>?_,by simp[f0],by simp[f1],by simp[f2],by simp[f3],by simp[f4],by simp[f11],by simp[f14],ab,ab⟩;have kl:kvs.length=i:=by have:=hA.2.1;omega
  by_cases hji:j=i;·subst hji;rw[ha] at hb;cases hb;exact⟨o2,by rw[gI aa,kl,nD];rfl,sk.ai hG5.ai,le2⟩
  ·obtain⟨kv',b1,b2,b3⟩:=hL j b aa hb
   exact⟨kv',by rw[ef aa];exact b1,b2.ai (X2.ai.trans hG5.ai),b3⟩
 obtain rfl:i=lv.length:=aa;rw[Je (fun j b hj hb=>(hL j b hj hb).choose_spec.2.2),ah aC];have EH:=E1.trans hE;have tl:=ht.2.1;have e14:=hE.kept aa d14;have e11:=hE.kept aa d11;have lb:=ok.2.1;have lb1:=ok.1;by_cases hq:st.length=lv.length
 case neg =>
  rw[aq (.inl hq)];have d:((st.length:Int) != (lv.length:Int))=true:=aT;simp -dsimp (disch:=try exact dx) only[wpS,wpT,zE,zL,fw,dX,cP,f3,f4,f14,Lz,Qj,d,e14,tk1];exact⟨EH.put aa _,fj⟩
 have d:((st.length:Int) != (lv.length:Int))=false:=aT;simp -dsimp (disch:=try exact dx) only[wpS,wpT,zE,f0,f3,f4,Lz,Qj,hlen,d];refine call (xC (ht.ai EH.ai)) ?_;rintro _ z1 ⟨ez,rfl⟩;rw[ez];clear ez z1;by_cases ho:st.any (ns ((ll.length:Int) - 1))=true
 ·rw[aq (.inr ho),ho];simp -dsimp (disch:=try exact dx) only[wpS,wpT,zE,zL,fw,dX,cP,f14,e14,tk1];exact⟨EH.put aa _,fj⟩
 rw[ah (by rintro(x|x);exact x hq;exact ho x)];have ho':st.any (ns ((ll.length:Int) - 1))=false:=by simpa using ho
 rw[ho'];have hst:=tx ho';obtain⟨rows,Jt⟩ : ∃rows,rows=fun i=>(xN ll ws s (lv.getD i 0)).getD (st.getD i 0).toNat []:=⟨_,rfl⟩;rw[←Jt];generalize LQ:exF s lv=fin;simp -dsimp (disch:=try exact dx) only[wpS,wpT,zE];refine loop (fun m fr H => ∃(i:Nat) (o2:QQ) (p:List Nat) (ci:Nat),i+m=lv.length∧p.length=i∧ci<18446744073709551616∧mvT rows lv.length 0 [] c=mvT rows m i p ci∧Ext h H∧bj hh H∧Acc H hh.n 1 o2 i (p.map KN)∧(∀x∈p,x<ll.length)∧H.ext.get h.n=some (.cells [K64 ci] 0 none)∧H.ext.get (h.n+1)=some (.cells [.int .u64 0] 0 none)∧ax fr 0=some kv∧ax fr 1=some wv∧ax fr 2=some sv∧ax fr 3=some lvv∧ax fr 4=some stv∧ax fr 11=some (ptr (2*h.n) 0)∧ax fr 14=some (ptr (2*(h.n+1)) 0)∧ax fr 17=some out∧ax fr 21=some o2∧ax fr 22=some (KN i)) lv.length
  ⟨0,.slice none 0 0,[],c,aa,rfl,hc,rfl,EH,bj.refl _,Acc.nil _ _ aa,ab,e11,e14,by simp[f0],by simp[f1],by simp[f2],by simp[f3],by simp[f4],by simp[f11],by simp[f14],by simp[f17],ab,ab⟩ ?_
 clear f0 f1 f2 f3 f4 f11 f14 f17 f18;rintro m fr H ⟨i,o2,p,ci,him',hpl,hci,hT,hE2,hK2,hA2,hp,g11,g14,f0,f1,f2,f3,f4,f11,f14,f17,f21,f22⟩;have nn2:=hK2.n;simp -dsimp (disch:=try exact dx) only[wpS,zE,f3,f22,Lz];refine aG ?_ ?_<;>intro hb2<;>simp only[aS,aV] at hb2
 ·have hi:i<lv.length:=aa;obtain⟨q,rfl⟩ : ∃q,m=q+1:=⟨m - 1,aa⟩;obtain⟨a,ha⟩ : ∃a,lv[i]?=some a:=⟨_,aK hi⟩;obtain⟨si,hsi⟩ : ∃a,st[i]?=some a:=⟨_,aK aa⟩;obtain⟨kv',kk1,kk2,kk3⟩:=hL i a hi ha;obtain⟨ok2,WY,_⟩:=vJ kk3;obtain⟨x1,x2⟩:=hst si (bh hsi);obtain⟨x,rfl⟩:=fV x1;obtain⟨row,gO⟩ : ∃row,(xN ll ws s a)[x]?=some row:=⟨_,aK aa⟩;obtain⟨rl,ro⟩:=ok2.2.2 row (bh gO);have hri:rows i=row:=by rw[Jt];show(xN ll ws s (lv.getD i 0)).getD (st.getD i 0).toNat []=row;rw[bH,bH,bH,ha,hsi,jf,jf,iv,gO];rfl
  obtain⟨wr,A1,A2,A3⟩:=(kk2.ai hK2).mG gO;have hw8 : ∀p∈row,p.1<W8∧p.2<W8:=A2.2.2;obtain⟨nn,sp⟩:=zQ ro hw8;have so:=hA.sl.ai hK2;have kl:kvs.length=lv.length:=by have:=hA.2.1;omega
  have ixk:=so.idx ZZ (P:=prog) (k:=.i64) (j:=i) hi;rw[fI] at ixk;have ldk:=(so.ld (bj.refl H) aa ag38 (P:=prog) (c:=i)).trans kk1;have ixs:=ht.1.idx gl (P:=prog) (k:=.i64) (j:=i) aa;have lds:=fc ht hE2.ai hsi;simp -dsimp (disch:=try exact dx) only[wpS,wpT,zE,f4,f17,f22,ixk,ldk,ixs,lds,A3,A1 H (bj.refl H)];rw[mvT,hri] at hT;refine call (GW A2 nn aa) ?_;rintro r h4 ⟨X4,w1,w2⟩;have m4:=X4.n;have k11:=X4.kept aa g11;have k14:=X4.kept aa g14;have EH4:=hE2.trans X4;by_cases wf:Ec row
  case neg =>
   obtain rfl:=w2 wf;have eF:mvF row ci=(0,0,6):=by unfold mvF;rw[ah wf]
   rw[eF,aq aC] at hT;rw[hT,aq aC];simp -dsimp (disch:=try exact dx) only[wpS,wpT,zE,zL,fw,dX,cP,f14,k14,tk1];exact⟨EH4.put aa _,fj⟩
  obtain⟨ov,rfl,hov⟩:=w1 wf;have vc:=hov.1.cells;have vo:=hov.1.cok;have eF:mvF row ci=tW (wL row) ci:=by unfold mvF;rw[aq wf]
  rw[eF] at hT;simp -dsimp (disch:=try exact dx) only[wpS,wpT,zE,zL,cP,f11,ay k11,tk1];refine call (KZ hov (by rw[uv];omega) wf sp hci) ?_;rintro _ h5 ⟨X5,rfl⟩;have m5:=X5.n;rw[Nb];have j11:=X5.kept aa k11;have j14:=X5.kept aa k14;have EH5:=EH4.trans X5;have pb:=Na (l:=wL row) (s:=ci) sp hci;obtain⟨F,hF⟩ : ∃F,F=tW (wL row) ci:=⟨_,rfl⟩;rw[←hF] at hT pb ⊢;obtain⟨H6,hH6⟩ : ∃H,H=(h5.new (.cells [.int .u64 0] 0 none)).put h5.n (.cells [K64 F.2.1] 0 none):=⟨_,rfl⟩;have E6:Ext h5 H6:=by rw[hH6];exact((Ext.refl h5).new _).put (aA _) _
  have n6:H6.n=h5.n+1:=by rw[hH6];rfl
  have q26:H6.ext.get h5.n=some (.cells [K64 F.2.1] 0 none):=by rw[hH6];simp (disch:=try exact dx) only[aj]
  have q11:=E6.kept aa j11;have q14:=E6.kept aa j14;by_cases er:F.2.2=0
  case neg =>
   rw[aq er] at hT;rw[hT,aq er];have d:(F.2.2 != 0)=true:=by simpa using er
   simp -dsimp (disch:=try exact dx) only[wpS,wpT,zE,zL,lz,fw,dX,cP,chV,tk1,←hH6,d,f14,q14];exact⟨(EH5.trans E6).put aa _,fj⟩
  rw[ah (fun h=>h er)] at hT;rw[er];obtain⟨H7,hH7⟩ : ∃H,H=H6.put h.n (.cells [K64 F.2.1] 0 none):=⟨_,rfl⟩;have n7:H7.n=H6.n:=by rw[hH7];rfl
  have X26:=(X4.trans X5).trans E6;have hA7:Acc H7 hh.n 1 o2 i (p.map KN):=by rw[hH7];exact(hA2.ext X26).put q11 _
  have E7:Ext h H7:=by rw[hH7];exact(EH5.trans E6).put aa _
  have v11:H7.ext.get h.n=some (.cells [K64 F.2.1] 0 none):=by rw[hH7];exact aj _ _ rfl
  have v14:H7.ext.get (h.n+1)=some (.cells [.int .u64 0] 0 none):=by rw[hH7,au _ _ aa];exact q14
  have K7:bj hh H7:=by rw[hH7];exact(hK2.trans X26.ai).put q11 _
  have w26:H7.ext.get h5.n=some (.cells [K64 F.2.1] 0 none):=by rw[hH7,au _ _ aa];exact q26
  have nX:=X26.n;obtain⟨o3,h8,hap,hA8,hG8,hE8⟩:=hA7.qC (P:=prog) (t:=25) wg (m:=1) (new:=[KN F.1]) aa rfl rfl aa aa E7 aa;have lD:append prog (H7.new (.cells [KN F.1] 1 none)) 25 o2 (.slice (some ⟨2*H7.n,0,none⟩) 1 3)=some (o3,h8):=hap;simp -dsimp (disch:=try exact dx) only[wpS,wpT,zE,zL,zA,lz,dX,cP,kS,ju,chV,tk1,←hH6,f11,q11,ay q26,←hH7,f21,f22,lD];refine⟨q,aa,i+1,o3,p ++ [F.1],F.2.1,aa,by simp[hpl],pb.1,hT,hE8,K7.trans hG8.ai,?_,fun y hy=>?_,hG8.var aa v11,hG8.var aa v14,by simp[f0],by simp[f1],by simp[f2],by simp[f3],by simp[f4],by simp[f11],by simp[f14],by simp[f17],ab,ab⟩;·rw[gF,jJ,nJ];exact hA8
  ·rcases fC.1 hy with hy|hy
   ·exact hp y hy
   ·rw[gQ.1 hy];have:=pb.2 er;rw[uv] at this;omega
 obtain rfl:i=lv.length:=aa;obtain rfl:m=0:=aa;rw[mvT] at hT;rw[hT,ah (show ¬((p,ci,(0:Int)).2.2≠0) from fun h=>h rfl)];have hlo:=hA2.sl.len (P:=prog) dY;have ac:=hA2.sl.cells;have ao:=hA2.sl.cok;have sp12:df H 1 o2 p.length (p.map KN):=by rw[hpl];exact hA2.sl
 have ldc:load prog H 36 (ptr (2*h.n) 0)=some (.agg #[K64 ci]):=qn g11;have nH:=hE2.n;obtain⟨X,hX⟩ : ∃X,X=fin p ci:=⟨_,rfl⟩;rw[show fin (p,ci,(0:Int)).1 (p,ci,(0:Int)).2.1=X from hX.symm];rw[←LQ] at hX;have hL' : ∀j b,j<lv.length→lv[j]?=some b→ig ll ws s b=0:=fun j b hj hb=>(hL j b hj hb).choose_spec.2.2;clear hT LQ hL;simp -dsimp (disch:=try exact dx) only[wpS,wpT,zE,f21,hlo];refine aG ?_ ?_<;>intro hb3<;>simp only[aS,aV] at hb3
 ·have eX:exF s lv p ci=(p,-1,ci,0):=by unfold exF;rw[aq aa]
  rw[eX] at hX;rw[hX];simp -dsimp (disch:=try exact dx) only[wpS,wpT,zE,zL,dX,cP,f11,f14,f21,ay g11,g14,tk1];all_goals exact⟨hE2.put aa _,o2,rfl,sp12.ai ((bj.refl H).put g14 _)⟩
 have lq:(lv.length:Int) - 1=((lv.length - 1:Nat):Int):=aa;simp -dsimp (disch:=try exact dx) only[wpS,wpT,zE,zL,cP,f11,f21,hlo,ay g11,tk1,lq];refine call (K4 (s:=ci) (n:=((lv.length - 1:Nat):Int)) hci ⟨aa,aa⟩) ?_;rintro _ h3 ⟨X3,rfl⟩;have m3:=X3.n;have k11:=X3.kept aa g11;have k14:=X3.kept aa g14;have EH3:=hE2.trans X3;unfold Ax;rw[ah (show ¬((lv.length - 1:Nat):Int)<1 by omega),iv];rcases hb:jR (lv.length - 1) TR ci with _|⟨k,c2⟩
 ·have eX:exF s lv p ci=([],0,0,9):=by unfold exF;rw[ah aa,hpl];simp only[hb]
  rw[eX] at hX;rw[hX];simp -dsimp (disch:=try exact dx) only[wpS,wpT,zE,zL,fw,dX,cP,f11,f14,k11,k14,chV,tk1];exact⟨(EH3.put aa _).put aa _,fj⟩
 obtain⟨hk1,hc2⟩:=Ay aa hb;obtain⟨a,ha⟩ : ∃a,lv[k]?=some a:=⟨_,aK aa⟩;obtain⟨b,hb'⟩ : ∃a,lv[k+1]?=some a:=⟨_,aK aa⟩;obtain⟨x,hx⟩ : ∃a,p[k]?=some a:=⟨_,aK aa⟩;obtain⟨y,hy⟩ : ∃a,p[k+1]?=some a:=⟨_,aK aa⟩;have x1:=hp x (bh hx);have y1:=hp y (bh hy);obtain⟨H4,hH4⟩ : ∃H,H=h3.put h.n (.cells [K64 c2] 0 none):=⟨_,rfl⟩;have n4:H4.n=h3.n:=by rw[hH4];rfl
 have E4:Ext h H4:=by rw[hH4];exact EH3.put aa _
 have v11:H4.ext.get h.n=some (.cells [K64 c2] 0 none):=by rw[hH4];exact aj _ _ rfl
 have v14:H4.ext.get (h.n+1)=some (.cells [.int .u64 0] 0 none):=by rw[hH4,au _ _ aa];exact k14
 have A4:Acc H4 hh.n 1 o2 lv.length (p.map KN):=by rw[hH4];exact(hA2.ext X3).put k11 _
 have pm : ∀j z,p[j]?=some z→(p.map KN)[j]?=some (KN z):=fun j z hz=>by rw[dM,hz];rfl
 have ixa:=hl.1.idx gl (P:=prog) (k:=.i64) (j:=k) aa;have ixb:indexAddr prog 25 lvv (KI ((k:Int)+1))=some (bq lvv (k+1)):=by have:=hl.1.idx gl (P:=prog) (k:=.i64) (j:=k+1) aa;rw[fI] at this;exact this
 have lda:=fun(h':IH) (e:Ext h h')=>fc hl e.ai ha;have ldb:=fun(h':IH) (e:Ext h h')=>fc hl e.ai hb';have ixx:=A4.sl.idx gl (P:=prog) (k:=.i64) (j:=k) aa;have ixy:indexAddr prog 25 o2 (KI ((k:Int)+1))=some (bq o2 ((k+1)*1)):=A4.sl.idx gl (P:=prog) (k:=.i64) (j:=k+1) aa;rw[fI] at ixx ixy;have ldx:=(A4.sl.ld (bj.refl H4) aT ag3 (P:=prog) (c:=k)).trans (pm k x hx);have ldy:=(A4.sl.ld (bj.refl H4) aT ag3 (P:=prog) (c:=k+1)).trans (pm _ y hy);show Do (gX _ _ _ (.tuple #[KN k,chV c2,KI 0])) _ _;simp -dsimp (maxSteps:=1000000) (disch:=first|omega|(simp only[aH,aJ];omega)|decide +kernel|(repeat first|rw[aH]|rw[aJ])) only[wpS,wpT,zE,zL,dX,f2,f3,f11,k11,f21,chV,←hH4,ixa,ixb,lda H4 E4,ldb H4 E4,ixx,ixy,ldx,ldy];have la:=l3 a (bh ha);have lb2:=l3 b (bh hb');have i64 : ∀z:Nat,z<ll.length→fS (z:Int):=fun z hz=>⟨aa,aa⟩;have sl2:s.length=ll.length:=(vJ ((hL' 0 _ aa (aK aa)))).2.2;refine call (Em (a:=a) (b:=b) (x:=(x:Int)) (y:=(y:Int)) (hs.ai E4.ai) (hl.2.2 a (bh ha)) (hl.2.2 b (bh hb')) (i64 x x1) (i64 y y1)) ?_;rintro _ h5 ⟨X5,rfl⟩;have m5:=X5.n;rw[tJ (x:=x) (y:=y) s1 s2 s3 la lb2 aa aa,iD];have kb:=HD la lb2 s3 (x:=x) (y:=y) aa aa;obtain⟨q,hq0⟩ : ∃q,q=shq (exq (chK s a b x y)):=⟨_,rfl⟩;rw[←hq0];have qlt:q.1<W8∧q.2<W8:=by rw[hq0];exact rq (Ak kb)
 have eX:exF s lv p ci=(if (oO q c2).2.2≠0 then (([]:List Nat),(0:Int),(0:Nat),(oO q c2).2.2) else if (oO q c2).1=false then (p,(-1:Int),(oO q c2).2.1,0) else (qJ p k,(k:Int),(oO q c2).2.1,0)):=by unfold exF;rw[ah aa,hpl];simp only[hb];rw[bH,bH,bH,bH,ha,hb',hx,hy];simp only[jf];rw[←hq0]
 clear hq0;rw[eX] at hX;clear eX;have Xu:=X5.kept aa v11;have g14':=X5.kept aa v14;have E5:=E4.trans X5;simp -dsimp (disch:=try exact dx) only[wpS,wpT,zE,zL,zA,pj,jT,bR,ba,cT,fD];obtain⟨H6,hH6⟩ : ∃H,H=(h5.new (.cells Z16 0 none)).put h5.n (.cells (shC q.1 q.2) 0 none):=⟨_,rfl⟩;have E6:Ext h5 H6:=by rw[hH6];exact((Ext.refl h5).new _).put (aA _) _
 have n6:H6.n=h5.n+1:=by rw[hH6];rfl
 have q29:H6.ext.get h5.n=some (.cells (shC q.1 q.2) 0 none):=by rw[hH6];simp (disch:=try exact dx) only[aj]
 rw[←hH6];clear hH6;have j11:=E6.kept aa Xu;have j14:=E6.kept aa g14';simp -dsimp (disch:=try exact dx) only[wpS,wpT,zE,zL,cP,iY,f11,ay j11,ay q29,tk1,ba,dJ];refine call (OL qlt.1 qlt.2 hc2) ?_;rintro _ h7 ⟨X7,rfl⟩;have m7:=X7.n;have k11:=X7.kept aa j11;have k14:=X7.kept aa j14;have E7:=(E5.trans E6).trans X7;have A7:=A4.ext ((X5.trans E6).trans X7);generalize oO q c2=C at hX;unfold NX;obtain⟨H8,hH8⟩ : ∃H,H=h7.put h.n (.cells [K64 C.2.1] 0 none):=⟨_,rfl⟩;have n8:H8.n=h7.n:=by rw[hH8];rfl
 have E8:Ext h H8:=by rw[hH8];exact E7.put aa _
 have Yn:H8.ext.get h.n=some (.cells [K64 C.2.1] 0 none):=by rw[hH8];exact aj _ _ rfl
 have TG:H8.ext.get (h.n+1)=some (.cells [.int .u64 0] 0 none):=by rw[hH8,au _ _ aa];exact k14
 have A8:Acc H8 hh.n 1 o2 lv.length (p.map KN):=by rw[hH8];exact A7.put k11 _
 by_cases er:C.2.2=0
 case neg =>
  rw[aq er] at hX;rw[hX];have d:(C.2.2 != 0)=true:=by simpa using er
  simp -dsimp (maxSteps:=1000000) (disch:=first|omega|(simp only[aH,aJ];omega)|decide +kernel|(repeat first|rw[aH]|rw[aJ])) only[wpS,wpT,zE,zL,fw,dX,cP,f11,f14,k11,chV,tk1,←hH8,d,TG];exact⟨E8.put aa _,fj⟩
 rw[ah (fun h=>h er)] at hX;rw[er];have nH8:=E8.n;cases hC:C.1
 ·rw[aq hC] at hX;rw[hX];simp -dsimp (maxSteps:=1000000) (disch:=first|omega|(simp only[aH,aJ];omega)|decide +kernel|(repeat first|rw[aH]|rw[aJ])) only[wpS,wpT,zE,zL,dX,cP,f11,f14,f21,k11,chV,tk1,←hH8,TG,ay Yn];have s8:df H8 1 o2 p.length (p.map KN):=by rw[hpl];exact A8.sl
  exact⟨E8.put aa _,o2,rfl,s8.ai ((bj.refl H8).put TG _)⟩
 ·rw[ah (by rw[hC];decide)] at hX;rw[hX];have YZ:=A8.sl.idx gl (P:=prog) (k:=.i64) (j:=k) aa;have YY:indexAddr prog 25 o2 (KI ((k:Int)+1))=some (bq o2 ((k+1)*1)):=A8.sl.idx gl (P:=prog) (k:=.i64) (j:=k+1) aa;rw[fI] at YZ YY;have ldx8:=(A8.sl.ld (bj.refl H8) aT ag3 (P:=prog) (c:=k)).trans (pm k x hx);have ldy8:=(A8.sl.ld (bj.refl H8) aT ag3 (P:=prog) (c:=k+1)).trans (pm _ y hy);obtain⟨H9,st1,B9,S9⟩:=(A8.groB l1).set (P:=prog) (t:=3) sz3 (i:=k) aa (x:=KN y) rfl rfl;obtain⟨HA,st2,BA,SA⟩:=B9.set (P:=prog) (t:=3) sz3 (i:=k+1) aa (x:=KN x) rfl rfl;have S:=S9.trans SA;have u11:=(S.2.2.1 h.n (.inl aa)).trans Yn;have u14:=(S.2.2.1 (h.n+1) (.inl aa)).trans TG;have EA:=S.ext E8 aa;simp -dsimp (maxSteps:=1000000) (disch:=first|omega|(simp only[aH,aJ];omega)|decide +kernel|(repeat first|rw[aH]|rw[aJ])) only[wpS,wpT,zE,zL,dX,cP,f11,f14,f21,k11,chV,tk1,←hH8,YZ,YY,ldx8,ldy8,st1,st2,ay u11,u14];have gx:p.getD k 0=x:=by rw[bH,hx];rfl
  have gy:p.getD (k+1) 0=y:=by rw[bH,hy];rfl
  have sw:df HA 1 o2 (qJ p k).length ((qJ p k).map KN):=by
   have e1:(qJ p k).length=lv.length:=by unfold qJ;rw[dB,dB,hpl]
   have e2:(qJ p k).map KN=((p.map KN).set k (KN y)).set (k+1) (KN x):=by unfold qJ;rw[xh,xh,gx,gy]
   rw[e1,e2];exact BA.sl
  exact⟨EA.put aa _,o2,rfl,sw.ai ((bj.refl HA).put u14 _)⟩
end
end Go.Id
namespace Go.Id
open Go
open Go renaming Operand→QY,Program→QX,TypeId→QZ,Value→QQ
open Nat renaming reduceAdd→zA,reduceEqDiff→zE,reduceLeDiff→zL
open Nat (reduceMul)
set_option maxHeartbeats 16000000
section
variable {P:Program}{p q:Tmp}
def Km {k:Nat} {r:jq} (hst:r.state=.ready) (hpe:r.pending=none) (hps:r.params = [p,q]) (hp:p<r.nt) (hq:q<r.nt) (v w0:QQ) (h:IH) (K:QQ→IH→Prop) (hg:h.ext.get k=some (.loop r))(w:wpC P r.fn r.nt (some k) r.assign ((q,w0) :: (p,v) :: r.fr) h (Vd P k r K)):WV P (.func (.yield (2*k)) #[] #[]) [v,w0] h K:=by
 obtain⟨⟨e0,fr0,h0⟩,⟨N0,hN0⟩,he0,hg0,w⟩:=iR w;simp only at he0 hg0 w hN0;subst he0;obtain⟨⟨e,fr,h1⟩,⟨N,hN⟩,hb,hk⟩:=iR w;simp only at hb hk hN;have hp':Nat.blt p r.nt=true:=by simp only[Nat.blt,ch];exact hp
 have hq':Nat.blt q r.nt=true:=by simp only[Nat.blt,ch];exact hq
 have e1:(2*k % 2 == 0)=true:=ab;have e2:2*k / 2=k:=aa;have e3:iT r.nt r.params [v,w0] r.fr=some ((q,w0) :: (p,v) :: r.fr):=by rw[hps];simp[iT,ue,hp',hq']
 have e5:(r.state == LoopState.ready)=true:=by rw[hst];rfl
 have e6:({ h0 with ext:=h0.ext.set k (.loop { r with state:=.busy }) }:IH)=h0.put k (.loop (oP r)):=rfl;have e7:({ oP r with state:=.ready,pending:=none }:jq)=r:=by cases r;simp only at hst hpe;subst hst;subst hpe;rfl
 cases e with
 | normal =>
  refine⟨(.bool true,h1.put k (.loop r)),⟨N0+N+1,fun n hn=>?_⟩,hk⟩;obtain⟨n,rfl⟩ : ∃m,n=m+1:=⟨n - 1,aa⟩;have h2:=hN n aa;have h3:=hN0 n aa;show(bif 2*k % 2 == 0 then fu (E0 P) (fP (E0 P) n) n (2*k / 2) ((#[]:Array QQ).toList ++ [v,w0]) h else none)=_;rw[e1,cg,e2];simp only[fu,dK hg,e3,h3,dK hg0,e5,cg,e6,h2,dK hb,kG];rw[e7];rfl
 | exit i =>
  refine⟨(.bool false,h1.put k (.loop (u6 r (.exit i)))),⟨N0+N+1,fun n hn=>?_⟩,hk⟩;obtain⟨n,rfl⟩ : ∃m,n=m+1:=⟨n - 1,aa⟩;have h2:=hN n aa;have h3:=hN0 n aa;show(bif 2*k % 2 == 0 then fu (E0 P) (fP (E0 P) n) n (2*k / 2) ((#[]:Array QQ).toList ++ [v,w0]) h else none)=_;rw[e1,cg,e2];simp only[fu,dK hg,e3,h3,dK hg0,e5,cg,e6,h2,dK hb,kG];rfl
 | ret =>
  refine⟨(.bool false,h1.put k (.loop (u6 r .ret))),⟨N0+N+1,fun n hn=>?_⟩,hk⟩;obtain⟨n,rfl⟩ : ∃m,n=m+1:=⟨n - 1,aa⟩;have h2:=hN n aa;have h3:=hN0 n aa;show(bif 2*k % 2 == 0 then fu (E0 P) (fP (E0 P) n) n (2*k / 2) ((#[]:Array QQ).toList ++ [v,w0]) h else none)=_;rw[e1,cg,e2];simp only[fu,dK hg,e3,h3,dK hg0,e5,cg,e6,h2,dK hb,kG];rfl
variable {nt:Nat}{Q:dL→Fr→IH→Prop}{rd:Option Nat}{h:IH}{f:Operand}{fn:FuncId}{fr:Fr}
def T5 {assign body:Code} {fv:QQ} (hf:opd fr f=some fv) (hrd:vz h rd=true) (hp:p<nt) (hq:q<nt)(w : ∀(r:jq) (y:QQ),r.fn=fn→r.nt=nt→r.body=body→(∀v w0 h1 K,h1.ext.get h.n=some (.loop r)→Do (wpC P fn nt (some h.n) assign ((q,w0) :: (p,v) :: fr) h1) (Vd P h.n r K) nx→WV P y [v,w0] h1 K) →WV P fv [y] (h.new (.loop r)) fun _ h1=>J8 h.n r fr Q h1) :
  Do (vg P fn nt rd f #[p,q] assign body fr h) Q nx:=by
 have w1:=w { state:=.ready,pending:=none,fn,nt,fr,params:=[p,q],assign:=assign,body } (.func (.yield (2*h.n)) #[] #[]) rfl rfl rfl
  fun v w0 h1 K hg w=>Km (r:={ state:=.ready,pending:=none,fn,nt,fr,params:=[p,q],assign:=assign,body }) rfl rfl rfl hp hq v w0 h1 K hg w
 obtain⟨⟨v,h1⟩,⟨N,hN⟩,hq⟩:=w1;have st : ∀(r:jq) (e:dL),mj h1 h.n=some r→(r.state == LoopState.busy)=false→Al r.pending=some e → ∀n,N≤n→ot (E0 P) (fP (E0 P) n) fn nt rd f [p,q] assign body fr h=some (e,fr,h1.put h.n .dead):=by intro r e h3 h4 h5 n hn;have h2:=hN n hn;simp only at h2;simp only[ot,hrd,cg,hf];show(match fP (E0 P) n fv [_] _ with|none=>none|some (_,h1)=>_)=_;rw[h2];simp only[h3,h4,fU,h5];rfl
 rcases hq with⟨hg,hq⟩|⟨i,hg,hq⟩|⟨hg,hq⟩;·exact⟨(.normal,fr,h1.put h.n .dead),⟨N,fun n hn=>st _ _ (dK hg) rfl rfl n hn⟩,hq⟩
 ·exact⟨(.exit i,fr,h1.put h.n .dead),⟨N,fun n hn=>st _ _ (dK hg) rfl rfl n hn⟩,hq⟩
 ·exact⟨(.ret,fr,h1.put h.n .dead),⟨N,fun n hn=>st _ _ (dK hg) rfl rfl n hn⟩,hq⟩
def OM {ps:Array Tmp} {a b:Code} {id:Nat} {K:Fr→IH→Prop} (R:Fr→IH→Prop)(w:Do (vg P fn nt rd f ps a b fr h) (qB id (rL (fun fr h=>Pst (R fr h) nx) Q)) nx) (k : ∀fr h,R fr h→K fr h):Do (vg P fn nt rd f ps a b fr h) (qB id (rL K Q)) nx :=
 cut (a:=.block id (.rangeFunc f ps a b)) R w k
end
open Go.Proofs.Tryz (prog)
section
def MN (a:Int) (kv:QQ):QQ:=.agg #[KI a,kv]
variable {h:IH}{wv sv kv lvv:QQ}
def O6 (e1:kv.cells = #[kv]) (e2:wv.cells = #[wv]) (e3:sv.cells = #[sv]) (e4:lvv.cells = #[lvv]) :WV prog (.func (.func 46) #[] #[]) [kv,wv,sv,lvv] h fun r h'=>r=.func (.func 121) #[] #[ptr (2*(h.n+3)) 0,ptr (2*h.n) 0,ptr (2*(h.n+1)) 0,ptr (2*(h.n+2)) 0]∧h'=(((h.new (.cells [kv] 0 none)).new (.cells [wv] 0 none)).new (.cells [sv] 0 none)).new (.cells [lvv] 0 none):=by refine enter (nt:=10) (rs:=[.tmp 8]) Proofs.Tryz.func46 rfl rfl rfl ab ?_;simp -dsimp (disch:=try exact dx) only[wpS,wpT,zE,zA,e1,e2,e3,e4]
def LD {b:Nat} {y:QQ} {ll:List (List (Nat×Nat))} {ws:List Nat} {s lv:List Int} (J:Nat→IH→Prop) (D:IH→Prop)(hJ : ∀i hh,J i hh→hh.ext.get b=some (.cells [kv] 0 none)∧hh.ext.get (b+1)=some (.cells [wv] 0 none)∧hh.ext.get (b+2)=some (.cells [sv] 0 none)∧hh.ext.get (b+3)=some (.cells [lvv] 0 none)∧b+3<hh.n∧iN hh kv ll∧iQ hh wv ws∧fF hh sv s∧fF hh lvv lv)(h0:J 0 h) (ud : ∀hh,J lv.length hh→D hh) (hlen:lv.length≤6)(hok : ∀i hh hh2 a out,lv[i]?=some a→J i hh→Ext hh hh2→ig ll ws s a=0→iN hh2 out (xN ll ws s a)→WV prog y [MN a out,KI 0] hh2 fun r h'=>r=.bool true∧J (i+1) h')(herr : ∀i hh hh2 a,lv[i]?=some a→J i hh→Ext hh hh2→ig ll ws s a≠0→WV prog y [MN a (.slice none 0 0),KI (ig ll ws s a)] hh2 fun r h'=>r=.bool false∧D h') :WV prog (.func (.func 121) #[] #[ptr (2*(b+3)) 0,ptr (2*b) 0,ptr (2*(b+1)) 0,ptr (2*(b+2)) 0]) [y] h fun _ h'=>D h':=by
 obtain⟨b0,b1,b2,b3,bn,kk,ww,ss,lls⟩:=hJ 0 h h0;refine enter (nt:=36) (rs:=[]) Proofs.Tryz.func121 rfl rfl rfl ab ?_;simp -dsimp (disch:=try exact dx) only[wpS,zE,zA,jF,ay b3,lls.1.len dY];refine loop (fun m fr hh => ∃i:Nat,i+m=lv.length∧J i hh∧ax fr 0=some y∧ax fr 1=some (ptr (2*(b+3)) 0)∧ax fr 2=some (ptr (2*b) 0)∧ax fr 3=some (ptr (2*(b+1)) 0)∧ax fr 4=some (ptr (2*(b+2)) 0)∧ax fr 10=some lvv∧ax fr 11=some (KN lv.length)∧ax fr 12=some (KN i)) lv.length ⟨0,aa,h0,ab,ab,ab,ab,ab,ab,ab,ab⟩ ?_;rintro m fr hh ⟨i,him,hji,f0,f1,f2,f3,f4,f10,f11,f12⟩;obtain⟨c0,c1,c2,c3,cn,kk2,ww2,ss2,ls2⟩:=hJ i hh hji;simp -dsimp (disch:=try exact dx) only[wpS,f11,f12];refine aG ?_ ?_<;>intro hc<;>simp only[aS,aV] at hc
 ·have hi:i<lv.length:=aa;obtain⟨a,ha⟩ : ∃a,lv[i]?=some a:=⟨_,aK hi⟩;have a64:=ls2.2.2 a (bh ha);have idx:=ls2.1.idx gl (P:=prog) (k:=.i64) hi;have ld:=fc ls2 (bj.refl hh) ha;simp -dsimp (disch:=try exact dx) only[wpS,wpT,zE,jF,Rx,ld42,f2,f3,f4,f10,f12,idx,ld,ay c0,ay c1,ay c2];refine call (xr kk2 ww2 ss2 a64) ?_;rintro _ h2 ⟨X2,o2,rfl,q1,q2⟩;by_cases le:ig ll ws s a=0
  case neg =>
   rw[q2 le];simp -dsimp (disch:=try exact dx) only[wpS,wpT,zE,zL,zA,Wb,M5,M3,f0];refine call (herr i hh h2 a ha hji X2 le) ?_;rintro _ h3 ⟨rfl,d⟩;simp -dsimp (disch:=try exact dx) only[wpS,wpT,zE];exact d
  rw[le];have sk:=q1 le;obtain⟨co1,co2,_⟩:=sk.co;simp -dsimp (disch:=try exact dx) only[wpS,wpT,zE,zL,zA,Wb,M5,M3,f0,co1];refine call (hok i hh h2 a o2 ha hji X2 le sk) ?_;rintro _ h3 ⟨rfl,j⟩;simp -dsimp (disch:=try exact dx) only[wpS,wpT,zE,f12];exact⟨m - 1,aa,i+1,aa,j,by simp[f0],by simp[f1],by simp[f2],by simp[f3],by simp[f4],by simp[f10],by simp[f11],ab⟩
 ·obtain rfl:i=lv.length:=aa;simp -dsimp (disch:=try exact dx) only[wpS,wpT];exact ud _ hji
end
section
structure nm (H:IH) (n1:Nat) (ks:List Nat) (lv:List Int) (kvs:List Value) (at_:Nat→Nat):Prop where
 len:ks.length=kvs.length
 asc : ∀(i j a b:Nat),i<j→ks[i]?=some a→ks[j]?=some b→a<b
 get : ∀(j k:Nat),ks[j]?=some k→n1≤k∧k<H.n ∧ ∃kv,kvs[j]?=some kv∧H.ext.get k=some (.cells [KI (lv.getD j 0),kv,KN (at_ j)] 0 none)
variable {H':IH}{ks:List Nat}{f:Nat→Nat}{lv:List Int}{n1:Nat}{H:IH}{kvs:List Value}
def nm.of {g:Nat→Nat} (r:nm H n1 ks lv kvs f) (hn:H.n≤H'.n)(h : ∀j k kv,ks[j]?=some k→n1≤k→k<H.n→kvs[j]?=some kv→H.ext.get k=some (.cells [KI (lv.getD j 0),kv,KN (f j)] 0 none)→H'.ext.get k=some (.cells [KI (lv.getD j 0),kv,KN (g j)] 0 none)):nm H' n1 ks lv kvs g :=
 ⟨r.len,r.asc,fun j k hk=>by
  obtain⟨a,b,kv,c,d⟩:=r.get j k hk;exact⟨a,cB b hn,kv,c,h j k kv hk a b c d⟩⟩
def nm.ext (r:nm H n1 ks lv kvs f) (e:Ext H H'):nm H' n1 ks lv kvs f :=
 r.of e.n fun _ _ _ _ _ b _ d=>e.kept b d
def nm.grow (r:nm H n1 ks lv kvs f) (e:Grow H H'):nm H' n1 ks lv kvs f :=
 r.of e.n fun _ _ _ _ _ b _ d=>e.var b d
variable {k:Nat}
def nm.put (r:nm H n1 ks lv kvs f) (hk:k<n1) (o:cX):nm (H.put k o) n1 ks lv kvs f :=
 r.of (aA _) fun _ _ _ _ a _ _ d=>by rw[au _ _ aa];exact d
variable {i:Nat}
def nm.ne (r:nm H n1 ks lv kvs f) {j a b:Nat} (hi:ks[i]?=some a) (hj:ks[j]?=some b) (h:i≠j):a≠b:=by
 rcases Nat.lt_or_gt_of_ne h with h|h;·have:=r.asc _ _ _ _ h hi hj;omega
 ·have:=r.asc _ _ _ _ h hj hi;omega
variable {kv:Value}
def nm.set (r:nm H n1 ks lv kvs f) {x:Nat} (hi:ks[i]?=some k) (hkv:kvs[i]?=some kv) (hn:H'.n=H.n) (hs : ∀j,j≠k→H'.ext.get j=H.ext.get j)(hg:H'.ext.get k=some (.cells [KI (lv.getD i 0),kv,KN x] 0 none)):nm H' n1 ks lv kvs (fun j=>if j=i then x else f j) :=
 r.of aa fun j k' kv' a _ _ b c=>by
  by_cases h:j=i;·subst h;rw[hi] at a;cases a;rw[hkv] at b;cases b;rw[aq rfl];exact hg
  ·rw[ah h,hs k' (r.ne a hi h)];exact c
def nm.snoc (r:nm H n1 ks lv kvs f) (hk : ∀j∈ks,j<k) (h1:n1≤k) (h2:k<H.n) (hg:H.ext.get k=some (.cells [KI (lv.getD ks.length 0),kv,KN (f ks.length)] 0 none)):nm H n1 (ks ++ [k]) lv (kvs ++ [kv]) f:=by
 refine⟨by simp[r.len],fun i j a b hij ha hb=>?_,fun j k' hj=>?_⟩
 ·rcases dr j ks.length with h|h
  ·rw[ef h] at hb;rw[ef aa] at ha;exact r.asc i j a b hij ha hb
  ·rw[gI h] at hb;have:=(bU.1 hb).1;have e:j - ks.length=0:=by simpa using this
   rw[e] at hb;cases hb;rw[ef aa] at ha;exact hk a (bh ha)
 ·rcases dr j ks.length with h|h
  ·rw[ef h] at hj;obtain⟨a,b,kv',c,d⟩:=r.get j k' hj;exact⟨a,b,kv',by rw[ef (by have:=r.len;omega)];exact c,d⟩
  ·rw[gI h] at hj;have:=(bU.1 hj).1;have e:j - ks.length=0:=by simpa using this
   have e2:j=ks.length:=aa;rw[e] at hj;cases hj;subst e2;exact⟨h1,h2,kv,by rw[r.len,gI (aA _),nD];rfl,hg⟩
end
end Go.Id

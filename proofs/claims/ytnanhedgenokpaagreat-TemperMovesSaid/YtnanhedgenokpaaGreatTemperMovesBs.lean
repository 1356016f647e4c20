/-
  A round of tempering, as plain numbers; reference 34: Round. Loops over functions that yield two values.
-/
import Derived.Test.YtnanhedgenokpaaGreatTemperMovesBr
import Derived.Test.YtnanhedgenokpaaGreatTemperMovesBq
import Derived.Test.YtnanhedgenokpaaGreatTemperMovesBh
import Derived.Test.YtnanhedgenokpaaGreatTemperMovesBe
import Derived.Test.YtnanhedgenokpaaGreatTemperMovesAt
set_option linter.unusedVariables false
set_option linter.unusedSimpArgs false
set_option linter.defProp false
set_option linter.deprecated false
namespace Go.Id
open Go
def pT (ll:List (List (Nat×Nat))) (ws:List Nat) (s:List Int) (lev:Int):List (List (Nat×Nat)):=kB ll (jv (jo s lev) ws ws.length)
noncomputable def pS (ll:List (List (Nat×Nat))) (ws:List Nat) (s:List Int):List Int→Int
 | []=>0
 | a :: l=>if gN ll ws s a≠0 then gN ll ws s a else pS ll ws s l
noncomputable def mvT (rows:Nat→List (Nat×Nat)):Nat→Nat→List Nat→Nat→List Nat×Nat×Int
 | 0,_,p,s=>(p,s,0)
 | m+1,i,p,s=>if (mvF (rows i) s).2.2≠0 then ([],0,(mvF (rows i) s).2.2) else mvT rows m (i+1) (p ++ [(mvF (rows i) s).1]) (mvF (rows i) s).2.1
def fl (p:List Nat) (k:Nat):List Nat:=(p.set k (p.getD (k+1) 0)).set (k+1) (p.getD k 0)
noncomputable def exF (s lv:List Int) (p:List Nat) (c:Nat):List Nat×Int×Nat×Int:=if p.length<2 then (p,-1,c,0) else match jd (p.length - 1) TR c with
 | none=>([],0,0,9)
 | some (k,c2)=>let q:=mM (shq (exq (chK s (lv.getD k 0) (lv.getD (k+1) 0) (p.getD k 0) (p.getD (k+1) 0)))) c2
  if q.2.2≠0 then ([],0,0,q.2.2) else if q.1=false then (p,-1,q.2.1,0) else (fl p k,k,q.2.1,0)
noncomputable def yG (ll:List (List (Nat×Nat))) (ws:List Nat) (s lv st:List Int) (c:Nat):List Nat×Int×Nat×Int:=open Classical in
 if ¬fL ll then ([],0,0,330) else if fF s lv≠0 then ([],0,0,340) else if pS ll ws s lv≠0 then ([],0,0,pS ll ws s lv) else if st.length≠lv.length∨st.any (oE ((ll.length:Int) - 1))=true then ([],0,0,2) else
 let f:=mvT (fun i=>(pT ll ws s (lv.getD i 0)).getD (st.getD i 0).toNat []) lv.length 0 [] c
 if f.2.2≠0 then ([],0,0,f.2.2) else exF s lv f.1 f.2.1
def OU (h:IH) (F:List Nat×Int×Nat×Int) (r:Value):Prop:=∃out,r=.tuple #[out,KI F.2.1,chV F.2.2.1,KI F.2.2.2]∧bI h 1 out F.1.length (F.1.map KN)
theorem iG {h:IH} {e:Int}:OU h ([],0,0,e) (.tuple #[.slice none 0 0,KI 0,chV 0,KI e]):=⟨_,rfl,bI.nil h (by decide)⟩
theorem Da (ll:List (List (Nat×Nat))) (ws:List Nat) (s:List Int) (l m:List Int) (h : ∀a∈l,gN ll ws s a=0):pS ll ws s (l ++ m)=pS ll ws s m:=by
 induction l with
 | nil=>rfl
 | cons a l ih =>
  rw[List.cons_append,pS,if_neg (fun hn=>hn (h a (by simp))),ih fun x hx=>h x (by simp[hx])]
theorem mC {ll:List (List (Nat×Nat))} {ws:List Nat} {s:List Int} {lev:Int} (h:gN ll ws s lev=0):fL (pT ll ws s lev)∧(pT ll ws s lev).length=ll.length∧s.length=ll.length:=by
 unfold gN at h
 split at h
 ·omega
 rename_i hk
 have hk:=Classical.not_not.1 hk
 split at h
 ·omega
 split at h
 ·omega
 rename_i hs
 unfold kF at h
 rw[if_neg (fun x=>x hk)] at h
 split at h
 ·omega
 rename_i hc
 split at h
 ·rename_i ho
  refine⟨Fy hk (Classical.byContradiction fun hn=>hc (.inl hn)) (fun p hp=>?_) ho,gh _ _,by omega⟩
  apply Classical.byContradiction
  intro hn
  exact hc (.inr ⟨p,hp,by omega⟩)
 ·omega
theorem NL {ll:List (List (Nat×Nat))} {ws:List Nat} {s lv:List Int} {i:Nat} {a:Int} (hi:lv[i]?=some a) (h : ∀j b,j<i→lv[j]?=some b→gN ll ws s b=0) (ha:gN ll ws s a≠0):pS ll ws s lv=gN ll ws s a:=by
 have hil:=(List.getElem?_eq_some_iff.1 hi).1
 have e:lv=lv.take i ++ a :: lv.drop (i+1):=by
  rw[List.getElem?_eq_getElem hil] at hi
  cases hi
  rw[List.getElem_cons_drop,List.take_append_drop]
 rw[e,Da,pS,if_pos ha]
 intro b hb
 obtain⟨j,hj⟩:=List.getElem?_of_mem hb
 have hjl:=(List.getElem?_eq_some_iff.1 hj).1
 rw[List.length_take] at hjl
 rw[List.getElem?_take,if_pos (by omega)] at hj
 exact h j b (by omega) hj
theorem Db {ll:List (List (Nat×Nat))} {ws:List Nat} {s lv:List Int} (h : ∀j b,j<lv.length→lv[j]?=some b→gN ll ws s b=0):pS ll ws s lv=0:=by
 have:=Da ll ws s lv [] fun a ha=>by
  obtain⟨j,hj⟩:=List.getElem?_of_mem ha
  exact h j a (List.getElem?_eq_some_iff.1 hj).1 hj
 rw[List.append_nil] at this
 exact this
theorem Ns {l:List Nat} {s:Nat} (h0:0<cE l l.length) (hs:s<18446744073709551616):(oC l s).2.1<18446744073709551616∧((oC l s).2.2=0→(oC l s).1<l.length):=by
 unfold oC
 split
 ·rcases hd:jj (cE l l.length) s with _|⟨u,t⟩
  ·exact⟨Nat.succ_pos _,fun h=>by cases h⟩
  ·obtain⟨a,b⟩:=oV h0 hs hd
   exact⟨b,fun _=>(zC a).1⟩
 ·exact⟨by decide,fun h=>by cases h⟩
theorem tk {most:Int} {l:List Int} (h : ∀x∈l,0≤x∧x≤most) : ¬l.any (oE most)=true:=fun hn=>by
 obtain⟨x,hx,hb⟩:=List.any_eq_true.1 hn
 have:=h x hx
 simp[oE] at hb
 omega
theorem sZ {s:List Int} {a b:Int} {x y:Nat} (h1:1≤s.length) (h2:s.length≤60) (h3 : ∀x∈s,0≤x∧x≤30) (ha:0≤a∧a≤8) (hb:0≤b∧b≤8) (hx:x<s.length) (hy:y<s.length):iK s a b x y=.tuple #[iS (exq (chK s a b x y)),KI 0]:=by
 have e:fF s [a,b]=0:=by
  unfold fF
  have o1:=tk h3
  have o2:=tk (most:=8) (l:=[a,b]) fun z hz=>by
   rcases List.mem_cons.1 hz with rfl|hz
   ·exact ha
   ·rw[List.mem_singleton.1 hz];exact hb
  rw[if_neg]
  rintro(c|c|c|c|c|c)
  ·omega
  ·omega
  ·exact o1 c
  ·simp at c
  ·simp at c
  ·exact o2 c
 unfold iK
 rw[if_neg (fun h=>h e),if_neg (by omega),Int.toNat_natCast,Int.toNat_natCast]
end Go.Id

namespace Go.Id
open Go
theorem D5 {P:Program} {k:Nat} {r:fa} {p q:Tmp} (hst:r.state=.ready) (hpe:r.pending=none) (hps:r.params = [p,q]) (hp:p<r.nt) (hq:q<r.nt) (v w0:Value) (h:IH) (K:Value→IH→Prop) (hg:h.ext.get k=some (.loop r))
  (w:wpC P r.fn r.nt (some k) r.assign ((q,w0) :: (p,v) :: r.fr) h (Ox P k r K)):WV P (.func (.yield (2*k)) #[] #[]) [v,w0] h K:=by
 obtain⟨⟨e0,fr0,h0⟩,⟨N0,hN0⟩,he0,hg0,w⟩:=dY w
 simp only at he0 hg0 w hN0
 subst he0
 obtain⟨⟨e,fr,h1⟩,⟨N,hN⟩,hb,hk⟩:=dY w
 simp only at hb hk hN
 have hp':Nat.blt p r.nt=true:=by simp only[Nat.blt,Nat.ble_eq];exact hp
 have hq':Nat.blt q r.nt=true:=by simp only[Nat.blt,Nat.ble_eq];exact hq
 have e1:(2*k % 2 == 0)=true:=by simp
 have e2:2*k / 2=k:=by omega
 have e3:ef r.nt r.params [v,w0] r.fr=some ((q,w0) :: (p,v) :: r.fr):=by
  rw[hps];simp[ef,nU,hp',hq']
 have e5:(r.state == LoopState.ready)=true:=by rw[hst];rfl
 have e6:({ h0 with ext:=h0.ext.set k (.loop { r with state:=.busy }) }:IH)=h0.put k (.loop (kh r)):=rfl
 have e7:({ kh r with state:=.ready,pending:=none }:fa)=r:=by
  cases r;simp only at hst hpe;subst hst;subst hpe;rfl
 cases e with
 | normal =>
  refine⟨(.bool true,h1.put k (.loop r)),⟨N0+N+1,fun n hn=>?_⟩,hk⟩
  obtain⟨n,rfl⟩ : ∃m,n=m+1:=⟨n - 1,by omega⟩
  have h2:=hN n (by omega)
  have h3:=hN0 n (by omega)
  show(bif 2*k % 2 == 0 then ct (E0 P) (cI (E0 P) n) n (2*k / 2) ((#[]:Array Value).toList ++ [v,w0]) h else none)=_
  rw[e1,cond_true,e2]
  simp only[ct,bH hg,e3,h3,bH hg0,e5,cond_true,e6,h2,bH hb,List.nil_append]
  rw[e7];rfl
 | exit i =>
  refine⟨(.bool false,h1.put k (.loop (oW r (.exit i)))),⟨N0+N+1,fun n hn=>?_⟩,hk⟩
  obtain⟨n,rfl⟩ : ∃m,n=m+1:=⟨n - 1,by omega⟩
  have h2:=hN n (by omega)
  have h3:=hN0 n (by omega)
  show(bif 2*k % 2 == 0 then ct (E0 P) (cI (E0 P) n) n (2*k / 2) ((#[]:Array Value).toList ++ [v,w0]) h else none)=_
  rw[e1,cond_true,e2]
  simp only[ct,bH hg,e3,h3,bH hg0,e5,cond_true,e6,h2,bH hb,List.nil_append]
  rfl
 | ret =>
  refine⟨(.bool false,h1.put k (.loop (oW r .ret))),⟨N0+N+1,fun n hn=>?_⟩,hk⟩
  obtain⟨n,rfl⟩ : ∃m,n=m+1:=⟨n - 1,by omega⟩
  have h2:=hN n (by omega)
  have h3:=hN0 n (by omega)
  show(bif 2*k % 2 == 0 then ct (E0 P) (cI (E0 P) n) n (2*k / 2) ((#[]:Array Value).toList ++ [v,w0]) h else none)=_
  rw[e1,cond_true,e2]
  simp only[ct,bH hg,e3,h3,bH hg0,e5,cond_true,e6,h2,bH hb,List.nil_append]
  rfl
theorem Nj {P:Program} {fn:FuncId} {nt:Nat} {rd:Option Nat} {f:Operand} {p q:Tmp} {assign body:Code} {fr:Fr} {h:IH} {Q:bd→Fr→IH→Prop} {fv:Value} (hf:opd fr f=some fv) (hrd:pz h rd=true) (hp:p<nt) (hq:q<nt)
  (w : ∀(r:fa) (y:Value),r.fn=fn→r.nt=nt→r.body=body→(∀v w0 h1 K,h1.ext.get h.n=some (.loop r)→Do (wpC P fn nt (some h.n) assign ((q,w0) :: (p,v) :: fr) h1) (Ox P h.n r K) nx→WV P y [v,w0] h1 K) →
   WV P fv [y] (h.new (.loop r)) fun _ h1=>D2 h.n r fr Q h1) :
  Do (pf P fn nt rd f #[p,q] assign body fr h) Q nx:=by
 have w1:=w { state:=.ready,pending:=none,fn,nt,fr,params:=[p,q],assign:=assign,body } (.func (.yield (2*h.n)) #[] #[]) rfl rfl rfl
  fun v w0 h1 K hg w=>D5 (r:={ state:=.ready,pending:=none,fn,nt,fr,params:=[p,q],assign:=assign,body }) rfl rfl rfl hp hq v w0 h1 K hg w
 obtain⟨⟨v,h1⟩,⟨N,hN⟩,hq⟩:=w1
 have st : ∀(r:fa) (e:bd),iy h1 h.n=some r→(r.state == LoopState.busy)=false→tT r.pending=some e → ∀n,N≤n→jK (E0 P) (cI (E0 P) n) fn nt rd f [p,q] assign body fr h=some (e,fr,h1.put h.n .dead):=by
  intro r e h3 h4 h5 n hn
  have h2:=hN n hn
  simp only at h2
  simp only[jK,hrd,cond_true,hf]
  show(match cI (E0 P) n fv [_] _ with|none=>none|some (_,h1)=>_)=_
  rw[h2]
  simp only[h3,h4,cond_false,h5]
  rfl
 rcases hq with⟨hg,hq⟩|⟨i,hg,hq⟩|⟨hg,hq⟩
 ·exact⟨(.normal,fr,h1.put h.n .dead),⟨N,fun n hn=>st _ _ (bH hg) rfl rfl n hn⟩,hq⟩
 ·exact⟨(.exit i,fr,h1.put h.n .dead),⟨N,fun n hn=>st _ _ (bH hg) rfl rfl n hn⟩,hq⟩
 ·exact⟨(.ret,fr,h1.put h.n .dead),⟨N,fun n hn=>st _ _ (bH hg) rfl rfl n hn⟩,hq⟩
theorem Im {P:Program} {fn:FuncId} {nt:Nat} {rd:Option Nat} {f:Operand} {ps:Array Tmp} {a b:Code} {id:Nat} {fr:Fr} {h:IH} {K:Fr→IH→Prop} {Q:bd→Fr→IH→Prop} (R:Fr→IH→Prop)
  (w:Do (pf P fn nt rd f ps a b fr h) (lM id (ot (fun fr h=>Pst (R fr h) nx) Q)) nx) (k : ∀fr h,R fr h→K fr h):Do (pf P fn nt rd f ps a b fr h) (lM id (ot K Q)) nx :=
 cut (a:=.block id (.rangeFunc f ps a b)) R w k
end Go.Id

namespace Go.Id
open Go
open Go.Proofs.Tryz (prog)
open Nat renaming reduceAdd→zA,reduceEqDiff→zE,reduceLeDiff→zL
set_option maxHeartbeats 16000000
def Gj (a:Int) (kv:Value):Value:=.agg #[KI a,kv]
theorem IF {h:IH} {kv wv sv lvv:Value} (e1:kv.cells = #[kv]) (e2:wv.cells = #[wv]) (e3:sv.cells = #[sv]) (e4:lvv.cells = #[lvv]) :
  WV prog (.func (.func 58) #[] #[]) [kv,wv,sv,lvv] h fun r h'=>r=.func (.func 140) #[] #[ptr (2*(h.n+3)) 0,ptr (2*h.n) 0,ptr (2*(h.n+1)) 0,ptr (2*(h.n+2)) 0]∧h'=(((h.new (.cells [kv] 0 none)).new (.cells [wv] 0 none)).new (.cells [sv] 0 none)).new (.cells [lvv] 0 none):=by
 refine enter (nt:=10) (rs:=[.tmp 8]) Proofs.Tryz.func58 rfl rfl rfl (by simp) ?_
 simp -dsimp (disch:=try exact dx) only[wpS,wpT,zE,zA,e1,e2,e3,e4]
theorem Ff {h:IH} {b:Nat} {y kv wv sv lvv:Value} {ll:List (List (Nat×Nat))} {ws:List Nat} {s lv:List Int} (J:Nat→IH→Prop) (D:IH→Prop)
  (hJ : ∀i hh,J i hh→hh.ext.get b=some (.cells [kv] 0 none)∧hh.ext.get (b+1)=some (.cells [wv] 0 none)∧hh.ext.get (b+2)=some (.cells [sv] 0 none)∧hh.ext.get (b+3)=some (.cells [lvv] 0 none)∧b+3<hh.n∧je hh kv ll∧iA hh wv ws∧fI hh sv s∧fI hh lvv lv)
  (h0:J 0 h) (tS : ∀hh,J lv.length hh→D hh) (hlen:lv.length≤6)
  (hok : ∀i hh hh2 a out,lv[i]?=some a→J i hh→Ext hh hh2→gN ll ws s a=0→je hh2 out (pT ll ws s a)→WV prog y [Gj a out,KI 0] hh2 fun r h'=>r=.bool true∧J (i+1) h')
  (UG : ∀i hh hh2 a,lv[i]?=some a→J i hh→Ext hh hh2→gN ll ws s a≠0→WV prog y [Gj a (.slice none 0 0),KI (gN ll ws s a)] hh2 fun r h'=>r=.bool false∧D h') :
  WV prog (.func (.func 140) #[] #[ptr (2*(b+3)) 0,ptr (2*b) 0,ptr (2*(b+1)) 0,ptr (2*(b+2)) 0]) [y] h fun _ h'=>D h':=by
 obtain⟨b0,b1,b2,b3,bn,kk,ww,ss,lls⟩:=hJ 0 h h0
 refine enter (nt:=36) (rs:=[]) Proofs.Tryz.func140 rfl rfl rfl (by simp) ?_
 simp -dsimp (disch:=try exact dx) only[wpS,zE,zA,fQ,ai b3,lls.1.len cW]
 refine loop (fun m fr hh => ∃i:Nat,i+m=lv.length∧J i hh∧ah fr 0=some y∧ah fr 1=some (ptr (2*(b+3)) 0)∧ah fr 2=some (ptr (2*b) 0)∧ah fr 3=some (ptr (2*(b+1)) 0)∧ah fr 4=some (ptr (2*(b+2)) 0)∧ah fr 10=some lvv∧ah fr 11=some (KN lv.length)∧ah fr 12=some (KN i)) lv.length
  ⟨0,by omega,h0,by simp,by simp,by simp,by simp,by simp,by simp,by simp,by simp⟩ ?_
 rintro m fr hh ⟨i,him,hji,f0,f1,f2,f3,f4,f10,f11,f12⟩
 obtain⟨c0,c1,c2,c3,cn,kk2,ww2,ss2,ls2⟩:=hJ i hh hji
 simp -dsimp (disch:=try exact dx) only[wpS,f11,f12]
 refine ax ?_ ?_<;>intro hc<;>simp only[decide_eq_true_eq,decide_eq_false_iff_not] at hc
 ·have hi:i<lv.length:=by omega
  obtain⟨a,ha⟩ : ∃a,lv[i]?=some a:=⟨_,List.getElem?_eq_getElem hi⟩
  have a64:=ls2.2.2 a (List.mem_of_getElem? ha)
  have idx:=ls2.1.idx fc (P:=prog) (k:=.i64) hi
  have ld:=fS ls2 (aF.refl hh) ha
  simp -dsimp (disch:=try exact dx) only[wpS,wpT,zE,fQ,Qc,Uf,f2,f3,f4,f10,f12,idx,ld,ai c0,ai c1,ai c2]
  refine call (mV kk2 ww2 ss2 a64) ?_
  rintro _ h2 ⟨X2,o2,rfl,q1,q2⟩
  by_cases le:gN ll ws s a=0
  case neg =>
   rw[q2 le]
   simp -dsimp (disch:=try exact dx) only[wpS,wpT,zE,zL,zA,Py,GB,GA,f0]
   refine call (UG i hh h2 a ha hji X2 le) ?_
   rintro _ h3 ⟨rfl,d⟩
   simp -dsimp (disch:=try exact dx) only[wpS,wpT,zE]
   exact d
  rw[le]
  have sk:=q1 le
  obtain⟨co1,co2,_⟩:=sk.co
  simp -dsimp (disch:=try exact dx) only[wpS,wpT,zE,zL,zA,Py,GB,GA,f0,co1]
  refine call (hok i hh h2 a o2 ha hji X2 le sk) ?_
  rintro _ h3 ⟨rfl,j⟩
  simp -dsimp (disch:=try exact dx) only[wpS,wpT,zE,f12]
  exact⟨m - 1,by omega,i+1,by omega,j,by simp[f0],by simp[f1],by simp[f2],by simp[f3],by simp[f4],by simp[f10],by simp[f11],by simp⟩
 ·obtain rfl:i=lv.length:=by omega
  simp -dsimp (disch:=try exact dx) only[wpS,wpT]
  exact tS _ hji
end Go.Id

namespace Go.Id
open Go
structure jf (H:IH) (n1:Nat) (ks:List Nat) (lv:List Int) (kvs:List Value) (at_:Nat→Nat):Prop where
 len:ks.length=kvs.length
 asc : ∀(i j a b:Nat),i<j→ks[i]?=some a→ks[j]?=some b→a<b
 get : ∀(j k:Nat),ks[j]?=some k→n1≤k∧k<H.n ∧ ∃kv,kvs[j]?=some kv∧H.ext.get k=some (.cells [KI (lv.getD j 0),kv,KN (at_ j)] 0 none)
theorem jf.of {H H':IH} {n1:Nat} {ks:List Nat} {lv:List Int} {kvs:List Value} {f g:Nat→Nat} (r:jf H n1 ks lv kvs f) (hn:H.n≤H'.n)
  (h : ∀j k kv,ks[j]?=some k→n1≤k→k<H.n→kvs[j]?=some kv→H.ext.get k=some (.cells [KI (lv.getD j 0),kv,KN (f j)] 0 none)→H'.ext.get k=some (.cells [KI (lv.getD j 0),kv,KN (g j)] 0 none)):jf H' n1 ks lv kvs g :=
 ⟨r.len,r.asc,fun j k hk=>by
  obtain⟨a,b,kv,c,d⟩:=r.get j k hk
  exact⟨a,Nat.lt_of_lt_of_le b hn,kv,c,h j k kv hk a b c d⟩⟩
theorem jf.ext {H H':IH} {n1:Nat} {ks:List Nat} {lv:List Int} {kvs:List Value} {f:Nat→Nat} (r:jf H n1 ks lv kvs f) (e:Ext H H'):jf H' n1 ks lv kvs f :=
 r.of e.n fun _ _ _ _ _ b _ d=>e.kept b d
theorem jf.grow {H H':IH} {n1:Nat} {ks:List Nat} {lv:List Int} {kvs:List Value} {f:Nat→Nat} (r:jf H n1 ks lv kvs f) (e:Grow H H'):jf H' n1 ks lv kvs f :=
 r.of e.n fun _ _ _ _ _ b _ d=>e.var b d
theorem jf.put {H:IH} {n1:Nat} {ks:List Nat} {lv:List Int} {kvs:List Value} {f:Nat→Nat} (r:jf H n1 ks lv kvs f) {k:Nat} (hk:k<n1) (o:bB):jf (H.put k o) n1 ks lv kvs f :=
 r.of (Nat.le_refl _) fun _ _ _ _ a _ _ d=>by rw[ae _ _ (by omega)];exact d
theorem jf.ne {H:IH} {n1:Nat} {ks:List Nat} {lv:List Int} {kvs:List Value} {f:Nat→Nat} (r:jf H n1 ks lv kvs f) {i j a b:Nat} (hi:ks[i]?=some a) (hj:ks[j]?=some b) (h:i≠j):a≠b:=by
 rcases Nat.lt_or_gt_of_ne h with h|h
 ·have:=r.asc _ _ _ _ h hi hj;omega
 ·have:=r.asc _ _ _ _ h hj hi;omega
theorem jf.set {H H':IH} {n1:Nat} {ks:List Nat} {lv:List Int} {kvs:List Value} {f:Nat→Nat} (r:jf H n1 ks lv kvs f) {i k x:Nat} {kv:Value} (hi:ks[i]?=some k) (hkv:kvs[i]?=some kv) (hn:H'.n=H.n) (hs : ∀j,j≠k→H'.ext.get j=H.ext.get j)
  (hg:H'.ext.get k=some (.cells [KI (lv.getD i 0),kv,KN x] 0 none)):jf H' n1 ks lv kvs (fun j=>if j=i then x else f j) :=
 r.of (by omega) fun j k' kv' a _ _ b c=>by
  by_cases h:j=i
  ·subst h
   rw[hi] at a;cases a
   rw[hkv] at b;cases b
   rw[if_pos rfl];exact hg
  ·rw[if_neg h,hs k' (r.ne a hi h)];exact c
theorem jf.snoc {H:IH} {n1:Nat} {ks:List Nat} {lv:List Int} {kvs:List Value} {f:Nat→Nat} (r:jf H n1 ks lv kvs f) {k:Nat} {kv:Value} (hk : ∀j∈ks,j<k) (h1:n1≤k) (h2:k<H.n) (hg:H.ext.get k=some (.cells [KI (lv.getD ks.length 0),kv,KN (f ks.length)] 0 none)):jf H n1 (ks ++ [k]) lv (kvs ++ [kv]) f:=by
 refine⟨by simp[r.len],fun i j a b hij ha hb=>?_,fun j k' hj=>?_⟩
 ·rcases Nat.lt_or_ge j ks.length with h|h
  ·rw[List.getElem?_append_left h] at hb
   rw[List.getElem?_append_left (by omega)] at ha
   exact r.asc i j a b hij ha hb
  ·rw[List.getElem?_append_right h] at hb
   have:=(List.getElem?_eq_some_iff.1 hb).1
   have e:j - ks.length=0:=by simpa using this
   rw[e] at hb
   cases hb
   rw[List.getElem?_append_left (by omega)] at ha
   exact hk a (List.mem_of_getElem? ha)
 ·rcases Nat.lt_or_ge j ks.length with h|h
  ·rw[List.getElem?_append_left h] at hj
   obtain⟨a,b,kv',c,d⟩:=r.get j k' hj
   exact⟨a,b,kv',by rw[List.getElem?_append_left (by have:=r.len;omega)];exact c,d⟩
  ·rw[List.getElem?_append_right h] at hj
   have:=(List.getElem?_eq_some_iff.1 hj).1
   have e:j - ks.length=0:=by simpa using this
   have e2:j=ks.length:=by omega
   rw[e] at hj
   cases hj
   subst e2
   exact⟨h1,h2,kv,by rw[r.len,List.getElem?_append_right (Nat.le_refl _),Nat.sub_self];rfl,hg⟩
end Go.Id

/-
  Contracts: package temper: Round, the copies laid out.
-/
import Derived.Test.YtnanhedgenokpaaGreatTemperMovesAt
import Derived.Test.YtnanhedgenokpaaGreatTemperMovesBs
set_option linter.unusedVariables false
set_option linter.unusedSimpArgs false
set_option linter.defProp false
set_option linter.deprecated false
namespace Go.Id
open Go
open Go.Proofs.Tryz (prog)
open Nat renaming reduceAdd→zA,reduceEqDiff→zE,reduceLeDiff→zL
set_option maxHeartbeats 16000000
theorem TS (a b:Value):List.take 2 (List.drop 0 [a,b]) = [a,b]:=rfl
def pk (k:Nat):Value:=ptr (2*k) 0
structure RdA (h H:IH) (c b18:Nat) (ll:List (List (Nat×Nat))) (ws:List Nat) (s lv:List Int) (i:Nat) (cpv:Value) (ks:List Nat) (kvs:List Value) (n1:Nat):Prop where
 e:Ext h H
 g11:H.ext.get h.n=some (.cells [K64 c] 0 none)
 g12:H.ext.get (h.n+1)=some (.cells [.slice none 0 0] 0 none)
 g13:H.ext.get (h.n+2)=some (.cells [KI 0] 0 none)
 g14:H.ext.get (h.n+3)=some (.cells [.int .u64 0] 0 none)
 g15:H.ext.get (h.n+4)=some (.cells [KI 0] 0 none)
 bn:h.n+4<b18∧b18<n1∧n1≤H.n
 g18:H.ext.get b18=some (.cells [cpv] 0 none)
 acc:Acc H h.n 1 cpv i (ks.map pk)
 rep:jf H n1 ks lv kvs (fun _=>0)
 ker : ∀(j:Nat) b,j<i→lv[j]?=some b → ∃kv',kvs[j]?=some kv'∧je H kv' (pT ll ws s b)∧gN ll ws s b=0
theorem jf.loop {H:IH} {n1:Nat} {ks:List Nat} {lv:List Int} {kvs:List Value} {f:Nat→Nat} (r:jf H n1 ks lv kvs f) {k:Nat} {l:fa} (hk:H.ext.get k=some (.loop l)) (o:bB):jf (H.put k o) n1 ks lv kvs f :=
 r.of (Nat.le_refl _) fun _ k' _ _ _ _ _ d=>by rw[ae _ _ (by rintro rfl;rw[hk] at d;cases d)];exact d
theorem RdA.loop {h H:IH} {c b18:Nat} {ll:List (List (Nat×Nat))} {ws:List Nat} {s lv:List Int} {i:Nat} {cpv:Value} {ks:List Nat} {kvs:List Value} {n1:Nat} (r:RdA h H c b18 ll ws s lv i cpv ks kvs n1) {k:Nat} {l:fa} (hk:H.ext.get k=some (.loop l)) (hn:b18<k) (o:bB):RdA h (H.put k o) c b18 ll ws s lv i cpv ks kvs n1:=by
 obtain⟨e,g11,g12,g13,g14,g15,bn,g18,acc,rep,ker⟩:=r
 have z : ∀j,j≠k→(H.put k o).ext.get j=H.ext.get j:=fun j hj=>ae _ _ hj
 refine⟨e.put (by omega) _,?_,?_,?_,?_,?_,bn,?_,acc.Nl hk _,rep.loop hk _,fun j b hj hb=>?_⟩
 ·rw[z _ (by omega)];exact g11
 ·rw[z _ (by omega)];exact g12
 ·rw[z _ (by omega)];exact g13
 ·rw[z _ (by omega)];exact g14
 ·rw[z _ (by omega)];exact g15
 ·rw[z _ (by omega)];exact g18
 ·obtain⟨kv',a,b,c⟩:=ker j b hj hb
  exact⟨kv',a,b.ab ((aF.refl H).Kl (by rintro c e f hc;rw[hk] at hc;cases hc) _),c⟩
theorem RdA.ext {h H H':IH} {c b18:Nat} {ll:List (List (Nat×Nat))} {ws:List Nat} {s lv:List Int} {i:Nat} {cpv:Value} {ks:List Nat} {kvs:List Value} {n1:Nat} (r:RdA h H c b18 ll ws s lv i cpv ks kvs n1) (E:Ext H H'):RdA h H' c b18 ll ws s lv i cpv ks kvs n1:=by
 obtain⟨e,g11,g12,g13,g14,g15,bn,g18,acc,rep,ker⟩:=r
 have:=E.n
 have k : ∀{j:Nat} {o:bB},j≤b18→H.ext.get j=some o→H'.ext.get j=some o:=fun hj hg=>E.kept (by omega) hg
 exact⟨e.trans E,k (by omega) g11,k (by omega) g12,k (by omega) g13,k (by omega) g14,k (by omega) g15,by omega,k (by omega) g18,acc.ext E,rep.ext E,fun j b hj hb=>by
  obtain⟨kv',a,b,c⟩:=ker j b hj hb
  exact⟨kv',a,b.ab E.ab,c⟩⟩
theorem Jw {P:Program} {f:FuncId} {a:Value} {vs:List Value} {h:IH} {K:Value→IH→Prop} (w:WV P (.func (.func f) #[] #[]) (a :: vs) h K):WV P (.func (.func f) #[a] #[]) vs h K:=by
 obtain⟨p,⟨N,hN⟩,hk⟩:=w
 exact⟨p,⟨N,fun n hn=>by
  have:=hN n hn
  cases n with
  | zero=>exact this
  | succ n=>exact this⟩,hk⟩
theorem ldS {P:Program} {t:TypeId} (hT:aY P t=some false) {h:IH} {k o:Nat} {cs:List Value} {e:Nat} {f:Option Nat} {v:Value} (g:h.ext.get k=some (.cells cs e f)) (hv:cs[o]?=some v):load P h t (ptr (2*k) o)=some v:=by
 rw[cq hT,KP (ai g),hv]
structure RdB (h H:IH) (ci b18:Nat) (sw:Int) (lv:List Int) (cpv:Value) (ks:List Nat) (kvs:List Value) (n1:Nat) (f:Nat→Nat):Prop where
 e:Ext h H
 g11:H.ext.get h.n=some (.cells [K64 ci] 0 none)
 g12:H.ext.get (h.n+1)=some (.cells [.slice none 0 0] 0 none)
 g13:H.ext.get (h.n+2)=some (.cells [KI sw] 0 none)
 g14:H.ext.get (h.n+3)=some (.cells [.int .u64 0] 0 none)
 g15:H.ext.get (h.n+4)=some (.cells [KI 0] 0 none)
 bn:h.n+4<b18∧b18<n1∧n1≤H.n
 g18:H.ext.get b18=some (.cells [cpv] 0 none)
 acc:Acc H h.n 1 cpv lv.length (ks.map pk)
 rep:jf H n1 ks lv kvs f
theorem RdB.ext {h H H':IH} {c b18:Nat} {sw:Int} {lv:List Int} {cpv:Value} {ks:List Nat} {kvs:List Value} {n1:Nat} {f:Nat→Nat} (r:RdB h H c b18 sw lv cpv ks kvs n1 f) (E:Ext H H'):RdB h H' c b18 sw lv cpv ks kvs n1 f:=by
 obtain⟨e,g11,g12,g13,g14,g15,bn,g18,acc,rep⟩:=r
 have:=E.n
 have k : ∀{j:Nat} {o:bB},j≤b18→H.ext.get j=some o→H'.ext.get j=some o:=fun hj hg=>E.kept (by omega) hg
 exact⟨e.trans E,k (by omega) g11,k (by omega) g12,k (by omega) g13,k (by omega) g14,k (by omega) g15,by omega,k (by omega) g18,acc.ext E,rep.ext E⟩
theorem jf.fn {H:IH} {n1:Nat} {ks:List Nat} {lv:List Int} {kvs:List Value} {f g:Nat→Nat} (r:jf H n1 ks lv kvs f) (h : ∀j,j<ks.length→f j=g j):jf H n1 ks lv kvs g :=
 r.of (Nat.le_refl _) fun j k kv hj _ _ _ d=>by rw[←h j (List.getElem?_eq_some_iff.1 hj).1];exact d
theorem RdB.set {h H H':IH} {c b18:Nat} {sw:Int} {lv:List Int} {cpv:Value} {ks:List Nat} {kvs:List Value} {n1:Nat} {f:Nat→Nat} (r:RdB h H c b18 sw lv cpv ks kvs n1 f) {i k x:Nat} {kv:Value} (hi:ks[i]?=some k) (hkv:kvs[i]?=some kv) (s:uc k H H') (hg:H'.ext.get k=some (.cells [KI (lv.getD i 0),kv,KN x] 0 none)):RdB h H' c b18 sw lv cpv ks kvs n1 (fun j=>if j=i then x else f j):=by
 obtain⟨e,g11,g12,g13,g14,g15,bn,g18,acc,rep⟩:=r
 obtain⟨k1,k2,kv',k3,k4⟩:=rep.get i k hi
 have z : ∀{j:Nat} {o:bB},j≤b18→H.ext.get j=some o→H'.ext.get j=some o:=fun hj hg=>by rw[s.2.2.1 _ (by omega)];exact hg
 have eN:=e.n
 exact⟨⟨by rw[s.1];exact e.n,by rw[s.2.1];exact e.base,fun j hj=>by rw[s.2.2.1 j (by omega)];exact e.get j hj,fun j hj=>by rw[s.2.2.2];exact e.cM j hj⟩,z (by omega) g11,z (by omega) g12,z (by omega) g13,z (by omega) g14,z (by omega) g15,by rw[s.1];exact bn,z (Nat.le_refl _) g18,acc.Rx s k4,rep.set hi hkv s.1 s.2.2.1 hg⟩
theorem wH (k:Nat) (H:IH) (o:bB):uc k H (H.put k o):=⟨rfl,rfl,fun j hj=>ae _ _ hj,rfl⟩
theorem RdB.O0 {h H:IH} {c b18:Nat} {sw:Int} {lv:List Int} {cpv:Value} {ks:List Nat} {kvs:List Value} {n1:Nat} {f:Nat→Nat} (r:RdB h H c b18 sw lv cpv ks kvs n1 f) (c':Nat):RdB h (H.put h.n (.cells [K64 c'] 0 none)) c' b18 sw lv cpv ks kvs n1 f:=by
 obtain⟨e,g11,g12,g13,g14,g15,bn,g18,acc,rep⟩:=r
 have z : ∀{j:Nat} {o:bB},j≠h.n→H.ext.get j=some o→(H.put h.n (.cells [K64 c'] 0 none)).ext.get j=some o:=fun hj hg=>by rw[ae _ _ hj];exact hg
 exact⟨e.put (by omega) _,ad _ _ rfl,z (by omega) g12,z (by omega) g13,z (by omega) g14,z (by omega) g15,bn,z (by omega) g18,acc.put g11 _,rep.put (by omega) _⟩
theorem RdB.OZ {h H:IH} {c b18:Nat} {sw:Int} {lv:List Int} {cpv:Value} {ks:List Nat} {kvs:List Value} {n1:Nat} {f:Nat→Nat} (r:RdB h H c b18 sw lv cpv ks kvs n1 f) (sw':Int):RdB h (H.put (h.n+2) (.cells [KI sw'] 0 none)) c b18 sw' lv cpv ks kvs n1 f:=by
 obtain⟨e,g11,g12,g13,g14,g15,bn,g18,acc,rep⟩:=r
 have z : ∀{j:Nat} {o:bB},j≠h.n+2→H.ext.get j=some o→(H.put (h.n+2) (.cells [KI sw'] 0 none)).ext.get j=some o:=fun hj hg=>by rw[ae _ _ hj];exact hg
 exact⟨e.put (by omega) _,z (by omega) g11,z (by omega) g12,ad _ _ rfl,z (by omega) g14,z (by omega) g15,bn,z (by omega) g18,acc.put g13 _,rep.put (by omega) _⟩
theorem RdB.RB {h H:IH} {c b18:Nat} {sw:Int} {lv:List Int} {cpv:Value} {ks:List Nat} {kvs:List Value} {n1:Nat} {f:Nat→Nat} (r:RdB h H c b18 sw lv cpv ks kvs n1 f):RdB h (H.put (h.n+4) (.cells [KI 0] 0 none)) c b18 sw lv cpv ks kvs n1 f:=by
 obtain⟨e,g11,g12,g13,g14,g15,bn,g18,acc,rep⟩:=r
 have z : ∀{j:Nat} {o:bB},j≠h.n+4→H.ext.get j=some o→(H.put (h.n+4) (.cells [KI 0] 0 none)).ext.get j=some o:=fun hj hg=>by rw[ae _ _ hj];exact hg
 exact⟨e.put (by omega) _,z (by omega) g11,z (by omega) g12,z (by omega) g13,z (by omega) g14,ad _ _ rfl,bn,z (by omega) g18,acc.put g15 _,rep.put (by omega) _⟩
theorem O2 {row:List (Nat×Nat)} {s:Nat} (ro:gJ row) (hw : ∀p∈row,p.1<W8∧p.2<W8) (hs:s<18446744073709551616):(mvF row s).2.1<18446744073709551616∧((mvF row s).2.2=0→(mvF row s).1<row.length):=by
 obtain⟨nn,sp⟩:=tB ro hw
 have:=Ns (l:=wL row) (s:=s) sp hs
 unfold mvF
 split
 ·rw[AQ] at this
  exact this
 ·exact⟨by decide,fun h=>by cases h⟩
theorem lh {p:List Nat} {k:Nat} (hk:k+1<p.length) (j:Nat):(if j=k+1 then p.getD k 0 else if j=k then p.getD (k+1) 0 else p.getD j 0)=(fl p k).getD j 0:=by
 unfold fl
 rw[List.getD_eq_getElem?_getD (l:=(p.set k (p.getD (k+1) 0)).set (k+1) (p.getD k 0)),List.getElem?_set,List.getElem?_set]
 by_cases h1:j=k+1
 ·subst h1
  rw[if_pos rfl,if_pos rfl,if_pos (by rw[List.length_set];exact hk)];rfl
 ·rw[if_neg h1,if_neg (Ne.symm h1)]
  by_cases h2:j=k
  ·subst h2
   rw[if_pos rfl,if_pos rfl,if_pos (by omega)];rfl
  ·rw[if_neg h2,if_neg (Ne.symm h2),List.getD_eq_getElem?_getD]
theorem gG (p:List Nat) (k:Nat):(fl p k).length=p.length:=by unfold fl;rw[List.length_set,List.length_set]
theorem zX (p:List Nat) (x j:Nat):(p ++ [x]).getD j 0=if j=p.length then x else p.getD j 0:=by
 rw[List.getD_eq_getElem?_getD,List.getD_eq_getElem?_getD]
 by_cases h:j=p.length
 ·subst h
  rw[if_pos rfl,List.getElem?_append_right (Nat.le_refl _),Nat.sub_self];rfl
 ·rw[if_neg h]
  rcases Nat.lt_or_ge j p.length with h2|h2
  ·rw[List.getElem?_append_left h2]
  ·rw[List.getElem?_append_right h2,List.getElem?_eq_none h2,List.getElem?_eq_none (by simp;omega)]
open Classical in
theorem vY {h:IH} {kv wv sv lvv stv:Value} {ll:List (List (Nat×Nat))} {ws:List Nat} {s lv st:List Int} {c:Nat} (hk:je h kv ll) (hw:iA h wv ws) (hs:fI h sv s) (hl:fI h lvv lv) (ht:fI h stv st) (hc:c<18446744073709551616) :
  WV prog (.func (.func 15) #[] #[]) [kv,wv,sv,lvv,stv,chV c] h fun r h'=>Ext h h'∧OU h' (yG ll ws s lv st c) r:=by
 obtain⟨cv,co,hlen⟩:=hk.co
 have RL:=hl.1.len (P:=prog) cW
 have Rn:=ht.1.len (P:=prog) cW
 obtain⟨H0,hH0⟩ : ∃H,H=((((h.new (.cells [K64 c] 0 none)).new (.cells [.slice none 0 0] 0 none)).new (.cells [KI 0] 0 none)).new (.cells [.int .u64 0] 0 none)).new (.cells [KI 0] 0 none):=⟨_,rfl⟩
 have n0:H0.n=h.n+5:=by rw[hH0];rfl
 have E0:Ext h H0:=by rw[hH0];exact(((((Ext.refl h).new _).new _).new _).new _).new _
 have c11:H0.ext.get h.n=some (.cells [K64 c] 0 none):=by rw[hH0];simp (disch:=try exact dx) only[aa,ao]
 have c12:H0.ext.get (h.n+1)=some (.cells [.slice none 0 0] 0 none):=by rw[hH0];simp (disch:=try exact dx) only[aa,ao]
 have c13:H0.ext.get (h.n+2)=some (.cells [KI 0] 0 none):=by rw[hH0];simp (disch:=try exact dx) only[aa,ao]
 have c14:H0.ext.get (h.n+3)=some (.cells [.int .u64 0] 0 none):=by rw[hH0];simp (disch:=try exact dx) only[aa,ao]
 have c15:H0.ext.get (h.n+4)=some (.cells [KI 0] 0 none):=by rw[hH0];simp (disch:=try exact dx) only[aa]
 refine enter (nt:=197) (rs:=[.cell 12 25,.cell 13 3,.cell 14 36,.cell 15 47]) Proofs.Tryz.func15 rfl rfl rfl (by simp) ?_
 simp -dsimp (disch:=try exact dx) only[wpS,zE,zA,TO,zc3,nW,tq,chV]
 rw[←hH0]
 clear hH0
 refine call (tO (hk.ab E0.ab)) ?_
 rintro _ h1 ⟨X1,rfl⟩
 have m1:=X1.n
 have d11:=X1.kept (by omega) c11
 have d12:=X1.kept (by omega) c12
 have d13:=X1.kept (by omega) c13
 have d14:=X1.kept (by omega) c14
 have d15:=X1.kept (by omega) c15
 have E1:=E0.trans X1
 unfold yG Fh
 by_cases ok:fL ll
 case neg =>
  rw[if_neg ok,if_pos ok]
  simp -dsimp (disch:=try exact dx) only[wpS,wpT,zE,zL,mh,yB,st3,gH,jq,ld3,eH,kO,fQ,d12,d13,d14,d15,tk1]
  exact⟨(((E1.put (by omega) _).put (by omega) _).put (by omega) _).put (by omega) _,iG⟩
 rw[if_pos ok,if_neg (fun h=>h ok)]
 simp -dsimp (disch:=try exact dx) only[wpS,wpT,zE]
 refine call (mW (hs.ab E1.ab) (hl.ab E1.ab)) ?_
 rintro _ h2 ⟨X2,rfl⟩
 have m2:=X2.n
 have e11:=X2.kept (by omega) d11
 have e12:=X2.kept (by omega) d12
 have e13:=X2.kept (by omega) d13
 have e14:=X2.kept (by omega) d14
 have e15:=X2.kept (by omega) d15
 have E2:=E1.trans X2
 rcases tL s lv with le|le
 case inr =>
  rw[le,if_pos (by decide)]
  simp -dsimp (disch:=try exact dx) only[wpS,wpT,zE,zL,mh,yB,st3,gH,jq,OG,ld3,eH,kO,fQ,e12,e13,e14,e15,tk1]
  exact⟨(((E2.put (by omega) _).put (by omega) _).put (by omega) _).put (by omega) _,iG⟩
 rw[le,if_neg (by decide)]
 obtain⟨⟨s1,s2,s3⟩,l1,l2,l3⟩:=oN le
 have hw2:=hw.1
 simp -dsimp (disch:=try exact dx) only[wpS,wpT,zE,OG]
 refine call (IF cv hw.1.cells hs.1.cells hl.1.cells) ?_
 rintro _ H3 ⟨rfl,hH3⟩
 have n3:H3.n=h2.n+5:=by rw[hH3];rfl
 have E3:Ext h H3:=by rw[hH3];exact((((E2.new _).new _).new _).new _).new _
 have X3:Ext h2 H3:=by rw[hH3];exact(((((Ext.refl h2).new _).new _).new _).new _).new _
 have k18:H3.ext.get h2.n=some (.cells [.slice none 0 0] 0 none):=by rw[hH3];simp (disch:=try exact dx) only[aa,ao]
 have k0:H3.ext.get (h2.n+1)=some (.cells [kv] 0 none):=by rw[hH3];simp (disch:=try exact dx) only[aa,ao]
 have k1:H3.ext.get (h2.n+1+1)=some (.cells [wv] 0 none):=by rw[hH3];simp (disch:=try exact dx) only[aa,ao]
 have k2:H3.ext.get (h2.n+1+2)=some (.cells [sv] 0 none):=by rw[hH3];simp (disch:=try exact dx) only[aa,ao]
 have k3:H3.ext.get (h2.n+1+3)=some (.cells [lvv] 0 none):=by rw[hH3];simp (disch:=try exact dx) only[aa]
 clear hH3
 have f11:=X3.kept (by omega) e11
 have f12:=X3.kept (by omega) e12
 have f13:=X3.kept (by omega) e13
 have f14:=X3.kept (by omega) e14
 have f15:=X3.kept (by omega) e15
 simp -dsimp (disch:=try exact dx) only[wpS]
 refine Im (fun fr H => ∃cpv ks kvs n1,RdA h H c h2.n ll ws s lv lv.length cpv ks kvs n1∧ah fr 0=some kv∧ah fr 2=some sv∧ah fr 3=some lvv∧ah fr 4=some stv∧ah fr 11=some (ptr (2*h.n) 0)∧ah fr 12=some (ptr (2*(h.n+1)) 0)∧ah fr 13=some (ptr (2*(h.n+2)) 0)∧ah fr 14=some (ptr (2*(h.n+3)) 0)∧ah fr 15=some (ptr (2*(h.n+4)) 0)∧ah fr 18=some (ptr (2*h2.n) 0)) ?_ ?_
 ·refine Nj (p:=51) (q:=52) (nt:=197) rfl rfl (by decide) (by decide) (fun r y hfn hnt hbd hy=>?_)
  let C:IH→Prop:=fun hh=>Ext h hh∧H3.n<hh.n∧hh.ext.get (h2.n+1)=some (.cells [kv] 0 none)∧hh.ext.get (h2.n+1+1)=some (.cells [wv] 0 none)∧hh.ext.get (h2.n+1+2)=some (.cells [sv] 0 none)∧hh.ext.get (h2.n+1+3)=some (.cells [lvv] 0 none)
  let O:Nat→IH→Prop:=fun i hh => ∃cpv ks kvs,RdA h hh c h2.n ll ws s lv i cpv ks kvs (H3.n+1)
  let J:Nat→IH→Prop:=fun i hh=>C hh∧hh.ext.get H3.n=some (.loop r)∧O i hh
  let D:IH→Prop:=fun hh=>C hh∧((hh.ext.get H3.n=some (.loop r)∧O lv.length hh)∨(hh.ext.get H3.n=some (.loop (oW r .ret))∧pS ll ws s lv≠0∧hh.ext.get (h.n+1)=some (.cells [.slice none 0 0] 0 none)∧hh.ext.get (h.n+2)=some (.cells [KI 0] 0 none)∧hh.ext.get (h.n+3)=some (.cells [.int .u64 0] 0 none)∧hh.ext.get (h.n+4)=some (.cells [KI (pS ll ws s lv)] 0 none)))
  refine(WV.mono (Ff (b:=h2.n+1) (kv:=kv) (wv:=wv) (sv:=sv) (lvv:=lvv) (ll:=ll) (ws:=ws) (s:=s) (lv:=lv) J D ?_ ?_ ?_ (by omega) ?_ ?_) ?_)
  ·rintro i hh ⟨⟨c1,c2,c3,c4,c5,c6⟩,_⟩
   exact⟨c3,c4,c5,c6,by omega,hk.ab c1.ab,hw.ab c1.ab,hs.ab c1.ab,hl.ab c1.ab⟩
  ·refine⟨⟨E3.new _,by simp,?_,?_,?_,?_⟩,aa _ _ rfl,.slice none 0 0,[],[],⟨E3.new _,?_,?_,?_,?_,?_,⟨by omega,by omega,Nat.le_refl _⟩,?_,Acc.nil _ _ (by omega),⟨rfl,fun i j a b _ ha=>by simp at ha,fun j k hj=>by simp at hj⟩,fun j b hj=>by omega⟩⟩
   all_goals rw[ao _ _ (by omega)];assumption
  ·rintro hh ⟨c,hr,o⟩
   exact⟨c,.inl ⟨hr,o⟩⟩
  ·rintro i hh h3 a out ha ⟨⟨c1,c2,c3,c4,c5,c6⟩,hr,cpv,ks,kvs,A⟩ X lev sk
   have nX:=X.n
   have hr3:=X.kept c2 hr
   refine hy _ _ h3 _ hr3 ?_
   obtain⟨co1,co2,_⟩:=sk.co
   simp -dsimp (disch:=try exact dx) only[wpS,wpT,zE,zL,zA,Ju,OP,Gj,co2]
   obtain⟨H4,hH4⟩ : ∃H,H=(h3.new (.cells [KI 0,.slice none 0 0] 0 none)).put h3.n (.cells [KI a,out] 0 none):=⟨_,rfl⟩
   have n4:H4.n=h3.n+1:=by rw[hH4];rfl
   have E4:Ext h3 H4:=by rw[hH4];exact((Ext.refl h3).new _).put (Nat.le_refl _) _
   have g19:H4.ext.get h3.n=some (.cells [KI a,out] 0 none):=by rw[hH4];simp (disch:=try exact dx) only[ad]
   rw[←hH4]
   clear hH4
   have hr4:=E4.kept (by omega) hr3
   refine⟨rfl,hr4,?_⟩
   rw[hfn,hnt,hbd]
   have A5:=(A.ext (X.trans E4)).loop hr4 (by omega) (.loop (kh r))
   obtain⟨H5,hH5⟩ : ∃H,H=H4.put H3.n (.loop (kh r)):=⟨_,rfl⟩
   have n5:H5.n=h3.n+1:=by rw[hH5];exact n4
   have UP:H5.ext.get h3.n=some (.cells [KI a,out] 0 none):=by rw[hH5,ae _ _ (by omega)];exact g19
   have hr5:H5.ext.get H3.n=some (.loop (kh r)):=by rw[hH5];exact ad _ _ rfl
   have sk5:je H5 out (pT ll ws s a):=by rw[hH5];exact sk.ab (E4.ab.Kl (by rintro c e f hc;rw[hr4] at hc;cases hc) _)
   have cc5 : ∀(k:Nat) cs,k<H3.n→hh.ext.get k=some (.cells cs 0 none)→H5.ext.get k=some (.cells cs 0 none):=fun k cs hk hg=>by
    rw[hH5,ae _ _ (by omega)]
    exact(X.trans E4).kept (by omega) hg
   rw[←hH5] at A5 ⊢
   clear hH5
   have kl:ks.length=i:=by have:=A5.acc.2.1;simpa using this
   have E56:Ext H5 (H5.new (.cells [KI a,out,KI 0] 0 none)):=(Ext.refl H5).new _
   have g6:(H5.new (.cells [KI a,out,KI 0] 0 none)).ext.get H5.n=some (.cells [KI a,out,KI 0] 0 none):=aa _ _ rfl
   have ksl : ∀j∈ks,j<H5.n:=fun j hj=>by
    obtain⟨q,hq⟩:=List.getElem?_of_mem hj
    exact(A5.rep.get q j hq).2.1
   have R6:=(A5.rep.ext E56).snoc (k:=H5.n) (kv:=out) ksl (by omega) (by simp) (by rw[kl,List.getD_eq_getElem?_getD,ha];exact g6)
   obtain⟨Mc,H7,hap,hA7,hG7,hE7⟩:=(A5.acc.ext E56).pU (P:=prog) (t:=113) To (m:=1) (new:=[pk H5.n]) (by omega) rfl rfl (by have:=(List.getElem?_eq_some_iff.1 ha).1;omega) (by simp;omega) (A5.e.trans E56) (Nat.le_refl _)
   have jA:append prog ((H5.new (.cells [KI a,out,KI 0] 0 none)).new (.cells [ptr (2*H5.n) 0] 1 none)) 113 cpv (.slice (some ⟨2*(H5.n+1),0,none⟩) 1 3)=some (Mc,H7):=hap
   have v : ∀(k:Nat) cs,k≤h2.n→H5.ext.get k=some (.cells cs 0 none)→H7.ext.get k=some (.cells cs 0 none):=fun k cs hk hg=>hG7.var (by simp only[al];omega) (E56.kept (by omega) hg)
   have w18:=v _ _ (Nat.le_refl _) A5.g18
   simp -dsimp (disch:=try exact dx) only[wpS,wpT,zE,zL,zA,zO,RV,SZ,Nr,S5,Rv,Jq,ai A5.g18,ai UP,jA,w18,hA7.sl.cells,hA7.sl.cok,TS]
   have n7:=hG7.n
   have n6:(H5.new (.cells [KI a,out,KI 0] 0 none)).n=H5.n+1:=rfl
   have hr7:=hG7.box (by simp only[al];omega) (E56.kept (by omega) hr5) (by rintro c e f ⟨⟩)
   obtain⟨H8,hH8⟩ : ∃H,H=H7.put h2.n (.cells [Mc] 0 none):=⟨_,rfl⟩
   have n8:H8.n=H7.n:=by rw[hH8];rfl
   have hr8:H8.ext.get H3.n=some (.loop (kh r)):=by rw[hH8,ae _ _ (by omega)];exact hr7
   have K58:aF H5 H8:=by rw[hH8];exact(E56.ab.trans hG7.ab).put w18 _
   have A8:RdA h H8 c h2.n ll ws s lv (i+1) Mc (ks ++ [H5.n]) (kvs ++ [out]) (H3.n+1):=by
    rw[hH8]
    have z : ∀(j:Nat) cs,j<h2.n→H5.ext.get j=some (.cells cs 0 none)→(H7.put h2.n (.cells [Mc] 0 none)).ext.get j=some (.cells cs 0 none):=fun j cs hj hg=>by rw[ae _ _ (by omega)];exact v _ _ (by omega) hg
    refine⟨hE7.put (by omega) _,z _ _ (by omega) A5.g11,z _ _ (by omega) A5.g12,z _ _ (by omega) A5.g13,z _ _ (by omega) A5.g14,z _ _ (by omega) A5.g15,⟨by omega,by omega,by simp only[aq];omega⟩,ad _ _ rfl,?_,(R6.grow hG7).put (by omega) _,fun j b hj hb=>?_⟩
    ·rw[List.map_append]
     exact hA7.put w18 _
    ·rw[hH8] at K58
     by_cases hji:j=i
     ·subst hji
      rw[ha] at hb
      cases hb
      exact⟨out,by rw[List.getElem?_append_right (by rw[←A5.rep.len];omega),←A5.rep.len,kl,Nat.sub_self];rfl,sk5.ab K58,lev⟩
     ·obtain⟨kv',b1,b2,b3⟩:=A5.ker j b (by omega) hb
      exact⟨kv',by rw[List.getElem?_append_left (by rw[←A5.rep.len];omega)];exact b1,b2.ab K58,b3⟩
   have cc8 : ∀(k:Nat) cs,k<H3.n→k≠h2.n→hh.ext.get k=some (.cells cs 0 none)→(H8.put H3.n (.loop r)).ext.get k=some (.cells cs 0 none):=fun k cs hk h2k hg=>by
    rw[ae _ _ (by omega),hH8,ae _ _ h2k]
    exact hG7.var (by simp only[al];omega) (E56.kept (by omega) (cc5 k cs hk hg))
   rw[←hH8]
   exact⟨hr8,rfl,⟨(A8.e.put (by omega) _),by simp only[aq];omega,cc8 _ _ (by omega) (by omega) c3,cc8 _ _ (by omega) (by omega) c4,cc8 _ _ (by omega) (by omega) c5,cc8 _ _ (by omega) (by omega) c6⟩,ad _ _ rfl,Mc,_,_,A8.loop hr8 (by omega) _⟩
  ·rintro i hh h3 a ha ⟨⟨c1,c2,c3,c4,c5,c6⟩,hr,cpv,ks,kvs,A⟩ X lev
   have nX:=X.n
   have hr3:=X.kept c2 hr
   refine hy _ _ h3 _ hr3 ?_
   simp -dsimp (disch:=try exact dx) only[wpS,wpT,zE,zL,zA,Ju,OP,Gj]
   obtain⟨H4,hH4⟩ : ∃H,H=(h3.new (.cells [KI 0,.slice none 0 0] 0 none)).put h3.n (.cells [KI a,.slice none 0 0] 0 none):=⟨_,rfl⟩
   have n4:H4.n=h3.n+1:=by rw[hH4];rfl
   have E4:Ext h3 H4:=by rw[hH4];exact((Ext.refl h3).new _).put (Nat.le_refl _) _
   rw[←hH4]
   clear hH4
   have hr4:=E4.kept (by omega) hr3
   refine⟨rfl,hr4,?_⟩
   rw[hfn,hnt,hbd]
   have A5:=(A.ext (X.trans E4)).loop hr4 (by omega) (.loop (kh r))
   obtain⟨H5,hH5⟩ : ∃H,H=H4.put H3.n (.loop (kh r)):=⟨_,rfl⟩
   have n5:H5.n=h3.n+1:=by rw[hH5];exact n4
   have hr5:H5.ext.get H3.n=some (.loop (kh r)):=by rw[hH5];exact ad _ _ rfl
   have cc5 : ∀(k:Nat) cs,k<H3.n→hh.ext.get k=some (.cells cs 0 none)→H5.ext.get k=some (.cells cs 0 none):=fun k cs hk hg=>by
    rw[hH5,ae _ _ (by omega)]
    exact(X.trans E4).kept (by omega) hg
   rw[←hH5] at A5 ⊢
   clear hH5
   have d:(gN ll ws s a != 0)=true:=by simpa using lev
   have le2:pS ll ws s lv=gN ll ws s a:=NL ha (fun j b hj hb=>(A5.ker j b hj hb).choose_spec.2.2) lev
   have g13:H5.ext.get (h.n+1+1)=_:=A5.g13
   have g14:H5.ext.get (h.n+1+1+1)=_:=A5.g14
   have g15:H5.ext.get (h.n+1+1+1+1)=_:=A5.g15
   simp -dsimp (disch:=try exact dx) only[wpS,wpT,zE,zL,mh,yB,st3,gH,jq,d,A5.g12,g13,g14,g15]
   refine⟨?_,rfl,⟨((((A5.e.put (by omega) _).put (by omega) _).put (by omega) _).put (by omega) _).put (by omega) _,by simp only[aq];omega,?_,?_,?_,?_⟩,.inr ⟨ad _ _ rfl,by rw[le2];exact lev,?_,?_,?_,?_⟩⟩
   ·simp (disch:=try exact dx) only[ae];exact hr5
   ·simp (disch:=try exact dx) only[ae];exact cc5 _ _ (by omega) c3
   ·simp (disch:=try exact dx) only[ae];exact cc5 _ _ (by omega) c4
   ·simp (disch:=try exact dx) only[ae];exact cc5 _ _ (by omega) c5
   ·simp (disch:=try exact dx) only[ae];exact cc5 _ _ (by omega) c6
   ·simp (disch:=try exact dx) only[ad,ae]
   ·simp (disch:=try exact dx) only[ad,ae]
   ·simp (disch:=try exact dx) only[ad,ae]
   ·rw[le2];simp (disch:=try exact dx) only[ad,ae]
  ·rintro _ hh ⟨⟨c1,c2,c3,c4,c5,c6⟩,hd⟩
   rcases hd with⟨hr,cpv,ks,kvs,A⟩|⟨hr,q0,q1,q2,q3,q4⟩
   ·refine .inl ⟨hr,?_⟩
    have B:=A.loop hr (by omega) .dead
    simp -dsimp (disch:=try exact dx) only[wpS]
    exact⟨cpv,ks,kvs,_,B,by simp,by simp,by simp,by simp,by simp,by simp,by simp,by simp,by simp,by simp⟩
   ·refine .inr (.inr ⟨hr,?_⟩)
    have z : ∀(j:Nat) o,j<H3.n→hh.ext.get j=some o→(hh.put H3.n .dead).ext.get j=some o:=fun j o hj hg=>by rw[ae _ _ (by omega)];exact hg
    have w12:=z _ _ (by omega) q1
    have w13:(hh.put H3.n .dead).ext.get (h.n+1+1)=some (.cells [KI 0] 0 none):=z _ _ (by omega) q2
    have w14:(hh.put H3.n .dead).ext.get (h.n+1+1+1)=some (.cells [.int .u64 0] 0 none):=z _ _ (by omega) q3
    have w15:(hh.put H3.n .dead).ext.get (h.n+1+1+1+1)=some (.cells [KI (pS ll ws s lv)] 0 none):=z _ _ (by omega) q4
    rw[if_pos q0]
    simp -dsimp (disch:=try exact dx) only[wpS,wpT,zE,zL,ld3,eH,kO,fQ,ai w12,ai w13,ai w14,ai w15,tk1]
    exact⟨c1.put (by omega) _,iG⟩
 ·rintro fr H ⟨cpv,ks,kvs,n1,A,f0,f2,f3,f4,f11,f12,f13,f14,f15,f18⟩
  have tl:=ht.2.1
  have lb:=ok.2.1
  have lb1:=ok.1
  have bn:=A.bn
  have eN:=A.e.n
  have kl:ks.length=lv.length:=by have:=A.acc.2.1;simpa using this
  rw[Db (fun j b hj hb=>(A.ker j b hj hb).choose_spec.2.2),if_neg (by decide)]
  by_cases hq:st.length=lv.length
  case neg =>
   rw[if_pos (.inl hq)]
   have d:((st.length:Int) != (lv.length:Int))=true:=by simp;omega
   simp -dsimp (disch:=try exact dx) only[wpS,wpT,zE,zL,mh,yB,st3,gH,jq,ld3,eH,kO,fQ,f3,f4,f12,f13,f14,f15,RL,Rn,d,A.g12,A.g13,A.g14,A.g15,tk1]
   exact⟨(((A.e.put (by omega) _).put (by omega) _).put (by omega) _).put (by omega) _,iG⟩
  have d:((st.length:Int) != (lv.length:Int))=false:=by simp;omega
  simp -dsimp (disch:=try exact dx) only[wpS,wpT,zE,f0,f3,f4,RL,Rn,hlen,d]
  refine call (ua (ht.ab A.e.ab)) ?_
  rintro _ G ⟨XG,rfl⟩
  have AG:=A.ext XG
  have nG:=XG.n
  clear A
  by_cases ho:st.any (oE ((ll.length:Int) - 1))=true
  ·rw[if_pos (.inr ho),ho]
   simp -dsimp (disch:=try exact dx) only[wpS,wpT,zE,zL,mh,yB,st3,gH,jq,ld3,eH,kO,fQ,f12,f13,f14,f15,AG.g12,AG.g13,AG.g14,AG.g15,tk1]
   exact⟨(((AG.e.put (by omega) _).put (by omega) _).put (by omega) _).put (by omega) _,iG⟩
  rw[if_neg (by rintro(x|x);exact x hq;exact ho x)]
  have ho':st.any (oE ((ll.length:Int) - 1))=false:=by simpa using ho
  rw[ho']
  have hst:=qK ho'
  obtain⟨rows,Pc⟩ : ∃rows,rows=fun i=>(pT ll ws s (lv.getD i 0)).getD (st.getD i 0).toNat []:=⟨_,rfl⟩
  rw[←Pc]
  generalize N2:exF s lv=fin
  have Hn:=AG.acc.sl.len (P:=prog) Cu
  simp -dsimp (disch:=try exact dx) only[wpS,zE,zO,f18,ai AG.g18,Hn]
  refine sr (fun fr H => ∃p ci,p.length=lv.length∧ci<18446744073709551616∧(∀x∈p,x<ll.length)∧mvT rows lv.length 0 [] c=(p,ci,0)∧RdB h H ci h2.n 0 lv cpv ks kvs n1 (fun j=>p.getD j 0)∧ah fr 2=some sv∧ah fr 11=some (ptr (2*h.n) 0)∧ah fr 12=some (ptr (2*(h.n+1)) 0)∧ah fr 13=some (ptr (2*(h.n+2)) 0)∧ah fr 14=some (ptr (2*(h.n+3)) 0)∧ah fr 15=some (ptr (2*(h.n+4)) 0)∧ah fr 18=some (ptr (2*h2.n) 0)) ?_ ?_
  ·refine loop (fun m fr H => ∃(i:Nat) (p:List Nat) (ci:Nat),i+m=lv.length∧p.length=i∧ci<18446744073709551616∧mvT rows lv.length 0 [] c=mvT rows m i p ci∧aF G H∧RdB h H ci h2.n 0 lv cpv ks kvs n1 (fun j=>p.getD j 0)∧(∀x∈p,x<ll.length)∧ah fr 2=some sv∧ah fr 4=some stv∧ah fr 11=some (ptr (2*h.n) 0)∧ah fr 12=some (ptr (2*(h.n+1)) 0)∧ah fr 13=some (ptr (2*(h.n+2)) 0)∧ah fr 14=some (ptr (2*(h.n+3)) 0)∧ah fr 15=some (ptr (2*(h.n+4)) 0)∧ah fr 18=some (ptr (2*h2.n) 0)∧ah fr 76=some cpv∧ah fr 77=some (KN lv.length)∧ah fr 78=some (KN i)) lv.length
    ⟨0,[],c,by omega,rfl,hc,rfl,aF.refl _,⟨AG.e,AG.g11,AG.g12,AG.g13,AG.g14,AG.g15,AG.bn,AG.g18,AG.acc,AG.rep.fn (fun j _=>by simp)⟩,by simp,by simp[f2],by simp[f4],by simp[f11],by simp[f12],by simp[f13],by simp[f14],by simp[f15],by simp[f18],by simp,by simp,by simp⟩ ?_
   clear f0 f2 f3 f4 f11 f12 f13 f14 f15 f18
   rintro m fr H ⟨i,p,ci,him,hpl,hci,hT,hK,B,hp,f2,f4,f11,f12,f13,f14,f15,f18,f76,f77,f78⟩
   have nH:=hK.n
   simp -dsimp (disch:=try exact dx) only[wpS,f77,f78]
   refine ax ?_ ?_<;>intro hb2<;>simp only[decide_eq_true_eq,decide_eq_false_iff_not] at hb2
   ·have hi:i<lv.length:=by omega
    obtain⟨q,rfl⟩ : ∃q,m=q+1:=⟨m - 1,by omega⟩
    obtain⟨a,ha⟩ : ∃a,lv[i]?=some a:=⟨_,List.getElem?_eq_getElem hi⟩
    obtain⟨si,hsi⟩ : ∃a,st[i]?=some a:=⟨_,List.getElem?_eq_getElem (by omega)⟩
    obtain⟨k,hki⟩ : ∃a,ks[i]?=some a:=⟨_,List.getElem?_eq_getElem (by omega)⟩
    obtain⟨kv',kk1,kk2,kk3⟩:=AG.ker i a hi ha
    obtain⟨ok2,RN,_⟩:=mC kk3
    obtain⟨x1,x2⟩:=hst si (List.mem_of_getElem? hsi)
    obtain⟨x,rfl⟩:=Int.eq_ofNat_of_zero_le x1
    obtain⟨row,dE⟩ : ∃row,(pT ll ws s a)[x]?=some row:=⟨_,List.getElem?_eq_getElem (by omega)⟩
    obtain⟨rl,ro⟩:=ok2.2.2 row (List.mem_of_getElem? dE)
    have hri:rows i=row:=by
     rw[Pc]
     show(pT ll ws s (lv.getD i 0)).getD (st.getD i 0).toNat []=row
     rw[List.getD_eq_getElem?_getD,List.getD_eq_getElem?_getD,List.getD_eq_getElem?_getD,ha,hsi,Option.getD_some,Option.getD_some,Int.toNat_natCast,dE];rfl
    have pki:(ks.map pk)[i]?=some (pk k):=by rw[List.getElem?_map,hki];rfl
    have ixk:=B.acc.sl.idx G7 (P:=prog) (k:=.i64) (j:=i) hi
    rw[Nat.mul_one] at ixk
    have ldk:=(B.acc.sl.ld (aF.refl H) (by simp;omega) Hw (P:=prog) (c:=i)).trans pki
    have ixs:=ht.1.idx fc (P:=prog) (k:=.i64) (j:=i) (by omega)
    have lds:=fS ht B.e.ab hsi
    obtain⟨k1,k2,kv2,k3,k4⟩:=B.rep.get i k hki
    rw[kk1] at k3
    cases k3
    obtain⟨H1,hH1⟩ : ∃H1,H1=H.put k (.cells [KI (lv.getD i 0),kv',KN x] 0 none):=⟨_,rfl⟩
    have B1:=B.set (H':=H1) (x:=x) hki kk1 (by rw[hH1];exact wH _ _ _) (by rw[hH1];exact ad _ _ rfl)
    have K1:aF G H1:=by rw[hH1];exact hK.put k4 _
    have g1:H1.ext.get k=some (.cells [KI (lv.getD i 0),kv',KN x] 0 none):=by rw[hH1];exact ad _ _ rfl
    have n1':H1.n=H.n:=by rw[hH1];rfl
    simp -dsimp (disch:=try exact dx) only[wpS,wpT,zE,zL,zA,st3,pN,eH,f4,f11,f76,f78,ixk,ldk,ixs,lds,pk,k4,←hH1,ai B1.g11,tk1]
    clear hH1
    have hgd:lv.getD i 0=a:=by rw[List.getD_eq_getElem?_getD,ha];rfl
    obtain⟨an,rfl⟩:=Int.eq_ofNat_of_zero_le (l3 a (List.mem_of_getElem? ha)).1
    have sk1:=kk2.ab K1
    have hw8 : ∀p∈row,p.1<W8∧p.2<W8:=by
     obtain⟨wr,A1,A2,A3⟩:=sk1.nR dE
     exact A2.2.2
    obtain⟨fb1,fb2⟩:=O2 ro hw8 hci
    refine call (Jw (NF (lev:=an) (x:=x) sk1 dE ro (by omega) (by omega) (by rw[hgd] at g1;exact g1) hci)) ?_
    rintro _ H3 ⟨rfl,H2,X2,S2,hg2⟩
    rw[mvT,hri] at hT
    obtain⟨F,hF⟩ : ∃F,F=mvF row ci:=⟨_,rfl⟩
    rw[←hF] at hT hg2 fb1 fb2 ⊢
    have B2:=B1.ext X2
    have n2:=X2.n
    have z : ∀(j:Nat) o,j≤h2.n→H2.ext.get j=some o→H3.ext.get j=some o:=fun j o hj hg=>by rw[S2.2.2.1 j (by omega)];exact hg
    have E3':Ext h H3:=⟨by rw[S2.1];exact B2.e.n,by rw[S2.2.1];exact B2.e.base,fun j hj=>by rw[S2.2.2.1 j (by omega)];exact B2.e.get j hj,fun j hj=>by rw[S2.2.2.2];exact B2.e.cM j hj⟩
    have y11:=z _ _ (by omega) B2.g11
    have y12:=z _ _ (by omega) B2.g12
    have y13:=z _ _ (by omega) B2.g13
    have y14:=z _ _ (by omega) B2.g14
    have y15:=z _ _ (by omega) B2.g15
    by_cases er:F.2.2=0
    case neg =>
     rw[if_pos er] at hT
     rw[hT,if_pos er]
     have d:(F.2.2 != 0)=true:=by simpa using er
     obtain⟨H4,hH4⟩ : ∃H,H=(H3.put h.n (.cells [K64 F.2.1] 0 none)).put (h.n+4) (.cells [KI F.2.2] 0 none):=⟨_,rfl⟩
     have w12:H4.ext.get (h.n+1)=some (.cells [.slice none 0 0] 0 none):=by rw[hH4];simp (disch:=try exact dx) only[ae];exact y12
     have w13:H4.ext.get (h.n+2)=some (.cells [KI 0] 0 none):=by rw[hH4];simp (disch:=try exact dx) only[ae];exact y13
     have w14:H4.ext.get (h.n+3)=some (.cells [.int .u64 0] 0 none):=by rw[hH4];simp (disch:=try exact dx) only[ae];exact y14
     have w15:H4.ext.get (h.n+4)=some (.cells [KI F.2.2] 0 none):=by rw[hH4];simp (disch:=try exact dx) only[ad]
     have E4:Ext h H4:=by rw[hH4];exact(E3'.put (by omega) _).put (by omega) _
     simp -dsimp (disch:=try exact dx) only[wpS,wpT,zE,zL,gH,jq,kO,f11,f15,y11,y15,chV,d,←hH4,ai w15]
     clear hH4
     refine drawn [(1,[3,4,5])] (by kernel_rfl) (by kernel_rfl) rfl ?_
     simp -dsimp (disch:=try exact dx) only[wpS,wpT,zE,zL,mh,yB,st3,gH,jq,kO,f12,f13,f14,f15,w12,w13,w14,w15,ai w15]
     have L0:=ldS (P:=prog) MD (o:=0) (v:=KI F.2.2) w15 rfl
     have L1:=ldS (P:=prog) MD (h:=H4.put (h.n+1) (.cells [.slice none 0 0] 0 none)) (k:=h.n+4) (o:=0) (v:=KI F.2.2) (by simp (disch:=try exact dx) only[ae];exact w15) rfl
     have L2:=ldS (P:=prog) MD (h:=(H4.put (h.n+1) (.cells [.slice none 0 0] 0 none)).put (h.n+2) (.cells [KI 0] 0 none)) (k:=h.n+4) (o:=0) (v:=KI F.2.2) (by simp (disch:=try exact dx) only[ae];exact w15) rfl
     have L3:=ldS (P:=prog) MD (h:=((H4.put (h.n+1) (.cells [.slice none 0 0] 0 none)).put (h.n+2) (.cells [KI 0] 0 none)).put (h.n+3) (.cells [K64 0] 0 none)) (k:=h.n+4) (o:=0) (v:=KI F.2.2) (by simp (disch:=try exact dx) only[ae];exact w15) rfl
     refine⟨aI (ak rfl rfl rfl rfl (aA (av:=ptr (2*(h.n+4)) 0) (by simp[f15]) L0 L1)) (aI (ak rfl rfl rfl rfl (aA (av:=ptr (2*(h.n+4)) 0) (by simp[f15]) L0 L2)) (ak rfl rfl rfl rfl (aA (av:=ptr (2*(h.n+4)) 0) (by simp[f15]) L0 L3))),?_⟩
     simp -dsimp (disch:=try exact dx) only[wpS,wpT,zE,zL,zA,ld3,eH,kO,fQ,tk1,f12,f13,f14,f15]
     exact⟨(((E4.put (by omega) _).put (by omega) _).put (by omega) _).put (by omega) _,iG⟩
    rw[if_neg (fun h=>h er)] at hT
    rw[er]
    have B3:=((B2.set hki kk1 S2 (by rw[hgd];exact hg2 er)).O0 F.2.1).RB
    simp -dsimp (disch:=try exact dx) only[wpS,wpT,zE,zL,gH,jq,kO,f11,f15,f78,y11,y15,chV]
    refine⟨q,by omega,i+1,p ++ [F.1],F.2.1,by omega,by simp[hpl],fb1,hT,?_,?_,fun y hy=>?_,by simp[f2],by simp[f4],by simp[f11],by simp[f12],by simp[f13],by simp[f14],by simp[f15],by simp[f18],by simp[f76],by simp[f77],by simp⟩
    ·exact((((K1.trans X2.ab).trans (S2.ab (X2.kept (by omega) g1))).put y11 _).put (cs:=[KI 0]) (f:=none) (by rw[ae _ _ (by omega)];exact y15) _)
    ·obtain⟨e,b1,b2,b3,b4,b5,b6,b7,b8,b9⟩:=B3
     refine⟨e,b1,b2,b3,b4,b5,b6,b7,b8,b9.fn fun j hj=>?_⟩
     rw[zX,hpl]
     split<;>rfl
    ·rcases List.mem_append.1 hy with hy|hy
     ·exact hp y hy
     ·rw[List.mem_singleton.1 hy]
      have:=fb2 er
      omega
   ·obtain rfl:i=lv.length:=by omega
    obtain rfl:m=0:=by omega
    simp -dsimp (disch:=try exact dx) only[wpS,wpT]
    exact⟨p,ci,hpl,hci,hp,hT,B,by simp[f2],by simp[f11],by simp[f12],by simp[f13],by simp[f14],by simp[f15],by simp[f18]⟩
  clear f0 f2 f3 f4 f11 f12 f13 f14 f15 f18 Hn
  rintro fr H ⟨p,ci,hpl,hci,hp,hT,B,f2,f11,f12,f13,f14,f15,f18⟩
  have KG : ∀j b,j<lv.length→lv[j]?=some b→gN ll ws s b=0:=fun j b hj hb=>(AG.ker j b hj hb).choose_spec.2.2
  rw[hT,if_neg (show ¬((p,ci,(0:Int)).2.2≠0) from fun h=>h rfl)]
  obtain⟨X,hX⟩ : ∃X,X=fin p ci:=⟨_,rfl⟩
  rw[show fin (p,ci,(0:Int)).1 (p,ci,(0:Int)).2.1=X from hX.symm]
  rw[←N2] at hX
  clear hT N2
  obtain⟨lim,Ld⟩ : ∃lim,lim=min (lv.length - 1) 1:=⟨_,rfl⟩
  have Bs:(if (1<(lv.length:Int) - 1) then 1 else ((lv.length:Int) - 1))=(lim:Int):=by split<;>omega
  have B1:=B.OZ (-1)
  obtain⟨H1,hH1⟩ : ∃H1,H1=H.put (h.n+2) (.cells [KI (-1)] 0 none):=⟨_,rfl⟩
  rw[←hH1] at B1
  have Hn:=B1.acc.sl.len (P:=prog) Cu
  simp -dsimp (disch:=try exact dx) only[wpS,wpT,zE,zL,st3,zO,f13,f18,B.g13,←hH1,ai B1.g18,Hn,KE,Bs]
  clear hH1 B
  refine sr (fun fr H => ∃p2 sw c2,X=(p2,sw,c2,0)∧p2.length=lv.length∧RdB h H c2 h2.n sw lv cpv ks kvs n1 (fun j=>p2.getD j 0)∧ah fr 11=some (ptr (2*h.n) 0)∧ah fr 12=some (ptr (2*(h.n+1)) 0)∧ah fr 13=some (ptr (2*(h.n+2)) 0)∧ah fr 14=some (ptr (2*(h.n+3)) 0)∧ah fr 15=some (ptr (2*(h.n+4)) 0)∧ah fr 18=some (ptr (2*h2.n) 0)) ?_ ?_
  ·refine loop (fun m fr H => ∃i:Nat,i+m=lim∧ah fr 2=some sv∧ah fr 11=some (ptr (2*h.n) 0)∧ah fr 12=some (ptr (2*(h.n+1)) 0)∧ah fr 13=some (ptr (2*(h.n+2)) 0)∧ah fr 14=some (ptr (2*(h.n+3)) 0)∧ah fr 15=some (ptr (2*(h.n+4)) 0)∧ah fr 18=some (ptr (2*h2.n) 0)∧ah fr 106=some (KN lim)∧ah fr 107=some (KN i)∧((i=0∧RdB h H ci h2.n (-1) lv cpv ks kvs n1 (fun j=>p.getD j 0))∨(i=1 ∧ ∃p2 sw c2,X=(p2,sw,c2,0)∧p2.length=lv.length∧RdB h H c2 h2.n sw lv cpv ks kvs n1 (fun j=>p2.getD j 0)))) lim
    ⟨0,by omega,by simp[f2],by simp[f11],by simp[f12],by simp[f13],by simp[f14],by simp[f15],by simp[f18],by simp,by simp,.inl ⟨rfl,B1⟩⟩ ?_
   clear f2 f11 f12 f13 f14 f15 f18 B1
   rintro m fr H ⟨i,him,f2,f11,f12,f13,f14,f15,f18,f106,f107,hI⟩
   simp -dsimp (disch:=try exact dx) only[wpS,f106,f107]
   refine ax ?_ ?_<;>intro hb3<;>simp only[decide_eq_true_eq,decide_eq_false_iff_not] at hb3
   ·have hi0:i=0:=by omega
    have h2l:2≤lv.length:=by omega
    subst hi0
    obtain⟨_,B⟩:0=0∧RdB h H ci h2.n (-1) lv cpv ks kvs n1 (fun j=>p.getD j 0):=by
     rcases hI with hI|hI
     ·exact hI
     ·exact absurd hI.1 (by omega)
    clear hI
    have cpl:=B.acc.sl.len (P:=prog) Cu
    have lq:(lv.length:Int) - 1=((lv.length - 1:Nat):Int):=by omega
    simp -dsimp (disch:=try exact dx) only[wpS,wpT,zE,zL,zO,eH,f11,f18,ai B.g11,ai B.g18,cpl,tk1,lq]
    refine call (FL (s:=ci) (n:=((lv.length - 1:Nat):Int)) ⟨by omega,by omega⟩) ?_
    rintro _ h3 ⟨X3,rfl⟩
    have B3:=B.ext X3
    unfold FV
    rw[if_neg (show ¬((lv.length - 1:Nat):Int)<1 by omega),Int.toNat_natCast]
    rcases hbt:jd (lv.length - 1) TR ci with _|⟨k,c2⟩
    ·have eX:exF s lv p ci=([],0,0,9):=by unfold exF;rw[if_neg (by omega),hpl];simp only[hbt]
     rw[eX] at hX
     rw[hX]
     show Do (dO _ _ _ (.tuple #[KI 0,chV 0,KI 9])) _ _
     obtain⟨H4,hH4⟩ : ∃H,H=(h3.new (.cells [.int .u64 0] 0 none)).put h3.n (.cells [K64 0] 0 none):=⟨_,rfl⟩
     have B4:=B3.ext (show Ext h3 H4 by rw[hH4];exact((Ext.refl h3).new _).put (Nat.le_refl _) _)
     simp -dsimp (disch:=try exact dx) only[wpS,wpT,zE,zL,nW,mh,yB,st3,gH,jq,ld3,eH,kO,fQ,f12,f13,f14,f15,←hH4,B4.g12,B4.g13,B4.g14,B4.g15,chV,tk1]
     exact⟨(((B4.e.put (by omega) _).put (by omega) _).put (by omega) _).put (by omega) _,iG⟩
    obtain⟨hk1,hc2⟩:=ub (by omega) hbt
    obtain⟨a,ha⟩ : ∃a,lv[k]?=some a:=⟨_,List.getElem?_eq_getElem (by omega)⟩
    obtain⟨b,hb⟩ : ∃a,lv[k+1]?=some a:=⟨_,List.getElem?_eq_getElem (by omega)⟩
    obtain⟨x,hx⟩ : ∃a,p[k]?=some a:=⟨_,List.getElem?_eq_getElem (by omega)⟩
    obtain⟨y,hy⟩ : ∃a,p[k+1]?=some a:=⟨_,List.getElem?_eq_getElem (by omega)⟩
    obtain⟨ka,hka⟩ : ∃a,ks[k]?=some a:=⟨_,List.getElem?_eq_getElem (by omega)⟩
    obtain⟨kb,hkb⟩ : ∃a,ks[k+1]?=some a:=⟨_,List.getElem?_eq_getElem (by omega)⟩
    have x1:=hp x (List.mem_of_getElem? hx)
    have y1:=hp y (List.mem_of_getElem? hy)
    have gx:p.getD k 0=x:=by rw[List.getD_eq_getElem?_getD,hx];rfl
    have gy:p.getD (k+1) 0=y:=by rw[List.getD_eq_getElem?_getD,hy];rfl
    have ga:lv.getD k 0=a:=by rw[List.getD_eq_getElem?_getD,ha];rfl
    have gb:lv.getD (k+1) 0=b:=by rw[List.getD_eq_getElem?_getD,hb];rfl
    obtain⟨H4,hH4⟩ : ∃H,H=(h3.new (.cells [.int .u64 0] 0 none)).put h3.n (.cells [K64 c2] 0 none):=⟨_,rfl⟩
    have E34:Ext h3 H4:=by rw[hH4];exact((Ext.refl h3).new _).put (Nat.le_refl _) _
    have n4:H4.n=h3.n+1:=by rw[hH4];rfl
    have g25:H4.ext.get h3.n=some (.cells [K64 c2] 0 none):=by rw[hH4];simp (disch:=try exact dx) only[ad]
    have B4:=B3.ext E34
    show Do (dO _ _ _ (.tuple #[KN k,chV c2,KI 0])) _ _
    simp -dsimp (disch:=try exact dx) only[wpS,wpT,zE,zL,nW,gH,chV,←hH4]
    clear hH4
    have pka:(ks.map pk)[k]?=some (pk ka):=by rw[List.getElem?_map,hka];rfl
    have pkb:(ks.map pk)[k+1]?=some (pk kb):=by rw[List.getElem?_map,hkb];rfl
    have ixa:=B4.acc.sl.idx G7 (P:=prog) (k:=.i64) (j:=k) (by omega)
    have ixb:indexAddr prog 113 cpv (KI ((k:Int)+1))=some (aK cpv ((k+1)*1)):=B4.acc.sl.idx G7 (P:=prog) (k:=.i64) (j:=k+1) (by omega)
    rw[Nat.mul_one] at ixa ixb
    have lda:=(B4.acc.sl.ld (aF.refl H4) (by simp;omega) Hw (P:=prog) (c:=k)).trans pka
    have ldb:=(B4.acc.sl.ld (aF.refl H4) (by simp;omega) Hw (P:=prog) (c:=k+1)).trans pkb
    obtain⟨ka1,ka2,kva,ka3,ka4⟩:=B4.rep.get k ka hka
    obtain⟨kb1,kb2,kvb,kb3,kb4⟩:=B4.rep.get (k+1) kb hkb
    rw[ga,gx] at ka4
    rw[gb,gy] at kb4
    simp -dsimp (disch:=try exact dx) only[wpS,zE,zO,f18,ai B4.g18,ixa,ixb,lda,ldb,pk]
    refine drawn [(0,[21])] (by kernel_rfl) (by kernel_rfl) rfl ?_
    simp -dsimp (maxSteps:=1000000) (disch:=first|omega|(simp only[al,aq];omega)|decide +kernel|(repeat first|rw[al]|rw[aq])) only[wpS,wpT,zE,zL,ld3,pN,eH,G4,Oh,f2,ai g25,ai ka4,ai kb4,tk1]
    have la:=l3 a (List.mem_of_getElem? ha)
    have lb2:=l3 b (List.mem_of_getElem? hb)
    have sl2:s.length=ll.length:=(mC (KG 0 _ (by omega) (List.getElem?_eq_getElem (by omega)))).2.2
    refine call (uE (hs.ab B4.e.ab) la lb2 s3 (by omega) (by omega)) ?_
    rintro _ h5 ⟨X5,rfl⟩
    have B5:=B4.ext X5
    rw[ij]
    have kbl:=FK la lb2 s3 (x:=x) (y:=y) (by omega) (by omega)
    obtain⟨q,hq0⟩ : ∃q,q=shq (exq (chK s a b x y)):=⟨_,rfl⟩
    rw[←hq0]
    have qlt:q.1<W8∧q.2<W8:=by rw[hq0];exact oq (BF kbl)
    have eX:exF s lv p ci=(if (mM q c2).2.2≠0 then (([]:List Nat),(0:Int),(0:Nat),(mM q c2).2.2) else if (mM q c2).1=false then (p,(-1:Int),(mM q c2).2.1,0) else (fl p k,(k:Int),(mM q c2).2.1,0)):=by
     unfold exF
     rw[if_neg (by omega),hpl]
     simp only[hbt]
     rw[gx,gy,ga,gb,←hq0]
    clear hq0
    rw[eX] at hX
    clear eX
    have L0:=qj g25
    have L1:=qj (X5.kept (by omega) g25)
    simp -dsimp (disch:=try exact dx) only[wpS,zE]
    refine call (Mk qlt.1 qlt.2 hc2) ?_
    rintro _ h7 ⟨X7,rfl⟩
    have B7:=B5.ext X7
    generalize mM q c2=C at hX
    unfold Pt
    obtain⟨H8,hH8⟩ : ∃H,H=(h7.new (.cells [.int .u64 0] 0 none)).put h7.n (.cells [K64 C.2.1] 0 none):=⟨_,rfl⟩
    have E78:Ext h7 H8:=by rw[hH8];exact((Ext.refl h7).new _).put (Nat.le_refl _) _
    have g30:H8.ext.get h7.n=some (.cells [K64 C.2.1] 0 none):=by rw[hH8];simp (disch:=try exact dx) only[ad]
    have B8:=B7.ext E78
    have n8:H8.n=h7.n+1:=by rw[hH8];rfl
    simp -dsimp (disch:=try exact dx) only[wpS,wpT,zE,zL,nW,gH,chV,←hH8]
    clear hH8
    refine⟨ak rfl rfl rfl rfl (aA (av:=ptr (2*h3.n) 0) (v:=.agg #[K64 c2]) (by simp) L0 L1),?_⟩
    by_cases er:C.2.2=0
    case neg =>
     rw[if_pos er] at hX
     rw[hX]
     have d:(C.2.2 != 0)=true:=by simpa using er
     simp -dsimp (maxSteps:=1000000) (disch:=first|omega|(simp only[al,aq];omega)|decide +kernel|(repeat first|rw[al]|rw[aq])) only[wpS,wpT,zE,zL,zA,mh,yB,st3,gH,jq,ld3,eH,kO,fQ,f12,f13,f14,f15,B8.g12,B8.g13,B8.g14,B8.g15,tk1,d]
     exact⟨(((B8.e.put (by omega) _).put (by omega) _).put (by omega) _).put (by omega) _,iG⟩
    rw[if_neg (fun h=>h er)] at hX
    rw[er]
    have B9:=B8.O0 C.2.1
    obtain⟨H9,hH9⟩ : ∃H,H=H8.put h.n (.cells [K64 C.2.1] 0 none):=⟨_,rfl⟩
    rw[←hH9] at B9
    have n9:H9.n=H8.n:=by rw[hH9];rfl
    cases hC:C.1
    ·rw[if_pos hC] at hX
     simp -dsimp (disch:=try exact dx) only[wpS,wpT,zE,zL,zA,gH,eH,f11,ai g30,B8.g11,tk1,←hH9]
     exact⟨p,-1,C.2.1,hX,hpl,B9,by simp[f11],by simp[f12],by simp[f13],by simp[f14],by simp[f15],by simp[f18]⟩
    rw[if_neg (by rw[hC];decide)] at hX
    obtain⟨ja1,ja2,va,ja3,ja4⟩:=B9.rep.get k ka hka
    obtain⟨jb1,jb2,vb,jb3,jb4⟩:=B9.rep.get (k+1) kb hkb
    have nab:kb≠ka:=B9.rep.ne hkb hka (by omega)
    obtain⟨H10,Oc⟩ : ∃H,H=H9.put ka (.cells [KI (lv.getD k 0),va,KN y] 0 none):=⟨_,rfl⟩
    have B10:=B9.set (H':=H10) (x:=y) hka ja3 (by rw[Oc];exact wH _ _ _) (by rw[Oc];exact ad _ _ rfl)
    have jb5:H10.ext.get kb=some (.cells [KI (lv.getD (k+1) 0),vb,KN (p.getD (k+1) 0)] 0 none):=by rw[Oc,ae _ _ nab];exact jb4
    obtain⟨H11,Bw⟩ : ∃H,H=H10.put kb (.cells [KI (lv.getD (k+1) 0),vb,KN x] 0 none):=⟨_,rfl⟩
    have B11:=B10.set (H':=H11) (x:=x) hkb jb3 (by rw[Bw];exact wH _ _ _) (by rw[Bw];exact ad _ _ rfl)
    have B12:=B11.OZ (k:Int)
    rw[gx] at ja4
    rw[gy] at jb4 jb5
    simp -dsimp (maxSteps:=1000000) (disch:=first|omega|(simp only[al,aq];omega)|decide +kernel|(repeat first|rw[al]|rw[aq])) only[wpS,wpT,zE,zL,zA,st3,gH,ld3,pN,eH,f11,f13,f107,ai g30,B8.g11,B11.g13,tk1,←hH9,ai ja4,ai jb4,ja4,jb5,←Oc,←Bw]
    refine⟨0,by omega,1,by omega,by simp[f2],by simp[f11],by simp[f12],by simp[f13],by simp[f14],by simp[f15],by simp[f18],by simp[f106],by simp,.inr ⟨rfl,fl p k,k,C.2.1,hX,by rw[gG,hpl],?_⟩⟩
    obtain⟨e,b1,b2,b3,b4,b5,b6,b7,b8,b9⟩:=B12
    exact⟨e,b1,b2,b3,b4,b5,b6,b7,b8,b9.fn fun j _=>by rw[←lh (by omega) j,gx,gy]⟩
   ·simp -dsimp (disch:=try exact dx) only[wpS,wpT]
    rcases hI with⟨rfl,B⟩|⟨rfl,p2,sw,c2,e,l,B⟩
    ·have eX:exF s lv p ci=(p,-1,ci,0):=by unfold exF;rw[if_pos (by omega)]
     rw[eX] at hX
     exact⟨p,-1,ci,hX,hpl,B,by simp[f11],by simp[f12],by simp[f13],by simp[f14],by simp[f15],by simp[f18]⟩
    ·exact⟨p2,sw,c2,e,l,B,by simp[f11],by simp[f12],by simp[f13],by simp[f14],by simp[f15],by simp[f18]⟩
  ·clear f2 f11 f12 f13 f14 f15 f18 B1 hX Bs Ld
   rintro fr H ⟨p2,sw,c2,rfl,hp2,B,f11,f12,f13,f14,f15,f18⟩
   have cpl:=B.acc.sl.len (P:=prog) Cu
   simp -dsimp (disch:=try exact dx) only[wpS,zO,f18,ai B.g18,cpl]
   refine loop (fun m fr hh => ∃(i:Nat) (out:Value),i+m=lv.length∧Ext h hh∧aF H hh∧hh.ext.get h.n=some (.cells [K64 c2] 0 none)∧hh.ext.get (h.n+1)=some (.cells [out] 0 none)∧hh.ext.get (h.n+2)=some (.cells [KI sw] 0 none)∧hh.ext.get (h.n+3)=some (.cells [.int .u64 0] 0 none)∧hh.ext.get (h.n+4)=some (.cells [KI 0] 0 none)∧Acc hh h.n 1 out i ((p2.take i).map KN)∧jf hh n1 ks lv kvs (fun j=>p2.getD j 0)∧ah fr 11=some (ptr (2*h.n) 0)∧ah fr 12=some (ptr (2*(h.n+1)) 0)∧ah fr 13=some (ptr (2*(h.n+2)) 0)∧ah fr 14=some (ptr (2*(h.n+3)) 0)∧ah fr 15=some (ptr (2*(h.n+4)) 0)∧ah fr 180=some cpv∧ah fr 181=some (KN lv.length)∧ah fr 182=some (KN i)) lv.length
    ⟨0,.slice none 0 0,by omega,B.e,aF.refl _,B.g11,B.g12,B.g13,B.g14,B.g15,Acc.nil _ _ (by omega),B.rep,by simp[f11],by simp[f12],by simp[f13],by simp[f14],by simp[f15],by simp,by simp,by simp⟩ ?_
   clear f11 f12 f13 f14 f15 f18
   rintro m fr hh ⟨i,out,him,hE,hK,g11,g12,g13,g14,g15,hA,hR,f11,f12,f13,f14,f15,f180,f181,f182⟩
   have nh:=hE.n
   have nK:=hK.n
   have bn:=B.bn
   simp -dsimp (disch:=try exact dx) only[wpS,f181,f182]
   refine ax ?_ ?_<;>intro hb4<;>simp only[decide_eq_true_eq,decide_eq_false_iff_not] at hb4
   ·have hi:i<lv.length:=by omega
    obtain⟨k,hki⟩ : ∃a,ks[i]?=some a:=⟨_,List.getElem?_eq_getElem (by omega)⟩
    obtain⟨x,hx⟩ : ∃a,p2[i]?=some a:=⟨_,List.getElem?_eq_getElem (by omega)⟩
    have gx:p2.getD i 0=x:=by rw[List.getD_eq_getElem?_getD,hx];rfl
    have pki:(ks.map pk)[i]?=some (pk k):=by rw[List.getElem?_map,hki];rfl
    have so:=B.acc.sl.ab hK
    have ixk:=so.idx G7 (P:=prog) (k:=.i64) (j:=i) hi
    rw[Nat.mul_one] at ixk
    have ldk:=(so.ld (aF.refl hh) (by simp;omega) Hw (P:=prog) (c:=i)).trans pki
    obtain⟨k1,k2,kv2,k3,k4⟩:=hR.get i k hki
    rw[gx] at k4
    simp -dsimp (disch:=try exact dx) only[wpS,wpT,zE,f180,f182,ixk,ldk,pk]
    refine drawn [(0,[6]),(4,[6])] (by kernel_rfl) (by kernel_rfl) rfl ?_
    obtain⟨bR,H7,hap,hA7,hG7,hE7⟩:=hA.pU (P:=prog) (t:=25) pV (m:=1) (new:=[KN x]) (by omega) rfl rfl (by omega) (by omega) hE (Nat.le_refl _)
    have jA:append prog (hh.new (.cells [KN x] 1 none)) 25 out (.slice (some ⟨2*hh.n,0,none⟩) 1 3)=some (bR,H7):=hap
    have w12:=hG7.var (by omega) g12
    simp -dsimp (disch:=try exact dx) only[wpS,wpT,zE,zL,zA,yB,ld3,pN,fQ,gO,fj,f12,ai g12,ai k4,jA,w12,hA7.sl.cells,hA7.sl.cok]
    have n7:=hG7.n
    have e1:Ext hh (hh.new (.cells [KN x] 1 none)):=(Ext.refl hh).new _
    refine⟨aN (ak rfl rfl rfl rfl (aA (av:=ptr (2*(h.n+1)) 0) (v:=out) (by simp[f12]) (ldS Q1 g12 rfl) (ldS Q1 (e1.kept (by omega) g12) rfl))) (ak rfl rfl rfl rfl (aA (av:=ptr (2*k) 2) (v:=KN x) (by simp) (ldS ag3 k4 rfl) (ldS ag3 (e1.kept (by omega) k4) rfl))),?_⟩
    have z : ∀{j:Nat} {cs:List Value},j<hh.n→j≠h.n+1→hh.ext.get j=some (.cells cs 0 none)→(H7.put (h.n+1) (.cells [bR] 0 none)).ext.get j=some (.cells cs 0 none):=fun hj h1 hg=>by rw[ae _ _ h1];exact hG7.var hj hg
    simp -dsimp (disch:=try exact dx) only[wpS,wpT,zE,zA,f182]
    refine⟨m - 1,by omega,i+1,bR,by omega,hE7.put (by omega) _,(hK.trans hG7.ab).put w12 _,z (by omega) (by omega) g11,ad _ _ rfl,z (by omega) (by omega) g13,z (by omega) (by omega) g14,z (by omega) (by omega) g15,?_,(hR.grow hG7).put (by omega) _,by simp[f11],by simp[f12],by simp[f13],by simp[f14],by simp[f15],by simp[f180],by simp[f181],by simp⟩
    rw[List.take_succ,hx,Option.toList_some,List.map_append]
    exact hA7.put w12 _
   ·obtain rfl:i=lv.length:=by omega
    rw[List.take_of_length_le (by omega)] at hA
    have e:p2.length=lv.length:=hp2
    simp -dsimp (disch:=try exact dx) only[wpS,wpT]
    refine drawn [(1,[4]),(2,[4,5])] (by kernel_rfl) (by kernel_rfl) rfl ?_
    simp -dsimp (disch:=try exact dx) only[wpS,wpT,zE,zL,yB,st3,gH,jq,ld3,eH,fQ,f11,f12,f13,f14,f15,g12,g13,g14,g15,ai g11,ai g12,ai g13,tk1,hA.sl.cells,hA.sl.cok]
    have z1 : ∀{j:Nat} {o:bB},j≠h.n+1→hh.ext.get j=some o→(hh.put (h.n+1) (.cells [out] 0 none)).ext.get j=some o:=fun hj hg=>by rw[ae _ _ hj];exact hg
    have z2 : ∀{j:Nat} {o:bB},j≠h.n+1→j≠h.n+2→hh.ext.get j=some o→((hh.put (h.n+1) (.cells [out] 0 none)).put (h.n+2) (.cells [KI sw] 0 none)).ext.get j=some o:=fun hj h2 hg=>by rw[ae _ _ h2,ae _ _ hj];exact hg
    refine⟨aN (ak rfl rfl rfl rfl (aA (av:=ptr (2*(h.n+2)) 0) (v:=KI sw) (by simp[f13]) (ldS ag3 g13 rfl) (ldS ag3 (z1 (by omega) g13) rfl))) (aI (ak rfl rfl rfl rfl (aA (av:=ptr (2*h.n) 0) (v:=.agg #[K64 c2]) (by simp[f11]) (qj g11) (qj (z1 (by omega) g11)))) (ak rfl rfl rfl rfl (aA (av:=ptr (2*h.n) 0) (v:=.agg #[K64 c2]) (by simp[f11]) (qj g11) (qj (z2 (by omega) (by omega) g11))))),?_⟩
    simp -dsimp (disch:=try exact dx) only[wpS,wpT,zE,zL,zA,ld3,eH,kO,fQ,f12,f13,f14,f15,tk1]
    refine⟨(((hE.put (by omega) _).put (by omega) _).put (by omega) _).put (by omega) _,out,rfl,?_⟩
    rw[e]
    exact hA.sl.ab (((((aF.refl hh).put g12 _).put (cs:=[KI sw]) (f:=none) (z1 (by omega) g13) _).put (cs:=[.int .u64 0]) (f:=none) (z2 (by omega) (by omega) g14) _).put (cs:=[KI 0]) (f:=none) (by rw[ae _ _ (by omega)];exact z2 (by omega) (by omega) g15) _)
end Go.Id

/-
  BracketFinds: the law returns true for every input; each argument reads as it did.
-/
import Derived.Test.YthpefnfbnaekaaaGreatBracketFindsAq
import Derived.Test.YthpefnfbnaekaaaGreatBracketFindsAo
import Derived.Test.YthpefnfbnaekaaaGreatBracketFindsAn
set_option linter.unusedVariables false
set_option linter.unusedSimpArgs false
set_option linter.defProp false
set_option linter.deprecated false
namespace Go.Id
open Go
abbrev blkV (j n:Nat):Value:=.slice (some ⟨2*j,0,none⟩) n (2*n)
theorem blk_now {h:IH} {j n:Nat} {cs:List Value} (g:h.ext.get j=some (.cells cs 1 none)) (hl:cs.length=n):SlNow h 1 (blkV j n) n cs :=
 ⟨by omega,by omega,.inr ⟨2*j,0,_,rfl,.inr ⟨cs,by rw[row_even];simp only[IH.cells,g],by rw[List.drop_zero,List.take_of_length_le (by omega)],by omega⟩⟩⟩
theorem blk_sl {h:IH} {j n:Nat} {cs:List Value} (g:h.ext.get j=some (.cells cs 1 none)) (hj:j<h.n) (hl:cs.length=n) (hn:0<n):SlOf h 1 (blkV j n) n cs :=
 sl_block g hj (by omega) (by omega) (by omega) (by omega)
theorem cloneI_ok {h:IH} {v:Value} {n:Nat} {cs:List Value} (hs:SlOf h 1 v n cs) (hp:0<n) (hc:cs.all cellOK=true) (hn:n≤1000000000) :
  WV Proofs.Tryz.prog (.func (.func 31) #[] #[]) [v] h fun r h'=>Ext h h' ∧ ∃j,h.n≤j∧j<h'.n∧r=blkV j n∧h'.ext.get j=some (.cells cs 1 none):=by
 obtain⟨hz,hl,⟨rfl,rfl⟩|⟨b,o,k,rfl,hh⟩⟩:=hs
 ·omega
 ·have hk:Ext h (h.new (.cells [] 1 none)):=(Ext.refl h).new _
  have hnow2:SlNow (h.new (.cells [] 1 none)) 1 (.slice (some ⟨b,o,none⟩) n k) n cs:=(SlOf.keep ⟨hz,hl,.inr ⟨b,o,k,rfl,hh⟩⟩ hk.keep).now
  refine enter (nt:=8) (rs:=[.tmp 2]) Proofs.Tryz.func31 rfl rfl rfl (by simp) ?_
  simp -dsimp (disch:=omega) only[wpS,wpT,Nat.reduceEqDiff,Nat.reduceMul,bs29,ba29_29,nil_eq_some u29,append_zero ap29 _ hnow2 hp hc (by omega)]
  exact⟨hk.new _,_,by simp,by simp,rfl,get_new_same _ _ rfl⟩
def setL (a:Nat) (x:Int) (L:List Int):List Int:=L.set (a % L.length) x
def movedL (a b c:Nat) (L:List Int):List Int :=
 let i:=a % L.length
 let k:=b % L.length
 let d:=if L.getD i 0<((c % 3:Nat):Int) then L.getD i 0 else ((c % 3:Nat):Int)
 let L1:=L.set i (L.getD i 0 - d)
 L1.set k (L1.getD k 0+d)
theorem map_set' (L:List Int) (i:Nat) (x:Int):(L.map KI).set i (KI x)=(L.set i x).map KI:=by rw[List.map_set]
abbrev shiftV (a b c d:Nat) (n:Int):Value:=.agg #[B8 a,B8 b,B8 c,B8 d,KI n]
theorem all_map (L:List Int):(L.map KI).all cellOK=true:=by simp[cellOK]
set_option maxHeartbeats 2000000 in
theorem setL_ok {h:IH} {a b c d:Nat} {x:Int} {v:Value} {L:List Int} (hs:SlOf h 1 v L.length (L.map KI)) (hl:L.length≤1000000) (h0:0<L.length) (hd:d<256) :
  WV Proofs.Tryz.prog (.func (.func 14) #[] #[]) [shiftV a b c d x,v] h fun r h'=>Ext h h'∧SlOf h' 1 r L.length ((setL d x L).map KI):=by
 refine enter (nt:=19) (rs:=[.tmp 4]) Proofs.Tryz.func14 rfl rfl rfl (by simp) ?_
 simp -dsimp (maxSteps:=1000000) (disch:=first|omega|(simp only[new_n,put_n];omega)|decide +kernel|(repeat first|rw[new_n]|rw[put_n])) only[wpS,Nat.reduceEqDiff,Nat.reduceAdd]
 obtain⟨H0,hH0⟩ : ∃H,H=h.new (.cells [B8 a,B8 b,B8 c,B8 d,KI x] 0 none):=⟨_,rfl⟩
 have E0:Ext h H0:=by rw[hH0];exact(Ext.refl h).new _
 have g0:H0.ext.get h.n=some (.cells [B8 a,B8 b,B8 c,B8 d,KI x] 0 none):=by rw[hH0];simp (disch:=first|omega|(simp only[new_n,put_n];omega)|(repeat first|rw[new_n]|rw[put_n])) only[get_new_same]
 have n0:H0.n=h.n+1:=by rw[hH0];simp
 rw[←hH0]
 clear hH0
 refine call (cloneI_ok (hs.keep E0.keep) h0 (all_map L) (by omega)) ?_
 rintro _ h1 ⟨X1,j,j1,j2,rfl,gj⟩
 have m1:=X1.n
 have k0:=X1.kept (by omega) g0
 have N1:=blk_now (n:=L.length) gj (by simp)
 have md:d % L.length<L.length:=Nat.mod_lt _ h0
 have er:(d:Int).tmod (L.length:Int)=((d % L.length:Nat):Int):=rfl
 have ed:(d:Int) % (L.length:Int)=((d % L.length:Nat):Int):=rfl
 have ea:elemAddr (blkV j L.length) (d % L.length)=ptr (2*j) (d % L.length):=by simp[elemAddr]
 simp -dsimp (maxSteps:=1000000) (disch:=first|omega|(simp only[new_n,put_n];omega)|decide +kernel|(repeat first|rw[new_n]|rw[put_n])) only[wpS,wpT,Nat.reduceEqDiff,fa28_3,ld5,cv5_3,fa28_4,ld3,st3,row_of k0,N1.len sl29,ed,N1.idx es29 md,ea,gj,List.length_map]
 refine⟨(E0.trans X1).put (by omega) _,?_⟩
 rw[splice_set (by rw[List.length_map];exact md),map_set']
 refine blk_sl (get_put_same _ _ rfl) (by simp;omega) ?_ h0
 rw[List.length_map];unfold setL;rw[List.length_set]
theorem getD_setI (L:List Int) (i k:Nat) (x:Int) (hk:k<L.length):(L.set i x).getD k 0=if i=k then x else L.getD k 0:=by
 rw[List.getD_eq_getElem?_getD,List.getElem?_set,List.getD_eq_getElem?_getD]
 by_cases c:i=k
 ·rw[if_pos c,if_pos c,if_pos (by omega)];rfl
 ·rw[if_neg c,if_neg c]
set_option maxHeartbeats 2000000 in
theorem sfMoved_ok {h:IH} {a b c d:Nat} {x:Int} {v:Value} {L:List Int} (hs:SlOf h 1 v L.length (L.map KI)) (hl:L.length≤1000000) (h0:0<L.length) (ha:a<256) (hb:b<256) (hc:c<256) (hL : ∀y∈L,0≤y∧y≤1000000) :
  WV Proofs.Tryz.prog (.func (.func 13) #[] #[]) [shiftV a b c d x,v] h fun r h'=>Ext h h'∧SlOf h' 1 r L.length ((movedL a b c L).map KI):=by
 refine enter (nt:=47) (rs:=[.tmp 4]) Proofs.Tryz.func13 rfl rfl rfl (by simp) ?_
 simp -dsimp (maxSteps:=1000000) (disch:=first|omega|(simp only[new_n,put_n];omega)|decide +kernel|(repeat first|rw[new_n]|rw[put_n])) only[wpS,Nat.reduceEqDiff,Nat.reduceAdd]
 obtain⟨H0,hH0⟩ : ∃H,H=h.new (.cells [B8 a,B8 b,B8 c,B8 d,KI x] 0 none):=⟨_,rfl⟩
 have E0:Ext h H0:=by rw[hH0];exact(Ext.refl h).new _
 have g0:H0.ext.get h.n=some (.cells [B8 a,B8 b,B8 c,B8 d,KI x] 0 none):=by rw[hH0];simp (disch:=first|omega|(simp only[new_n,put_n];omega)|(repeat first|rw[new_n]|rw[put_n])) only[get_new_same]
 have n0:H0.n=h.n+1:=by rw[hH0];simp
 rw[←hH0]
 clear hH0
 refine call (cloneI_ok (hs.keep E0.keep) h0 (all_map L) (by omega)) ?_
 rintro _ h1 ⟨X1,j,j1,j2,rfl,gj⟩
 have m1:=X1.n
 have k0:=X1.kept (by omega) g0
 have N1:=blk_now (n:=L.length) gj (by simp)
 obtain⟨i,hi⟩ : ∃i,i=a % L.length:=⟨_,rfl⟩
 obtain⟨k,hk⟩ : ∃i,i=b % L.length:=⟨_,rfl⟩
 have mi:i<L.length:=by rw[hi];exact Nat.mod_lt _ h0
 have mk:k<L.length:=by rw[hk];exact Nat.mod_lt _ h0
 have e1:(a:Int) % (L.length:Int)=(i:Int):=by rw[hi];rfl
 have e2:(b:Int) % (L.length:Int)=(k:Int):=by rw[hk];rfl
 have e3:(c:Int) % 3=((c % 3:Nat):Int):=by omega
 have ai:elemAddr (blkV j L.length) i=ptr (2*j) i:=by simp[elemAddr]
 have ak:elemAddr (blkV j L.length) k=ptr (2*j) k:=by simp[elemAddr]
 have li:load Proofs.Tryz.prog h1 3 (ptr (2*j) i)=some (KI (L.getD i 0)):=by
  have:=N1.ld (P:=Proofs.Tryz.prog) (t:=3) (c:=i) (by rw[List.length_map];omega) ag3
  rw[ai,map_get,at_getD mi] at this
  exact this
 have bi:=hL _ (List.mem_of_getElem? (at_getD mi))
 have bk:=hL _ (List.mem_of_getElem? (at_getD mk))
 obtain⟨dd,hdd⟩ : ∃z:Int,z=if L.getD i 0<((c % 3:Nat):Int) then L.getD i 0 else ((c % 3:Nat):Int):=⟨_,rfl⟩
 have db:0≤dd∧dd≤2∧dd≤L.getD i 0:=by rw[hdd];split<;>omega
 have w1:IntKind.i64.wrap (L.getD i 0 - dd)=L.getD i 0 - dd:=by rw[wrap_i64 (by omega)]
 obtain⟨L1,hL1⟩ : ∃l,l=L.set i (L.getD i 0 - dd):=⟨_,rfl⟩
 have l1:L1.length=L.length:=by rw[hL1,List.length_set]
 have b1:0≤L1.getD k 0∧L1.getD k 0≤1000000:=by
  rw[hL1,getD_setI _ _ _ _ mk]
  split<;>omega
 have s1:IH.splice (L.map KI) i [.int .i64 (L.getD i 0 - dd)]=L1.map KI:=by rw[splice_set (by rw[List.length_map];exact mi),map_set',←hL1]
 have gk:(L1.map KI)[k]?=some (KI (L1.getD k 0)):=by rw[map_get,at_getD (by omega)];rfl
 have w2:IntKind.i64.wrap (L1.getD k 0+dd)=L1.getD k 0+dd:=by rw[wrap_i64 (by omega)]
 have s2:IH.splice (L1.map KI) k [.int .i64 (L1.getD k 0+dd)]=(movedL a b c L).map KI:=by
  rw[splice_set (by rw[List.length_map];omega),map_set']
  rw[hL1,hdd,hi,hk];rfl
 simp -dsimp (maxSteps:=1000000) (disch:=first|omega|(simp only[new_n,put_n];omega)|decide +kernel|(repeat first|rw[new_n]|rw[put_n])) only[wpS,wpT,Nat.reduceEqDiff,fa28_0,ld5,cv5_3,fa28_1,fa28_2,ld3,st3,row_of k0,N1.len sl29,e1,e2,e3,N1.idx es29 mi,N1.idx es29 mk,ai,ak,li,min_kk,←hdd,w1,w2,gj,List.length_map,s1,s2,gk,l1]
 refine⟨((E0.trans X1).put (by omega) _).put (by omega) _,?_⟩
 refine blk_sl (get_put_same _ _ rfl) (by simp;omega) ?_ h0
 rw[List.length_map]
 unfold movedL
 simp
end Go.Id
namespace Go.Proofs.YthpefnfbnaekaaaGreat
open Go.ChangeShapes Go.WideShapes Go.ChangeAt Go.RowKit Go.Id
theorem u_shift:Tryz.prog.underlying 28=some (.struct { toList:=[{ name := "From",type:=5,offset:=0,embedded:=false,tag := "",pkgPath := "",byteOffset:=0 },{ name := "To",type:=5,offset:=1,embedded:=false,tag := "",pkgPath := "",byteOffset:=1 },{ name := "Many",type:=5,offset:=2,embedded:=false,tag := "",pkgPath := "",byteOffset:=2 },{ name := "At",type:=5,offset:=3,embedded:=false,tag := "",pkgPath := "",byteOffset:=3 },{ name := "N",type:=3,offset:=4,embedded:=false,tag := "",pkgPath := "",byteOffset:=8 }] }):=by kernel_rfl
theorem u_ints:Tryz.prog.underlying 29=some (.slice 3):=by kernel_rfl
theorem u_int:Tryz.prog.underlying 3=some (.int .i64):=by kernel_rfl
theorem c_shift:Tryz.prog.cellsOf 28=5:=by kernel_rfl
theorem c_int:Tryz.prog.cellsOf 3=1:=by kernel_rfl
theorem wf_i64 {x:Int} (h:(Lit.int .i64 x).wf=true):In64 x:=by
 simp only[Lit.wf,Bool.and_eq_true,decide_eq_true_eq] at h
 have h1:(-9223372036854775808:Int)≤x:=h.1
 have h2:x≤(9223372036854775807:Int):=h.2
 exact⟨h1,by omega⟩
theorem len5 {α:Type} : ∀{l:List α},l.length=5 → ∃a b c d e,l = [a,b,c,d,e]
 | [a,b,c,d,e],_=>⟨a,b,c,d,e,rfl⟩
theorem ints_of : ∀(n:Nat) (cs:List Value),cs.length=n*1→(∀i,i<n → ∃p:Int,(cs.drop (i*1)).take 1 = [KI p]) → ∃l:List Int,l.length=n∧cs=l.map KI
 | 0,cs,h,_=>⟨[],rfl,by simpa using h⟩
 | n+1,[],h,_=>by simp at h
 | n+1,c :: cs,h,k=>by
  obtain⟨p,h2⟩:=k 0 (by omega)
  obtain⟨l,h3,h4⟩:=ints_of n cs (by simp at h ⊢;omega) fun i hi=>by
   obtain⟨q,h7⟩:=k (i+1) (by omega)
   exact⟨q,by simpa using h7⟩
  refine⟨p :: l,by simp[h3],?_⟩
  simp at h2;rw[List.map_cons,h2,h4]
section
variable {H:Type} {enc:TypeId×Value→H} {W:World} {held:Bool}
theorem int_of {fuel:Nat} {cs:List Value} {x:DataW H×List MemPlace} (h:DataW.trod enc Tryz.prog W 0 (fun _=>true) held fuel 3 cs=some x) : ∃n:Int,cs = [KI n]:=by
 obtain⟨n,e,_⟩:=DataW.trod_int u_int h
 exact⟨n,e⟩
theorem tell_ints (G:Nat→Option (List Value)) {fuel:Nat} {cs0:List Value} {x:DataW H×List MemPlace} (h:DataW.trod enc Tryz.prog W 0 (fun _=>true) held fuel 29 cs0=some x) :
  ∃(v:Value) (l:List Int),cs0 = [v]∧tellable v=true∧SlOf (IH.start (tellB G W)) 1 (trV v) l.length (l.map KI)∧l.length<9223372036854775808:=by
 obtain⟨v,n,cs,e1,ht,hn,hs,hR⟩:=tell_slice (R:=fun cs => ∃p:Int,cs.map trV = [KI p]) u_ints c_int (by omega) (fun n cs x hx=>by
  obtain⟨i,rfl⟩:=int_of hx
  exact⟨⟨i,rfl⟩,fun y hy=>by rw[List.mem_singleton.1 hy];rfl⟩) G h
 obtain⟨l,h1,h2⟩:=ints_of n (cs.map trV) hs.2.1 fun i hi=>by
  obtain⟨p,e⟩:=hR i hi
  exact⟨p,by rw[←List.map_drop,←List.map_take];exact e⟩
 subst h1
 exact⟨v,l,e1,ht,h2▸hs,Nat.lt_of_le_of_lt hn (by decide)⟩
theorem shift_of {fuel:Nat} {cs:List Value} {x:DataW H×List MemPlace} (h:DataW.trod enc Tryz.prog W 0 (fun _=>true) held fuel 28 cs=some x) :
  ∃a b c d n,cs = [B8 a,B8 b,B8 c,B8 d,KI n]∧(a<256∧b<256∧c<256∧d<256):=by
 obtain⟨xs,m,_,_,hl,hn,hf⟩:=DataW.trod_struct u_shift h
 rw[c_shift] at hl
 have hn2:xs.length=5:=hn
 obtain⟨x0,hx0⟩ : ∃y,xs[0]?=some y:=⟨_,List.getElem?_eq_getElem (by omega)⟩
 have f0:DataW.trod enc Tryz.prog W 0 (fun _=>true) held m 5 ((cs.drop 0).take (Tryz.prog.cellsOf 5))=some x0:=(hf 0 { name := "From",type:=5,offset:=0,embedded:=false,tag := "",pkgPath := "",byteOffset:=0 } rfl).trans hx0
 obtain⟨x1,hx1⟩ : ∃y,xs[1]?=some y:=⟨_,List.getElem?_eq_getElem (by omega)⟩
 have f1:DataW.trod enc Tryz.prog W 0 (fun _=>true) held m 5 ((cs.drop 1).take (Tryz.prog.cellsOf 5))=some x1:=(hf 1 { name := "To",type:=5,offset:=1,embedded:=false,tag := "",pkgPath := "",byteOffset:=1 } rfl).trans hx1
 obtain⟨x2,hx2⟩ : ∃y,xs[2]?=some y:=⟨_,List.getElem?_eq_getElem (by omega)⟩
 have f2:DataW.trod enc Tryz.prog W 0 (fun _=>true) held m 5 ((cs.drop 2).take (Tryz.prog.cellsOf 5))=some x2:=(hf 2 { name := "Many",type:=5,offset:=2,embedded:=false,tag := "",pkgPath := "",byteOffset:=2 } rfl).trans hx2
 obtain⟨x3,hx3⟩ : ∃y,xs[3]?=some y:=⟨_,List.getElem?_eq_getElem (by omega)⟩
 have f3:DataW.trod enc Tryz.prog W 0 (fun _=>true) held m 5 ((cs.drop 3).take (Tryz.prog.cellsOf 5))=some x3:=(hf 3 { name := "At",type:=5,offset:=3,embedded:=false,tag := "",pkgPath := "",byteOffset:=3 } rfl).trans hx3
 obtain⟨x4,hx4⟩ : ∃y,xs[4]?=some y:=⟨_,List.getElem?_eq_getElem (by omega)⟩
 have f4:DataW.trod enc Tryz.prog W 0 (fun _=>true) held m 3 ((cs.drop 4).take (Tryz.prog.cellsOf 3))=some x4:=(hf 4 { name := "N",type:=3,offset:=4,embedded:=false,tag := "",pkgPath := "",byteOffset:=8 } rfl).trans hx4
 rw[c_u8] at f0 f1 f2 f3
 rw[c_int] at f4
 obtain⟨a,b,c,d,e,rfl⟩:=len5 hl
 obtain⟨u0,e0,h0⟩:=trod_nat (m:=255) rfl rfl u_u8 f0
 obtain⟨u1,e1,h1⟩:=trod_nat (m:=255) rfl rfl u_u8 f1
 obtain⟨u2,e2,h2⟩:=trod_nat (m:=255) rfl rfl u_u8 f2
 obtain⟨u3,e3,h3⟩:=trod_nat (m:=255) rfl rfl u_u8 f3
 obtain⟨n,e4⟩:=int_of f4
 cases e0;cases e1;cases e2;cases e3;cases e4
 exact⟨u0,u1,u2,u3,n,rfl,by omega,by omega,by omega,by omega⟩
end
end Go.Proofs.YthpefnfbnaekaaaGreat
namespace Go.Id
open Go
theorem Acc.put_below {h:IH} {n0 sz:Nat} {v:Value} {n:Nat} {cs:List Value} (a:Acc h n0 sz v n cs) {k:Nat} (hk:k<n0) (o:IObj):Acc (h.put k o) n0 sz v n cs:=by
 obtain⟨hz,hl,a|⟨j,fam,rfl,hn,h1,h2,h3,h4⟩⟩:=a
 ·exact⟨hz,hl,.inl a⟩
 ·refine⟨hz,hl,.inr ⟨j,fam,rfl,hn,h1,h2,?_,?_⟩⟩
  ·rw[get_put_old _ _ (by omega)];exact h3
  ·cases fam with
   | none=>trivial
   | some f=>exact h4
theorem SlOf.put_ne {h:IH} {kb n c:Nat} {cs:List Value} (s:SlOf h 1 (.slice (some ⟨2*kb,0,none⟩) n c) n cs) {k:Nat} (hk:k≠kb) (o:IObj):SlOf (h.put k o) 1 (.slice (some ⟨2*kb,0,none⟩) n c) n cs:=by
 obtain⟨hz,hl,⟨h1,_⟩|⟨b,o2,k2,h1,h2⟩⟩:=s
 ·cases h1
 ·cases h1
  refine⟨hz,hl,.inr ⟨_,_,_,rfl,?_⟩⟩
  rcases h2 with h2|⟨a1,a2,row,a3,a4,a5,a6⟩
  ·exact .inl h2
  ·have ek:2*kb / 2=kb:=by omega
   refine .inr ⟨a1,a2,row,?_,?_,a5,a6⟩
   ·rcases a3 with a3|⟨b1,b2,f,b3⟩
    ·exact .inl a3
    ·refine .inr ⟨b1,b2,f,?_⟩
     rw[ek] at b3 ⊢
     rw[get_put_old _ _ (by omega)];exact b3
   ·rw[row_put_old _ _ _ (by omega)];exact a4
def IH.upTo (h:IH) (n:Nat):IH:={ h with n:=n }
theorem ext_upTo {h:IH} {n:Nat} (hn:n≤h.n):Ext (h.upTo n) h:=⟨hn,rfl,fun _ _=>rfl,fun _ _=>rfl⟩
theorem Ext.upTo {a b:IH} (e:Ext a b) {n:Nat} (hn:a.n≤n):Ext a (b.upTo n):=⟨hn,e.base,fun k hk=>e.get k hk,fun k hk=>e.fams k hk⟩
set_option maxHeartbeats 1000000 in
theorem low6_ok {h:IH} {vl:Value} {least:List Int} (n:Nat) (seats:Int) (hn0:0<n) (hn:n≤60) (hs:1≤seats∧seats≤1000) (hl:SlOf h 1 vl least.length (least.map KI)) (ll:least.length≤1000000) :
  WV Proofs.Tryz.prog (.func (.func 77) #[] #[]) [KN n,KI seats,vl] h fun r h'=>Ext h h' ∧ ∃(v:Value) (ok:Bool),r=.tuple #[v,.bool ok]∧(ok=true → ∃low:List Int,low.length=n∧SlOf h' 1 v n (low.map KI)∧(∀x∈low,0≤x∧x≤seats)∧low.sum≤seats):=by
 have L0:=hl.now
 refine enter (nt:=50) (rs:=[.tmp 6,.tmp 7]) Proofs.Tryz.func77 rfl rfl rfl (by simp) ?_
 by_cases c:least = []
 ·subst c
  simp -dsimp (disch:=omega) only[wpS,wpT,Nat.reduceEqDiff,Nat.reduceAdd,ms29,L0.len sl29,Int.ofNat_zero]
  refine⟨(Ext.refl h).new _,_,true,rfl,fun _=>⟨List.replicate n 0,by simp,?_,fun x hx=>?_,?_⟩⟩
  ·rw[←replZ]
   exact built_sl h (by omega) (by rw[replZ];simp) hn0
  ·rw[List.mem_replicate] at hx;omega
  ·have : ∀k:Nat,(List.replicate k (0:Int)).sum=0:=fun k=>by
    induction k with
    | zero=>rfl
    | succ k ih=>rw[List.replicate_succ,List.sum_cons,ih];rfl
   rw[this];omega
 ·have e:((least.length:Int) == 0)=false:=by simpa using c
  simp -dsimp (disch:=omega) only[wpS,Nat.reduceEqDiff,Nat.reduceAdd,L0.len sl29,e]
  refine loop (fun m fr hh => ∃i:Nat,i+m=least.length∧hh=h∧(∀x∈least.take i,0≤x∧x≤seats)∧fget fr 0=some (KN n)∧fget fr 1=some (KI seats)∧fget fr 2=some vl∧fget fr 8=some (KI (least.take i).sum)∧fget fr 9=some (KN i)) least.length ⟨0,by omega,rfl,fun x hx=>by simp at hx,by simp,by simp,by simp,by simp,by simp⟩ ?_
  rintro m fr gg ⟨i,him,rfl,hz,f0,f1,f2,f8,f9⟩
  have sb:=sum_bound (least.take i) fun x hx=>by have:=hz x hx;omega
  have tl:(least.take i).length≤1000000:=by rw[List.length_take];omega
  by_cases ci:i<least.length
  ·obtain⟨x,hx⟩ : ∃n,least[i]?=some n:=⟨_,List.getElem?_eq_getElem ci⟩
   have lP:=L0.ld (P:=Proofs.Tryz.prog) (t:=3) (c:=i) (by simp<;>omega) ag3
   rw[map_get,hx] at lP
   by_cases d1:x<0
   ·simp -dsimp (disch:=omega) only[wpS,wpT,Nat.reduceEqDiff,f2,f9,L0.len sl29,L0.idx es29 ci,lP]
    exact⟨Ext.refl _,_,false,rfl,fun h=>by cases h⟩
   ·by_cases d2:seats<x
    ·simp -dsimp (disch:=omega) only[wpS,wpT,Nat.reduceEqDiff,f1,f2,f9,L0.len sl29,L0.idx es29 ci,lP]
     exact⟨Ext.refl _,_,false,rfl,fun h=>by cases h⟩
    ·have e2:IntKind.i64.wrap ((i:Int)+1)=((i+1:Nat):Int):=by rw[wrap_i64 (by omega)];omega
     have e3:IntKind.i64.wrap ((least.take i).sum+x)=(least.take (i+1)).sum:=by rw[sum_take_succ least hx,wrap_i64 (by omega)]
     simp -dsimp (disch:=omega) only[wpS,wpT,Nat.reduceEqDiff,f1,f2,f8,f9,L0.len sl29,L0.idx es29 ci,lP,e2,e3]
     refine⟨m - 1,by omega,i+1,by omega,rfl,fun y hy=>?_,by simp[f0],by simp[f1],by simp[f2],by simp,by simp⟩
     rw[List.take_add_one,hx] at hy
     simp at hy
     rcases hy with hy|rfl
     ·exact hz y hy
     ·omega
  ·have hin:least.take i=least:=List.take_of_length_le (by omega)
   rw[hin] at hz f8
   by_cases d1:least.length=n
   ·have d2:((least.length:Int) == (n:Int))=true:=by simp;omega
    by_cases d3:least.sum≤seats
    ·simp -dsimp (disch:=omega) only[wpS,wpT,Nat.reduceEqDiff,f0,f1,f2,f8,f9,L0.len sl29,d2]
     exact⟨Ext.refl _,_,true,rfl,fun _=>⟨least,d1,d1▸hl,hz,d3⟩⟩
    ·simp -dsimp (disch:=omega) only[wpS,wpT,Nat.reduceEqDiff,f0,f1,f2,f8,f9,L0.len sl29,d2]
     exact⟨Ext.refl _,_,false,rfl,fun h=>by cases h⟩
   ·have d2:((least.length:Int) == (n:Int))=false:=by simp;omega
    simp -dsimp (disch:=omega) only[wpS,wpT,Nat.reduceEqDiff,f0,f2,f9,L0.len sl29,d2]
    exact⟨Ext.refl _,_,false,rfl,fun h=>by cases h⟩
def Sw7 (h:IH) (r:Value):Prop:=∃(sv tv:Value) (o:Int) (ov:Value) (e:Int) (A:List Int),r=.tuple #[.agg #[sv,tv,KI o,ov],KI e]∧SlOf h 1 sv A.length (A.map KI)∧A.length≤60∧(∀x∈A,0≤x∧x≤1000)∧cellOK tv=true∧tv.cells = #[tv]∧cellOK ov=true∧ov.cells = #[ov]
abbrev gv7 (sv tv:Value) (o:Int) (ov:Value):List Value:=[sv,tv,KI o,ov]
theorem Sw7.none {h:IH} (e:Int):Sw7 h (.tuple #[.agg #[.slice none 0 0,.slice none 0 0,KI 0,.slice none 0 0],KI e]) :=
 ⟨_,_,0,_,e,[],rfl,SlOf.nil _ (by omega),by simp,(fun x hx=>by cases hx),rfl,rfl,rfl,rfl⟩
structure GvS (H0 hh:IH) (fr:Fr) (vp:Value) (people:List Int) (m seats:Int) (k8 b13 kS:Nat) (A:List Int) (left:Int) (ov:Value) (on:Nat) (oc:List Value):Prop where
 e:Ext H0 hh
 lt:k8<b13∧b13<kS∧kS<hh.n
 g8:hh.ext.get k8=some (.cells (gv7 (.slice none 0 0) (.slice none 0 0) 0 (.slice none 0 0)) 0 none)
 g13:hh.ext.get b13=some (.cells (gv7 (blkV kS people.length) (.slice none 0 0) 0 ov) 0 none)
 gS:hh.ext.get kS=some (.cells (A.map KI) 1 none)
 acc:Acc hh (kS+1) 1 ov on oc
 la:A.length=people.length
 pos : ∀x∈A,0≤x
 sum:A.sum+left=seats
 f0:fget fr 0=some vp
 f2:fget fr 2=some (KI m)
 f8:fget fr 8=some (ptr (2*k8) 0)
 f13:fget fr 13=some (ptr (2*b13) 0)
 f14:fget fr 14=some (KI left)
theorem sum_set : ∀(l:List Int) (i:Nat) (d:Int),i<l.length→(l.set i (l.getD i 0+d)).sum=l.sum+d
 | [],i,d,h=>by simp at h
 | a :: l,0,d,_=>by simp[];omega
 | a :: l,i+1,d,h=>by
  have ih:=sum_set l i d (by simpa using h)
  rw[List.getD_cons_succ,List.set_cons_succ,List.sum_cons,ih,List.sum_cons];omega
theorem ld_cell {h:IH} {k o:Nat} {cs:List Value} {e:Nat} {f:Option Nat} {v:Value} (g:h.ext.get k=some (.cells cs e f)) (hv:cs[o]?=some v):load Proofs.Tryz.prog h 29 (ptr (2*k) o)=some v:=by
 rw[load_scal ag29,ld_of (row_of g),hv]
theorem le_sum : ∀(l:List Int),(∀x∈l,0≤x) → ∀x∈l,x≤l.sum
 | [],_,x,hx=>by cases hx
 | a :: l,h,x,hx=>by
  have h1:=sum_nonneg l fun y hy=>h y (List.mem_cons_of_mem _ hy)
  have h2:=h a List.mem_cons_self
  rw[List.sum_cons]
  rcases List.mem_cons.1 hx with rfl|hx
  ·omega
  ·have:=le_sum l (fun y hy=>h y (List.mem_cons_of_mem _ hy)) x hx
   omega
set_option maxHeartbeats 16000000 in
set_option maxRecDepth 20000 in
theorem give7_ok {h:IH} {vp vl:Value} {m seats:Int} {people least:List Int} (hp:SlOf h 1 vp people.length (people.map KI)) (hl:SlOf h 1 vl least.length (least.map KI)) (lp:people.length≤1000000) (ll:least.length≤1000000) :
  WV Proofs.Tryz.prog (.func (.func 35) #[] #[]) [vp,KI seats,KI m,vl] h fun r h'=>Ext h h'∧Sw7 h' r:=by
 refine enter (nt:=162) (rs:=[.cell 8 75,.tmp 9]) Proofs.Tryz.func35 rfl rfl rfl (by simp) ?_
 simp -dsimp (maxSteps:=1000000) (disch:=first|omega|(simp only[new_n,put_n];omega)|decide +kernel|(repeat first|rw[new_n]|rw[put_n])) only[wpS,Nat.reduceEqDiff,Nat.reduceAdd,zc75]
 obtain⟨H0,hH0⟩ : ∃H,H=h.new (.cells (gv7 (.slice none 0 0) (.slice none 0 0) 0 (.slice none 0 0)) 0 none):=⟨_,rfl⟩
 have E0:Ext h H0:=by rw[hH0];exact(Ext.refl h).new _
 have g0:H0.ext.get h.n=some (.cells (gv7 (.slice none 0 0) (.slice none 0 0) 0 (.slice none 0 0)) 0 none):=by rw[hH0];simp (disch:=first|omega|(simp only[new_n,put_n];omega)|(repeat first|rw[new_n]|rw[put_n])) only[get_new_same]
 have n0:H0.n=h.n+1:=by rw[hH0];simp
 rw[←hH0]
 clear hH0
 have hp0:=hp.keep E0.keep
 have hl0:=hl.keep E0.keep
 refine call (check6_ok hp0 lp) ?_
 rintro _ k0 ⟨hk,rfl⟩
 rw[hk]
 clear hk k0
 by_cases c1:quotaOK people=true
 ·rw[if_pos c1]
  obtain⟨q1,q2,q3⟩:=quotaOK_iff.1 c1
  by_cases c2:seats<1
  ·simp -dsimp (maxSteps:=1000000) (disch:=first|omega|(simp only[new_n,put_n];omega)|decide +kernel|(repeat first|rw[new_n]|rw[put_n])) only[wpS,wpT,Nat.reduceEqDiff,Nat.reduceLeDiff,Nat.reduceAdd,bv75,st75,ld75,g0]
   exact⟨E0.put (by omega) _,Sw7.none 2⟩
  ·by_cases c3:1000<seats
   ·simp -dsimp (maxSteps:=1000000) (disch:=first|omega|(simp only[new_n,put_n];omega)|decide +kernel|(repeat first|rw[new_n]|rw[put_n])) only[wpS,wpT,Nat.reduceEqDiff,Nat.reduceLeDiff,Nat.reduceAdd,bv75,st75,ld75,g0]
    exact⟨E0.put (by omega) _,Sw7.none 2⟩
   ·simp -dsimp (maxSteps:=1000000) (disch:=first|omega|(simp only[new_n,put_n];omega)|decide +kernel|(repeat first|rw[new_n]|rw[put_n])) only[wpS,wpT,Nat.reduceEqDiff]
    refine call (known7_ok m) ?_
    rintro _ k0 ⟨hk,rfl⟩
    rw[hk]
    clear hk k0
    rw[inR1]
    by_cases c4:11≤m∧m≤15
    ·rw[decide_eq_true c4]
     have n1:0<people.length:=by
      cases people with
      | nil=>simp at q3
      | cons a l=>simp
     simp -dsimp (maxSteps:=1000000) (disch:=first|omega|(simp only[new_n,put_n];omega)|decide +kernel|(repeat first|rw[new_n]|rw[put_n])) only[wpS,wpT,Nat.reduceEqDiff,hp0.now.len sl29]
     refine call (low6_ok people.length seats n1 q1 ⟨by omega,by omega⟩ hl0 ll) ?_
     rintro _ h1 ⟨X1,v,ok,rfl,hok⟩
     have m1:=X1.n
     have k8:=X1.kept (by omega) g0
     cases ok with
     | false =>
      simp -dsimp (maxSteps:=1000000) (disch:=first|omega|(simp only[new_n,put_n];omega)|decide +kernel|(repeat first|rw[new_n]|rw[put_n])) only[wpS,wpT,Nat.reduceEqDiff,Nat.reduceLeDiff,Nat.reduceAdd,Nat.reduceMul,zc75,bv75,st75,bs29,ld75,k8]
      exact⟨(E0.trans X1).put (by omega) _,Sw7.none 2⟩
     | true =>
      obtain⟨low,ll2,sv,lr,lsum⟩:=hok rfl
      have H2:Ext h1 ((h1.new (.cells (gv7 (.slice none 0 0) (.slice none 0 0) 0 (.slice none 0 0)) 0 none)).new (.cells [] 1 none)):=((Ext.refl h1).new _).new _
      have hs2:=(sv.keep H2.keep).now
      simp -dsimp (maxSteps:=1000000) (disch:=first|omega|(simp only[new_n,put_n];omega)|decide +kernel|(repeat first|rw[new_n]|rw[put_n])) only[wpS,wpT,Nat.reduceEqDiff,Nat.reduceLeDiff,Nat.reduceAdd,Nat.reduceMul,zc75,bs29,fa75_0,fa33_0,st29,ba29_29,append_zero ap29 _ hs2 n1 (all_map low) (by omega)]
      obtain⟨H3,hH3,n3,E3,gb,gS⟩ : ∃H3,H3=((((h1.new (.cells (gv7 (.slice none 0 0) (.slice none 0 0) 0 (.slice none 0 0)) 0 none)).new (.cells [] 1 none)).new (.cells (low.map KI) 1 none)).put h1.n (.cells (gv7 (blkV (h1.n+1+1) people.length) (.slice none 0 0) 0 (.slice none 0 0)) 0 none))∧H3.n=h1.n+3∧Ext h1 H3∧H3.ext.get h1.n=some (.cells (gv7 (blkV (h1.n+1+1) people.length) (.slice none 0 0) 0 (.slice none 0 0)) 0 none)∧H3.ext.get (h1.n+1+1)=some (.cells (low.map KI) 1 none) :=
       ⟨_,rfl,rfl,((((Ext.refl h1).new _).new _).new _).put (by omega) _,by simp (disch:=first|omega|(simp only[new_n,put_n];omega)|(repeat first|rw[new_n]|rw[put_n])) only[get_put_same],by simp (disch:=first|omega|(simp only[new_n,put_n];omega)|(repeat first|rw[new_n]|rw[put_n])) only[get_new_same,get_put_old]⟩
      rw[←hH3]
      clear hH3
      have EE3:Ext H0 H3:=X1.trans E3
      refine loop (fun mm fr hh => ∃i:Nat,i+mm=low.length∧hh=H3∧fget fr 0=some vp∧fget fr 2=some (KI m)∧fget fr 8=some (ptr (2*h.n) 0)∧fget fr 11=some v∧fget fr 13=some (ptr (2*h1.n) 0)∧fget fr 14=some (KI (seats - (low.take i).sum))∧fget fr 15=some (KN i)) low.length ⟨0,by omega,rfl,by simp,by simp,by simp,by simp,by simp,by simp,by simp⟩ ?_
      rintro mm fr gg ⟨i,him,hge,f0,f2,f8,f11,f13,f14,f15⟩
      rw[hge]
      clear hge gg
      have L0:=(sv.keep E3.keep).now
      by_cases ci:i<low.length
      ·obtain⟨x,hx⟩ : ∃n,low[i]?=some n:=⟨_,List.getElem?_eq_getElem ci⟩
       have lP:=L0.ld (P:=Proofs.Tryz.prog) (t:=3) (c:=i) (by simp<;>omega) ag3
       rw[map_get,hx] at lP
       have hi9:i<people.length:=by omega
       have hxb:=lr x (List.mem_of_getElem? hx)
       have sb:=sum_bound (low.take i) fun y hy=>by have:=lr y (List.mem_of_mem_take hy);omega
       have tl:(low.take i).length≤60:=by rw[List.length_take];omega
       have e2:IntKind.i64.wrap ((i:Int)+1)=((i+1:Nat):Int):=by rw[wrap_i64 (by omega)];omega
       have e3:IntKind.i64.wrap (seats - (low.take i).sum - x)=seats - (low.take (i+1)).sum:=by rw[sum_take_succ low hx,wrap_i64 (by omega)];omega
       simp -dsimp (maxSteps:=1000000) (disch:=first|omega|(simp only[new_n,put_n];omega)|decide +kernel|(repeat first|rw[new_n]|rw[put_n])) only[wpS,wpT,Nat.reduceEqDiff,f11,f14,f15,L0.len sl29,L0.idx es29 hi9,lP,e2,e3]
       exact⟨mm - 1,by omega,i+1,by omega,rfl,by simp[f0],by simp[f2],by simp[f8],by simp[f11],by simp[f13],by simp,by simp⟩
      ·have hin:low.take i=low:=List.take_of_length_le (by omega)
       rw[hin] at f14
       simp -dsimp (maxSteps:=1000000) (disch:=first|omega|(simp only[new_n,put_n];omega)|decide +kernel|(repeat first|rw[new_n]|rw[put_n])) only[wpS,wpT,Nat.reduceEqDiff,f11,f15,L0.len sl29]
       obtain⟨k1,hk1⟩ : ∃k,k=h1.n:=⟨_,rfl⟩
       obtain⟨k2,hk2⟩ : ∃k,k=h1.n+1+1:=⟨_,rfl⟩
       have f13':=f13
       rw[←hk1] at f13'
       refine loop (fun mm fr hh => ∃(A:List Int) (ov:Value) (on:Nat) (oc:List Value),(on:Int)+mm≤1000∧GvS H0 hh fr vp people m seats h.n k1 k2 A (mm:Int) ov on oc) (seats - low.sum).toNat
        ⟨low,.slice none 0 0,0,[],by have:=sum_nonneg low fun y hy=>(lr y hy).1;omega,⟨EE3,⟨by omega,by omega,by omega⟩,E3.kept (by omega) k8,by rw[hk1,hk2];exact gb,by rw[hk2];exact gS,Acc.nil _ _ (by omega),ll2,fun y hy=>(lr y hy).1,by omega,by simp[f0],by simp[f2],by simp[f8],by simp[f13'],by rw[Int.toNat_of_nonneg (by omega)];simp[f14]⟩⟩ ?_
       clear f0 f2 f8 f11 f13 f14 f15 f13' L0 gb gS
       rintro mm fr hh ⟨A,ov,on,oc,hon,S⟩
       obtain⟨SE,⟨lt1,lt2,lt3⟩,Sg8,Sg13,SgS,Sacc,Sla,Spos,Ssum,f0,f2,f8,f13,f14⟩:=S
       have SEn:=SE.n
       by_cases cm:0<mm
       ·simp -dsimp (maxSteps:=1000000) (disch:=first|omega|(simp only[new_n,put_n];omega)|decide +kernel|(repeat first|rw[new_n]|rw[put_n])) only[wpS,wpT,Nat.reduceEqDiff,f14]
        refine loop (fun m2 fr g => ∃(i:Nat) (bv:Value) (B:List Nat),i+m2=people.length∧Ext hh g∧Acc g hh.n 1 bv B.length (B.map KN)∧(∀x∈B,x<people.length)∧((∃j,j<i∧people.getD j 0≠0)→B ≠ [])∧B.length≤i∧fget fr 0=some vp∧fget fr 2=some (KI m)∧fget fr 8=some (ptr (2*h.n) 0)∧fget fr 13=some (ptr (2*k1) 0)∧fget fr 14=some (KI mm)∧fget fr 16=some bv∧fget fr 17=some (KN i)) people.length
         ⟨0,.slice none 0 0,[],by omega,Ext.refl _,Acc.nil _ _ (by omega),(fun x hx=>by cases hx),(fun⟨j,hj,_⟩=>absurd hj (by omega)),by simp,by simp[f0],by simp[f2],by simp[f8],by simp[f13],by simp[f14],by simp,by simp⟩ ?_
        rintro m2 fr g ⟨i,bv,B,him2,Eg,BA,Bl,Bn,Bi,f0,f2,f8,f13,f14,f16,f17⟩
        have Egn:=Eg.n
        have P0:=(hp0.keep (SE.trans Eg).keep).now
        have b13:=Eg.kept (by omega) Sg13
        have bS:=Eg.kept (by omega) SgS
        by_cases ci:i<people.length
        ·have lP:=P0.ld (P:=Proofs.Tryz.prog) (t:=3) (c:=i) (by simp<;>omega) ag3
         rw[map_get,at_getD ci] at lP
         obtain⟨p,hpp⟩ : ∃p,p=people.getD i 0:=⟨_,rfl⟩
         rw[←hpp] at lP
         have e2:IntKind.i64.wrap ((i:Int)+1)=((i+1:Nat):Int):=by rw[wrap_i64 (by omega)];omega
         by_cases cp:p=0
         ·have dp:(p == 0)=true:=by simpa using cp
          simp -dsimp (maxSteps:=1000000) (disch:=first|omega|(simp only[new_n,put_n];omega)|decide +kernel|(repeat first|rw[new_n]|rw[put_n])) only[wpS,wpT,Nat.reduceEqDiff,f0,f17,P0.len sl29,P0.idx es29 ci,lP,dp,e2]
          refine⟨m2 - 1,by omega,i+1,bv,B,by omega,Eg,BA,Bl,?_,by omega,by simp[f0],by simp[f2],by simp[f8],by simp[f13],by simp[f14],by simp[f16],by simp⟩
          rintro⟨j,hj,hj2⟩
          refine Bn ⟨j,?_,hj2⟩
          rcases Nat.lt_or_ge j i with h9|h9
          ·exact h9
          ·rw[show j=i from by omega,←hpp] at hj2;exact absurd cp hj2
         ·have dp:(p == 0)=false:=by simpa using cp
          have BN:=BA.sl.now
          simp -dsimp (maxSteps:=1000000) (disch:=first|omega|(simp only[new_n,put_n];omega)|decide +kernel|(repeat first|rw[new_n]|rw[put_n])) only[wpS,wpT,Nat.reduceEqDiff,f0,f16,f17,P0.len sl29,P0.idx es29 ci,lP,dp,BN.len sl29]
          refine bq_cut (fun fr2 g2 => ∃c:Int,(B = []→c=1)∧Ext g g2∧fget fr2 0=some vp∧fget fr2 2=some (KI m)∧fget fr2 8=some (ptr (2*h.n) 0)∧fget fr2 13=some (ptr (2*k1) 0)∧fget fr2 14=some (KI mm)∧fget fr2 16=some bv∧fget fr2 17=some (KN i)∧fget fr2 18=some (KI c)) (fun hc=>?_) (fun hc=>?_) ?_
          ·have B0:0<B.length:=by simpa [List.length_pos_iff] using hc
           obtain⟨b0,hb0⟩ : ∃b,B[0]?=some b:=⟨_,List.getElem?_eq_getElem B0⟩
           have bl0:=Bl b0 (List.mem_of_getElem? hb0)
           have lB:=BN.ld (P:=Proofs.Tryz.prog) (t:=3) (c:=0) (by simp<;>omega) ag3
           rw[List.getElem?_map,hb0] at lB
           have ix:indexAddr Proofs.Tryz.prog 29 bv (.int .i64 0)=some (elemAddr bv 0):=by
            have:=BN.idx (P:=Proofs.Tryz.prog) (t:=29) es29 (k:=.i64) (j:=0) B0
            simpa using this
           have lQ:=P0.ld (P:=Proofs.Tryz.prog) (t:=3) (c:=b0) (by simp<;>omega) ag3
           rw[map_get,at_getD bl0] at lQ
           have S0:=blk_now (n:=people.length) bS (by rw[List.length_map];exact Sla)
           have lSi:=S0.ld (P:=Proofs.Tryz.prog) (t:=3) (c:=i) (by simp<;>omega) ag3
           have lSb:=S0.ld (P:=Proofs.Tryz.prog) (t:=3) (c:=b0) (by simp<;>omega) ag3
           rw[map_get,at_getD (by omega)] at lSi lSb
           simp -dsimp (maxSteps:=1000000) (disch:=first|omega|(simp only[new_n,put_n];omega)|decide +kernel|(repeat first|rw[new_n]|rw[put_n])) only[wpS,wpT,Nat.reduceEqDiff,fa75_0,fa33_0,ld29,f0,f2,f13,f16,f17,ix,lB,row_of b13,P0.idx es29 ci,P0.idx es29 bl0,S0.idx es29 ci,S0.idx es29 bl0,lP,lQ,lSi,lSb]
           refine call (above7_ok m p (A.getD i 0) (people.getD b0 0) (A.getD b0 0)) ?_
           rintro _ g3 ⟨X3,rfl⟩
           rw[above_val]
           simp -dsimp (maxSteps:=1000000) (disch:=first|omega|(simp only[new_n,put_n];omega)|decide +kernel|(repeat first|rw[new_n]|rw[put_n])) only[wpS,Nat.reduceEqDiff]
           exact⟨aboveN m p (A.getD i 0) (people.getD b0 0) (A.getD b0 0),fun h9=>absurd B0 (by rw[h9];simp),X3,by simp[f0],by simp[f2],by simp[f8],by simp[f13],by simp[f14],by simp[f16],by simp[f17],by simp⟩
          ·have B0:B = []:=by simpa using hc
           simp -dsimp (maxSteps:=1000000) (disch:=first|omega|(simp only[new_n,put_n];omega)|decide +kernel|(repeat first|rw[new_n]|rw[put_n])) only[wpS]
           exact⟨1,fun _=>rfl,Ext.refl _,by simp[f0],by simp[f2],by simp[f8],by simp[f13],by simp[f14],by simp[f16],by simp[f17],by simp⟩
          ·rintro fr2 g2 ⟨c,hcB,E2,f0,f2,f8,f13,f14,f16,f17,f18⟩
           have E2n:=E2.n
           by_cases d1:0<c
           ·obtain⟨v',h5,hap,A5,G5,E5⟩:=(Acc.nil g2 hh.n (sz:=1) (by omega)).app1 (P:=Proofs.Tryz.prog) (t:=29) ap29 (x:=KN i) rfl (by omega) (by omega) (Eg.trans E2) (Nat.le_refl _)
            simp -dsimp (maxSteps:=1000000) (disch:=first|omega|(simp only[new_n,put_n];omega)|decide +kernel|(repeat first|rw[new_n]|rw[put_n])) only[wpS,wpT,Nat.reduceEqDiff,Nat.reduceLeDiff,Nat.reduceAdd,bs29,ba29_29,f16,f17,f18,hap,e2]
            exact⟨m2 - 1,by omega,i+1,v',[i],by omega,E5,A5,fun x hx=>by simp at hx;omega,fun _=>by simp,by simp,by simp[f0],by simp[f2],by simp[f8],by simp[f13],by simp[f14],by simp,by simp⟩
           ·by_cases d2:0≤c
            ·obtain⟨v',h5,hap,A5,G5,E5⟩:=(BA.ext E2).app1 (P:=Proofs.Tryz.prog) (t:=29) ap29 (x:=KN i) rfl (by omega) (by omega) (Eg.trans E2) (Nat.le_refl _)
             simp -dsimp (maxSteps:=1000000) (disch:=first|omega|(simp only[new_n,put_n];omega)|decide +kernel|(repeat first|rw[new_n]|rw[put_n])) only[wpS,wpT,Nat.reduceEqDiff,Nat.reduceLeDiff,Nat.reduceAdd,bs29,ba29_29,f16,f17,f18,hap,e2]
             refine⟨m2 - 1,by omega,i+1,v',B ++ [i],by omega,E5,?_,fun x hx=>?_,fun _=>by simp,by simp;omega,by simp[f0],by simp[f2],by simp[f8],by simp[f13],by simp[f14],by simp,by simp⟩
             ·rw[List.length_append,List.map_append];exact A5
             ·rcases List.mem_append.1 hx with hx|hx
              ·exact Bl x hx
              ·simp at hx;omega
            ·have B0:B ≠ []:=fun h9=>by have:=hcB h9;omega
             simp -dsimp (maxSteps:=1000000) (disch:=first|omega|(simp only[new_n,put_n];omega)|decide +kernel|(repeat first|rw[new_n]|rw[put_n])) only[wpS,wpT,Nat.reduceEqDiff,f17,f18,e2]
             exact⟨m2 - 1,by omega,i+1,bv,B,by omega,Eg.trans E2,BA.ext E2,Bl,fun _=>B0,by omega,by simp[f0],by simp[f2],by simp[f8],by simp[f13],by simp[f14],by simp[f16],by simp⟩
        ·have hin:i=people.length:=by omega
         have B0:B ≠ []:=by
          obtain⟨x,hx,hx0⟩:=pos_of_sum people (by have:=sum_nonneg people (fun y hy=>(q2 y hy).1);omega)
          obtain⟨j,hj⟩:=List.getElem?_of_mem hx
          have jl:=(List.getElem?_eq_some_iff.1 hj).1
          exact Bn ⟨j,by omega,by rw[List.getD_eq_getElem?_getD,hj];simp;omega⟩
         have Bp:0<B.length:=List.length_pos_iff.2 B0
         have BN:=BA.sl.now
         have b8:=Eg.kept (by omega) Sg8
         have bc1:=BA.sl.cells
         have bc2:=BA.sl.cok
         have oc1:=Sacc.sl.cells
         have oc2:=Sacc.sl.cok
         by_cases cl:mm<B.length
         ·simp -dsimp (maxSteps:=1000000) (disch:=first|omega|(simp only[new_n,put_n];omega)|decide +kernel|(repeat first|rw[new_n]|rw[put_n])) only[wpS,wpT,Nat.reduceEqDiff,Nat.reduceLeDiff,Nat.reduceAdd,st75,fa75_0,st29,fa33_1,fa33_2,st3,ld75,f0,f8,f13,f14,f16,f17,P0.len sl29,BN.len sl29,b13,b8,bc1,bc2,oc2,tk4']
          have gS2:=Eg.kept (by omega) SgS
          refine⟨(((E0.trans (SE.trans Eg)).put (by omega) _).put (by omega) _).put (by omega) _,_,_,_,_,0,A,rfl,?_,by omega,fun x hx=>⟨Spos x hx,?_⟩,bc2,bc1,oc2,oc1⟩
          ·rw[Sla]
           exact(((blk_sl gS2 (by omega) (by rw[List.length_map];exact Sla) n1).put_ne (by omega) _).put_ne (by omega) _).put_ne (by omega) _
          ·have:=le_sum A Spos x hx;omega
         ·obtain⟨kb,hkb,hkb1,hkb2⟩ : ∃kb,bv=blkV kb B.length∧hh.n≤kb∧kb<g.n:=by
           obtain⟨hz,hl9,⟨_,h9⟩|⟨kb,fam,h1,_,h2,h3,_⟩⟩:=BA
           ·omega
           ·exact⟨kb,h1,h2,h3⟩
          have BS:=BA.sl
          simp -dsimp (maxSteps:=1000000) (disch:=first|omega|(simp only[new_n,put_n];omega)|decide +kernel|(repeat first|rw[new_n]|rw[put_n])) only[wpS,wpT,Nat.reduceEqDiff,f0,f14,f16,f17,P0.len sl29,BN.len sl29]
          rw[hkb] at BS
          have gS2:=Eg.kept (by omega) SgS
          have Sacc2:=Sacc.ext Eg
          refine loop (fun m3 fr g3 => ∃(j:Nat) (A3:List Int) (ov3:Value) (on3:Nat) (oc3:List Value),j+m3=B.length∧Ext H0 g3∧g.n≤g3.n∧g3.ext.get h.n=some (.cells (gv7 (.slice none 0 0) (.slice none 0 0) 0 (.slice none 0 0)) 0 none)∧g3.ext.get k1=some (.cells (gv7 (blkV k2 people.length) (.slice none 0 0) 0 ov3) 0 none)∧g3.ext.get k2=some (.cells (A3.map KI) 1 none)∧Acc g3 (k2+1) 1 ov3 on3 oc3∧A3.length=people.length∧(∀x∈A3,0≤x)∧A3.sum=A.sum+j∧on3≤on+j∧SlOf g3 1 (blkV kb B.length) B.length (B.map KN)∧fget fr 0=some vp∧fget fr 2=some (KI m)∧fget fr 8=some (ptr (2*h.n) 0)∧fget fr 13=some (ptr (2*k1) 0)∧fget fr 14=some (KI mm)∧fget fr 16=some (blkV kb B.length)∧fget fr 20=some (KN j)) B.length
           ⟨0,A,ov,on,oc,by omega,SE.trans Eg,Nat.le_refl _,b8,b13,gS2,Sacc2,Sla,Spos,by omega,by omega,BS,by simp[f0],by simp[f2],by simp[f8],by simp[f13],by simp[f14],by rw[←hkb];simp[f16],by simp⟩ ?_
          clear f0 f2 f8 f13 f14 f16 f17 Sacc2 BS oc1 oc2 bc1 bc2 BN BA Sacc
          rintro m3 fr g3 ⟨j,A3,ov3,on3,oc3,hj3,T1,T2,T8,T13,TS,Tacc,Tla,Tpos,Tsum,Ton,TB,f0,f2,f8,f13,f14,f16,f20⟩
          have TBn:=TB.now
          by_cases cj:j<B.length
          ·obtain⟨x,hx⟩ : ∃x,B[j]?=some x:=⟨_,List.getElem?_eq_getElem cj⟩
           have xl:=Bl x (List.mem_of_getElem? hx)
           have lB:=TBn.ld (P:=Proofs.Tryz.prog) (t:=3) (c:=j) (by rw[List.length_map];omega) ag3
           rw[List.getElem?_map,hx] at lB
           have S0:=blk_now (n:=people.length) TS (by rw[List.length_map];exact Tla)
           have lS:=S0.ld (P:=Proofs.Tryz.prog) (t:=3) (c:=x) (by rw[List.length_map];omega) ag3
           rw[map_get,at_getD (by omega)] at lS
           have ax:elemAddr (blkV k2 people.length) x=ptr (2*k2) x:=by simp[elemAddr]
           rw[ax] at lS
           have xs:=le_sum A3 Tpos _ (List.mem_of_getElem? (at_getD (l:=A3) (i:=x) (by omega)))
           have x0:=Tpos _ (List.mem_of_getElem? (at_getD (l:=A3) (i:=x) (by omega)))
           have w1:IntKind.i64.wrap (A3.getD x 0+1)=A3.getD x 0+1:=by rw[wrap_i64 (by omega)]
           have s1:IH.splice (A3.map KI) x [.int .i64 (A3.getD x 0+1)]=(A3.set x (A3.getD x 0+1)).map KI:=by rw[splice_set (by rw[List.length_map];omega),map_set']
           have e2:IntKind.i64.wrap ((j:Int)+1)=((j+1:Nat):Int):=by rw[wrap_i64 (by omega)];omega
           simp -dsimp (maxSteps:=1000000) (disch:=first|omega|(simp only[new_n,put_n];omega)|decide +kernel|(repeat first|rw[new_n]|rw[put_n])) only[wpS,wpT,Nat.reduceEqDiff,fa75_0,fa33_0,ld29,st3,f13,f16,f20,row_of T13,TBn.len sl29,TBn.idx es29 cj,S0.idx es29 xl,ax,lB,lS,w1,TS,List.length_map,s1]
           obtain⟨g4,hg4⟩ : ∃g4,g4=g3.put k2 (.cells ((A3.set x (A3.getD x 0+1)).map KI) 1 none):=⟨_,rfl⟩
           have n4:g4.n=g3.n:=by rw[hg4];rfl
           have U2:g4.ext.get k2=some (.cells ((A3.set x (A3.getD x 0+1)).map KI) 1 none):=by rw[hg4];exact get_put_same _ _ rfl
           have U8:g4.ext.get h.n=some (.cells (gv7 (.slice none 0 0) (.slice none 0 0) 0 (.slice none 0 0)) 0 none):=by rw[hg4,get_put_old _ _ (by omega)];exact T8
           have U13:g4.ext.get k1=some (.cells (gv7 (blkV k2 people.length) (.slice none 0 0) 0 ov3) 0 none):=by rw[hg4,get_put_old _ _ (by omega)];exact T13
           have UE:Ext H0 g4:=by rw[hg4];exact T1.put (by omega) _
           have UA:Acc g4 (k2+1) 1 ov3 on3 oc3:=by rw[hg4];exact Tacc.put_below (by omega) _
           have UB:SlOf g4 1 (blkV kb B.length) B.length (B.map KN):=by rw[hg4];exact TB.put_ne (by omega) _
           rw[←hg4]
           clear hg4
           have cE:Ext (g4.upTo (k2+1)) g4:=ext_upTo (by omega)
           obtain⟨v',h5,hap,A5,G5,E5⟩:=UA.app1 (P:=Proofs.Tryz.prog) (t:=29) ap29 (x:=KN x) rfl (by omega) (by omega) cE (Nat.le_refl _)
           have E5n:=G5.n
           have r1:h5.ext.get k1=some (.cells (gv7 (blkV k2 people.length) (.slice none 0 0) 0 ov3) 0 none):=(E5.get k1 (show k1<k2+1 by omega)).trans U13
           have r2:h5.ext.get k2=some (.cells ((A3.set x (A3.getD x 0+1)).map KI) 1 none):=(E5.get k2 (show k2<k2+1 by omega)).trans U2
           have r8:h5.ext.get h.n=some (.cells (gv7 (.slice none 0 0) (.slice none 0 0) 0 (.slice none 0 0)) 0 none):=(E5.get h.n (show h.n<k2+1 by omega)).trans U8
           have EE5:Ext H0 h5:=(UE.upTo (by omega)).trans E5
           have vc1:=A5.sl.cells
           have vc2:=A5.sl.cok
           have UBn:=UB.now
           have lB4:=UBn.ld (P:=Proofs.Tryz.prog) (t:=3) (c:=j) (by rw[List.length_map];omega) ag3
           rw[List.getElem?_map,hx] at lB4
           have NN:Ext g4 (g4.new (.cells [KN x] 1 none)):=(Ext.refl g4).new _
           have lB5:=(UB.keep NN.keep).now.ld (P:=Proofs.Tryz.prog) (t:=3) (c:=j) (by rw[List.length_map];omega) ag3
           rw[List.getElem?_map,hx] at lB5
           refine drawn [(1,[7]),(5,[7])] (by kernel_rfl) (by kernel_rfl) rfl ?_
           simp -dsimp (maxSteps:=1000000) (disch:=first|omega|(simp only[new_n,put_n];omega)|decide +kernel|(repeat first|rw[new_n]|rw[put_n])) only[wpS,wpT,Nat.reduceEqDiff,Nat.reduceLeDiff,Nat.reduceAdd,bs29,st29,ld29,fa75_1,ba29_29,f13,f16,f20,row_of U13,UBn.idx es29 cj,lB4,hap,r1,vc1,vc2]
           refine⟨wpSteady_c2 (wpSteady_one rfl rfl rfl rfl (steady_load (av:=ptr (2*k1) 3) (v:=ov3) (by simp) (ld_cell U13 rfl) (ld_cell (NN.kept (by omega) U13) rfl))) (wpSteady_one rfl rfl rfl rfl (steady_load (av:=elemAddr (blkV kb B.length) j) (v:=KN x) (by simp) lB4 lB5)),?_⟩
           simp -dsimp (maxSteps:=1000000) (disch:=first|omega|(simp only[new_n,put_n];omega)|decide +kernel|(repeat first|rw[new_n]|rw[put_n])) only[wpS,wpT,Nat.reduceEqDiff,Nat.reduceAdd,f20,e2]
           have sm:=sum_set A3 x 1 (by omega)
           refine⟨m3 - 1,by omega,j+1,A3.set x (A3.getD x 0+1),v',on3+1,_,by omega,EE5.put (by omega) _,by simp;omega,by rw[get_put_old _ _ (by omega)];exact r8,get_put_same _ _ rfl,by rw[get_put_old _ _ (by omega)];exact r2,A5.put_below (by omega) _,by rw[List.length_set];exact Tla,fun y hy=>?_,by omega,by omega,UB.keep (G5.keep.trans ((Keep.refl h5).put r1 _)),by simp[f0],by simp[f2],by simp[f8],by simp[f13],by simp[f14],by simp[f16],by simp⟩
           rcases List.mem_or_eq_of_mem_set hy with hy|rfl
           ·exact Tpos y hy
           ·omega
          ·have e5:IntKind.i64.wrap ((mm:Int) - (B.length:Int))=((mm - B.length:Nat):Int):=by rw[wrap_i64 (by omega)];omega
           simp -dsimp (maxSteps:=1000000) (disch:=first|omega|(simp only[new_n,put_n];omega)|decide +kernel|(repeat first|rw[new_n]|rw[put_n])) only[wpS,wpT,Nat.reduceEqDiff,f14,f16,f20,TBn.len sl29,e5]
           exact⟨mm - B.length,by omega,A3,ov3,on3,oc3,by omega,⟨T1,⟨by omega,by omega,by omega⟩,T8,T13,TS,Tacc,Tla,Tpos,by omega,by simp[f0],by simp[f2],by simp[f8],by simp[f13],by simp⟩⟩
       ·have oc1:=Sacc.sl.cells
        have oc2:=Sacc.sl.cok
        simp -dsimp (maxSteps:=1000000) (disch:=first|omega|(simp only[new_n,put_n];omega)|decide +kernel|(repeat first|rw[new_n]|rw[put_n])) only[wpS,wpT,Nat.reduceEqDiff,Nat.reduceLeDiff,Nat.reduceAdd,st75,ld75,f14,f8,f13,row_of Sg13,Sg8,oc2,tk4']
        refine⟨(E0.trans SE).put (by omega) _,_,_,0,_,0,A,rfl,?_,by omega,fun x hx=>⟨Spos x hx,?_⟩,rfl,rfl,oc2,oc1⟩
        ·rw[Sla]
         exact(blk_sl SgS (by omega) (by rw[List.length_map];exact Sla) n1).put_ne (by omega) _
        ·have:=le_sum A Spos x hx;omega
    ·rw[decide_eq_false c4]
     simp -dsimp (maxSteps:=1000000) (disch:=first|omega|(simp only[new_n,put_n];omega)|decide +kernel|(repeat first|rw[new_n]|rw[put_n])) only[wpS,wpT,Nat.reduceEqDiff,Nat.reduceLeDiff,Nat.reduceAdd,bv75,st75,ld75,g0]
     exact⟨E0.put (by omega) _,Sw7.none 2⟩
 ·rw[if_neg c1]
  simp -dsimp (maxSteps:=1000000) (disch:=first|omega|(simp only[new_n,put_n];omega)|decide +kernel|(repeat first|rw[new_n]|rw[put_n])) only[wpS,wpT,Nat.reduceEqDiff,Nat.reduceLeDiff,Nat.reduceAdd,bv75,st75,ld75,g0]
  exact⟨E0.put (by omega) _,Sw7.none 60⟩
def AwardV (h:IH) (w:Value) (A:List Int):Prop:=∃(sv tv:Value) (o:Int),w=.agg #[sv,tv,KI o]∧SlOf h 1 sv A.length (A.map KI)∧A.length≤60∧(∀x∈A,0≤x∧x≤1000)∧cellOK tv=true∧tv.cells = #[tv]
theorem tk34 (a b c d:Value):List.take 3 (List.drop 0 [a,b,c,d]) = [a,b,c]:=rfl
set_option maxHeartbeats 2000000 in
theorem Give7_ok {h:IH} {vp vl:Value} {m seats:Int} {people least:List Int} (hp:SlOf h 1 vp people.length (people.map KI)) (hl:SlOf h 1 vl least.length (least.map KI)) (lp:people.length≤1000000) (ll:least.length≤1000000) :
  WV Proofs.Tryz.prog (.func (.func 11) #[] #[]) [vp,KI seats,KI m,vl] h fun r h'=>Ext h h' ∧ ∃w e A,r=.tuple #[w,KI e]∧AwardV h' w A:=by
 refine enter (nt:=23) (rs:=[.cell 8 33,.tmp 9]) Proofs.Tryz.func11 rfl rfl rfl (by simp) ?_
 simp -dsimp (disch:=omega) only[wpS,Nat.reduceEqDiff,Nat.reduceAdd,zc33]
 obtain⟨H0,hH0⟩ : ∃H,H=h.new (.cells [.slice none 0 0,.slice none 0 0,KI 0] 0 none):=⟨_,rfl⟩
 have E0:Ext h H0:=by rw[hH0];exact(Ext.refl h).new _
 have g0:H0.ext.get h.n=some (.cells [.slice none 0 0,.slice none 0 0,KI 0] 0 none):=by rw[hH0];simp (disch:=first|omega|(simp only[new_n,put_n];omega)|(repeat first|rw[new_n]|rw[put_n])) only[get_new_same]
 have n0:H0.n=h.n+1:=by rw[hH0];simp
 rw[←hH0]
 clear hH0
 refine call (give7_ok (hp.keep E0.keep) (hl.keep E0.keep) lp ll) ?_
 rintro r h1 ⟨X1,sv,tv,o,ov,e,A,rfl,sA,lA,rA,t1,t2,o1,o2⟩
 have m1:=X1.n
 have k0:=X1.kept (by omega) g0
 have s1:=sA.cells
 have s2:=sA.cok
 simp -dsimp (disch:=omega) only[wpS,wpT,Nat.reduceEqDiff,Nat.reduceLeDiff,Nat.reduceAdd,zc75,st75,fa75_0,ld33,st33,t1,o1,s2,tk34,k0,tk3']
 have EE:Ext h1 ((h1.new (.cells [.slice none 0 0,.slice none 0 0,KI 0,.slice none 0 0] 0 none)).put h1.n (.cells [sv,tv,KI o,ov] 0 none)):=((Ext.refl h1).new _).put (by omega) _
 exact⟨(E0.trans (X1.trans EE)).put (by omega) _,_,_,A,rfl,_,_,o,rfl,(sA.keep EE.keep).keep ((Keep.refl _).put (EE.kept (by omega) k0) _),lA,rA,t1,t2⟩
theorem ints_first {h:IH} {v:Value} {l:List Int} (s:SlOf h 1 v l.length (l.map KI)) {m:Nat} (hm:m≤l.length) (hm2:m≤100000) : ∃v',(∀h',Keep h h'→sliceOp Proofs.Tryz.prog h' 29 v none (some (KN m)) none=some v')∧SlOf h 1 v' (l.take m).length ((l.take m).map KI):=by
 obtain⟨v',e1,e2⟩:=s.slice (Keep.refl h) (P:=Proofs.Tryz.prog) (t:=29) u29 sz3 (l:=0) (m:=m) (Nat.zero_le _) hm (lo:=none) (hi:=some (KN m)) rfl (fun c hc=>natOf_nat (k:=.i64) (by omega))
 refine⟨v',fun h' k=>(s.slice_same k (Keep.refl h) u29 sz3).trans e1,?_⟩
 rw[List.length_take,Nat.min_eq_left hm,List.map_take]
 simpa using e2
def Ai7 (h:IH) (vs:List Value):Prop:=∀v∈vs,∃L:List Int,SlOf h 1 v L.length (L.map KI)∧L.length≤1000
theorem Ai7.keep {h h':IH} {vs:List Value} (a:Ai7 h vs) (e:Keep h h'):Ai7 h' vs:=fun v hv=>let ⟨L,h1,h2⟩:=a v hv;⟨L,h1.keep e,h2⟩
theorem Ai7.cok {h:IH} {vs:List Value} (a:Ai7 h vs):vs.all cellOK=true:=List.all_eq_true.2 fun v hv=>let ⟨_,h1,_⟩:=a v hv;h1.cok
def La7 (h:IH) (n0:Nat) (lv:Value) (vs:List Value):Prop:=Ai7 h vs∧((∃k,lv=.slice (some ⟨2*k,0,none⟩) vs.length (2*vs.length+1)∧0<vs.length∧n0≤k∧k<h.n∧h.ext.get k=some (.cells vs 1 none))∨Acc h n0 1 lv vs.length vs)
theorem La7.sl {h:IH} {n0:Nat} {lv:Value} {vs:List Value} (a:La7 h n0 lv vs):SlOf h 1 lv vs.length vs:=by
 rcases a.2 with⟨k,rfl,h1,h2,h3,h4⟩|a
 ·exact sl_block h4 h3 (by omega) (by omega) (by omega) (by omega)
 ·exact a.sl
theorem La7.ext {h h':IH} {n0:Nat} {lv:Value} {vs:List Value} (a:La7 h n0 lv vs) (e:Ext h h'):La7 h' n0 lv vs:=by
 refine⟨a.1.keep e.keep,?_⟩
 rcases a.2 with⟨k,rfl,h1,h2,h3,h4⟩|a
 ·exact .inl ⟨k,rfl,h1,h2,by have:=e.n;omega,e.kept h3 h4⟩
 ·exact .inr (a.ext e)
theorem La7.app {h:IH} {n0:Nat} {lv:Value} {vs new:List Value} (a:La7 h n0 lv vs) (hn:Ai7 h new) (h0:0<new.length) (hl:vs.length+new.length≤1000) {hb:IH} (e:Ext hb h) (hb0:hb.n≤n0) (h9:n0≤h.n) :
  ∃lv' h',append Proofs.Tryz.prog (h.new (.cells new 1 none)) 38 lv (.slice (some ⟨2*h.n,0,none⟩) new.length (2*new.length+1))=some (lv',h')∧La7 h' n0 lv' (vs ++ new)∧Ext hb h':=by
 have ca:=a.1.cok
 have cn:=hn.cok
 rcases a.2 with⟨k,rfl,h1,h2,h3,h4⟩|ac
 ·have N:Ext h (h.new (.cells new 1 none)):=(Ext.refl h).new _
  have sv:SlOf (h.new (.cells new 1 none)) 1 (.slice (some ⟨2*k,0,none⟩) vs.length (2*vs.length+1)) vs.length vs:=sl_block (N.kept h3 h4) (by simp;omega) (by omega) (by omega) (by omega) (by omega)
  have sx:=built_sl h (sz:=1) (cs:=new) (m:=new.length) (by omega) (by omega) h0
  have ap:=append_full ap38 sv.now sx.now h0 h1 cn (by omega)
  refine⟨_,_,ap,⟨?_,.inr ?_⟩,(e.trans N).new _⟩
  ·intro v hv
   have K:Keep h ((h.new (.cells new 1 none)).new (.cells (vs ++ new) 1 none)):=(N.new _).keep
   rcases List.mem_append.1 hv with hv|hv
   ·exact a.1.keep K v hv
   ·exact hn.keep K v hv
  ·have:=(acc_new (h:=h.new (.cells new 1 none)) (sz:=1) (m:=(vs ++ new).length) (cs:=vs ++ new) (by omega) (by omega) (by simp;omega)).from (n0:=n0) (by simp;omega)
   simpa using this
 ·obtain⟨lv',h',b1,b2,b3,b4⟩:=ac.appN (P:=Proofs.Tryz.prog) (t:=38) ap38 (m:=new.length) (new:=new) h0 (by omega) cn (by omega) h9 e hb0
  refine⟨lv',h',b1,⟨?_,.inr (by rw[List.length_append];exact b2)⟩,b4⟩
  intro v hv
  rcases List.mem_append.1 hv with hv|hv
  ·exact a.1.keep b3.keep v hv
  ·exact hn.keep b3.keep v hv
theorem findV_form (people won:List Int) (m:Int) (least:List Int) : ∃(lo hi:Nat×Nat) (en sc sq:Bool),InP lo∧InP hi∧findV people won m least=brV lo hi en sc sq:=by
 unfold findV
 split
 ·have:=brk_ok m (regsV people won least)
  exact⟨_,_,_,_,_,shq_lt this.1,shq_lt this.2,rfl⟩
 ·exact⟨(0,0),(0,0),_,_,_,⟨by decide +kernel,by decide +kernel⟩,⟨by decide +kernel,by decide +kernel⟩,rfl⟩
theorem brSame_self (lo hi:Nat×Nat) (en sc sq:Bool):brSame lo hi en sc sq lo hi en sc sq=true:=by simp[brSame]
noncomputable abbrev bodyFi:Code:=Proofs.Tryz.f3.body.getD .skip
theorem finds0 (base:Nat→Option (List Value)) (vp vl v4 v5:Value) (u s:Int) (a b c d x m n:Int) :
  evC (E1 Proofs.Tryz.prog tbW) (callV (E1 Proofs.Tryz.prog tbW) 1) 3 196 none 1 (partAt bodyFi 0) (enterFr 0 [.agg #[vp,.int .u8 u,vl,.int .u16 s],.agg #[.int .u8 a,.int .u8 b,.int .u8 c,.int .u8 d,KI x],.int .u8 m,KI n,v4,v5]) (IH.start base)=some (.normal,(12,.bool false) :: (7,ptr 2 0) :: (6,ptr 0 0) :: enterFr 0 [.agg #[vp,.int .u8 u,vl,.int .u16 s],.agg #[.int .u8 a,.int .u8 b,.int .u8 c,.int .u8 d,KI x],.int .u8 m,KI n,v4,v5],((IH.start base).new (.cells [vp,.int .u8 u,vl,.int .u16 s] 0 none)).new (.cells [.int .u8 a,.int .u8 b,.int .u8 c,.int .u8 d,KI x] 0 none)):=rfl
theorem finds1 (fr:Fr) (h:IH) :
  evC (E1 Proofs.Tryz.prog tbW) (callV (E1 Proofs.Tryz.prog tbW) 1) 3 196 none 1 (partAt bodyFi 1) fr h=some (.normal,(42,.bool false) :: (41,.bool true) :: fr,h):=rfl
theorem ld_draft {h:IH} {k:Nat} {a b c d:Value} {f:Option Nat} (g:h.ext.get k=some (.cells [a,b,c,d] 0 f)):load Proofs.Tryz.prog h 26 (ptr (2*k) 0)=some (.agg #[a,b,c,d]):=by
 rw[load_agg ag26 sz26,rd_of (row_of g)];rfl
theorem ld_shift {h:IH} {k:Nat} {a b c d e:Value} {f:Option Nat} (g:h.ext.get k=some (.cells [a,b,c,d,e] 0 f)):load Proofs.Tryz.prog h 28 (ptr (2*k) 0)=some (.agg #[a,b,c,d,e]):=by
 rw[load_agg ag28 sz28,rd_of (row_of g)];rfl
theorem ix2 (a b:Value):indexV Proofs.Tryz.prog 39 (.agg #[a,b]) (KN 0)=some a∧indexV Proofs.Tryz.prog 39 (.agg #[a,b]) (KN 1)=some b:=⟨by kernel_rfl,by kernel_rfl⟩
theorem movedL_len (a b c:Nat) (L:List Int):(movedL a b c L).length=L.length:=by unfold movedL;simp
theorem setL_len (d:Nat) (x:Int) (L:List Int):(setL d x L).length=L.length:=by unfold setL;simp
theorem ixI (a b:Value):indexV Proofs.Tryz.prog 41 (.agg #[a,b]) (KN 0)=some a∧indexV Proofs.Tryz.prog 41 (.agg #[a,b]) (KN 1)=some b:=⟨by kernel_rfl,by kernel_rfl⟩
theorem ix3 (a b c:Value):indexV Proofs.Tryz.prog 42 (.agg #[a,b,c]) (KN 0)=some a∧indexV Proofs.Tryz.prog 42 (.agg #[a,b,c]) (KN 1)=some b∧indexV Proofs.Tryz.prog 42 (.agg #[a,b,c]) (KN 2)=some c:=⟨by kernel_rfl,by kernel_rfl,by kernel_rfl⟩
structure FS (h hh:IH) (fr:Fr) (b7 b16 b18:Nat) (shv:List Value) (vc:Value) (c:List Int) (vo:Value) (own:List Int) (M:Nat) (n:Int) (v4:Value) (raw:List Int) (v5:Value) (least:List Int) (sv tv:Value) (o:Int) (A:List Int) (sv2 tv2:Value) (o2:Int) (B:List Int):Prop where
 e:Ext h hh
 lt:b7<h.n∧h.n≤b16∧b16<hh.n∧h.n≤b18∧b18<hh.n
 g7:h.ext.get b7=some (.cells shv 0 none)
 g16:hh.ext.get b16=some (.cells [sv,tv,KI o] 0 none)
 g18:hh.ext.get b18=some (.cells [sv2,tv2,KI o2] 0 none)
 sc:SlOf hh 1 vc c.length (c.map KI)
 so:SlOf hh 1 vo own.length (own.map KI)
 s4:SlOf hh 1 v4 raw.length (raw.map KI)
 s5:SlOf hh 1 v5 least.length (least.map KI)
 sA:SlOf hh 1 sv A.length (A.map KI)
 sB:SlOf hh 1 sv2 B.length (B.map KI)
 lens:c.length≤1000∧own.length≤1000∧raw.length≤1000∧least.length≤1000∧A.length≤60∧B.length≤60
 rA : ∀x∈A,0≤x∧x≤1000
 rB : ∀x∈B,0≤x∧x≤1000
 f3:fget fr 3=some (KI n)
 f4:fget fr 4=some v4
 f5:fget fr 5=some v5
 f7:fget fr 7=some (ptr (2*b7) 0)
 f13:fget fr 13=some vc
 f14:fget fr 14=some vo
 f15:fget fr 15=some (KN M)
 f16:fget fr 16=some (ptr (2*b16) 0)
 f18:fget fr 18=some (ptr (2*b18) 0)
set_option maxHeartbeats 8000000 in
set_option maxRecDepth 20000 in
theorem finds_rest {h:IH} {fr:Fr} {vp vl v4 v5:Value} {ps ls:List Nat} {u s b6 b7 a b c d m:Nat} {x n:Int} {raw least:List Int} (dr:Dr6 h (.agg #[vp,B8 u,vl,B16 s]) ps ls u s) (g6:h.ext.get b6=some (.cells [vp,B8 u,vl,B16 s] 0 none)) (hb6:b6<h.n) (g7:h.ext.get b7=some (.cells [B8 a,B8 b,B8 c,B8 d,KI x] 0 none)) (hb7:b7<h.n)
  (ha:a<256) (hb:b<256) (hc:c<256) (hd:d<256) (hm:m<256) (s4:SlOf h 1 v4 raw.length (raw.map KI)) (s5:SlOf h 1 v5 least.length (least.map KI)) (l4:raw.length<9223372036854775808) (l5:least.length<9223372036854775808)
  (f2:fget fr 2=some (B8 m)) (f3:fget fr 3=some (KI n)) (f4:fget fr 4=some v4) (f5:fget fr 5=some v5) (f6:fget fr 6=some (ptr (2*b6) 0)) (f7:fget fr 7=some (ptr (2*b7) 0)) :
  Do (wpC Proofs.Tryz.prog 3 196 none (restAt bodyFi 2) fr h) (retK Proofs.Tryz.prog [.tmp 12] fun r _=>r=.bool true) nx:=by
 have e5:(m:Int) % 5=((m % 5:Nat):Int):=by omega
 have e11:IntKind.i64.wrap (11+((m % 5:Nat):Int))=((11+m % 5:Nat):Int):=by rw[wrap_i64 (by omega)];omega
 have tk:List.take 4 (List.drop 0 [vp,B8 u,vl,B16 s]) = [vp,B8 u,vl,B16 s]:=rfl
 show Do (wpC _ _ _ _ (.seq _ _) fr h) _ _
 rw[d_seq]
 refine drawn [(2,[1])] (by kernel_rfl) (by kernel_rfl) rfl ?_
 simp -dsimp (maxSteps:=1000000) (disch:=first|omega|(simp only[new_n,put_n];omega)|decide +kernel|(repeat first|rw[new_n]|rw[put_n])) only[wpS,wpT,Nat.reduceLeDiff,Nat.reduceAdd,ld26,f6,row_of g6,tk]
 refine call (census_ok dr) ?_
 rintro vc h1 ⟨X1,sc⟩
 have k6:=X1.kept hb6 g6
 simp -dsimp (maxSteps:=1000000) (disch:=first|omega|(simp only[new_n,put_n];omega)|decide +kernel|(repeat first|rw[new_n]|rw[put_n])) only[wpS,wpT,Nat.reduceEqDiff,Nat.reduceLeDiff,Nat.reduceAdd,ld26,f6,row_of k6,tk]
 refine call (mins6_ok (dr.keep X1.keep)) ?_
 rintro vo h2 ⟨X2,so⟩
 simp -dsimp (maxSteps:=1000000) (disch:=first|omega|(simp only[new_n,put_n];omega)|decide +kernel|(repeat first|rw[new_n]|rw[put_n])) only[wpS,Nat.reduceEqDiff,cv5_3,f2,e5,e11]
 refine⟨wpSteady_one rfl rfl rfl rfl (steady_load (av:=ptr (2*b6) 0) (v:=.agg #[vp,B8 u,vl,B16 s]) (by simp[f6]) (ld_draft k6) (ld_draft g6)),?_⟩
 have Y2:=X1.trans X2
 have k6:=Y2.kept hb6 g6
 have C:=census_cen dr.bu dr.bp
 obtain⟨c0,hc0⟩ : ∃c,c=census u ps:=⟨_,rfl⟩
 obtain⟨own,hown⟩ : ∃o,o=minTake ls (houseN s) (census u ps).length:=⟨_,rfl⟩
 have lo:own.length=(census u ps).length:=by rw[hown,minTake_len]
 rw[←hown] at so
 rw[←lo] at so
 rw[←hc0] at sc C lo
 have lc:=C.len
 have scH:=sc.keep X2.keep
 simp -dsimp (maxSteps:=1000000) (disch:=first|omega|(simp only[new_n,put_n];omega)|decide +kernel|(repeat first|rw[new_n]|rw[put_n])) only[wpS,wpT,Nat.reduceEqDiff,Nat.reduceLeDiff,Nat.reduceAdd,ld26,f6,row_of k6,tk]
 refine call (house_ok (dr.keep Y2.keep)) ?_
 rintro _ h3 ⟨X3,rfl⟩
 simp -dsimp (maxSteps:=1000000) (disch:=first|omega|(simp only[new_n,put_n];omega)|decide +kernel|(repeat first|rw[new_n]|rw[put_n])) only[wpS,Nat.reduceEqDiff,min_kk]
 refine call (Give7_ok (least:=[]) (scH.keep X3.keep) (SlOf.nil _ (by omega)) (by omega) (by simp)) ?_
 rintro _ h4 ⟨X4,_,e4,A,rfl,sv,tv,o,rfl,sA,lA,rA,t1,t2⟩
 have Y4:=Y2.trans (X3.trans X4)
 have m4:=Y4.n
 have a1:=sA.cells
 have a2:=sA.cok
 obtain⟨H5,hH5,n5,E5,g16⟩:=boxed h4 [.slice none 0 0,.slice none 0 0,KI 0] [sv,tv,KI o]
 simp -dsimp (maxSteps:=1000000) (disch:=first|omega|(simp only[new_n,put_n];omega)|decide +kernel|(repeat first|rw[new_n]|rw[put_n])) only[wpS,wpT,Nat.reduceEqDiff,Nat.reduceLeDiff,Nat.reduceAdd,ld26,zc33,st33,f6,row_of (Y4.kept hb6 g6),tk,a2,t1]
 rw[←hH5]
 clear hH5
 have Y5:=Y4.trans E5
 refine call (house_ok (dr.keep Y5.keep)) ?_
 rintro _ h6 ⟨X6,rfl⟩
 simp -dsimp (maxSteps:=1000000) (disch:=first|omega|(simp only[new_n,put_n];omega)|decide +kernel|(repeat first|rw[new_n]|rw[put_n])) only[wpS,Nat.reduceEqDiff,min_kk]
 refine call (Give7_ok ((scH.keep (X3.trans X4).keep).keep (E5.trans X6).keep) (so.keep (X3.trans (X4.trans (E5.trans X6))).keep) (by omega) (by omega)) ?_
 rintro _ h7 ⟨X7,_,e7,B,rfl,sv2,tv2,o2,rfl,sB,lB,rB,u1,u2⟩
 have c1:=sB.cells
 have c2:=sB.cok
 obtain⟨H8,hH8,n8,E8,g18⟩:=boxed h7 [.slice none 0 0,.slice none 0 0,KI 0] [sv2,tv2,KI o2]
 simp -dsimp (maxSteps:=1000000) (disch:=first|omega|(simp only[new_n,put_n];omega)|decide +kernel|(repeat first|rw[new_n]|rw[put_n])) only[wpS,wpT,Nat.reduceEqDiff,Nat.reduceLeDiff,Nat.reduceAdd,zc33,st33,c2,u1]
 rw[←hH8]
 clear hH8
 have Z8:=X6.trans (X7.trans E8)
 have Y8:=Y5.trans Z8
 have mn4:(if (70:Int)<(raw.length:Int) then (70:Int) else (raw.length:Int))=((min raw.length 70:Nat):Int):=by split<;>omega
 have mn5:(if (70:Int)<(least.length:Int) then (70:Int) else (least.length:Int))=((min least.length 70:Nat):Int):=by split<;>omega
 obtain⟨v4',q4,r4⟩:=ints_first s4 (m:=min raw.length 70) (by omega) (by omega)
 obtain⟨v5',q5,r5⟩:=ints_first s5 (m:=min least.length 70) (by omega) (by omega)
 have t4:=(s4.keep Y8.keep).now
 have t5:=(s5.keep Y8.keep).now
 simp -dsimp (maxSteps:=1000000) (disch:=first|omega|(simp only[new_n,put_n];omega)|decide +kernel|(repeat first|rw[new_n]|rw[put_n])) only[wpS,Nat.reduceEqDiff,fa33_0,ld29,f4,f5,t4.len sl29,t5.len sl29,min_kk,mn4,mn5,q4 H8 Y8.keep,q5 H8 Y8.keep]
 have m8:=Y8.n
 have z8:=Z8.n
 have g16H:=Z8.kept (by omega) g16
 have sAH:=sA.keep (E5.trans Z8).keep
 have sBH:=sB.keep E8.keep
 have r4H:=r4.keep Y8.keep
 have r5H:=r5.keep Y8.keep
 have scF:=(scH.keep (X3.trans X4).keep).keep (E5.trans Z8).keep
 have soF:=so.keep (X3.trans (X4.trans (E5.trans Z8))).keep
 have g7H:=Y8.kept hb7 g7
 have d1:=r4H.cok
 have d2:=r4H.cells
 have m7:=(X6.trans X7).n
 simp -dsimp (maxSteps:=1000000) (disch:=first|omega|(simp only[new_n,put_n];omega)|decide +kernel|(repeat first|rw[new_n]|rw[put_n])) only[wpS,wpT,Nat.reduceEqDiff,Nat.reduceLeDiff,Nat.reduceAdd,Nat.reduceMul,fa33_0,ld29,bs38,bv39,pl39_0,pl39_1,row_of g16H,row_of g18,a1,c1,d2]
 clear q4 q5 r4 r5 t4 t5 s4 s5 mn4 mn5 scH so sc g6 k6 dr
 obtain⟨W4,hW4⟩ : ∃l,l=raw.take (min raw.length 70):=⟨_,rfl⟩
 obtain⟨W5,hW5⟩ : ∃l,l=least.take (min least.length 70):=⟨_,rfl⟩
 have lW4:W4.length≤70:=by rw[hW4,List.length_take];omega
 have lW5:W5.length≤70:=by rw[hW5,List.length_take];omega
 rw[←hW4] at r4H
 rw[←hW5] at r5H
 have N9:Ext H8 (H8.new (.cells [sv,v4'] 1 none)):=(Ext.refl H8).new _
 have L9:La7 (H8.new (.cells [sv,v4'] 1 none)) H8.n (.slice (some ⟨2*H8.n,0,none⟩) 2 5) [sv,v4']:=by
  refine⟨fun v hv=>?_,.inl ⟨H8.n,rfl,by simp,Nat.le_refl _,by simp,get_new_same _ _ rfl⟩⟩
  simp at hv
  rcases hv with rfl|rfl
  ·exact⟨A,sAH.keep N9.keep,by omega⟩
  ·exact⟨W4,r4H.keep N9.keep,by omega⟩
 refine loop (fun mm fr hh => ∃(i:Nat) (lv:Value) (vs:List Value),i+mm=2∧vs.length≤2+3*i∧La7 hh H8.n lv vs∧Ext H8 hh∧fget fr 3=some (KI n)∧fget fr 4=some v4'∧fget fr 5=some v5'∧fget fr 7=some (ptr (2*b7) 0)∧fget fr 13=some vc∧fget fr 14=some vo∧fget fr 15=some (KN (11+m % 5))∧fget fr 16=some (ptr (2*h4.n) 0)∧fget fr 20=some lv∧fget fr 88=some (.agg #[sv,sv2])∧fget fr 89=some (KN i)) 2
  ⟨0,_,[sv,v4'],by omega,by simp,L9,N9,by simp[f3],by simp,by simp,by simp[f7],by simp,by simp,by simp,by simp,by simp,by simp,by simp⟩ ?_
 clear f2 f3 f4 f5 f6 f7 L9 N9
 rintro mm fr2 hh ⟨i,lv,vs,him,lvs,LA,EH,f3,f4,f5,f7,f13,f14,f15,f16,f20,f88,f89⟩
 have EHn:=EH.n
 by_cases ci:i<2
 ·obtain⟨w,L,hw,hL,hL6,hLr,hpick⟩ : ∃(w:Value) (L:List Int),indexV Proofs.Tryz.prog 39 (.agg #[sv,sv2]) (KN i)=some w∧SlOf hh 1 w L.length (L.map KI)∧L.length≤60∧(∀x∈L,0≤x∧x≤1000)∧True:=by
   rcases(by omega:i=0∨i=1) with rfl|rfl
   ·exact⟨sv,A,(ix2 sv sv2).1,sAH.keep EH.keep,lA,rA,trivial⟩
   ·exact⟨sv2,B,(ix2 sv sv2).2,sBH.keep EH.keep,lB,rB,trivial⟩
  have e2:IntKind.i64.wrap ((i:Int)+1)=((i+1:Nat):Int):=by rw[wrap_i64 (by omega)];omega
  by_cases l0:0<L.length
  ·have k7:=EH.kept (by omega) g7H
   simp -dsimp (maxSteps:=1000000) (disch:=first|omega|(simp only[new_n,put_n];omega)|decide +kernel|(repeat first|rw[new_n]|rw[put_n])) only[wpS,wpT,Nat.reduceEqDiff,f88,f89,hw,hL.now.len sl29]
   refine drawn [(5,[4])] (by kernel_rfl) (by kernel_rfl) rfl ?_
   have tk5:List.take 5 (List.drop 0 [B8 a,B8 b,B8 c,B8 d,KI x]) = [B8 a,B8 b,B8 c,B8 d,KI x]:=rfl
   simp -dsimp (maxSteps:=1000000) (disch:=first|omega|(simp only[new_n,put_n];omega)|decide +kernel|(repeat first|rw[new_n]|rw[put_n])) only[wpS,wpT,Nat.reduceEqDiff,Nat.reduceLeDiff,Nat.reduceAdd,ld28,f20,f7,row_of k7,tk5]
   refine call (sfMoved_ok (d:=d) (x:=x) hL (by omega) l0 ha hb hc (fun y hy=>by have:=hLr y hy;omega)) ?_
   rintro v1 h10 ⟨X10,sv1⟩
   have j7:=X10.kept (by omega) k7
   simp -dsimp (maxSteps:=1000000) (disch:=first|omega|(simp only[new_n,put_n];omega)|decide +kernel|(repeat first|rw[new_n]|rw[put_n])) only[wpS,wpT,Nat.reduceEqDiff,Nat.reduceLeDiff,Nat.reduceAdd,ld28,f7,row_of j7,tk5]
   refine call (setL_ok (a:=a) (b:=b) (c:=c) (hL.keep X10.keep) (by omega) l0 hd) ?_
   rintro v2 h11 ⟨X11,sv2'⟩
   have XX:=X10.trans X11
   have LA2:=LA.ext XX
   have new3:Ai7 h11 [w,v1,v2]:=by
    intro v hv
    simp at hv
    rcases hv with rfl|rfl|rfl
    ·exact⟨L,hL.keep XX.keep,by omega⟩
    ·exact⟨movedL a b c L,by rw[movedL_len];exact sv1.keep X11.keep,by rw[movedL_len];omega⟩
    ·exact⟨setL d x L,by rw[setL_len];exact sv2',by rw[setL_len];omega⟩
   have o1:=hL.cok
   have o2:=hL.cells
   have o3:=sv1.cok
   have o4:=sv1.cells
   have o5:=sv2'.cok
   have o6:=sv2'.cells
   obtain⟨lv',h12,hap,LA3,E12⟩:=LA2.app new3 (by simp) (by simp;omega) (EH.trans XX) (Nat.le_refl _) (by have:=XX.n;omega)
   have hap3:append Proofs.Tryz.prog (h11.new (.cells [w,v1,v2] 1 none)) 38 lv (.slice (some ⟨2*h11.n,0,none⟩) 3 7)=some (lv',h12):=hap
   simp -dsimp (maxSteps:=1000000) (disch:=first|omega|(simp only[new_n,put_n];omega)|decide +kernel|(repeat first|rw[new_n]|rw[put_n])) only[wpS,wpT,Nat.reduceEqDiff,Nat.reduceLeDiff,Nat.reduceAdd,Nat.reduceMul,bs38,ba38_38,o2,o4,o6,hap3]
   refine⟨wpSteady_one rfl rfl rfl rfl (steady_load (av:=ptr (2*b7) 0) (v:=.agg #[B8 a,B8 b,B8 c,B8 d,KI x]) (by simp[f7]) (ld_shift j7) (ld_shift k7)),?_⟩
   simp -dsimp (maxSteps:=1000000) (disch:=first|omega|(simp only[new_n,put_n];omega)|decide +kernel|(repeat first|rw[new_n]|rw[put_n])) only[wpS,wpT,Nat.reduceEqDiff,Nat.reduceAdd,f89,e2]
   exact⟨mm - 1,by omega,i+1,lv',vs ++ [w,v1,v2],by omega,by simp;omega,LA3,E12,by simp[f3],by simp[f4],by simp[f5],by simp[f7],by simp[f13],by simp[f14],by simp[f15],by simp[f16],by simp,by simp[f88],by simp⟩
  ·simp -dsimp (maxSteps:=1000000) (disch:=first|omega|(simp only[new_n,put_n];omega)|decide +kernel|(repeat first|rw[new_n]|rw[put_n])) only[wpS,wpT,Nat.reduceEqDiff,f88,f89,hw,hL.now.len sl29,e2]
   exact⟨mm - 1,by omega,i+1,lv,vs,by omega,by omega,LA,EH,by simp[f3],by simp[f4],by simp[f5],by simp[f7],by simp[f13],by simp[f14],by simp[f15],by simp[f16],by simp[f20],by simp[f88],by simp⟩
 ·have LS:=LA.sl
  have scG:=scF.keep EH.keep
  have soG:=soF.keep EH.keep
  have r4G:=r4H.keep EH.keep
  have r5G:=r5H.keep EH.keep
  have sAG:=sAH.keep EH.keep
  have g16G:=EH.kept (by omega) g16H
  have AL:=LA.1
  simp -dsimp (maxSteps:=1000000) (disch:=first|omega|(simp only[new_n,put_n];omega)|decide +kernel|(repeat first|rw[new_n]|rw[put_n])) only[wpS,wpT,Nat.reduceEqDiff,f89,f20,LS.now.len sl38]
  clear scF soF r4H r5H sAH sBH g16H g7H g18 g16 sA sB LA
  refine loop (fun mm fr g => ∃i:Nat,i+mm=vs.length∧Ext hh g∧fget fr 3=some (KI n)∧fget fr 4=some v4'∧fget fr 5=some v5'∧fget fr 13=some vc∧fget fr 14=some vo∧fget fr 15=some (KN (11+m % 5))∧fget fr 16=some (ptr (2*h4.n) 0)∧fget fr 106=some lv∧fget fr 107=some (KN vs.length)∧fget fr 108=some (KN i)) vs.length ⟨0,by omega,Ext.refl _,by simp[f3],by simp[f4],by simp[f5],by simp[f13],by simp[f14],by simp[f15],by simp[f16],by simp,by simp,by simp⟩ ?_
  clear f3 f4 f5 f7 f13 f14 f15 f16 f20 f88 f89
  rintro mm fr3 g ⟨i,him2,EG,f3,f4,f5,f13,f14,f15,f16,f106,f107,f108⟩
  by_cases cv:i<vs.length
  ·obtain⟨w,hw⟩ : ∃w,vs[i]?=some w:=⟨_,List.getElem?_eq_getElem cv⟩
   obtain⟨L,hL0,hL9⟩:=AL w (List.mem_of_getElem? hw)
   have hL:=hL0.keep EG.keep
   have LG:=(LS.keep EG.keep).now
   have lw:=LG.ld (P:=Proofs.Tryz.prog) (t:=29) (c:=i) (by omega) ag29
   rw[hw] at lw
   have e2:IntKind.i64.wrap ((i:Int)+1)=((i+1:Nat):Int):=by rw[wrap_i64 (by omega)];omega
   simp -dsimp (maxSteps:=1000000) (disch:=first|omega|(simp only[new_n,put_n];omega)|decide +kernel|(repeat first|rw[new_n]|rw[put_n])) only[wpS,wpT,Nat.reduceEqDiff,Nat.reduceLeDiff,Nat.reduceAdd,bv41,pl41_0,pl41_1,f3,f15,f106,f107,f108,LG.idx es38 cv,lw]
   refine loop (fun mm4 fr g4 => ∃i4:Nat,i4+mm4=2∧Ext g g4∧fget fr 3=some (KI n)∧fget fr 4=some v4'∧fget fr 5=some v5'∧fget fr 13=some vc∧fget fr 14=some vo∧fget fr 15=some (KN (11+m % 5))∧fget fr 16=some (ptr (2*h4.n) 0)∧fget fr 24=some w∧fget fr 106=some lv∧fget fr 107=some (KN vs.length)∧fget fr 108=some (KN i)∧fget fr 114=some (.agg #[KN (11+m % 5),KI n])∧fget fr 115=some (KN i4)) 2 ⟨0,by omega,Ext.refl _,by simp[f3],by simp[f4],by simp[f5],by simp[f13],by simp[f14],by simp[f15],by simp[f16],by simp,by simp[f106],by simp[f107],by simp[f108],by simp,by simp⟩ ?_
   clear f3 f4 f5 f13 f14 f15 f16 f106 f107 f108
   rintro mm4 fr4 g4 ⟨i4,him4,E4,f3,f4,f5,f13,f14,f15,f16,f24,f106,f107,f108,f114,f115⟩
   have e4:IntKind.i64.wrap ((i4:Int)+1)=((i4+1:Nat):Int):=by rw[wrap_i64 (by omega)];omega
   by_cases c4:i4<2
   ·obtain⟨z,hz⟩ : ∃z:Int,indexV Proofs.Tryz.prog 41 (.agg #[KN (11+m % 5),KI n]) (KN i4)=some (KI z):=by
     rcases(by omega:i4=0∨i4=1) with rfl|rfl
     ·exact⟨_,(ixI _ _).1⟩
     ·exact⟨_,(ixI _ _).2⟩
    have zz1:=soG.cells
    have zz2:=r5G.cells
    simp -dsimp (maxSteps:=1000000) (disch:=first|omega|(simp only[new_n,put_n];omega)|decide +kernel|(repeat first|rw[new_n]|rw[put_n])) only[wpS,wpT,Nat.reduceEqDiff,Nat.reduceLeDiff,Nat.reduceAdd,bv42,pl42_0,pl42_1,pl42_2,f114,f115,f14,f5,hz,zz1,zz2]
    refine loop (fun mm6 fr g6 => ∃i6:Nat,i6+mm6=3∧Ext g4 g6∧fget fr 3=some (KI n)∧fget fr 4=some v4'∧fget fr 5=some v5'∧fget fr 13=some vc∧fget fr 14=some vo∧fget fr 15=some (KN (11+m % 5))∧fget fr 16=some (ptr (2*h4.n) 0)∧fget fr 24=some w∧fget fr 26=some (KI z)∧fget fr 106=some lv∧fget fr 107=some (KN vs.length)∧fget fr 108=some (KN i)∧fget fr 114=some (.agg #[KN (11+m % 5),KI n])∧fget fr 115=some (KN i4)∧fget fr 120=some (.agg #[.slice none 0 0,vo,v5'])∧fget fr 121=some (KN i6)) 3 ⟨0,by omega,Ext.refl _,by simp[f3],by simp[f4],by simp[f5],by simp[f13],by simp[f14],by simp[f15],by simp[f16],by simp[f24],by simp,by simp[f106],by simp[f107],by simp[f108],by simp[f114],by simp[f115],by simp,by simp⟩ ?_
    clear f3 f4 f5 f13 f14 f15 f16 f24 f106 f107 f108 f114 f115
    rintro mm6 fr6 g6 ⟨i6,him6,E6,f3,f4,f5,f13,f14,f15,f16,f24,f26,f106,f107,f108,f114,f115,f120,f121⟩
    have e6:IntKind.i64.wrap ((i6:Int)+1)=((i6+1:Nat):Int):=by rw[wrap_i64 (by omega)];omega
    have EE6:=EG.trans (E4.trans E6)
    by_cases c6:i6<3
    ·have pc:=scG.keep EE6.keep
     have pw:=hL.keep (E4.trans E6).keep
     obtain⟨lw9,L9,hl9,pl,pl9⟩ : ∃(lw9:Value) (L9:List Int),indexV Proofs.Tryz.prog 42 (.agg #[.slice none 0 0,vo,v5']) (KN i6)=some lw9∧SlOf g6 1 lw9 L9.length (L9.map KI)∧L9.length≤1000:=by
      rcases(by omega:i6=0∨i6=1∨i6=2) with rfl|rfl|rfl
      ·exact⟨_,[],(ix3 _ _ _).1,SlOf.nil _ (by omega),by simp⟩
      ·exact⟨_,own,(ix3 _ _ _).2.1,soG.keep EE6.keep,by omega⟩
      ·exact⟨_,W5,(ix3 _ _ _).2.2,r5G.keep EE6.keep,by omega⟩
     obtain⟨blo,bhi,ben,bsc,bsq,bi1,bi2,hfv⟩:=findV_form c0 L z L9
     obtain⟨fe,hfe⟩ : ∃e,e=findE c0 L z L9:=⟨_,rfl⟩
     have nq:=br_neq bi1 bi2 bi1 bi2 ben bsc bsq ben bsc bsq
     rw[brSame_self] at nq
     have ne1:(fe != fe)=false:=by simp
     have ne2:(!(certifyB c0 L z L9 == certifyB c0 L z L9))=false:=by simp
     have ne3:(openErr c0 L z L9 != openErr c0 L z L9)=false:=by simp
     simp -dsimp (maxSteps:=1000000) (disch:=first|omega|(simp only[new_n,put_n];omega)|decide +kernel|(repeat first|rw[new_n]|rw[put_n])) only[wpS,wpT,Nat.reduceEqDiff,f120,f121,hl9,f13,f24,f26]
     refine call (find_ok pc pw pl (by omega) (by omega) (by omega)) ?_
     rintro _ q1 ⟨X1,rfl⟩
     rw[hfv,←hfe]
     obtain⟨Q1,hQ1,nQ1,EQ1,gQ1⟩:=boxed q1 Z35 (brC blo bhi ben bsc bsq)
     simp -dsimp (maxSteps:=1000000) (disch:=first|omega|(simp only[new_n,put_n];omega)|decide +kernel|(repeat first|rw[new_n]|rw[put_n])) only[wpS,wpT,Nat.reduceEqDiff,Nat.reduceLeDiff,Nat.reduceAdd,zc49,st49,f13,f24,f26,brC_len,brC_all,brC_all0]
     rw[←hQ1]
     clear hQ1
     have V1:=X1.trans EQ1
     refine call (find8_ok (pc.keep V1.keep) (pw.keep V1.keep) (pl.keep V1.keep) (by omega) (by omega) (by omega)) ?_
     rintro _ q2 ⟨X2,rfl⟩
     rw[hfv,←hfe]
     obtain⟨Q2,hQ2,nQ2,EQ2,gQ2⟩:=boxed q2 Z35 (brC blo bhi ben bsc bsq)
     simp -dsimp (maxSteps:=1000000) (disch:=first|omega|(simp only[new_n,put_n];omega)|decide +kernel|(repeat first|rw[new_n]|rw[put_n])) only[wpS,wpT,Nat.reduceEqDiff,Nat.reduceLeDiff,Nat.reduceAdd,zc49,st49,f13,f24,f26,brC_len,brC_all,brC_all0]
     rw[←hQ2]
     clear hQ2
     have V2:=X2.trans EQ2
     have V12:=V1.trans V2
     refine call (certify_ok (pc.keep V12.keep) (pw.keep V12.keep) (pl.keep V12.keep) (by omega) (by omega) (by omega)) ?_
     rintro _ q3 ⟨X3,rfl⟩
     have V3:=V12.trans X3
     simp -dsimp (maxSteps:=1000000) (disch:=first|omega|(simp only[new_n,put_n];omega)|decide +kernel|(repeat first|rw[new_n]|rw[put_n])) only[wpS,Nat.reduceEqDiff,f13,f24,f26]
     refine call (certify8_ok (pc.keep V3.keep) (pw.keep V3.keep) (pl.keep V3.keep) (by omega) (by omega) (by omega)) ?_
     rintro _ q4 ⟨X4,rfl⟩
     have V4:=V3.trans X4
     have y1:=X1.n
     have y2:=X2.n
     have y3:=X3.n
     have kQ1:=(V2.trans (X3.trans X4)).kept (by omega) gQ1
     have kQ2:=(X3.trans X4).kept (by omega) gQ2
     simp -dsimp (maxSteps:=1000000) (disch:=first|omega|(simp only[new_n,put_n];omega)|decide +kernel|(repeat first|rw[new_n]|rw[put_n])) only[wpS,wpT,Nat.reduceEqDiff,Nat.reduceLeDiff,ld49,bn4,row_of kQ1,row_of kQ2,brC_len,brC_take,nq,ne1,ne2,ne3,f121,e6]
     exact⟨mm6 - 1,by omega,i6+1,by omega,E6.trans V4,by simp[f3],by simp[f4],by simp[f5],by simp[f13],by simp[f14],by simp[f15],by simp[f16],by simp[f24],by simp[f26],by simp[f106],by simp[f107],by simp[f108],by simp[f114],by simp[f115],by simp[f120],by simp⟩
    ·simp -dsimp (maxSteps:=1000000) (disch:=first|omega|(simp only[new_n,put_n];omega)|decide +kernel|(repeat first|rw[new_n]|rw[put_n])) only[wpS,wpT,Nat.reduceEqDiff,f115,f121,e4]
     exact⟨mm4 - 1,by omega,i4+1,by omega,E4.trans E6,by simp[f3],by simp[f4],by simp[f5],by simp[f13],by simp[f14],by simp[f15],by simp[f16],by simp[f24],by simp[f106],by simp[f107],by simp[f108],by simp[f114],by simp⟩
   ·simp -dsimp (maxSteps:=1000000) (disch:=first|omega|(simp only[new_n,put_n];omega)|decide +kernel|(repeat first|rw[new_n]|rw[put_n])) only[wpS,wpT,Nat.reduceEqDiff,f108,f115,e2]
    exact⟨mm - 1,by omega,i+1,by omega,EG.trans E4,by simp[f3],by simp[f4],by simp[f5],by simp[f13],by simp[f14],by simp[f15],by simp[f16],by simp[f106],by simp[f107],by simp⟩
  ·have k16:=EG.kept (by omega) g16G
   have pr:=r4G.keep EG.keep
   have pa:=sAG.keep EG.keep
   obtain⟨blo,bhi,ben,bsc,bsq,bi1,bi2,hfv⟩:=findV_form W4 A ((11+m % 5:Nat):Int) []
   have ee:((findE W4 A ((11+m % 5:Nat):Int) []) == (findE W4 A ((11+m % 5:Nat):Int) []))=true:=by simp
   have gn:=EG.n
   simp -dsimp (maxSteps:=1000000) (disch:=first|omega|(simp only[new_n,put_n];omega)|decide +kernel|(repeat first|rw[new_n]|rw[put_n])) only[wpS,wpT,Nat.reduceEqDiff,fa33_0,ld29,f4,f15,f16,f107,f108,row_of k16]
   refine call (find_ok (least:=[]) pr pa (SlOf.nil _ (by omega)) (by omega) (by omega) (by simp)) ?_
   rintro _ q1 ⟨X1,rfl⟩
   rw[hfv]
   have y1:=X1.n
   simp -dsimp (maxSteps:=1000000) (disch:=first|omega|(simp only[new_n,put_n];omega)|decide +kernel|(repeat first|rw[new_n]|rw[put_n])) only[wpS,wpT,Nat.reduceEqDiff,Nat.reduceLeDiff,Nat.reduceAdd,fa33_0,ld29,zc49,st49,f4,f15,f16,brC_len,brC_all,brC_all0,row_of (X1.kept (by omega) k16)]
   obtain⟨Q1,hQ1,nQ1,EQ1,gQ1⟩:=boxed q1 Z35 (brC blo bhi ben bsc bsq)
   rw[←hQ1]
   clear hQ1
   have V1:=X1.trans EQ1
   refine call (find8_ok (least:=[]) (pr.keep V1.keep) (pa.keep V1.keep) (SlOf.nil _ (by omega)) (by omega) (by omega) (by simp)) ?_
   rintro _ q2 ⟨X2,rfl⟩
   rw[hfv]
   simp -dsimp (maxSteps:=1000000) (disch:=first|omega|(simp only[new_n,put_n];omega)|decide +kernel|(repeat first|rw[new_n]|rw[put_n])) only[wpS,wpT,Nat.reduceEqDiff,Nat.reduceLeDiff,Nat.reduceAdd,zc49,st49,brC_len,brC_all,brC_all0,ee]
end Go.Id
namespace Go.Proofs.YthpefnfbnaekaaaGreat
open Go.ChangeShapes Go.WideShapes Go.ChangeAt Go.RowKit Go.Id
set_option maxRecDepth 100000 in
theorem bracketFinds_lifted (os:Os) (started:os.Started) (H:Type) (enc:TypeId×Value→H) :
  ReturnsInHanded {} Tryz.checked os 3 .any (Rows.bracketFindsSpec.pre6 enc Tryz.prog Tryz.f3 Rows.bracketFindsRow.domain false) (Rows.bracketFindsSpec.post enc Tryz.prog Tryz.f3 false true false false):=by
 refine returnsInHanded_of_change (C:=Tryz.checked) Tryz.own started (by kernel_rfl) Tryz.func3
  (ChangeSpec.witness6 (enc:=enc) (C:=Tryz.checked) false ⟨#[],#[.agg #[.slice none 0 0,.int .u8 0,.slice none 0 0,.int .u16 0],.agg #[.int .u8 0,.int .u8 0,.int .u8 0,.int .u8 0,.int .i64 0],.int .u8 0,.int .i64 0,.slice none 0 0,.slice none 0 0],[]⟩ 8 (by kernel_rfl) (by kernel_rfl) (by kernel_rfl) (by kernel_rfl)) ?_
 intro W base args ds gs before hval0 hW hcnd _
 have hval : ∀(j:Nat) t v,Tryz.f3.params[j]?=some t→args[j]?=some v→Value.okWide Tryz.prog W .any base t v:=hval0
 have hW':=hW
 obtain⟨p,q,hA0,hV,rfl,hfz,hnd⟩:=hW
 have hA:DataW.TrodAll enc Tryz.prog W 0 (fun _=>true) true Tryz.f3.params.toList args.toList ds p:=hA0
 have hA1:=hA
 rw[Tryz.params3] at hA hval
 obtain⟨a0,r0,d0,ds0,p0,q0,e0,rfl,rfl,t0,h0A⟩:=trodAll_cons hA
 obtain⟨a1,r1,d1,ds1,p1,q1,rfl,rfl,rfl,t1,h1A⟩:=trodAll_cons h0A
 obtain⟨a2,r2,d2,ds2,p2,q2,rfl,rfl,rfl,t2,h2A⟩:=trodAll_cons h1A
 obtain⟨a3,r3,d3,ds3,p3,q3,rfl,rfl,rfl,t3,h3A⟩:=trodAll_cons h2A
 obtain⟨a4,r4,d4,ds4,p4,q4,rfl,rfl,rfl,t4,h4A⟩:=trodAll_cons h3A
 obtain⟨a5,r5,d5,ds5,p5,q5,rfl,rfl,rfl,t5,h5A⟩:=trodAll_cons h4A
 obtain⟨rfl,rfl,rfl⟩:=trodAll_nil h5A
 obtain⟨rfl,rfl⟩:=trodVars_none hV
 obtain rfl:args = #[a0,a1,a2,a3,a4,a5]:=by cases args;simpa using e0
 obtain⟨z0,rfl,_⟩:=okWide_struct u_draft6 (hval 0 _ _ rfl rfl)
 obtain⟨fu0,t0⟩:=t0
 obtain⟨ya0,u0,yb0,s0,ps0,ls0,g0,m0,dr0⟩:=draft6_of (fun _=>none) t0
 obtain rfl:z0 = #[ya0,B8 u0,yb0,B16 s0]:=by cases z0;simpa using g0
 obtain⟨z1,rfl,_⟩:=okWide_struct u_shift (hval 1 _ _ rfl rfl)
 obtain⟨fu1,t1⟩:=t1
 obtain⟨sa1,sb1,sc1,sd1,sn1,g1,sh1⟩:=shift_of t1
 obtain rfl:z1 = #[B8 sa1,B8 sb1,B8 sc1,B8 sd1,KI sn1]:=by cases z1;simpa using g1
 obtain⟨x2,rfl,_,_,w2⟩:=open_int u_u8 (hval 2 _ _ rfl rfl) t2
 have i2:0≤x2∧x2<256:=wf_u8 w2
 obtain⟨k2,rfl⟩ : ∃k:Nat,x2=k:=⟨x2.toNat,by omega⟩
 obtain⟨x3,rfl,_,_,w3⟩:=open_int u_int (hval 3 _ _ rfl rfl) t3
 have i3:In64 x3:=wf_i64 w3
 obtain⟨b4,n4,c4,rfl⟩:=okWide_slice u_ints (hval 4 _ _ rfl rfl)
 obtain⟨fu4,t4⟩:=t4
 obtain⟨v4,il4,g4,m4,s4⟩:=tell_ints (fun _=>none) t4
 cases g4
 obtain⟨b5,n5,c5,rfl⟩:=okWide_slice u_ints (hval 5 _ _ rfl rfl)
 obtain⟨fu5,t5⟩:=t5
 obtain⟨v5,il5,g5,m5,s5⟩:=tell_ints (fun _=>none) t5
 cases g5
 have hb:=tell_ok (W:=W) (G:=fun _=>none) (fun b cs h=>by cases h)
 refine(parts_true (tb:=tbW) (nt:=196) (rs:=[.tmp 12]) Tryz.sound sound_W Tryz.func3 rfl rfl rfl (by simp) (finds0 _ _ _ _ _ _ _ _ _ _ _ _ _ _) (finds1 _ _) (finds_rest (b6:=0) (b7:=1) (dr0.keep (((Ext.refl _).new _).new _).keep) (by rw[get_new_old _ _ (by simp[IH.start])];exact get_new_same _ _ rfl) (by simp) (get_new_same _ _ rfl) (by simp) sh1.1 sh1.2.1 sh1.2.2.1 sh1.2.2.2 (by omega) (s4.1.keep (((Ext.refl _).new _).new _).keep) (s5.1.keep (((Ext.refl _).new _).new _).keep) s4.2 s5.2 rfl rfl rfl rfl rfl rfl) hb (args':=#[.agg #[ya0,B8 u0,yb0,B16 s0],.agg #[B8 sa1,B8 sb1,B8 sc1,B8 sd1,KI sn1],.int .u8 (k2:Int),.int .i64 x3,.slice b4 n4 c4,.slice b5 n5 c5]) (.cons (.agg_iff (.cons (trV_rel m0.1) (.cons (.scal rfl) (.cons (trV_rel m0.2) (.cons (.scal rfl) (.nil _)))))) (.cons (.agg_iff (.cons (.scal rfl) (.cons (.scal rfl) (.cons (.scal rfl) (.cons (.scal rfl) (.cons (.scal rfl) (.nil _))))))) (.cons (.scal rfl) (.cons (.scal rfl) (.cons (trV_rel m4) (.cons (trV_rel m5) (.nil _)))))))).mono fun e W' ⟨he,hk⟩=>?_
 subst he
 refine⟨_,rfl,post_of_below (pa:=p0 ++ (p1 ++ (p2 ++ (p3 ++ (p4 ++ (p5 ++ [])))))) (pv:=[]) hW' (fun _ _ _=>trodAll_mk1 (shut_bool Tryz.underlying4 _)) (fun sp hs=>?_) (fun _ _=>rfl) hk⟩
 exact trodAll_stays Tryz.kids Tryz.pos hk hA1 (fun t ht=>by
  rw[Tryz.params3] at ht
  simp at ht
  rcases ht with rfl|rfl|rfl|rfl|rfl|rfl<;>exact of_decide_eq_true (by kernel_rfl)) (fun x hx=>hs x (by simpa using hx))
theorem bracketFinds_row:Rows.BracketFindsSaid :=
 OpenClaim.holds_of_wide 3 Tryz.f3 rfl rfl rfl rfl rfl rfl rfl ⟨rfl,rfl,rfl,rfl,rfl⟩ rfl rfl rfl rfl rfl (by kernel_rfl) Tryz.func3 (by kernel_rfl)
  (of_decide_eq_true (by kernel_rfl)) (by unfold Func.isWrapper;first|(rw[if_pos (by decide +kernel)];kernel_rfl)|(rw[if_neg (by decide +kernel)];exact⟨rfl,rfl⟩))
  (fun os started H enc _=>bracketFinds_lifted os started H enc)
#print axioms bracketFinds_row
end Go.Proofs.YthpefnfbnaekaaaGreat

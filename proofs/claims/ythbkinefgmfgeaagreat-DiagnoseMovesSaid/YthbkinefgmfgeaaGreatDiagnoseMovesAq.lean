/-
  DiagnoseMoves: for every input the law returns true, and each argument reads as it did. Conditions: none but the row's own.
-/
import Derived.Test.YthbkinefgmfgeaaGreatDiagnoseMovesAo
import Derived.Test.YthbkinefgmfgeaaGreatDiagnoseMovesAp
import Derived.Test.YthbkinefgmfgeaaGreatDiagnoseMovesAm
set_option linter.unusedVariables false
set_option linter.unusedSimpArgs false
set_option linter.defProp false
set_option linter.deprecated false
/-! Weakest preconditions over the ideal machine: two lists that grow side by side. -/
namespace Go.Id
open Go
def AccK (h:IH) (n0 sz:Nat) (v:Value) (n:Nat) (cs:List Value) (k:Nat) (fam:Option Nat):Prop :=
 0<sz∧cs.length=n*sz∧v=.slice (some ⟨2*k,0,none⟩) n (2*n)∧0<n∧n0≤k∧k<h.n∧h.ext.get k=some (.cells cs sz fam)∧TopFam h n0 k fam
theorem AccK.acc {h:IH} {n0 sz:Nat} {v:Value} {n:Nat} {cs:List Value} {k:Nat} {fam:Option Nat} (a:AccK h n0 sz v n cs k fam):Acc h n0 sz v n cs:=⟨a.1,a.2.1,.inr ⟨k,fam,a.2.2⟩⟩
theorem AccK.other {h h':IH} {n0 sz:Nat} {v:Value} {n:Nat} {cs:List Value} {k:Nat} {fam:Option Nat} (a:AccK h n0 sz v n cs k fam) (hn:h.n≤h'.n) (he:h'.ext.get k=h.ext.get k) (hf : ∀f,fam=some f→h'.fams.get f=h.fams.get f):AccK h' n0 sz v n cs k fam:=by
 obtain⟨h1,h2,h3,h4,h5,h6,h7,h8⟩:=a
 refine⟨h1,h2,h3,h4,h5,by omega,by rw[he];exact h7,?_⟩
 cases fam with
 | none=>trivial
 | some f =>
  obtain⟨a1,a2,rest,a3,a4⟩:=h8
  exact⟨a1,by omega,rest,by rw[hf f rfl];exact a3,a4⟩
theorem AccK.app {h:IH} {n0 sz:Nat} {v:Value} {n:Nat} {cs:List Value} {kk:Nat} {fam:Option Nat} (a:AccK h n0 sz v n cs kk fam) {P:Program} {t:TypeId} {bytes:Nat} (hT:appT P t=some (sz,bytes)) {x:Value} {m:Nat} {new:List Value} (sx:SlNow h sz x m new) (hm:0<m)
  (hc:new.all cellOK=true) (hsz:(n+m)*(bytes+1)≤1099511627776) :
  ∃h' f,append P h t v x=some (.slice (some ⟨2*h.n,0,none⟩) (n+m) (2*(n+m)),h')∧AccK h' n0 sz (.slice (some ⟨2*h.n,0,none⟩) (n+m) (2*(n+m))) (n+m) (cs ++ new) h.n (some f)∧(fam=some f∨(fam=none∧f=h.n))∧h'.n=h.n+1∧h'.base=h.base ∧
   (∀j,j<h.n→j≠kk→h'.ext.get j=h.ext.get j)∧h'.ext.get kk=some (.cells cs sz (some f))∧(∀g,g<h.n→fam≠some g→h'.fams.get g=h.fams.get g):=by
 unfold appT at hT
 split at hT
 case h_2=>cases hT
 rename_i e hu
 split at hT
 case h_2=>cases hT
 rename_i zs h1 h2 h3
 simp only[cond_eq_ite] at hT
 split at hT
 case isTrue=>cases hT
 rename_i hbad
 cases hT
 have hbad':(sz == 0 || (!(Nat.ble bytes 65536) || !(zs.length == sz)))=false:=by simpa using hbad
 have hmne:(m == 0)=false:=by simp;omega
 have hln:new.length=m*sz∧firstOf h sz m x=some new∧lenOf x=some m:=by
  obtain⟨hz,hl,⟨rfl,rfl⟩|⟨b2,o2,k2,rfl,rfl|⟨row,a1,a2,a3⟩⟩⟩:=sx
  ·omega
  ·omega
  have hms : ¬m*sz=0:=by
   have:0<m*sz:=Nat.mul_pos hm hz
   omega
  refine⟨hl,?_,rfl⟩
  simp only[firstOf,cond_eq_ite,Nat.ble_eq,Nat.le_refl,if_true,beq_iff_eq,if_neg hms]
  rw[rd_of a1,if_pos a3,a2]
 obtain⟨hln,hfirst,hlx⟩:=hln
 obtain⟨hz,hl,rfl,hn,g1,g2,g3,g4⟩:=a
 have hble:Nat.ble ((n+m)*(bytes+1)) sizeMost=true:=by rw[Nat.ble_eq];exact hsz
 have hcap:Nat.ble (n+m) (2*n / 2)=false:=by
  rw[Bool.eq_false_iff];intro hh;rw[Nat.ble_eq] at hh;omega
 have hodd:(2*n % 2 == 1)=false:=by simp
 have hlen:(n == 2*n / 2 && Nat.blt 0 n && (2*kk) % 2 == 0)=true:=by
  have:2*n / 2=n:=by omega
  simp[this,Nat.blt,Nat.ble_eq];omega
 have hend:(0+n*sz == cs.length && sz == sz)=true:=by simp[hl]
 have hk2:2*kk / 2=kk:=by omega
 have body : ∀f below,(∀j∈below,n0≤j)→(n0≤f)→f<h.n+1→(∀g,g<h.n→fam≠some g→g≠f) →
   AccK (grown h kk f cs sz [] below (cs.drop 0 ++ new) sz) n0 sz (.slice (some ⟨2*h.n,0,none⟩) (n+m) (2*(n+m))) (n+m) (cs ++ new) h.n (some f)∧(grown h kk f cs sz [] below (cs.drop 0 ++ new) sz).n=h.n+1∧(grown h kk f cs sz [] below (cs.drop 0 ++ new) sz).base=h.base ∧
   (∀j,j<h.n→j≠kk→(grown h kk f cs sz [] below (cs.drop 0 ++ new) sz).ext.get j=h.ext.get j)∧(grown h kk f cs sz [] below (cs.drop 0 ++ new) sz).ext.get kk=some (.cells cs sz (some f))∧(∀g,g<h.n→fam≠some g→(grown h kk f cs sz [] below (cs.drop 0 ++ new) sz).fams.get g=h.fams.get g):=by
  intro f below hbl hf1 hf2 hf3
  have hget : ∀j,(grown h kk f cs sz [] below (cs.drop 0 ++ new) sz).ext.get j=if j=h.n then some (.cells (cs ++ new) sz (some f)) else if j=kk then some (.cells cs sz (some f)) else h.ext.get j:=by
   intro j
   simp[grown,IH.killAll,Tr.get_set]
  refine⟨⟨hz,by simp[hl,hln,Nat.add_mul],rfl,by omega,by omega,by simp[grown],by rw[hget,if_pos rfl],hf1,by simp[grown];omega,kk :: below,?_,fun j hj=>?_⟩,by simp[grown],rfl,fun j hj hne=>?_,?_,fun g hg hgf=>?_⟩
  ·simp[grown,Tr.get_set]
  ·rcases List.mem_cons.1 hj with rfl|hj
   ·exact g1
   ·exact hbl j hj
  ·rw[hget,if_neg (by omega),if_neg hne]
  ·rw[hget,if_neg (by omega),if_pos rfl]
  ·simp only[grown,Tr.get_set]
   rw[if_neg (hf3 g hg hgf)]
 cases fam with
 | none =>
  obtain⟨b1,b2,b3,b4,b5,b6⟩:=body h.n [] (fun _ h=>by cases h) (by omega) (by omega) (fun g hg _=>by omega)
  refine⟨_,h.n,?_,b1,.inr ⟨rfl,rfl⟩,b2,b3,b4,b5,b6⟩
  simp only[Id.append,hu,h1,h2,h3,hlx,hmne,hbad',hfirst,hc,hble,hcap,hodd,hlen,hk2,g3,hend,cond_true,cond_false,Bool.not_true]
 | some f =>
  obtain⟨f1,f2,rest,f3,f4⟩:=g4
  obtain⟨b1,b2,b3,b4,b5,b6⟩:=body f rest f4 f1 (by omega) (fun g hg hne e=>hne (by rw[e]))
  refine⟨_,f,?_,b1,.inl rfl,b2,b3,b4,b5,b6⟩
  have t1:(kk :: rest).takeWhile (· != kk) = []:=by simp
  have t2:((kk :: rest).dropWhile (· != kk)).drop 1=rest:=by simp
  simp only[Id.append,hu,h1,h2,h3,hlx,hmne,hbad',hfirst,hc,hble,hcap,hodd,hlen,hk2,g3,hend,f3,t1,t2,cond_true,cond_false,Bool.not_true]
def Acc2 (h:IH) (n0 sz:Nat) (v w:Value) (n:Nat) (cs ds:List Value):Prop :=
 (v=.slice none 0 0∧w=.slice none 0 0∧n=0∧cs = []∧ds = []) ∨
 ∃k fam j gam,AccK h n0 sz v n cs k fam∧AccK h n0 sz w n ds j gam∧k≠j ∧ ∀f,fam=some f→gam≠some f
theorem Acc2.sl {h:IH} {n0 sz:Nat} {v w:Value} {n:Nat} {cs ds:List Value} (hz:0<sz) (a:Acc2 h n0 sz v w n cs ds):SlOf h sz v n cs∧SlOf h sz w n ds:=by
 rcases a with⟨rfl,rfl,rfl,rfl,rfl⟩|⟨k,fam,j,gam,a,b,_⟩
 ·exact⟨SlOf.nil _ hz,SlOf.nil _ hz⟩
 ·exact⟨a.acc.sl,b.acc.sl⟩
theorem Acc2.ext {h h':IH} {n0 sz:Nat} {v w:Value} {n:Nat} {cs ds:List Value} (a:Acc2 h n0 sz v w n cs ds) (e:Ext h h'):Acc2 h' n0 sz v w n cs ds:=by
 rcases a with a|⟨k,fam,j,gam,a,b,c⟩
 ·exact .inl a
 ·have hf : ∀{k:Nat} {fam:Option Nat} {v:Value} {cs:List Value},AccK h n0 sz v n cs k fam→AccK h' n0 sz v n cs k fam:=fun a=>a.other e.n (e.get _ a.2.2.2.2.2.1) fun f hf=>e.fams f (by
   obtain⟨_,_,_,_,_,_,_,t⟩:=a
   subst hf
   exact t.2.1)
  exact .inr ⟨k,fam,j,gam,hf a,hf b,c⟩
theorem append_none {P:Program} {t:TypeId} {sz bytes:Nat} (hT:appT P t=some (sz,bytes)) (h:IH) {x:Value} {m:Nat} {new:List Value} (sx:SlNow h sz x m new) (hm:0<m) (hc:new.all cellOK=true) (hsz:m*(bytes+1)≤1099511627776) :
  append P h t (.slice none 0 0) x=some (.slice (some ⟨2*h.n,0,none⟩) m (2*m),h.new (.cells new sz none)):=by
 unfold appT at hT
 split at hT
 case h_2=>cases hT
 rename_i e hu
 split at hT
 case h_2=>cases hT
 rename_i zs h1 h2 h3
 simp only[cond_eq_ite] at hT
 split at hT
 case isTrue=>cases hT
 rename_i hbad
 cases hT
 have hbad':(sz == 0 || (!(Nat.ble bytes 65536) || !(zs.length == sz)))=false:=by simpa using hbad
 obtain⟨hz,hl,⟨rfl,rfl⟩|⟨b2,o2,k2,rfl,rfl|⟨row,a1,a2,a3⟩⟩⟩:=sx
 ·omega
 ·omega
 have hms : ¬m*sz=0:=by
  have:0<m*sz:=Nat.mul_pos hm hz
  omega
 have hmne:(m == 0)=false:=by simp;omega
 have hfirst:firstOf h sz m (.slice (some ⟨b2,o2,none⟩) m k2)=some new:=by
  simp only[firstOf,cond_eq_ite,Nat.ble_eq,Nat.le_refl,if_true,beq_iff_eq,if_neg hms]
  rw[rd_of a1,if_pos a3,a2]
 have hble:Nat.ble (m*(bytes+1)) sizeMost=true:=by rw[Nat.ble_eq];exact hsz
 simp only[Id.append,hu,h1,h2,h3,lenOf,hmne,hbad',hfirst,hc,hble,cond_true,cond_false,Bool.not_true,BEq.rfl,Bool.and_self]
theorem accK_new {h:IH} {n0 sz m:Nat} {cs:List Value} (hz:0<sz) (hl:cs.length=m*sz) (hm:0<m) (h0:n0≤h.n):AccK (h.new (.cells cs sz none)) n0 sz (.slice (some ⟨2*h.n,0,none⟩) m (2*m)) m cs h.n none :=
 ⟨hz,hl,rfl,hm,h0,by simp,get_new_same _ _ rfl,trivial⟩
theorem Acc2.round {h:IH} {n0 sz:Nat} {v w:Value} {n:Nat} {cs ds:List Value} (a:Acc2 h n0 sz v w n cs ds) {P:Program} {t:TypeId} {bytes:Nat} (hT:appT P t=some (sz,bytes)) (hz:0<sz) {new1 new2:List Value} (l1:new1.length=sz) (l2:new2.length=sz)
  (c1:new1.all cellOK=true) (c2:new2.all cellOK=true) (hsz:(n+1)*(bytes+1)≤1099511627776) (h0:n0≤h.n) {h0':IH} (e0:Ext h0' h) (hn0:h0'.n≤n0) :
  ∃v' h1 w' h2,append P (h.new (.cells new1 sz none)) t v (.slice (some ⟨2*h.n,0,none⟩) 1 3)=some (v',h1)∧append P (h1.new (.cells new2 sz none)) t w (.slice (some ⟨2*h1.n,0,none⟩) 1 3)=some (w',h2) ∧
   Acc2 h2 n0 sz v' w' (n+1) (cs ++ new1) (ds ++ new2)∧Grow h h1∧Grow h1 h2∧Ext h0' h2:=by
 have x1:SlNow (h.new (.cells new1 sz none)) sz (.slice (some ⟨2*h.n,0,none⟩) 1 3) 1 new1:=(sl_block (k:=h.n) (f:=none) (get_new_same _ _ rfl) (by simp) hz (by omega) (by omega) (by omega):SlOf _ _ _ _ _).now
 have x2 : ∀h1:IH,SlNow (h1.new (.cells new2 sz none)) sz (.slice (some ⟨2*h1.n,0,none⟩) 1 3) 1 new2:=fun h1=>(sl_block (k:=h1.n) (f:=none) (get_new_same _ _ rfl) (by simp) hz (by omega) (by omega) (by omega):SlOf _ _ _ _ _).now
 have E1:Ext h (h.new (.cells new1 sz none)):=(Ext.refl h).new _
 rcases a with⟨rfl,rfl,rfl,rfl,rfl⟩|⟨k,fam,j,gam,ay,az,hkj,hfg⟩
 ·refine⟨_,_,_,_,append_none hT _ x1 (by omega) c1 (by omega),append_none hT _ (x2 _) (by omega) c2 (by omega),.inr ⟨(h.new (.cells new1 sz none)).n,none,_,none,?_,accK_new hz (by omega) (by omega) (by simp only[new_n];omega),?_,fun f hf=>by cases hf⟩,(E1.new _).grow,(((Ext.refl _).new _).new _).grow,(((e0.trans E1).new _).new _).new _⟩
  ·have A:=accK_new (h:=h.new (.cells new1 sz none)) (n0:=n0) (cs:=new1) hz (m:=1) (by omega) (by omega) (by simp only[new_n];omega)
   refine A.other (by simp only[new_n];omega) ?_ (fun f hf=>by cases hf)
   rw[get_new_old _ _ (by simp only[new_n];omega),get_new_old _ _ (by simp only[new_n];omega)]
  ·simp only[new_n];omega
 ·have ay1:AccK (h.new (.cells new1 sz none)) n0 sz v n cs k fam:=ay.other E1.n (E1.get _ ay.2.2.2.2.2.1) fun f _=>rfl
  have az1:AccK (h.new (.cells new1 sz none)) n0 sz w n ds j gam:=az.other E1.n (E1.get _ az.2.2.2.2.2.1) fun f _=>rfl
  have jn:j<h.n:=az.2.2.2.2.2.1
  have gn : ∀g,gam=some g→g<h.n:=fun g hg=>by
   obtain⟨_,_,_,_,_,_,_,tz⟩:=az
   subst hg
   exact tz.2.1
  obtain⟨h1,f1,ap1,a1,hf1,n1,b1,o1,k1,s1⟩:=ay1.app hT x1 (by omega) c1 hsz
  simp only[new_n] at n1 o1 s1 hf1
  have hfn:gam≠some f1:=by
   rcases hf1 with hf|⟨_,hf⟩
   ·exact hfg _ hf
   ·intro e;have:=gn _ e;omega
  have az2:AccK h1 n0 sz w n ds j gam:=az1.other (by simp only[new_n];omega) (o1 j (by omega) (Ne.symm hkj)) fun g hg=>s1 g (by have:=gn g hg;omega) (fun e=>hfg _ e hg)
  have E2:Ext h1 (h1.new (.cells new2 sz none)):=(Ext.refl h1).new _
  have az3:AccK (h1.new (.cells new2 sz none)) n0 sz w n ds j gam:=az2.other E2.n (E2.get _ az2.2.2.2.2.2.1) fun f _=>rfl
  obtain⟨h2,g2,ap2,a2,hg2,n2,b2,o2,k2,s2⟩:=az3.app hT (x2 h1) (by omega) c2 hsz
  simp only[new_n] at n2 o2 s2 hg2
  have a1':AccK (h1.new (.cells new2 sz none)) n0 sz (.slice (some ⟨2*(h.new (.cells new1 sz none)).n,0,none⟩) (n+1) (2*(n+1))) (n+1) (cs ++ new1) (h.new (.cells new1 sz none)).n (some f1):=a1.other E2.n (E2.get _ a1.2.2.2.2.2.1) fun f _=>rfl
  have f1n:f1<h1.n:=a1.2.2.2.2.2.2.2.2.1
  have a1'':=a1'.other (h':=h2) (by simp only[new_n];omega) (o2 _ (by simp only[new_n];omega) (by simp only[new_n];omega)) fun f hf=>by
   cases hf
   exact s2 _ (by omega) hfn
  have G1:Grow h h1:=by
   refine⟨by omega,by rw[b1];rfl,fun i hi=>?_⟩
   by_cases hik:i=k
   ·subst hik
    exact .inr ⟨cs,sz,fam,some f1,by omega,ay.2.2.2.2.2.2.1,k1⟩
   ·left
    rw[o1 i (by omega) hik,get_new_old _ _ (by omega)]
  have G2:Grow h1 h2:=by
   refine⟨by omega,by rw[b2];rfl,fun i hi=>?_⟩
   by_cases hij:i=j
   ·subst hij
    exact .inr ⟨ds,sz,gam,some g2,by omega,az2.2.2.2.2.2.2.1,k2⟩
   ·left
    rw[o2 i (by omega) hij,get_new_old _ _ (by omega)]
  refine⟨_,h1,_,h2,ap1,ap2,.inr ⟨_,_,_,_,a1'',a2,by simp only[new_n];omega,fun f hf e=>?_⟩,G1,G2,?_⟩
  ·cases hf
   rcases hg2 with hg|⟨_,hg⟩
   ·exact hfn (hg.trans e)
   ·cases e;omega
  ·have kn0:n0≤k:=ay.2.2.2.2.1
   have jn0:n0≤j:=az.2.2.2.2.1
   have e0n:=e0.n
   refine⟨by omega,by rw[b2];show h1.base=_;rw[b1];exact e0.base,fun i hi=>?_,fun g hg=>?_⟩
   ·rw[o2 i (by omega) (by omega),get_new_old _ _ (by omega),o1 i (by omega) (by omega),get_new_old _ _ (by omega)]
    exact e0.get i hi
   ·have tg : ∀g,gam=some g→n0≤g:=fun g hg=>by
     obtain⟨_,_,_,_,_,_,_,tz⟩:=az
     subst hg
     exact tz.1
    have tf : ∀g,fam=some g→n0≤g:=fun g hg=>by
     obtain⟨_,_,_,_,_,_,_,tz⟩:=ay
     subst hg
     exact tz.1
    have r1:h2.fams.get g=(h1.new (.cells new2 sz none)).fams.get g:=s2 g (by omega) fun e=>by have:=tg g e;omega
    have r2:h1.fams.get g=(h.new (.cells new1 sz none)).fams.get g:=s1 g (by omega) fun e=>by have:=tf g e;omega
    rw[r1]
    show h1.fams.get g=_
    rw[r2]
    exact e0.fams g hg
end Go.Id

/-! The statement DiagnoseMoves, on the ideal machine. -/
namespace Go.Id
open Go
structure I2C (h:IH) (i:Nat) (p:Nat×Nat):Prop where
 hi:i<h.n
 gi:h.ext.get i=some (.cells (shC p.1 p.2) 0 none)
theorem I2C.ext {h h':IH} {i:Nat} {p:Nat×Nat} (c:I2C h i p) (e:Ext h h'):I2C h' i p:=⟨Nat.lt_of_lt_of_le c.hi e.n,e.kept c.hi c.gi⟩
abbrev is2V (i:Nat):Value:=.func (.func 91) #[] #[ptr (2*i) 0]
theorem i2C_ok {h:IH} (p:Nat×Nat):WV Proofs.Tryz.prog (.func (.func 41) #[] #[]) [.agg (shC p.1 p.2).toArray] h fun r h'=>Ext h h' ∧ ∃i,r=is2V i∧I2C h' i p:=by
 refine(is2_ok p.1 p.2).mono ?_
 rintro _ _ ⟨rfl,rfl⟩
 refine⟨(Ext.refl h).new _,h.n,rfl,?_⟩
 refine⟨by simp,?_⟩
 simp (disch:=first|omega|(simp only[new_n,put_n];omega)|(repeat first|rw[new_n]|rw[put_n])) only[get_new_same]
theorem i2T_ok {h:IH} {i:Nat} {p:Nat×Nat} (c:I2C h i p) (hp:p.1<W8∧p.2<W8):WV Proofs.Tryz.prog (is2V i) [shV p.1 p.2,KI 0] h fun r h'=>Ext h h'∧r=.bool true:=by
 refine(is21_ok (n:=p.1) (d:=p.2) (e:=0) hp.1 hp.2 hp.1 hp.2 c.hi c.gi).mono ?_
 rintro _ h' ⟨X,rfl⟩
 exact⟨X,by simp⟩
theorem same2_ok {h:IH} {p:Nat×Nat} {e:Int} (hp:p.1<W8∧p.2<W8):WV Proofs.Tryz.prog (.func (.func 40) #[] #[]) [.agg (shC p.1 p.2).toArray,.agg (shC p.1 p.2).toArray,KI e,KI e] h fun r h'=>Ext h h'∧r=.bool true:=by
 have he:(e == e)=true:=by simp
 have heq:=eql_true hp
 refine enter (nt:=17) (rs:=[.tmp 8]) Proofs.Tryz.func40 rfl rfl rfl (by simp) ?_
 simp -dsimp (maxSteps:=1000000) (disch:=first|omega|(simp only[new_n,put_n];omega)|decide +kernel|(repeat first|rw[new_n]|rw[put_n])) only[wpS,Nat.reduceEqDiff,Nat.reduceLeDiff,Nat.reduceAdd,ld30,shC_len,sh_take]
 obtain⟨H0,hH0,n0,E0,g0,g1⟩:=boxes2 h (shC p.1 p.2) (shC p.1 p.2)
 rw[←hH0]
 clear hH0
 simp -dsimp (maxSteps:=1000000) (disch:=first|omega|(simp only[new_n,put_n];omega)|decide +kernel|(repeat first|rw[new_n]|rw[put_n])) only[wpS,wpT,Nat.reduceEqDiff,heq,he]
 exact E0
theorem two1_ok {h:IH} {v:Value} {l:List (Nat×Nat)} {n:Nat} (sl:ShSl h v l) (hl:l.length=2*n) (hn:n≤1000):WV Proofs.Tryz.prog (.func (.func 39) #[] #[]) [v] h fun r h'=>Ext h h'∧ShLs h' r [l.take n,l.drop n]:=by
 have e2:(l.length:Int) / 2=(n:Int):=by omega
 obtain⟨va,ea,sa⟩:=sl.arg.first (Keep.refl h) (m:=n) (by omega) (by omega)
 obtain⟨vb,eb,sb⟩:=sl.rest (Keep.refl h) (m:=n) (by omega)
 have hlen:=sl.1.len (P:=Proofs.Tryz.prog) sl25
 refine enter (nt:=14) (rs:=[.tmp 2]) Proofs.Tryz.func39 rfl rfl rfl (by simp) ?_
 simp -dsimp (disch:=omega) only[wpS]
 refine drawn [(2,[12]),(4,[12]),(7,[12]),(9,[12])] (by kernel_rfl) (by kernel_rfl) rfl ?_
 simp -dsimp (disch:=omega) only[wpS,wpT,Nat.reduceEqDiff,Nat.reduceLeDiff,Nat.reduceAdd,Nat.reduceMul,bs22,hlen,e2,ea,eb,sa.1.cells,sb.1.cells]
 have X:=(Ext.refl h).new (.cells [va,vb] 1 none)
 have ea':=(sl.1.slice_same (Keep.refl h) X.keep (P:=Proofs.Tryz.prog) u25 sz30).symm.trans ea
 have eb':=(sl.1.slice_same (Keep.refl h) X.keep (P:=Proofs.Tryz.prog) u25 sz30).symm.trans eb
 refine⟨wpSteady_c2 (wpSteady_one rfl rfl rfl rfl (steady_len rfl rfl rfl (hlen _) (hlen _))) (wpSteady_c2 (wpSteady_one rfl rfl rfl rfl (steady_slice rfl rfl rfl ea ea')) (wpSteady_c2 (wpSteady_one rfl rfl rfl rfl (steady_len rfl rfl rfl (hlen _) (hlen _))) (wpSteady_one rfl rfl rfl rfl (steady_slice rfl rfl rfl eb eb')))),?_⟩
 simp -dsimp (disch:=omega) only[wpS,wpT,Nat.reduceEqDiff,Nat.reduceAdd]
 exact⟨X,shLs_two sa sb⟩
def mv (f:Rat→Rat) (l:List (Nat×Nat)):List (Nat×Nat):=l.map fun p=>shq (f (rOf p))
theorem mv_map {f:Rat→Rat} {l:List (Nat×Nat)} (h : ∀p∈l,QW (f (rOf p))):(mv f l).map rOf=(l.map rOf).map f:=by
 unfold mv
 rw[List.map_map,List.map_map]
 exact List.map_congr_left fun p hp=>(rOf_shq (h p hp)).1
theorem mv_ok {f:Rat→Rat} {l:List (Nat×Nat)} (h : ∀p∈l,QW (f (rOf p))):allOk (mv f l) ∧ ∀p∈mv f l,p.1<W8∧p.2<W8:=by
 refine⟨fun p hp=>?_,fun p hp=>?_⟩<;>obtain⟨x,hx,rfl⟩:=List.mem_map.1 hp
 ·exact(rOf_shq (h x hx)).2
 ·exact shq_lt (h x hx)
theorem mv_len (f:Rat→Rat) (l:List (Nat×Nat)):(mv f l).length=l.length:=List.length_map _
theorem mv_take (f:Rat→Rat) (l:List (Nat×Nat)) (n:Nat):(mv f l).take n=mv f (l.take n):=List.map_take.symm
theorem mv_drop (f:Rat→Rat) (l:List (Nat×Nat)) (n:Nat):(mv f l).drop n=mv f (l.drop n):=List.map_drop.symm
structure MF (l:List (Nat×Nat)) (pa pb:Nat×Nat) (n:Nat):Prop where
 sh:ShortL l
 a:isShort pa
 b:isShort pb
 hl:l.length=2*n
 n2:2≤n
 n6:n≤6
section
variable {l:List (Nat×Nat)} {pa pb:Nat×Nat} {n:Nat} (m:MF l pa pb n)
include m
theorem MF.t:TwoC (l.take n) (l.drop n) n:=⟨fun p hp=>m.sh.s p (List.mem_of_mem_take hp),fun p hp=>m.sh.s p (List.mem_of_mem_drop hp),by rw[List.length_take,m.hl];omega,by rw[List.length_drop,m.hl];omega,m.n2,m.n6⟩
theorem MF.qy : ∀p∈l,QW (rOf p+rOf pa):=fun p hp=>((m.sh.s p hp).ok.2.1.add m.a.ok.2.1).qw (by decide +kernel) (by decide +kernel)
theorem MF.qz : ∀p∈l,QW (rOf p*rOf pb):=fun p hp=>((m.sh.s p hp).ok.2.1.mul m.b.ok.2.1).qw (by decide +kernel) (by decide +kernel)
theorem MF.qb:QW (rOf pb):=m.b.ok.2.1.qw (by decide +kernel) (by decide +kernel)
theorem MF.qbb:QW (rOf pb*rOf pb):=(m.b.ok.2.1.mul m.b.ok.2.1).qw (by decide +kernel) (by decide +kernel)
theorem MF.oA (k:Nat):QW (qauto (l.map rOf) (qmean (l.map rOf)) k)∧QW (qauto (l.map rOf) (qmean (l.map rOf)) k*(rOf pb*rOf pb)):=by
 have hd : ∀N,N≤12→LC*N*(LC*N)*N*(LC*LC)<H8∧N*((999*LC*N+N*(999*LC))*(999*LC*N+N*(999*LC)))*(999*LC*(999*LC))<H8:=by decide +kernel
 obtain⟨h1,h2⟩:=hd _ m.sh.n
 have o:=Over.qauto (over_of m.sh.s) m.sh.mne k
 rw[List.length_map] at o
 exact⟨a0_facts m.sh k,(o.mul (m.b.ok.2.1.mul m.b.ok.2.1)).qw h1 h2⟩
theorem MF.oW:QW (qwithin [l.take n,l.drop n])∧QW (qwithin [l.take n,l.drop n]*(rOf pb*rOf pb)):=by
 have hd : ∀n,n≤6→LC*n*(LC*n)*(2*(n - 1))*(LC*LC)<H8∧(n*((999*LC*n+n*(999*LC))*(999*LC*n+n*(999*LC)))+n*((999*LC*n+n*(999*LC))*(999*LC*n+n*(999*LC))))*(999*LC*(999*LC))<H8:=by decide +kernel
 have hd2 : ∀n,n≤6→LC*n*(LC*n)*(2*(n - 1))<H8∧(n*((999*LC*n+n*(999*LC))*(999*LC*n+n*(999*LC)))+n*((999*LC*n+n*(999*LC))*(999*LC*n+n*(999*LC))))<H8:=by decide +kernel
 obtain⟨h1,h2⟩:=hd _ m.n6
 obtain⟨h3,h4⟩:=hd2 _ m.n6
 have t:=m.t
 have oa:=Over.qsqm (over_of t.a) t.ne.1
 have ob:=Over.qsqm (over_of t.b) t.ne.2
 rw[List.length_map,t.la] at oa
 rw[List.length_map,t.lb] at ob
 have n2:=m.n2
 have ow:=(oa.add ob).divN (m:=2*(n - 1)) (by omega)
 rw[within_two,t.la]
 exact⟨ow.qw h3 h4,(ow.mul (m.b.ok.2.1.mul m.b.ok.2.1)).qw h1 h2⟩
theorem MF.errY:chErr (mv (· + rOf pa) l)=0:=chErr_none (mv_ok m.qy).1 (by rw[mv_len];have:=m.sh.n;omega) (by have:=m.sh.ne;simpa [mv] using this)
theorem MF.errZ:chErr (mv (· * rOf pb) l)=0:=chErr_none (mv_ok m.qz).1 (by rw[mv_len];have:=m.sh.n;omega) (by have:=m.sh.ne;simpa [mv] using this)
theorem MF.mvY:Moved (l.take n) (l.drop n) (mv (· + rOf pa) (l.take n)) (mv (· + rOf pa) (l.drop n)) (· + rOf pa):=⟨mv_map fun p hp=>m.qy p (List.mem_of_mem_take hp),mv_map fun p hp=>m.qy p (List.mem_of_mem_drop hp),m.t.ne.1,m.t.ne.2⟩
theorem MF.mvZ:Moved (l.take n) (l.drop n) (mv (· * rOf pb) (l.take n)) (mv (· * rOf pb) (l.drop n)) (· * rOf pb):=⟨mv_map fun p hp=>m.qz p (List.mem_of_mem_take hp),mv_map fun p hp=>m.qz p (List.mem_of_mem_drop hp),m.t.ne.1,m.t.ne.2⟩
theorem MF.svE {f:Rat→Rat} (hq : ∀p∈l,QW (f (rOf p))):svErr [mv f (l.take n),mv f (l.drop n)]=0:=by
 have t:=m.t
 have n2:=m.n2
 have n6:=m.n6
 refine svErr_none (by simp) (by simp) fun x hx=>?_
 rw[len0_two,mv_len,t.la]
 simp at hx
 rcases hx with rfl|rfl
 ·exact⟨by rw[mv_len,t.la];omega,(mv_ok fun p hp=>hq p (List.mem_of_mem_take hp)).1,by rw[mv_len,t.la];omega,by rw[mv_len,t.la]⟩
 ·exact⟨by rw[mv_len,t.lb];omega,(mv_ok fun p hp=>hq p (List.mem_of_mem_drop hp)).1,by rw[mv_len,t.lb];omega,by rw[mv_len,t.lb]⟩
theorem MF.fitE (f:Rat→Rat):FitL [mv f (l.take n),mv f (l.drop n)]:=fun _=>⟨by rw[len0_two,mv_len,m.t.la];have:=m.n6;omega,by show(2:Nat)≤8;omega⟩
theorem MF.effY:effRes (mv (· + rOf pa) l)=effRes l:=by
 unfold effRes
 rw[if_pos m.errY,if_pos m.sh.err,mv_map m.qy,qauto_shift m.sh.mne,qeff_shift m.sh.mne]
theorem MF.effZ (hb:rOf pb≠0):effRes (mv (· * rOf pb) l)=effRes l:=by
 unfold effRes
 rw[if_pos m.errZ,if_pos m.sh.err,mv_map m.qz,qauto_scale m.sh.mne]
 have hp:=sqr_pos hb
 by_cases h0:qauto (l.map rOf) (qmean (l.map rOf)) 0=0
 ·rw[if_pos h0,if_pos (by rw[h0];grind)]
 ·rw[if_neg h0,if_neg (fun e=>by
   rcases Rat.mul_eq_zero.1 e with e|e
   ·exact h0 e
   ·rw[e] at hp;exact absurd hp (by decide +kernel)),qeff_scale m.sh.mne hb h0]
theorem MF.effZ0 (hb:rOf pb=0):effRes (mv (· * rOf pb) l)=errV 7:=by
 refine effRes_no m.errZ ?_
 rw[mv_map m.qz,qauto_scale m.sh.mne,hb]
 grind
theorem MF.ratY:ratioRes [mv (· + rOf pa) (l.take n),mv (· + rOf pa) (l.drop n)]=ratioRes [l.take n,l.drop n]:=by
 unfold ratioRes
 rw[if_pos (m.svE m.qy),if_pos m.t.err,m.mvY.within_shift,m.mvY.ratio_shift]
theorem MF.ratZ (hb:rOf pb≠0):ratioRes [mv (· * rOf pb) (l.take n),mv (· * rOf pb) (l.drop n)]=ratioRes [l.take n,l.drop n]:=by
 unfold ratioRes
 rw[if_pos (m.svE m.qz),if_pos m.t.err,m.mvZ.within_scale,m.mvZ.ratio_scale hb]
 have hp:=sqr_pos hb
 by_cases h0:qwithin [l.take n,l.drop n]=0
 ·rw[if_pos h0,if_pos (by rw[h0];grind)]
 ·rw[if_neg h0,if_neg (fun e=>by
   rcases Rat.mul_eq_zero.1 e with e|e
   ·exact h0 e
   ·rw[e] at hp;exact absurd hp (by decide +kernel))]
theorem MF.autoX {k:Nat} (hk:k<l.length):autoRes l (k:Int)=.tuple #[shV (shq (qauto (l.map rOf) (qmean (l.map rOf)) k)).1 (shq (qauto (l.map rOf) (qmean (l.map rOf)) k)).2,KI 0]:=autoRes_told m.sh.err hk (m.oA k).1
theorem MF.autoY {k:Nat} (hk:k<l.length):autoRes (mv (· + rOf pa) l) (k:Int)=.tuple #[shV (shq (qauto (l.map rOf) (qmean (l.map rOf)) k)).1 (shq (qauto (l.map rOf) (qmean (l.map rOf)) k)).2,KI 0]:=by
 have e:qauto ((mv (· + rOf pa) l).map rOf) (qmean ((mv (· + rOf pa) l).map rOf)) k=qauto (l.map rOf) (qmean (l.map rOf)) k:=by rw[mv_map m.qy,qauto_shift m.sh.mne]
 exact autoRes_of m.errY (by rw[mv_len];exact hk) e (m.oA k).1
theorem MF.autoZ {k:Nat} (hk:k<l.length):autoRes (mv (· * rOf pb) l) (k:Int)=.tuple #[shV (shq (qauto (l.map rOf) (qmean (l.map rOf)) k*(rOf pb*rOf pb))).1 (shq (qauto (l.map rOf) (qmean (l.map rOf)) k*(rOf pb*rOf pb))).2,KI 0]:=by
 have e:qauto ((mv (· * rOf pb) l).map rOf) (qmean ((mv (· * rOf pb) l).map rOf)) k=qauto (l.map rOf) (qmean (l.map rOf)) k*(rOf pb*rOf pb):=by rw[mv_map m.qz,qauto_scale m.sh.mne]
 exact autoRes_of m.errZ (by rw[mv_len];exact hk) e (m.oA k).2
theorem MF.withX:withinRes [l.take n,l.drop n]=.tuple #[shV (shq (qwithin [l.take n,l.drop n])).1 (shq (qwithin [l.take n,l.drop n])).2,KI 0]:=withinRes_of m.t.err rfl m.oW.1
theorem MF.withY:withinRes [mv (· + rOf pa) (l.take n),mv (· + rOf pa) (l.drop n)]=.tuple #[shV (shq (qwithin [l.take n,l.drop n])).1 (shq (qwithin [l.take n,l.drop n])).2,KI 0]:=withinRes_of (m.svE m.qy) m.mvY.within_shift m.oW.1
theorem MF.withZ:withinRes [mv (· * rOf pb) (l.take n),mv (· * rOf pb) (l.drop n)]=.tuple #[shV (shq (qwithin [l.take n,l.drop n]*(rOf pb*rOf pb))).1 (shq (qwithin [l.take n,l.drop n]*(rOf pb*rOf pb))).2,KI 0]:=withinRes_of (m.svE m.qz) m.mvZ.within_scale m.oW.2
end
end Go.Id

/-! The statement DiagnoseMoves, on the ideal machine. -/
namespace Go.Id
open Go
noncomputable def partM (i:Nat):Code:=nthC (Proofs.Tryz.f8.body.getD .skip) i
structure MX (h hh:IH) (fr:Fr) (vs:List (Nat×Value)) (sls:List (Value×List (Nat×Nat))) (bs:List (Nat×Nat×(Nat×Nat))):Prop where
 e:Ext h hh
 v : ∀x∈vs,fget fr x.1=some x.2
 s : ∀x∈sls,ShSl hh x.1 x.2
 b : ∀x∈bs,Bx hh fr x.1 x.2.1 x.2.2
section
variable {h hh h3:IH} {fr fr3:Fr} {vs:List (Nat×Value)} {sls:List (Value×List (Nat×Nat))} {bs:List (Nat×Nat×(Nat×Nat))}
theorem MX.to (m:MX h hh fr vs sls bs) (E:Ext hh h3) (gv : ∀x∈vs,fget fr3 x.1=fget fr x.1) (gb : ∀x∈bs,fget fr3 x.1=fget fr x.1):MX h h3 fr3 vs sls bs :=
 ⟨m.e.trans E,fun x hx=>(gv x hx).trans (m.v x hx),fun x hx=>(m.s x hx).keep E.keep,fun x hx=>(m.b x hx).to E (gb x hx)⟩
theorem MX.addV (m:MX h hh fr vs sls bs) {t:Nat} {v:Value} (f:fget fr t=some v):MX h hh fr ((t,v) :: vs) sls bs :=
 ⟨m.e,fun x hx=>by rcases List.mem_cons.1 hx with rfl|hx;exact f;exact m.v x hx,m.s,m.b⟩
theorem MX.addB (m:MX h hh fr vs sls bs) {t b:Nat} {p:Nat×Nat} (x:Bx hh fr t b p):MX h hh fr vs sls ((t,b,p) :: bs) :=
 ⟨m.e,m.v,m.s,fun y hy=>by rcases List.mem_cons.1 hy with rfl|hy;exact x;exact m.b y hy⟩
theorem MX.dropV (m:MX h hh fr vs sls bs) {vs':List (Nat×Value)} (k : ∀x∈vs',x∈vs):MX h hh fr vs' sls bs:=⟨m.e,fun x hx=>m.v x (k x hx),m.s,m.b⟩
end
section
variable {h hh:IH} {fr:Fr} {Q:IExit→Fr→IH→Prop} {w v:Value} {lag:Int} {l:List (Nat×Nat)} {nd:Nat}
structure Dx (hh:IH) (fr:Fr) (t b:Nat) (b1:Bool) (x:Value) (n1:Int) (b2:Bool) (x2:Value) (n2:Int):Prop where
 n:b<hh.n
 k:hh.ext.get b=some (.cells [.bool b1,x,.int .u32 n1,.bool b2,x2,.int .u32 n2] 0 none)
 f:fget fr t=some (ptr (2*b) 0)
 c:cellOK x=true∧cellOK x2=true∧(0≤n1∧n1<4294967296)∧(0≤n2∧n2<4294967296)
theorem Dx.to {hh h3:IH} {fr fr3:Fr} {t b:Nat} {b1:Bool} {x:Value} {n1:Int} {b2:Bool} {x2:Value} {n2:Int} (d:Dx hh fr t b b1 x n1 b2 x2 n2) (E:Ext hh h3) (g:fget fr3 t=fget fr t):Dx h3 fr3 t b b1 x n1 b2 x2 n2:=⟨by have:=d.n;have:=E.n;omega,E.kept d.n d.k,by rw[g];exact d.f,d.c⟩
set_option maxHeartbeats 4000000 in
theorem m0 {q5 q6:Nat} {a1 a2 c1 c2:Bool} {x1 x2 y1 y2:Value} {m1 m2 k1 k2:Int} (f0:fget fr 0=some w) (f3:fget fr 3=some (.int .u8 lag)) (f1:fget fr 1=some (.agg #[.bool a1,x1,.int .u32 m1,.bool a2,x2,.int .u32 m2])) (f2:fget fr 2=some (.agg #[.bool c1,y1,.int .u32 k1,.bool c2,y2,.int .u32 k2])) (g1:cellOK x1=true∧cellOK x2=true∧(0≤m1∧m1<4294967296)∧(0≤m2∧m2<4294967296)) (g2:cellOK y1=true∧cellOK y2=true∧(0≤k1∧k1<4294967296)∧(0≤k2∧k2<4294967296)):Do (wpC Proofs.Tryz.prog 8 262 none (partM 0) fr hh) (seqK (fun fr h'=>Pst (Ext hh h'∧fget fr 0=some w∧fget fr 3=some (.int .u8 lag) ∧ ∃q5 q6,Dx h' fr 5 q5 a1 x1 m1 a2 x2 m2∧Dx h' fr 6 q6 c1 y1 k1 c2 y2 k2) nx) Q) nx:=by
 show Do (wpC _ _ _ _ (.region _ _ _) fr hh) _ _
 simp -dsimp (disch:=omega) only[wpS,Nat.reduceEqDiff,f1,f2]
 obtain⟨H0,hH0,n0,E0,e0,e1⟩:=boxes2 hh [.bool a1,x1,.int .u32 m1,.bool a2,x2,.int .u32 m2] [.bool c1,y1,.int .u32 k1,.bool c2,y2,.int .u32 k2]
 rw[←hH0]
 exact⟨E0,by simp[f0],by simp[f3],hh.n,hh.n+1,⟨by omega,e0,by simp,g1⟩,⟨by omega,e1,by simp,g2⟩⟩
set_option maxHeartbeats 4000000 in
theorem m1 {q5 q6:Nat} {a1 a2 c1 c2:Bool} {x1 x2 y1 y2:Value} {m1 m2 k1 k2:Int} (f0:fget fr 0=some w) (f3:fget fr 3=some (.int .u8 lag)) (d5:Dx hh fr 5 q5 a1 x1 m1 a2 x2 m2) (d6:Dx hh fr 6 q6 c1 y1 k1 c2 y2 k2):Do (wpC Proofs.Tryz.prog 8 262 none (partM 1) fr hh) (seqK (fun fr h'=>Pst (Ext hh h'∧fget fr 0=some w∧fget fr 3=some (.int .u8 lag)∧Dx h' fr 5 q5 a1 x1 m1 a2 x2 m2∧Dx h' fr 6 q6 c1 y1 k1 c2 y2 k2) nx) Q) nx:=by
 show Do (wpC _ _ _ _ (.seq _ _) fr hh) _ _
 simp -dsimp (disch:=omega) only[wpS]
 refine call dgworks_ok ?_
 rintro _ h1 ⟨X1,rfl⟩
 simp -dsimp (disch:=omega) only[wpS,wpT,Nat.reduceEqDiff]
 exact⟨X1,by simp[f0],by simp[f3],d5.to X1 (by simp),d6.to X1 (by simp)⟩
set_option maxHeartbeats 4000000 in
theorem m2 {q5 q6:Nat} {a1 a2 c1 c2:Bool} {x1 x2 y1 y2:Value} {m1 m2 k1 k2:Int} (hw:DrSl hh w nd) (f0:fget fr 0=some w) (f3:fget fr 3=some (.int .u8 lag)) (d5:Dx hh fr 5 q5 a1 x1 m1 a2 x2 m2) (d6:Dx hh fr 6 q6 c1 y1 k1 c2 y2 k2):Do (wpC Proofs.Tryz.prog 8 262 none (partM 2) fr hh) (seqK (fun fr h'=>Pst (∃v l,Ext hh h'∧fget fr 3=some (.int .u8 lag)∧fget fr 9=some v∧ShSl h' v l∧(∀p∈l,isShort p)∧l.length≤12∧Dx h' fr 5 q5 a1 x1 m1 a2 x2 m2∧Dx h' fr 6 q6 c1 y1 k1 c2 y2 k2) nx) Q) nx:=by
 show Do (wpC _ _ _ _ (.region _ _ _) fr hh) _ _
 simp -dsimp (disch:=omega) only[wpS,f0]
 refine call (shorts_ok hw) ?_
 rintro w2 h2 ⟨X2,l2,s2,hl2,hsh2,hn2⟩
 simp -dsimp (disch:=omega) only[wpS,Nat.reduceEqDiff]
 exact⟨w2,l2,X2,by simp[f3],by simp,s2,hsh2,by omega,d5.to X2 (by simp),d6.to X2 (by simp)⟩
set_option maxHeartbeats 4000000 in
theorem m3 {q5 q6:Nat} {a1 a2 c1 c2:Bool} {x1 x2 y1 y2:Value} {m1 m2 k1 k2:Int} (f3:fget fr 3=some (.int .u8 lag)) (f9:fget fr 9=some v) (sl:ShSl hh v l) (hl:l.length≤12) (d5:Dx hh fr 5 q5 a1 x1 m1 a2 x2 m2) (d6:Dx hh fr 6 q6 c1 y1 k1 c2 y2 k2):Do (wpC Proofs.Tryz.prog 8 262 none (partM 3) fr hh) (seqK (fun fr h'=>Pst (h'=hh∧fget fr 3=some (.int .u8 lag) ∧ ∃v5,fget fr 9=some v5∧ShSl hh v5 (l.take (l.length / 2*2))∧Dx h' fr 5 q5 a1 x1 m1 a2 x2 m2∧Dx h' fr 6 q6 c1 y1 k1 c2 y2 k2) nx) Q) nx:=by
 show Do (wpC _ _ _ _ (.region _ _ _) fr hh) _ _
 obtain⟨m,hm⟩ : ∃m:Nat,m=l.length / 2*2:=⟨_,rfl⟩
 have e2:(l.length:Int) / 2*2=(m:Int):=by omega
 obtain⟨v1,ev,sv⟩:=sl.arg.first (Keep.refl hh) (m:=m) (by omega) (by omega)
 rw[hm] at sv
 simp -dsimp (disch:=omega) only[wpS,Nat.reduceEqDiff,f9,sl.1.len sl25,e2,ev]
 exact⟨rfl,by simp[f3],_,rfl,sv,d5.to (Ext.refl _) (by simp),d6.to (Ext.refl _) (by simp)⟩
set_option maxHeartbeats 4000000 in
theorem m4 {q5 q6:Nat} {a1 a2 c1 c2:Bool} {x1 x2 y1 y2:Value} {m1 m2 k1 k2:Int} (f3:fget fr 3=some (.int .u8 lag)) (f9:fget fr 9=some v) (sl:ShSl hh v l) (h4:4≤l.length) (hl:l.length≤12) (d5:Dx hh fr 5 q5 a1 x1 m1 a2 x2 m2) (d6:Dx hh fr 6 q6 c1 y1 k1 c2 y2 k2):Do (wpC Proofs.Tryz.prog 8 262 none (partM 4) fr hh) (seqK (fun fr h'=>Pst (h'=hh∧fget fr 3=some (.int .u8 lag)∧fget fr 9=some v∧Dx h' fr 5 q5 a1 x1 m1 a2 x2 m2∧Dx h' fr 6 q6 c1 y1 k1 c2 y2 k2) nx) Q) nx:=by
 show Do (wpC _ _ _ _ (.seq _ _) fr hh) _ _
 have c1:decide ((l.length:Int)<4)=false:=decide_eq_false (by omega)
 simp -dsimp (disch:=omega) only[wpS,Nat.reduceEqDiff,f9,sl.1.len sl25,c1]
 exact⟨rfl,by simp[f3],by simp[f9],d5.to (Ext.refl _) (by simp),d6.to (Ext.refl _) (by simp)⟩
set_option maxHeartbeats 8000000 in
theorem m5 {q5 q6:Nat} {a1 a2 c1 c2:Bool} {x1 x2 y1 y2:Value} {m1 m2 k1 k2:Int} (f3:fget fr 3=some (.int .u8 lag)) (f9:fget fr 9=some v) (sl:ShSl hh v l) (d5:Dx hh fr 5 q5 a1 x1 m1 a2 x2 m2) (d6:Dx hh fr 6 q6 c1 y1 k1 c2 y2 k2):Do (wpC Proofs.Tryz.prog 8 262 none (partM 5) fr hh) (seqK (fun fr h'=>Pst (∃(b10 b11:Nat) (pa pb:Nat×Nat),isShort pa∧isShort pb∧MX hh h' fr [(3,.int .u8 lag),(9,v)] [(v,l)] [(10,b10,pa),(11,b11,pb)]) nx) Q) nx:=by
 show Do (wpC _ _ _ _ (.region _ _ _) fr hh) _ _
 obtain⟨g1,g2,g3,g4⟩:=d5.c
 obtain⟨g5,g6,g7,g8⟩:=d6.c
 have X0:=Ext.refl hh
 have n5:=d5.n
 have n6:=d6.n
 have L6:load Proofs.Tryz.prog hh 36 (ptr (2*q6) 0)=some (.agg #[.bool c1,y1,.int .u32 k1,.bool c2,y2,.int .u32 k2]):=by
  have r:=row_of d6.k
  simp -dsimp (maxSteps:=1000000) (disch:=first|omega|(simp only[new_n,put_n];omega)|decide +kernel|(repeat first|rw[new_n]|rw[put_n])) only[wpS,wpT,Nat.reduceLeDiff,Nat.reduceAdd,ld36,r]
  rfl
 refine drawn [(2,[1])] (by kernel_rfl) (by kernel_rfl) rfl ?_
 simp -dsimp (maxSteps:=1000000) (disch:=first|omega|(simp only[new_n,put_n];omega)|decide +kernel|(repeat first|rw[new_n]|rw[put_n])) only[wpS,wpT,Nat.reduceLeDiff,Nat.reduceAdd,ld36,d5.f,row_of d5.k]
 refine call (drshort_ok (by simpa using g1) (by simpa using g2) g3.1 g3.2 g4.1 g4.2) ?_
 rintro _ h1 ⟨X1,a,c,ha,hc,rfl⟩
 have sp:isShort (shq (Rat.divInt a c)):=⟨a,c,ha,hc,rfl⟩
 rw[shareV_shq]
 generalize shq (Rat.divInt a c)=pa at sp ⊢
 simp -dsimp (maxSteps:=1000000) (disch:=first|omega|(simp only[new_n,put_n];omega)|decide +kernel|(repeat first|rw[new_n]|rw[put_n])) only[wpS,wpT,Nat.reduceEqDiff,Nat.reduceLeDiff,Nat.reduceAdd,ld36,d6.f,row_of (X1.kept n6 d6.k)]
 refine call (drshort_ok (by simpa using g5) (by simpa using g6) g7.1 g7.2 g8.1 g8.2) ?_
 rintro _ h2 ⟨X2,a',c',ha',hc',rfl⟩
 have sp':isShort (shq (Rat.divInt a' c')):=⟨a',c',ha',hc',rfl⟩
 rw[shareV_shq]
 generalize shq (Rat.divInt a' c')=pb at sp' ⊢
 have X12:=X1.trans X2
 obtain⟨G,hG⟩ : ∃G,G=(((h2.new (.cells Z16 0 none)).new (.cells Z16 0 none)).put h2.n (.cells (shC pa.1 pa.2) 0 none)).put (h2.n+1) (.cells (shC pb.1 pb.2) 0 none):=⟨_,rfl⟩
 have nG:G.n=h2.n+2:=by rw[hG];rfl
 have kA:G.ext.get h2.n=some (.cells (shC pa.1 pa.2) 0 none):=by rw[hG];simp (disch:=first|omega|(simp only[new_n,put_n];omega)|(repeat first|rw[new_n]|rw[put_n])) only[get_put_same,get_put_old]
 have kB:G.ext.get (h2.n+1)=some (.cells (shC pb.1 pb.2) 0 none):=by rw[hG];simp (disch:=first|omega|(simp only[new_n,put_n];omega)|(repeat first|rw[new_n]|rw[put_n])) only[get_put_same]
 have EG:Ext h2 G:=by rw[hG];exact((((Ext.refl h2).new _).new _).put (by omega) _).put (by omega) _
 have VV:=X12.trans EG
 simp -dsimp (maxSteps:=1000000) (disch:=first|omega|(simp only[new_n,put_n];omega)|decide +kernel|(repeat first|rw[new_n]|rw[put_n])) only[wpS,wpT,Nat.reduceEqDiff,Nat.reduceLeDiff,Nat.reduceAdd,zc30,st30,shV_cells,shC_len,shC_all,sh_sp3]
 rw[←hG]
 refine⟨wpSteady_one rfl rfl rfl rfl (steady_ext (H0:=hh) (b:=2*q6) (o:=0) d6.f (by omega) X1 X0 L6),?_⟩
 simp -dsimp (maxSteps:=1000000) (disch:=first|omega|(simp only[new_n,put_n];omega)|decide +kernel|(repeat first|rw[new_n]|rw[put_n])) only[wpS,wpT,Nat.reduceAdd]
 refine⟨h2.n,h2.n+1,pa,pb,sp,sp',⟨VV,?_,?_,?_⟩⟩
 ·intro x hx
  simp at hx
  rcases hx with rfl|rfl
  ·simp[f3]
  ·simp[f9]
 ·intro x hx
  simp at hx
  subst hx
  exact sl.keep VV.keep
 ·intro x hx
  simp at hx
  rcases hx with rfl|rfl
  ·exact⟨by simp only;omega,kA,by simp⟩
  ·exact⟨by simp only;omega,kB,by simp⟩
end
end Go.Id

/-! The statement DiagnoseMoves, on the ideal machine: the lists moved, what is told of them. -/
namespace Go.Id
open Go
theorem mv_snoc {f:Rat→Rat} {l:List (Nat×Nat)} {k:Nat} {p:Nat×Nat} (h:l[k]?=some p):shL (mv f (l.take (k+1)))=shL (mv f (l.take k)) ++ shL [shq (f (rOf p))]:=by
 rw[take_snoc h]
 simp[mv,shL]
theorem MF.slY {h:IH} {v:Value} {f:Rat→Rat} {l:List (Nat×Nat)} {pa pb:Nat×Nat} {n:Nat} (m:MF l pa pb n) (hq : ∀p∈l,QW (f (rOf p))) (s:SlOf h 16 v l.length (shL (mv f l))):ShSl h v (mv f l) :=
 ⟨by rw[mv_len];exact s,by rw[mv_len];have:=m.sh.n;omega,(mv_ok hq).2⟩
section
variable {h hh:IH} {fr:Fr} {Q:IExit→Fr→IH→Prop} {v vy vz:Value} {lag:Int} {l:List (Nat×Nat)} {pa pb:Nat×Nat} {n b10 b11:Nat}
set_option maxHeartbeats 4000000 in
theorem m6 (x:MX h hh fr [(3,.int .u8 lag),(9,v)] [(v,l)] [(10,b10,pa),(11,b11,pb)]):Do (wpC Proofs.Tryz.prog 8 262 none (partM 6) fr hh) (seqK (fun fr h'=>Pst (MX h h' fr [(12,.slice none 0 0),(13,.slice none 0 0),(3,.int .u8 lag),(9,v)] [(v,l)] [(10,b10,pa),(11,b11,pb)]) nx) Q) nx:=by
 show Do (wpC _ _ _ _ (.region _ _ _) fr hh) _ _
 simp -dsimp (disch:=omega) only[wpS]
 exact((x.to (Ext.refl _) (by simp) (by simp)).addV (by simp)).addV (by simp)
set_option maxHeartbeats 16000000 in
theorem m7 (x:MX h hh fr [(12,.slice none 0 0),(13,.slice none 0 0),(3,.int .u8 lag),(9,v)] [(v,l)] [(10,b10,pa),(11,b11,pb)]) (mf:MF l pa pb n):Do (wpC Proofs.Tryz.prog 8 262 none (partM 7) fr hh) (seqK (fun fr h'=>Pst (∃vy vz,MX h h' fr [(12,vy),(13,vz),(3,.int .u8 lag),(9,v)] [(vy,mv (· + rOf pa) l),(vz,mv (· * rOf pb) l),(v,l)] [(11,b11,pb)]) nx) Q) nx:=by
 show Do (wpC _ _ _ _ (.seq _ _) fr hh) _ _
 have f3:fget fr 3=some (.int .u8 lag):=x.v (3,_) (by simp)
 have f9:fget fr 9=some v:=x.v (9,_) (by simp)
 have f12:fget fr 12=some (.slice none 0 0):=x.v (12,_) (by simp)
 have f13:fget fr 13=some (.slice none 0 0):=x.v (13,_) (by simp)
 have x10:Bx hh fr 10 b10 pa:=x.b (10,b10,pa) (by simp)
 have x11:Bx hh fr 11 b11 pb:=x.b (11,b11,pb) (by simp)
 have sl:ShSl hh v l:=x.s (v,l) (by simp)
 have hn12:=mf.sh.n
 simp -dsimp (disch:=omega) only[wpS,f9,sl.1.len sl25]
 refine loop (fun m fr gg => ∃(k:Nat) (vy vz:Value),k+m=l.length∧Ext hh gg∧Acc2 gg hh.n 16 vy vz k (shL (mv (· + rOf pa) (l.take k))) (shL (mv (· * rOf pb) (l.take k)))∧fget fr 3=some (.int .u8 lag)∧fget fr 9=some v∧fget fr 10=some (ptr (2*b10) 0)∧fget fr 11=some (ptr (2*b11) 0)∧fget fr 12=some vy∧fget fr 13=some vz∧fget fr 58=some v∧fget fr 59=some (KN l.length)∧fget fr 60=some (KN k)) l.length
  ⟨0,.slice none 0 0,.slice none 0 0,by omega,Ext.refl _,.inl ⟨rfl,rfl,rfl,by simp[mv,shL],by simp[mv,shL]⟩,by simp[f3],by simp[f9],by simp[x10.f],by simp[x11.f],by simp[f12],by simp[f13],by simp,by simp,by simp⟩ ?_
 rintro m fr gg ⟨k,vy,vz,hkm,E,A,f3,f9,f10,f11,f12,f13,f58,f59,f60⟩
 have slg:=sl.keep E.keep
 simp -dsimp (disch:=omega) only[wpS,f59,f60]
 refine bq_intro ?_ ?_<;>intro hc<;>simp only[decide_eq_true_eq,decide_eq_false_iff_not] at hc
 ·have hi:k<l.length:=by omega
  obtain⟨p,hpi⟩ : ∃p,l[k]?=some p:=⟨_,List.getElem?_eq_getElem hi⟩
  have hpm:=List.mem_of_getElem? hpi
  have sp:=mf.sh.s p hpm
  have qy:=mf.qy p hpm
  have qz:=mf.qz p hpm
  have ta:toldV (rOf p+rOf pa)=.tuple #[shV (shq (rOf p+rOf pa)).1 (shq (rOf p+rOf pa)).2,KI 0]:=toldV_of qy
  have tb:toldV (rOf p*rOf pb)=.tuple #[shV (shq (rOf p*rOf pb)).1 (shq (rOf p*rOf pb)).2,KI 0]:=toldV_of qz
  have EN:=E.n
  have n10:=x10.n
  have n11:=x11.n
  obtain⟨B0,hB0,nB,ZB,kB⟩:=box_put gg p
  simp -dsimp (disch:=omega) only[wpS,wpT,Nat.reduceEqDiff,Nat.reduceLeDiff,Nat.reduceAdd,zc30,st30,ld30,f58,f60,slg.1.idx es25 hi,sl.ld E.keep hpi,shV_cells,shC_len,shC_all,sh_sp3]
  rw[←hB0]
  clear hB0
  have EB:=E.trans ZB
  simp -dsimp (disch:=omega) only[wpS,Nat.reduceEqDiff,Nat.reduceLeDiff,ld30,f10,row_of (EB.kept n10 x10.k),shC_len,sh_take]
  refine call (shadd_ok (p1:=p) (p2:=pa) sp.lt mf.a.lt sp.ok.1 mf.a.ok.1) ?_
  rintro _ h1 ⟨X1,rfl⟩
  rw[ta]
  obtain⟨G1,hG1,n1,Z1,k1⟩:=box_put h1 (shq (rOf p+rOf pa))
  simp -dsimp (disch:=omega) only[wpS,wpT,Nat.reduceEqDiff,Nat.reduceLeDiff,Nat.reduceAdd,zc30,st30,ld30,shV_cells,shC_len,shC_all,sh_sp3]
  rw[←hG1]
  clear hG1
  have V1:=X1.trans Z1
  have m1:=V1.n
  simp -dsimp (disch:=omega) only[wpS,Nat.reduceEqDiff,Nat.reduceLeDiff,ld30,row_of (V1.kept (by omega) kB),f11,row_of ((EB.trans V1).kept n11 x11.k),shC_len,sh_take]
  refine call (shmul_ok (p1:=p) (p2:=pb) sp.lt mf.b.lt sp.ok.1 mf.b.ok.1) ?_
  rintro _ h2 ⟨X2,rfl⟩
  rw[tb]
  obtain⟨G2,hG2,n2,Z2,k2⟩:=box_put h2 (shq (rOf p*rOf pb))
  simp -dsimp (disch:=omega) only[wpS,wpT,Nat.reduceEqDiff,Nat.reduceLeDiff,Nat.reduceAdd,zc30,st30,shV_cells,shC_len,shC_all,sh_sp3]
  rw[←hG2]
  clear hG2
  have V2:=X2.trans Z2
  have m2:=V2.n
  have E2:=EB.trans (V1.trans V2)
  have E2n:=E2.n
  have k1':=V2.kept (by omega) k1
  have bb : ∀(hx:IH) (q:Rat),buildSlice Proofs.Tryz.prog hx 25 1 [(0,.agg (shC (shq q).1 (shq q).2).toArray)]=some (.slice (some ⟨2*hx.n,0,none⟩) 1 3,hx.new (.cells (shL [shq q]) 16 none)):=fun hx q=>build1 _ _
  obtain⟨vy',g1,vz',g2,a1,a2,A',Gr1,Gr2,E3⟩:=(A.ext (ZB.trans (V1.trans V2))).round (P:=Proofs.Tryz.prog) (t:=25) ap25 (by omega) (new1:=shL [shq (rOf p+rOf pa)]) (new2:=shL [shq (rOf p*rOf pb)]) (by rw[shL_len];rfl) (by rw[shL_len];rfl) (shL_all _) (shL_all _) (by omega) (by omega) E2 (Nat.le_refl _)
  have k1g:=Gr1.var (by omega) k1'
  have k2g:=Gr1.var (by omega) k2
  have gn1:=Gr1.n
  have W1:=(Ext.refl G2).new (.cells (shL [shq (rOf p+rOf pa)]) 16 none)
  have W2:=(Ext.refl g1).new (.cells (shL [shq (rOf p*rOf pb)]) 16 none)
  have L1:=(psh k1').2.2
  have L1':=(psh (W1.kept (by omega) k1')).2.2
  have L2:=(psh k2g).2.2
  have L2':=(psh (W1.kept (by omega) k2)).2.2
  have L2w:=(psh (W2.kept (by omega) k2g)).2.2
  refine drawn [(1,[3]),(5,[3,7])] (by kernel_rfl) (by kernel_rfl) rfl ?_
  simp -dsimp (disch:=omega) only[wpS,Nat.reduceEqDiff,Nat.reduceLeDiff,ld30,ba25_25,f12,f13,row_of k1',row_of k2g,shC_len,sh_take,bb,a1,a2]
  refine⟨wpSteady_c2 (wpSteady_one rfl rfl rfl rfl (steady_load rfl L1 L1')) (wpSteady_t2 (wpSteady_one rfl rfl rfl rfl (steady_load rfl L2 L2')) (wpSteady_one rfl rfl rfl rfl (steady_load rfl L2 L2w))),?_⟩
  simp -dsimp (disch:=omega) only[wpS,wpT,Nat.reduceEqDiff,Nat.reduceAdd,f60]
  refine⟨m - 1,by omega,k+1,vy',vz',by omega,E3,?_,by simp[f3],by simp[f9],by simp[f10],by simp[f11],by simp,by simp,by simp[f58],by simp[f59],by simp⟩
  rw[mv_snoc hpi,mv_snoc hpi]
  exact A'
 ·obtain rfl:k=l.length:=by omega
  rw[List.take_of_length_le (by omega)] at A
  simp -dsimp (disch:=omega) only[wpS,wpT]
  obtain⟨sy,sz⟩:=A.sl (by omega)
  refine⟨vy,vz,⟨x.e.trans E,?_,?_,?_⟩⟩
  ·intro y hy
   simp at hy
   rcases hy with rfl|rfl|rfl|rfl
   ·simp[f12]
   ·simp[f13]
   ·simp[f3]
   ·simp[f9]
  ·intro y hy
   simp at hy
   rcases hy with rfl|rfl|rfl
   ·exact mf.slY mf.qy sy
   ·exact mf.slY mf.qz sz
   ·exact slg
  ·intro y hy
   simp at hy
   subst hy
   exact⟨by have:=E.n;have:=x11.n;simp only;omega,E.kept x11.n x11.k,by simp[f11]⟩
end
end Go.Id

/-! The statement DiagnoseMoves, on the ideal machine: the numbers of the lists. -/
namespace Go.Id
open Go
abbrev twoV:Value:=(.func (.func 39) #[] #[])
abbrev sameV:Value:=(.func (.func 40) #[] #[])
def aOf (l:List (Nat×Nat)) (k:Nat):Rat:=qauto (l.map rOf) (qmean (l.map rOf)) k
def wOf (l:List (Nat×Nat)) (n:Nat):Rat:=qwithin [l.take n,l.drop n]
theorem eff_form (l:List (Nat×Nat)) : ∃(p:Nat×Nat) (e:Int),(p.1<W8∧p.2<W8)∧effRes l=.tuple #[shV p.1 p.2,KI e]:=by
 have h0:(0:Nat)<W8:=by decide +kernel
 have ht : ∀q:Rat,∃(p:Nat×Nat) (e:Int),(p.1<W8∧p.2<W8)∧toldV q=.tuple #[shV p.1 p.2,KI e]:=fun q=>by
  unfold toldV
  split
  ·rename_i hq
   exact⟨shq q,0,shq_lt hq,rfl⟩
  ·exact⟨(0,0),6,⟨h0,h0⟩,rfl⟩
 unfold effRes
 split
 ·split
  ·exact⟨(0,0),7,⟨h0,h0⟩,rfl⟩
  ·exact ht _
 ·exact⟨(0,0),_,⟨h0,h0⟩,rfl⟩
theorem rat_form (ll:List (List (Nat×Nat))) (h:svErr ll=0) : ∃(p:Nat×Nat) (e:Int),(p.1<W8∧p.2<W8)∧ratioRes ll=.tuple #[shV p.1 p.2,KI e]:=by
 obtain⟨p,e,h1,h2,_⟩:=ratio_cases ll h
 exact⟨p,e,h1,h2⟩
section
variable {h hh:IH} {fr:Fr} {Q:IExit→Fr→IH→Prop} {v vy vz:Value} {lag:Int} {l:List (Nat×Nat)} {pa pb:Nat×Nat} {n k b11 b20 b24 b26 b28 b30 b33 b34 b35 b36 b37 b39:Nat} {p1 p2:Nat×Nat} {e1 e2:Int}
set_option maxHeartbeats 4000000 in
theorem m8 (x:MX h hh fr [(12,vy),(13,vz),(3,.int .u8 lag),(9,v)] [(vy,mv (· + rOf pa) l),(vz,mv (· * rOf pb) l),(v,l)] [(11,b11,pb)]) (mf:MF l pa pb n):Do (wpC Proofs.Tryz.prog 8 262 none (partM 8) fr hh) (seqK (fun fr h'=>Pst (∃b20,MX h h' fr [(12,vy),(13,vz),(3,.int .u8 lag),(9,v)] [(vy,mv (· + rOf pa) l),(vz,mv (· * rOf pb) l),(v,l)] [(20,b20,shq (rOf pb*rOf pb)),(11,b11,pb)]) nx) Q) nx:=by
 show Do (wpC _ _ _ _ (.region _ _ _) fr hh) _ _
 have x11:Bx hh fr 11 b11 (pb):=x.b (11,b11,pb) (by simp)
 have ta:toldV (rOf pb*rOf pb)=.tuple #[shV (shq (rOf pb*rOf pb)).1 (shq (rOf pb*rOf pb)).2,KI 0]:=toldV_of mf.qbb
 simp -dsimp (disch:=omega) only[wpS,Nat.reduceEqDiff,Nat.reduceLeDiff,ld30,x11.f,x11.r (Ext.refl _),shC_len,sh_take]
 refine call (shmul_ok (p1:=pb) (p2:=pb) mf.b.lt mf.b.lt mf.b.ok.1 mf.b.ok.1) ?_
 rintro _ h1 ⟨X1,rfl⟩
 rw[ta]
 obtain⟨G1,hG1,nG1,ZG1,kG1⟩:=box_put h1 (shq (rOf pb*rOf pb))
 simp -dsimp (disch:=omega) only[wpS,wpT,Nat.reduceEqDiff,Nat.reduceLeDiff,Nat.reduceAdd,zc30,st30,shV_cells,shC_len,shC_all,sh_sp3]
 rw[←hG1]
 clear hG1
 have V:=X1.trans ZG1
 have x':=x
 exact⟨h1.n,((x'.to V (by simp) (by simp))).addB ⟨by omega,kG1,by simp⟩⟩
set_option maxHeartbeats 4000000 in
theorem m9 (x:MX h hh fr [(12,vy),(13,vz),(3,.int .u8 lag),(9,v)] [(vy,mv (· + rOf pa) l),(vz,mv (· * rOf pb) l),(v,l)] [(20,b20,shq (rOf pb*rOf pb)),(11,b11,pb)]) (mf:MF l pa pb n) (hl:0≤lag∧lag<256):Do (wpC Proofs.Tryz.prog 8 262 none (partM 9) fr hh) (seqK (fun fr h'=>Pst (∃k,k<l.length∧MX h h' fr [(22,KN k),(12,vy),(13,vz),(9,v)] [(vy,mv (· + rOf pa) l),(vz,mv (· * rOf pb) l),(v,l)] [(20,b20,shq (rOf pb*rOf pb)),(11,b11,pb)]) nx) Q) nx:=by
 show Do (wpC _ _ _ _ (.region _ _ _) fr hh) _ _
 have f3:fget fr 3=some (.int .u8 lag):=x.v (3,_) (by simp)
 have f9:fget fr 9=some (v):=x.v (9,_) (by simp)
 have sl:ShSl hh v l:=x.s (v,l) (.tail _ (.tail _ (.head _)))
 have sy:ShSl hh vy (mv (· + rOf pa) l):=x.s (vy,_) (.head _)
 have sz:ShSl hh vz (mv (· * rOf pb) l):=x.s (vz,_) (.tail _ (.head _))
 have hn12:=mf.sh.n
 have e : ∃k:Nat,k<l.length∧lag % (l.length:Int)=(k:Int):=by
  have hp:=mf.sh.pos
  have h1:=Int.emod_nonneg lag (b:=(l.length:Int)) (by omega)
  have h2:=Int.emod_lt_of_pos lag (b:=(l.length:Int)) (by omega)
  exact⟨(lag % (l.length:Int)).toNat,by omega,by omega⟩
 obtain⟨k,hk,e⟩:=e
 have hn0:l.length≠0:=by omega
 simp -dsimp (disch:=omega) only[wpS,Nat.reduceEqDiff,cv5_3,f3,f9,sl.1.len sl25,e]
 exact⟨k,hk,((x.dropV (vs':=[(12,vy),(13,vz),(9,v)]) (by simp)).to (Ext.refl _) (by simp) (by simp)).addV (by simp)⟩
set_option maxHeartbeats 4000000 in
theorem m10 (x:MX h hh fr [(22,KN k),(12,vy),(13,vz),(9,v)] [(vy,mv (· + rOf pa) l),(vz,mv (· * rOf pb) l),(v,l)] [(20,b20,shq (rOf pb*rOf pb)),(11,b11,pb)]):Do (wpC Proofs.Tryz.prog 8 262 none (partM 10) fr hh) (seqK (fun fr h'=>Pst (MX h h' fr [(23,twoV),(22,KN k),(12,vy),(13,vz),(9,v)] [(vy,mv (· + rOf pa) l),(vz,mv (· * rOf pb) l),(v,l)] [(20,b20,shq (rOf pb*rOf pb)),(11,b11,pb)]) nx) Q) nx:=by
 show Do (wpC _ _ _ _ (.region _ _ _) fr hh) _ _
 simp -dsimp (disch:=omega) only[wpS]
 exact(x.to (Ext.refl _) (by simp) (by simp)).addV (by simp)
set_option maxHeartbeats 4000000 in
theorem m11 (x:MX h hh fr [(23,twoV),(22,KN k),(12,vy),(13,vz),(9,v)] [(vy,mv (· + rOf pa) l),(vz,mv (· * rOf pb) l),(v,l)] [(20,b20,shq (rOf pb*rOf pb)),(11,b11,pb)]) (mf:MF l pa pb n) (hk:k<l.length):Do (wpC Proofs.Tryz.prog 8 262 none (partM 11) fr hh) (seqK (fun fr h'=>Pst (∃b24,MX h h' fr [(25,KI 0),(23,twoV),(22,KN k),(12,vy),(13,vz),(9,v)] [(vy,mv (· + rOf pa) l),(vz,mv (· * rOf pb) l),(v,l)] [(24,b24,shq (aOf l k)),(20,b20,shq (rOf pb*rOf pb)),(11,b11,pb)]) nx) Q) nx:=by
 show Do (wpC _ _ _ _ (.region _ _ _) fr hh) _ _
 have f9:fget fr 9=some (v):=x.v (9,_) (by simp)
 have f22:fget fr 22=some (KN k):=x.v (22,_) (by simp)
 have sl:ShSl hh v l:=x.s (v,l) (.tail _ (.tail _ (.head _)))
 have sy:ShSl hh vy (mv (· + rOf pa) l):=x.s (vy,_) (.head _)
 have sz:ShSl hh vz (mv (· * rOf pb) l):=x.s (vz,_) (.tail _ (.head _))
 have hn12:=mf.sh.n
 have hr:autoRes l (k:Int)=.tuple #[shV (shq (aOf l k)).1 (shq (aOf l k)).2,KI 0]:=mf.autoX hk
 simp -dsimp (disch:=omega) only[wpS,Nat.reduceEqDiff,f9,f22]
 refine call (gAuto sl (.inl mf.sh.n) ((k:Nat):Int)) ?_
 rintro _ h1 ⟨X1,rfl⟩
 rw[hr]
 obtain⟨G1,hG1,nG1,ZG1,kG1⟩:=box_put h1 (shq (aOf l k))
 simp -dsimp (disch:=omega) only[wpS,wpT,Nat.reduceEqDiff,Nat.reduceLeDiff,Nat.reduceAdd,zc30,st30,shV_cells,shC_len,shC_all,sh_sp3]
 rw[←hG1]
 clear hG1
 have V:=X1.trans ZG1
 have x':=x
 exact⟨h1.n,((x'.to V (by simp) (by simp)).addV (by simp)).addB ⟨by omega,kG1,by simp⟩⟩
set_option maxHeartbeats 4000000 in
theorem m12 (x:MX h hh fr [(25,KI 0),(23,twoV),(22,KN k),(12,vy),(13,vz),(9,v)] [(vy,mv (· + rOf pa) l),(vz,mv (· * rOf pb) l),(v,l)] [(24,b24,shq (aOf l k)),(20,b20,shq (rOf pb*rOf pb)),(11,b11,pb)]) (mf:MF l pa pb n):Do (wpC Proofs.Tryz.prog 8 262 none (partM 12) fr hh) (seqK (fun fr h'=>Pst (∃b26,MX h h' fr [(27,KI 0),(25,KI 0),(23,twoV),(22,KN k),(12,vy),(13,vz),(9,v)] [(vy,mv (· + rOf pa) l),(vz,mv (· * rOf pb) l),(v,l)] [(26,b26,shq (wOf l n)),(24,b24,shq (aOf l k)),(20,b20,shq (rOf pb*rOf pb)),(11,b11,pb)]) nx) Q) nx:=by
 show Do (wpC _ _ _ _ (.region _ _ _) fr hh) _ _
 have f9:fget fr 9=some (v):=x.v (9,_) (by simp)
 have f23:fget fr 23=some (twoV):=x.v (23,_) (by simp)
 have sl:ShSl hh v l:=x.s (v,l) (.tail _ (.tail _ (.head _)))
 have sy:ShSl hh vy (mv (· + rOf pa) l):=x.s (vy,_) (.head _)
 have sz:ShSl hh vz (mv (· * rOf pb) l):=x.s (vz,_) (.tail _ (.head _))
 have hn12:=mf.sh.n
 have hr:withinRes [l.take n,l.drop n]=.tuple #[shV (shq (wOf l n)).1 (shq (wOf l n)).2,KI 0]:=mf.withX
 simp -dsimp (disch:=omega) only[wpS,Nat.reduceEqDiff,f9,f23]
 refine call (two1_ok sl mf.hl (by have:=mf.n6;omega)) ?_
 rintro _ h1 ⟨X1,s1⟩
 simp -dsimp (disch:=omega) only[wpS,Nat.reduceEqDiff]
 refine call (gWithin s1 mf.t.fit) ?_
 rintro _ h2 ⟨X2,rfl⟩
 rw[hr]
 obtain⟨G1,hG1,nG1,ZG1,kG1⟩:=box_put h2 (shq (wOf l n))
 simp -dsimp (disch:=omega) only[wpS,wpT,Nat.reduceEqDiff,Nat.reduceLeDiff,Nat.reduceAdd,zc30,st30,shV_cells,shC_len,shC_all,sh_sp3]
 rw[←hG1]
 clear hG1
 have V:=(X1.trans X2).trans ZG1
 have x':=x
 exact⟨h2.n,((x'.to V (by simp) (by simp)).addV (by simp)).addB ⟨by omega,kG1,by simp⟩⟩
set_option maxHeartbeats 4000000 in
theorem m13 (x:MX h hh fr [(27,KI 0),(25,KI 0),(23,twoV),(22,KN k),(12,vy),(13,vz),(9,v)] [(vy,mv (· + rOf pa) l),(vz,mv (· * rOf pb) l),(v,l)] [(26,b26,shq (wOf l n)),(24,b24,shq (aOf l k)),(20,b20,shq (rOf pb*rOf pb)),(11,b11,pb)]) (mf:MF l pa pb n):Do (wpC Proofs.Tryz.prog 8 262 none (partM 13) fr hh) (seqK (fun fr h'=>Pst (∃b28,MX h h' fr [(29,KI 0),(27,KI 0),(25,KI 0),(23,twoV),(22,KN k),(12,vy),(13,vz),(9,v)] [(vy,mv (· + rOf pa) l),(vz,mv (· * rOf pb) l),(v,l)] [(28,b28,shq (aOf l k*(rOf pb*rOf pb))),(26,b26,shq (wOf l n)),(24,b24,shq (aOf l k)),(20,b20,shq (rOf pb*rOf pb)),(11,b11,pb)]) nx) Q) nx:=by
 show Do (wpC _ _ _ _ (.region _ _ _) fr hh) _ _
 have x24:Bx hh fr 24 b24 (shq (aOf l k)):=x.b (24,b24,shq (aOf l k)) (by simp)
 have x20:Bx hh fr 20 b20 (shq (rOf pb*rOf pb)):=x.b (20,b20,shq (rOf pb*rOf pb)) (by simp)
 have o:=mf.oA k
 obtain⟨r1,r2⟩:=rOf_shq (q:=aOf l k) o.1
 obtain⟨r3,r4⟩:=rOf_shq mf.qbb
 have ta:toldV (aOf l k*(rOf pb*rOf pb))=.tuple #[shV (shq (aOf l k*(rOf pb*rOf pb))).1 (shq (aOf l k*(rOf pb*rOf pb))).2,KI 0]:=toldV_of o.2
 simp -dsimp (disch:=omega) only[wpS,Nat.reduceEqDiff,Nat.reduceLeDiff,ld30,x24.f,x24.r (Ext.refl _),x20.f,x20.r (Ext.refl _),shC_len,sh_take]
 refine call (shmul_ok (p1:=shq (aOf l k)) (p2:=shq (rOf pb*rOf pb)) (shq_lt o.1) (shq_lt mf.qbb) r2 r4) ?_
 rintro _ h1 ⟨X1,rfl⟩
 rw[r1,r3,ta]
 obtain⟨G1,hG1,nG1,ZG1,kG1⟩:=box_put h1 (shq (aOf l k*(rOf pb*rOf pb)))
 simp -dsimp (disch:=omega) only[wpS,wpT,Nat.reduceEqDiff,Nat.reduceLeDiff,Nat.reduceAdd,zc30,st30,shV_cells,shC_len,shC_all,sh_sp3]
 rw[←hG1]
 clear hG1
 have V:=X1.trans ZG1
 have x':=x
 exact⟨h1.n,((x'.to V (by simp) (by simp)).addV (by simp)).addB ⟨by omega,kG1,by simp⟩⟩
set_option maxHeartbeats 4000000 in
theorem m14 (x:MX h hh fr [(29,KI 0),(27,KI 0),(25,KI 0),(23,twoV),(22,KN k),(12,vy),(13,vz),(9,v)] [(vy,mv (· + rOf pa) l),(vz,mv (· * rOf pb) l),(v,l)] [(28,b28,shq (aOf l k*(rOf pb*rOf pb))),(26,b26,shq (wOf l n)),(24,b24,shq (aOf l k)),(20,b20,shq (rOf pb*rOf pb)),(11,b11,pb)]) (mf:MF l pa pb n):Do (wpC Proofs.Tryz.prog 8 262 none (partM 14) fr hh) (seqK (fun fr h'=>Pst (∃b30,MX h h' fr [(31,KI 0),(29,KI 0),(27,KI 0),(25,KI 0),(23,twoV),(22,KN k),(12,vy),(13,vz),(9,v)] [(vy,mv (· + rOf pa) l),(vz,mv (· * rOf pb) l),(v,l)] [(30,b30,shq (wOf l n*(rOf pb*rOf pb))),(28,b28,shq (aOf l k*(rOf pb*rOf pb))),(26,b26,shq (wOf l n)),(24,b24,shq (aOf l k)),(20,b20,shq (rOf pb*rOf pb)),(11,b11,pb)]) nx) Q) nx:=by
 show Do (wpC _ _ _ _ (.region _ _ _) fr hh) _ _
 have x26:Bx hh fr 26 b26 (shq (wOf l n)):=x.b (26,b26,shq (wOf l n)) (by simp)
 have x20:Bx hh fr 20 b20 (shq (rOf pb*rOf pb)):=x.b (20,b20,shq (rOf pb*rOf pb)) (by simp)
 have o:=mf.oW
 obtain⟨r1,r2⟩:=rOf_shq (q:=wOf l n) o.1
 obtain⟨r3,r4⟩:=rOf_shq mf.qbb
 have ta:toldV (wOf l n*(rOf pb*rOf pb))=.tuple #[shV (shq (wOf l n*(rOf pb*rOf pb))).1 (shq (wOf l n*(rOf pb*rOf pb))).2,KI 0]:=toldV_of o.2
 simp -dsimp (disch:=omega) only[wpS,Nat.reduceEqDiff,Nat.reduceLeDiff,ld30,x26.f,x26.r (Ext.refl _),x20.f,x20.r (Ext.refl _),shC_len,sh_take]
 refine call (shmul_ok (p1:=shq (wOf l n)) (p2:=shq (rOf pb*rOf pb)) (shq_lt o.1) (shq_lt mf.qbb) r2 r4) ?_
 rintro _ h1 ⟨X1,rfl⟩
 rw[r1,r3,ta]
 obtain⟨G1,hG1,nG1,ZG1,kG1⟩:=box_put h1 (shq (wOf l n*(rOf pb*rOf pb)))
 simp -dsimp (disch:=omega) only[wpS,wpT,Nat.reduceEqDiff,Nat.reduceLeDiff,Nat.reduceAdd,zc30,st30,shV_cells,shC_len,shC_all,sh_sp3]
 rw[←hG1]
 clear hG1
 have V:=X1.trans ZG1
 have x':=x
 exact⟨h1.n,((x'.to V (by simp) (by simp)).addV (by simp)).addB ⟨by omega,kG1,by simp⟩⟩
set_option maxHeartbeats 4000000 in
theorem m15 (x:MX h hh fr [(31,KI 0),(29,KI 0),(27,KI 0),(25,KI 0),(23,twoV),(22,KN k),(12,vy),(13,vz),(9,v)] [(vy,mv (· + rOf pa) l),(vz,mv (· * rOf pb) l),(v,l)] [(30,b30,shq (wOf l n*(rOf pb*rOf pb))),(28,b28,shq (aOf l k*(rOf pb*rOf pb))),(26,b26,shq (wOf l n)),(24,b24,shq (aOf l k)),(20,b20,shq (rOf pb*rOf pb)),(11,b11,pb)]):Do (wpC Proofs.Tryz.prog 8 262 none (partM 15) fr hh) (seqK (fun fr h'=>Pst (MX h h' fr [(31,KI 0),(29,KI 0),(27,KI 0),(25,KI 0),(23,twoV),(22,KN k),(12,vy),(13,vz),(9,v)] [(vy,mv (· + rOf pa) l),(vz,mv (· * rOf pb) l),(v,l)] [(30,b30,shq (wOf l n*(rOf pb*rOf pb))),(28,b28,shq (aOf l k*(rOf pb*rOf pb))),(26,b26,shq (wOf l n)),(24,b24,shq (aOf l k)),(20,b20,shq (rOf pb*rOf pb)),(11,b11,pb)]) nx) Q) nx:=by
 show Do (wpC _ _ _ _ (.seq _ _) fr hh) _ _
 have f25:fget fr 25=some (KI 0):=x.v (25,_) (by simp)
 have f27:fget fr 27=some (KI 0):=x.v (27,_) (by simp)
 have f29:fget fr 29=some (KI 0):=x.v (29,_) (by simp)
 have f31:fget fr 31=some (KI 0):=x.v (31,_) (by simp)
 simp -dsimp (disch:=omega) only[wpS,wpT,Nat.reduceEqDiff,f25,f27,f29,f31]
 exact x.to (Ext.refl _) (by simp) (by simp)
set_option maxHeartbeats 4000000 in
theorem m16 (x:MX h hh fr [(31,KI 0),(29,KI 0),(27,KI 0),(25,KI 0),(23,twoV),(22,KN k),(12,vy),(13,vz),(9,v)] [(vy,mv (· + rOf pa) l),(vz,mv (· * rOf pb) l),(v,l)] [(30,b30,shq (wOf l n*(rOf pb*rOf pb))),(28,b28,shq (aOf l k*(rOf pb*rOf pb))),(26,b26,shq (wOf l n)),(24,b24,shq (aOf l k)),(20,b20,shq (rOf pb*rOf pb)),(11,b11,pb)]):Do (wpC Proofs.Tryz.prog 8 262 none (partM 16) fr hh) (seqK (fun fr h'=>Pst (MX h h' fr [(32,sameV),(31,KI 0),(29,KI 0),(27,KI 0),(25,KI 0),(23,twoV),(22,KN k),(12,vy),(13,vz),(9,v)] [(vy,mv (· + rOf pa) l),(vz,mv (· * rOf pb) l),(v,l)] [(30,b30,shq (wOf l n*(rOf pb*rOf pb))),(28,b28,shq (aOf l k*(rOf pb*rOf pb))),(26,b26,shq (wOf l n)),(24,b24,shq (aOf l k)),(20,b20,shq (rOf pb*rOf pb)),(11,b11,pb)]) nx) Q) nx:=by
 show Do (wpC _ _ _ _ (.region _ _ _) fr hh) _ _
 simp -dsimp (disch:=omega) only[wpS]
 exact(x.to (Ext.refl _) (by simp) (by simp)).addV (by simp)
end
end Go.Id

/-! The statement DiagnoseMoves, on the ideal machine: what is told of the lists, compared. -/
namespace Go.Id
open Go
theorem ShLs.mv {h:IH} {v:Value} {f:Rat→Rat} {l:List (Nat×Nat)} {n:Nat} (s:ShLs h v [(mv f l).take n,(mv f l).drop n]):ShLs h v [mv f (l.take n),mv f (l.drop n)]:=by
 rw[mv_take,mv_drop] at s
 exact s
section
variable {h hh:IH} {fr:Fr} {Q:IExit→Fr→IH→Prop} {v vy vz:Value} {lag:Int} {l:List (Nat×Nat)} {pa pb:Nat×Nat} {n k b11 b20 b24 b26 b28 b30 b33 b34 b35 b36 b37 b39:Nat} {p1 p2:Nat×Nat} {e1 e2:Int}
set_option maxHeartbeats 4000000 in
theorem m17 (x:MX h hh fr [(32,sameV),(31,KI 0),(29,KI 0),(27,KI 0),(25,KI 0),(23,twoV),(22,KN k),(12,vy),(13,vz),(9,v)] [(vy,mv (· + rOf pa) l),(vz,mv (· * rOf pb) l),(v,l)] [(30,b30,shq (wOf l n*(rOf pb*rOf pb))),(28,b28,shq (aOf l k*(rOf pb*rOf pb))),(26,b26,shq (wOf l n)),(24,b24,shq (aOf l k)),(20,b20,shq (rOf pb*rOf pb)),(11,b11,pb)]) (mf:MF l pa pb n) (he:effRes l=.tuple #[shV p1.1 p1.2,KI e1]):Do (wpC Proofs.Tryz.prog 8 262 none (partM 17) fr hh) (seqK (fun fr h'=>Pst (∃b33,MX h h' fr [(25,KI e1),(32,sameV),(31,KI 0),(29,KI 0),(27,KI 0),(23,twoV),(22,KN k),(12,vy),(13,vz),(9,v)] [(vy,mv (· + rOf pa) l),(vz,mv (· * rOf pb) l),(v,l)] [(33,b33,p1),(30,b30,shq (wOf l n*(rOf pb*rOf pb))),(28,b28,shq (aOf l k*(rOf pb*rOf pb))),(26,b26,shq (wOf l n)),(24,b24,shq (aOf l k)),(20,b20,shq (rOf pb*rOf pb)),(11,b11,pb)]) nx) Q) nx:=by
 show Do (wpC _ _ _ _ (.region _ _ _) fr hh) _ _
 have f9:fget fr 9=some (v):=x.v (9,_) (by simp)
 have sl:ShSl hh v l:=x.s (v,l) (.tail _ (.tail _ (.head _)))
 have sy:ShSl hh vy (mv (· + rOf pa) l):=x.s (vy,_) (.head _)
 have sz:ShSl hh vz (mv (· * rOf pb) l):=x.s (vz,_) (.tail _ (.head _))
 have hn12:=mf.sh.n
 simp -dsimp (disch:=omega) only[wpS,f9]
 refine call (gEff sl (.inl mf.sh.n)) ?_
 rintro _ h1 ⟨X1,rfl⟩
 rw[he]
 obtain⟨G1,hG1,nG1,ZG1,kG1⟩:=box_put h1 (p1)
 simp -dsimp (disch:=omega) only[wpS,wpT,Nat.reduceEqDiff,Nat.reduceLeDiff,Nat.reduceAdd,zc30,st30,shV_cells,shC_len,shC_all,sh_sp3]
 rw[←hG1]
 clear hG1
 have V:=X1.trans ZG1
 have x':=x.dropV (vs':=[(32,sameV),(31,KI 0),(29,KI 0),(27,KI 0),(23,twoV),(22,KN k),(12,vy),(13,vz),(9,v)]) (by simp)
 exact⟨h1.n,((x'.to V (by simp) (by simp)).addV (by simp)).addB ⟨by omega,kG1,by simp⟩⟩
set_option maxHeartbeats 4000000 in
theorem m18 (x:MX h hh fr [(25,KI e1),(32,sameV),(31,KI 0),(29,KI 0),(27,KI 0),(23,twoV),(22,KN k),(12,vy),(13,vz),(9,v)] [(vy,mv (· + rOf pa) l),(vz,mv (· * rOf pb) l),(v,l)] [(33,b33,p1),(30,b30,shq (wOf l n*(rOf pb*rOf pb))),(28,b28,shq (aOf l k*(rOf pb*rOf pb))),(26,b26,shq (wOf l n)),(24,b24,shq (aOf l k)),(20,b20,shq (rOf pb*rOf pb)),(11,b11,pb)]) (mf:MF l pa pb n) (he:effRes l=.tuple #[shV p1.1 p1.2,KI e1]):Do (wpC Proofs.Tryz.prog 8 262 none (partM 18) fr hh) (seqK (fun fr h'=>Pst (∃b34,MX h h' fr [(27,KI e1),(25,KI e1),(32,sameV),(31,KI 0),(29,KI 0),(23,twoV),(22,KN k),(12,vy),(13,vz),(9,v)] [(vy,mv (· + rOf pa) l),(vz,mv (· * rOf pb) l),(v,l)] [(34,b34,p1),(33,b33,p1),(30,b30,shq (wOf l n*(rOf pb*rOf pb))),(28,b28,shq (aOf l k*(rOf pb*rOf pb))),(26,b26,shq (wOf l n)),(24,b24,shq (aOf l k)),(20,b20,shq (rOf pb*rOf pb)),(11,b11,pb)]) nx) Q) nx:=by
 show Do (wpC _ _ _ _ (.region _ _ _) fr hh) _ _
 have f12:fget fr 12=some (vy):=x.v (12,_) (by simp)
 have sl:ShSl hh v l:=x.s (v,l) (.tail _ (.tail _ (.head _)))
 have sy:ShSl hh vy (mv (· + rOf pa) l):=x.s (vy,_) (.head _)
 have sz:ShSl hh vz (mv (· * rOf pb) l):=x.s (vz,_) (.tail _ (.head _))
 have hn12:=mf.sh.n
 simp -dsimp (disch:=omega) only[wpS,f12]
 refine call (gEff sy (.inl (by rw[mv_len];exact mf.sh.n))) ?_
 rintro _ h1 ⟨X1,rfl⟩
 rw[mf.effY,he]
 obtain⟨G1,hG1,nG1,ZG1,kG1⟩:=box_put h1 (p1)
 simp -dsimp (disch:=omega) only[wpS,wpT,Nat.reduceEqDiff,Nat.reduceLeDiff,Nat.reduceAdd,zc30,st30,shV_cells,shC_len,shC_all,sh_sp3]
 rw[←hG1]
 clear hG1
 have V:=X1.trans ZG1
 have x':=x.dropV (vs':=[(25,KI e1),(32,sameV),(31,KI 0),(29,KI 0),(23,twoV),(22,KN k),(12,vy),(13,vz),(9,v)]) (by simp)
 exact⟨h1.n,((x'.to V (by simp) (by simp)).addV (by simp)).addB ⟨by omega,kG1,by simp⟩⟩
set_option maxHeartbeats 4000000 in
theorem m19 (x:MX h hh fr [(27,KI e1),(25,KI e1),(32,sameV),(31,KI 0),(29,KI 0),(23,twoV),(22,KN k),(12,vy),(13,vz),(9,v)] [(vy,mv (· + rOf pa) l),(vz,mv (· * rOf pb) l),(v,l)] [(34,b34,p1),(33,b33,p1),(30,b30,shq (wOf l n*(rOf pb*rOf pb))),(28,b28,shq (aOf l k*(rOf pb*rOf pb))),(26,b26,shq (wOf l n)),(24,b24,shq (aOf l k)),(20,b20,shq (rOf pb*rOf pb)),(11,b11,pb)]) (mf:MF l pa pb n) (hr:ratioRes [l.take n,l.drop n]=.tuple #[shV p2.1 p2.2,KI e2]):Do (wpC Proofs.Tryz.prog 8 262 none (partM 19) fr hh) (seqK (fun fr h'=>Pst (∃b35,MX h h' fr [(29,KI e2),(27,KI e1),(25,KI e1),(32,sameV),(31,KI 0),(23,twoV),(22,KN k),(12,vy),(13,vz),(9,v)] [(vy,mv (· + rOf pa) l),(vz,mv (· * rOf pb) l),(v,l)] [(35,b35,p2),(34,b34,p1),(33,b33,p1),(30,b30,shq (wOf l n*(rOf pb*rOf pb))),(28,b28,shq (aOf l k*(rOf pb*rOf pb))),(26,b26,shq (wOf l n)),(24,b24,shq (aOf l k)),(20,b20,shq (rOf pb*rOf pb)),(11,b11,pb)]) nx) Q) nx:=by
 show Do (wpC _ _ _ _ (.region _ _ _) fr hh) _ _
 have f9:fget fr 9=some (v):=x.v (9,_) (by simp)
 have f23:fget fr 23=some (twoV):=x.v (23,_) (by simp)
 have sl:ShSl hh v l:=x.s (v,l) (.tail _ (.tail _ (.head _)))
 have sy:ShSl hh vy (mv (· + rOf pa) l):=x.s (vy,_) (.head _)
 have sz:ShSl hh vz (mv (· * rOf pb) l):=x.s (vz,_) (.tail _ (.head _))
 have hn12:=mf.sh.n
 simp -dsimp (disch:=omega) only[wpS,Nat.reduceEqDiff,f9,f23]
 refine call (two1_ok sl mf.hl (by have:=mf.n6;omega)) ?_
 rintro _ h1 ⟨X1,s1⟩
 simp -dsimp (disch:=omega) only[wpS,Nat.reduceEqDiff]
 refine call (gRatio s1 mf.t.fit) ?_
 rintro _ h2 ⟨X2,rfl⟩
 rw[hr]
 obtain⟨G1,hG1,nG1,ZG1,kG1⟩:=box_put h2 (p2)
 simp -dsimp (disch:=omega) only[wpS,wpT,Nat.reduceEqDiff,Nat.reduceLeDiff,Nat.reduceAdd,zc30,st30,shV_cells,shC_len,shC_all,sh_sp3]
 rw[←hG1]
 clear hG1
 have V:=(X1.trans X2).trans ZG1
 have x':=x.dropV (vs':=[(27,KI e1),(25,KI e1),(32,sameV),(31,KI 0),(23,twoV),(22,KN k),(12,vy),(13,vz),(9,v)]) (by simp)
 exact⟨h2.n,((x'.to V (by simp) (by simp)).addV (by simp)).addB ⟨by omega,kG1,by simp⟩⟩
set_option maxHeartbeats 4000000 in
theorem m20 (x:MX h hh fr [(29,KI e2),(27,KI e1),(25,KI e1),(32,sameV),(31,KI 0),(23,twoV),(22,KN k),(12,vy),(13,vz),(9,v)] [(vy,mv (· + rOf pa) l),(vz,mv (· * rOf pb) l),(v,l)] [(35,b35,p2),(34,b34,p1),(33,b33,p1),(30,b30,shq (wOf l n*(rOf pb*rOf pb))),(28,b28,shq (aOf l k*(rOf pb*rOf pb))),(26,b26,shq (wOf l n)),(24,b24,shq (aOf l k)),(20,b20,shq (rOf pb*rOf pb)),(11,b11,pb)]) (mf:MF l pa pb n) (hr:ratioRes [l.take n,l.drop n]=.tuple #[shV p2.1 p2.2,KI e2]):Do (wpC Proofs.Tryz.prog 8 262 none (partM 20) fr hh) (seqK (fun fr h'=>Pst (∃b36,MX h h' fr [(31,KI e2),(29,KI e2),(27,KI e1),(25,KI e1),(32,sameV),(23,twoV),(22,KN k),(12,vy),(13,vz),(9,v)] [(vy,mv (· + rOf pa) l),(vz,mv (· * rOf pb) l),(v,l)] [(36,b36,p2),(35,b35,p2),(34,b34,p1),(33,b33,p1),(30,b30,shq (wOf l n*(rOf pb*rOf pb))),(28,b28,shq (aOf l k*(rOf pb*rOf pb))),(26,b26,shq (wOf l n)),(24,b24,shq (aOf l k)),(20,b20,shq (rOf pb*rOf pb)),(11,b11,pb)]) nx) Q) nx:=by
 show Do (wpC _ _ _ _ (.region _ _ _) fr hh) _ _
 have f12:fget fr 12=some (vy):=x.v (12,_) (by simp)
 have f23:fget fr 23=some (twoV):=x.v (23,_) (by simp)
 have sl:ShSl hh v l:=x.s (v,l) (.tail _ (.tail _ (.head _)))
 have sy:ShSl hh vy (mv (· + rOf pa) l):=x.s (vy,_) (.head _)
 have sz:ShSl hh vz (mv (· * rOf pb) l):=x.s (vz,_) (.tail _ (.head _))
 have hn12:=mf.sh.n
 simp -dsimp (disch:=omega) only[wpS,Nat.reduceEqDiff,f12,f23]
 refine call (two1_ok sy (by rw[mv_len];exact mf.hl) (by have:=mf.n6;omega)) ?_
 rintro _ h1 ⟨X1,s1⟩
 simp -dsimp (disch:=omega) only[wpS,Nat.reduceEqDiff]
 refine call (gRatio s1.mv (mf.fitE _)) ?_
 rintro _ h2 ⟨X2,rfl⟩
 rw[mf.ratY,hr]
 obtain⟨G1,hG1,nG1,ZG1,kG1⟩:=box_put h2 (p2)
 simp -dsimp (disch:=omega) only[wpS,wpT,Nat.reduceEqDiff,Nat.reduceLeDiff,Nat.reduceAdd,zc30,st30,shV_cells,shC_len,shC_all,sh_sp3]
 rw[←hG1]
 clear hG1
 have V:=(X1.trans X2).trans ZG1
 have x':=x.dropV (vs':=[(29,KI e2),(27,KI e1),(25,KI e1),(32,sameV),(23,twoV),(22,KN k),(12,vy),(13,vz),(9,v)]) (by simp)
 exact⟨h2.n,((x'.to V (by simp) (by simp)).addV (by simp)).addB ⟨by omega,kG1,by simp⟩⟩
set_option maxHeartbeats 16000000 in
theorem m21 (x:MX h hh fr [(31,KI e2),(29,KI e2),(27,KI e1),(25,KI e1),(32,sameV),(23,twoV),(22,KN k),(12,vy),(13,vz),(9,v)] [(vy,mv (· + rOf pa) l),(vz,mv (· * rOf pb) l),(v,l)] [(36,b36,p2),(35,b35,p2),(34,b34,p1),(33,b33,p1),(30,b30,shq (wOf l n*(rOf pb*rOf pb))),(28,b28,shq (aOf l k*(rOf pb*rOf pb))),(26,b26,shq (wOf l n)),(24,b24,shq (aOf l k)),(20,b20,shq (rOf pb*rOf pb)),(11,b11,pb)]) (mf:MF l pa pb n) (hk:k<l.length) (hp1:p1.1<W8∧p1.2<W8) (hp2:p2.1<W8∧p2.2<W8):Do (wpC Proofs.Tryz.prog 8 262 none (partM 21) fr hh) (seqK (fun fr h'=>Pst (MX h h' fr [(31,KI e2),(29,KI e2),(27,KI e1),(25,KI e1),(32,sameV),(23,twoV),(22,KN k),(12,vy),(13,vz),(9,v)] [(vy,mv (· + rOf pa) l),(vz,mv (· * rOf pb) l),(v,l)] [(36,b36,p2),(35,b35,p2),(34,b34,p1),(33,b33,p1),(30,b30,shq (wOf l n*(rOf pb*rOf pb))),(28,b28,shq (aOf l k*(rOf pb*rOf pb))),(26,b26,shq (wOf l n)),(24,b24,shq (aOf l k)),(20,b20,shq (rOf pb*rOf pb)),(11,b11,pb)]) nx) Q) nx:=by
 show Do (wpC _ _ _ _ (.seq _ _) fr hh) _ _
 have f12:fget fr 12=some (vy):=x.v (12,_) (by simp)
 have f13:fget fr 13=some (vz):=x.v (13,_) (by simp)
 have f22:fget fr 22=some (KN k):=x.v (22,_) (by simp)
 have f23:fget fr 23=some (twoV):=x.v (23,_) (by simp)
 have f25:fget fr 25=some (KI e1):=x.v (25,_) (by simp)
 have f27:fget fr 27=some (KI e1):=x.v (27,_) (by simp)
 have f29:fget fr 29=some (KI e2):=x.v (29,_) (by simp)
 have f31:fget fr 31=some (KI e2):=x.v (31,_) (by simp)
 have f32:fget fr 32=some (sameV):=x.v (32,_) (by simp)
 have x24:Bx hh fr 24 b24 (shq (aOf l k)):=x.b (24,b24,shq (aOf l k)) (by simp)
 have x26:Bx hh fr 26 b26 (shq (wOf l n)):=x.b (26,b26,shq (wOf l n)) (by simp)
 have x28:Bx hh fr 28 b28 (shq (aOf l k*(rOf pb*rOf pb))):=x.b (28,b28,shq (aOf l k*(rOf pb*rOf pb))) (by simp)
 have x30:Bx hh fr 30 b30 (shq (wOf l n*(rOf pb*rOf pb))):=x.b (30,b30,shq (wOf l n*(rOf pb*rOf pb))) (by simp)
 have x33:Bx hh fr 33 b33 (p1):=x.b (33,b33,p1) (by simp)
 have x34:Bx hh fr 34 b34 (p1):=x.b (34,b34,p1) (by simp)
 have x35:Bx hh fr 35 b35 (p2):=x.b (35,b35,p2) (by simp)
 have x36:Bx hh fr 36 b36 (p2):=x.b (36,b36,p2) (by simp)
 have sl:ShSl hh v l:=x.s (v,l) (.tail _ (.tail _ (.head _)))
 have sy:ShSl hh vy (mv (· + rOf pa) l):=x.s (vy,_) (.head _)
 have sz:ShSl hh vz (mv (· * rOf pb) l):=x.s (vz,_) (.tail _ (.head _))
 have hn12:=mf.sh.n
 have hrY:autoRes (mv (· + rOf pa) l) (k:Int)=.tuple #[shV (shq (aOf l k)).1 (shq (aOf l k)).2,KI 0]:=mf.autoY hk
 have hrZ:autoRes (mv (· * rOf pb) l) (k:Int)=.tuple #[shV (shq (aOf l k*(rOf pb*rOf pb))).1 (shq (aOf l k*(rOf pb*rOf pb))).2,KI 0]:=mf.autoZ hk
 have hwY:withinRes [mv (· + rOf pa) (l.take n),mv (· + rOf pa) (l.drop n)]=.tuple #[shV (shq (wOf l n)).1 (shq (wOf l n)).2,KI 0]:=mf.withY
 have hwZ:withinRes [mv (· * rOf pb) (l.take n),mv (· * rOf pb) (l.drop n)]=.tuple #[shV (shq (wOf l n*(rOf pb*rOf pb))).1 (shq (wOf l n*(rOf pb*rOf pb))).2,KI 0]:=mf.withZ
 have oA:=mf.oA k
 have oW:=mf.oW
 have g0 : ∃g0,g0=hh:=⟨_,rfl⟩
 obtain⟨g0,hg0⟩:=g0
 have E0:Ext hh g0:=by rw[hg0];exact Ext.refl _
 rw[←hg0]
 clear hg0
 simp -dsimp (maxSteps:=1000000) (disch:=first|omega|(simp only[new_n,put_n];omega)|decide +kernel|(repeat first|rw[new_n]|rw[put_n])) only[wpS,Nat.reduceLeDiff,ld30,x24.f,x24.r E0,shC_len,sh_take]
 refine call (i2C_ok (shq (aOf l k))) ?_
 rintro _ g1 ⟨Y1,i1,rfl,c1⟩
 have E1:=E0.trans Y1
 simp -dsimp (maxSteps:=1000000) (disch:=first|omega|(simp only[new_n,put_n];omega)|decide +kernel|(repeat first|rw[new_n]|rw[put_n])) only[wpS,Nat.reduceEqDiff,f12,f22]
 refine call (gAuto (sy.keep E1.keep) (.inl (by rw[mv_len];exact mf.sh.n)) ((k:Nat):Int)) ?_
 rintro _ g2 ⟨Y2,rfl⟩
 have E2:=E1.trans Y2
 rw[hrY]
 simp -dsimp (maxSteps:=1000000) (disch:=first|omega|(simp only[new_n,put_n];omega)|decide +kernel|(repeat first|rw[new_n]|rw[put_n])) only[wpS,Nat.reduceEqDiff]
 refine call (i2T_ok (c1.ext Y2) (shq_lt oA.1)) ?_
 rintro _ g3 ⟨Y3,rfl⟩
 have E3:=E2.trans Y3
 simp -dsimp (maxSteps:=1000000) (disch:=first|omega|(simp only[new_n,put_n];omega)|decide +kernel|(repeat first|rw[new_n]|rw[put_n])) only[wpS,wpT,Nat.reduceEqDiff,Nat.reduceLeDiff,ld30,x28.f,x28.r E3,shC_len,sh_take]
 refine call (i2C_ok (shq (aOf l k*(rOf pb*rOf pb)))) ?_
 rintro _ g4 ⟨Y4,i4,rfl,c4⟩
 have E4:=E3.trans Y4
 simp -dsimp (maxSteps:=1000000) (disch:=first|omega|(simp only[new_n,put_n];omega)|decide +kernel|(repeat first|rw[new_n]|rw[put_n])) only[wpS,wpT,Nat.reduceEqDiff,f13,f22]
 refine call (gAuto (sz.keep E4.keep) (.inl (by rw[mv_len];exact mf.sh.n)) ((k:Nat):Int)) ?_
 rintro _ g5 ⟨Y5,rfl⟩
 have E5:=E4.trans Y5
 rw[hrZ]
 simp -dsimp (maxSteps:=1000000) (disch:=first|omega|(simp only[new_n,put_n];omega)|decide +kernel|(repeat first|rw[new_n]|rw[put_n])) only[wpS,wpT,Nat.reduceEqDiff]
 refine call (i2T_ok (c4.ext Y5) (shq_lt oA.2)) ?_
 rintro _ g6 ⟨Y6,rfl⟩
 have E6:=E5.trans Y6
 simp -dsimp (maxSteps:=1000000) (disch:=first|omega|(simp only[new_n,put_n];omega)|decide +kernel|(repeat first|rw[new_n]|rw[put_n])) only[wpS,wpT,Nat.reduceEqDiff,Nat.reduceLeDiff,ld30,x26.f,x26.r E6,shC_len,sh_take]
 refine call (i2C_ok (shq (wOf l n))) ?_
 rintro _ g7 ⟨Y7,i7,rfl,c7⟩
 have E7:=E6.trans Y7
 simp -dsimp (maxSteps:=1000000) (disch:=first|omega|(simp only[new_n,put_n];omega)|decide +kernel|(repeat first|rw[new_n]|rw[put_n])) only[wpS,wpT,Nat.reduceEqDiff,f12,f23]
 refine call (two1_ok (sy.keep E7.keep) (by rw[mv_len];exact mf.hl) (by have:=mf.n6;omega)) ?_
 rintro _ g8 ⟨Y8,s8⟩
 have E8:=E7.trans Y8
 simp -dsimp (maxSteps:=1000000) (disch:=first|omega|(simp only[new_n,put_n];omega)|decide +kernel|(repeat first|rw[new_n]|rw[put_n])) only[wpS,wpT,Nat.reduceEqDiff]
 refine call (gWithin s8.mv (mf.fitE _)) ?_
 rintro _ g9 ⟨Y9,rfl⟩
 have E9:=E8.trans Y9
 rw[hwY]
 simp -dsimp (maxSteps:=1000000) (disch:=first|omega|(simp only[new_n,put_n];omega)|decide +kernel|(repeat first|rw[new_n]|rw[put_n])) only[wpS,wpT,Nat.reduceEqDiff]
 refine call (i2T_ok (c7.ext (Y8.trans Y9)) (shq_lt oW.1)) ?_
 rintro _ g10 ⟨Y10,rfl⟩
 have E10:=E9.trans Y10
 simp -dsimp (maxSteps:=1000000) (disch:=first|omega|(simp only[new_n,put_n];omega)|decide +kernel|(repeat first|rw[new_n]|rw[put_n])) only[wpS,wpT,Nat.reduceEqDiff,Nat.reduceLeDiff,ld30,x30.f,x30.r E10,shC_len,sh_take]
 refine call (i2C_ok (shq (wOf l n*(rOf pb*rOf pb)))) ?_
 rintro _ g11 ⟨Y11,i11,rfl,c11⟩
 have E11:=E10.trans Y11
 simp -dsimp (maxSteps:=1000000) (disch:=first|omega|(simp only[new_n,put_n];omega)|decide +kernel|(repeat first|rw[new_n]|rw[put_n])) only[wpS,wpT,Nat.reduceEqDiff,f13,f23]
 refine call (two1_ok (sz.keep E11.keep) (by rw[mv_len];exact mf.hl) (by have:=mf.n6;omega)) ?_
 rintro _ g12 ⟨Y12,s12⟩
 have E12:=E11.trans Y12
 simp -dsimp (maxSteps:=1000000) (disch:=first|omega|(simp only[new_n,put_n];omega)|decide +kernel|(repeat first|rw[new_n]|rw[put_n])) only[wpS,wpT,Nat.reduceEqDiff]
 refine call (gWithin s12.mv (mf.fitE _)) ?_
 rintro _ g13 ⟨Y13,rfl⟩
 have E13:=E12.trans Y13
 rw[hwZ]
 simp -dsimp (maxSteps:=1000000) (disch:=first|omega|(simp only[new_n,put_n];omega)|decide +kernel|(repeat first|rw[new_n]|rw[put_n])) only[wpS,wpT,Nat.reduceEqDiff]
 refine call (i2T_ok (c11.ext (Y12.trans Y13)) (shq_lt oW.2)) ?_
 rintro _ g14 ⟨Y14,rfl⟩
 have E14:=E13.trans Y14
 simp -dsimp (maxSteps:=1000000) (disch:=first|omega|(simp only[new_n,put_n];omega)|decide +kernel|(repeat first|rw[new_n]|rw[put_n])) only[wpS,wpT,Nat.reduceEqDiff,Nat.reduceLeDiff,ld30,x33.f,x33.r E14,x34.f,x34.r E14,f25,f27,f32,shC_len,sh_take]
 refine call (same2_ok hp1) ?_
 rintro _ g15 ⟨Y15,rfl⟩
 have E15:=E14.trans Y15
 simp -dsimp (maxSteps:=1000000) (disch:=first|omega|(simp only[new_n,put_n];omega)|decide +kernel|(repeat first|rw[new_n]|rw[put_n])) only[wpS,wpT,Nat.reduceEqDiff,Nat.reduceLeDiff,ld30,x35.f,x35.r E15,x36.f,x36.r E15,f29,f31,f32,shC_len,sh_take]
 refine call (same2_ok hp2) ?_
 rintro _ g16 ⟨Y16,rfl⟩
 have E16:=E15.trans Y16
 simp -dsimp (maxSteps:=1000000) (disch:=first|omega|(simp only[new_n,put_n];omega)|decide +kernel|(repeat first|rw[new_n]|rw[put_n])) only[wpS,wpT,Nat.reduceEqDiff]
 exact x.to E16 (by simp) (by simp)
set_option maxHeartbeats 8000000 in
theorem m22 (x:MX h hh fr [(31,KI e2),(29,KI e2),(27,KI e1),(25,KI e1),(32,sameV),(23,twoV),(22,KN k),(12,vy),(13,vz),(9,v)] [(vy,mv (· + rOf pa) l),(vz,mv (· * rOf pb) l),(v,l)] [(36,b36,p2),(35,b35,p2),(34,b34,p1),(33,b33,p1),(30,b30,shq (wOf l n*(rOf pb*rOf pb))),(28,b28,shq (aOf l k*(rOf pb*rOf pb))),(26,b26,shq (wOf l n)),(24,b24,shq (aOf l k)),(20,b20,shq (rOf pb*rOf pb)),(11,b11,pb)]) (mf:MF l pa pb n) (hb:rOf pb≠0):Do (wpC Proofs.Tryz.prog 8 262 none (partM 22) fr hh) (seqK (fun fr h'=>Pst (MX h h' fr [(31,KI e2),(29,KI e2),(27,KI e1),(25,KI e1),(32,sameV),(23,twoV),(22,KN k),(12,vy),(13,vz),(9,v)] [(vy,mv (· + rOf pa) l),(vz,mv (· * rOf pb) l),(v,l)] [(36,b36,p2),(35,b35,p2),(34,b34,p1),(33,b33,p1),(30,b30,shq (wOf l n*(rOf pb*rOf pb))),(28,b28,shq (aOf l k*(rOf pb*rOf pb))),(26,b26,shq (wOf l n)),(24,b24,shq (aOf l k)),(20,b20,shq (rOf pb*rOf pb)),(11,b11,pb)]) nx) Q) nx:=by
 show Do (wpC _ _ _ _ (.seq _ _) fr hh) _ _
 have x11:Bx hh fr 11 b11 (pb):=x.b (11,b11,pb) (by simp)
 have epb:shq (rOf pb)=pb:=mf.b.ok.2.2
 have hz:shareV (Rat.divInt 0 1)=.agg (shC (shq 0).1 (shq 0).2).toArray:=rfl
 have X0:=Ext.refl hh
 have L1:=(psh x11.k).2.2
 have N1:=x11.n
 have heq : ∀ox oy,binop Proofs.Tryz.prog .eql 30 ox oy (.agg (shC pb.1 pb.2).toArray) (.agg (shC (shq 0).1 (shq 0).2).toArray)=some (.bool false):=fun ox oy=>by
  have:=eql_shq mf.qb QW_zero ox oy
  rw[epb,decide_eq_false hb] at this
  exact this
 simp -dsimp (disch:=omega) only[wpS]
 refine drawn [(0,[3])] (by kernel_rfl) (by kernel_rfl) rfl ?_
 simp -dsimp (disch:=omega) only[wpS,Nat.reduceLeDiff,ld30,x11.f,x11.r X0,shC_len,sh_take]
 refine call (lawq_ok 0 1 (by decide) (by decide) (by decide)) ?_
 rintro _ g1 ⟨Y1,rfl⟩
 rw[hz]
 simp -dsimp (disch:=omega) only[wpS,Nat.reduceEqDiff,heq]
 refine⟨wpSteady_one rfl rfl rfl rfl (steady_ext (H0:=hh) (b:=2*b11) (o:=0) x11.f (by omega) X0 Y1 L1),?_⟩
 simp -dsimp (disch:=omega) only[wpS,wpT,Nat.reduceEqDiff,Nat.reduceAdd]
 exact x.to Y1 (by simp) (by simp)
set_option maxHeartbeats 4000000 in
theorem m23 (x:MX h hh fr [(31,KI e2),(29,KI e2),(27,KI e1),(25,KI e1),(32,sameV),(23,twoV),(22,KN k),(12,vy),(13,vz),(9,v)] [(vy,mv (· + rOf pa) l),(vz,mv (· * rOf pb) l),(v,l)] [(36,b36,p2),(35,b35,p2),(34,b34,p1),(33,b33,p1),(30,b30,shq (wOf l n*(rOf pb*rOf pb))),(28,b28,shq (aOf l k*(rOf pb*rOf pb))),(26,b26,shq (wOf l n)),(24,b24,shq (aOf l k)),(20,b20,shq (rOf pb*rOf pb)),(11,b11,pb)]) (mf:MF l pa pb n) (hb:rOf pb≠0) (he:effRes l=.tuple #[shV p1.1 p1.2,KI e1]):Do (wpC Proofs.Tryz.prog 8 262 none (partM 23) fr hh) (seqK (fun fr h'=>Pst (∃b37,MX h h' fr [(38,KI e1),(31,KI e2),(29,KI e2),(27,KI e1),(25,KI e1),(32,sameV),(23,twoV),(22,KN k),(12,vy),(13,vz),(9,v)] [(vy,mv (· + rOf pa) l),(vz,mv (· * rOf pb) l),(v,l)] [(37,b37,p1),(36,b36,p2),(35,b35,p2),(34,b34,p1),(33,b33,p1),(30,b30,shq (wOf l n*(rOf pb*rOf pb))),(28,b28,shq (aOf l k*(rOf pb*rOf pb))),(26,b26,shq (wOf l n)),(24,b24,shq (aOf l k)),(20,b20,shq (rOf pb*rOf pb)),(11,b11,pb)]) nx) Q) nx:=by
 show Do (wpC _ _ _ _ (.region _ _ _) fr hh) _ _
 have f13:fget fr 13=some (vz):=x.v (13,_) (by simp)
 have sl:ShSl hh v l:=x.s (v,l) (.tail _ (.tail _ (.head _)))
 have sy:ShSl hh vy (mv (· + rOf pa) l):=x.s (vy,_) (.head _)
 have sz:ShSl hh vz (mv (· * rOf pb) l):=x.s (vz,_) (.tail _ (.head _))
 have hn12:=mf.sh.n
 simp -dsimp (disch:=omega) only[wpS,f13]
 refine call (gEff sz (.inl (by rw[mv_len];exact mf.sh.n))) ?_
 rintro _ h1 ⟨X1,rfl⟩
 rw[mf.effZ hb,he]
 obtain⟨G1,hG1,nG1,ZG1,kG1⟩:=box_put h1 (p1)
 simp -dsimp (disch:=omega) only[wpS,wpT,Nat.reduceEqDiff,Nat.reduceLeDiff,Nat.reduceAdd,zc30,st30,shV_cells,shC_len,shC_all,sh_sp3]
 rw[←hG1]
 clear hG1
 have V:=X1.trans ZG1
 have x':=x
 exact⟨h1.n,((x'.to V (by simp) (by simp)).addV (by simp)).addB ⟨by omega,kG1,by simp⟩⟩
set_option maxHeartbeats 4000000 in
theorem m24 (x:MX h hh fr [(38,KI e1),(31,KI e2),(29,KI e2),(27,KI e1),(25,KI e1),(32,sameV),(23,twoV),(22,KN k),(12,vy),(13,vz),(9,v)] [(vy,mv (· + rOf pa) l),(vz,mv (· * rOf pb) l),(v,l)] [(37,b37,p1),(36,b36,p2),(35,b35,p2),(34,b34,p1),(33,b33,p1),(30,b30,shq (wOf l n*(rOf pb*rOf pb))),(28,b28,shq (aOf l k*(rOf pb*rOf pb))),(26,b26,shq (wOf l n)),(24,b24,shq (aOf l k)),(20,b20,shq (rOf pb*rOf pb)),(11,b11,pb)]) (mf:MF l pa pb n) (hb:rOf pb≠0) (hr:ratioRes [l.take n,l.drop n]=.tuple #[shV p2.1 p2.2,KI e2]):Do (wpC Proofs.Tryz.prog 8 262 none (partM 24) fr hh) (seqK (fun fr h'=>Pst (∃b39,MX h h' fr [(40,KI e2),(38,KI e1),(31,KI e2),(29,KI e2),(27,KI e1),(25,KI e1),(32,sameV),(23,twoV),(22,KN k),(12,vy),(13,vz),(9,v)] [(vy,mv (· + rOf pa) l),(vz,mv (· * rOf pb) l),(v,l)] [(39,b39,p2),(37,b37,p1),(36,b36,p2),(35,b35,p2),(34,b34,p1),(33,b33,p1),(30,b30,shq (wOf l n*(rOf pb*rOf pb))),(28,b28,shq (aOf l k*(rOf pb*rOf pb))),(26,b26,shq (wOf l n)),(24,b24,shq (aOf l k)),(20,b20,shq (rOf pb*rOf pb)),(11,b11,pb)]) nx) Q) nx:=by
 show Do (wpC _ _ _ _ (.region _ _ _) fr hh) _ _
 have f13:fget fr 13=some (vz):=x.v (13,_) (by simp)
 have f23:fget fr 23=some (twoV):=x.v (23,_) (by simp)
 have sl:ShSl hh v l:=x.s (v,l) (.tail _ (.tail _ (.head _)))
 have sy:ShSl hh vy (mv (· + rOf pa) l):=x.s (vy,_) (.head _)
 have sz:ShSl hh vz (mv (· * rOf pb) l):=x.s (vz,_) (.tail _ (.head _))
 have hn12:=mf.sh.n
 simp -dsimp (disch:=omega) only[wpS,Nat.reduceEqDiff,f13,f23]
 refine call (two1_ok sz (by rw[mv_len];exact mf.hl) (by have:=mf.n6;omega)) ?_
 rintro _ h1 ⟨X1,s1⟩
 simp -dsimp (disch:=omega) only[wpS,Nat.reduceEqDiff]
 refine call (gRatio s1.mv (mf.fitE _)) ?_
 rintro _ h2 ⟨X2,rfl⟩
 rw[mf.ratZ hb,hr]
 obtain⟨G1,hG1,nG1,ZG1,kG1⟩:=box_put h2 (p2)
 simp -dsimp (disch:=omega) only[wpS,wpT,Nat.reduceEqDiff,Nat.reduceLeDiff,Nat.reduceAdd,zc30,st30,shV_cells,shC_len,shC_all,sh_sp3]
 rw[←hG1]
 clear hG1
 have V:=(X1.trans X2).trans ZG1
 have x':=x
 exact⟨h2.n,((x'.to V (by simp) (by simp)).addV (by simp)).addB ⟨by omega,kG1,by simp⟩⟩
set_option maxHeartbeats 8000000 in
theorem m25 (x:MX h hh fr [(40,KI e2),(38,KI e1),(31,KI e2),(29,KI e2),(27,KI e1),(25,KI e1),(32,sameV),(23,twoV),(22,KN k),(12,vy),(13,vz),(9,v)] [(vy,mv (· + rOf pa) l),(vz,mv (· * rOf pb) l),(v,l)] [(39,b39,p2),(37,b37,p1),(36,b36,p2),(35,b35,p2),(34,b34,p1),(33,b33,p1),(30,b30,shq (wOf l n*(rOf pb*rOf pb))),(28,b28,shq (aOf l k*(rOf pb*rOf pb))),(26,b26,shq (wOf l n)),(24,b24,shq (aOf l k)),(20,b20,shq (rOf pb*rOf pb)),(11,b11,pb)]) (hp1:p1.1<W8∧p1.2<W8) (hp2:p2.1<W8∧p2.2<W8):Do (wpC Proofs.Tryz.prog 8 262 none (partM 25) fr hh) (seqK (fun fr h'=>Pst (fget fr 8=some (.bool true)) nx) Q) nx:=by
 show Do (wpC _ _ _ _ (.region _ _ _) fr hh) _ _
 have f32:fget fr 32=some (sameV):=x.v (32,_) (by simp)
 have x33:Bx hh fr 33 b33 (p1):=x.b (33,b33,p1) (by simp)
 have x37:Bx hh fr 37 b37 (p1):=x.b (37,b37,p1) (by simp)
 have f25:fget fr 25=some (KI e1):=x.v (25,_) (by simp)
 have f38:fget fr 38=some (KI e1):=x.v (38,_) (by simp)
 have x35:Bx hh fr 35 b35 (p2):=x.b (35,b35,p2) (by simp)
 have x39:Bx hh fr 39 b39 (p2):=x.b (39,b39,p2) (by simp)
 have f29:fget fr 29=some (KI e2):=x.v (29,_) (by simp)
 have f40:fget fr 40=some (KI e2):=x.v (40,_) (by simp)
 have X0:=Ext.refl hh
 simp -dsimp (disch:=omega) only[wpS,Nat.reduceEqDiff,Nat.reduceLeDiff,ld30,x33.f,x33.r X0,x37.f,x37.r X0,f25,f38,f32,shC_len,sh_take]
 refine call (same2_ok hp1) ?_
 rintro _ g1 ⟨Y1,rfl⟩
 simp -dsimp (disch:=omega) only[wpS,wpT,Nat.reduceEqDiff,Nat.reduceLeDiff,ld30,x35.f,x35.r Y1,x39.f,x39.r Y1,f29,f40,f32,shC_len,sh_take]
 refine call (same2_ok hp2) ?_
 rintro _ g2 ⟨Y2,rfl⟩
 simp -dsimp (disch:=omega) only[wpS,Nat.reduceEqDiff]
 rfl
end
end Go.Id

/-! The statement DiagnoseMoves, on the ideal machine: the whole. -/
namespace Go.Id
open Go
set_option maxHeartbeats 16000000 in
theorem dgmoves_ideal {h:IH} {w:Value} {nd:Nat} {a1 a2 c1 c2:Bool} {x1 x2 y1 y2:Value} {u1 u2 k1 k2 lag:Int} (hw:DrSl h w nd) (g1:cellOK x1=true∧cellOK x2=true∧(0≤u1∧u1<4294967296)∧(0≤u2∧u2<4294967296)) (g2:cellOK y1=true∧cellOK y2=true∧(0≤k1∧k1<4294967296)∧(0≤k2∧k2<4294967296)) (hlag:0≤lag∧lag<256) :
  WV Proofs.Tryz.prog (.func (.func 8) #[] #[]) [w,.agg #[.bool a1,x1,.int .u32 u1,.bool a2,x2,.int .u32 u2],.agg #[.bool c1,y1,.int .u32 k1,.bool c2,y2,.int .u32 k2],.int .u8 lag] h fun r _=>r=.bool true:=by
 refine enter (nt:=262) (rs:=[.tmp 8]) Proofs.Tryz.func8 rfl rfl rfl (by simp) ?_
 rw[d_seq];refine cut _ (m0 (q5:=0) (q6:=0) (w:=w) (lag:=lag) (a1:=a1) (a2:=a2) (c1:=c1) (c2:=c2) (by simp) (by simp) (by simp) (by simp) g1 g2) ?_;rintro fr h0 ⟨X0,f0,f3,q5,q6,d5,d6⟩
 rw[d_seq];refine cut _ (m1 f0 f3 d5 d6) ?_;clear f0 f3 d5 d6;rintro fr h1 ⟨X1,f0,f3,d5,d6⟩
 rw[d_seq];refine cut _ (m2 (hw.keep (X0.trans X1).keep) f0 f3 d5 d6) ?_;clear f0 f3 d5 d6;rintro fr h2 ⟨v0,l0,X2,f3,f9,sl0,hsh,hn,d5,d6⟩
 rw[d_seq];refine cut _ (m3 f3 f9 sl0 hn d5 d6) ?_;clear f3 f9 d5 d6;rintro fr h3 ⟨rfl,f3,v,f9,sl,d5,d6⟩
 have hll:(l0.take (l0.length / 2*2)).length=l0.length / 2*2:=by rw[List.length_take];omega
 have hsl : ∀p∈l0.take (l0.length / 2*2),isShort p:=fun p hp=>hsh p (List.mem_of_mem_take hp)
 obtain⟨n,hnn⟩ : ∃n,n=l0.length / 2:=⟨_,rfl⟩
 rw[←hnn] at hll hsl sl
 generalize l0.take (n*2)=l at hll hsl sl
 by_cases hlt:l.length<4
 ·have c1:decide ((l.length:Int)<4)=true:=decide_eq_true (by omega)
  simp -dsimp (disch:=omega) only[wpS,Nat.reduceEqDiff,f9,sl.1.len sl25,c1]
 ·have hl:l.length=2*n:=by omega
  have n2:2≤n:=by omega
  have n6:n≤6:=by omega
  have sh:ShortL l:=⟨hsl,by omega,fun e=>by rw[e] at hlt;simp at hlt⟩
  rw[d_seq];refine cut _ (m4 f3 f9 sl (by omega) (by omega) d5 d6) ?_;clear f3 f9 d5 d6;rintro fr h4 ⟨rfl,f3,f9,d5,d6⟩
  rw[d_seq];refine cut _ (m5 f3 f9 sl d5 d6) ?_;clear f3 f9 d5 d6;rintro fr h5 ⟨b10,b11,pa,pb,spa,spb,x⟩
  have mf:MF l pa pb n:=⟨sh,spa,spb,hl,n2,n6⟩
  have hrf:=rat_form [l.take n,l.drop n] mf.t.err
  obtain⟨p1,e1,hp1,he⟩:=eff_form l
  obtain⟨p2,e2,hp2,hr⟩:=hrf
  rw[d_seq];refine cut _ (m6 x) ?_;clear x;intro fr h6 x
  rw[d_seq];refine cut _ (m7 x mf) ?_;clear x;rintro fr h7 ⟨vy,vz,x⟩
  rw[d_seq];refine cut _ (m8 x mf) ?_;clear x;rintro fr h8 ⟨b20,x⟩
  rw[d_seq];refine cut _ (m9 x mf hlag) ?_;clear x;rintro fr h9 ⟨k,hk,x⟩
  rw[d_seq];refine cut _ (m10 x) ?_;clear x;intro fr h10 x
  rw[d_seq];refine cut _ (m11 x mf hk) ?_;clear x;rintro fr h11 ⟨b24,x⟩
  rw[d_seq];refine cut _ (m12 x mf) ?_;clear x;rintro fr h12 ⟨b26,x⟩
  rw[d_seq];refine cut _ (m13 x mf) ?_;clear x;rintro fr h13 ⟨b28,x⟩
  rw[d_seq];refine cut _ (m14 x mf) ?_;clear x;rintro fr h14 ⟨b30,x⟩
  rw[d_seq];refine cut _ (m15 x) ?_;clear x;intro fr h15 x
  rw[d_seq];refine cut _ (m16 x) ?_;clear x;intro fr h16 x
  rw[d_seq];refine cut _ (m17 x mf he) ?_;clear x;rintro fr h17 ⟨b33,x⟩
  rw[d_seq];refine cut _ (m18 x mf he) ?_;clear x;rintro fr h18 ⟨b34,x⟩
  rw[d_seq];refine cut _ (m19 x mf hr) ?_;clear x;rintro fr h19 ⟨b35,x⟩
  rw[d_seq];refine cut _ (m20 x mf hr) ?_;clear x;rintro fr h20 ⟨b36,x⟩
  rw[d_seq];refine cut _ (m21 x mf hk hp1 hp2) ?_;clear x;intro fr h21 x
  by_cases hb:rOf pb=0
  ·have epb:shq (rOf pb)=pb:=mf.b.ok.2.2
   have x11:Bx h21 fr 11 b11 pb:=x.b (11,b11,pb) (by simp)
   have f13:fget fr 13=some vz:=x.v (13,_) (by simp)
   have sz:ShSl h21 vz (mv (· * rOf pb) l):=x.s (vz,_) (.tail _ (.head _))
   have hz:shareV (Rat.divInt 0 1)=.agg (shC (shq 0).1 (shq 0).2).toArray:=rfl
   have hv7:effRes (mv (· * rOf pb) l)=.tuple #[shV 0 0,KI 7]:=mf.effZ0 hb
   have XX:=Ext.refl h21
   have L1:=(psh x11.k).2.2
   have N1:=x11.n
   have heq : ∀ox oy,binop Proofs.Tryz.prog .eql 30 ox oy (.agg (shC pb.1 pb.2).toArray) (.agg (shC (shq 0).1 (shq 0).2).toArray)=some (.bool true):=fun ox oy=>by
    have:=eql_shq mf.qb QW_zero ox oy
    rw[epb,decide_eq_true hb] at this
    exact this
   simp -dsimp (disch:=omega) only[wpS]
   refine drawn [(0,[3])] (by kernel_rfl) (by kernel_rfl) rfl ?_
   simp -dsimp (disch:=omega) only[wpS,Nat.reduceLeDiff,ld30,x11.f,x11.r XX,shC_len,sh_take]
   refine call (lawq_ok 0 1 (by decide) (by decide) (by decide)) ?_
   rintro _ g1 ⟨Y1,rfl⟩
   rw[hz]
   simp -dsimp (disch:=omega) only[wpS,Nat.reduceEqDiff,heq]
   refine⟨wpSteady_one rfl rfl rfl rfl (steady_ext (H0:=h21) (b:=2*b11) (o:=0) x11.f (by omega) XX Y1 L1),?_⟩
   simp -dsimp (disch:=omega) only[wpS,wpT,Nat.reduceEqDiff,Nat.reduceAdd]
   refine call (faC_ok 7) ?_
   rintro _ g2 ⟨Y2,i,rfl,c⟩
   simp -dsimp (disch:=omega) only[wpS,Nat.reduceEqDiff,f13]
   refine call (gEff (sz.keep (Y1.trans Y2).keep) (.inl (by rw[mv_len];exact mf.sh.n))) ?_
   rintro _ g3 ⟨Y3,rfl⟩
   rw[hv7]
   simp -dsimp (disch:=omega) only[wpS,Nat.reduceEqDiff]
   refine call (faT_ok (c.ext Y3)) ?_
   rintro _ g4 ⟨Y4,rfl⟩
   simp -dsimp (disch:=omega) only[wpS,Nat.reduceEqDiff]
  ·rw[d_seq];refine cut _ (m22 x mf hb) ?_;clear x;intro fr h22 x
   rw[d_seq];refine cut _ (m23 x mf hb he) ?_;clear x;rintro fr h23 ⟨b37,x⟩
   rw[d_seq];refine cut _ (m24 x mf hb hr) ?_;clear x;rintro fr h24 ⟨b39,x⟩
   rw[d_seq];refine cut _ (m25 x hp1 hp2) ?_;clear x;intro fr h25 f8
   simp -dsimp (disch:=omega) only[wpS,f8]
end Go.Id

/-! DiagnoseMoves: for every input the law returns true, and each argument reads as it did. Conditions: none but the row's own. -/
namespace Go.Proofs.YthbkinefgmfgeaaGreat
open Go.ChangeShapes Go.WideShapes Go.ChangeAt Go.RowKit Go.Id
set_option maxRecDepth 100000 in
theorem diagnoseMoves_lifted (os:Os) (started:os.Started) (H:Type) (enc:TypeId×Value→H) :
  ReturnsInHanded {} Tryz.checked os 8 .any (Rows.diagnoseMovesSpec.pre6 enc Tryz.prog Tryz.f8 Rows.diagnoseMovesRow.domain false) (Rows.diagnoseMovesSpec.post enc Tryz.prog Tryz.f8 false true false false):=by
 refine returnsInHanded_of_change (C:=Tryz.checked) Tryz.own started (by kernel_rfl) Tryz.func8
  (ChangeSpec.witness6 (enc:=enc) (C:=Tryz.checked) false ⟨#[],#[.slice none 0 0,.agg #[.bool false,.slice none 0 0,.int .u32 0,.bool false,.slice none 0 0,.int .u32 0],.agg #[.bool false,.slice none 0 0,.int .u32 0,.bool false,.slice none 0 0,.int .u32 0],.int .u8 0],[]⟩ 8 (by kernel_rfl) (by kernel_rfl) (by kernel_rfl) (by kernel_rfl)) ?_
 intro W base args ds gs before hval0 hW hcnd _
 have hval : ∀(j:Nat) t v,Tryz.f8.params[j]?=some t→args[j]?=some v→Value.okWide Tryz.prog W .any base t v:=hval0
 have hW':=hW
 obtain⟨p,q,hA0,hV,rfl,hfz,hnd⟩:=hW
 have hA:DataW.TrodAll enc Tryz.prog W 0 (fun _=>true) true Tryz.f8.params.toList args.toList ds p:=hA0
 have hA1:=hA
 rw[Tryz.params8] at hA hval
 obtain⟨a0,r0,d0,ds0,p0,q0,e0,rfl,rfl,t0,h0A⟩:=trodAll_cons hA
 obtain⟨a1,r1,d1,ds1,p1,q1,rfl,rfl,rfl,t1,h1A⟩:=trodAll_cons h0A
 obtain⟨a2,r2,d2,ds2,p2,q2,rfl,rfl,rfl,t2,h2A⟩:=trodAll_cons h1A
 obtain⟨a3,r3,d3,ds3,p3,q3,rfl,rfl,rfl,t3,h3A⟩:=trodAll_cons h2A
 obtain⟨rfl,rfl,rfl⟩:=trodAll_nil h3A
 obtain⟨rfl,rfl⟩:=trodVars_none hV
 obtain rfl:args = #[a0,a1,a2,a3]:=by cases args;simpa using e0
 obtain⟨b0,n0,c0,rfl⟩:=okWide_slice u_drafts (hval 0 _ _ rfl rfl)
 obtain⟨fu0,t0⟩:=t0
 obtain⟨v0,l0,g0,m0,s0⟩:=tell_drafts (fun _=>none) t0
 cases g0
 obtain⟨z1,rfl,_⟩:=okWide_struct u_draft (hval 1 _ _ rfl rfl)
 obtain⟨fu1,t1⟩:=t1
 obtain⟨ba1,ya1,na1,bb1,yb1,nb1,g1,m1,i1⟩:=draft_of (fun _=>none) t1
 obtain rfl:z1 = #[.bool ba1,ya1,.int .u32 na1,.bool bb1,yb1,.int .u32 nb1]:=by cases z1;simpa using g1
 obtain⟨z2,rfl,_⟩:=okWide_struct u_draft (hval 2 _ _ rfl rfl)
 obtain⟨fu2,t2⟩:=t2
 obtain⟨ba2,ya2,na2,bb2,yb2,nb2,g2,m2,i2⟩:=draft_of (fun _=>none) t2
 obtain rfl:z2 = #[.bool ba2,ya2,.int .u32 na2,.bool bb2,yb2,.int .u32 nb2]:=by cases z2;simpa using g2
 obtain⟨x3,rfl,_,_,w3⟩:=open_int u_u8 (hval 3 _ _ rfl rfl) t3
 have i3:0≤x3∧x3<256:=wf_u8 w3
 have hb:=tell_ok (W:=W) (G:=fun _=>none) (fun b cs h=>by cases h)
 refine(wv_true Tryz.sound (dgmoves_ideal s0 i1 i2 i3) hb (args':=#[.slice b0 n0 c0,.agg #[.bool ba1,ya1,.int .u32 na1,.bool bb1,yb1,.int .u32 nb1],.agg #[.bool ba2,ya2,.int .u32 na2,.bool bb2,yb2,.int .u32 nb2],.int .u8 x3]) (.cons (trV_rel m0) (.cons (.agg_iff (.cons (.scal rfl) (.cons (trV_rel m1.1) (.cons (.scal rfl) (.cons (.scal rfl) (.cons (trV_rel m1.2) (.cons (.scal rfl) (.nil _)))))))) (.cons (.agg_iff (.cons (.scal rfl) (.cons (trV_rel m2.1) (.cons (.scal rfl) (.cons (.scal rfl) (.cons (trV_rel m2.2) (.cons (.scal rfl) (.nil _)))))))) (.cons (.scal rfl) (.nil _)))))).mono fun e W' ⟨he,hk⟩=>?_
 subst he
 refine⟨_,rfl,post_of_below (pa:=p0 ++ (p1 ++ (p2 ++ (p3 ++ [])))) (pv:=[]) hW' (fun _ _ _=>trodAll_mk1 (shut_bool Tryz.underlying4 _)) (fun sp hs=>?_) (fun _ _=>rfl) hk⟩
 exact trodAll_stays Tryz.kids Tryz.pos hk hA1 (fun t ht=>by
  rw[Tryz.params8] at ht
  simp at ht
  rcases ht with rfl|rfl|rfl|rfl<;>exact of_decide_eq_true (by kernel_rfl)) (fun x hx=>hs x (by simpa using hx))
theorem diagnoseMoves_row:Rows.DiagnoseMovesSaid :=
 OpenClaim.holds_of_wide 8 Tryz.f8 rfl rfl rfl rfl rfl rfl rfl ⟨rfl,rfl,rfl,rfl,rfl⟩ rfl rfl rfl rfl rfl (by kernel_rfl) Tryz.func8 (by kernel_rfl)
  (of_decide_eq_true (by kernel_rfl)) (by unfold Func.isWrapper;first|(rw[if_pos (by decide +kernel)];kernel_rfl)|(rw[if_neg (by decide +kernel)];exact⟨rfl,rfl⟩))
  (fun os started H enc _=>diagnoseMoves_lifted os started H enc)
#print axioms diagnoseMoves_row
end Go.Proofs.YthbkinefgmfgeaaGreat

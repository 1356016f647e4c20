/-
  Contracts: the laws' helpers: short shares of drafts; a list made as long as the limit. The rows' common part (no table listed): shares and drafts that came in.
-/
import Derived.Test.YtjhnilfelokpcaaGreatOutlierListsBh
import Derived.Test.YtjhnilfelokpcaaGreatOutlierListsAq
import Derived.Test.YtjhnilfelokpcaaGreatOutlierListsAn
import Derived.Test.YtjhnilfelokpcaaGreatOutlierListsAo
set_option linter.unusedVariables false
set_option linter.unusedSimpArgs false
set_option linter.defProp false
set_option linter.deprecated false
namespace Go.Id
open Go
def DrOf (cs:List Value):Prop:=∃b x n b2 x2 n2,cs = [.bool b,x,.int .u32 n,.bool b2,x2,.int .u32 n2]∧cellOK x=true∧cellOK x2=true∧0≤n∧n<4294967296∧0≤n2∧n2<4294967296
def DrSl (h:IH) (v:Value) (n:Nat):Prop:=∃cs,SlOf h 6 v n cs ∧ ∀i,i<n→DrOf ((cs.drop (i*6)).take 6)
theorem DrSl.keep {h h':IH} {v:Value} {n:Nat} (s:DrSl h v n) (e:Keep h h'):DrSl h' v n:=let ⟨cs,a,b⟩:=s;⟨cs,a.keep e,b⟩
def isShort (p:Nat×Nat):Prop:=∃a c:Int,(-1000<a∧a<1000)∧(0<c∧c<25)∧p=shq (Rat.divInt a c)
theorem isShort.lt {p:Nat×Nat} (h:isShort p):p.1<W8∧p.2<W8:=by
 obtain⟨a,c,ha,hc,rfl⟩:=h
 exact shq_lt (qw_div ⟨by omega,by omega⟩ ⟨by omega,by omega⟩ (by omega))
def oneS:Nat×Nat:=shI 1
theorem oneS_lt:oneS.1<W8∧oneS.2<W8:=shI_lt ⟨by omega,by omega⟩
theorem one_shV:shareV (Rat.divInt 1 1)=shV oneS.1 oneS.2:=by
 have:Rat.divInt 1 1=((1:Int):Rat):=Rat.num_divInt_den ((1:Int):Rat)
 rw[this];rfl
end Go.Id

namespace Go.Proofs.YtjhnilfelokpcaaGreat
open Go.ChangeShapes Go.WideShapes Go.ChangeAt Go.RowKit Go.Id
theorem u_share:Tryz.prog.underlying 48=some (.struct { toList:=[{ name := "N",type:=44,offset:=0,embedded:=false,tag := "",pkgPath := "",byteOffset:=0 },{ name := "D",type:=44,offset:=8,embedded:=false,tag := "",pkgPath := "",byteOffset:=64 }] }):=by kernel_rfl
theorem u_wide:Tryz.prog.underlying 44=some (.array 8 42):=by kernel_rfl
theorem u_u64:Tryz.prog.underlying 42=some (.int .u64):=by kernel_rfl
theorem c_share:Tryz.prog.cellsOf 48=16:=by kernel_rfl
theorem c_wide:Tryz.prog.cellsOf 44=8:=by kernel_rfl
theorem c_u64:Tryz.prog.cellsOf 42=1:=by kernel_rfl
theorem u_shares:Tryz.prog.underlying 82=some (.slice 48):=by kernel_rfl
theorem wf_i64 {x:Int} (h:(Lit.int .i64 x).wf=true):In64 x:=by
 simp only[Lit.wf,Bool.and_eq_true,decide_eq_true_eq] at h
 have h1:(-9223372036854775808:Int)≤x:=h.1
 have h2:x≤(9223372036854775807:Int):=h.2
 exact⟨h1,by omega⟩
theorem digs_of : ∀{cs:List Value},(∀c∈cs,∃k:Nat,k<18446744073709551616∧c=K64 k) → ∃ds:List Nat,cs=ds.map K64 ∧ ∀d∈ds,d<18446744073709551616
 | [],_=>⟨[],rfl,fun d hd=>by cases hd⟩
 | c :: cs,h=>by
  obtain⟨k,hk,rfl⟩:=h c (by simp)
  obtain⟨ds,hds,hd⟩:=digs_of (cs:=cs) fun c hc=>h c (by simp[hc])
  exact⟨k :: ds,by rw[hds];rfl,fun d hd'=>by
   rcases List.mem_cons.1 hd' with rfl|hd'
   ·exact hk
   ·exact hd d hd'⟩
section
variable {H:Type} {enc:TypeId×Value→H} {W:World} {base:Nat} {sp:Nat→Bool} {held:Bool}
theorem wide_of {fuel:Nat} {cs:List Value} {x:DataW H×List MemPlace} (h:DataW.trod enc Tryz.prog W base sp held fuel 44 cs=some x) : ∃n,n<W8∧cs=wdC n:=by
 obtain⟨xs,m,_,_,hl,hn,hel⟩:=DataW.trod_array u_wide h
 rw[c_wide] at hl
 have hc : ∀c∈cs,∃k:Nat,k<18446744073709551616∧c=K64 k:=by
  intro c hc
  obtain⟨i,hi⟩:=List.mem_iff_getElem?.1 hc
  have hi8:i<8:=by have:=(List.getElem?_eq_some_iff.1 hi).1;omega
  obtain⟨y,hy⟩ : ∃y,xs[i]?=some y:=⟨_,List.getElem?_eq_getElem (by omega)⟩
  have e:=(hel i hi8).trans hy
  rw[c_u64,Nat.mul_one] at e
  have e1:(cs.drop i).take 1 = [c]:=by
   obtain⟨hlt,hg⟩:=List.getElem?_eq_some_iff.1 hi
   rw[List.drop_eq_getElem_cons hlt,hg]
   rfl
  rw[e1] at e
  obtain⟨k,h1,h2⟩:=trod_nat (m:=18446744073709551615) rfl rfl u_u64 e
  cases h1
  exact⟨k,by omega,rfl⟩
 obtain⟨ds,rfl,hd⟩:=digs_of hc
 rw[List.length_map] at hl
 have e:=pad_wd (ds:=ds) (by omega) hd
 have e2:IH.splice [ZW,ZW,ZW,ZW,ZW,ZW,ZW,ZW] 0 (ds.map K64)=ds.map K64:=splice_all (by rw[List.length_map,hl];rfl)
 refine⟨B.valD ds,?_,e2.symm.trans e⟩
 have:=B.valD_lt hd
 rw[hl,←W8_pw] at this
 exact this
theorem share_of {fuel:Nat} {cs:List Value} {x:DataW H×List MemPlace} (h:DataW.trod enc Tryz.prog W base sp held fuel 48 cs=some x) : ∃n d,n<W8∧d<W8∧cs=shC n d:=by
 obtain⟨xs,m,_,_,hl,hn,hf⟩:=DataW.trod_struct u_share h
 rw[c_share] at hl
 have hn2:xs.length=2:=hn
 obtain⟨x0,hx0⟩ : ∃y,xs[0]?=some y:=⟨_,List.getElem?_eq_getElem (by omega)⟩
 have f0:DataW.trod enc Tryz.prog W base sp held m 44 ((cs.drop 0).take (Tryz.prog.cellsOf 44))=some x0:=(hf 0 { name := "N",type:=44,offset:=0,embedded:=false,tag := "",pkgPath := "",byteOffset:=0 } rfl).trans hx0
 obtain⟨x1,hx1⟩ : ∃y,xs[1]?=some y:=⟨_,List.getElem?_eq_getElem (by omega)⟩
 have f1:DataW.trod enc Tryz.prog W base sp held m 44 ((cs.drop 8).take (Tryz.prog.cellsOf 44))=some x1:=(hf 1 { name := "D",type:=44,offset:=8,embedded:=false,tag := "",pkgPath := "",byteOffset:=64 } rfl).trans hx1
 rw[c_wide] at f0 f1
 obtain⟨n,h1,e1⟩:=wide_of f0
 obtain⟨d,h2,e2⟩:=wide_of f1
 refine⟨n,d,h1,h2,?_⟩
 rw[shC,←e1,←e2,List.drop_zero]
 conv=>lhs;rw[←List.take_append_drop 8 cs]
 congr 1
 rw[List.take_of_length_le (by rw[List.length_drop];omega)]
end
theorem map_scal {cs:List Value} (h : ∀y∈cs,scal y=true):cs.map trV=cs:=by
 induction cs with
 | nil=>rfl
 | cons a l ih=>rw[List.map_cons,trV_scal (h a (by simp)),ih fun y hy=>h y (by simp[hy])]
theorem scal_tell {y:Value} (h:scal y=true):tellable y=true:=by
 unfold tellable
 split
 ·simp[scal] at h
 ·exact h
theorem shC_scal (n d:Nat) : ∀y∈shC n d,scal y=true:=by
 intro y hy
 simp only[shC,wdC,List.mem_append,List.mem_map] at hy
 rcases hy with⟨i,_,rfl⟩|⟨i,_,rfl⟩<;>rfl
theorem shares_of : ∀(n:Nat) (cs:List Value),cs.length=n*16→(∀i,i<n → ∃p:Nat×Nat,(p.1<W8∧p.2<W8)∧(cs.drop (i*16)).take 16=shC p.1 p.2) → ∃l:List (Nat×Nat),l.length=n∧shL l=cs ∧ ∀p∈l,p.1<W8∧p.2<W8
 | 0,cs,hl,_=>⟨[],rfl,(List.length_eq_zero_iff.1 (by omega)).symm,fun p hp=>by cases hp⟩
 | n+1,cs,hl,h=>by
  obtain⟨p,hp,e⟩:=h 0 (by omega)
  obtain⟨l,h1,h2,h3⟩:=shares_of n (cs.drop 16) (by rw[List.length_drop];omega) fun i hi=>by
   obtain⟨q,hq,e⟩:=h (i+1) (by omega)
   refine⟨q,hq,?_⟩
   rw[List.drop_drop,←e]
   congr 2
   omega
  refine⟨p :: l,by simp[h1],?_,?_⟩
  ·rw[Nat.zero_mul,List.drop_zero] at e
   show shC p.1 p.2 ++ shL l=cs
   rw[←e,h2,List.take_append_drop]
  ·intro q hq
   rcases List.mem_cons.1 hq with rfl|hq
   ·exact hp
   ·exact h3 q hq
theorem len3 {α:Type} : ∀{l:List α},l.length=3 → ∃a b c,l = [a,b,c]
 | [a,b,c],_=>⟨a,b,c,rfl⟩
theorem len6 {α:Type} : ∀{l:List α},l.length=6 → ∃a b c d e f,l = [a,b,c,d,e,f]
 | [a,b,c,d,e,f],_=>⟨a,b,c,d,e,f,rfl⟩
theorem u_drafts:Tryz.prog.underlying 75=some (.slice 81):=by kernel_rfl
theorem u_draft:Tryz.prog.underlying 81=some (.struct { toList:=[{ name := "N",type:=79,offset:=0,embedded:=false,tag := "",pkgPath := "",byteOffset:=0 },{ name := "D",type:=79,offset:=3,embedded:=false,tag := "",pkgPath := "",byteOffset:=40 }] }):=by kernel_rfl
theorem u_draft1:Tryz.prog.underlying 79=some (.struct { toList:=[{ name := "Below",type:=4,offset:=0,embedded:=false,tag := "",pkgPath := "",byteOffset:=0 },{ name := "Bits",type:=76,offset:=1,embedded:=false,tag := "",pkgPath := "",byteOffset:=8 },{ name := "Less",type:=77,offset:=2,embedded:=false,tag := "",pkgPath := "",byteOffset:=32 }] }):=by kernel_rfl
theorem u_u16s:Tryz.prog.underlying 76=some (.slice 100):=by kernel_rfl
theorem u_u16:Tryz.prog.underlying 100=some (.int .u16):=by kernel_rfl
theorem u_u32:Tryz.prog.underlying 77=some (.int .u32):=by kernel_rfl
theorem u_bool:Tryz.prog.underlying 4=some .bool:=by kernel_rfl
theorem u_int:Tryz.prog.underlying 3=some (.int .i64):=by kernel_rfl
theorem c_draft:Tryz.prog.cellsOf 81=6:=by kernel_rfl
theorem c_draft1:Tryz.prog.cellsOf 79=3:=by kernel_rfl
theorem c_u16:Tryz.prog.cellsOf 100=1:=by kernel_rfl
theorem c_u32:Tryz.prog.cellsOf 77=1:=by kernel_rfl
theorem c_bool:Tryz.prog.cellsOf 4=1:=by kernel_rfl
theorem c_u16s:Tryz.prog.cellsOf 76=1:=by kernel_rfl
section
variable {H:Type} {enc:TypeId×Value→H} {W:World} {held:Bool}
theorem tell_shares (G:Nat→Option (List Value)) {fuel:Nat} {cs0:List Value} {x:DataW H×List MemPlace} (h:DataW.trod enc Tryz.prog W 0 (fun _=>true) held fuel 82 cs0=some x) :
  ∃v l,cs0 = [v]∧tellable v=true∧ShArg (IH.start (tellB G W)) (trV v) l:=by
 obtain⟨v,n,cs,e,ht,hn,hs,hR⟩:=tell_slice (R:=fun cs => ∃p:Nat×Nat,(p.1<W8∧p.2<W8)∧cs.map trV=shC p.1 p.2) u_shares c_share (by omega) (fun n cs x hx=>by
  obtain⟨a,d,h1,h2,rfl⟩:=share_of hx
  exact⟨⟨(a,d),⟨h1,h2⟩,map_scal (shC_scal a d)⟩,fun y hy=>scal_tell (shC_scal a d y hy)⟩) G h
 obtain⟨l,h1,h2,h3⟩:=shares_of n (cs.map trV) hs.2.1 fun i hi=>by
  obtain⟨p,hp,e⟩:=hR i hi
  exact⟨p,hp,by rw[←List.map_drop,←List.map_take];exact e⟩
 refine⟨v,l,e,ht,?_,h3⟩
 rw[h1,h2];exact hs
theorem half_of (G:Nat→Option (List Value)) {fuel:Nat} {cs:List Value} {x:DataW H×List MemPlace} (h:DataW.trod enc Tryz.prog W 0 (fun _=>true) held fuel 79 cs=some x) :
  ∃b y n,cs = [.bool b,y,.int .u32 n]∧cellOK (trV y)=true∧tellable y=true∧(0≤n∧n<4294967296):=by
 obtain⟨xs,m,_,_,hl,hn,hf⟩:=DataW.trod_struct u_draft1 h
 rw[c_draft1] at hl
 have hn2:xs.length=3:=hn
 obtain⟨x0,hx0⟩ : ∃y,xs[0]?=some y:=⟨_,List.getElem?_eq_getElem (by omega)⟩
 have f0:DataW.trod enc Tryz.prog W 0 (fun _=>true) held m 4 ((cs.drop 0).take (Tryz.prog.cellsOf 4))=some x0:=(hf 0 { name := "Below",type:=4,offset:=0,embedded:=false,tag := "",pkgPath := "",byteOffset:=0 } rfl).trans hx0
 obtain⟨x1,hx1⟩ : ∃y,xs[1]?=some y:=⟨_,List.getElem?_eq_getElem (by omega)⟩
 have f1:DataW.trod enc Tryz.prog W 0 (fun _=>true) held m 76 ((cs.drop 1).take (Tryz.prog.cellsOf 76))=some x1:=(hf 1 { name := "Bits",type:=76,offset:=1,embedded:=false,tag := "",pkgPath := "",byteOffset:=8 } rfl).trans hx1
 obtain⟨x2,hx2⟩ : ∃y,xs[2]?=some y:=⟨_,List.getElem?_eq_getElem (by omega)⟩
 have f2:DataW.trod enc Tryz.prog W 0 (fun _=>true) held m 77 ((cs.drop 2).take (Tryz.prog.cellsOf 77))=some x2:=(hf 2 { name := "Less",type:=77,offset:=2,embedded:=false,tag := "",pkgPath := "",byteOffset:=32 } rfl).trans hx2
 rw[c_bool] at f0
 rw[c_u16s] at f1
 rw[c_u32] at f2
 obtain⟨a,y,c,rfl⟩:=len3 hl
 ·obtain⟨b,e0,_⟩:=DataW.trod_bool u_bool f0
  obtain⟨v,n,cs',e1,ht,hn',hs,_⟩:=tell_slice (R:=fun _=>True) u_u16s c_u16 (by omega) (fun n cs x hx=>by
   obtain⟨k,rfl,_⟩:=trod_nat (m:=65535) rfl rfl u_u16 hx
   exact⟨trivial,fun y hy=>by rw[List.mem_singleton.1 hy];rfl⟩) G f1
  obtain⟨k,e2,hk⟩:=trod_nat (m:=4294967295) rfl rfl u_u32 f2
  cases e0;cases e1;cases e2
  exact⟨b,_,k,rfl,hs.cok,ht,by omega,by omega⟩
theorem tell_drafts (G:Nat→Option (List Value)) {fuel:Nat} {cs0:List Value} {x:DataW H×List MemPlace} (h:DataW.trod enc Tryz.prog W 0 (fun _=>true) held fuel 75 cs0=some x) :
  ∃v n,cs0 = [v]∧tellable v=true∧DrSl (IH.start (tellB G W)) (trV v) n:=by
 obtain⟨v,n,cs,e,ht,hn,hs,hR⟩:=tell_slice (R:=fun cs=>DrOf (cs.map trV)) u_drafts c_draft (by omega) (fun n cs x hx=>by
  obtain⟨xs,m,_,_,hl,hn,hf⟩:=DataW.trod_struct u_draft hx
  rw[c_draft] at hl
  have hn2:xs.length=2:=hn
  obtain⟨x0,hx0⟩ : ∃y,xs[0]?=some y:=⟨_,List.getElem?_eq_getElem (by omega)⟩
  have f0:DataW.trod enc Tryz.prog W 0 (fun _=>true) held m 79 ((cs.drop 0).take (Tryz.prog.cellsOf 79))=some x0:=(hf 0 { name := "N",type:=79,offset:=0,embedded:=false,tag := "",pkgPath := "",byteOffset:=0 } rfl).trans hx0
  obtain⟨x1,hx1⟩ : ∃y,xs[1]?=some y:=⟨_,List.getElem?_eq_getElem (by omega)⟩
  have f1:DataW.trod enc Tryz.prog W 0 (fun _=>true) held m 79 ((cs.drop 3).take (Tryz.prog.cellsOf 79))=some x1:=(hf 1 { name := "D",type:=79,offset:=3,embedded:=false,tag := "",pkgPath := "",byteOffset:=40 } rfl).trans hx1
  rw[c_draft1] at f0 f1
  obtain⟨a,b,c,d,e,f,rfl⟩:=len6 hl
  ·obtain⟨b1,y1,n1,e0,o1,t1,r1⟩:=half_of G f0
   obtain⟨b2,y2,n2,e1,o2,t2,r2⟩:=half_of G f1
   cases e0;cases e1
   refine⟨⟨b1,_,n1,b2,_,n2,rfl,o1,o2,r1.1,r1.2,r2.1,r2.2⟩,fun y hy=>?_⟩
   simp at hy
   rcases hy with rfl|rfl|rfl|rfl|rfl|rfl<;>first|rfl|assumption) G h
 refine⟨v,n,e,ht,cs.map trV,hs,fun i hi=>?_⟩
 rw[←List.map_drop,←List.map_take]
 exact hR i hi
end
end Go.Proofs.YtjhnilfelokpcaaGreat

namespace Go.Proofs.YtjhnilfelokpcaaGreat
open Go.ChangeShapes Go.WideShapes Go.ChangeAt Go.RowKit Go.Id
theorem draft_of {H:Type} {enc:TypeId×Value→H} {W:World} {held:Bool} (G:Nat→Option (List Value)) {fuel:Nat} {cs:List Value} {x:DataW H×List MemPlace} (h:DataW.trod enc Tryz.prog W 0 (fun _=>true) held fuel 81 cs=some x) :
  ∃b1 y1 n1 b2 y2 n2,cs = [.bool b1,y1,.int .u32 n1,.bool b2,y2,.int .u32 n2]∧(tellable y1=true∧tellable y2=true)∧(cellOK (trV y1)=true∧cellOK (trV y2)=true∧(0≤n1∧n1<4294967296)∧(0≤n2∧n2<4294967296)):=by
 obtain⟨xs,m,_,_,hl,hn,hf⟩:=DataW.trod_struct u_draft h
 rw[c_draft] at hl
 have hn2:xs.length=2:=hn
 obtain⟨x0,hx0⟩ : ∃y,xs[0]?=some y:=⟨_,List.getElem?_eq_getElem (by omega)⟩
 have f0:DataW.trod enc Tryz.prog W 0 (fun _=>true) held m 79 ((cs.drop 0).take (Tryz.prog.cellsOf 79))=some x0:=(hf 0 { name := "N",type:=79,offset:=0,embedded:=false,tag := "",pkgPath := "",byteOffset:=0 } rfl).trans hx0
 obtain⟨x1,hx1⟩ : ∃y,xs[1]?=some y:=⟨_,List.getElem?_eq_getElem (by omega)⟩
 have f1:DataW.trod enc Tryz.prog W 0 (fun _=>true) held m 79 ((cs.drop 3).take (Tryz.prog.cellsOf 79))=some x1:=(hf 1 { name := "D",type:=79,offset:=3,embedded:=false,tag := "",pkgPath := "",byteOffset:=40 } rfl).trans hx1
 rw[c_draft1] at f0 f1
 obtain⟨a,b,c,d,e,f,rfl⟩:=len6 hl
 obtain⟨b1,y1,n1,e0,o1,t1,r1⟩:=half_of G f0
 obtain⟨b2,y2,n2,e1,o2,t2,r2⟩:=half_of G f1
 cases e0;cases e1
 exact⟨b1,_,n1,b2,_,n2,rfl,⟨t1,t2⟩,o1,o2,r1,r2⟩
end Go.Proofs.YtjhnilfelokpcaaGreat

namespace Go.Id
open Go
def E1 (P:Program) (tb:FuncId→Option (List Value→Option Value)):Env:=⟨P,fun _ _=>none,fun f=>(tb f).map fun g args h=>bif args.all plain then (g args).map (·,h) else none⟩
theorem plain_all {m:Mp} {l l':List Value} (h:LRel m l l') (hp:l.all plain=true):l'=l:=by
 apply List.ext_getElem? fun i=>?_
 by_cases hi:i<l.length
 ·obtain⟨v',h1,h2⟩:=h.get (List.getElem?_eq_getElem hi)
  rw[h1,List.getElem?_eq_getElem hi,h2.plain_eq (by have:=List.all_eq_true.1 hp;exact this _ (List.getElem_mem hi))]
 ·rw[List.getElem?_eq_none (show l'.length≤i from h.1▸Nat.le_of_not_lt hi),List.getElem?_eq_none (Nat.le_of_not_lt hi)]
theorem plain_all_mk {m:Mp} {l:List Value} (hp:l.all plain=true):LRel m l l :=
 ⟨rfl,fun i v v' a b=>by
  rw[a] at b;cases b
  exact .plain_mk (List.all_eq_true.1 hp _ (List.mem_of_getElem? a))⟩
theorem Rel.bare {B:Nat} {w0:World} {m:Mp} {h:IH} {w:World} (R:Rel B w0 m h w):Rel B w0 ⟨fun b=>if b % 2=1 then m b else none,m.ez⟩ (IH.start fun _=>none) w:=by
 have leaf : ∀{α:Type} (k:Nat),(Tr.leaf:Tr α).get k=none:=fun k=>rfl
 have odd : ∀k x,(⟨fun b=>if b % 2=1 then m b else none,m.ez⟩:Mp) (2*k)=some x→False:=by
  intro k x h
  have h1:(if 2*k % 2=1 then m (2*k) else none)=some x:=h
  rw[if_neg (by omega)] at h1;cases h1
 refine⟨R.below,R.size,?_,fun b h=>?_,?_,fun k _=>leaf k,?_,?_,?_,?_,?_,?_⟩
 ·intro b cs h;cases h
 ·show(if (2*b+1) % 2=1 then m (2*b+1) else none)=_
  rw[if_pos (by omega)];exact R.odd b h
 ·intro k r s h;exact(odd _ _ h).elim
 ·intro k o r s h;cases h
 ·intro k k' o o' r s s' _ h;cases h
 ·intro f st h;cases h
 ·intro k cs t f h;cases h
 ·intro f st h;cases h
 ·intro f st x y h;cases h
theorem ObjRel.same {m:Mp} {w w':World} {r s:Nat} {z:Nat×Nat} {o:IObj} (h:ObjRel m w r s z o) (e:w'.heap[r]?=w.heap[r]?):ObjRel m w' r s z o:=by
 cases o<;>simp only[ObjRel] at h ⊢ <;> first|(rw[e];exact h)|trivial
theorem Rel.aside {B:Nat} {w0:World} {m m':Mp} {h h':IH} {w w':World} (R:Rel B w0 m h w) (R':Rel B w0 m' h' w') (S:Step ⟨fun b=>if b % 2=1 then m b else none,m.ez⟩ (IH.start fun _=>none) w m' h' w'):Rel B w0 m h w'∧Step m h w m h w':=by
 have same : ∀r,r<w.heap.size→w'.heap[r]?=w.heap[r]?:=fun r hr=>S.frame r hr fun k s hk=>absurd hk (Nat.not_lt_zero k)
 refine⟨⟨R'.below,R'.size,fun b cs hb=>?_,R.odd,fun k r s hk=>?_,R.dom,fun k o r s hk hm=>?_,R.own,R.famdom,R.fam,R.long,R.whole⟩,
  ⟨Mp.le_refl m,fun b hb=>absurd rfl hb,Nat.le_refl _,rfl,fun r hr _=>same r hr,fun _ _ _=>rfl,S.size,fun k r s h1 h2=>by omega,fun _ _ _ hh=>hh⟩⟩
 ·obtain⟨r,s,h1,h2,c,el,fz,h3,h4⟩:=R.base b cs hb
  exact⟨r,s,h1,h2,c,el,fz,by rw[same r (by have:=R.size;omega)];exact h3,h4⟩
 ·have:=R.even k r s hk
  have:=S.size
  exact⟨by omega,by omega⟩
 ·exact(R.obj k o r s hk hm).same (same r (R.even k r s hm).2)
def plainT:Value→Bool
 | .tuple vs=>vs.toList.all plain
 | v=>plain v
theorem VRel.plainT_eq {m:Mp} {v v':Value} (h:VRel m v v') (hv:plainT v=true):v'=v:=by
 unfold plainT at hv
 split at hv
 ·obtain⟨cs',rfl,h2⟩:=h.tuple_inv
  have:=LRel.plain_eq h2 hv
  exact congrArg Value.tuple (Array.ext' this)
 ·exact h.plain_eq hv
theorem VRel.plainT_mk {m:Mp} {v:Value} (hv:plainT v=true):VRel m v v:=by
 unfold plainT at hv
 split at hv
 ·exact VRel.tuple_iff (plain_all_mk hv)
 ·exact .plain_mk hv
def Gives (P:Program) (f:FuncId) (args:List Value) (v:Value):Prop :=
 ∀(B:Nat) (w0:World) (m:Mp) (h:IH) (w:World),Rel B w0 m h w → ∃h2,CallsTo P f args.toArray B w0 ⟨fun b=>if b % 2=1 then m b else none,m.ez⟩ (IH.start fun _=>none) w v h2
theorem gives_run {E:Env} (S:Sound E) {n:Nat} {f:FuncId} {args:List Value} {v:Value} {h2:IH} (hr:callV E (n+1) (.func (.func f) #[] #[]) args (IH.start fun _=>none)=some (v,h2)) (hb : ∃fn,E.P.funcs[f]?=some fn∧fn.body.isSome=true) (hp:args.all plain=true):Gives E.P f args v:=by
 intro B w0 m h w R
 refine⟨h2,?_⟩
 have hc:=hr
 unfold callV at hc
 have fresh:Fresh ⟨fun b=>if b % 2=1 then m b else none,m.ez⟩ (IH.start fun _=>none).n h2.n:=fun k _ _=>by
  show(if 2*k % 2=1 then m (2*k) else none)=none
  rw[if_neg (by omega)]
 obtain⟨fn,hfn,hb⟩:=hb
 rcases callFn_sim S (callV_sim S n) (callV_mono S n) hc R.bare (args':=args.toArray) (by simpa using plain_all_mk hp) fresh with⟨_,k⟩|⟨fn',k1,k2,_⟩
 ·exact k
 ·have k3:E.P.funcs[f]?=some fn':=k1
  rw[hfn] at k3;cases k3
  rw[k2] at hb;cases hb
theorem gives_wv {P:Program} (S:Sound (E0 P)) {f:FuncId} {args:List Value} {v:Value} (hb : ∃fn,P.funcs[f]?=some fn∧fn.body.isSome=true) (hp:args.all plain=true) (h:WV P (.func (.func f) #[] #[]) args (IH.start fun _=>none) fun r _=>r=v):Gives P f args v:=by
 obtain⟨⟨r,h2⟩,⟨N,hN⟩,hr⟩:=h
 simp only at hr
 subst hr
 exact gives_run (E:=E0 P) S (hN (N+1) (by omega)) hb hp
theorem sound1 {P:Program} {tb:FuncId→Option (List Value→Option Value)} (S:Sound (E0 P)) (hf : ∀f g,tb f=some g → ∃fn,P.funcs[f]?=some fn∧fn.body.isSome=true)
  (hv : ∀f g,tb f=some g → ∀args v,args.all plain=true→g args=some v→plainT v=true∧Gives P f args v):Sound (E1 P tb) where
 mixed:=S.mixed
 names:=S.names
 origin:=S.origin
 intrN:=fun f g hg args h v h' e=>by
  obtain⟨g0,h1,rfl⟩:=Option.map_eq_some_iff.1 hg
  simp only[cond_eq_ite] at e
  split at e
  ·obtain⟨v0,_,e2⟩:=Option.map_eq_some_iff.1 e
   cases e2;exact Nat.le_refl _
  ·cases e
 intr:=fun f g hg=>by
  obtain⟨g0,h1,rfl⟩:=Option.map_eq_some_iff.1 hg
  refine⟨hf f g0 h1,fun args h v h' e B w0 m w args' R hargs _=>?_⟩
  simp only[cond_eq_ite] at e
  split at e
  case isFalse=>cases e
  rename_i hp
  obtain⟨v0,e1,e2⟩:=Option.map_eq_some_iff.1 e
  cases e2
  obtain⟨hpl,hg⟩:=hv f g0 h1 args v hp e1
  obtain⟨h2,key⟩:=hg B w0 m h w R
  have ea:args.toArray=args':=by
   rw[←plain_all hargs hp]
  rw[ea] at key
  refine key.mono fun e' w' ⟨v',m',he,hvr,R',S'⟩=>?_
  obtain⟨R2,S2⟩:=R.aside R' S'
  exact⟨v',m,he,by rw[hvr.plainT_eq hpl];exact .plainT_mk hpl,R2,S2⟩
end Go.Id

/-
  The types of this seat's program, as the machine asks of them; made by program (tools/mk.py). Digits to the base 2^32, the lowest first: plain numbers.
-/
import Derived.Test.YtnanhedgenokpaaGreatTemperDetailedAs
import Derived.Test.YtnanhedgenokpaaGreatProg
import Derived.KernelRfl
import Init
import Derived.Test.YtnanhedgenokpaaGreatTemperDetailedAt
set_option linter.unusedVariables false
set_option linter.unusedSimpArgs false
set_option linter.defProp false
set_option linter.deprecated false
namespace Go.Id
open Go
open Go.Proofs.Tryz (prog)
theorem ag135:isAggT prog 135=some false:=by kernel_rfl
theorem ag137:isAggT prog 137=some true:=by kernel_rfl
theorem ag139:isAggT prog 139=some true:=by kernel_rfl
theorem ag194:isAggT prog 194=some true:=by kernel_rfl
theorem ag196:isAggT prog 196=some true:=by kernel_rfl
theorem ag22:isAggT prog 22=some false:=by kernel_rfl
theorem ag234:isAggT prog 234=some true:=by kernel_rfl
theorem ag236:isAggT prog 236=some true:=by kernel_rfl
theorem ag24:isAggT prog 24=some true:=by kernel_rfl
theorem ag25:isAggT prog 25=some false:=by kernel_rfl
theorem ag27:isAggT prog 27=some true:=by kernel_rfl
theorem ag28:isAggT prog 28=some false:=by kernel_rfl
theorem ag3:isAggT prog 3=some false:=by kernel_rfl
theorem ag30:isAggT prog 30=some true:=by kernel_rfl
theorem ag32:isAggT prog 32=some true:=by kernel_rfl
theorem ag4:isAggT prog 4=some false:=by kernel_rfl
theorem ag5:isAggT prog 5=some false:=by kernel_rfl
theorem ag60:isAggT prog 60=some false:=by kernel_rfl
theorem ap135:appT prog 135=some (1,8):=by kernel_rfl
theorem ap153:appT prog 153=some (4,64):=by kernel_rfl
theorem ap25:appT prog 25=some (1,8):=by kernel_rfl
theorem ap38:appT prog 38=some (1,24):=by kernel_rfl
theorem ap42:appT prog 42=some (8,64):=by kernel_rfl
theorem ap60:appT prog 60=some (16,128):=by kernel_rfl
theorem ar234:arrOf prog 234=some (8,1):=by kernel_rfl
theorem ar30:arrOf prog 30=some (8,1):=by kernel_rfl
theorem ar320:arrOf prog 320=some (16,1):=by kernel_rfl
theorem as137:allSized prog 137=true:=by kernel_rfl
theorem as139:allSized prog 139=true:=by kernel_rfl
theorem as194:allSized prog 194=true:=by kernel_rfl
theorem as196:allSized prog 196=true:=by kernel_rfl
theorem as234:allSized prog 234=true:=by kernel_rfl
theorem as236:allSized prog 236=true:=by kernel_rfl
theorem as30:allSized prog 30=true:=by kernel_rfl
theorem as32:allSized prog 32=true:=by kernel_rfl
theorem eg234:prog.eqGuardType prog.depth 234=false:=by kernel_rfl
theorem eg30:prog.eqGuardType prog.depth 30=false:=by kernel_rfl
theorem es135:elemSize prog 135=some 1:=by kernel_rfl
theorem es153:elemSize prog 153=some 4:=by kernel_rfl
theorem es22:elemSize prog 22=some 1:=by kernel_rfl
theorem es25:elemSize prog 25=some 1:=by kernel_rfl
theorem es38:elemSize prog 38=some 1:=by kernel_rfl
theorem es42:elemSize prog 42=some 8:=by kernel_rfl
theorem es60:elemSize prog 60=some 16:=by kernel_rfl
theorem fa137_0:fieldAt prog 137 0=some 0:=by kernel_rfl
theorem fa137_1:fieldAt prog 137 1=some 1:=by kernel_rfl
theorem fa139_0:fieldAt prog 139 0=some 0:=by kernel_rfl
theorem fa139_1:fieldAt prog 139 1=some 2:=by kernel_rfl
theorem fa194_0:fieldAt prog 194 0=some 0:=by kernel_rfl
theorem fa194_1:fieldAt prog 194 1=some 1:=by kernel_rfl
theorem fa196_0:fieldAt prog 196 0=some 0:=by kernel_rfl
theorem fa196_1:fieldAt prog 196 1=some 2:=by kernel_rfl
theorem fa236_0:fieldAt prog 236 0=some 0:=by kernel_rfl
theorem fa236_1:fieldAt prog 236 1=some 1:=by kernel_rfl
theorem fa24_0:fieldAt prog 24 0=some 0:=by kernel_rfl
theorem fa24_1:fieldAt prog 24 1=some 1:=by kernel_rfl
theorem fa27_0:fieldAt prog 27 0=some 0:=by kernel_rfl
theorem fa27_1:fieldAt prog 27 1=some 2:=by kernel_rfl
theorem fa27_2:fieldAt prog 27 2=some 3:=by kernel_rfl
theorem fa27_3:fieldAt prog 27 3=some 4:=by kernel_rfl
theorem fa32_0:fieldAt prog 32 0=some 0:=by kernel_rfl
theorem fa32_1:fieldAt prog 32 1=some 8:=by kernel_rfl
theorem fp137_1:fieldPart prog 137 1=some (false,1,1):=by kernel_rfl
theorem fp139_0:fieldPart prog 139 0=some (true,0,2):=by kernel_rfl
theorem fp236_0:fieldPart prog 236 0=some (false,0,1):=by kernel_rfl
theorem is28:(Program.underlying prog 28).isSome=true:=by kernel_rfl
theorem is3:(Program.underlying prog 3).isSome=true:=by kernel_rfl
theorem is5:(Program.underlying prog 5).isSome=true:=by kernel_rfl
theorem mk135:makeT prog 135=some (1,8,[.int .u64 (0)]):=by kernel_rfl
theorem mk153:makeT prog 153=some (4,64,[.bool false,.slice none 0 0,.bool false,.slice none 0 0]):=by kernel_rfl
theorem mk25:makeT prog 25=some (1,8,[.int .i64 (0)]):=by kernel_rfl
theorem mk38:makeT prog 38=some (1,24,[.slice none 0 0]):=by kernel_rfl
theorem mk42:makeT prog 42=some (8,64,[.int .u64 (0),.int .u64 (0),.int .u64 (0),.int .u64 (0),.int .u64 (0),.int .u64 (0),.int .u64 (0),.int .u64 (0)]):=by kernel_rfl
theorem mk60:makeT prog 60=some (16,128,[.int .u64 (0),.int .u64 (0),.int .u64 (0),.int .u64 (0),.int .u64 (0),.int .u64 (0),.int .u64 (0),.int .u64 (0),.int .u64 (0),.int .u64 (0),.int .u64 (0),.int .u64 (0),.int .u64 (0),.int .u64 (0),.int .u64 (0),.int .u64 (0)]):=by kernel_rfl
theorem pl137_0:placeOf prog 137 0=some (0,1):=by kernel_rfl
theorem pl137_1:placeOf prog 137 1=some (1,1):=by kernel_rfl
theorem pl139_0:placeOf prog 139 0=some (0,2):=by kernel_rfl
theorem pl139_1:placeOf prog 139 1=some (2,2):=by kernel_rfl
theorem pl194_0:placeOf prog 194 0=some (0,1):=by kernel_rfl
theorem pl194_1:placeOf prog 194 1=some (1,1):=by kernel_rfl
theorem pl196_0:placeOf prog 196 0=some (0,2):=by kernel_rfl
theorem pl196_1:placeOf prog 196 1=some (2,2):=by kernel_rfl
theorem pl234_7:placeOf prog 234 7=some (7,1):=by kernel_rfl
theorem pl236_0:placeOf prog 236 0=some (0,1):=by kernel_rfl
theorem pl236_1:placeOf prog 236 1=some (1,8):=by kernel_rfl
theorem pl30_0:placeOf prog 30 0=some (0,1):=by kernel_rfl
theorem pl32_0:placeOf prog 32 0=some (0,8):=by kernel_rfl
theorem pl32_1:placeOf prog 32 1=some (8,8):=by kernel_rfl
theorem sl135:isSliceT prog (some 135)=true:=by kernel_rfl
theorem sl153:isSliceT prog (some 153)=true:=by kernel_rfl
theorem sl22:isSliceT prog (some 22)=true:=by kernel_rfl
theorem sl25:isSliceT prog (some 25)=true:=by kernel_rfl
theorem sl38:isSliceT prog (some 38)=true:=by kernel_rfl
theorem sl42:isSliceT prog (some 42)=true:=by kernel_rfl
theorem sl60:isSliceT prog (some 60)=true:=by kernel_rfl
theorem sz137:sizeT prog 137=some 2:=by kernel_rfl
theorem sz139:sizeT prog 139=some 4:=by kernel_rfl
theorem sz194:sizeT prog 194=some 2:=by kernel_rfl
theorem sz196:sizeT prog 196=some 4:=by kernel_rfl
theorem sz234:sizeT prog 234=some 8:=by kernel_rfl
theorem sz236:sizeT prog 236=some 9:=by kernel_rfl
theorem sz24:sizeT prog 24=some 2:=by kernel_rfl
theorem sz27:sizeT prog 27=some 7:=by kernel_rfl
theorem sz28:sizeT prog 28=some 1:=by kernel_rfl
theorem sz3:sizeT prog 3=some 1:=by kernel_rfl
theorem sz30:sizeT prog 30=some 8:=by kernel_rfl
theorem sz32:sizeT prog 32=some 16:=by kernel_rfl
theorem sz5:sizeT prog 5=some 1:=by kernel_rfl
theorem u135:Program.underlying prog 135=some (.slice 28):=by kernel_rfl
theorem u22:Program.underlying prog 22=some (.slice 5):=by kernel_rfl
theorem u234:Program.underlying prog 234=some (.array 8 28):=by kernel_rfl
theorem u25:Program.underlying prog 25=some (.slice 3):=by kernel_rfl
theorem u250:Program.underlying prog 250=some (.map 5 249):=by kernel_rfl
theorem u28:Program.underlying prog 28=some (.int .u64):=by kernel_rfl
theorem u3:Program.underlying prog 3=some (.int .i64):=by kernel_rfl
theorem u30:Program.underlying prog 30=some (.array 8 28):=by kernel_rfl
theorem u4:Program.underlying prog 4=some .bool:=by kernel_rfl
theorem u5:Program.underlying prog 5=some (.int .u8):=by kernel_rfl
theorem u9:Program.underlying prog 9=some .string:=by kernel_rfl
theorem u94:Program.underlying prog 94=some (.int .u64):=by kernel_rfl
theorem zc137:zeroCellsT prog 137=some [.bool false,.slice none 0 0]:=by kernel_rfl
theorem zc139:zeroCellsT prog 139=some [.bool false,.slice none 0 0,.bool false,.slice none 0 0]:=by kernel_rfl
theorem zc194:zeroCellsT prog 194=some [.bool false,.slice none 0 0]:=by kernel_rfl
theorem zc196:zeroCellsT prog 196=some [.bool false,.slice none 0 0,.bool false,.slice none 0 0]:=by kernel_rfl
theorem zc234:zeroCellsT prog 234=some [.int .u64 (0),.int .u64 (0),.int .u64 (0),.int .u64 (0),.int .u64 (0),.int .u64 (0),.int .u64 (0),.int .u64 (0)]:=by kernel_rfl
theorem zc236:zeroCellsT prog 236=some [.bool false,.int .u64 (0),.int .u64 (0),.int .u64 (0),.int .u64 (0),.int .u64 (0),.int .u64 (0),.int .u64 (0),.int .u64 (0)]:=by kernel_rfl
theorem zc3:zeroCellsT prog 3=some [.int .i64 (0)]:=by kernel_rfl
theorem zc30:zeroCellsT prog 30=some [.int .u64 (0),.int .u64 (0),.int .u64 (0),.int .u64 (0),.int .u64 (0),.int .u64 (0),.int .u64 (0),.int .u64 (0)]:=by kernel_rfl
theorem zc32:zeroCellsT prog 32=some [.int .u64 (0),.int .u64 (0),.int .u64 (0),.int .u64 (0),.int .u64 (0),.int .u64 (0),.int .u64 (0),.int .u64 (0),.int .u64 (0),.int .u64 (0),.int .u64 (0),.int .u64 (0),.int .u64 (0),.int .u64 (0),.int .u64 (0),.int .u64 (0)]:=by kernel_rfl
theorem zc320:zeroCellsT prog 320=some [.int .u64 (0),.int .u64 (0),.int .u64 (0),.int .u64 (0),.int .u64 (0),.int .u64 (0),.int .u64 (0),.int .u64 (0),.int .u64 (0),.int .u64 (0),.int .u64 (0),.int .u64 (0),.int .u64 (0),.int .u64 (0),.int .u64 (0),.int .u64 (0)]:=by kernel_rfl
theorem ba135_135 (h:IH) (x y:Value):builtin prog h .append #[135,135] [x,y]=append prog h 135 x y:=builtin_append prog h 135 135 x y sl135
theorem ba153_153 (h:IH) (x y:Value):builtin prog h .append #[153,153] [x,y]=append prog h 153 x y:=builtin_append prog h 153 153 x y sl153
theorem ba25_25 (h:IH) (x y:Value):builtin prog h .append #[25,25] [x,y]=append prog h 25 x y:=builtin_append prog h 25 25 x y sl25
theorem ba38_38 (h:IH) (x y:Value):builtin prog h .append #[38,38] [x,y]=append prog h 38 x y:=builtin_append prog h 38 38 x y sl38
theorem ba42_42 (h:IH) (x y:Value):builtin prog h .append #[42,42] [x,y]=append prog h 42 x y:=builtin_append prog h 42 42 x y sl42
theorem ba60_60 (h:IH) (x y:Value):builtin prog h .append #[60,60] [x,y]=append prog h 60 x y:=builtin_append prog h 60 60 x y sl60
theorem be4 (ox oy:Operand) (a b:Bool):binop prog .eql 4 ox oy (.bool a) (.bool b)=some (.bool (a == b)):=binop_eql_bool u4 ox oy a b
theorem bn4 (ox oy:Operand) (a b:Bool):binop prog .neq 4 ox oy (.bool a) (.bool b)=some (.bool (!(a == b))):=binop_neq_bool u4 ox oy a b
theorem bs135 (h:IH) (len:Nat) (ps:List (Nat×Value)) (hl:len*1≤16777216):buildSlice prog h 135 len ps=(fillP (fun i=>some (i*1,1)) (repl len [.int .u64 (0)]) ps).map fun cells=>(.slice (some ⟨2*h.n,0,none⟩) len (2*len+1),h.new (.cells cells 1 none)):=buildSlice_eq mk135 h len ps hl
theorem bs153 (h:IH) (len:Nat) (ps:List (Nat×Value)) (hl:len*4≤16777216):buildSlice prog h 153 len ps=(fillP (fun i=>some (i*4,4)) (repl len [.bool false,.slice none 0 0,.bool false,.slice none 0 0]) ps).map fun cells=>(.slice (some ⟨2*h.n,0,none⟩) len (2*len+1),h.new (.cells cells 4 none)):=buildSlice_eq mk153 h len ps hl
theorem bs25 (h:IH) (len:Nat) (ps:List (Nat×Value)) (hl:len*1≤16777216):buildSlice prog h 25 len ps=(fillP (fun i=>some (i*1,1)) (repl len [.int .i64 (0)]) ps).map fun cells=>(.slice (some ⟨2*h.n,0,none⟩) len (2*len+1),h.new (.cells cells 1 none)):=buildSlice_eq mk25 h len ps hl
theorem bs38 (h:IH) (len:Nat) (ps:List (Nat×Value)) (hl:len*1≤16777216):buildSlice prog h 38 len ps=(fillP (fun i=>some (i*1,1)) (repl len [.slice none 0 0]) ps).map fun cells=>(.slice (some ⟨2*h.n,0,none⟩) len (2*len+1),h.new (.cells cells 1 none)):=buildSlice_eq mk38 h len ps hl
theorem bs42 (h:IH) (len:Nat) (ps:List (Nat×Value)) (hl:len*8≤16777216):buildSlice prog h 42 len ps=(fillP (fun i=>some (i*8,8)) (repl len [.int .u64 (0),.int .u64 (0),.int .u64 (0),.int .u64 (0),.int .u64 (0),.int .u64 (0),.int .u64 (0),.int .u64 (0)]) ps).map fun cells=>(.slice (some ⟨2*h.n,0,none⟩) len (2*len+1),h.new (.cells cells 8 none)):=buildSlice_eq mk42 h len ps hl
theorem bs60 (h:IH) (len:Nat) (ps:List (Nat×Value)) (hl:len*16≤16777216):buildSlice prog h 60 len ps=(fillP (fun i=>some (i*16,16)) (repl len [.int .u64 (0),.int .u64 (0),.int .u64 (0),.int .u64 (0),.int .u64 (0),.int .u64 (0),.int .u64 (0),.int .u64 (0),.int .u64 (0),.int .u64 (0),.int .u64 (0),.int .u64 (0),.int .u64 (0),.int .u64 (0),.int .u64 (0),.int .u64 (0)]) ps).map fun cells=>(.slice (some ⟨2*h.n,0,none⟩) len (2*len+1),h.new (.cells cells 16 none)):=buildSlice_eq mk60 h len ps hl
theorem bv137 (ps:List (Nat×Value)):buildV prog 137 ps=(fillP (placeOf prog 137) [.bool false,.slice none 0 0] ps).map fun cs=>.agg cs.toArray:=buildV_eq zc137 as137 ps
theorem bv139 (ps:List (Nat×Value)):buildV prog 139 ps=(fillP (placeOf prog 139) [.bool false,.slice none 0 0,.bool false,.slice none 0 0] ps).map fun cs=>.agg cs.toArray:=buildV_eq zc139 as139 ps
theorem bv194 (ps:List (Nat×Value)):buildV prog 194 ps=(fillP (placeOf prog 194) [.bool false,.slice none 0 0] ps).map fun cs=>.agg cs.toArray:=buildV_eq zc194 as194 ps
theorem bv196 (ps:List (Nat×Value)):buildV prog 196 ps=(fillP (placeOf prog 196) [.bool false,.slice none 0 0,.bool false,.slice none 0 0] ps).map fun cs=>.agg cs.toArray:=buildV_eq zc196 as196 ps
theorem bv234 (ps:List (Nat×Value)):buildV prog 234 ps=(fillP (placeOf prog 234) [.int .u64 (0),.int .u64 (0),.int .u64 (0),.int .u64 (0),.int .u64 (0),.int .u64 (0),.int .u64 (0),.int .u64 (0)] ps).map fun cs=>.agg cs.toArray:=buildV_eq zc234 as234 ps
theorem bv236 (ps:List (Nat×Value)):buildV prog 236 ps=(fillP (placeOf prog 236) [.bool false,.int .u64 (0),.int .u64 (0),.int .u64 (0),.int .u64 (0),.int .u64 (0),.int .u64 (0),.int .u64 (0),.int .u64 (0)] ps).map fun cs=>.agg cs.toArray:=buildV_eq zc236 as236 ps
theorem bv30 (ps:List (Nat×Value)):buildV prog 30 ps=(fillP (placeOf prog 30) [.int .u64 (0),.int .u64 (0),.int .u64 (0),.int .u64 (0),.int .u64 (0),.int .u64 (0),.int .u64 (0),.int .u64 (0)] ps).map fun cs=>.agg cs.toArray:=buildV_eq zc30 as30 ps
theorem bv32 (ps:List (Nat×Value)):buildV prog 32 ps=(fillP (placeOf prog 32) [.int .u64 (0),.int .u64 (0),.int .u64 (0),.int .u64 (0),.int .u64 (0),.int .u64 (0),.int .u64 (0),.int .u64 (0),.int .u64 (0),.int .u64 (0),.int .u64 (0),.int .u64 (0),.int .u64 (0),.int .u64 (0),.int .u64 (0),.int .u64 (0)] ps).map fun cs=>.agg cs.toArray:=buildV_eq zc32 as32 ps
theorem cv28_3 (k:IntKind) (n:Int):convV prog 28 3 (.int k n)=some (.int .i64 (IntKind.i64.wrap n)):=convV_int is28 u3
theorem cv28_5 (k:IntKind) (n:Int):convV prog 28 5 (.int k n)=some (.int .u8 (IntKind.u8.wrap n)):=convV_int is28 u5
theorem cv3_28 (k:IntKind) (n:Int):convV prog 3 28 (.int k n)=some (.int .u64 (IntKind.u64.wrap n)):=convV_int is3 u28
theorem cv3_94 (k:IntKind) (n:Int):convV prog 3 94 (.int k n)=some (.int .u64 (IntKind.u64.wrap n)):=convV_int is3 u94
theorem cv5_3 (k:IntKind) (n:Int):convV prog 5 3 (.int k n)=some (.int .i64 (IntKind.i64.wrap n)):=convV_int is5 u3
theorem ld135 (h:IH) (b o:Nat):load prog h 135 (ptr b o)=ld h b o:=load_scal ag135 h b o
theorem ld137 (h:IH) (b o:Nat):load prog h 137 (ptr b o)=(h.rd b o 2).map fun cs=>.agg cs.toArray:=load_agg ag137 sz137 h b o
theorem ld139 (h:IH) (b o:Nat):load prog h 139 (ptr b o)=(h.rd b o 4).map fun cs=>.agg cs.toArray:=load_agg ag139 sz139 h b o
theorem ld194 (h:IH) (b o:Nat):load prog h 194 (ptr b o)=(h.rd b o 2).map fun cs=>.agg cs.toArray:=load_agg ag194 sz194 h b o
theorem ld196 (h:IH) (b o:Nat):load prog h 196 (ptr b o)=(h.rd b o 4).map fun cs=>.agg cs.toArray:=load_agg ag196 sz196 h b o
theorem ld22 (h:IH) (b o:Nat):load prog h 22 (ptr b o)=ld h b o:=load_scal ag22 h b o
theorem ld234 (h:IH) (b o:Nat):load prog h 234 (ptr b o)=(h.rd b o 8).map fun cs=>.agg cs.toArray:=load_agg ag234 sz234 h b o
theorem ld236 (h:IH) (b o:Nat):load prog h 236 (ptr b o)=(h.rd b o 9).map fun cs=>.agg cs.toArray:=load_agg ag236 sz236 h b o
theorem ld24 (h:IH) (b o:Nat):load prog h 24 (ptr b o)=(h.rd b o 2).map fun cs=>.agg cs.toArray:=load_agg ag24 sz24 h b o
theorem ld25 (h:IH) (b o:Nat):load prog h 25 (ptr b o)=ld h b o:=load_scal ag25 h b o
theorem ld27 (h:IH) (b o:Nat):load prog h 27 (ptr b o)=(h.rd b o 7).map fun cs=>.agg cs.toArray:=load_agg ag27 sz27 h b o
theorem ld28 (h:IH) (b o:Nat):load prog h 28 (ptr b o)=ld h b o:=load_scal ag28 h b o
theorem ld3 (h:IH) (b o:Nat):load prog h 3 (ptr b o)=ld h b o:=load_scal ag3 h b o
theorem ld30 (h:IH) (b o:Nat):load prog h 30 (ptr b o)=(h.rd b o 8).map fun cs=>.agg cs.toArray:=load_agg ag30 sz30 h b o
theorem ld32 (h:IH) (b o:Nat):load prog h 32 (ptr b o)=(h.rd b o 16).map fun cs=>.agg cs.toArray:=load_agg ag32 sz32 h b o
theorem ld4 (h:IH) (b o:Nat):load prog h 4 (ptr b o)=ld h b o:=load_scal ag4 h b o
theorem ld5 (h:IH) (b o:Nat):load prog h 5 (ptr b o)=ld h b o:=load_scal ag5 h b o
theorem ln135 (h:IH) (a:Option Addr) (n c:Nat):lenB prog h 135 (.slice a n c)=some (.int .i64 n):=lenB_slice sl135 h a n c
theorem ln25 (h:IH) (a:Option Addr) (n c:Nat):lenB prog h 25 (.slice a n c)=some (.int .i64 n):=lenB_slice sl25 h a n c
theorem ms135 (h:IH) (k j:IntKind) {l c:Int} (h0:0≤l) (h1:l≤c) (h2:c*9≤1099511627776):makeSlice prog h 135 (.int k l) (.int j c)=some (.slice (some ⟨2*h.n,0,none⟩) l.toNat (2*c.toNat+1),h.new (.cells (repl c.toNat [.int .u64 (0)]) 1 none)):=makeSlice_eq mk135 h k j h0 h1 h2
theorem ms153 (h:IH) (k j:IntKind) {l c:Int} (h0:0≤l) (h1:l≤c) (h2:c*65≤1099511627776):makeSlice prog h 153 (.int k l) (.int j c)=some (.slice (some ⟨2*h.n,0,none⟩) l.toNat (2*c.toNat+1),h.new (.cells (repl c.toNat [.bool false,.slice none 0 0,.bool false,.slice none 0 0]) 4 none)):=makeSlice_eq mk153 h k j h0 h1 h2
theorem ms25 (h:IH) (k j:IntKind) {l c:Int} (h0:0≤l) (h1:l≤c) (h2:c*9≤1099511627776):makeSlice prog h 25 (.int k l) (.int j c)=some (.slice (some ⟨2*h.n,0,none⟩) l.toNat (2*c.toNat+1),h.new (.cells (repl c.toNat [.int .i64 (0)]) 1 none)):=makeSlice_eq mk25 h k j h0 h1 h2
theorem st137 (h:IH) (k o:Nat) (v:Value):store prog h 137 (ptr (2*k) o) v=stE 2 h k o v.cells.toList (h.ext.get k):=store_stE sz137 h k o v
theorem st139 (h:IH) (k o:Nat) (v:Value):store prog h 139 (ptr (2*k) o) v=stE 4 h k o v.cells.toList (h.ext.get k):=store_stE sz139 h k o v
theorem st194 (h:IH) (k o:Nat) (v:Value):store prog h 194 (ptr (2*k) o) v=stE 2 h k o v.cells.toList (h.ext.get k):=store_stE sz194 h k o v
theorem st196 (h:IH) (k o:Nat) (v:Value):store prog h 196 (ptr (2*k) o) v=stE 4 h k o v.cells.toList (h.ext.get k):=store_stE sz196 h k o v
theorem st234 (h:IH) (k o:Nat) (v:Value):store prog h 234 (ptr (2*k) o) v=stE 8 h k o v.cells.toList (h.ext.get k):=store_stE sz234 h k o v
theorem st236 (h:IH) (k o:Nat) (v:Value):store prog h 236 (ptr (2*k) o) v=stE 9 h k o v.cells.toList (h.ext.get k):=store_stE sz236 h k o v
theorem st28 (h:IH) (k o:Nat) (v:Value):store prog h 28 (ptr (2*k) o) v=stE 1 h k o v.cells.toList (h.ext.get k):=store_stE sz28 h k o v
theorem st3 (h:IH) (k o:Nat) (v:Value):store prog h 3 (ptr (2*k) o) v=stE 1 h k o v.cells.toList (h.ext.get k):=store_stE sz3 h k o v
theorem st30 (h:IH) (k o:Nat) (v:Value):store prog h 30 (ptr (2*k) o) v=stE 8 h k o v.cells.toList (h.ext.get k):=store_stE sz30 h k o v
theorem st32 (h:IH) (k o:Nat) (v:Value):store prog h 32 (ptr (2*k) o) v=stE 16 h k o v.cells.toList (h.ext.get k):=store_stE sz32 h k o v
end Go.Id

namespace Go.Id
def valT (ds:List Nat):Nat→Nat
 | 0=>0
 | k+1=>valT ds k+ds.getD k 0*4294967296 ^ k
def valD (ds:List Nat):Nat:=valT ds ds.length
def Digs (ds:List Nat):Prop:=∀d∈ds,d<4294967296
def Norm (ds:List Nat):Prop:=ds = []∨ds.getD (ds.length - 1) 0≠0
theorem getD_lt {ds:List Nat} (h:Digs ds) (k:Nat):ds.getD k 0<4294967296:=by
 rw[List.getD_eq_getElem?_getD]
 cases hx:ds[k]? with
 | none=>simp
 | some x=>simpa using h x (List.mem_of_getElem? hx)
theorem getD_of_ge {ds:List Nat} {k:Nat} (h:ds.length≤k):ds.getD k 0=0:=by
 rw[List.getD_eq_getElem?_getD,List.getElem?_eq_none h];rfl
theorem pow_pos' (k:Nat):0<4294967296 ^ k:=Nat.pow_pos (by omega)
theorem valT_lt {ds:List Nat} (h:Digs ds) : ∀k,valT ds k<4294967296 ^ k
 | 0=>by simp[valT]
 | k+1=>by
  have ih:=valT_lt h k
  have hd:=getD_lt h k
  have h2:ds.getD k 0*4294967296 ^ k≤4294967295*4294967296 ^ k:=Nat.mul_le_mul_right _ (by omega)
  rw[valT,Nat.pow_succ]
  omega
theorem valT_ge {ds:List Nat} : ∀{k:Nat},ds.length≤k→valT ds k=valD ds
 | 0,h=>by
  have:ds = []:=List.length_eq_zero_iff.1 (by omega)
  subst this;rfl
 | k+1,h=>by
  by_cases hk:ds.length≤k
  ·rw[valT,valT_ge hk,getD_of_ge hk];simp
  ·have:ds.length=k+1:=by omega
   rw[valD,this]
theorem valT_congr {ds es:List Nat} : ∀{k:Nat},(∀j,j<k→ds.getD j 0=es.getD j 0)→valT ds k=valT es k
 | 0,_=>rfl
 | k+1,h=>by rw[valT,valT,valT_congr fun j hj=>h j (by omega),h k (by omega)]
theorem valD_lt {ds:List Nat} (h:Digs ds):valD ds<4294967296 ^ ds.length:=valT_lt h _
theorem getD_append {ds:List Nat} {x:Nat} (j:Nat):(ds ++ [x]).getD j 0=if j<ds.length then ds.getD j 0 else if j=ds.length then x else 0:=by
 simp only[List.getD_eq_getElem?_getD]
 by_cases h:j<ds.length
 ·rw[if_pos h,List.getElem?_append_left h]
 ·rw[if_neg h,List.getElem?_append_right (by omega)]
  by_cases h2:j=ds.length
  ·rw[if_pos h2];subst h2;simp
  ·rw[if_neg h2,List.getElem?_eq_none (by simp;omega)];rfl
theorem valD_append (ds:List Nat) (x:Nat):valD (ds ++ [x])=valD ds+x*4294967296 ^ ds.length:=by
 have h1:(ds ++ [x]).length=ds.length+1:=by simp
 rw[valD,h1,valT,getD_append,if_neg (by omega),if_pos rfl]
 congr 1
 refine valT_congr fun j hj=>?_
 rw[getD_append,if_pos hj]
theorem Digs.append {ds:List Nat} {x:Nat} (h:Digs ds) (hx:x<4294967296):Digs (ds ++ [x]):=by
 intro d hd
 rcases List.mem_append.1 hd with h1|h1
 ·exact h d h1
 ·simp at h1;omega
theorem Digs.take {ds:List Nat} (h:Digs ds) (n:Nat):Digs (ds.take n):=fun d hd=>h d (List.mem_of_mem_take hd)
theorem getD_take (ds:List Nat) (n j:Nat):(ds.take n).getD j 0=if j<n then ds.getD j 0 else 0:=by
 simp only[List.getD_eq_getElem?_getD,List.getElem?_take]
 split<;>rfl
theorem valT_split (ds:List Nat) (m:Nat) : ∀k,(∀j,m≤j→j<m+k→ds.getD j 0=0)→valT ds (m+k)=valT ds m
 | 0,_=>rfl
 | k+1,h=>by
  rw[show m+(k+1)=(m+k)+1 from rfl,valT,valT_split ds m k (fun j a b=>h j a (by omega)),h (m+k) (by omega) (by omega)]
  simp
theorem valD_take {ds:List Nat} {m:Nat} (hm:m≤ds.length) (h : ∀j,m≤j→ds.getD j 0=0):valD (ds.take m)=valD ds:=by
 have h1:(ds.take m).length=m:=by simp[hm]
 rw[valD,h1]
 have h2:valT (ds.take m) m=valT ds m:=valT_congr fun j hj=>by rw[getD_take,if_pos hj]
 rw[h2]
 have:=valT_split ds m (ds.length - m) (fun j a _=>h j a)
 rw[show m+(ds.length - m)=ds.length from by omega] at this
 exact this.symm
theorem Norm.ge {ds:List Nat} (h:Norm ds) (hne:ds ≠ []):4294967296 ^ (ds.length - 1)≤valD ds:=by
 rcases h with h|h
 ·exact absurd h hne
 ·have hl:0<ds.length:=List.length_pos_iff.2 hne
  obtain⟨n,hn⟩ : ∃n,ds.length=n+1:=⟨ds.length - 1,by omega⟩
  rw[valD,hn,valT]
  rw[hn] at h
  simp only[Nat.add_sub_cancel] at h ⊢
  have:1*4294967296 ^ n≤ds.getD n 0*4294967296 ^ n:=Nat.mul_le_mul_right _ (by omega)
  omega
theorem lt_of_len {a b:List Nat} (ha:Digs a) (hb:Norm b) (hl:a.length<b.length):valD a<valD b:=by
 have h1:=valD_lt ha
 have h2:=hb.ge (by intro h;subst h;simp at hl)
 have h3:4294967296 ^ a.length≤4294967296 ^ (b.length - 1):=Nat.pow_le_pow_right (by omega) (by omega)
 omega
theorem valT_top {a b:List Nat} (ha:Digs a) {i:Nat} (hi:a.getD i 0<b.getD i 0) : ∀k,(∀j,i<j→j<i+1+k→a.getD j 0=b.getD j 0)→valT a (i+1+k)<valT b (i+1+k)
 | 0,_=>by
  have h1:=valT_lt ha i
  have h2:(a.getD i 0+1)*4294967296 ^ i≤b.getD i 0*4294967296 ^ i:=Nat.mul_le_mul_right _ (by omega)
  rw[Nat.add_mul] at h2
  rw[Nat.add_zero,valT,valT]
  omega
 | k+1,h=>by
  have:=valT_top ha hi k (fun j x y=>h j x (by omega))
  rw[show i+1+(k+1)=(i+1+k)+1 from rfl,valT,valT,h (i+1+k) (by omega) (by omega)]
  omega
theorem lt_of_top {a b:List Nat} (ha:Digs a) (hl:a.length=b.length) {i:Nat} (hn:i<a.length) (hi:a.getD i 0<b.getD i 0) (h : ∀j,i<j→j<a.length→a.getD j 0=b.getD j 0):valD a<valD b:=by
 have:=valT_top ha hi (a.length - (i+1)) (fun j x y=>h j x (by omega))
 rw[show i+1+(a.length - (i+1))=a.length from by omega] at this
 rw[valD,valD,←hl];exact this
theorem eq_of_all {a b:List Nat} (hl:a.length=b.length) (h : ∀j,j<a.length→a.getD j 0=b.getD j 0):valD a=valD b:=by
 rw[valD,valD,←hl];exact valT_congr h
theorem Norm.nil_iff {ds:List Nat} (h:Norm ds):valD ds=0↔ds = []:=by
 constructor
 ·intro h0
  apply Classical.byContradiction;intro hne
  have:=h.ge hne
  have:=pow_pos' (ds.length - 1)
  omega
 ·rintro rfl;rfl
theorem Norm.len_le {a b:List Nat} (ha:Norm a) (hb:Digs b) (h:valD a≤valD b):a.length≤b.length:=by
 apply Classical.byContradiction;intro hn
 have:=lt_of_len hb ha (by omega)
 omega
theorem valT_cons (d:Nat) (ds:List Nat) : ∀k,valT (d :: ds) (k+1)=d+4294967296*valT ds k
 | 0=>by simp[valT]
 | k+1=>by
  rw[valT,valT_cons d ds k,valT]
  simp only[List.getD_cons_succ,Nat.pow_succ]
  grind
theorem valD_cons (d:Nat) (ds:List Nat):valD (d :: ds)=d+4294967296*valD ds:=valT_cons d ds _
theorem norm_unique : ∀{a b:List Nat},Digs a→Digs b→Norm a→Norm b→valD a=valD b→a=b:=by
 intro a b ha hb na nb h
 have l1:=na.len_le hb (by omega)
 have l2:=nb.len_le ha (by omega)
 have hl:a.length=b.length:=by omega
 clear l1 l2 na nb
 induction a generalizing b with
 | nil=>exact(List.length_eq_zero_iff.1 hl.symm).symm
 | cons x a ih =>
  cases b with
  | nil=>simp at hl
  | cons y b =>
   rw[valD_cons,valD_cons] at h
   have hx:x<4294967296:=ha x (by simp)
   have hy:y<4294967296:=hb y (by simp)
   have e1:x=y:=by omega
   have e2:valD a=valD b:=by omega
   rw[e1,ih (b:=b) (fun d hd=>ha d (by simp[hd])) (fun d hd=>hb d (by simp[hd])) e2 (by simpa using hl)]
end Go.Id

namespace Go.Id
open Go
open Go.Proofs.Tryz (prog)
open Nat renaming reduceAdd→zA,reduceEqDiff→zE,reduceLeDiff→zL
abbrev KN (n:Nat):Value:=.int .i64 (n:Int)
def DigU (h:IH) (v:Value) (ds:List Nat):Prop:=SlOf h 1 v ds.length (ds.map KN)∧Digs ds∧ds.length≤1100000
def Dig (h:IH) (v:Value) (x:Nat):Prop:=∃ds,DigU h v ds∧Norm ds∧valD ds=x
theorem DigU.keep {h h':IH} {v:Value} {ds:List Nat} (d:DigU h v ds) (e:Keep h h'):DigU h' v ds:=⟨d.1.keep e,d.2⟩
theorem Dig.keep {h h':IH} {v:Value} {x:Nat} (d:Dig h v x) (e:Keep h h'):Dig h' v x:=let ⟨ds,a,b⟩:=d;⟨ds,a.keep e,b⟩
theorem get_some {ds:List Nat} {i:Nat} (h:i<ds.length):ds[i]?=some (ds.getD i 0):=by
 rw[List.getD_eq_getElem?_getD,List.getElem?_eq_getElem h];rfl
theorem map_get {α β:Type} (f:α→β) (l:List α) (i:Nat):(l.map f)[i]?=(l[i]?).map f:=List.getElem?_map
theorem cut_ok {h:IH} {v:Value} {ds:List Nat} (hd:DigU h v ds):WV prog (.func (.func 232) #[] #[]) [v] h fun r h'=>h'=h∧Dig h r (valD ds):=by
 refine enter (nt:=21) (rs:=[.tmp 2]) Proofs.Tryz.func232 rfl rfl rfl (by simp) ?_
 simp -dsimp (disch:=try exact dx) only[wpS,zE,hd.1.len sl25]
 refine loop (fun m fr h1=>h1=h∧m≤ds.length∧fget fr 3=some (KN m)∧fget fr 0=some v ∧ ∀j,m≤j→ds.getD j 0=0) ds.length ⟨rfl,Nat.le_refl _,by simp,by simp,fun j hj=>getD_of_ge hj⟩ ?_
 rintro m fr h1 ⟨rfl,hm,f3,f0,hz⟩
 have fin : ∀n:Nat,n≤ds.length→(∀j,n≤j→ds.getD j 0=0)→(n=0∨ds.getD (n - 1) 0≠0) → ∃r,sliceOp prog h1 25 v none (some (KN n)) none=some r∧Dig h1 r (valD ds):=by
  intro n hn hz hne
  obtain⟨r,hr,hs⟩:=hd.1.slice (Keep.refl _) (P:=prog) (t:=25) u25 sz3 (l:=0) (m:=n) (Nat.zero_le _) hn (lo:=none) (hi:=some (KN n)) rfl (fun c hc=>natOf_nat (k:=.i64) (by omega))
  refine⟨r,hr,ds.take n,⟨?_,hd.2.1.take n,by simp;have:=hd.2.2;omega⟩,?_,valD_take hn hz⟩
  ·have hl:(ds.take n).length=n:=by simp[hn]
   rw[hl]
   simpa [List.map_take] using hs
  ·rcases hne with rfl|hne
   ·left;simp
   ·by_cases h0:n=0
    ·subst h0;left;simp
    ·right
     have hl:(ds.take n).length=n:=by simp[hn]
     rw[hl,getD_take,if_pos (by omega)];exact hne
 have hb:=hd.2.2
 rcases Nat.eq_zero_or_pos m with rfl|hp
 ·obtain⟨r,hr,hD⟩:=fin 0 hm hz (.inl rfl)
  simp -dsimp (disch:=try exact dx) only[wpS,wpT,zE,f3,f0,hr]
  exact hD
 ·obtain⟨k,rfl⟩ : ∃k,m=k+1:=⟨m - 1,by omega⟩
  have h2:IntKind.i64.wrap (((k+1:Nat):Int) - 1)=(k:Int):=by rw[wrap_i64 (by omega)];omega
  simp -dsimp (disch:=try exact dx) only[wpS,wpT,zE,f3,f0,h2,hd.1.idx es25 (show k<ds.length by omega),hd.1.ld (Keep.refl _) (P:=prog) (t:=3) (c:=k) (by simp<;>omega) ag3,map_get,get_some (show k<ds.length by omega)]
  refine bq_intro (fun hc=>?_) (fun hc=>?_)
  ·simp -dsimp (disch:=try exact dx) only[wpS,zE,f3,h2]
   refine⟨k,by omega,rfl,by omega,by simp,by simp[f0],fun j hj=>?_⟩
   by_cases hjk:j=k
   ·subst hjk;simpa using hc
   ·exact hz j (by omega)
  ·obtain⟨r,hr,hD⟩:=fin (k+1) hm hz (.inr (by simpa using hc))
   simp -dsimp (disch:=try exact dx) only[wpS,wpT,zE,f3,f0,hr]
   exact hD
theorem cut_block {h:IH} {v:Value} {ds:List Nat} (hd:DigU h v ds):WV prog (.func (.func 232) #[] #[]) [v] h fun r h'=>blockOf r=blockOf v:=by
 have hb:=hd.2.2
 refine enter (nt:=21) (rs:=[.tmp 2]) Proofs.Tryz.func232 rfl rfl rfl (by simp) ?_
 simp -dsimp (disch:=try exact dx) only[wpS,zE,hd.1.len sl25]
 refine loop (fun m fr h1=>h1=h∧m≤ds.length∧fget fr 3=some (KN m)∧fget fr 0=some v) ds.length ⟨rfl,Nat.le_refl _,by simp,by simp⟩ ?_
 rintro m fr h1 ⟨rfl,hm,f3,f0⟩
 have fin : ∀n:Nat,n≤ds.length → ∃r,sliceOp prog h1 25 v none (some (KN n)) none=some r∧blockOf r=blockOf v:=by
  intro n hn
  obtain⟨r,hr,hs⟩:=hd.1.slice (Keep.refl _) (P:=prog) (t:=25) u25 sz3 (l:=0) (m:=n) (Nat.zero_le _) hn (lo:=none) (hi:=some (KN n)) rfl (fun c hc=>natOf_nat (k:=.i64) (by omega))
  exact⟨r,hr,slice_block u25 hr⟩
 rcases Nat.eq_zero_or_pos m with rfl|hp
 ·obtain⟨r,hr,hD⟩:=fin 0 hm
  simp -dsimp (disch:=try exact dx) only[wpS,wpT,zE,f3,f0,hr]
  exact hD
 ·obtain⟨k,rfl⟩ : ∃k,m=k+1:=⟨m - 1,by omega⟩
  have h2:IntKind.i64.wrap (((k+1:Nat):Int) - 1)=(k:Int):=by rw[wrap_i64 (by omega)];omega
  simp -dsimp (disch:=try exact dx) only[wpS,wpT,zE,f3,f0,h2,hd.1.idx es25 (show k<ds.length by omega),hd.1.ld (Keep.refl _) (P:=prog) (t:=3) (c:=k) (by simp<;>omega) ag3,map_get,get_some (show k<ds.length by omega)]
  refine bq_intro (fun hc=>?_) (fun hc=>?_)
  ·simp -dsimp (disch:=try exact dx) only[wpS,zE,f3,h2]
   exact⟨k,by omega,rfl,by omega,by simp,by simp[f0]⟩
  ·obtain⟨r,hr,hD⟩:=fin (k+1) hm
   simp -dsimp (disch:=try exact dx) only[wpS,zE,f3,f0,hr]
   exact hD
def LongIs (h:IH) (v:Value) (z:Int):Prop:=∃s,v=.agg #[.bool (decide (z<0)),s]∧Dig h s z.natAbs
theorem LongIs.keep {h h':IH} {v:Value} {z:Int} (d:LongIs h v z) (e:Keep h h'):LongIs h' v z:=let ⟨s,a,b⟩:=d;⟨s,a,b.keep e⟩
theorem made_ok {h:IH} {v:Value} {ds:List Nat} (hd:DigU h v ds) (b:Bool):WV prog (.func (.func 220) #[] #[]) [.bool b,v] h fun r h'=>Ext h h'∧LongIs h' r (if b then -(valD ds:Int) else valD ds):=by
 refine enter (nt:=15) (rs:=[.cell 4 194]) Proofs.Tryz.func220 rfl rfl rfl (by simp) ?_
 simp -dsimp (disch:=try exact dx) only[wpS,zE,zA,zc194]
 refine call (cut_ok (hd.keep ((Keep.refl h).new _))) ?_
 rintro r h1 ⟨rfl,ds',hD,hN,hv⟩
 have hl:=hD.2.2
 have hz:=hN.nil_iff
 have hk : ∀o,Keep (h.new (.cells [.bool false,.slice none 0 0] 0 none)) ((h.new (.cells [.bool false,.slice none 0 0] 0 none)).put h.n o):=fun o=>(Keep.refl _).put (get_new_same _ _ rfl) o
 cases b
 ·simp -dsimp (disch:=try exact dx) only[wpS,wpT,zE,zL,zA,bv194,pl194_0,pl194_1,st194,ld194,hD.1.cells,hD.1.cok]
  refine⟨((Ext.refl h).new _).put (Nat.le_refl _) _,r,?_,ds',hD.keep (hk _),hN,?_⟩
  ·simp
  ·simp[hv]
 ·simp -dsimp (disch:=try exact dx) only[wpS,wpT,zE,zL,zA,bv194,pl194_0,pl194_1,st194,ld194,hD.1.cells,hD.1.cok,hD.1.len sl25]
  refine⟨((Ext.refl h).new _).put (Nat.le_refl _) _,r,?_,ds',hD.keep (hk _),hN,?_⟩
  ·rw[hv] at hz
   have:0<ds'.length↔0<valD ds:=by
    cases ds' with
    | nil=>simp at hz;simp[hz]
    | cons x l=>simp at hz;simp;omega
   simp[this]
  ·simp[hv]
theorem order_ok {h:IH} {v w:Value} {a b:List Nat} (ha:DigU h v a) (hb:DigU h w b) (na:Norm a) (nb:Norm b) :
  WV prog (.func (.func 218) #[] #[]) [v,w] h fun r h'=>h'=h ∧ ∃c:Int,r=KI c∧(c<0↔valD a<valD b)∧(c=0↔valD a=valD b) ∧ -9223372036854775808≤c∧c≤9223372036854775807:=by
 have la:=ha.2.2
 have lb:=hb.2.2
 refine enter (nt:=41) (rs:=[.tmp 4]) Proofs.Tryz.func218 rfl rfl rfl (by simp) ?_
 simp -dsimp (disch:=try exact dx) only[wpS,zE,zA,ha.1.len sl25,hb.1.len sl25]
 refine bq_intro ?_ ?_<;>intro hc<;>simp only[bne_iff_ne,bne_eq_false_iff_eq,ne_eq] at hc
 ·simp -dsimp (disch:=try exact dx) only[wpS,wpT,zE,ha.1.len sl25,hb.1.len sl25]
  refine⟨_,rfl,?_,?_,by omega,by omega⟩
  ·constructor
   ·intro h1;exact lt_of_len ha.2.1 nb (by omega)
   ·intro h1
    have:=na.len_le hb.2.1 (Nat.le_of_lt h1)
    omega
  ·constructor
   ·intro h1;omega
   ·intro h1
    have h2:=na.len_le hb.2.1 (Nat.le_of_eq h1)
    have h3:=nb.len_le ha.2.1 (Nat.le_of_eq h1.symm)
    omega
 ·have hl:a.length=b.length:=by omega
  simp -dsimp (disch:=try exact dx) only[wpS,wpT,zE,ha.1.len sl25]
  refine loop (fun m fr h1=>h1=h∧m≤a.length∧fget fr 5=some (KI ((m:Int) - 1))∧fget fr 0=some v∧fget fr 1=some w ∧ ∀j,m≤j→j<a.length→a.getD j 0=b.getD j 0) a.length ⟨rfl,Nat.le_refl _,by simp,by simp,by simp,fun j hj hj2=>by omega⟩ ?_
  rintro m fr h1 ⟨rfl,hm,f5,f0,f1,hz⟩
  rcases Nat.eq_zero_or_pos m with rfl|hp
  ·simp -dsimp (disch:=try exact dx) only[wpS,wpT,zE,f5]
   refine⟨_,rfl,?_,?_,by omega,by omega⟩
   ·have:=eq_of_all hl (fun j hj=>hz j (Nat.zero_le _) hj);omega
   ·have:=eq_of_all hl (fun j hj=>hz j (Nat.zero_le _) hj);omega
  ·obtain⟨k,rfl⟩ : ∃k,m=k+1:=⟨m - 1,by omega⟩
   have h2:(((k+1:Nat):Int) - 1)=(k:Int):=by omega
   rw[h2] at f5
   have da:=getD_lt ha.2.1 k
   have db:=getD_lt hb.2.1 k
   simp -dsimp (disch:=try exact dx) only[wpS,wpT,zE,f5,f0,f1,ha.1.idx es25 (show k<a.length by omega),ha.1.ld (Keep.refl _) (P:=prog) (t:=3) (c:=k) (by simp<;>omega) ag3,hb.1.idx es25 (show k<b.length by omega),hb.1.ld (Keep.refl _) (P:=prog) (t:=3) (c:=k) (by simp<;>omega) ag3,map_get,get_some (show k<a.length by omega),get_some (show k<b.length by omega)]
   refine bq_intro ?_ ?_<;>intro hc<;>simp only[bne_iff_ne,bne_eq_false_iff_eq,ne_eq] at hc
   ·simp -dsimp (disch:=try exact dx) only[wpS,wpT,zE,f5,f0,f1,ha.1.idx es25 (show k<a.length by omega),ha.1.ld (Keep.refl _) (P:=prog) (t:=3) (c:=k) (by simp<;>omega) ag3,hb.1.idx es25 (show k<b.length by omega),hb.1.ld (Keep.refl _) (P:=prog) (t:=3) (c:=k) (by simp<;>omega) ag3,map_get,get_some (show k<a.length by omega),get_some (show k<b.length by omega)]
    have key:(a.getD k 0<b.getD k 0→valD a<valD b)∧(b.getD k 0<a.getD k 0→valD b<valD a) :=
     ⟨fun h=>lt_of_top ha.2.1 hl (by omega) h (fun j x y=>hz j (by omega) y),fun h=>lt_of_top hb.2.1 hl.symm (by omega) h (fun j x y=>(hz j (by omega) (by omega)).symm)⟩
    refine⟨_,rfl,?_,?_,by omega,by omega⟩
    ·constructor
     ·intro h1;exact key.1 (by omega)
     ·intro h1
      apply Classical.byContradiction;intro h3
      have:=key.2 (by omega)
      omega
    ·constructor
     ·intro h1;omega
     ·intro h1
      rcases Nat.lt_or_ge (a.getD k 0) (b.getD k 0) with h3|h3
      ·have:=key.1 h3;omega
      ·have:=key.2 (by omega);omega
   ·simp -dsimp (disch:=try exact dx) only[wpS,wpT,zE,f5]
    refine⟨k,by omega,rfl,by omega,by simp,by simp[f0],by simp[f1],fun j h3 h4=>?_⟩
    by_cases hjk:j=k
    ·subst hjk;exact Int.ofNat.inj hc
    ·exact hz j (by omega) h4
end Go.Id

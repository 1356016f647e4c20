/-
  The types of this seat's program, as the machine asks of them; made by program (tools/mk.py). Digits to the base 2^32, the lowest first: plain numbers.
-/
import Derived.Test.YtjhnilfelokpcaaGreatTemperLevelsAs
import Derived.Test.YtjhnilfelokpcaaGreatProg
import Derived.KernelRfl
import Init
set_option linter.unusedVariables false
set_option linter.unusedSimpArgs false
set_option linter.defProp false
set_option linter.deprecated false
namespace Go.Id
open Go
open Go.Proofs.Tryz (prog)
theorem ag121:isAggT prog 121=some false:=by kernel_rfl
theorem ag123:isAggT prog 123=some true:=by kernel_rfl
theorem ag131:isAggT prog 131=some true:=by kernel_rfl
theorem ag169:isAggT prog 169=some true:=by kernel_rfl
theorem ag186:isAggT prog 186=some true:=by kernel_rfl
theorem ag199:isAggT prog 199=some true:=by kernel_rfl
theorem ag201:isAggT prog 201=some true:=by kernel_rfl
theorem ag22:isAggT prog 22=some false:=by kernel_rfl
theorem ag24:isAggT prog 24=some true:=by kernel_rfl
theorem ag25:isAggT prog 25=some false:=by kernel_rfl
theorem ag27:isAggT prog 27=some true:=by kernel_rfl
theorem ag3:isAggT prog 3=some false:=by kernel_rfl
theorem ag4:isAggT prog 4=some false:=by kernel_rfl
theorem ag42:isAggT prog 42=some false:=by kernel_rfl
theorem ag44:isAggT prog 44=some true:=by kernel_rfl
theorem ag48:isAggT prog 48=some true:=by kernel_rfl
theorem ag5:isAggT prog 5=some false:=by kernel_rfl
theorem ag53:isAggT prog 53=some true:=by kernel_rfl
theorem ag82:isAggT prog 82=some false:=by kernel_rfl
theorem ap121:appT prog 121=some (1,8):=by kernel_rfl
theorem ap217:appT prog 217=some (4,64):=by kernel_rfl
theorem ap221:appT prog 221=some (4,64):=by kernel_rfl
theorem ap25:appT prog 25=some (1,8):=by kernel_rfl
theorem ap28:appT prog 28=some (8,64):=by kernel_rfl
theorem ap54:appT prog 54=some (1,24):=by kernel_rfl
theorem ap82:appT prog 82=some (16,128):=by kernel_rfl
theorem ar199:arrOf prog 199=some (8,1):=by kernel_rfl
theorem ar44:arrOf prog 44=some (8,1):=by kernel_rfl
theorem as123:allSized prog 123=true:=by kernel_rfl
theorem as131:allSized prog 131=true:=by kernel_rfl
theorem as169:allSized prog 169=true:=by kernel_rfl
theorem as186:allSized prog 186=true:=by kernel_rfl
theorem as199:allSized prog 199=true:=by kernel_rfl
theorem as201:allSized prog 201=true:=by kernel_rfl
theorem as32:allSized prog 32=true:=by kernel_rfl
theorem as36:allSized prog 36=true:=by kernel_rfl
theorem as38:allSized prog 38=true:=by kernel_rfl
theorem as44:allSized prog 44=true:=by kernel_rfl
theorem as48:allSized prog 48=true:=by kernel_rfl
theorem as57:allSized prog 57=true:=by kernel_rfl
theorem eg44:prog.eqGuardType prog.depth 44=false:=by kernel_rfl
theorem es121:elemSize prog 121=some 1:=by kernel_rfl
theorem es217:elemSize prog 217=some 4:=by kernel_rfl
theorem es22:elemSize prog 22=some 1:=by kernel_rfl
theorem es221:elemSize prog 221=some 4:=by kernel_rfl
theorem es25:elemSize prog 25=some 1:=by kernel_rfl
theorem es28:elemSize prog 28=some 8:=by kernel_rfl
theorem es54:elemSize prog 54=some 1:=by kernel_rfl
theorem es82:elemSize prog 82=some 16:=by kernel_rfl
theorem fa123_0:fieldAt prog 123 0=some 0:=by kernel_rfl
theorem fa123_1:fieldAt prog 123 1=some 1:=by kernel_rfl
theorem fa131_0:fieldAt prog 131 0=some 0:=by kernel_rfl
theorem fa131_1:fieldAt prog 131 1=some 1:=by kernel_rfl
theorem fa169_0:fieldAt prog 169 0=some 0:=by kernel_rfl
theorem fa169_1:fieldAt prog 169 1=some 2:=by kernel_rfl
theorem fa186_0:fieldAt prog 186 0=some 0:=by kernel_rfl
theorem fa186_1:fieldAt prog 186 1=some 2:=by kernel_rfl
theorem fa201_0:fieldAt prog 201 0=some 0:=by kernel_rfl
theorem fa201_1:fieldAt prog 201 1=some 1:=by kernel_rfl
theorem fa24_0:fieldAt prog 24 0=some 0:=by kernel_rfl
theorem fa24_1:fieldAt prog 24 1=some 1:=by kernel_rfl
theorem fa27_0:fieldAt prog 27 0=some 0:=by kernel_rfl
theorem fa27_1:fieldAt prog 27 1=some 2:=by kernel_rfl
theorem fa27_2:fieldAt prog 27 2=some 3:=by kernel_rfl
theorem fa27_3:fieldAt prog 27 3=some 4:=by kernel_rfl
theorem fa27_4:fieldAt prog 27 4=some 5:=by kernel_rfl
theorem fa48_0:fieldAt prog 48 0=some 0:=by kernel_rfl
theorem fa48_1:fieldAt prog 48 1=some 8:=by kernel_rfl
theorem fa53_0:fieldAt prog 53 0=some 0:=by kernel_rfl
theorem fa53_1:fieldAt prog 53 1=some 1:=by kernel_rfl
theorem fa53_2:fieldAt prog 53 2=some 2:=by kernel_rfl
theorem fp123_1:fieldPart prog 123 1=some (false,1,1):=by kernel_rfl
theorem fp169_0:fieldPart prog 169 0=some (true,0,2):=by kernel_rfl
theorem fp201_0:fieldPart prog 201 0=some (false,0,1):=by kernel_rfl
theorem is3:(Program.underlying prog 3).isSome=true:=by kernel_rfl
theorem is35:(Program.underlying prog 35).isSome=true:=by kernel_rfl
theorem is42:(Program.underlying prog 42).isSome=true:=by kernel_rfl
theorem is5:(Program.underlying prog 5).isSome=true:=by kernel_rfl
theorem mk121:makeT prog 121=some (1,8,[.int .u64 (0)]):=by kernel_rfl
theorem mk217:makeT prog 217=some (4,64,[.bool false,.slice none 0 0,.bool false,.slice none 0 0]):=by kernel_rfl
theorem mk221:makeT prog 221=some (4,64,[.bool false,.slice none 0 0,.bool false,.slice none 0 0]):=by kernel_rfl
theorem mk25:makeT prog 25=some (1,8,[.int .i64 (0)]):=by kernel_rfl
theorem mk28:makeT prog 28=some (8,64,[.int .u64 (0),.int .u64 (0),.int .u64 (0),.int .u64 (0),.int .u64 (0),.int .u64 (0),.int .u64 (0),.int .u64 (0)]):=by kernel_rfl
theorem mk54:makeT prog 54=some (1,24,[.slice none 0 0]):=by kernel_rfl
theorem mk82:makeT prog 82=some (16,128,[.int .u64 (0),.int .u64 (0),.int .u64 (0),.int .u64 (0),.int .u64 (0),.int .u64 (0),.int .u64 (0),.int .u64 (0),.int .u64 (0),.int .u64 (0),.int .u64 (0),.int .u64 (0),.int .u64 (0),.int .u64 (0),.int .u64 (0),.int .u64 (0)]):=by kernel_rfl
theorem pl123_0:placeOf prog 123 0=some (0,1):=by kernel_rfl
theorem pl123_1:placeOf prog 123 1=some (1,1):=by kernel_rfl
theorem pl131_0:placeOf prog 131 0=some (0,1):=by kernel_rfl
theorem pl131_1:placeOf prog 131 1=some (1,1):=by kernel_rfl
theorem pl169_0:placeOf prog 169 0=some (0,2):=by kernel_rfl
theorem pl169_1:placeOf prog 169 1=some (2,2):=by kernel_rfl
theorem pl186_0:placeOf prog 186 0=some (0,2):=by kernel_rfl
theorem pl186_1:placeOf prog 186 1=some (2,2):=by kernel_rfl
theorem pl199_7:placeOf prog 199 7=some (7,1):=by kernel_rfl
theorem pl201_0:placeOf prog 201 0=some (0,1):=by kernel_rfl
theorem pl201_1:placeOf prog 201 1=some (1,8):=by kernel_rfl
theorem pl32_0:placeOf prog 32 0=some (0,1):=by kernel_rfl
theorem pl32_1:placeOf prog 32 1=some (1,1):=by kernel_rfl
theorem pl36_0:placeOf prog 36 0=some (0,1):=by kernel_rfl
theorem pl36_1:placeOf prog 36 1=some (1,1):=by kernel_rfl
theorem pl38_0:placeOf prog 38 0=some (0,1):=by kernel_rfl
theorem pl38_1:placeOf prog 38 1=some (1,1):=by kernel_rfl
theorem pl44_0:placeOf prog 44 0=some (0,1):=by kernel_rfl
theorem pl48_0:placeOf prog 48 0=some (0,8):=by kernel_rfl
theorem pl48_1:placeOf prog 48 1=some (8,8):=by kernel_rfl
theorem pl57_0:placeOf prog 57 0=some (0,1):=by kernel_rfl
theorem pl57_1:placeOf prog 57 1=some (1,1):=by kernel_rfl
theorem sl121:isSliceT prog (some 121)=true:=by kernel_rfl
theorem sl217:isSliceT prog (some 217)=true:=by kernel_rfl
theorem sl22:isSliceT prog (some 22)=true:=by kernel_rfl
theorem sl221:isSliceT prog (some 221)=true:=by kernel_rfl
theorem sl25:isSliceT prog (some 25)=true:=by kernel_rfl
theorem sl28:isSliceT prog (some 28)=true:=by kernel_rfl
theorem sl54:isSliceT prog (some 54)=true:=by kernel_rfl
theorem sl82:isSliceT prog (some 82)=true:=by kernel_rfl
theorem sz123:sizeT prog 123=some 2:=by kernel_rfl
theorem sz131:sizeT prog 131=some 2:=by kernel_rfl
theorem sz169:sizeT prog 169=some 4:=by kernel_rfl
theorem sz186:sizeT prog 186=some 4:=by kernel_rfl
theorem sz199:sizeT prog 199=some 8:=by kernel_rfl
theorem sz201:sizeT prog 201=some 9:=by kernel_rfl
theorem sz24:sizeT prog 24=some 2:=by kernel_rfl
theorem sz27:sizeT prog 27=some 7:=by kernel_rfl
theorem sz3:sizeT prog 3=some 1:=by kernel_rfl
theorem sz42:sizeT prog 42=some 1:=by kernel_rfl
theorem sz44:sizeT prog 44=some 8:=by kernel_rfl
theorem sz48:sizeT prog 48=some 16:=by kernel_rfl
theorem sz5:sizeT prog 5=some 1:=by kernel_rfl
theorem sz53:sizeT prog 53=some 18:=by kernel_rfl
theorem sz82:sizeT prog 82=some 1:=by kernel_rfl
theorem u121:Program.underlying prog 121=some (.slice 42):=by kernel_rfl
theorem u199:Program.underlying prog 199=some (.array 8 42):=by kernel_rfl
theorem u22:Program.underlying prog 22=some (.slice 5):=by kernel_rfl
theorem u25:Program.underlying prog 25=some (.slice 3):=by kernel_rfl
theorem u28:Program.underlying prog 28=some (.slice 44):=by kernel_rfl
theorem u3:Program.underlying prog 3=some (.int .i64):=by kernel_rfl
theorem u35:Program.underlying prog 35=some (.int .u64):=by kernel_rfl
theorem u4:Program.underlying prog 4=some .bool:=by kernel_rfl
theorem u42:Program.underlying prog 42=some (.int .u64):=by kernel_rfl
theorem u44:Program.underlying prog 44=some (.array 8 42):=by kernel_rfl
theorem u5:Program.underlying prog 5=some (.int .u8):=by kernel_rfl
theorem u82:Program.underlying prog 82=some (.slice 48):=by kernel_rfl
theorem u9:Program.underlying prog 9=some .string:=by kernel_rfl
theorem zc123:zeroCellsT prog 123=some [.bool false,.slice none 0 0]:=by kernel_rfl
theorem zc131:zeroCellsT prog 131=some [.bool false,.slice none 0 0]:=by kernel_rfl
theorem zc169:zeroCellsT prog 169=some [.bool false,.slice none 0 0,.bool false,.slice none 0 0]:=by kernel_rfl
theorem zc186:zeroCellsT prog 186=some [.bool false,.slice none 0 0,.bool false,.slice none 0 0]:=by kernel_rfl
theorem zc199:zeroCellsT prog 199=some [.int .u64 (0),.int .u64 (0),.int .u64 (0),.int .u64 (0),.int .u64 (0),.int .u64 (0),.int .u64 (0),.int .u64 (0)]:=by kernel_rfl
theorem zc201:zeroCellsT prog 201=some [.bool false,.int .u64 (0),.int .u64 (0),.int .u64 (0),.int .u64 (0),.int .u64 (0),.int .u64 (0),.int .u64 (0),.int .u64 (0)]:=by kernel_rfl
theorem zc3:zeroCellsT prog 3=some [.int .i64 (0)]:=by kernel_rfl
theorem zc32:zeroCellsT prog 32=some [.slice none 0 0,.slice none 0 0]:=by kernel_rfl
theorem zc36:zeroCellsT prog 36=some [.int .i64 (0),.int .i64 (0)]:=by kernel_rfl
theorem zc38:zeroCellsT prog 38=some [.slice none 0 0,.slice none 0 0]:=by kernel_rfl
theorem zc44:zeroCellsT prog 44=some [.int .u64 (0),.int .u64 (0),.int .u64 (0),.int .u64 (0),.int .u64 (0),.int .u64 (0),.int .u64 (0),.int .u64 (0)]:=by kernel_rfl
theorem zc48:zeroCellsT prog 48=some [.int .u64 (0),.int .u64 (0),.int .u64 (0),.int .u64 (0),.int .u64 (0),.int .u64 (0),.int .u64 (0),.int .u64 (0),.int .u64 (0),.int .u64 (0),.int .u64 (0),.int .u64 (0),.int .u64 (0),.int .u64 (0),.int .u64 (0),.int .u64 (0)]:=by kernel_rfl
theorem zc57:zeroCellsT prog 57=some [.slice none 0 0,.slice none 0 0]:=by kernel_rfl
theorem ba121_121 (h:IH) (x y:Value):builtin prog h .append #[121,121] [x,y]=append prog h 121 x y:=builtin_append prog h 121 121 x y sl121
theorem ba217_217 (h:IH) (x y:Value):builtin prog h .append #[217,217] [x,y]=append prog h 217 x y:=builtin_append prog h 217 217 x y sl217
theorem ba221_221 (h:IH) (x y:Value):builtin prog h .append #[221,221] [x,y]=append prog h 221 x y:=builtin_append prog h 221 221 x y sl221
theorem ba25_25 (h:IH) (x y:Value):builtin prog h .append #[25,25] [x,y]=append prog h 25 x y:=builtin_append prog h 25 25 x y sl25
theorem ba28_28 (h:IH) (x y:Value):builtin prog h .append #[28,28] [x,y]=append prog h 28 x y:=builtin_append prog h 28 28 x y sl28
theorem ba54_54 (h:IH) (x y:Value):builtin prog h .append #[54,54] [x,y]=append prog h 54 x y:=builtin_append prog h 54 54 x y sl54
theorem ba82_82 (h:IH) (x y:Value):builtin prog h .append #[82,82] [x,y]=append prog h 82 x y:=builtin_append prog h 82 82 x y sl82
theorem be4 (ox oy:Operand) (a b:Bool):binop prog .eql 4 ox oy (.bool a) (.bool b)=some (.bool (a == b)):=binop_eql_bool u4 ox oy a b
theorem bn4 (ox oy:Operand) (a b:Bool):binop prog .neq 4 ox oy (.bool a) (.bool b)=some (.bool (!(a == b))):=binop_neq_bool u4 ox oy a b
theorem bs121 (h:IH) (len:Nat) (ps:List (Nat×Value)) (hl:len*1≤16777216):buildSlice prog h 121 len ps=(fillP (fun i=>some (i*1,1)) (repl len [.int .u64 (0)]) ps).map fun cells=>(.slice (some ⟨2*h.n,0,none⟩) len (2*len+1),h.new (.cells cells 1 none)):=buildSlice_eq mk121 h len ps hl
theorem bs217 (h:IH) (len:Nat) (ps:List (Nat×Value)) (hl:len*4≤16777216):buildSlice prog h 217 len ps=(fillP (fun i=>some (i*4,4)) (repl len [.bool false,.slice none 0 0,.bool false,.slice none 0 0]) ps).map fun cells=>(.slice (some ⟨2*h.n,0,none⟩) len (2*len+1),h.new (.cells cells 4 none)):=buildSlice_eq mk217 h len ps hl
theorem bs221 (h:IH) (len:Nat) (ps:List (Nat×Value)) (hl:len*4≤16777216):buildSlice prog h 221 len ps=(fillP (fun i=>some (i*4,4)) (repl len [.bool false,.slice none 0 0,.bool false,.slice none 0 0]) ps).map fun cells=>(.slice (some ⟨2*h.n,0,none⟩) len (2*len+1),h.new (.cells cells 4 none)):=buildSlice_eq mk221 h len ps hl
theorem bs25 (h:IH) (len:Nat) (ps:List (Nat×Value)) (hl:len*1≤16777216):buildSlice prog h 25 len ps=(fillP (fun i=>some (i*1,1)) (repl len [.int .i64 (0)]) ps).map fun cells=>(.slice (some ⟨2*h.n,0,none⟩) len (2*len+1),h.new (.cells cells 1 none)):=buildSlice_eq mk25 h len ps hl
theorem bs28 (h:IH) (len:Nat) (ps:List (Nat×Value)) (hl:len*8≤16777216):buildSlice prog h 28 len ps=(fillP (fun i=>some (i*8,8)) (repl len [.int .u64 (0),.int .u64 (0),.int .u64 (0),.int .u64 (0),.int .u64 (0),.int .u64 (0),.int .u64 (0),.int .u64 (0)]) ps).map fun cells=>(.slice (some ⟨2*h.n,0,none⟩) len (2*len+1),h.new (.cells cells 8 none)):=buildSlice_eq mk28 h len ps hl
theorem bs54 (h:IH) (len:Nat) (ps:List (Nat×Value)) (hl:len*1≤16777216):buildSlice prog h 54 len ps=(fillP (fun i=>some (i*1,1)) (repl len [.slice none 0 0]) ps).map fun cells=>(.slice (some ⟨2*h.n,0,none⟩) len (2*len+1),h.new (.cells cells 1 none)):=buildSlice_eq mk54 h len ps hl
theorem bs82 (h:IH) (len:Nat) (ps:List (Nat×Value)) (hl:len*16≤16777216):buildSlice prog h 82 len ps=(fillP (fun i=>some (i*16,16)) (repl len [.int .u64 (0),.int .u64 (0),.int .u64 (0),.int .u64 (0),.int .u64 (0),.int .u64 (0),.int .u64 (0),.int .u64 (0),.int .u64 (0),.int .u64 (0),.int .u64 (0),.int .u64 (0),.int .u64 (0),.int .u64 (0),.int .u64 (0),.int .u64 (0)]) ps).map fun cells=>(.slice (some ⟨2*h.n,0,none⟩) len (2*len+1),h.new (.cells cells 16 none)):=buildSlice_eq mk82 h len ps hl
theorem bv123 (ps:List (Nat×Value)):buildV prog 123 ps=(fillP (placeOf prog 123) [.bool false,.slice none 0 0] ps).map fun cs=>.agg cs.toArray:=buildV_eq zc123 as123 ps
theorem bv131 (ps:List (Nat×Value)):buildV prog 131 ps=(fillP (placeOf prog 131) [.bool false,.slice none 0 0] ps).map fun cs=>.agg cs.toArray:=buildV_eq zc131 as131 ps
theorem bv169 (ps:List (Nat×Value)):buildV prog 169 ps=(fillP (placeOf prog 169) [.bool false,.slice none 0 0,.bool false,.slice none 0 0] ps).map fun cs=>.agg cs.toArray:=buildV_eq zc169 as169 ps
theorem bv186 (ps:List (Nat×Value)):buildV prog 186 ps=(fillP (placeOf prog 186) [.bool false,.slice none 0 0,.bool false,.slice none 0 0] ps).map fun cs=>.agg cs.toArray:=buildV_eq zc186 as186 ps
theorem bv199 (ps:List (Nat×Value)):buildV prog 199 ps=(fillP (placeOf prog 199) [.int .u64 (0),.int .u64 (0),.int .u64 (0),.int .u64 (0),.int .u64 (0),.int .u64 (0),.int .u64 (0),.int .u64 (0)] ps).map fun cs=>.agg cs.toArray:=buildV_eq zc199 as199 ps
theorem bv201 (ps:List (Nat×Value)):buildV prog 201 ps=(fillP (placeOf prog 201) [.bool false,.int .u64 (0),.int .u64 (0),.int .u64 (0),.int .u64 (0),.int .u64 (0),.int .u64 (0),.int .u64 (0),.int .u64 (0)] ps).map fun cs=>.agg cs.toArray:=buildV_eq zc201 as201 ps
theorem bv32 (ps:List (Nat×Value)):buildV prog 32 ps=(fillP (placeOf prog 32) [.slice none 0 0,.slice none 0 0] ps).map fun cs=>.agg cs.toArray:=buildV_eq zc32 as32 ps
theorem bv36 (ps:List (Nat×Value)):buildV prog 36 ps=(fillP (placeOf prog 36) [.int .i64 (0),.int .i64 (0)] ps).map fun cs=>.agg cs.toArray:=buildV_eq zc36 as36 ps
theorem bv38 (ps:List (Nat×Value)):buildV prog 38 ps=(fillP (placeOf prog 38) [.slice none 0 0,.slice none 0 0] ps).map fun cs=>.agg cs.toArray:=buildV_eq zc38 as38 ps
theorem bv44 (ps:List (Nat×Value)):buildV prog 44 ps=(fillP (placeOf prog 44) [.int .u64 (0),.int .u64 (0),.int .u64 (0),.int .u64 (0),.int .u64 (0),.int .u64 (0),.int .u64 (0),.int .u64 (0)] ps).map fun cs=>.agg cs.toArray:=buildV_eq zc44 as44 ps
theorem bv48 (ps:List (Nat×Value)):buildV prog 48 ps=(fillP (placeOf prog 48) [.int .u64 (0),.int .u64 (0),.int .u64 (0),.int .u64 (0),.int .u64 (0),.int .u64 (0),.int .u64 (0),.int .u64 (0),.int .u64 (0),.int .u64 (0),.int .u64 (0),.int .u64 (0),.int .u64 (0),.int .u64 (0),.int .u64 (0),.int .u64 (0)] ps).map fun cs=>.agg cs.toArray:=buildV_eq zc48 as48 ps
theorem bv57 (ps:List (Nat×Value)):buildV prog 57 ps=(fillP (placeOf prog 57) [.slice none 0 0,.slice none 0 0] ps).map fun cs=>.agg cs.toArray:=buildV_eq zc57 as57 ps
theorem cv35_3 (k:IntKind) (n:Int):convV prog 35 3 (.int k n)=some (.int .i64 (IntKind.i64.wrap n)):=convV_int is35 u3
theorem cv3_35 (k:IntKind) (n:Int):convV prog 3 35 (.int k n)=some (.int .u64 (IntKind.u64.wrap n)):=convV_int is3 u35
theorem cv3_42 (k:IntKind) (n:Int):convV prog 3 42 (.int k n)=some (.int .u64 (IntKind.u64.wrap n)):=convV_int is3 u42
theorem cv42_3 (k:IntKind) (n:Int):convV prog 42 3 (.int k n)=some (.int .i64 (IntKind.i64.wrap n)):=convV_int is42 u3
theorem cv42_5 (k:IntKind) (n:Int):convV prog 42 5 (.int k n)=some (.int .u8 (IntKind.u8.wrap n)):=convV_int is42 u5
theorem cv5_3 (k:IntKind) (n:Int):convV prog 5 3 (.int k n)=some (.int .i64 (IntKind.i64.wrap n)):=convV_int is5 u3
theorem ld121 (h:IH) (b o:Nat):load prog h 121 (ptr b o)=ld h b o:=load_scal ag121 h b o
theorem ld123 (h:IH) (b o:Nat):load prog h 123 (ptr b o)=(h.rd b o 2).map fun cs=>.agg cs.toArray:=load_agg ag123 sz123 h b o
theorem ld131 (h:IH) (b o:Nat):load prog h 131 (ptr b o)=(h.rd b o 2).map fun cs=>.agg cs.toArray:=load_agg ag131 sz131 h b o
theorem ld169 (h:IH) (b o:Nat):load prog h 169 (ptr b o)=(h.rd b o 4).map fun cs=>.agg cs.toArray:=load_agg ag169 sz169 h b o
theorem ld186 (h:IH) (b o:Nat):load prog h 186 (ptr b o)=(h.rd b o 4).map fun cs=>.agg cs.toArray:=load_agg ag186 sz186 h b o
theorem ld199 (h:IH) (b o:Nat):load prog h 199 (ptr b o)=(h.rd b o 8).map fun cs=>.agg cs.toArray:=load_agg ag199 sz199 h b o
theorem ld201 (h:IH) (b o:Nat):load prog h 201 (ptr b o)=(h.rd b o 9).map fun cs=>.agg cs.toArray:=load_agg ag201 sz201 h b o
theorem ld22 (h:IH) (b o:Nat):load prog h 22 (ptr b o)=ld h b o:=load_scal ag22 h b o
theorem ld24 (h:IH) (b o:Nat):load prog h 24 (ptr b o)=(h.rd b o 2).map fun cs=>.agg cs.toArray:=load_agg ag24 sz24 h b o
theorem ld25 (h:IH) (b o:Nat):load prog h 25 (ptr b o)=ld h b o:=load_scal ag25 h b o
theorem ld27 (h:IH) (b o:Nat):load prog h 27 (ptr b o)=(h.rd b o 7).map fun cs=>.agg cs.toArray:=load_agg ag27 sz27 h b o
theorem ld3 (h:IH) (b o:Nat):load prog h 3 (ptr b o)=ld h b o:=load_scal ag3 h b o
theorem ld4 (h:IH) (b o:Nat):load prog h 4 (ptr b o)=ld h b o:=load_scal ag4 h b o
theorem ld42 (h:IH) (b o:Nat):load prog h 42 (ptr b o)=ld h b o:=load_scal ag42 h b o
theorem ld44 (h:IH) (b o:Nat):load prog h 44 (ptr b o)=(h.rd b o 8).map fun cs=>.agg cs.toArray:=load_agg ag44 sz44 h b o
theorem ld48 (h:IH) (b o:Nat):load prog h 48 (ptr b o)=(h.rd b o 16).map fun cs=>.agg cs.toArray:=load_agg ag48 sz48 h b o
theorem ld5 (h:IH) (b o:Nat):load prog h 5 (ptr b o)=ld h b o:=load_scal ag5 h b o
theorem ld53 (h:IH) (b o:Nat):load prog h 53 (ptr b o)=(h.rd b o 18).map fun cs=>.agg cs.toArray:=load_agg ag53 sz53 h b o
theorem ln25 (h:IH) (a:Option Addr) (n c:Nat):lenB prog h 25 (.slice a n c)=some (.int .i64 n):=lenB_slice sl25 h a n c
theorem ms121 (h:IH) (k j:IntKind) {l c:Int} (h0:0≤l) (h1:l≤c) (h2:c*9≤1099511627776):makeSlice prog h 121 (.int k l) (.int j c)=some (.slice (some ⟨2*h.n,0,none⟩) l.toNat (2*c.toNat+1),h.new (.cells (repl c.toNat [.int .u64 (0)]) 1 none)):=makeSlice_eq mk121 h k j h0 h1 h2
theorem ms217 (h:IH) (k j:IntKind) {l c:Int} (h0:0≤l) (h1:l≤c) (h2:c*65≤1099511627776):makeSlice prog h 217 (.int k l) (.int j c)=some (.slice (some ⟨2*h.n,0,none⟩) l.toNat (2*c.toNat+1),h.new (.cells (repl c.toNat [.bool false,.slice none 0 0,.bool false,.slice none 0 0]) 4 none)):=makeSlice_eq mk217 h k j h0 h1 h2
theorem ms25 (h:IH) (k j:IntKind) {l c:Int} (h0:0≤l) (h1:l≤c) (h2:c*9≤1099511627776):makeSlice prog h 25 (.int k l) (.int j c)=some (.slice (some ⟨2*h.n,0,none⟩) l.toNat (2*c.toNat+1),h.new (.cells (repl c.toNat [.int .i64 (0)]) 1 none)):=makeSlice_eq mk25 h k j h0 h1 h2
theorem st123 (h:IH) (k o:Nat) (v:Value):store prog h 123 (ptr (2*k) o) v=stE 2 h k o v.cells.toList (h.ext.get k):=store_stE sz123 h k o v
theorem st131 (h:IH) (k o:Nat) (v:Value):store prog h 131 (ptr (2*k) o) v=stE 2 h k o v.cells.toList (h.ext.get k):=store_stE sz131 h k o v
theorem st169 (h:IH) (k o:Nat) (v:Value):store prog h 169 (ptr (2*k) o) v=stE 4 h k o v.cells.toList (h.ext.get k):=store_stE sz169 h k o v
theorem st186 (h:IH) (k o:Nat) (v:Value):store prog h 186 (ptr (2*k) o) v=stE 4 h k o v.cells.toList (h.ext.get k):=store_stE sz186 h k o v
theorem st199 (h:IH) (k o:Nat) (v:Value):store prog h 199 (ptr (2*k) o) v=stE 8 h k o v.cells.toList (h.ext.get k):=store_stE sz199 h k o v
theorem st201 (h:IH) (k o:Nat) (v:Value):store prog h 201 (ptr (2*k) o) v=stE 9 h k o v.cells.toList (h.ext.get k):=store_stE sz201 h k o v
theorem st3 (h:IH) (k o:Nat) (v:Value):store prog h 3 (ptr (2*k) o) v=stE 1 h k o v.cells.toList (h.ext.get k):=store_stE sz3 h k o v
theorem st42 (h:IH) (k o:Nat) (v:Value):store prog h 42 (ptr (2*k) o) v=stE 1 h k o v.cells.toList (h.ext.get k):=store_stE sz42 h k o v
theorem st44 (h:IH) (k o:Nat) (v:Value):store prog h 44 (ptr (2*k) o) v=stE 8 h k o v.cells.toList (h.ext.get k):=store_stE sz44 h k o v
theorem st48 (h:IH) (k o:Nat) (v:Value):store prog h 48 (ptr (2*k) o) v=stE 16 h k o v.cells.toList (h.ext.get k):=store_stE sz48 h k o v
end Go.Id

namespace Go.Id
def valT (ds:List Nat):Nat→Nat
 | 0=>0
 | k+1=>valT ds k+ds.getD k 0*4294967296 ^ k
def valD (ds:List Nat):Nat:=valT ds ds.length
def Digs (ds:List Nat):Prop:=∀d∈ds,d<4294967296
def Norm (ds:List Nat):Prop:=ds = []∨ds.getD (ds.length - 1) 0≠0
theorem getD_lt {ds:List Nat} (h:Digs ds) (k:Nat):ds.getD k 0<4294967296:=by
 rw[List.getD_eq_getElem?_getD]
 cases hx:ds[k]? with
 | none=>simp
 | some x=>simpa using h x (List.mem_of_getElem? hx)
theorem getD_of_ge {ds:List Nat} {k:Nat} (h:ds.length≤k):ds.getD k 0=0:=by
 rw[List.getD_eq_getElem?_getD,List.getElem?_eq_none h];rfl
theorem pow_pos' (k:Nat):0<4294967296 ^ k:=Nat.pow_pos (by omega)
theorem valT_lt {ds:List Nat} (h:Digs ds) : ∀k,valT ds k<4294967296 ^ k
 | 0=>by simp[valT]
 | k+1=>by
  have ih:=valT_lt h k
  have hd:=getD_lt h k
  have h2:ds.getD k 0*4294967296 ^ k≤4294967295*4294967296 ^ k:=Nat.mul_le_mul_right _ (by omega)
  rw[valT,Nat.pow_succ]
  omega
theorem valT_ge {ds:List Nat} : ∀{k:Nat},ds.length≤k→valT ds k=valD ds
 | 0,h=>by
  have:ds = []:=List.length_eq_zero_iff.1 (by omega)
  subst this;rfl
 | k+1,h=>by
  by_cases hk:ds.length≤k
  ·rw[valT,valT_ge hk,getD_of_ge hk];simp
  ·have:ds.length=k+1:=by omega
   rw[valD,this]
theorem valT_congr {ds es:List Nat} : ∀{k:Nat},(∀j,j<k→ds.getD j 0=es.getD j 0)→valT ds k=valT es k
 | 0,_=>rfl
 | k+1,h=>by rw[valT,valT,valT_congr fun j hj=>h j (by omega),h k (by omega)]
theorem valD_lt {ds:List Nat} (h:Digs ds):valD ds<4294967296 ^ ds.length:=valT_lt h _
theorem getD_append {ds:List Nat} {x:Nat} (j:Nat):(ds ++ [x]).getD j 0=if j<ds.length then ds.getD j 0 else if j=ds.length then x else 0:=by
 simp only[List.getD_eq_getElem?_getD]
 by_cases h:j<ds.length
 ·rw[if_pos h,List.getElem?_append_left h]
 ·rw[if_neg h,List.getElem?_append_right (by omega)]
  by_cases h2:j=ds.length
  ·rw[if_pos h2];subst h2;simp
  ·rw[if_neg h2,List.getElem?_eq_none (by simp;omega)];rfl
theorem valD_append (ds:List Nat) (x:Nat):valD (ds ++ [x])=valD ds+x*4294967296 ^ ds.length:=by
 have h1:(ds ++ [x]).length=ds.length+1:=by simp
 rw[valD,h1,valT,getD_append,if_neg (by omega),if_pos rfl]
 congr 1
 refine valT_congr fun j hj=>?_
 rw[getD_append,if_pos hj]
theorem Digs.append {ds:List Nat} {x:Nat} (h:Digs ds) (hx:x<4294967296):Digs (ds ++ [x]):=by
 intro d hd
 rcases List.mem_append.1 hd with h1|h1
 ·exact h d h1
 ·simp at h1;omega
theorem Digs.take {ds:List Nat} (h:Digs ds) (n:Nat):Digs (ds.take n):=fun d hd=>h d (List.mem_of_mem_take hd)
theorem getD_take (ds:List Nat) (n j:Nat):(ds.take n).getD j 0=if j<n then ds.getD j 0 else 0:=by
 simp only[List.getD_eq_getElem?_getD,List.getElem?_take]
 split<;>rfl
theorem valT_split (ds:List Nat) (m:Nat) : ∀k,(∀j,m≤j→j<m+k→ds.getD j 0=0)→valT ds (m+k)=valT ds m
 | 0,_=>rfl
 | k+1,h=>by
  rw[show m+(k+1)=(m+k)+1 from rfl,valT,valT_split ds m k (fun j a b=>h j a (by omega)),h (m+k) (by omega) (by omega)]
  simp
theorem valD_take {ds:List Nat} {m:Nat} (hm:m≤ds.length) (h : ∀j,m≤j→ds.getD j 0=0):valD (ds.take m)=valD ds:=by
 have h1:(ds.take m).length=m:=by simp[hm]
 rw[valD,h1]
 have h2:valT (ds.take m) m=valT ds m:=valT_congr fun j hj=>by rw[getD_take,if_pos hj]
 rw[h2]
 have:=valT_split ds m (ds.length - m) (fun j a _=>h j a)
 rw[show m+(ds.length - m)=ds.length from by omega] at this
 exact this.symm
theorem Norm.ge {ds:List Nat} (h:Norm ds) (hne:ds ≠ []):4294967296 ^ (ds.length - 1)≤valD ds:=by
 rcases h with h|h
 ·exact absurd h hne
 ·have hl:0<ds.length:=List.length_pos_iff.2 hne
  obtain⟨n,hn⟩ : ∃n,ds.length=n+1:=⟨ds.length - 1,by omega⟩
  rw[valD,hn,valT]
  rw[hn] at h
  simp only[Nat.add_sub_cancel] at h ⊢
  have:1*4294967296 ^ n≤ds.getD n 0*4294967296 ^ n:=Nat.mul_le_mul_right _ (by omega)
  omega
theorem lt_of_len {a b:List Nat} (ha:Digs a) (hb:Norm b) (hl:a.length<b.length):valD a<valD b:=by
 have h1:=valD_lt ha
 have h2:=hb.ge (by intro h;subst h;simp at hl)
 have h3:4294967296 ^ a.length≤4294967296 ^ (b.length - 1):=Nat.pow_le_pow_right (by omega) (by omega)
 omega
theorem valT_top {a b:List Nat} (ha:Digs a) {i:Nat} (hi:a.getD i 0<b.getD i 0) : ∀k,(∀j,i<j→j<i+1+k→a.getD j 0=b.getD j 0)→valT a (i+1+k)<valT b (i+1+k)
 | 0,_=>by
  have h1:=valT_lt ha i
  have h2:(a.getD i 0+1)*4294967296 ^ i≤b.getD i 0*4294967296 ^ i:=Nat.mul_le_mul_right _ (by omega)
  rw[Nat.add_mul] at h2
  rw[Nat.add_zero,valT,valT]
  omega
 | k+1,h=>by
  have:=valT_top ha hi k (fun j x y=>h j x (by omega))
  rw[show i+1+(k+1)=(i+1+k)+1 from rfl,valT,valT,h (i+1+k) (by omega) (by omega)]
  omega
theorem lt_of_top {a b:List Nat} (ha:Digs a) (hl:a.length=b.length) {i:Nat} (hn:i<a.length) (hi:a.getD i 0<b.getD i 0) (h : ∀j,i<j→j<a.length→a.getD j 0=b.getD j 0):valD a<valD b:=by
 have:=valT_top ha hi (a.length - (i+1)) (fun j x y=>h j x (by omega))
 rw[show i+1+(a.length - (i+1))=a.length from by omega] at this
 rw[valD,valD,←hl];exact this
theorem eq_of_all {a b:List Nat} (hl:a.length=b.length) (h : ∀j,j<a.length→a.getD j 0=b.getD j 0):valD a=valD b:=by
 rw[valD,valD,←hl];exact valT_congr h
theorem Norm.nil_iff {ds:List Nat} (h:Norm ds):valD ds=0↔ds = []:=by
 constructor
 ·intro h0
  apply Classical.byContradiction;intro hne
  have:=h.ge hne
  have:=pow_pos' (ds.length - 1)
  omega
 ·rintro rfl;rfl
theorem Norm.len_le {a b:List Nat} (ha:Norm a) (hb:Digs b) (h:valD a≤valD b):a.length≤b.length:=by
 apply Classical.byContradiction;intro hn
 have:=lt_of_len hb ha (by omega)
 omega
theorem valT_cons (d:Nat) (ds:List Nat) : ∀k,valT (d :: ds) (k+1)=d+4294967296*valT ds k
 | 0=>by simp[valT]
 | k+1=>by
  rw[valT,valT_cons d ds k,valT]
  simp only[List.getD_cons_succ,Nat.pow_succ]
  grind
theorem valD_cons (d:Nat) (ds:List Nat):valD (d :: ds)=d+4294967296*valD ds:=valT_cons d ds _
theorem norm_unique : ∀{a b:List Nat},Digs a→Digs b→Norm a→Norm b→valD a=valD b→a=b:=by
 intro a b ha hb na nb h
 have l1:=na.len_le hb (by omega)
 have l2:=nb.len_le ha (by omega)
 have hl:a.length=b.length:=by omega
 clear l1 l2 na nb
 induction a generalizing b with
 | nil=>exact(List.length_eq_zero_iff.1 hl.symm).symm
 | cons x a ih =>
  cases b with
  | nil=>simp at hl
  | cons y b =>
   rw[valD_cons,valD_cons] at h
   have hx:x<4294967296:=ha x (by simp)
   have hy:y<4294967296:=hb y (by simp)
   have e1:x=y:=by omega
   have e2:valD a=valD b:=by omega
   rw[e1,ih (b:=b) (fun d hd=>ha d (by simp[hd])) (fun d hd=>hb d (by simp[hd])) e2 (by simpa using hl)]
end Go.Id

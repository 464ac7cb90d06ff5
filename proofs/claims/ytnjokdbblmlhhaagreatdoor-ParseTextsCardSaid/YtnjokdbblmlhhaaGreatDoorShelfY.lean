/- Lemmas of this claim. -/
import Derived.Shelf.Strings.Trim
import Derived.Shelf.Small.Utf8
import Derived.Shelf.Small.Wraps
import Derived.Shelf.Strings.BuilderK
import Derived.Shelf.Strings.Shaped
import Derived.Shelf.GgClosure.StringsIndexFuncTop
import Derived.Shelf.Strings.Runes
import Derived.Shelf.Strings.AsciiSet
import Derived.Shelf.Unicode.DecodeSlow
import Derived.Shelf.Slices.Turned
import Derived.Shelf.Slices.Empties2
import Derived.Test.YtnjokdbblmlhhaaGreatDoorGAY
import Derived.Shelf.Slices.Clone
namespace Go.Proofs
open Go.Shelf
def Tryz.lays161_ren:Go.Shelf.Ren:=⟨fun|161=>101|231=>135|227=>136|233=>137|235=>138|228=>161|197=>162|151=>163|260=>178|152=>179|137=>156|119=>188|224=>183|225=>182|217=>175|266=>186|n=>n,fun|9=>9|4=>4|3=>3|5=>5|117=>181|116=>180|0=>0|124=>184|105=>204|21=>21|119=>221|46=>219|139=>224|138=>223|n=>n,fun|3=>1|4=>2|n=>n⟩
theorem Tryz.lays161:Go.Proofs.Lays.n161 Tryz.prog Tryz.lays161_ren:={
 mixed:=by kernel_rfl
 f119:=Tryz.func188.trans (congrArg some (by kernel_rfl))
 f137:=Tryz.func156.trans (congrArg some (by kernel_rfl))
 f151:=Tryz.func163.trans (congrArg some (by kernel_rfl))
 f152:=Tryz.func179.trans (congrArg some (by kernel_rfl))
 f161:=Tryz.func101.trans (congrArg some (by kernel_rfl))
 f197:=Tryz.func162.trans (congrArg some (by kernel_rfl))
 f217:=Tryz.func175.trans (congrArg some (by kernel_rfl))
 f224:=Tryz.func183.trans (congrArg some (by kernel_rfl))
 f225:=Tryz.func182.trans (congrArg some (by kernel_rfl))
 f227:=Tryz.func136.trans (congrArg some (by kernel_rfl))
 f228:=Tryz.func161.trans (congrArg some (by kernel_rfl))
 f231:=Tryz.func135.trans (congrArg some (by kernel_rfl))
 f233:=Tryz.func137.trans (congrArg some (by kernel_rfl))
 f235:=Tryz.func138.trans (congrArg some (by kernel_rfl))
 f260:=Tryz.func178.trans (congrArg some (by kernel_rfl))
 f266:=Tryz.func186.trans (congrArg some (by kernel_rfl))
 t0:=Tryz.underlying0
 a0:=Tryz.isAgg0
 z0:=Tryz.sizeOf0
 v0:=Tryz.zeroValue0
 t3:=Tryz.underlying3
 a3:=Tryz.isAgg3
 z3:=Tryz.sizeOf3
 v3:=Tryz.zeroValue3
 t4:=Tryz.underlying4
 a4:=Tryz.isAgg4
 z4:=Tryz.sizeOf4
 v4:=Tryz.zeroValue4
 t5:=Tryz.underlying5
 a5:=Tryz.isAgg5
 z5:=Tryz.sizeOf5
 v5:=Tryz.zeroValue5
 t9:=Tryz.underlying9
 a9:=Tryz.isAgg9
 z9:=Tryz.sizeOf9
 v9:=Tryz.zeroValue9
 t21:=Tryz.underlying21
 a21:=Tryz.isAgg21
 z21:=Tryz.sizeOf21
 v21:=Tryz.zeroValue21
 t46:=Tryz.underlying219
 a46:=Tryz.isAgg219
 z46:=Tryz.sizeOf219
 v46:=Tryz.zeroValue219
 t105:=Tryz.underlying204
 a105:=Tryz.isAgg204
 z105:=Tryz.sizeOf204
 v105:=Tryz.zeroValue204
 t116:=Tryz.underlying180
 a116:=Tryz.isAgg180
 z116:=Tryz.sizeOf180
 t117:=Tryz.underlying181
 a117:=Tryz.isAgg181
 z117:=Tryz.sizeOf181
 v117:=Tryz.zeroValue181
 t119:=Tryz.underlying221
 a119:=Tryz.isAgg221
 z119:=Tryz.sizeOf221
 t124:=Tryz.underlying184
 a124:=Tryz.isAgg184
 z124:=Tryz.sizeOf184
 v124:=Tryz.zeroValue184
 t138:=Tryz.underlying223
 a138:=Tryz.isAgg223
 z138:=Tryz.sizeOf223
 v138:=Tryz.zeroValue223
 t139:=Tryz.underlying224
 a139:=Tryz.isAgg224
 z139:=Tryz.sizeOf224
 v139:=Tryz.zeroValue224
 g3:=by kernel_rfl
 g4:=by kernel_rfl }
open Go.RowKit in
theorem Tryz.strings_TrimLeft_one(s:ByteArray)(c:UInt8)(hc:c.toNat<128)(w:World) :
  Calls Tryz.prog 101 #[.string s,.string ⟨#[c]⟩] w fun e w'=>e=.returned (.string ⟨(Lib.trimLeftB s.data.toList c).toArray⟩)∧w'=w:=Any.strings_TrimLeft_one Tryz.lays161 s c hc w
def Tryz.lays162_ren:Go.Shelf.Ren:=⟨fun|162=>134|232=>158|227=>136|234=>159|236=>160|228=>161|271=>177|151=>163|120=>187|197=>162|152=>179|260=>178|137=>156|119=>188|224=>183|225=>182|217=>175|266=>186|n=>n,fun|9=>9|4=>4|3=>3|5=>5|117=>181|116=>180|0=>0|124=>184|21=>21|105=>204|46=>219|119=>221|139=>224|138=>223|n=>n,fun|3=>1|4=>2|n=>n⟩
theorem Tryz.lays162:Go.Proofs.Lays.n162 Tryz.prog Tryz.lays162_ren:={
 mixed:=by kernel_rfl
 f119:=Tryz.func188.trans (congrArg some (by kernel_rfl))
 f120:=Tryz.func187.trans (congrArg some (by kernel_rfl))
 f137:=Tryz.func156.trans (congrArg some (by kernel_rfl))
 f151:=Tryz.func163.trans (congrArg some (by kernel_rfl))
 f152:=Tryz.func179.trans (congrArg some (by kernel_rfl))
 f162:=Tryz.func134.trans (congrArg some (by kernel_rfl))
 f197:=Tryz.func162.trans (congrArg some (by kernel_rfl))
 f217:=Tryz.func175.trans (congrArg some (by kernel_rfl))
 f224:=Tryz.func183.trans (congrArg some (by kernel_rfl))
 f225:=Tryz.func182.trans (congrArg some (by kernel_rfl))
 f227:=Tryz.func136.trans (congrArg some (by kernel_rfl))
 f228:=Tryz.func161.trans (congrArg some (by kernel_rfl))
 f232:=Tryz.func158.trans (congrArg some (by kernel_rfl))
 f234:=Tryz.func159.trans (congrArg some (by kernel_rfl))
 f236:=Tryz.func160.trans (congrArg some (by kernel_rfl))
 f260:=Tryz.func178.trans (congrArg some (by kernel_rfl))
 f266:=Tryz.func186.trans (congrArg some (by kernel_rfl))
 f271:=Tryz.func177.trans (congrArg some (by kernel_rfl))
 t0:=Tryz.underlying0
 a0:=Tryz.isAgg0
 z0:=Tryz.sizeOf0
 v0:=Tryz.zeroValue0
 t3:=Tryz.underlying3
 a3:=Tryz.isAgg3
 z3:=Tryz.sizeOf3
 v3:=Tryz.zeroValue3
 t4:=Tryz.underlying4
 a4:=Tryz.isAgg4
 z4:=Tryz.sizeOf4
 v4:=Tryz.zeroValue4
 t5:=Tryz.underlying5
 a5:=Tryz.isAgg5
 z5:=Tryz.sizeOf5
 v5:=Tryz.zeroValue5
 t9:=Tryz.underlying9
 a9:=Tryz.isAgg9
 z9:=Tryz.sizeOf9
 v9:=Tryz.zeroValue9
 t21:=Tryz.underlying21
 a21:=Tryz.isAgg21
 z21:=Tryz.sizeOf21
 v21:=Tryz.zeroValue21
 t46:=Tryz.underlying219
 a46:=Tryz.isAgg219
 z46:=Tryz.sizeOf219
 v46:=Tryz.zeroValue219
 t105:=Tryz.underlying204
 a105:=Tryz.isAgg204
 z105:=Tryz.sizeOf204
 v105:=Tryz.zeroValue204
 t116:=Tryz.underlying180
 a116:=Tryz.isAgg180
 z116:=Tryz.sizeOf180
 t117:=Tryz.underlying181
 a117:=Tryz.isAgg181
 z117:=Tryz.sizeOf181
 v117:=Tryz.zeroValue181
 t119:=Tryz.underlying221
 a119:=Tryz.isAgg221
 z119:=Tryz.sizeOf221
 t124:=Tryz.underlying184
 a124:=Tryz.isAgg184
 z124:=Tryz.sizeOf184
 v124:=Tryz.zeroValue184
 t138:=Tryz.underlying223
 a138:=Tryz.isAgg223
 z138:=Tryz.sizeOf223
 v138:=Tryz.zeroValue223
 t139:=Tryz.underlying224
 a139:=Tryz.isAgg224
 z139:=Tryz.sizeOf224
 v139:=Tryz.zeroValue224
 g3:=by kernel_rfl
 g4:=by kernel_rfl }
open Go.RowKit in
theorem Tryz.strings_TrimRight_one(s:ByteArray)(c:UInt8)(hc:c.toNat<128)(w:World)(hs:s.size≤9223372036854775807) :
  Calls Tryz.prog 134 #[.string s,.string ⟨#[c]⟩] w fun e w'=>e=.returned (.string ⟨(Lib.trimRightB s.data.toList c).toArray⟩)∧w'=w:=Any.strings_TrimRight_one Tryz.lays162 s c hc w hs
def Tryz.lays137_ren:Go.Shelf.Ren:=⟨fun|137=>156|217=>175|266=>186|n=>n,fun|9=>9|5=>5|3=>3|n=>n,fun|n=>n⟩
theorem Tryz.lays137:Go.Proofs.Lays.n137 Tryz.prog Tryz.lays137_ren:={
 mixed:=by kernel_rfl
 f137:=Tryz.func156.trans (congrArg some (by kernel_rfl))
 f217:=Tryz.func175.trans (congrArg some (by kernel_rfl))
 f266:=Tryz.func186.trans (congrArg some (by kernel_rfl))
 t3:=Tryz.underlying3
 a3:=Tryz.isAgg3
 z3:=Tryz.sizeOf3
 v3:=Tryz.zeroValue3
 t5:=Tryz.underlying5
 a5:=Tryz.isAgg5
 z5:=Tryz.sizeOf5
 v5:=Tryz.zeroValue5
 t9:=Tryz.underlying9
 a9:=Tryz.isAgg9
 z9:=Tryz.sizeOf9
 v9:=Tryz.zeroValue9 }
open Go.RowKit in
theorem Tryz.strings_IndexByte(s:ByteArray)(c:Int)(w:World) :
  Calls Tryz.prog 156 #[.string s,.int .u8 c] w fun e w'=>e=.returned (.int .i64 (Lib.indexByte s.data.toList c.toNat.toUInt8))∧w'=w:=Any.strings_IndexByte Tryz.lays137 s c w
def Tryz.lays103_ren:Go.Shelf.Ren:=⟨fun|103=>180|210=>189|206=>172|n=>n,fun|9=>9|4=>4|24=>214|3=>3|n=>n,fun|n=>n⟩
theorem Tryz.lays103:Go.Proofs.Lays.n103 Tryz.prog Tryz.lays103_ren:={
 mixed:=by kernel_rfl
 f103:=Tryz.func180.trans (congrArg some (by kernel_rfl))
 f206:=Tryz.func172.trans (congrArg some (by kernel_rfl))
 f210:=Tryz.func189.trans (congrArg some (by kernel_rfl))
 t3:=Tryz.underlying3
 a3:=Tryz.isAgg3
 z3:=Tryz.sizeOf3
 v3:=Tryz.zeroValue3
 t4:=Tryz.underlying4
 a4:=Tryz.isAgg4
 z4:=Tryz.sizeOf4
 v4:=Tryz.zeroValue4
 t9:=Tryz.underlying9
 a9:=Tryz.isAgg9
 z9:=Tryz.sizeOf9
 v9:=Tryz.zeroValue9
 t24:=Tryz.underlying214
 a24:=Tryz.isAgg214
 z24:=Tryz.sizeOf214
 v24:=Tryz.zeroValue214 }
open Go.RowKit in
theorem Tryz.strings_CutPrefix(s p:ByteArray)(w:World) :
  Calls Tryz.prog 180 #[.string s,.string p] w fun e w'=>e=.returned (.tuple #[.string ⟨(Lib.trimPrefix s.data.toList p.data.toList).toArray⟩,.bool (Lib.hasPrefix s.data.toList p.data.toList)])∧w'=w:=Any.strings_CutPrefix Tryz.lays103 s p w
def Tryz.lays138_ren:Go.Shelf.Ren:=⟨fun|138=>129|195=>150|218=>151|143=>152|219=>173|217=>175|225=>182|224=>183|267=>184|266=>186|314=>191|n=>n,fun|9=>9|3=>3|4=>4|5=>5|0=>0|46=>219|146=>228|51=>227|n=>n,fun|1=>0|n=>n⟩
theorem Tryz.lays138:Go.Proofs.Lays.n138 Tryz.prog Tryz.lays138_ren:={
 mixed:=by kernel_rfl
 f138:=Tryz.func129.trans (congrArg some (by kernel_rfl))
 f143:=Tryz.func152.trans (congrArg some (by kernel_rfl))
 f195:=Tryz.func150.trans (congrArg some (by kernel_rfl))
 f217:=Tryz.func175.trans (congrArg some (by kernel_rfl))
 f218:=Tryz.func151.trans (congrArg some (by kernel_rfl))
 f219:=Tryz.func173.trans (congrArg some (by kernel_rfl))
 f224:=Tryz.func183.trans (congrArg some (by kernel_rfl))
 f225:=Tryz.func182.trans (congrArg some (by kernel_rfl))
 f266:=Tryz.func186.trans (congrArg some (by kernel_rfl))
 f267:=Tryz.func184.trans (congrArg some (by kernel_rfl))
 f314:=Tryz.func191.trans (congrArg some (by kernel_rfl))
 t0:=Tryz.underlying0
 a0:=Tryz.isAgg0
 z0:=Tryz.sizeOf0
 v0:=Tryz.zeroValue0
 t3:=Tryz.underlying3
 a3:=Tryz.isAgg3
 z3:=Tryz.sizeOf3
 v3:=Tryz.zeroValue3
 t4:=Tryz.underlying4
 a4:=Tryz.isAgg4
 z4:=Tryz.sizeOf4
 v4:=Tryz.zeroValue4
 t5:=Tryz.underlying5
 a5:=Tryz.isAgg5
 z5:=Tryz.sizeOf5
 v5:=Tryz.zeroValue5
 t9:=Tryz.underlying9
 a9:=Tryz.isAgg9
 z9:=Tryz.sizeOf9
 v9:=Tryz.zeroValue9
 t46:=Tryz.underlying219
 a46:=Tryz.isAgg219
 z46:=Tryz.sizeOf219
 v46:=Tryz.zeroValue219
 t51:=Tryz.underlying227
 a51:=Tryz.isAgg227
 z51:=Tryz.sizeOf227
 v51:=Tryz.zeroValue227
 t146:=Tryz.underlying228
 a146:=Tryz.isAgg228
 z146:=Tryz.sizeOf228
 v146:=Tryz.zeroValue228
 g1:=by kernel_rfl }
open Go.RowKit Go.Lib in
theorem Tryz.strings_Count_one(s:ByteArray)(c:UInt8)(w:World) :
  Calls Tryz.prog 129 #[.string s,.string ⟨#[c]⟩] w fun e w'=>e=.returned (.int .i64 (Lib.countByte s.data.toList c))∧w'=w:=Any.strings_Count_one Tryz.lays138 s c w
def Tryz.lays99_ren:Go.Shelf.Ren:=⟨fun|99=>149|206=>172|n=>n,fun|9=>9|4=>4|3=>3|n=>n,fun|n=>n⟩
theorem Tryz.lays99:Go.Proofs.Lays.n99 Tryz.prog Tryz.lays99_ren:={
 mixed:=by kernel_rfl
 f99:=Tryz.func149.trans (congrArg some (by kernel_rfl))
 f206:=Tryz.func172.trans (congrArg some (by kernel_rfl))
 t3:=Tryz.underlying3
 a3:=Tryz.isAgg3
 z3:=Tryz.sizeOf3
 v3:=Tryz.zeroValue3
 t4:=Tryz.underlying4
 a4:=Tryz.isAgg4
 z4:=Tryz.sizeOf4
 v4:=Tryz.zeroValue4
 t9:=Tryz.underlying9
 a9:=Tryz.isAgg9
 z9:=Tryz.sizeOf9
 v9:=Tryz.zeroValue9 }
open Go.RowKit Go.Lib in
theorem Tryz.strings_HasPrefix(s p:ByteArray)(w:World) :
  Calls Tryz.prog 149 #[.string s,.string p] w fun e w'=>e=.returned (.bool (Lib.hasPrefix s.data.toList p.data.toList))∧w'=w:=Any.strings_HasPrefix Tryz.lays99 s p w
def Tryz.lays102_ren:Go.Shelf.Ren:=⟨fun|102=>133|209=>157|207=>176|n=>n,fun|9=>9|4=>4|3=>3|n=>n,fun|n=>n⟩
theorem Tryz.lays102:Go.Proofs.Lays.n102 Tryz.prog Tryz.lays102_ren:={
 mixed:=by kernel_rfl
 f102:=Tryz.func133.trans (congrArg some (by kernel_rfl))
 f207:=Tryz.func176.trans (congrArg some (by kernel_rfl))
 f209:=Tryz.func157.trans (congrArg some (by kernel_rfl))
 t3:=Tryz.underlying3
 a3:=Tryz.isAgg3
 z3:=Tryz.sizeOf3
 v3:=Tryz.zeroValue3
 t4:=Tryz.underlying4
 a4:=Tryz.isAgg4
 z4:=Tryz.sizeOf4
 v4:=Tryz.zeroValue4
 t9:=Tryz.underlying9
 a9:=Tryz.isAgg9
 z9:=Tryz.sizeOf9
 v9:=Tryz.zeroValue9 }
open Go.RowKit Go.Lib in
theorem Tryz.strings_TrimSuffix(s p:ByteArray)(w:World)(hs:s.size≤9223372036854775807) :
  Calls Tryz.prog 133 #[.string s,.string p] w fun e w'=>e=.returned (.string ⟨(Lib.trimSuffix s.data.toList p.data.toList).toArray⟩)∧w'=w:=Any.strings_TrimSuffix Tryz.lays102 s p w hs
def Tryz.lays110_ren:Go.Shelf.Ren:=⟨fun|110=>83|109=>51|n=>n,fun|31=>23|9=>9|4=>4|3=>3|0=>0|n=>n,fun|n=>n⟩
theorem Tryz.lays110:Go.Proofs.Lays.n110 Tryz.prog Tryz.lays110_ren:={
 mixed:=by kernel_rfl
 f109:=Tryz.func51.trans (congrArg some (by kernel_rfl))
 f110:=Tryz.func83.trans (congrArg some (by kernel_rfl))
 t0:=Tryz.underlying0
 a0:=Tryz.isAgg0
 z0:=Tryz.sizeOf0
 v0:=Tryz.zeroValue0
 t3:=Tryz.underlying3
 a3:=Tryz.isAgg3
 z3:=Tryz.sizeOf3
 v3:=Tryz.zeroValue3
 t4:=Tryz.underlying4
 a4:=Tryz.isAgg4
 z4:=Tryz.sizeOf4
 v4:=Tryz.zeroValue4
 t9:=Tryz.underlying9
 a9:=Tryz.isAgg9
 z9:=Tryz.sizeOf9
 v9:=Tryz.zeroValue9
 t31:=Tryz.underlying23
 a31:=Tryz.isAgg23
 z31:=Tryz.sizeOf23
 v31:=Tryz.zeroValue23 }
open Go.Lib in
theorem Tryz.slices_Contains_string(b D n c:Nat)(zs:List ByteArray)(x:ByteArray)(w:World)(hz:n≤zs.length)(G:n≤9223372036854775807)(hc:∀j,j<zs.length→w.cell? ⟨b,D+j,none⟩=some (.string (zs.getD j ByteArray.empty))) :
  Calls Tryz.prog 83 #[.slice (some ⟨b,D,none⟩) n c,.string x] w fun e w'=>e=.returned (.bool (Lib.containsS (zs.take n) x))∧w'=w:=Any.slices_Contains_string Tryz.lays110 b D n c zs x w hz G hc
open Go.Lib in
theorem Tryz.slices_Contains_string_empty(a:Option Addr)(c:Nat)(x:ByteArray)(w:World) :
  Calls Tryz.prog 83 #[.slice a 0 c,.string x] w fun e w'=>e=.returned (.bool false)∧w'=w:=Any.slices_Contains_string_empty Tryz.lays110 a c x w
end Go.Proofs
set_option linter.unusedVariables false
set_option linter.unusedSimpArgs false
namespace Go.Proofs.YtnjokdbblmlhhaaGreatDoor
set_option maxHeartbeats 1600000
set_option maxRecDepth 100000
open Go.RowKit
theorem Kt(c:UInt8)(b:Bool)(w:World)  :
  Calls Tryz.prog 144 #[.int .u8 (c.toNat:Int),.bool b] w fun e w'=>e=.returned (.bool (P18.stands c (!b)))∧w'=w:=by
 have hc:=c.toNat_lt;go_enter Tryz.func144,Tryz.ntmps144
 go_wp2_with fail
 all_goals go_ret
 all_goals refine⟨Bn ?_,rfl⟩
 all_goals rw[R18.plain_key]
 all_goals try simp only[beq_iff_eq,beq_eq_false_iff_ne]at *
 all_goals cases b
 all_goals rw[Bool.eq_iff_iff]
 all_goals simp
 all_goals omega
theorem Xl(c:UInt8)(w:World)  :
  Calls Tryz.prog 145 #[.int .u8 (c.toNat:Int)] w fun e w'=>e=.returned (.int .i64 (R18.hex c))∧w'=w:=by
 have hc:=c.toNat_lt;go_enter Tryz.func145,Tryz.ntmps145
 go_wp2_with fail
 all_goals go_ret
 all_goals refine⟨De ?_,rfl⟩
 all_goals rw[R18.hex]
 all_goals repeat (first|rw[if_pos (by omega)]|rw[if_neg (by omega)])
theorem Tn(s:ByteArray)(w:World)(h:s.size≤maxLen) :
    Calls Tryz.prog 121 #[.string s] w fun e w'=>e=.returned (.bool (P18.plain s.data.toList))∧w'=w:=by
  unfold maxLen at h;rw[R18.plain_eq,←zP];go_enter Tryz.func121,Tryz.ntmps121
  go_wp2
  go_loopg [3] s.size (fun g s3 X=>∃(k:Nat),k+g=s.size∧s3=.int .i64 (k:Int)∧Hid (R18.allPlain false s.data.toList=R18.allPlain (!((k:Int)==0)) (s.data.toList.drop k))∧X=w)
  case atStart=>exact⟨0,by omega,rfl,rfl,rfl⟩
  case round=>
    obtain⟨k,I,rfl,J,rfl⟩:=hrel;cases gk with
    |zero=>
      obtain rfl:k=s.size:=by omega
      have D:R18.allPlain false s.data.toList=true:=by rw[Aa J,qM (by rw[zP];omega)];rfl
      have Y:=Ab D;clear D;go_wp2;go_ret;exact⟨Bn (by rw[Aa Y];simp),rfl⟩
    |succ g=>
      have G:k<s.size:=by omega
      have U:(k:Int)<(s.size:Int):=by omega
      have S:=Ab I;clear I;have hd:=R18.allPlain_drop (pos:=!((k:Int)==0)) (l:=s.data.toList) (k:=k) (by simpa using G);have N:s.data.toList[k]'(by simpa using G)=s[k]:=rfl;rw[N]at hd;have Q:=Ab hd;clear hd N;cases hs:P18.stands s[k] (!((k:Int)==0))
      all_goals
        have R:=Ab hs;go_wp2_with (go_at_call 144;refine(Kt _ _ _).mono ?_;rw[hs];rintro e w' ⟨rfl,rfl⟩)
        first
          | (go_ret
             exact⟨Bn (by rw[Aa J,Aa Q,Aa R];rfl),rfl⟩)
          | (go_roundg g
             case measure=>omega
             case rel=>
              refine⟨k+1,by have:=Aa S;omega,by go_num,?_,rfl⟩;show _=_;rw[Aa J,Aa Q,Aa R,show (!(((k+1:Nat):Int)==0))=true from by simp;omega]
              rfl)
theorem Yu(s:ByteArray)(w:World)(h:s.size≤100000)(hp:0<s.size)(hq:s[0].toNat≠34) :
  Calls Tryz.prog 116 #[.string s] w fun e w'=>e=.returned (.tuple #[.int .i64 (P18.cut s.data.toList).1,.int .i64 (P18.cut s.data.toList).2])∧w'=w:=by
 have aB:(0:Int)<(s.size:Int):=by omega
 have hne:=I5 hp;have aC:((s[0].toNat:Int) != 34)=true:=by simp;omega
 have U:s.data.toList.getD 0 0=s[0]:=by rw[List.getD_eq_getElem?_getD,Lib.data_getElem? s 0 hp];rfl
 have hcut:P18.cut s.data.toList=if ((P18.plainLen false s.data.toList:Int)==0)=true then (0,3) else (P18.plainLen false s.data.toList,0):=by
  rw[P18.cut,if_neg (fun h=>hq (by have:=((P18.prefix_iff _).1 h).2;rwa [U]at this))]
 have Y:=Ab hcut;clear hcut U hq;go_enter Tryz.func116,Tryz.ntmps116
 go_wp2_with fail
 go_loopg [4] s.size (fun g s4 wx=>∃(k:Nat),k≤s.size∧s.size≤k+g∧s4=.int .i64 (k:Int)∧Hid (P18.plainLen false s.data.toList=P18.plainLen (!((k:Int)==0)) (s.data.toList.drop k)+k)∧wx=w)
 case atStart=>exact⟨0,by omega,by omega,rfl,rfl,rfl⟩
 case round=>
  obtain⟨k,hk,aA,rfl,Q,rfl⟩:=hrel;have HK:=Ab hk;by_cases J:k<s.size
  ·have Z:(k:Int)<(s.size:Int):=by omega
   have hd:=P18.plainLen_drop (pos:=!((k:Int)==0)) (l:=s.data.toList) (k:=k) (by simpa using J);have S:s.data.toList[k]'(by simpa using J)=s[k]:=rfl;rw[S]at hd;have X:=Ab hd;clear hd S;cases hs:P18.stands s[k] (!((k:Int)==0))
   ·have D:P18.plainLen false s.data.toList=k:=by rw[Aa Q,Aa X,hs];simp
    have HF:=Ab D;have G:Hid (P18.cut s.data.toList=if ((k:Int)==0)=true then (0,3) else (k,0)):=by show _=_;rw[Aa Y,D]
    clear D;by_cases N:k=0
    ·subst N;have R:P18.stands s[0] (!true)=false:=hs;clear hs;go_wp2_with (go_at_call 144;refine(Kt _ _ _).mono ?_;rw[R];rintro e w' ⟨rfl,rfl⟩)
     go_ret2
     rw[Aa G];exact⟨rfl,rfl⟩
    ·have I:((k:Int)==0)=false:=by simp;omega
     rw[I]at hs;clear N;go_wp2_with (go_at_call 144;refine(Kt _ _ _).mono ?_;rw[hs];rintro e w' ⟨rfl,rfl⟩)
     go_ret2
     rw[Aa G,if_neg (nb I)];exact⟨rfl,rfl⟩
   ·have HS:=Ab hs;go_wp2_with (go_at_call 144;refine(Kt _ _ _).mono ?_;rw[hs];rintro e w' ⟨rfl,rfl⟩)
    go_roundg (gk-1)
    case measure=>omega
    case rel=>
     refine⟨k+1,by omega,by omega,by go_num,?_,rfl⟩;show _=_;rw[Aa Q,Aa X,Aa HS,show (!(((k+1:Nat):Int)==0))=true from by simp;omega,if_pos rfl];omega
  ·have I:((k:Int)==0)=false:=by simp;omega
   have D:P18.plainLen false s.data.toList=k:=by rw[Aa Q,qM (by rw[←zP];omega)];simp[P18.plainLen]
   have G:Hid (P18.cut s.data.toList=(k,0)):=by show _=_;rw[Aa Y,D,if_neg (nb I)]
   clear D;go_wp2
   go_ret2
   rw[Aa G];exact⟨rfl,rfl⟩
theorem Js(s:ByteArray)(w:World)(h:s.size≤9223372036854775807) :
  Calls Tryz.prog 25 #[.string s] w fun e w'=>e=.returned (.tuple #[.int .i64 (P18.number s.data.toList).1,.int .i64 (P18.number s.data.toList).2])∧w'=w:=by
 have G:=zP s;by_cases hb:s.size=0∨9<s.size∨(1<s.size∧(s.data.toList.getD 0 0).toNat=48)
 ·have D:P18.number s.data.toList=(0,3):=by rw[P18.number,if_pos (by rw[←G];exact hb)]
  rw[D];clear D;by_cases h0:(s.size:Int)<1
  ·clear hb G;go_enter Tryz.func25,Tryz.ntmps25
   go_wp2
   go_ret2
   exact⟨rfl,rfl⟩
  ·have aH:0<s.size:=by omega
   have J:s.data.toList.getD 0 0=s[0]:=by rw[List.getD_eq_getElem?_getD,Lib.data_getElem? s 0 (by omega)];rfl
   rw[J]at hb;have hp:(0:Int)<s.size:=by omega
   by_cases h9:9<(s.size:Int)
   ·clear hb G J;go_enter Tryz.func25,Tryz.ntmps25
    go_wp2
    go_ret2
    exact⟨rfl,rfl⟩
   ·have h1:1<(s.size:Int):=by omega
    have I:((s[0].toNat:Int)==48)=true:=by simp;omega
    clear hb G J;go_enter Tryz.func25,Tryz.ntmps25
    go_wp2
    go_ret2
    exact⟨rfl,rfl⟩
 ·have D:P18.number s.data.toList=P18.numLoop 0 s.data.toList:=by rw[P18.number,if_neg (by rw[←G];exact hb)]
  rw[D];clear D;have h1:0<s.size:=by omega
  have h9:s.size≤9:=by omega
  have aB:1≤(s.size:Int):=by omega
  have aG:0<(s.size:Int):=by omega
  have J:s.data.toList.getD 0 0=s[0]:=by rw[List.getD_eq_getElem?_getD,Lib.data_getElem? s 0 (by omega)];rfl
  rw[J]at hb;have aJ:(s.size:Int)≤9:=by omega
  have I:¬(1<(s.size:Int))∨((s[0].toNat:Int)==48)=false:=by
   by_cases aA:1<s.size
   ·right;simp;omega
   ·left;omega
  clear hb G J;rcases I with I|I
  all_goals
   go_enter Tryz.func25,Tryz.ntmps25
   go_wp2_with fail
   all_goals
    go_loopg [4,5] s.size (fun g s4 Z wx=>∃k n:Nat,k+g=s.size∧Z=.int .i64 (k:Int)∧s4=.int .i64 (n:Int)∧Hid (P18.numLoop 0 s.data.toList=P18.numLoop n (s.data.toList.drop k))∧n<10 ^ k∧wx=w)
    case atStart=>exact⟨0,0,by omega,rfl,rfl,rfl,by omega,rfl⟩
    case round=>
     obtain⟨k,n,Q,rfl,rfl,R,hn,rfl⟩:=hrel;cases gk with
     |zero=>
      obtain rfl:k=s.size:=by omega
      have D:P18.numLoop 0 s.data.toList=((n:Int),0):=by rw[Aa R,qM (by rw[zP];omega)];rfl
      have S:=Ab D;clear D hn;go_wp2
      go_ret2
      rw[Aa S];exact⟨rfl,rfl⟩
     |succ g=>
      have N:k<s.size:=by omega
      have aC:(k:Int)<(s.size:Int):=by omega
      have aI:n<100000000:=zB hn (P18.pow_le (by omega));have hd:=P18.numLoop_drop (n:=n) (l:=s.data.toList) (k:=k) (by simpa using N);have X:s.data.toList[k]'(by simpa using N)=s[k]:=rfl;rw[X]at hd;have Y:=Ab hd;have aE:=s[k].toNat_lt;have HG:=Ab Q;have HN:=Ab hn;clear hd X Q hn;by_cases hbad:(s[k].toNat:Int)<48∨57<(s[k].toNat:Int)
      ·have D:P18.numLoop 0 s.data.toList=(0,3):=by rw[Aa R,Aa Y,if_pos hbad]
       have S:=Ab D;clear D;rcases hbad with hbad|hbad
       all_goals
        go_wp2
        go_ret2
        rw[Aa S];exact⟨rfl,rfl⟩
      ·have U:¬(s[k].toNat:Int)<48:=by omega
       have aD:¬57<(s[k].toNat:Int):=by omega
       have hr:=Aa Y;rw[if_neg hbad]at hr;have HR:=Ab hr;clear hr hbad;go_wp2;go_roundg g
       case measure=>omega
       case rel=>
        refine⟨k+1,n*10+(s[k].toNat-48),by have:=Aa HG;omega,by go_num,by go_num,?_,?_,rfl⟩
        ·show _=_;rw[Aa R,Aa HR]
        ·have:=Aa HN;rw[Nat.pow_succ];omega
theorem Jr(s:ByteArray)(w:World)(h:s.size≤100000) :
  Calls Tryz.prog 25 #[.string s] w fun e w'=>e=.returned (.tuple #[.int .i64 (P18.number s.data.toList).1,.int .i64 (P18.number s.data.toList).2])∧w'=w:=Js s w (by omega)
theorem Ye(s:ByteArray)(w:World)(h:s.size≤100000)(hp:0<s.size)(hq:s[0].toNat=34) :
  Calls Tryz.prog 116 #[.string s] w fun e w'=>e=.returned (.tuple #[.int .i64 (P18.cut s.data.toList).1,.int .i64 (P18.cut s.data.toList).2])∧w'=w:=by
 have aC:(0:Int)<(s.size:Int):=by omega
 have hne:=I5 hp;have aE:((s[0].toNat:Int) != 34)=false:=by simp;omega
 have g0:s.data.toList.getD 0 0=s[0]:=by rw[List.getD_eq_getElem?_getD,Lib.data_getElem? s 0 hp];rfl
 have S:=zP s;have hcut:=R18.cut_quoted (l:=s.data.toList) ((P18.prefix_iff _).2 ⟨by omega,by rw[g0];exact hq⟩);rw[R18.cutQ_0 (by omega)]at hcut;have HC:=Ab hcut;have HZ:=Ab S;clear hcut g0 hq S;go_enter Tryz.func116,Tryz.ntmps116
 go_wp2_with fail
 go_loopg [5] (s.size+1) (fun g s5 wx=>∃(k:Nat),1≤k∧k≤s.size+1∧s.size+1≤k+g∧s5=.int .i64 (k:Int)∧Hid (P18.cutQ 1 false (s.data.toList.drop 1)=P18.cutQ k false (s.data.toList.drop k))∧wx=w)
 case atStart=>exact⟨1,by omega,by omega,by omega,rfl,rfl,rfl⟩
 case round=>
  obtain⟨k,aD,hk,aB,rfl,X,rfl⟩:=hrel;by_cases Y:k<s.size
  ·have aA:(k:Int)<(s.size:Int):=by omega
   have J:k<s.data.toList.length:=by rw[←Aa HZ];exact Y
   have Q:s.data.toList[k]'J=s[k]:=rfl;by_cases I:s[k].toNat=34
   ·have D:P18.cut s.data.toList=(k+1,0):=by rw[Aa HC,Aa X,R18.cutQ_quote J (by omega) (by rw[Q];exact I)]
    have HF:=Ab D;have U:((s[k].toNat:Int) != 34)=false:=by simp;omega
    clear D Q I;go_wp2_with fail
    go_ret2
    rw[Aa HF];exact⟨Fy rfl rfl,rfl⟩
   ·have U:((s[k].toNat:Int) != 34)=true:=by simp;omega
    by_cases N:s[k].toNat=92
    ·have G:=R18.cutQ_esc J (by omega) (by rw[Q];exact N);have Z:=Ab G;have R:((s[k].toNat:Int)==92)=true:=by simp;omega
     clear G Q I N;go_wp2_with fail
     go_roundg (gk-2)
     case measure=>omega
     case rel=>exact⟨k+2,by omega,by omega,by omega,by go_num,by show _=_;rw[Aa X,Aa Z],rfl⟩
    ·have G:=R18.cutQ_else J (by omega) (by rw[Q];exact I) (by rw[Q];exact N);have Z:=Ab G;have R:((s[k].toNat:Int)==92)=false:=by simp;omega
     clear G Q I N;go_wp2_with fail
     go_roundg (gk-1)
     case measure=>omega
     case rel=>exact⟨k+1,by omega,by omega,by omega,by go_num,by show _=_;rw[Aa X,Aa Z],rfl⟩
  ·have D:P18.cut s.data.toList=(0,3):=by rw[Aa HC,Aa X,R18.cutQ_past (by rw[←Aa HZ];omega)]
   have HF:=Ab D;clear D;go_wp2_with fail
   go_ret2
   rw[Aa HF];exact⟨Fy rfl rfl,rfl⟩
theorem Ww(s:ByteArray)(w:World)(h:s.size≤100000) :
  Calls Tryz.prog 116 #[.string s] w fun e w'=>e=.returned (.tuple #[.int .i64 (P18.cut s.data.toList).1,.int .i64 (P18.cut s.data.toList).2])∧w'=w:=by
 by_cases hp:0<s.size
 ·by_cases hq:s[0].toNat=34
  ·exact Ye s w h hp hq
  ·exact Yu s w h hp hq
 ·have hl:s.data.toList=[]:=qU (by rw[←zP];omega);have hne:s.toList.isEmpty=true:=by rw[Lib.toList_data,hl];rfl
  rw[hl];clear hl;go_enter Tryz.func116,Tryz.ntmps116
  go_wp2_with fail
  go_ret2
  exact⟨rfl,rfl⟩
namespace R18
open P18
theorem put_len(l:List UInt8):(P18.put l).length≤2+4*l.length:=by
 unfold P18.put;split
 ·omega
 ·unfold quote
  have:∀t:List UInt8,(t.flatMap quoteOne).length≤4*t.length:=by
   intro t
   induction t with
   |nil=>simp
   |cons c t ih=>rw[List.flatMap_cons,qH,qE];have:=quoteOne_len c;omega
  have:=this l;rw[qE,qH];simp only[qE,qP];omega
end R18
end Go.Proofs.YtnjokdbblmlhhaaGreatDoor
namespace Go.Proofs
def Tryz.laysNm216_ren:Go.Shelf.Ren:=⟨fun|16=>85|n=>n,fun|24=>23|9=>9|4=>4|n=>n,fun|n=>n⟩
theorem Tryz.laysNm216:Go.Proofs.Lays2.n16 Tryz.prog Tryz.laysNm216_ren:={
 mixed:=by kernel_rfl
 f16:=Tryz.func85.trans (congrArg some (by kernel_rfl))
 t4:=Tryz.underlying4
 a4:=Tryz.isAgg4
 z4:=Tryz.sizeOf4
 v4:=Tryz.zeroValue4
 t9:=Tryz.underlying9
 a9:=Tryz.isAgg9
 z9:=Tryz.sizeOf9
 v9:=Tryz.zeroValue9
 t24:=Tryz.underlying23
 a24:=Tryz.isAgg23
 z24:=Tryz.sizeOf23
 v24:=Tryz.zeroValue23
 i9:=by kernel_rfl }
open Go.RowKit Go.Lib in
theorem Tryz.slices_Clone_string(b D n c:Nat)(zs:List ByteArray)(w:World)(hz:n≤zs.length)(G:n*16≤140737488355328)(hc:∀j,j<zs.length→w.cell? ⟨b,D+j,none⟩=some (.string (zs.getD j ByteArray.empty))) :
  Calls Tryz.prog 85 #[.slice (some ⟨b,D,none⟩) n c] w fun e w'=>∃v',e=.returned v'∧w'.ownsRow w.heap.size 9 1 v' n ((zs.take n).map (Value.string))∧v'≠.slice none 0 0∧Below w.heap.size w w':=Any.slices_Clone_string Tryz.laysNm216 b D n c zs w hz G hc
open Go.RowKit Go.Lib in
theorem Tryz.slices_Clone_string_nil(n c:Nat)(w:World) :
  Calls Tryz.prog 85 #[.slice none n c] w fun e w'=>e=.returned (.slice none 0 0)∧w'=w:=Any.slices_Clone_string_nil Tryz.laysNm216 n c w
open Go.RowKit Go.Lib in
theorem Tryz.slices_Clone_string_zero(a:Addr)(c:Nat)(w:World) :
  Calls Tryz.prog 85 #[.slice (some a) 0 c] w fun e w'=>∃v',e=.returned v'∧w'.ownsRow w.heap.size 9 1 v' 0 []∧v'≠.slice none 0 0∧Below w.heap.size w w':=Any.slices_Clone_string_zero Tryz.laysNm216 a c w
end Go.Proofs

/- PARSE: an expression's tokens, joined by single blanks, are the same expression, or have the same error: the tied card of ParseTokens, without a condition of its own. Texts of this proof folded into one: S3 S4 S5 L6t LawParseTokens. -/
import Derived.Shelf.Strings.Builder1
import Derived.Shelf.Strings.Builder2
import Derived.Shelf.Strings.OnBuilder
import Derived.Shelf.Small.Utf8
import Derived.Shelf.Small.Strs
import Derived.Shelf.Strconv.Itoa0
import Derived.Shelf.Strconv.Itoa1
import Derived.Shelf.LaysM
import Derived.Shelf.Strconv.Itoa2
import Derived.Shelf.Strconv.Itoa3
import Derived.Shelf.Strconv.ParseIntEmpty
import Derived.Shelf.Strconv.Clone
import Derived.Shelf.Strconv.SyntaxError
import Derived.Shelf.LaysC
import Derived.Shelf.Strconv.ToError
import Derived.Shelf.Strconv.Lower
import Derived.Shelf.Strconv.ParseUint10
import Derived.Shelf.Strconv.ParseUint10Empty
import Derived.Shelf.Strconv.ParseUint10Any
import Derived.Shelf.Strconv.ParseInt10
import Derived.Shelf.Strconv.RangeError
import Derived.Shelf.Strconv.ToErrorRange
import Derived.Shelf.Strconv.ParseUintEmpty
import Derived.Shelf.Strconv.ParseUint10b64
import Derived.Shelf.Strconv.ParseUint10b32
import Derived.Shelf.Strconv.ParseUint10b16
import Derived.Shelf.Strconv.ParseUint10b8
import Derived.Shelf.Strconv.ParseUint10At
import Derived.Shelf.Strconv.ParseInt10At64
import Derived.Shelf.Strconv.ParseInt10At32
import Derived.Shelf.Strconv.ParseInt10At16
import Derived.Shelf.Strconv.ParseInt10At8
import Derived.Shelf.Strconv.ParseInt10All
import Derived.Shelf.Strconv.ParseIntPublic10
import Derived.Shelf.Strings.Search1
import Derived.Shelf.Strings.Runes
import Derived.Test.YtmdjdcnabbapgaaGreatDoorProg
import Derived.Test.YtmdjdcnabbapgaaGreatDoorW6
import Derived.Lib.AtoiErrMem
import Derived.Test.YtmdjdcnabbapgaaGreatDoorTie
import Derived.LaidLaws
import Derived.LaidOnce
import Derived.Lay
import Derived.Stop.LaidErr
import Derived.JoinedCond
import Derived.Deep.DeepHandedRow
import Derived.Test.YtmdjdcnabbapgaaGreatDoorW21
import Derived.Test.YtmdjdcnabbapgaaGreatDoorCards
import Derived.WalkKit
import Derived.ProofKit
import Derived.OpenShut
import Derived.ShutString
import Derived.ChangeOld
import Derived.Below
import Derived.SizedLaws
import Derived.Lib.LaidTab
import Derived.SevenTiedAt
section
/-
  PARSE: the shelf's contracts at this program (written by the shelf's tools lay-shelf, lay-plain; cut down by trimshelf.py)
-/
namespace Go.Proofs
open Go.Shelf
def Tryz.lays156_ren:Go.Shelf.Ren:=⟨fun|156=>43|165=>85|166=>86|169=>87|240=>153|241=>154|276=>223|277=>224|n=>n,fun|31=>22|9=>9|3=>3|4=>4|0=>0|20=>20|72=>119|76=>121|70=>116|37=>117|75=>112|127=>172|164=>229|5=>5|80=>123|n=>n,fun|n=>n⟩
theorem Tryz.lays156:Go.Proofs.Lays.n156 Tryz.prog Tryz.lays156_ren:={
 mixed:=by kernel_rfl
 f156:=Tryz.func43.trans (congrArg some (by kernel_rfl))
 f165:=Tryz.func85.trans (congrArg some (by kernel_rfl))
 f166:=Tryz.func86.trans (congrArg some (by kernel_rfl))
 f169:=Tryz.func87.trans (congrArg some (by kernel_rfl))
 f240:=Tryz.func153.trans (congrArg some (by kernel_rfl))
 f241:=Tryz.func154.trans (congrArg some (by kernel_rfl))
 f276:=Tryz.func223.trans (congrArg some (by kernel_rfl))
 f277:=Tryz.func224.trans (congrArg some (by kernel_rfl))
 t0:=Tryz.underlying0
 a0:=Tryz.isAgg0
 z0:=Tryz.sizeOf0
 v0:=Tryz.zeroValue0
 t3:=Tryz.underlying3
 a3:=Tryz.isAgg3
 z3:=Tryz.sizeOf3
 v3:=Tryz.zeroValue3
 t4:=Tryz.underlying4
 a4:=Tryz.isAgg4
 z4:=Tryz.sizeOf4
 v4:=Tryz.zeroValue4
 t9:=Tryz.underlying9
 a9:=Tryz.isAgg9
 z9:=Tryz.sizeOf9
 v9:=Tryz.zeroValue9
 t20:=Tryz.underlying20
 a20:=Tryz.isAgg20
 z20:=Tryz.sizeOf20
 v20:=Tryz.zeroValue20
 t31:=Tryz.underlying22
 a31:=Tryz.isAgg22
 z31:=Tryz.sizeOf22
 v31:=Tryz.zeroValue22
 t37:=Tryz.underlying117
 a37:=Tryz.isAgg117
 z37:=Tryz.sizeOf117
 v37:=Tryz.zeroValue117
 t70:=Tryz.underlying116
 a70:=Tryz.isAgg116
 z70:=Tryz.sizeOf116
 v70:=Tryz.zeroValue116
 t72:=Tryz.underlying119
 a72:=Tryz.isAgg119
 z72:=Tryz.sizeOf119
 v72:=Tryz.zeroValue119
 t75:=Tryz.underlying112
 a75:=Tryz.isAgg112
 z75:=Tryz.sizeOf112
 v75:=Tryz.zeroValue112
 t76:=Tryz.underlying121
 a76:=Tryz.isAgg121
 z76:=Tryz.sizeOf121
 v76:=Tryz.zeroValue121
 t127:=Tryz.underlying172
 a127:=Tryz.isAgg172
 z127:=Tryz.sizeOf172
 v127:=Tryz.zeroValue172
 t164:=Tryz.underlying229
 a164:=Tryz.isAgg229
 z164:=Tryz.sizeOf229
 v164:=Tryz.zeroValue229}
theorem Tryz.Builder_Extra_156:Builder.Extra Tryz.prog Tryz.lays156_ren:={
 sizeBuilder:=by kernel_rfl
 liesBuilder:=by kernel_rfl
 t5:=Tryz.underlying5
 a5:=Tryz.isAgg5
 z5:=Tryz.sizeOf5
 v5:=Tryz.zeroValue5
 infoByte:=by kernel_rfl
 cellsByte:=by kernel_rfl
 sizeByte:=by kernel_rfl
 neB5:=by decide}
open Go.RowKit in
theorem Tryz.strings_Join_none (a:Option Addr) (c:Nat) (sep:ByteArray) (w:World):
  Calls Tryz.prog 43 #[.slice a 0 c,.string sep] w fun e w'=>e=.returned (.string ⟨#[]⟩)∧w'=w:=Any.strings_Join_none Tryz.lays156 Tryz.Builder_Extra_156 a c sep w
open Go.RowKit in
theorem Tryz.strings_Join (bk o c:Nat) (xs:List ByteArray) (sep:ByteArray) (w:World) (hcells:∀(j:Nat) x,xs[j]? =some x→w.cell? ⟨bk,o+j,none⟩=some (.string x)) (hbk:bk<w.heap.size) (hN:xs.length≤140737488355328) (hcap:xs.length≤c) (hlen:(Lib.join (xs.map (·.data.toList)) sep.data.toList).length≤140737488355328):
  Calls Tryz.prog 43 #[.slice (some ⟨bk,o,none⟩) xs.length c,.string sep] w fun e w'=>e=.returned (.string ⟨(Lib.join (xs.map (·.data.toList)) sep.data.toList).toArray⟩)∧Below w.heap.size w w':=Any.strings_Join Tryz.lays156 Tryz.Builder_Extra_156 bk o c xs sep w hcells hbk hN hcap hlen
def Tryz.lays137_ren:Go.Shelf.Ren:=⟨fun|137=>219|217=>256|266=>268|n=>n,fun|9=>9|5=>5|3=>3|n=>n,fun|n=>n⟩
theorem Tryz.lays137:Go.Proofs.Lays.n137 Tryz.prog Tryz.lays137_ren:={
 mixed:=by kernel_rfl
 f137:=Tryz.func219.trans (congrArg some (by kernel_rfl))
 f217:=Tryz.func256.trans (congrArg some (by kernel_rfl))
 f266:=Tryz.func268.trans (congrArg some (by kernel_rfl))
 t3:=Tryz.underlying3
 a3:=Tryz.isAgg3
 z3:=Tryz.sizeOf3
 v3:=Tryz.zeroValue3
 t5:=Tryz.underlying5
 a5:=Tryz.isAgg5
 z5:=Tryz.sizeOf5
 v5:=Tryz.zeroValue5
 t9:=Tryz.underlying9
 a9:=Tryz.isAgg9
 z9:=Tryz.sizeOf9
 v9:=Tryz.zeroValue9}
open Go.RowKit in
theorem Tryz.strings_IndexByte (s:ByteArray) (c:Int) (w:World):
  Calls Tryz.prog 219 #[.string s,.int .u8 c] w fun e w'=>e=.returned (.int .i64 (Lib.indexByte s.data.toList c.toNat.toUInt8))∧w'=w:=Any.strings_IndexByte Tryz.lays137 s c w
def Tryz.laysC174_ren:Go.Shelf.Ren:=⟨fun|174=>82|247=>150|245=>151|287=>214|279=>215|280=>216|281=>217|282=>218|321=>251|322=>252|316=>253|171=>255|205=>254|243=>267|246=>278|283=>284|284=>285|285=>286|286=>287|129=>289|317=>288|318=>290|319=>291|320=>292|337=>293|338=>294|n=>n,fun|9=>9|3=>3|2=>2|75=>112|85=>113|4=>4|167=>217|5=>5|53=>218|175=>219|46=>221|168=>222|37=>117|0=>0|210=>247|21=>21|127=>172|145=>260|143=>258|171=>271|173=>274|212=>277|51=>278|20=>20|213=>279|232=>282|233=>283|80=>123|n=>n,fun|15=>0|16=>1|17=>3|18=>4|19=>5|n=>n⟩
theorem Tryz.laysC174:Go.Proofs.LaysC.n174 Tryz.prog Tryz.laysC174_ren:={
 mixed:=by kernel_rfl
 f129:=Tryz.func289.trans (congrArg some (by kernel_rfl))
 f171:=Tryz.func255.trans (congrArg some (by kernel_rfl))
 f174:=Tryz.func82.trans (congrArg some (by kernel_rfl))
 f205:=Tryz.func254.trans (congrArg some (by kernel_rfl))
 f243:=Tryz.func267.trans (congrArg some (by kernel_rfl))
 f245:=Tryz.func151.trans (congrArg some (by kernel_rfl))
 f246:=Tryz.func278.trans (congrArg some (by kernel_rfl))
 f247:=Tryz.func150.trans (congrArg some (by kernel_rfl))
 f279:=Tryz.func215.trans (congrArg some (by kernel_rfl))
 f280:=Tryz.func216.trans (congrArg some (by kernel_rfl))
 f281:=Tryz.func217.trans (congrArg some (by kernel_rfl))
 f282:=Tryz.func218.trans (congrArg some (by kernel_rfl))
 f283:=Tryz.func284.trans (congrArg some (by kernel_rfl))
 f284:=Tryz.func285.trans (congrArg some (by kernel_rfl))
 f285:=Tryz.func286.trans (congrArg some (by kernel_rfl))
 f286:=Tryz.func287.trans (congrArg some (by kernel_rfl))
 f287:=Tryz.func214.trans (congrArg some (by kernel_rfl))
 f316:=Tryz.func253.trans (congrArg some (by kernel_rfl))
 f317:=Tryz.func288.trans (congrArg some (by kernel_rfl))
 f318:=Tryz.func290.trans (congrArg some (by kernel_rfl))
 f319:=Tryz.func291.trans (congrArg some (by kernel_rfl))
 f320:=Tryz.func292.trans (congrArg some (by kernel_rfl))
 f321:=Tryz.func251.trans (congrArg some (by kernel_rfl))
 f322:=Tryz.func252.trans (congrArg some (by kernel_rfl))
 f337:=Tryz.func293.trans (congrArg some (by kernel_rfl))
 f338:=Tryz.func294.trans (congrArg some (by kernel_rfl))
 t0:=Tryz.underlying0
 a0:=Tryz.isAgg0
 z0:=Tryz.sizeOf0
 v0:=Tryz.zeroValue0
 t2:=Tryz.underlying2
 a2:=Tryz.isAgg2
 z2:=Tryz.sizeOf2
 v2:=Tryz.zeroValue2
 t3:=Tryz.underlying3
 a3:=Tryz.isAgg3
 z3:=Tryz.sizeOf3
 v3:=Tryz.zeroValue3
 t4:=Tryz.underlying4
 a4:=Tryz.isAgg4
 z4:=Tryz.sizeOf4
 v4:=Tryz.zeroValue4
 t5:=Tryz.underlying5
 a5:=Tryz.isAgg5
 z5:=Tryz.sizeOf5
 v5:=Tryz.zeroValue5
 t9:=Tryz.underlying9
 a9:=Tryz.isAgg9
 z9:=Tryz.sizeOf9
 v9:=Tryz.zeroValue9
 t20:=Tryz.underlying20
 a20:=Tryz.isAgg20
 z20:=Tryz.sizeOf20
 v20:=Tryz.zeroValue20
 t21:=Tryz.underlying21
 a21:=Tryz.isAgg21
 z21:=Tryz.sizeOf21
 v21:=Tryz.zeroValue21
 t37:=Tryz.underlying117
 a37:=Tryz.isAgg117
 z37:=Tryz.sizeOf117
 v37:=Tryz.zeroValue117
 t46:=Tryz.underlying221
 a46:=Tryz.isAgg221
 z46:=Tryz.sizeOf221
 v46:=Tryz.zeroValue221
 t51:=Tryz.underlying278
 a51:=Tryz.isAgg278
 z51:=Tryz.sizeOf278
 v51:=Tryz.zeroValue278
 t53:=Tryz.underlying218
 a53:=Tryz.isAgg218
 z53:=Tryz.sizeOf218
 v53:=Tryz.zeroValue218
 t75:=Tryz.underlying112
 a75:=Tryz.isAgg112
 z75:=Tryz.sizeOf112
 v75:=Tryz.zeroValue112
 t85:=Tryz.underlying113
 a85:=Tryz.isAgg113
 z85:=Tryz.sizeOf113
 v85:=Tryz.zeroValue113
 t127:=Tryz.underlying172
 a127:=Tryz.isAgg172
 z127:=Tryz.sizeOf172
 v127:=Tryz.zeroValue172
 t143:=Tryz.underlying258
 a143:=Tryz.isAgg258
 z143:=Tryz.sizeOf258
 v143:=Tryz.zeroValue258
 t145:=Tryz.underlying260
 a145:=Tryz.isAgg260
 z145:=Tryz.sizeOf260
 v145:=Tryz.zeroValue260
 t167:=Tryz.underlying217
 a167:=Tryz.isAgg217
 z167:=Tryz.sizeOf217
 v167:=Tryz.zeroValue217
 t168:=Tryz.underlying222
 a168:=Tryz.isAgg222
 z168:=Tryz.sizeOf222
 v168:=Tryz.zeroValue222
 t171:=Tryz.underlying271
 a171:=Tryz.isAgg271
 z171:=Tryz.sizeOf271
 v171:=Tryz.zeroValue271
 t173:=Tryz.underlying274
 a173:=Tryz.isAgg274
 z173:=Tryz.sizeOf274
 v173:=Tryz.zeroValue274
 t175:=Tryz.underlying219
 a175:=Tryz.isAgg219
 z175:=Tryz.sizeOf219
 v175:=Tryz.zeroValue219
 t210:=Tryz.underlying247
 a210:=Tryz.isAgg247
 z210:=Tryz.sizeOf247
 v210:=Tryz.zeroValue247
 t212:=Tryz.underlying277
 a212:=Tryz.isAgg277
 z212:=Tryz.sizeOf277
 v212:=Tryz.zeroValue277
 t213:=Tryz.underlying279
 a213:=Tryz.isAgg279
 z213:=Tryz.sizeOf279
 t232:=Tryz.underlying282
 a232:=Tryz.isAgg282
 z232:=Tryz.sizeOf282
 v232:=Tryz.zeroValue282
 t233:=Tryz.underlying283
 a233:=Tryz.isAgg283
 z233:=Tryz.sizeOf283
 v233:=Tryz.zeroValue283
 g15:=by kernel_rfl
 g16:=by kernel_rfl
 g17:=by kernel_rfl
 g18:=by kernel_rfl
 g19:=by kernel_rfl
 t80:=Tryz.underlying123
 a80:=Tryz.isAgg123
 z80:=Tryz.sizeOf123
 v80:=Tryz.zeroValue123
 i0:=by kernel_rfl
 i2:=by kernel_rfl
 i3:=by kernel_rfl
 i4:=by kernel_rfl
 i5:=by kernel_rfl
 i9:=by kernel_rfl
 i20:=by kernel_rfl
 i21:=by kernel_rfl
 i37:=by kernel_rfl
 i46:=by kernel_rfl
 i51:=by kernel_rfl
 i53:=by kernel_rfl
 i75:=by kernel_rfl
 i80:=by kernel_rfl
 i85:=by kernel_rfl
 i127:=by kernel_rfl
 i143:=by kernel_rfl
 i145:=by kernel_rfl
 i167:=by kernel_rfl
 i168:=by kernel_rfl
 i171:=by kernel_rfl
 i173:=by kernel_rfl
 i175:=by kernel_rfl
 i210:=by kernel_rfl
 i212:=by kernel_rfl
 i232:=by kernel_rfl
 i233:=by kernel_rfl
 m15:=by kernel_rfl
 m16:=by kernel_rfl
 m17:=by kernel_rfl
 m18:=by kernel_rfl
 m19:=by kernel_rfl
 c0:=by kernel_rfl
 c2:=by kernel_rfl
 c3:=by kernel_rfl
 c4:=by kernel_rfl
 c5:=by kernel_rfl
 c9:=by kernel_rfl
 c20:=by kernel_rfl
 c21:=by kernel_rfl
 c37:=by kernel_rfl
 c46:=by kernel_rfl
 c51:=by kernel_rfl
 c53:=by kernel_rfl
 c75:=by kernel_rfl
 c80:=by kernel_rfl
 c85:=by kernel_rfl
 c127:=by kernel_rfl
 c143:=by kernel_rfl
 c145:=by kernel_rfl
 c167:=by kernel_rfl
 c168:=by kernel_rfl
 c171:=by kernel_rfl
 c173:=by kernel_rfl
 c175:=by kernel_rfl
 c210:=by kernel_rfl
 c212:=by kernel_rfl
 c213:=by kernel_rfl
 c232:=by kernel_rfl
 c233:=by kernel_rfl}
open Go.RowKit in
theorem Tryz.strconv_ParseInt_10_at64_ok (s:ByteArray) (hmax:s.size≤9223372036854775806) (v:Int) (h:Lib.parseIntB 64 s.data.toList=.ok v) (w:World):
  Calls Tryz.prog 82 #[.string s,.int .i64 10,.int .i64 64] w fun e w'=>e=.returned (.tuple #[.int .i64 v,.nilIface])∧(w'=w∨∃t,w'=Lib.bytesWorld w 5 t):=Any.strconv_ParseInt_10_at64_ok Tryz.laysC174 s hmax v h w
open Go.RowKit in
theorem Tryz.strconv_ParseInt_10_at64_range (s:ByteArray) (hlim:s.size≤281474976710656) (h:Lib.parseIntB 64 s.data.toList=.range) (ev:Value) (w:World) (hv:w.cell? ⟨1,0,none⟩=some ev) (hev:ev=.nilIface∨∃te pe,ev=.iface te pe):
  Calls Tryz.prog 82 #[.string s,.int .i64 10,.int .i64 64] w fun e w'=>∃N,e=.returned (.tuple #[.int .i64 (Lib.intSat 64 s.data.toList),.iface 222 (.pointer (some ⟨N,0,none⟩))])∧w.heap.size≤N∧w'.heap[N]? =some (.cells #[.string ⟨#[80,97,114,115,101,73,110,116]⟩,.string s,ev] 247 (0,0))∧Below w.heap.size w w':=Any.strconv_ParseInt_10_at64_range Tryz.laysC174 s hlim h ev w hv hev
end Go.Proofs
end

section
/- LEX: the contracts of the library's functions hold (the shelf's, laid in S3) -/
open Go Go.Eng
namespace Go.Proofs
open Go.RowKit
set_option linter.unusedVariables false
def s1L (W:World):Prop:=∃te pe,W.cell? ⟨1,0,none⟩=some (.iface te pe)
theorem j2I {W:World} (hW:s1L W):PSound Pg (k1V W) gx where
 sound:=by
  intro f e hf args v hv I μ w cargs hI himm hr
  unfold gx extL at hf
  simp only[List.lookup] at hf
  split at hf
  ·rename_i hb
   injection hf with hf;subst hf
   rw[beq_iff_eq] at hb;subst hb
   unfold g1S at hv
   split at hv
   ·rename_i s c
    split at hv
    ·injection hv with hv;subst hv
     cases hr with
     |val v1 h1=>cases h1 with
      |val v2 h2=>cases h2;exact(Tryz.strings_IndexByte s c w).mono fun e' w' ⟨h1,h2⟩=>⟨_,h1,.val _ .nil,(fun _ _ h=>by cases h),(by rw[h2];exact Below.refl _ _)⟩
    ·cases hv
   ·cases hv
  ·split at hf
   ·rename_i hb
    injection hf with hf;subst hf
    rw[beq_iff_eq] at hb;subst hb
    unfold e1P at hv
    split at hv
    ·rename_i s
     split at hv
     ·rename_i hsz
      cases hr with
      |val v1 h1=>cases h1 with
       |val v2 h2=>cases h2 with
        |val v3 h3=>
         cases h3
         split at hv
         ·rename_i n hp
          injection hv with hv;subst hv
          refine(Tryz.strconv_ParseInt_10_at64_ok s (by omega) n hp w).mono ?_
          rintro e' w' ⟨h1,h2⟩
          refine⟨_,h1,.tuple _ _ (.val _ (.val _ .nil)) .nil,(fun _ _ h=>by cases h),?_⟩
          rcases h2 with rfl|⟨t,rfl⟩
          ·exact Below.refl _ _
          ·exact Lib.bytesWorld_below w 5 t
         ·rename_i hp
          injection hv with hv;subst hv
          obtain⟨te,pe,hc⟩:=hW
          have hc2:=(himm 1 0 _ (hI 1 0 _ (x1p hc rfl))).1
          refine(Tryz.strconv_ParseInt_10_at64_range s hsz hp _ w hc2 (.inr ⟨_,_,rfl⟩)).mono ?_
          rintro e' w' ⟨N,h1,h2,h3,h4⟩
          exact⟨_,h1,.tuple _ _ (.val _ (.iface _ _ _ (.any _ .nil) .nil)) .nil,(fun _ _ h=>by cases h),h4⟩
         ·cases hv
     ·cases hv
    ·cases hv
   ·split at hf
    ·rename_i hb
     injection hf with hf;subst hf
     rw[beq_iff_eq] at hb;subst hb
     unfold u1u at hv
     split at hv
     ·rename_i sz rows own sep
      split at hv
      ·rename_i xs hx
       split at hv
       ·rename_i hl
        injection hv with hv;subst hv
        cases cargs with
        |nil=>cases hr
        |cons c1 cargs=>
         obtain⟨r1,r2⟩:=hr.uncons
         cases r2 with
         |val v2 h2=>
          cases h2
          have hnil:rows=[]→xs=[]:=fun h=>by subst h;simp [j1C] at hx;exact hx
          rcases slice_inv r1 with ⟨h,rfl⟩|⟨b,o,cap,ws,rfl,hra,hrl,hln,hcap,_⟩|⟨h,a,cap,rfl,_⟩
          ·have:=hnil h
           subst this
           exact(Tryz.strings_Join_none none 0 sep w).mono fun e' w' ⟨h1,h2⟩=>⟨_,h1,.val _ .nil,(fun _ _ h=>by cases h),(by rw[h2];exact Below.refl _ _)⟩
          ·obtain⟨q1,q2⟩:=n1x hx hrl
           cases xs with
           |nil=>
            have:rows.length=0:=by rw[q2];rfl
            rw[this]
            exact(Tryz.strings_Join_none _ cap sep w).mono fun e' w' ⟨h1,h2⟩=>⟨_,h1,.val _ .nil,(fun _ _ h=>by cases h),(by rw[h2];exact Below.refl _ _)⟩
           |cons x xs=>
            have hcell:∀(j:Nat) y,(x::xs)[j]? =some y→w.cell? ⟨b,o+j,none⟩=some (.string y):=fun j y hy=>(himm _ _ _ (hra j (.string y) (by rw[q1,List.getElem?_map,hy];rfl))).1
            have hbk:b<w.heap.size:=himm.lt (hra 0 (.string x) (by rw[q1];rfl))
            rw[q2]
            exact(Tryz.strings_Join b o cap (x::xs) sep w hcell hbk hl.1 (by omega) hl.2).mono fun e' w' ⟨h1,h2⟩=>⟨_,h1,.val _ .nil,(fun _ _ h=>by cases h),h2⟩
          ·have:=hnil h
           subst this
           exact(Tryz.strings_Join_none _ cap sep w).mono fun e' w' ⟨h1,h2⟩=>⟨_,h1,.val _ .nil,(fun _ _ h=>by cases h),(by rw[h2];exact Below.refl _ _)⟩
       ·cases hv
      ·cases hv
     ·cases hv
    ·cases hf
 ren:=by
  intro f e hf args v hv ρ
  unfold gx extL at hf
  simp only[List.lookup] at hf
  split at hf
  ·injection hf with hf;subst hf
   unfold g1S at hv
   split at hv
   ·split at hv
    ·rename_i hc
     injection hv with hv;subst hv
     simp only[List.map_cons,List.map_nil,AV.ren,g1S,if_pos hc]
    ·cases hv
   ·cases hv
  ·split at hf
   ·injection hf with hf;subst hf
    unfold e1P at hv
    split at hv
    ·split at hv
     ·rename_i hsz
      simp only[List.map_cons,List.map_nil,AV.ren,e1P,if_pos hsz]
      split at hv
      ·rename_i hp;injection hv with hv;subst hv;rfl
      ·rename_i hp;injection hv with hv;subst hv;rfl
      ·cases hv
     ·cases hv
    ·cases hv
   ·split at hf
    ·injection hf with hf;subst hf
     unfold u1u at hv
     split at hv
     ·split at hv
      ·rename_i xs hx
       split at hv
       ·rename_i hl
        injection hv with hv;subst hv
        simp only[List.map_cons,List.map_nil,AV.ren,u1u,m1L ρ hx,if_pos hl]
       ·cases hv
      ·cases hv
     ·cases hv
    ·cases hf
theorem w1E {i:Nat} (h:((Pg.funcs[i]?).bind (·.body)).isSome=true):∃(fn:Func) (c:Code),Pg.funcs[i]? =some fn∧fn.body=some c:=by
 cases hf:Pg.funcs[i]? with
 |none=>rw[hf] at h;cases h
 |some fn=>
  rw[hf] at h
  cases hb:fn.body with
  |none=>simp [hb] at h
  |some c=>exact⟨fn,c,rfl,hb⟩
theorem extb:∀(f:FuncId) e,gx.ext f=some e→∃(fn:Func) (c:Code),Pg.funcs[f]? =some fn∧fn.body=some c:=by
 intro f e h
 unfold PExt.ext gx extL at h
 simp only[List.lookup] at h
 split at h
 ·rename_i hb;rw[beq_iff_eq] at hb;subst hb;exact w1E (by kernel_rfl)
 ·split at h
  ·rename_i hb;rw[beq_iff_eq] at hb;subst hb;exact w1E (by kernel_rfl)
  ·split at h
   ·rename_i hb;rw[beq_iff_eq] at hb;subst hb;exact w1E (by kernel_rfl)
   ·cases h
theorem hng0:(Pg.funcs.toList.all fun fn=> !(fn.name== "runtime.NumGoroutine"))=true:=by kernel_rfl
theorem mix0:Pg.follows .mixedOrders=true:=by kernel_rfl
theorem c2L {f:FuncId} {args:List AV} {W:World} {cargs:Array Value} {v:Value} {m:RM} {H':Heap} (hW:s1L W) (h:evp f args .none []=some ⟨.ret (.val v),m,H'⟩)
  (hr:RepL (k1V W) [] cargs.toList args) (hno:∀a∈args,NoOwn a):Calls Pg f cargs W fun e W'=>e=.returned v∧Below W.heap.size W W':=
 e2l mix0 hng0 h (j2I hW).ext extb (LeM.refl _) hr hno
end Go.Proofs
end

section
/- PARSE: what the rows' list of variables gives (strconv.ErrRange holds an error); a start that meets it -/
set_option linter.unusedVariables false
namespace Go.Proofs
open Go.RowKit Go.ChangeShapes
theorem gErr:Tryz.prog.globalNamed "strconv.ErrRange" =some 1:=by kernel_rfl
theorem f2x:(Tryz.prog.globals[1]?).map (·.type)=some 112:=by kernel_rfl
theorem j2J: "*" ++ "errors.errorString" = "*errors.errorString" :=by decide
theorem j2K (u:TypeId) (h:Tryz.prog.typeName? 3 u=some "*errors.errorString"):u=258:=
 typeName_ptr_named (nm:= "errors.errorString") (by rw[j2J];kernel_rfl) (by kernel_rfl) (by decide) u (by rw[j2J];exact h)
theorem w1F {W:World} (h:laidMetH Tryz.prog YtmdjdcnabbapgaaGreatDoor.Rows.parseTysRow.laid W):s1L W:=by
 rw[MakeChecks.laidMetH_plain _ _ _ (by kernel_rfl)] at h
 have h3:=h.tail.tail.tail
 obtain⟨a,s,hv,_,_,_⟩:=laid_sentinel h3 gErr f2x Tryz.underlying112 j2K Tryz.underlying258 Tryz.underlying260 rfl rfl Tryz.underlying9 (by kernel_rfl) (by kernel_rfl)
 exact⟨_,_,by simpa using World.var?_cell gErr hv 0⟩
noncomputable def start (os:Os):World:=World.laidAll Tryz.prog os YtmdjdcnabbapgaaGreatDoor.Rows.parseTysRow.laid
theorem f2y (os:Os):(start os).os=os:=World.laidAll_os _ _ _
set_option maxRecDepth 100000 in
theorem v1j (os:Os) (args:Array Value):((start os).forCall (fun _ _=>0) ⟨#[],args,[]⟩).Shaped Tryz.prog:=World.shaped_of_ZipB (by kernel_rfl) (by kernel_rfl)
set_option maxRecDepth 100000 in
theorem z1D (os:Os) (args:Array Value):laidMetH Tryz.prog YtmdjdcnabbapgaaGreatDoor.Rows.parseTysRow.laid ((start os).forCall (fun _ _=>0) ⟨#[],args,[]⟩).memory:=by
 rw[MakeChecks.laidMetH_plain _ _ _ (by kernel_rfl)]
 exact laidMet_laidAll _ (by kernel_rfl) (by kernel_rfl)
end Go.Proofs
end

section
/- PARSE: what the model does at a call of the law ParseTokens -/
open Go Go.Eng Go.Lx
namespace Go.Proofs
open Go.RowKit
set_option linter.unusedVariables false
theorem w1h {l:List AV} (h:∀a∈l,∃v,a=.val v):∀a∈l,NoOwn a:=fun a ha _ _ e=>by
 obtain⟨v,hv⟩:=h a ha
 rw[hv] at e;cases e
theorem n1X (a0:ByteArray) (w:World) (w0:a0.size≤140737488351232) (hT:s1L w):Calls Pg c1I #[.string a0] w fun e w'=>e=.returned (.bool true)∧Below w.heap.size w w':=
 c2L hT (q1r a0) (.val _ .nil) (w1h (by simp [vS]))
end Go.Proofs
end

section
/- THE LAW ParseTokens ('ParseTokensCardSaid'): its card, out of the walk. -/
namespace Go.Proofs.YtmdjdcnabbapgaaGreatDoor.parseTokens
open Go.ChangeShapes Go.WideShapes Go.ChangeAt Go.RowKit
open Go.ChangeMaps (open_string shut_string)
set_option linter.unusedVariables false
set_option linter.unusedSimpArgs false
theorem own:ownKnob Tryz.prog.godebug=none:=by kernel_rfl
set_option maxRecDepth 100000 in
theorem contract (H:Type) (enc:TypeId×Value→H) (W:World) (base:Nat) (args:Array Value) (ds gs:List (DataW H)) (before:List MemPlace)
  (hval0:∀(j:Nat) t v,Tryz.f8.params[j]? =some t→args[j]? =some v→Value.okWide Tryz.prog W .any base t v)
  (hW:DataW.Whole enc Tryz.prog Tryz.f8.params.toList Rows.parseTokensSpec.vars false W args.toList ds gs before)
  (hsz0:(DataW.weightsEach Tryz.prog (Tryz.f8.params.toList++((OpenSpec.ofChange Rows.parseTokensSpec).bare.plain.varTypes Tryz.prog)) (ds++gs)).all (· ≤reachBytes)=true)
  (hL:laidMetH Tryz.prog Rows.parseTokensRow.laid W):
  Calls Tryz.prog 8 args W fun e W'=>∃v,e=.returned v∧Rows.parseTokensSpec.post enc Tryz.prog Tryz.f8 false true false false W args v W':=by
 have hsz:(DataW.weightsEach Tryz.prog (Tryz.f8.params.toList++Rows.parseTokensSpec.plain.varTypes Tryz.prog) (ds++gs)).all (· ≤reachBytes)=true:=hsz0
 have hval:∀(j:Nat) t v,Tryz.f8.params[j]? =some t→args[j]? =some v→Value.okWide Tryz.prog W .any base t v:=hval0
 have hW':=hW
 obtain⟨p,q,hA0,hV,rfl,hfz,hnd⟩:=hW
 have hA:DataW.TrodAll enc Tryz.prog W 0 (fun _=>true) true Tryz.f8.params.toList args.toList ds p:=hA0
 rw[Tryz.params8] at hA hval hsz
 obtain⟨v0,vs0,d0,ds0,p0,q0,hargs,rfl,rfl,h0,r0⟩:=trodAll_cons hA
 obtain⟨rfl,rfl,rfl⟩:=trodAll_nil r0
 obtain rfl:args= #[v0]:=by cases args;simp_all
 obtain⟨rfl,rfl⟩:=trodVars_none hV
 obtain⟨a0,rfl,rfl,rfl,y0⟩:=open_string Tryz.underlying9 (hval 0 9 v0 rfl rfl) h0
 have w0:a0.size≤140737488351232:=by
  have z:=sized_string hsz (j:=0) (t:=9) rfl rfl
  rw[Array.length_toList] at z
  exact z
 clear hA0 hval0 hsz0 hsz
 have hT:=Go.Proofs.w1F hL
 clear hL
 refine(Go.Proofs.n1X a0 W w0 hT).mono fun e W' ⟨he,bel⟩=>?_
 subst he
 exact⟨_,rfl,_,_,_,[],_,[],hW',trodAll_mk1 (shut_bool Tryz.underlying4 _),(trodAll_cons_mk (shut_string Tryz.underlying9 y0) trodAll_mk0),rfl,bel.frame _,fun h=>by cases h⟩
theorem reads (os:Os) {H:Type} (enc:TypeId×Value→H):∃places,DataW.whole enc Tryz.prog ((start os).forCall (fun _ _=>0) ⟨#[],#[.string ByteArray.empty],[]⟩).memory Tryz.f8.params.toList Rows.parseTokensSpec.vars false #[(.string ByteArray.empty:Value)].toList 8=some ([.lit (.string [])],[],places):=
 ⟨[],by kernel_rfl⟩
set_option maxRecDepth 100000 in
theorem okB (os:Os):Input.okWideB Tryz.prog ((start os).forCall (fun _ _=>0) ⟨#[],#[.string ByteArray.empty],[]⟩) 8 ⟨#[],#[.string ByteArray.empty],[]⟩=true:=by kernel_rfl
set_option maxRecDepth 100000 in
theorem lifted (os:Os) (started:os.Started) (H:Type) (enc:TypeId×Value→H) (F:Stop.Interp):
  ReturnsInHanded {} Tryz.checked os 8 .any ((OpenSpec.ofChange Rows.parseTokensSpec).preRow enc Tryz.prog Tryz.f8 Rows.parseTokensRow.domain false Rows.parseTokensRow.laid) (((OpenSpec.ofChange Rows.parseTokensSpec).at F).post enc Tryz.prog Tryz.f8 false true false false):=by
 obtain⟨places,hx⟩:=reads os enc
 refine returnsInHanded_of_row (C:=Tryz.checked) (s:=(OpenSpec.ofChange Rows.parseTokensSpec)) own started (by kernel_rfl) Tryz.func8
  ⟨start os,fun _ _=>0,⟨#[],#[.string ByteArray.empty],[]⟩,f2y _,v1j os _,
   (Input.okWide_of_okWideB (base:=0) (okB os)).1,(Input.okWide_of_okWideB (okB os)).2,
   OpenSpec.preRow_of_cond 8 hx (by kernel_rfl) (fun k hk=>by cases hk) (by kernel_rfl) (z1D os _),
   by simp only[Assume.holds];exact⟨by simp,by simp,fun _=>Modest.zero,by simp,by simp⟩⟩ ?_
 intro W base args ds gs before hval hW _ hcond hsz hL _ _
 exact contract H enc W base args ds gs before hval hW hsz hL
theorem said:Rows.ParseTokensSaid:=
 OpenClaim.holds_of_cond 8 Tryz.f8 rfl rfl rfl rfl rfl rfl rfl ⟨rfl,rfl,rfl,rfl,rfl⟩ rfl rfl rfl rfl rfl (by kernel_rfl) Tryz.func8 (by kernel_rfl)
  (of_decide_eq_true (by kernel_rfl)) (by unfold Func.isWrapper;first|(rw[if_pos (by decide+kernel)];kernel_rfl)|(rw[if_neg (by decide+kernel)];exact⟨rfl,rfl⟩))
  (fun os started H enc _ F=>by rw[OpenClaim.pre_eq_preRow];exact lifted os started H enc F)
theorem plain (f:FuncId) (fn:Func) (hf:Tryz.pinned.checked.prog.funcNamed "wafer/waferlaw05.ParseTokens" =some f) (hfn:Tryz.pinned.checked.prog.funcs[f]? =some fn):
  true=Tryz.pinned.checked.prog.looks []∧∀(j:Nat) t,fn.params[j]? =some t→Tryz.pinned.checked.prog.wantsStandIn t=false:=by
 obtain rfl:f=8:=Option.some.inj ((show Tryz.prog.funcNamed "wafer/waferlaw05.ParseTokens" =some 8 by kernel_rfl).symm.trans hf) |>.symm
 obtain rfl:fn=Tryz.f8:=(Option.some.inj (Tryz.func8.symm.trans hfn)).symm
 refine⟨by kernel_rfl,fun j t ht=>?_⟩
 rw[Tryz.params8] at ht
 have hm:t∈[9]:=by simpa using Array.mem_of_getElem? ht
 have hall:([9].all fun u=> !Tryz.prog.wantsStandIn u)=true:=by kernel_rfl
 exact(show Tryz.prog.wantsStandIn t=false by simpa using List.all_eq_true.1 hall t hm)
theorem card:Rows.ParseTokensCardSaid:=
 Claim7.holds_tied_plain_at .later [] _ _ _ _ said (fun _ h=>by cases h) (by kernel_rfl) (fun _ h=>by cases h) parseTokens_row_tie rfl ⟨rfl,rfl⟩ (by kernel_rfl) rfl plain (by kernel_rfl)
end Go.Proofs.YtmdjdcnabbapgaaGreatDoor.parseTokens
namespace Go.Proofs.YtmdjdcnabbapgaaGreatDoor
theorem parseTokens_holds:Rows.ParseTokensCardSaid:=parseTokens.card
#print axioms parseTokens_holds
end Go.Proofs.YtmdjdcnabbapgaaGreatDoor
end

import Derived.Shelf.Strings.Builder1
import Derived.Shelf.Strings.Builder2
import Derived.Shelf.Strings.OnBuilder
import Derived.Shelf.Small.Wraps
import Derived.Shelf.Strings.BuilderF
import Derived.Shelf.Strings.BuilderK
import Derived.Shelf.Strings.Builder2Cap
import Derived.Shelf.Strings.Cut
import Derived.Shelf.Strings.Count
import Derived.Shelf.Strings.Shaped
import Derived.Shelf.Strings.Split
import Derived.Shelf.Unicode.Latin
import Derived.Shelf.Bits.Mul64
import Derived.Shelf.Strings.Repeat
import Derived.Shelf.Unicode.DecodeSlow
import Derived.Shelf.Unicode.DecodeAny
import Derived.Shelf.Unicode.Is16White
import Derived.Shelf.Unicode.IsSpaceAny
import Derived.Shelf.Strings.FieldsFuncAny
import Derived.Shelf.Unicode.Is16Any
import Derived.Shelf.Unicode.Is32Any
import Derived.Shelf.Unicode.ExclAny
import Derived.Shelf.Strings.BuilderCap
import Derived.Shelf.SlicesE.Clone
import Derived.Test.YtmkomefmgcpnbaaGreatDoorMg10
set_option linter.all false
set_option maxHeartbeats 12800000
set_option maxRecDepth 100000
namespace Go.Proofs
open Go renaming Addr→Bi,Calls→As,TypeInfo→Ij,Value→h,World→Y,callFunc→GS,maxLen→Bk
open Go.Ending renaming returned→Ak
open Go.IntKind renaming i64→Ad
open Go.Lib renaming countB→Hf,goFieldsP→Eb,hasSuffix→Ge,join→EC,trimSuffix→EV
open Go.Next renaming enter→I8
open Go.Obj renaming cells→Ab
open Go.Proofs.SlLaysE0 renaming n41→ID
open Go.Proofs.Tryz renaming func144→IC,isAgg0→Du,isAgg161→Fc,isAgg20→GH,isAgg21→GI,isAgg23→E2,isAgg24→Ep,isAgg271→Ea,isAgg34→Fy,isAgg3→Cy,isAgg4→Cm,isAgg5→DC,isAgg9→Cz,sizeOf0→C9,sizeOf161→EP,sizeOf163→Jh,sizeOf187→Ji,sizeOf20→Gc,sizeOf21→Gb,sizeOf223→Jb,sizeOf23→ED,sizeOf24→DR,sizeOf271→DV,sizeOf34→Fb,sizeOf386→Jj,sizeOf3→Cg,sizeOf4→Cc,sizeOf5→Da,sizeOf9→Ci,underlying0→Cf,underlying124→Et,underlying161→DU,underlying163→Hb,underlying187→Fo,underlying20→EK,underlying21→EL,underlying223→G6,underlying23→B8,underlying24→Ch,underlying271→Db,underlying306→Fs,underlying34→Bu,underlying37→Dn,underlying386→He,underlying3→Bq,underlying4→By,underlying5→B2,underlying9→A8,zeroValue0→Cp,zeroValue161→D5,zeroValue163→Hm,zeroValue187→Hr,zeroValue20→E1,zeroValue21→E0,zeroValue223→Hn,zeroValue23→DT,zeroValue24→Dx,zeroValue271→Dk,zeroValue34→Ef,zeroValue386→Hv,zeroValue3→BI,zeroValue4→BH,zeroValue5→CI,zeroValue9→BO
open Go.Result renaming ok→Ez
open Go.RowKit renaming Below→IL
open Go.Shelf renaming Ren→B6
open Go.Value renaming bool→AE,func→ER,int→V,slice→J,string→Aa,tuple→AZ
open Go.Shelf
def VI:B6:=⟨fun|156=>100|165=>136|166=>104|169=>63|240=>144|241=>180|276=>190|277=>228|n=>n,fun|31=>34|9=>9|3=>3|4=>4|0=>0|20=>20|72=>126|76=>184|70=>124|37=>23|75=>163|127=>187|164=>306|5=>5|80=>80|n=>n,fun|n=>n⟩
theorem Y0:Go.Proofs.Lays.n156 Tryz.prog VI:={
 mixed:=by kernel_rfl
 f156:=Tryz.func100.trans (congrArg some (by kernel_rfl))
 f165:=Tryz.func136.trans (congrArg some (by kernel_rfl))
 f166:=Tryz.func104.trans (congrArg some (by kernel_rfl))
 f169:=Tryz.func63.trans (congrArg some (by kernel_rfl))
 f240:=IC.trans (congrArg some (by kernel_rfl))
 f241:=Tryz.func180.trans (congrArg some (by kernel_rfl))
 f276:=Tryz.func190.trans (congrArg some (by kernel_rfl))
 f277:=Tryz.func228.trans (congrArg some (by kernel_rfl))
 t0:=Cf
 a0:=Du
 z0:=C9
 v0:=Cp
 t3:=Bq
 a3:=Cy
 z3:=Cg
 v3:=BI
 t4:=By
 a4:=Cm
 z4:=Cc
 v4:=BH
 t9:=A8
 a9:=Cz
 z9:=Ci
 v9:=BO
 t20:=EK
 a20:=GH
 z20:=Gc
 v20:=E1
 t31:=Bu
 a31:=Fy
 z31:=Fb
 v31:=Ef
 t37:=B8
 a37:=E2
 z37:=ED
 v37:=DT
 t70:=Et
 a70:=Tryz.isAgg124
 z70:=Tryz.sizeOf124
 v70:=Tryz.zeroValue124
 t72:=Tryz.underlying126
 a72:=Tryz.isAgg126
 z72:=Tryz.sizeOf126
 v72:=Tryz.zeroValue126
 t75:=Hb
 a75:=Tryz.isAgg163
 z75:=Jh
 v75:=Hm
 t76:=Tryz.underlying184
 a76:=Tryz.isAgg184
 z76:=Tryz.sizeOf184
 v76:=Tryz.zeroValue184
 t127:=Fo
 a127:=Tryz.isAgg187
 z127:=Ji
 v127:=Hr
 t164:=Fs
 a164:=Tryz.isAgg306
 z164:=Tryz.sizeOf306
 v164:=Tryz.zeroValue306}
theorem Rn:Builder.Extra Tryz.prog VI:={
 sizeBuilder:=by kernel_rfl
 liesBuilder:=by kernel_rfl
 t5:=B2
 a5:=DC
 z5:=Da
 v5:=CI
 infoByte:=by kernel_rfl
 cellsByte:=by kernel_rfl
 sizeByte:=by kernel_rfl
 neB5:=by decide}
open Go.RowKit in
theorem Tryz.strings_Join_none (a:Option Bi)(c:Nat)(sep:ByteArray)(w:Y):
 As Tryz.prog 100 #[J a 0 c,Aa sep] w fun e w'=>e=Ak (Aa ⟨#[]⟩)∧w'=w:=Any.strings_Join_none Y0 Rn a c sep w
open Go.RowKit in
theorem Tryz.strings_Join (bk o c:Nat)(xs:List ByteArray)(sep:ByteArray)(w:Y)(a:∀ (j:Nat) x,xs[j]?= some x→w.cell? ⟨bk,o+j,none⟩=some (Aa x))(b:bk<w.heap.size)(d:xs.length≤140737488355328)(f:xs.length≤c)(hlen:(EC (xs.map (·.data.toList)) sep.data.toList).length≤140737488355328):
 As Tryz.prog 100 #[J (some ⟨bk,o,none⟩) xs.length c,Aa sep] w fun e w'=>e=Ak (Aa ⟨(EC (xs.map (·.data.toList)) sep.data.toList).toArray⟩)∧IL w.heap.size w w':=Any.strings_Join Y0 Rn bk o c xs sep w a b d f hlen
def aT:B6:=⟨fun|104=>202|211=>241|207=>260|n=>n,fun|9=>9|4=>4|24=>316|3=>3|n=>n,fun|n=>n⟩
theorem nP:Go.Proofs.Lays.n104 Tryz.prog aT:={
 mixed:=by kernel_rfl
 f104:=Tryz.func202.trans (congrArg some (by kernel_rfl))
 f207:=Tryz.func260.trans (congrArg some (by kernel_rfl))
 f211:=Tryz.func241.trans (congrArg some (by kernel_rfl))
 t3:=Bq
 a3:=Cy
 z3:=Cg
 v3:=BI
 t4:=By
 a4:=Cm
 z4:=Cc
 v4:=BH
 t9:=A8
 a9:=Cz
 z9:=Ci
 v9:=BO
 t24:=Tryz.underlying316
 a24:=Tryz.isAgg316
 z24:=Tryz.sizeOf316
 v24:=Tryz.zeroValue316}
open Go.RowKit in
theorem Tryz.strings_CutSuffix (s p:ByteArray)(w:Y)(a:s.size≤9223372036854775807):
 As Tryz.prog 202 #[Aa s,Aa p] w fun e w'=>e=Ak (AZ #[Aa ⟨(EV s.data.toList p.data.toList).toArray⟩,AE (Ge s.data.toList p.data.toList)])∧w'=w:=Any.strings_CutSuffix nP s p w a
def aU:B6:=⟨fun|145=>200|220=>240|219=>239|217=>128|225=>257|224=>258|267=>259|266=>172|314=>270|n=>n,fun|9=>9|4=>4|59=>314|3=>3|5=>5|46=>271|146=>386|51=>24|n=>n,fun|1=>7|n=>n⟩
theorem nQ:Go.Proofs.Lays.n145 Tryz.prog aU:={
 mixed:=by kernel_rfl
 f145:=Tryz.func200.trans (congrArg some (by kernel_rfl))
 f217:=Tryz.func128.trans (congrArg some (by kernel_rfl))
 f219:=Tryz.func239.trans (congrArg some (by kernel_rfl))
 f220:=Tryz.func240.trans (congrArg some (by kernel_rfl))
 f224:=Tryz.func258.trans (congrArg some (by kernel_rfl))
 f225:=Tryz.func257.trans (congrArg some (by kernel_rfl))
 f266:=Tryz.func172.trans (congrArg some (by kernel_rfl))
 f267:=Tryz.func259.trans (congrArg some (by kernel_rfl))
 f314:=Tryz.func270.trans (congrArg some (by kernel_rfl))
 t3:=Bq
 a3:=Cy
 z3:=Cg
 v3:=BI
 t4:=By
 a4:=Cm
 z4:=Cc
 v4:=BH
 t5:=B2
 a5:=DC
 z5:=Da
 v5:=CI
 t9:=A8
 a9:=Cz
 z9:=Ci
 v9:=BO
 t46:=Db
 a46:=Ea
 z46:=DV
 v46:=Dk
 t51:=Ch
 a51:=Ep
 z51:=DR
 v51:=Dx
 t59:=Tryz.underlying314
 a59:=Tryz.isAgg314
 z59:=Tryz.sizeOf314
 v59:=Tryz.zeroValue314
 t146:=He
 a146:=Tryz.isAgg386
 z146:=Jj
 v146:=Hv
 g1:=by kernel_rfl}
open Go.RowKit Go.Lib in
theorem Tryz.strings_Cut (s sep:ByteArray)(m:Int)(w:Y)(a:s.size<4294967281)(b:w.cell? ⟨7,0,none⟩=some (V Ad m)):
 As Tryz.prog 200 #[Aa s,Aa sep] w fun e w'=>e=Ak (AZ #[Aa ⟨(Lib.cut s.data.toList sep.data.toList).1.toArray⟩,Aa ⟨(Lib.cut s.data.toList sep.data.toList).2.1.toArray⟩,AE (Lib.cut s.data.toList sep.data.toList).2.2])∧∃ n,w'=w.drewN n:=Any.strings_Cut nQ s sep m w a b
def aV:B6:=⟨fun|146=>109|221=>147|268=>197|138=>198|143=>199|195=>236|197=>237|218=>238|219=>239|260=>256|217=>128|225=>257|224=>258|267=>259|266=>172|314=>270|n=>n,fun|9=>9|31=>34|3=>3|4=>4|0=>0|105=>363|21=>21|5=>5|46=>271|119=>221|139=>404|138=>403|146=>386|51=>24|n=>n,fun|1=>7|3=>10|4=>11|n=>n⟩
theorem nR:Go.Proofs.Lays.n146 Tryz.prog aV:={
 mixed:=by kernel_rfl
 f138:=Tryz.func198.trans (congrArg some (by kernel_rfl))
 f143:=Tryz.func199.trans (congrArg some (by kernel_rfl))
 f146:=Tryz.func109.trans (congrArg some (by kernel_rfl))
 f195:=Tryz.func236.trans (congrArg some (by kernel_rfl))
 f197:=Tryz.func237.trans (congrArg some (by kernel_rfl))
 f217:=Tryz.func128.trans (congrArg some (by kernel_rfl))
 f218:=Tryz.func238.trans (congrArg some (by kernel_rfl))
 f219:=Tryz.func239.trans (congrArg some (by kernel_rfl))
 f221:=Tryz.func147.trans (congrArg some (by kernel_rfl))
 f224:=Tryz.func258.trans (congrArg some (by kernel_rfl))
 f225:=Tryz.func257.trans (congrArg some (by kernel_rfl))
 f260:=Tryz.func256.trans (congrArg some (by kernel_rfl))
 f266:=Tryz.func172.trans (congrArg some (by kernel_rfl))
 f267:=Tryz.func259.trans (congrArg some (by kernel_rfl))
 f268:=Tryz.func197.trans (congrArg some (by kernel_rfl))
 f314:=Tryz.func270.trans (congrArg some (by kernel_rfl))
 t0:=Cf
 a0:=Du
 z0:=C9
 v0:=Cp
 t3:=Bq
 a3:=Cy
 z3:=Cg
 v3:=BI
 t4:=By
 a4:=Cm
 z4:=Cc
 v4:=BH
 t5:=B2
 a5:=DC
 z5:=Da
 v5:=CI
 t9:=A8
 a9:=Cz
 z9:=Ci
 v9:=BO
 t21:=EL
 a21:=GI
 z21:=Gb
 v21:=E0
 t31:=Bu
 a31:=Fy
 z31:=Fb
 v31:=Ef
 t46:=Db
 a46:=Ea
 z46:=DV
 v46:=Dk
 t51:=Ch
 a51:=Ep
 z51:=DR
 v51:=Dx
 t105:=Tryz.underlying363
 a105:=Tryz.isAgg363
 z105:=Tryz.sizeOf363
 v105:=Tryz.zeroValue363
 t119:=Tryz.underlying221
 a119:=Tryz.isAgg221
 z119:=Tryz.sizeOf221
 t138:=Tryz.underlying403
 a138:=Tryz.isAgg403
 z138:=Tryz.sizeOf403
 v138:=Tryz.zeroValue403
 t139:=Tryz.underlying404
 a139:=Tryz.isAgg404
 z139:=Tryz.sizeOf404
 v139:=Tryz.zeroValue404
 t146:=He
 a146:=Tryz.isAgg386
 z146:=Jj
 v146:=Hv
 g1:=by kernel_rfl
 g3:=by kernel_rfl
 g4:=by kernel_rfl}
open Go.RowKit Go.Lib in
theorem Tryz.strings_Split (s sep:ByteArray)(m:Int)(w:Y)(a:s.size<4294967281)(b:w.cell? ⟨7,0,none⟩=some (V Ad m))(h1:1≤sep.size):
 As Tryz.prog 109 #[Aa s,Aa sep] w fun e w'=>
  e=Ak (J (some ⟨w.heap.size,0,none⟩) (Hf s sep+1) (Hf s sep+1))∧w'=w.alloc (Ab ((Lib.splitB sep 0 (Hf s sep) s).map Aa).toArray 9):=Any.strings_Split nR (by kernel_rfl) s sep m w a b h1
def VJ:B6:=⟨fun|105=>179|212=>226|99=>84|165=>136|166=>104|170=>227|169=>63|263=>253|264=>254|206=>127|240=>144|241=>180|276=>190|277=>228|n=>n,fun|9=>9|3=>3|4=>4|20=>20|0=>0|46=>271|109=>357|5=>5|72=>126|76=>184|51=>24|146=>386|53=>161|148=>388|70=>124|37=>23|75=>163|127=>187|164=>306|80=>80|n=>n,fun|n=>n⟩
theorem nS:Go.Proofs.Lays.n105 Tryz.prog VJ:={
 mixed:=by kernel_rfl
 f99:=Tryz.func84.trans (congrArg some (by kernel_rfl))
 f105:=Tryz.func179.trans (congrArg some (by kernel_rfl))
 f165:=Tryz.func136.trans (congrArg some (by kernel_rfl))
 f166:=Tryz.func104.trans (congrArg some (by kernel_rfl))
 f169:=Tryz.func63.trans (congrArg some (by kernel_rfl))
 f170:=Tryz.func227.trans (congrArg some (by kernel_rfl))
 f206:=Tryz.func127.trans (congrArg some (by kernel_rfl))
 f212:=Tryz.func226.trans (congrArg some (by kernel_rfl))
 f240:=IC.trans (congrArg some (by kernel_rfl))
 f241:=Tryz.func180.trans (congrArg some (by kernel_rfl))
 f263:=Tryz.func253.trans (congrArg some (by kernel_rfl))
 f264:=Tryz.func254.trans (congrArg some (by kernel_rfl))
 f276:=Tryz.func190.trans (congrArg some (by kernel_rfl))
 f277:=Tryz.func228.trans (congrArg some (by kernel_rfl))
 t0:=Cf
 a0:=Du
 z0:=C9
 v0:=Cp
 t3:=Bq
 a3:=Cy
 z3:=Cg
 v3:=BI
 t4:=By
 a4:=Cm
 z4:=Cc
 v4:=BH
 t5:=B2
 a5:=DC
 z5:=Da
 v5:=CI
 t9:=A8
 a9:=Cz
 z9:=Ci
 v9:=BO
 t20:=EK
 a20:=GH
 z20:=Gc
 v20:=E1
 t37:=B8
 a37:=E2
 z37:=ED
 v37:=DT
 t46:=Db
 a46:=Ea
 z46:=DV
 v46:=Dk
 t51:=Ch
 a51:=Ep
 z51:=DR
 v51:=Dx
 t53:=DU
 a53:=Fc
 z53:=EP
 v53:=D5
 t70:=Et
 a70:=Tryz.isAgg124
 z70:=Tryz.sizeOf124
 v70:=Tryz.zeroValue124
 t72:=Tryz.underlying126
 a72:=Tryz.isAgg126
 z72:=Tryz.sizeOf126
 v72:=Tryz.zeroValue126
 t75:=Hb
 a75:=Tryz.isAgg163
 z75:=Jh
 v75:=Hm
 t76:=Tryz.underlying184
 a76:=Tryz.isAgg184
 z76:=Tryz.sizeOf184
 v76:=Tryz.zeroValue184
 t109:=Tryz.underlying357
 a109:=Tryz.isAgg357
 z109:=Tryz.sizeOf357
 v109:=Tryz.zeroValue357
 t127:=Fo
 a127:=Tryz.isAgg187
 z127:=Ji
 v127:=Hr
 t146:=He
 a146:=Tryz.isAgg386
 z146:=Jj
 v146:=Hv
 t148:=Tryz.underlying388
 a148:=Tryz.isAgg388
 z148:=Tryz.sizeOf388
 v148:=Tryz.zeroValue388
 t164:=Fs
 a164:=Tryz.isAgg306
 z164:=Tryz.sizeOf306
 v164:=Tryz.zeroValue306}
theorem V5:Builder.Extra Tryz.prog VJ:={
 sizeBuilder:=by kernel_rfl
 liesBuilder:=by kernel_rfl
 t5:=B2
 a5:=DC
 z5:=Da
 v5:=CI
 infoByte:=by kernel_rfl
 cellsByte:=by kernel_rfl
 sizeByte:=by kernel_rfl
 neB5:=by decide}
open Go.RowKit Go.Lib in
theorem Tryz.strings_Repeat (s:ByteArray)(c:Nat)(w:Y)(hc:c≤9223372036854775807)(hlen:s.size*c≤140737488355328):
 As Tryz.prog 179 #[Aa s,V Ad c] w fun e w'=>e=Ak (Aa ⟨(Lib.repeatL s.data.toList c).toArray⟩)∧IL w.heap.size w w':=Any.strings_Repeat nS V5 s c w hc hlen
def aW:B6:=⟨fun|229=>125|n=>n,fun|9=>9|40=>223|31=>34|152=>280|3=>3|0=>0|4=>4|21=>21|154=>282|n=>n,fun|n=>n⟩
theorem nT:Go.Proofs.Lays.n229 Tryz.prog aW:={
 mixed:=by kernel_rfl
 f229:=Tryz.func125.trans (congrArg some (by kernel_rfl))
 t0:=Cf
 a0:=Du
 z0:=C9
 v0:=Cp
 t3:=Bq
 a3:=Cy
 z3:=Cg
 v3:=BI
 t4:=By
 a4:=Cm
 z4:=Cc
 v4:=BH
 t9:=A8
 a9:=Cz
 z9:=Ci
 v9:=BO
 t21:=EL
 a21:=GI
 z21:=Gb
 v21:=E0
 t31:=Bu
 a31:=Fy
 z31:=Fb
 v31:=Ef
 t40:=G6
 a40:=Tryz.isAgg223
 z40:=Jb
 v40:=Hn
 t152:=Tryz.underlying280
 a152:=Tryz.isAgg280
 z152:=Tryz.sizeOf280
 v152:=Tryz.zeroValue280
 t154:=Tryz.underlying282
 a154:=Tryz.isAgg282
 z154:=Tryz.sizeOf282
 v154:=Tryz.zeroValue282}
open Go.RowKit Go.Lib in
theorem Tryz.strings_FieldsFunc (g:Nat)(lb:Array h)(a:∀ args w,(GS g args).run Tryz.prog w=Ez (I8 g args) w)(p:Nat→Bool)(s:ByteArray)(w:Y)(b:s.size≤4294967296)(c:PredAt Tryz.prog g lb encR p w):
 As Tryz.prog 125 #[Aa s,ER (.func g) #[] lb] w fun e w'=>∃ A,e=Ak (J (some ⟨A,0,none⟩) (Eb p s).length (Eb p s).length)∧w.heap.size≤A∧
  w'.ownsRow w.heap.size 9 1 (J (some ⟨A,0,none⟩) (Eb p s).length (Eb p s).length) (Eb p s).length ((Eb p s).map Aa)∧IL w.heap.size w w':=Any.strings_FieldsFunc nT g lb a p s w b c (by kernel_rfl) (by kernel_rfl)
def VY:B6:=⟨fun|41=>68|n=>n,fun|22=>37|23=>24|4=>4|n=>n,fun|n=>n⟩
theorem Td:ID Tryz.prog VY:={
 mixed:=by kernel_rfl
 f41:=⟨Tryz.f68.name,by decide,Tryz.func68.trans (congrArg some (by kernel_rfl))⟩
 t4:=By
 a4:=Cm
 z4:=Cc
 v4:=BH
 t22:=Dn
 a22:=Tryz.isAgg37
 z22:=Tryz.sizeOf37
 v22:=Tryz.zeroValue37}
open Go.RowKit Go.Lib in
theorem Tryz.slices_Clone (a:Ij)(z:h)(size bytes:Nat)(f:Tryz.prog.info? 24=some a)(g:a.zero=some z)(i:a.size=size)(k:a.bytes=bytes)(l:z.cells.size=size)(m:0<size)(z23:∀ w,(Go.sizeOf 24).run Tryz.prog w=Ez size w)(b off n c:Nat)(news:List h)(w:Y)(o:news.length=n*size)(p:n≤Bk)(q:n*bytes≤140737488355328)(hc:∀ j u,news[j]?= some u→w.cell? ⟨b,off+j,none⟩=some u)(h1:∀ u∈news,u.oneCell'=true):
 As Tryz.prog 68 #[J (some ⟨b,off,none⟩) n c] w fun e w'=>∃ d,e=Ak d∧w'.ownsRow w.heap.size 24 size d n news∧d≠J none 0 0∧IL w.heap.size w w':=AnyE.slices_Clone Td a z size bytes f g i k l m z23 b off n c news w o p q hc h1
open Go.RowKit Go.Lib in
theorem Tryz.slices_Clone_nil (n c:Nat)(w:Y):
 As Tryz.prog 68 #[J none n c] w fun e w'=>e=Ak (J none 0 0)∧w'=w:=AnyE.slices_Clone_nil Td n c w
end Go.Proofs
namespace Go.Proofs.YtmkomefmgcpnbaaGreatDoor
open Tryz Pg Go Go.Proofs Go.RowKit
open _root_.ByteArray renaming ext→DS
open Go renaming Addr→Bi,Calls→As,Ending→BX,World→Y,Act→CY,Deferred→GX,Edge→Ik,Exit→EY,Operand→CC,Oper→B5,Program→BR,TypeDesc→DK,TypeId→AK,Value→h,execOp→CS,heap_alloc2_new→Ay,heap_alloc2_old→AP,heap_alloc_new→Aj,setRow_heap→Bo,setRow_other→C7,yielded→BW,maxLen→Bk
open Go.Ending renaming returned→Ak
open Go.IntKind renaming u32→Af,u64→Jc,i64→Ad
open Go.Lib renaming hid→D,join→EC
open Go.Value renaming int→V,slice→J,string→Aa,agg→AN,bool→AE,pointer→Ae
open Go.World renaming block_lt_of_cell?→Bp,ownsRow_nil→CQ
open _root_.List renaming getElem?_map→Bh,length_map→AI,map_congr_left→Gz,map_map→GL,getElem?_eq_getElem→Al,getElem?_eq_none→C5,getElem_mem→F7,length_append→M,length_cons→Am,length_take→BD,map_append→Dv,map_take→EG,mem_cons→AH,mem_of_getElem?→AD,not_mem_nil→Ba,sizeOf_lt_of_mem→BQ,take_add_one→BB,take_of_length_le→DN
open Go.Act renaming put→Au
open Go.Exit renaming panic→EM
open Go.Instr renaming loadAt→Ir,sureAddr→GQ
open Go.Next renaming value→F5
open Go.Obj renaming cells→Ab
open Go.Op renaming load→IK
open Go.Operand renaming tmp→Eh
open Go.Proofs.Tryz renaming func181→E5,ntmps181→EF,underlying287→Ax,underlying34→Bu
open Go.Region renaming Mode→Gi,free→EO,noSelect→DH,ready→Bw,wanted→AQ
open Go.Result renaming andThen_ok→C3,ok→Ez
open Go.RowKit renaming Hid→AA
open Go.Sem renaming run_bind→Di,run_pure→D3
open Go.TypeDesc renaming array→DX,struct→DA
open _root_.Nat renaming beq→Az,eq_of_beq_eq_true→Ap,add_zero→Dp,ble→A6,blt_eq→Dm,blt→Be,le_of_ble_eq_true→Ai,le_refl→Aw,le_trans→AL,lt_or_ge→Dg,strongRecOn→D1,zero_add→BF,zero_le→Dd,zero_mul→FG
open _root_.Bool renaming and_eq_true→Ah,eq_iff_iff→Bl
open Go.Proofs renaming intOf→AX
open Go.Value.int renaming injEq→IW
open _root_.List.cons renaming injEq→Fg
open _root_.Or renaming inl→AO,inr→AB
open _root_.SizeOf renaming sizeOf→Aq
def Mi (w:Y)(s:Bs)(e:BX)(w':Y):Prop:=e=Ak (Aa (str s))∧Ext w w'
theorem Lg (a b:Bs):str a++str b=str (a++b):=by
 apply DS;rw [ByteArray.data_append];simp [str]
theorem Za (v:Nat)(w:Y)(d:v<4294967296)(a:Mg w):As prog 98 #[V Af v] w (Mi w (KN v)):=by
 have b:=D (VQ v w (by omega) a);have f:Jc.wrap (v:Int)=v:=by rw [IntKind.wrap_u64];omega
 go_enter func98,ntmps98;go_wp2_with (go_at_call 82;refine b.mono ?_;rintro e w' ⟨rfl,c⟩);go_ret;exact⟨rfl,c⟩
theorem gD:∀ (l:List Bs),EC l [44,32]=Jy l
 |[]=>rfl
 |[x]=>by simp [EC,Jy]
 |x::a::l=>by
  rw [Jy,←gD (a::l)]
  ·simp [EC]
  ·simp
theorem jF {l:List Bs}{A:Option Bi}{c:Nat}{w:Y}(g:Ol w A (Jw l))(hc:l.length≤c)(t:l.length≤1000000)(u:(Jy l).length≤1000000):
 As prog 100 #[J A l.length c,Aa ⟨#[44,32]⟩] w (Mi w (Jy l)):=by
 cases l with
 |nil=>
  refine(strings_Join_none A c ⟨#[44,32]⟩ w).mono ?_
  rintro e w' ⟨rfl,rfl⟩;exact⟨rfl,Ext.refl _⟩
 |cons x d=>
  have n:0<(Jw (x::d)).length:=by simp [Jw]
  obtain⟨b,o,p⟩:=g.base n;subst p;have h:((x::d).map str).map (fun s=>s.data.toList)=x::d:=by
   rw [GL];exact(Gz (fun s _=>L6 s)).trans (List.map_id _)
  have i:=gD (x::d);have k:∀ (j:Nat) f,((x::d).map str)[j]?= some f→w.cell? ⟨b,o+j,none⟩=some (Aa f):=by
   intro j f hy;obtain⟨a,q,hc⟩:=g j (Aa f) (by rw [Jw,Bh];rw [Bh]at hy;cases m:(x::d)[j]? with|none=>rw [m]at hy;cases hy|some s=>rw [m]at hy;cases hy;rfl);cases q;rw [MW]at hc;exact hc
  have r:b<w.heap.size:=by
   have:=k 0 (str x) rfl;exact Bp w _ this
  have:=strings_Join b o c ((x::d).map str) ⟨#[44,32]⟩ w k r (by rw [AI];omega) (by rw [AI];exact hc) (by rw [h,i];omega);rw [AI,h,i]at this;exact this
theorem Sz {P:BR}{w:Y}{o:B5}{a:CY}(b:AK)(x:CC)(c:o.op=IK b x)(g f:Nat)(e:a.eval x=Ae (some ⟨g,f,none⟩))(d:DK)(xs:List h)(j:∀ i u,xs[i]?= some u→w.cell? ⟨g,f+i,none⟩=some u)
 (k:P.underlying b=some d) (l:(match d with|DA _|DX _ _=>true|_=>false)=true) (m:(P.info? b).map (·.size)=some xs.length):(CS a.eval o).run P w=Ez (F5 (AN xs.toArray)) w:=by
 unfold CS;simp only [c,e,Ir,GQ,Di,D3,C3,RO g f b d xs j k l m]
section
variable {P:BR}{ops:Array B5}{Q:EY→CY→Y→Prop}{md:Gi}{S:Y→Prop}{F:List Nat}{n:Nat}{listed:Array Bool}{a:CY}{w:Y}
theorem Te {i:Nat}{d:Nat}{b:AK}{x:CC}{g f k:Nat}{e:DK}{xs:List h}{l:AK}{m:String}{o:Array Ik}{p:Option (Nat×Bool)}{q:Array h}{r:List GX}(s:S w)(t:P.underlying b=some e)(v:(P.info? b).map (·.size)=some k)(hc:∀ w,S w→∀ i u,xs[i]?= some u→w.cell? ⟨g,f+i,none⟩=some u)(j:JX P md ops Q S F n (listed.setIfInBounds i true) ⟨q,r⟩ w)(H:ops.size=i+(n+1):=by(simp only [List.size_toArray,List.length_cons,List.length_nil];rfl))(y:ops[i]?= some ⟨some d,IK b x,l,m,o,p⟩:=by rfl)
 (z:(DH ops&&EO md ops listed i&&(Bw md ops listed).contains i&&VN md ops F i)=true:=by kernel_rfl) (A:∀ c a w,Q (EM c) (a.put (some d) (AN xs.toArray)) w→Q (EM c) a w:=by exact fun _ _ _ j=>j)
 (B:AQ ⟨some d,IK b x,l,m,o,p⟩ (BW ops a.tmps)=true:=by rfl) (C:a.eval x=Ae (some ⟨g,f,none⟩):=by rfl) (D:(match e with|DA _|DX _ _=>true|_=>false)=true:=by rfl) (E:k=xs.length:=by rfl)
 (G:a.put (some d) (AN xs.toArray)=⟨q,r⟩:=by(simp only [Act.put,pA,pB,pC];rfl)):JX P md ops Q S F (n+1) listed a w:=
 KM i s j y z A B (fun w k=>Sz b x rfl g f C e xs (hc w k) t (by cases e<;>exact D) (E▸v)) G
end
def ExP (e:Ex):Prop:=∀ (U:Nat→Prop)(lv n m:Nat)(cs:List h)(w:Y),OV U w e cs→Mg w→P6 e lv n=some m→Wh e=true→(Kt e).length≤1000000→As prog 181 #[AN cs.toArray] w (Mi w (Kt e))
def yN9 (l:List Ex):Prop:=∀ (U:Nat→Prop)(lv n m:Nat)(v:h)(w:Y),Ju KE U w l v→Mg w→L9 l lv n=some m→Q8 l=true→l.length≤1000→(Jy (NC l)).length≤1000000→As prog 183 #[v] w (Mi w (Jy (NC l)))
def ys6 (e:Ex):Prop:=∀ (U:Nat→Prop)(lv n m:Nat)(b:Bool)(cs:List h)(w:Y),OV U w e cs→Mg w→P6 e lv n=some m→Wh e=true→(P5 e (Kt e) b).length≤1000000→As prog 230 #[AN cs.toArray,AE b] w (Mi w (P5 e (Kt e) b))
theorem S9 {U:Nat→Prop}{w w':Y}{e:Ex}{cs:List h}(a:OV U w e cs)(x:Ext w w'):OV U w' e cs:=UU (Gl (G:=fun _=>False) x) (fun _ _ q=>q) (fun _ q=>q) e cs a
theorem Ju.ext {α:Type}{K:Kind α}{U:Nat→Prop}{w w':Y}{l:List α}{v:h}(a:Ju K U w l v)(x:Ext w w'):Ju K U w' l v:=a.upd (Gl (G:=fun _=>False) x) (fun _ _ q=>q) (fun _ q=>q)
theorem yC0 {w:Y}{op num:Nat}{name:Bs}{A:Option Bi}{n c:Nat}(f:num<4294967296)(g:Mg w):
 As prog 181 #[AN #[V Ad 1,V Ad op,V Af num,Aa (str name),J A n c]] w (Mi w (KN num)):=by
 have h:=D (fun W (x:Ext w W)=>Za num W f (g.ext x));obtain⟨j,a,b,d⟩:=alw w (Ab #[V Ad 1,V Ad op,V Af num,Aa (str name),J A n c] 287);have k:=JA d 0;have l:=JA d 2;go_enter E5,EF;go_upto_region 1 with fail
 try rw [a]
 clear a;go_wp2_with fail;refine(h _ b).mono ?_
 rintro e m ⟨rfl,i⟩;go_wp2_with fail;go_ret;exact⟨rfl,b.trans i⟩
theorem zg0 {w:Y}{op num:Nat}{name:Bs}{A:Option Bi}{n c:Nat}:
 As prog 181 #[AN #[V Ad 2,V Ad op,V Af num,Aa (str name),J A n c]] w (Mi w name):=by
 obtain⟨e,a,d,b⟩:=alw w (Ab #[V Ad 2,V Ad op,V Af num,Aa (str name),J A n c] 287);have f:=JA b 0;have g:=JA b 3;go_enter E5,EF;go_upto_region 1 with fail
 try rw [a]
 clear a;go_wp2_with fail;go_ret;exact⟨rfl,d⟩
theorem yC1 {w:Y}{op num:Nat}{name:Bs}{A:Option Bi}{n c:Nat}:
 As prog 181 #[AN #[V Ad 5,V Ad op,V Af num,Aa (str name),J A n c]] w (Mi w [103,101,116]):=by
 obtain⟨e,a,b,d⟩:=alw w (Ab #[V Ad 5,V Ad op,V Af num,Aa (str name),J A n c] 287);have f:=JA d 0;go_enter E5,EF;go_upto_region 1 with fail
 try rw [a]
 clear a;go_wp2_with fail;go_ret;exact⟨rfl,b⟩
theorem zQ7 {w:Y}{op num:Nat}{name:Bs}{b o c:Nat}{s:Bs}{m n p:Nat}{q:Bs}{r:Option Bi}{t v:Nat}(y:AA (∀j u,([V Ad m,V Ad n,V Af p,Aa (str q),J r t v]:List h)[j]?= some u→w.cell? ⟨b,o+j,none⟩=some u))
 (z:AA (∀W,Ext w W→As prog 181 #[AN #[V Ad m,V Ad n,V Af p,Aa (str q),J r t v]] W (Mi W s))) (L:name.length≤1000000) (M:s.length≤1000000):
 As prog 181 #[AN #[V Ad 3,V Ad op,V Af num,Aa (str name),J (some ⟨b,o,none⟩) 1 c]] w (Mi w (name++91::(s++[93]))):=by
 obtain⟨f,A,g,i⟩:=alw w (Ab #[V Ad 3,V Ad op,V Af num,Aa (str name),J (some ⟨b,o,none⟩) 1 c] 287);have N:=JA i 0;have C:=JA i 3;have E:=JA i 4;have F:=D (fun j u k=>g.cell (y j u k));have G:=D (fun W (x:Ext f W)=>z W (g.trans x));clear y z;go_enter E5,EF;go_upto_region 1 with fail
 try rw [A]
 clear A;go_upto_region 7 with fail;refine JX.go (Ext f) [] ((Ext.refl f).drew) (fun a=>?_);refine JC a ?_
 refine JP a (fun w d=>Ext.cell d C) ?_
 refine Mq a ?_
 refine JC a ?_
 refine JP a (fun w d=>Ext.cell d E) ?_
 refine JC a ?_
 refine Te a Ax Ki (fun w d j u k=>Ext.cell d (F j u k)) ?_
 refine JM (fun K B=>?_);go_simp;refine(G _ (by assumption)).mono ?_
 rintro e O ⟨rfl,l⟩;have H:=D ((g.trans (by assumption)).trans l);have I:=Ext.trans (by assumption) l;clear l;refine B _ _ ?_ (fun a=>?_)
 ·exact I
 clear B K
 iterate 2 refine Mq a ?_
 refine JC a ?_
 refine JV ?_
 go_wp2_with fail;go_ret;refine⟨?_,H⟩;rw [Lg,Lg,Lg];simp
theorem zg1 {w:Y}{op num:Nat}{name:Bs}{A:Option Bi}{n c:Nat}{s:Bs}(g:AA (∀W,Ext w W→As prog 183 #[J A n c] W (Mi W s)))(q:name.length≤1000000)(r:s.length≤1000000):
 As prog 181 #[AN #[V Ad 4,V Ad op,V Af num,Aa (str name),J A n c]] w (Mi w (name++40::(s++[41]))):=by
 obtain⟨b,h,i,d⟩:=alw w (Ab #[V Ad 4,V Ad op,V Af num,Aa (str name),J A n c] 287);have t:=JA d 0;have m:=JA d 3;have o:=JA d 4;have p:=D (fun W (x:Ext b W)=>g W (i.trans x));clear g;go_enter E5,EF;go_upto_region 1 with fail
 try rw [h]
 clear h;go_upto_region 9 with fail;refine JX.go (Ext b) [] ((Ext.refl b).drew) (fun a=>?_);refine JC a ?_
 refine JP a (fun w f=>Ext.cell f m) ?_
 refine Mq a ?_
 refine JC a ?_
 refine JP a (fun w f=>Ext.cell f o) ?_
 refine JM (fun K j=>?_);go_simp;refine(p _ (by assumption)).mono ?_
 rintro e u ⟨rfl,k⟩;have l:=Ext.trans (by assumption) k;clear k;refine j _ _ ?_ (fun a=>?_)
 ·exact l
 clear j K
 iterate 2 refine Mq a ?_
 refine JC a ?_
 refine JV ?_
 go_wp2_with fail;go_ret;refine⟨?_,i.trans l⟩;rw [Lg,Lg,Lg];simp
theorem zQ8 {w:Y}{op num:Nat}{name:Bs}{b o c:Nat}{s z:Bs}{k l m:Nat}{n:Bs}{p:Option Bi}{q r:Nat}(y:AA (∀j u,([V Ad k,V Ad l,V Af m,Aa (str n),J p q r]:List h)[j]?= some u→w.cell? ⟨b,o+j,none⟩=some u))
 (A:AA (∀W,Ext w W→As prog 230 #[AN #[V Ad k,V Ad l,V Af m,Aa (str n),J p q r],AE true] W (Mi W s))) (B:AA (∀W,Ext w W→As prog 229 #[V Ad op] W (Mi W z))) (P:z.length≤1000000) (Q:s.length≤1000000):
 As prog 181 #[AN #[V Ad 6,V Ad op,V Af num,Aa (str name),J (some ⟨b,o,none⟩) 1 c]] w (Mi w (z++s)):=by
 obtain⟨g,C,i,t⟩:=alw w (Ab #[V Ad 6,V Ad op,V Af num,Aa (str name),J (some ⟨b,o,none⟩) 1 c] 287);have R:=JA t 0;have H:=JA t 1;have I:=JA t 4;have L:=D (fun j u v=>i.cell (y j u v));have M:=D (fun W (x:Ext g W)=>A W (i.trans x));have N:=D (fun W (x:Ext g W)=>B W (i.trans x));clear y A B;go_enter E5,EF;go_upto_region 1 with fail
 try rw [C]
 clear C;go_upto_region 13 with fail;refine JX.go (Ext g) [] ((Ext.refl g).drew) (fun a=>?_);refine JC a ?_
 refine JP a (fun w d=>Ext.cell d H) ?_
 refine KM 3 a ?_
 refine QM 4 a (fun w d=>Ext.cell d I) ?_
 refine KM 5 a ?_
 refine KM 6 a ?_ (hy:=by(intro w d;refine Sz 287 (Eh 48) ?_ b (o+0) ?_ _ [V Ad k,V Ad l,V Af m,Aa (str n),J p q r] (fun j u v=>Ext.cell d (L j u v)) Ax rfl Ki<;>rfl))
 refine JX.rd 2 (fun K f=>?_);go_simp;refine(N _ (by assumption)).mono ?_
 rintro e S ⟨rfl,E⟩;have O:=Ext.trans (by assumption) E;clear E;refine f _ _ ?_ (fun a=>?_)
 ·exact O
 clear f K;refine JM (fun K f=>?_);go_simp;refine(M _ (by assumption)).mono ?_
 rintro e T ⟨rfl,F⟩;have G:=Ext.trans (by assumption) F;clear F;refine f _ _ ?_ (fun a=>?_)
 ·exact G
 clear f K;refine Mq a ?_
 refine JC a ?_
 refine JV ?_
 go_wp2_with fail;go_ret;exact⟨by first|rfl|(rw [Lg];rfl),i.trans G⟩
theorem zg2 {w:Y}{op num:Nat}{name:Bs}{A:Option Bi}{n c:Nat}{s:Bs}(a:AA (∀W,Ext w W→As prog 181 #[AN #[V Ad 7,V Ad op,V Af num,Aa (str name),J A n c]] W (Mi W s)))(j:s.length≤1000000):
 As prog 230 #[AN #[V Ad 7,V Ad op,V Af num,Aa (str name),J A n c],AE true] w (Mi w (40::(s++[41]))):=by
 obtain⟨g,b,d,f⟩:=alw w (Ab #[V Ad 7,V Ad op,V Af num,Aa (str name),J A n c] 287);have k:=JA f 0;have h:=D (fun W (x:Ext g W)=>a W (d.trans x));clear a;go_enter func230,ntmps230;go_upto_region 1 with fail
 try rw [b]
 clear b;go_upto_region 2 with fail;go_wp2_with (refine LH rfl Ax rfl f Ki ?_);refine(h _ (Ext.refl _)).mono ?_
 rintro e l ⟨rfl,i⟩;go_wp2_with fail;go_ret;refine⟨?_,d.trans i⟩
 first
  |rfl
  |(rw [m,o,Lg,Lg];simp)
theorem zg3 {w:Y}{op num:Nat}{name:Bs}{A:Option Bi}{n c:Nat}{s:Bs}(a:AA (∀W,Ext w W→As prog 181 #[AN #[V Ad 7,V Ad op,V Af num,Aa (str name),J A n c]] W (Mi W s)))(j:s.length≤1000000):
 As prog 230 #[AN #[V Ad 7,V Ad op,V Af num,Aa (str name),J A n c],AE false] w (Mi w s):=by
 obtain⟨g,b,d,f⟩:=alw w (Ab #[V Ad 7,V Ad op,V Af num,Aa (str name),J A n c] 287);have k:=JA f 0;have h:=D (fun W (x:Ext g W)=>a W (d.trans x));clear a;go_enter func230,ntmps230;go_upto_region 1 with fail
 try rw [b]
 clear b;go_upto_region 3 with fail;go_wp2_with (refine LH rfl Ax rfl f Ki ?_);refine(h _ (Ext.refl _)).mono ?_
 rintro e l ⟨rfl,i⟩;go_wp2_with fail;go_ret;exact⟨by first|rfl|(rw [Lg,Lg];simp),d.trans i⟩
theorem yC2 {w:Y}{k op num:Nat}{name:Bs}{A:Option Bi}{n c:Nat}{s:Bs}{b:Bool}(h:k≠7)(a:AA (∀W,Ext w W→As prog 181 #[AN #[V Ad k,V Ad op,V Af num,Aa (str name),J A n c]] W (Mi W s)))(m:s.length≤1000000):
 As prog 230 #[AN #[V Ad k,V Ad op,V Af num,Aa (str name),J A n c],AE b] w (Mi w s):=by
 have o:((k:Int)==7)=false:=by simp;omega
 clear h;obtain⟨i,d,f,g⟩:=alw w (Ab #[V Ad k,V Ad op,V Af num,Aa (str name),J A n c] 287);have p:=JA g 0;have j:=D (fun W (x:Ext i W)=>a W (f.trans x));clear a;go_enter func230,ntmps230;go_upto_region 1 with fail
 try rw [d]
 clear d;go_upto_region 3 with fail;go_wp2_with (refine LH rfl Ax rfl g Ki ?_);refine(j _ (Ext.refl _)).mono ?_
 rintro e q ⟨rfl,l⟩;go_wp2_with fail;go_ret;exact⟨by first|rfl|(rw [Lg,Lg];simp),f.trans l⟩
theorem yZ6 {w:Y}{k op num:Nat}{name:Bs}{A:Option Bi}{n c:Nat}{s:Bs}{b:Bool}(a:AA (∀W,Ext w W→As prog 181 #[AN #[V Ad k,V Ad op,V Af num,Aa (str name),J A n c]] W (Mi W s)))(d:s.length≤1000000):
 As prog 230 #[AN #[V Ad k,V Ad op,V Af num,Aa (str name),J A n c],AE b] w (Mi w (if Az k 7&&b then 40::(s++[41])else s)):=by
 by_cases e:k=7
 ·subst e;cases b
  ·exact zg3 a d
  ·exact zg2 a d
 ·have f:Az k 7=false:=by
   cases g:Az k 7
   ·rfl
   ·exact absurd (Ap g) e
  rw [f];exact yC2 e a d
theorem yC3 {w:Y}{op num:Nat}{name:Bs}{b o c:Nat}{s1 N z:Bs}{i g k:Nat}{xs:Bs}{l:Option Bi}{m n:Nat}{q p r:Nat}{s:Bs}{t:Option Bi}{v y:Nat}
 (Q:AA (∀j u,([V Ad i,V Ad g,V Af k,Aa (str xs),J l m n]:List h)[j]?= some u→w.cell? ⟨b,o+j,none⟩=some u)) (R:AA (∀j u,([V Ad q,V Ad p,V Af r,Aa (str s),J t v y]:List h)[j]?= some u→w.cell? ⟨b,o+5+j,none⟩=some u))
 (S:AA (∀W,Ext w W→As prog 230 #[AN #[V Ad i,V Ad g,V Af k,Aa (str xs),J l m n],AE (decide (J5 g<J5 op))] W (Mi W s1)))
 (T:AA (∀W,Ext w W→As prog 230 #[AN #[V Ad q,V Ad p,V Af r,Aa (str s),J t v y],AE (decide (J5 p≤J5 op))] W (Mi W N)))
 (U:AA (∀W,Ext w W→As prog 229 #[V Ad op] W (Mi W z))) (h9:op≤21) (ha:g≤21) (hb:p≤21) (hx:z.length≤1000000) (hz:s1.length≤1000000) (x0:N.length≤1000000):
 As prog 181 #[AN #[V Ad 7,V Ad op,V Af num,Aa (str name),J (some ⟨b,o,none⟩) 2 c]] w (Mi w (s1++32::(z++32::N))):=by
 obtain⟨a,Z,G,O⟩:=alw w (Ab #[V Ad 7,V Ad op,V Af num,Aa (str name),J (some ⟨b,o,none⟩) 2 c] 287);have x1:=JA O.out 0;have hc:=JA O.out 1;have h0:=JA O.out 4;have hd:=D (fun j u F=>G.out.cell (Q.out j u F));have he:=D (fun j u F=>G.out.cell (R.out j u F));have h1:=D (fun W (x:Ext a W)=>S.out W (G.out.trans x));have h2:=D (fun W (x:Ext a W)=>T.out W (G.out.trans x));have hf:=D (fun W (x:Ext a W)=>U.out W (G.out.trans x));have h3:=D (fun W=>VF op W h9);have hg:=D (fun W=>VF g W ha);have hh:=D (fun W=>VF p W hb);obtain⟨x2,h4⟩:=JH (J5 op);rw [←h4]at h3 h1 h2;clear Q R S T U h4;go_enter E5,EF;go_upto_region 1 with fail
 try rw [Z]
 clear Z;go_upto_region 14 with fail;go_wp2_with fail;refine(h3.out _).mono ?_
 rintro e a ⟨rfl,rfl⟩;go_upto_region 15 with fail
 go_cut [4,5] (fun hi hj P=>∃ X I:Nat,hi=Ae (some ⟨X,0,none⟩)∧hj=Ae (some ⟨I,0,none⟩)∧AA (P.heap[X]?= some (Ab #[V Ad i,V Ad g,V Af k,Aa (str xs),J l m n] 287 (0,0)))∧AA (P.heap[I]?= some (Ab #[V Ad q,V Ad p,V Af r,Aa (str s),J t v y] 287 (0,0)))∧AA (Ext a P))
 case first=>
  refine JX.go (Ext a) [] ((Ext.refl a).drew) (fun d=>?_);refine JC d ?_
  refine JP d (fun w A=>Ext.cell A h0) ?_
  refine JC d ?_
  refine Te d Ax Ki (fun w A j u F=>Ext.cell A (hd.out j u F)) ?_
  refine JC d ?_
  refine JP d (fun w A=>Ext.cell A h0) ?_
  refine JC d ?_
  refine Te d Ax Ki (fun w A j u F=>Ext.cell A (he.out j u F)) ?_
  refine Nl (rs:=[8,9]) (by kernel_rfl) (by simp) ?_
  refine(Lm.cons (o:={dst:=some 4,op:=_,type:=_,pos:=_,after:=_,guard:=_}) rfl (fun K f=>?_) (Lm.cons (o:={dst:=some 5,op:=_,type:=_,pos:=_,after:=_,guard:=_}) rfl (fun K f=>?_) Lm.nil))
  ·go_simp;refine f.out _ _ (fun _=>?_) (fun L=>?_)
   ·exact Ext.alloc (by assumption) _
   have d:=L (by simp);clear f K L;refine JX.rd 9 (fun K f=>?_);go_simp;have M:=D (AP (a.drew) (Ab #[V Ad 0,V Ad 0,V Af 0,Aa ⟨#[]⟩,J none 0 0] 287) (Ab #[V Ad 0,V Ad 0,V Af 0,Aa ⟨#[]⟩,J none 0 0] 287));have B:=D (Ay (a.drew) (Ab #[V Ad 0,V Ad 0,V Af 0,Aa ⟨#[]⟩,J none 0 0] 287) (Ab #[V Ad 0,V Ad 0,V Af 0,Aa ⟨#[]⟩,J none 0 0] 287));refine f.out _ _ ?_ (fun d=>?_)
   ·exact Ext.alloc (by assumption) _
   clear f K
   try simp only [Au,pA,pB,pC]
   refine JX.rd 10 (fun K f=>?_);refine Ov rfl 287 _ _ rfl (a.heap.size) #[V Ad i,V Ad g,V Af k,Aa (str xs),J l m n] (by rfl) (by rfl) 287 #[V Ad 0,V Ad 0,V Af 0,Aa ⟨#[]⟩,J none 0 0] M.out Ki rfl (VG _ _ _ _ _ _ _) ?_
   have C:AA (((((a.alloc (Ab #[V Ad 0,V Ad 0,V Af 0,Aa ⟨#[]⟩,J none 0 0] 287)).alloc (Ab #[V Ad 0,V Ad 0,V Af 0,Aa ⟨#[]⟩,J none 0 0] 287)).drew.setRow (a.heap.size) #[V Ad i,V Ad g,V Af k,Aa (str xs),J l m n])).heap[a.heap.size]?= some (Ab #[V Ad i,V Ad g,V Af k,Aa (str xs),J l m n] 287 (0,0))):=D (Bo _ (a.heap.size) _ #[V Ad i,V Ad g,V Af k,Aa (str xs),J l m n] _ _ M.out);have B:AA (((((a.alloc (Ab #[V Ad 0,V Ad 0,V Af 0,Aa ⟨#[]⟩,J none 0 0] 287)).alloc (Ab #[V Ad 0,V Ad 0,V Af 0,Aa ⟨#[]⟩,J none 0 0] 287)).drew.setRow (a.heap.size) #[V Ad i,V Ad g,V Af k,Aa (str xs),J l m n])).heap[a.heap.size+1]?= some (Ab #[V Ad 0,V Ad 0,V Af 0,Aa ⟨#[]⟩,J none 0 0] 287 (0,0))):=D ((C7 _ (a.heap.size) (a.heap.size+1) #[V Ad i,V Ad g,V Af k,Aa (str xs),J l m n] (by omega)).trans B.out);refine f.out _ _ ?_ (fun d=>?_)
   ·exact Ext.setRow (by assumption) (by omega) _
   clear f K
   try simp only [Au,pA,pB,pC]
   refine JX.rd 11 (fun K f=>?_);refine Ov rfl 287 _ _ rfl (a.heap.size+1) #[V Ad q,V Ad p,V Af r,Aa (str s),J t v y] (by rfl) (by rfl) 287 #[V Ad 0,V Ad 0,V Af 0,Aa ⟨#[]⟩,J none 0 0] B.out Ki rfl (VG _ _ _ _ _ _ _) ?_
   have H:AA ((((((a.alloc (Ab #[V Ad 0,V Ad 0,V Af 0,Aa ⟨#[]⟩,J none 0 0] 287)).alloc (Ab #[V Ad 0,V Ad 0,V Af 0,Aa ⟨#[]⟩,J none 0 0] 287)).drew.setRow (a.heap.size) #[V Ad i,V Ad g,V Af k,Aa (str xs),J l m n]).setRow (a.heap.size+1) #[V Ad q,V Ad p,V Af r,Aa (str s),J t v y])).heap[a.heap.size+1]?= some (Ab #[V Ad q,V Ad p,V Af r,Aa (str s),J t v y] 287 (0,0))):=D (Bo _ (a.heap.size+1) _ #[V Ad q,V Ad p,V Af r,Aa (str s),J t v y] _ _ B.out);have C:AA ((((((a.alloc (Ab #[V Ad 0,V Ad 0,V Af 0,Aa ⟨#[]⟩,J none 0 0] 287)).alloc (Ab #[V Ad 0,V Ad 0,V Af 0,Aa ⟨#[]⟩,J none 0 0] 287)).drew.setRow (a.heap.size) #[V Ad i,V Ad g,V Af k,Aa (str xs),J l m n]).setRow (a.heap.size+1) #[V Ad q,V Ad p,V Af r,Aa (str s),J t v y])).heap[a.heap.size]?= some (Ab #[V Ad i,V Ad g,V Af k,Aa (str xs),J l m n] 287 (0,0))):=D ((C7 _ (a.heap.size+1) (a.heap.size) #[V Ad q,V Ad p,V Af r,Aa (str s),J t v y] (by omega)).trans C.out);refine f.out _ _ ?_ (fun d=>?_)
   ·exact Ext.setRow (by assumption) (by omega) _
   clear f K
   try simp only [Au,pA,pB,pC]
   refine JV ?_
   have E:AA (Ext a ((((a.alloc (Ab #[V Ad 0,V Ad 0,V Af 0,Aa ⟨#[]⟩,J none 0 0] 287)).alloc (Ab #[V Ad 0,V Ad 0,V Af 0,Aa ⟨#[]⟩,J none 0 0] 287)).drew.setRow (a.heap.size) #[V Ad i,V Ad g,V Af k,Aa (str xs),J l m n]).setRow (a.heap.size+1) #[V Ad q,V Ad p,V Af r,Aa (str s),J t v y])):=D (by assumption);go_wp2_with fail
   go_meet
   exact⟨_,_,rfl,rfl,C,H,E⟩
  ·go_simp;have B:=D (Aj (a.drew) (Ab #[V Ad 0,V Ad 0,V Af 0,Aa ⟨#[]⟩,J none 0 0] 287));refine f.out _ _ (fun _=>?_) (fun L=>?_)
   ·exact Ext.alloc (by assumption) _
   have d:=L (by simp);clear f K L
   try simp only [Au,pA,pB,pC]
   refine JX.rd 8 (fun K f=>?_);go_simp;have B:=D (AP (a.drew) (Ab #[V Ad 0,V Ad 0,V Af 0,Aa ⟨#[]⟩,J none 0 0] 287) (Ab #[V Ad 0,V Ad 0,V Af 0,Aa ⟨#[]⟩,J none 0 0] 287));have M:=D (Ay (a.drew) (Ab #[V Ad 0,V Ad 0,V Af 0,Aa ⟨#[]⟩,J none 0 0] 287) (Ab #[V Ad 0,V Ad 0,V Af 0,Aa ⟨#[]⟩,J none 0 0] 287));refine f.out _ _ ?_ (fun d=>?_)
   ·exact Ext.alloc (by assumption) _
   clear f K
   try simp only [Au,pA,pB,pC]
   refine JX.rd 10 (fun K f=>?_);refine Ov rfl 287 _ _ rfl (a.heap.size+1) #[V Ad i,V Ad g,V Af k,Aa (str xs),J l m n] (by rfl) (by rfl) 287 #[V Ad 0,V Ad 0,V Af 0,Aa ⟨#[]⟩,J none 0 0] M.out Ki rfl (VG _ _ _ _ _ _ _) ?_
   have C:AA (((((a.alloc (Ab #[V Ad 0,V Ad 0,V Af 0,Aa ⟨#[]⟩,J none 0 0] 287)).alloc (Ab #[V Ad 0,V Ad 0,V Af 0,Aa ⟨#[]⟩,J none 0 0] 287)).drew.setRow (a.heap.size+1) #[V Ad i,V Ad g,V Af k,Aa (str xs),J l m n])).heap[a.heap.size+1]?= some (Ab #[V Ad i,V Ad g,V Af k,Aa (str xs),J l m n] 287 (0,0))):=D (Bo _ (a.heap.size+1) _ #[V Ad i,V Ad g,V Af k,Aa (str xs),J l m n] _ _ M.out);have B:AA (((((a.alloc (Ab #[V Ad 0,V Ad 0,V Af 0,Aa ⟨#[]⟩,J none 0 0] 287)).alloc (Ab #[V Ad 0,V Ad 0,V Af 0,Aa ⟨#[]⟩,J none 0 0] 287)).drew.setRow (a.heap.size+1) #[V Ad i,V Ad g,V Af k,Aa (str xs),J l m n])).heap[a.heap.size]?= some (Ab #[V Ad 0,V Ad 0,V Af 0,Aa ⟨#[]⟩,J none 0 0] 287 (0,0))):=D ((C7 _ (a.heap.size+1) (a.heap.size) #[V Ad i,V Ad g,V Af k,Aa (str xs),J l m n] (by omega)).trans B.out);refine f.out _ _ ?_ (fun d=>?_)
   ·exact Ext.setRow (by assumption) (by omega) _
   clear f K
   try simp only [Au,pA,pB,pC]
   refine JX.rd 11 (fun K f=>?_);refine Ov rfl 287 _ _ rfl (a.heap.size) #[V Ad q,V Ad p,V Af r,Aa (str s),J t v y] (by rfl) (by rfl) 287 #[V Ad 0,V Ad 0,V Af 0,Aa ⟨#[]⟩,J none 0 0] B.out Ki rfl (VG _ _ _ _ _ _ _) ?_
   have H:AA ((((((a.alloc (Ab #[V Ad 0,V Ad 0,V Af 0,Aa ⟨#[]⟩,J none 0 0] 287)).alloc (Ab #[V Ad 0,V Ad 0,V Af 0,Aa ⟨#[]⟩,J none 0 0] 287)).drew.setRow (a.heap.size+1) #[V Ad i,V Ad g,V Af k,Aa (str xs),J l m n]).setRow (a.heap.size) #[V Ad q,V Ad p,V Af r,Aa (str s),J t v y])).heap[a.heap.size]?= some (Ab #[V Ad q,V Ad p,V Af r,Aa (str s),J t v y] 287 (0,0))):=D (Bo _ (a.heap.size) _ #[V Ad q,V Ad p,V Af r,Aa (str s),J t v y] _ _ B.out);have C:AA ((((((a.alloc (Ab #[V Ad 0,V Ad 0,V Af 0,Aa ⟨#[]⟩,J none 0 0] 287)).alloc (Ab #[V Ad 0,V Ad 0,V Af 0,Aa ⟨#[]⟩,J none 0 0] 287)).drew.setRow (a.heap.size+1) #[V Ad i,V Ad g,V Af k,Aa (str xs),J l m n]).setRow (a.heap.size) #[V Ad q,V Ad p,V Af r,Aa (str s),J t v y])).heap[a.heap.size+1]?= some (Ab #[V Ad i,V Ad g,V Af k,Aa (str xs),J l m n] 287 (0,0))):=D ((C7 _ (a.heap.size) (a.heap.size+1) #[V Ad q,V Ad p,V Af r,Aa (str s),J t v y] (by omega)).trans C.out);refine f.out _ _ ?_ (fun d=>?_)
   ·exact Ext.setRow (by assumption) (by omega) _
   clear f K
   try simp only [Au,pA,pB,pC]
   refine JV ?_
   have E:AA (Ext a ((((a.alloc (Ab #[V Ad 0,V Ad 0,V Af 0,Aa ⟨#[]⟩,J none 0 0] 287)).alloc (Ab #[V Ad 0,V Ad 0,V Af 0,Aa ⟨#[]⟩,J none 0 0] 287)).drew.setRow (a.heap.size+1) #[V Ad i,V Ad g,V Af k,Aa (str xs),J l m n]).setRow (a.heap.size) #[V Ad q,V Ad p,V Af r,Aa (str s),J t v y])):=D (by assumption);go_wp2_with fail
   go_meet
   exact⟨_,_,rfl,rfl,C,H,E⟩
 obtain⟨X,I,rfl,rfl,C,H,E⟩:=hcut;have hk:wc.cell? ⟨X,1,none⟩=some (V Ad g):=JA C.out 1;have hl:wc.cell? ⟨I,1,none⟩=some (V Ad p):=JA H.out 1;have hm:wc.cell? ⟨w.heap.size,1,none⟩=some (V Ad op):=E.out.cell hc;have hn:=D (fun W (x:Ext wc W)=>h1.out W (E.out.trans x));have ho:=D (fun W (x:Ext wc W)=>h2.out W (E.out.trans x));have hp:=D (fun W (x:Ext wc W)=>hf.out W (E.out.trans x));go_upto_region 16 with fail;refine JX.go (Ext wc) [] ((Ext.refl wc).drew) (fun d=>?_);refine JC d ?_ (hy:=by(intro w A;refine R5 287 (Eh 4) ?_ X ?_ 287 #[V Ad i,V Ad g,V Af k,Aa (str xs),J l m n] (0,0) _ (CE A C.out) Ax rfl Ki<;>rfl))
 refine JC d ?_
 refine JP d (fun w A=>Ext.cell A hk) ?_
 refine KM 4 d ?_
 refine KM 8 d ?_
 refine QM 9 d (fun w A=>Ext.cell A hm) ?_
 refine KM 13 d ?_ (hy:=by(intro w A;refine R5 287 (Eh 5) ?_ I ?_ 287 #[V Ad q,V Ad p,V Af r,Aa (str s),J t v y] (0,0) _ (CE A H.out) Ax rfl Ki<;>rfl))
 refine KM 14 d ?_
 refine QM 15 d (fun w A=>Ext.cell A hl) ?_
 refine KM 17 d ?_
 try simp only [Au,pA,pB,pC]
 refine JX.rd 3 (fun K f=>?_);go_simp;refine(hg.out _).mono ?_
 rintro e hq ⟨rfl,rfl⟩;refine f.out _ _ ?_ (fun d=>?_)
 ·assumption
 clear f K
 try simp only [Au,pA,pB,pC]
 refine KM 5 d ?_
 try simp only [Au,pA,pB,pC]
 refine JX.rd 6 (fun K f=>?_);go_simp
 with_reducible refine(hn.out _ (by assumption)).mono ?_
 rintro e hr ⟨rfl,h5⟩;have hs:Ext wc hr:=Ext.trans (by assumption) h5;clear h5;refine f.out _ _ ?_ (fun d=>?_)
 ·exact hs
 clear f K
 try simp only [Au,pA,pB,pC]
 refine TY 7 d ?_
 try simp only [Au,pA,pB,pC]
 refine JX.rd 10 (fun K f=>?_);go_simp
 with_reducible refine(hp.out _ (by assumption)).mono ?_
 rintro e ht ⟨rfl,h6⟩;have hu:Ext wc ht:=Ext.trans (by assumption) h6;clear h6;refine f.out _ _ ?_ (fun d=>?_)
 ·exact hu
 clear f K
 try simp only [Au,pA,pB,pC]
 refine TY 11 d ?_
 refine TY 12 d ?_
 try simp only [Au,pA,pB,pC]
 refine JX.rd 16 (fun K f=>?_);go_simp;refine(hh.out _).mono ?_
 rintro e hq ⟨rfl,rfl⟩;refine f.out _ _ ?_ (fun d=>?_)
 ·assumption
 clear f K
 try simp only [Au,pA,pB,pC]
 refine JC d ?_
 try simp only [Au,pA,pB,pC]
 refine JM (fun K f=>?_);go_simp
 with_reducible refine(ho.out _ (by assumption)).mono ?_
 rintro e hv ⟨rfl,h7⟩;have h8:Ext wc hv:=Ext.trans (by assumption) h7;clear h7;refine f.out _ _ ?_ (fun d=>?_)
 ·exact h8
 clear f K
 try simp only [Au,pA,pB,pC]
 refine Mq d ?_
 refine JC d ?_
 try simp only [Au,pA,pB,pC]
 refine JV ?_
 go_wp2_with fail;go_ret;refine⟨?_,G.out.trans (E.out.trans h8)⟩;have hw:(⟨#[32]⟩:ByteArray)=str [32]:=rfl
 first
  |(rw [hw,Lg,Lg,Lg,Lg];simp)
  |(simp)
theorem QC:∀ l:List Ex,NC l=l.map Kt
 |[]=>by rw [NC];rfl
 |x::l=>by rw [NC,QC l];rfl
theorem Wi {lv:Nat}:∀ {l:List Ex}{n m:Nat},L9 l lv n=some m→∀ {x:Ex},x∈l→∃ a b,P6 x lv a=some b
 |[],_,_,_,_,c=>by cases c
 |f::l,n,m,c,x,d=>by
  obtain⟨q,h1,e⟩:=fu c;rcases AH.1 d with rfl|d
  ·exact⟨_,_,h1⟩
  ·exact Wi e d
theorem Ye:∀ {l:List Ex},Q8 l=true→∀ {x:Ex},x∈l→Wh x=true
 |[],_,_,a=>by cases a
 |c::l,a,x,b=>by
  rw [Q8,Ah]at a;rcases AH.1 b with rfl|b
  ·exact a.1
  ·exact Ye a.2 b
theorem kC:∀ {l:List Bs}{s:Bs},s∈l→s.length≤(Jy l).length
 |[],_,a=>by cases a
 |[x],s,a=>by
  rw [Jy];rcases AH.1 a with rfl|a
  ·exact Aw _
  ·cases a
 |x::b::l,s,a=>by
  rw [Jy]
  ·rcases AH.1 a with rfl|a
   ·simp
   ·have:=kC a;simp only [M,Am];omega
  ·simp
theorem PU.ext {w wr a:Y}{l:List Bs}{v:h}(b:PU w wr l v)(x:Ext wr a):PU w a l v:=⟨zO1 b.own x,b.x.trans x⟩
theorem aX {w:Y}{t:AK}(u:h):Ol (w.alloc (Ab #[u] t)) (some ⟨w.heap.size,0,none⟩) [u]:=by
 intro j z a;refine⟨_,rfl,?_⟩;rw [MW,BF,JA (Aj w _)];cases j with
 |zero=>cases a;rfl
 |succ j=>simp at a
theorem pJ (l:List Ex)(IH:∀ e∈l,ExP e):yN9 l:=by
 intro U lv n m v w j h2 hc h3 ho hlen;obtain⟨A,c,rfl⟩:=JB j;have hp:l.length≤c∧c≤Bk:=by
  obtain⟨xj,hq,xs,h1,hr,hs,_⟩:=j;cases h1;exact⟨hr,hs⟩
 have ht:=D j;have hu:=D hlen;have h4:=D (fun(W:Y) (h5:Option Bi) (k:Nat) (hv:Ol W h5 (Jw (NC l))) (hw:l.length≤k)=>jF (l:=NC l) (A:=h5) (c:=k) (w:=W) hv (by rw [QC,AI];exact hw) (by rw [QC,AI];omega) hlen);have hx:AA (∀(i:Nat) (x:Ex),l[i]?= some x→∀ (cs:List h) (W:Y),Ext w W→OV U W x cs→As prog 181 #[AN cs.toArray] W (Mi W (Kt x))):=D (fun i x d cs W e hy=>by
  have p:=AD d
  obtain⟨a,b,hz⟩:=Wi hc p
  exact IH x p U lv a b cs W hy (h2.ext e) hz (Ye h3 p) (AL (kC (by rw [QC];exact List.mem_map_of_mem p)) hlen))
 have g:AA ((NC l).length=l.length):=D (by rw [QC,AI]);have h6:AA (∀(i:Nat) (x:Ex),l[i]?= some x→(NC l).take (i+1)=(NC l).take i++[Kt x]):=D (fun i x d=>by
  rw [QC,←EG,←EG,BB,d,Dv];rfl)
 obtain⟨x0,I,h7,h8,h9⟩:=info_parts R6;have x1:=D I;have x2:=D h7;have x3:=D h8;have x4:=D h9;obtain⟨P,ha⟩:=JH (NC l);rw [←ha]at hu h4 g h6 ⊢;obtain⟨L,K⟩:=JH l.length;have hb:=D K;rw [←K]at g ho hp ⊢;have xk:L≤9223372036854775807:=by omega
 clear I h7 h8 h9 j h2 hc h3 hlen ha K IH;go_enter func183,ntmps183;go_wp2;go_loopw [3,8] (fun M N x5=>∃ i:Nat,N=V Ad i∧i≤L∧PU w x5 (P.take i) M) (fun _ N _=>L - (AX N).toNat)
 case atStart=>exact⟨0,rfl,by omega,⟨CQ _ _ _ _,Ext.refl _⟩⟩
 case round=>
  obtain⟨i,rfl,I,O⟩:=hrel;have q:=D O;have Q:(P.take i).length=i:=by rw [BD,g];omega
  have hd:=D Q;have R:=O.own;rw [Q]at R;obtain⟨r,S,rfl,x6,xl, -,he⟩:=NQ R;have x7:=D he;clear O he Q R;by_cases x8:i<L
  ·obtain⟨x,d⟩:∃ x,l[i]?= some x:=⟨l[i]'(by rw [←hb];exact x8),Al _⟩
   obtain⟨b,o,hq,cs,x9, -,T,hf⟩:=(ht.ext q.x).elem d;obtain⟨y,z,B,C,E,F,G,rfl⟩:=Nq T;cases x9;have xa:=D hf;have X:=D ((Ext.refl wr).alloc (Ab #[V Ad y,V Ad z,V Af B,Aa (str C),J E F G] 287));have hg:=D (hx i x d [V Ad y,V Ad z,V Af B,Aa (str C),J E F G] (wr.alloc (Ab #[V Ad y,V Ad z,V Af B,Aa (str C),J E F G] 287)) (q.x.trans X) (S9 T X));have hh:=D (h6 i x d);have xb:=D (Aj wr (Ab #[V Ad y,V Ad z,V Af B,Aa (str C),J E F G] 287));obtain⟨s,hi⟩:=JH (Kt x);rw [←hi]at hh hg;clear hf T hi d;go_wp2_with (first|(refine KV rfl Ax rfl xa Ki ?_)|(refine LH rfl Ax rfl xb Ki ?_));refine hg.mono ?_
   rintro e f ⟨rfl,H⟩;have Z:AA (PU w (f.alloc (Ab #[Aa (str s)] 9)) (P.take i) (J r i S)):=D ((q.ext (X.trans H)).ext ((Ext.refl f).alloc _));have xc:=D (aX (w:=f) (t:=9) (Aa (str s)));have hj:=Z.x.size;have xd:=D hj;have xe:AA ((f.alloc (Ab #[Aa (str s)] 9)).ownsRow w.heap.size 9 1 (J r i S) i (Jw (P.take i))):=D (by have:=Z.own;rw [hd]at this;exact this);clear H hj;go_wp2_with (at_builtin;refine Lp rfl _ _ 34 rfl w.heap.size 9 x0 (Aa ⟨#[]⟩) 1 16 Bu x1 x2 x3 x4 rfl (by decide) _ i (Jw (P.take i)) rfl xe (some ⟨f.heap.size,0,none⟩) 1 1 [Aa (str s)] rfl xc rfl (by intro u hk;simp only [AH,Ba,or_false]at hk;subst hk;rfl) (by unfold Bk;omega) (by omega) xd ?_;intro M xf h0 hl xg;have xh:AA (PU w xf (P.take (i+1)) M):=D (by rw [hh];exact Z.pF (m:=[s]) (by rw [hd];exact h0) hl);obtain⟨xm,xn,rfl,_,_,_,_⟩:=NQ h0;clear h0 hl xg);go_roundw
   case rel=>exact⟨i+1,by go_num,by omega,xh⟩
   case measure=>simp [AX];omega
  ·have xi:i=L:=by omega
   subst xi;have hm:Ol wr r (Jw P):=by
    have:=x7.out;rw [DN (by rw [g];omega)]at this;exact this
   have hn:=D (h4 wr r S hm (by rw [←hb];exact x6));rw [g]at hn;clear hm;go_wp2_with fail;refine hn.mono ?_
   rintro e f ⟨rfl,H⟩;go_wp2_with fail;go_ret;exact⟨rfl,q.x.trans H⟩
theorem Ro {α:Type}{l:List α}(a:l.length=1):∃ x,l=[x]:=by
 match l,a with
 |[x],_=>exact⟨x,rfl⟩
theorem pK {α:Type}{l:List α}(b:l.length=2):∃ x a,l=[x,a]:=by
 match l,b with
 |[x,a],_=>exact⟨x,a,rfl⟩
theorem aY {s:Bs}(a:Mt s=true):s.length≤12:=by
 unfold Mt at a;rw [Ah,Ah]at a;exact Ai a.1.2
theorem dm {x:Ex}(g:ExP x):ys6 x:=by
 intro U lv n m b cs w a h hc i hlen;obtain⟨k,op,num,name,args⟩:=x;have d:=a;rw [OZ]at d;obtain⟨v,rfl,j⟩:=d;obtain⟨A,c,rfl⟩:=JB j;have f:(Kt (.mk k op num name args)).length≤1000000:=by
  refine AL ?_ hlen
  unfold P5;split
  ·simp only [Am,M];omega
  ·exact Aw _
 exact yZ6 (D (fun W e=>g U lv n m _ W (S9 a e) (h.ext e) hc i f)) f
theorem zg5 (a b:Nat):Be a b=decide (a<b):=by
 rw [Bl];simp
theorem zg6 (a b:Nat):A6 a b=decide (a≤b):=by
 rw [Bl];simp
theorem uq {k op num:Nat}{name:Bs}{n:Nat}(a:FE k op num name n):op≤21:=by
 have:=a.op;split at this
 ·rw [Ah]at this;have:=Ai this.2;omega
 ·split at this
  ·rw [Ah]at this;exact Ai this.2
  ·have:=Ap this;omega
theorem zJ1 {x:Ex}{lv n m:Nat}(a:P6 x lv n=some m):x.op≤21:=by
 obtain⟨k,op,num,name,args⟩:=x;exact uq (We (Xk a).2.2.1)
theorem rP {x:Ex}{k op num:Nat}{name:Bs}{args:List Ex}(a:x∈args):Aq x<Aq (Ex.mk k op num name args):=by
 have h1:=BQ a;have b:Aq (Ex.mk k op num name args)=1+Aq k+Aq op+Aq num+Aq name+Aq args:=by simp
 omega
theorem zJ2 (op:Nat)(w:Y)(h1:1≤op)(b:op≤21)(c:Mg w):As prog 229 #[V Ad op] w (Mi w (MM op)):=(VE op w c h1 b).mono (fun e w' a=>⟨a.1,by rw [a.2];exact(Ext.refl w).alloc _⟩)
theorem pM (op:Nat):(MM op).length≤2:=by
 unfold MM;rcases Dg (op - 1) Pg.ops.length with a|a
 ·have:∀ s∈Pg.ops,s.length≤2:=by decide
  rw [Al a];exact this _ (F7 a)
 ·rw [C5 a];exact Dd _
theorem zg7 (e:Ex)(IH:∀ O,Aq O<Aq e→ExP O):ExP e:=by
 intro U lv n m cs w h9 l hc P hlen;obtain⟨k,op,num,name,args⟩:=e;have Q:=h9;rw [OZ]at Q;obtain⟨v,rfl,g⟩:=Q;obtain⟨hl,hm,ha,R⟩:=Xk hc;have f:=We ha;have hn:=f.k1;have ho:=f.k7;rw [Wh,Ah]at P;obtain⟨H,S⟩:=P;have H:num<4294967296:=by simpa [Dm]using H
 have y:∀ x∈args,ExP x:=fun x z=>IH x (rP z)
 have F:=fun(x:Ex) (z:x∈args)=>Wi R z
 have G:=fun(x:Ex) (z:x∈args)=>Ye S z
 have I:=uq f;rcases(show k=1∨k=2∨k=3∨k=4∨k=5∨k=6∨k=7 by omega)with rfl|rfl|rfl|rfl|rfl|rfl|rfl
 ·obtain⟨A,c,rfl⟩:=JB g;rw [Kt,if_pos rfl];exact yC0 H l
 ·obtain⟨A,c,rfl⟩:=JB g;rw [Kt,if_neg (by omega),if_pos rfl];exact zg0
 ·have s:args.length=1:=by have:=f.ar;rw [if_pos (AO rfl)]at this;exact Ap this
  have B:=f.nm;rw [if_pos (AB (AO rfl))]at B;have hb:=aY B;obtain⟨x,rfl⟩:=Ro s;obtain⟨b,o,T,X,rfl, -,h,C⟩:=g.elem (i:=0) (x:=x) rfl;obtain⟨Y,E,Z,h0,h2,h3,h4,rfl⟩:=Nq h;obtain⟨a,h5,t⟩:=F x (by simp);have q:Kt (.mk 3 op num name [x])=name++91::(Kt x++[93]):=by rw [Kt,if_neg (by omega),if_neg (by omega),if_pos rfl,QC];rfl
  rw [q]at hlen ⊢;have p:(Kt x).length≤1000000:=by simp only [M,Am]at hlen;omega
  exact zQ7 (D (fun j u r=>by have:=C j u r;rw [FG,Dp]at this;exact this)) (D (fun W e=>y x (by simp) U _ _ _ _ W (S9 h e) (l.ext e) t (G x (by simp)) p)) (by omega) p
 ·have B:=f.nm;rw [if_pos (AB (AB rfl))]at B;have hb:=aY B;have s:args.length≤6:=by have:=f.ar;rw [if_neg (by omega),if_neg (by omega),if_pos rfl]at this;exact Ai this
  obtain⟨A,c,rfl⟩:=JB g;have q:Kt (.mk 4 op num name args)=name++40::(Jy (NC args)++[41]):=by rw [Kt,if_neg (by omega),if_neg (by omega),if_neg (by omega),if_pos rfl]
  rw [q]at hlen ⊢;have p:(Jy (NC args)).length≤1000000:=by simp only [M,Am]at hlen;omega
  exact zg1 (D (fun W e=>pJ args y U _ _ _ _ W (g.ext e) (l.ext e) R S (by omega) p)) (by omega) p
 ·obtain⟨A,c,rfl⟩:=JB g;rw [Kt,if_neg (by omega),if_neg (by omega),if_neg (by omega),if_neg (by omega),if_pos rfl];exact yC1
 ·have s:args.length=1:=by have:=f.ar;rw [if_pos (AB rfl)]at this;exact Ap this
  have K:1≤op:=by have:=f.op;rw [if_pos rfl,Ah]at this;exact Ai this.1
  obtain⟨x,rfl⟩:=Ro s;obtain⟨b,o,T,X,rfl, -,h,C⟩:=g.elem (i:=0) (x:=x) rfl;obtain⟨Y,E,Z,h0,h2,h3,h4,rfl⟩:=Nq h;obtain⟨a,h5,t⟩:=F x (by simp);have q:Kt (.mk 6 op num name [x])=MM op++P5 x (Kt x) true:=by rw [Kt,if_neg (by omega),if_neg (by omega),if_neg (by omega),if_neg (by omega),if_neg (by omega),if_pos rfl,QC];rfl
  rw [q]at hlen ⊢;have p:(P5 x (Kt x) true).length≤1000000:=by simp only [M]at hlen;omega
  have hd:=pM op;exact zQ8 (D (fun j u r=>by have:=C j u r;rw [FG,Dp]at this;exact this)) (D (fun W e=>dm (y x (by simp)) U _ _ _ true _ W (S9 h e) (l.ext e) t (G x (by simp)) p)) (D (fun W e=>zJ2 op W K I (l.ext e))) (by omega) p
 ·have s:args.length=2:=by have:=f.ar;rw [if_neg (by omega),if_pos rfl]at this;exact Ap this
  have K:1≤op:=by have:=f.op;rw [if_neg (by omega),if_pos rfl,Ah]at this;have:=Ai this.1;omega
  obtain⟨x,d,rfl⟩:=pK s;obtain⟨b,o,T,X,h6, -,h,C⟩:=g.elem (i:=0) (x:=x) rfl;obtain⟨hp,hq,hr,hs,h7, -,L,he⟩:=g.elem (i:=1) (x:=d) rfl;rw [h6]at h7;cases h7;subst h6;obtain⟨Y,E,Z,h0,h2,h3,h4,rfl⟩:=Nq h;obtain⟨ht,N,fn,hu,hv,hw,hx,rfl⟩:=Nq L;obtain⟨a,h5,t⟩:=F x (by simp);obtain⟨hy,hz,h8⟩:=F d (by simp);have hf:x.op=E:=by
   obtain⟨hg,o1,hh,s1,hi⟩:=x;have:=h;rw [show KE.rep=OV from rfl,OZ]at this;obtain⟨hj,h1,_⟩:=this;simp only [Fg,IW,true_and]at h1;have:=h1.2.1;show o1=E
   omega
  have hk:d.op=N:=by
   obtain⟨hg,o1,hh,s1,hi⟩:=d;have:=L;rw [show KE.rep=OV from rfl,OZ]at this;obtain⟨hj,h1,_⟩:=this;simp only [Fg,IW,true_and]at h1;have:=h1.2.1;show o1=N
   omega
  have x0:=zJ1 t;have x1:=zJ1 h8;have q:Kt (.mk 7 op num name [x,d])=P5 x (Kt x) (decide (J5 E<J5 op))++32::(MM op++32::P5 d (Kt d) (decide (J5 N≤J5 op))):=by
   rw [Kt,if_neg (by omega),if_neg (by omega),if_neg (by omega),if_neg (by omega),if_neg (by omega),if_neg (by omega),QC];show P5 x (Kt x) (Be (J5 x.op) (J5 op))++32::(MM op++32::P5 d (Kt d) (A6 (J5 d.op) (J5 op)))=_
   rw [zg5,zg6,hf,hk]
  rw [q]at hlen ⊢;simp only [M,Am]at hlen;have hd:=pM op;refine yC3 (D (fun j u r=>by have:=C j u r;rw [FG,Dp]at this;exact this)) (D (fun j u r=>he j u r)) (D (fun W e=>dm (y x (by simp)) U _ _ _ _ _ W (S9 h e) (l.ext e) t (G x (by simp)) ?_)) (D (fun W e=>dm (y d (by simp)) U _ _ _ _ _ W (S9 L e) (l.ext e) h8 (G d (by simp)) ?_)) (D (fun W e=>zJ2 op W K I (l.ext e))) I (by omega) (by omega) (by omega) ?_ ?_
  all_goals omega
theorem zJ3 (e:Ex):ExP e:=by
 obtain⟨n,c⟩:=JH (Aq e)
 induction n using D1 generalizing e with
 |_ n b=>exact zg7 e (fun a d=>b (Aq a) (by omega) a rfl)
theorem rQ (l:List Ex):yN9 l:=pJ l (fun e _=>zJ3 e)
end Go.Proofs.YtmkomefmgcpnbaaGreatDoor

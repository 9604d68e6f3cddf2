import Derived.Test.YtmkomefmgcpnbaaGreatDoorMg1
import Derived.Shelf.Strconv.Itoa0
import Derived.Shelf.Strconv.Itoa1
import Derived.Shelf.LaysM
import Derived.Shelf.Strconv.Itoa2
import Derived.Shelf.Strconv.Itoa3
import Derived.Ground.MpProg
import Derived.Shelf.Pu.ParseUintPublic10
import Derived.Shelf.Strings.Search1
import Derived.Shelf.Strings.Search2
import Derived.Shelf.Strings.Search3
import Derived.Shelf.Small.Strs
import Derived.Shelf.GgClosure.StringsIndexFunc
import Derived.Ground.GgwProg
import Derived.Shelf.GgClosure.StringsIndexFuncTop
import Derived.Shelf.Strings.Prefix
import Derived.Shelf.Strings.Fields
import Derived.Shelf.Slices.Turned
import Derived.Ground.SlgnProg
import Derived.Test.YtmkomefmgcpnbaaGreatDoorProg
import Derived.Lib.AppendIntMem
import Derived.Lib.Walk
import Derived.Lib.ItoaMem
import Derived.BigCall
import Derived.BigGuard
import Derived.Lib.AtoiErrMem
set_option linter.all false
set_option maxHeartbeats 12800000
set_option maxRecDepth 100000
namespace Go.Proofs.YtmkomefmgcpnbaaGreatDoor
open Tryz Pg Go Go.Proofs Go.RowKit
open _root_.Array renaming length_toList→Ed,getElem?_eq_some_iff→Ag,replicate→CD
open Go renaming Calls→As,Ending→BX,Value→h,World→Y,Act→CY,Addr→Bi,Exit→EY,Oper→B5,Program→BR,setRow_other→C7
open Go.Ending renaming returned→Ak
open Go.IntKind renaming i64→Ad,u32→Af
open Go.Lib renaming hid→D
open Go.RowKit renaming Hid→AA
open Go.Value renaming bool→AE,int→V,string→Aa,pointer→Ae
open _root_.List renaming drop_eq_getElem_cons→AR,drop_eq_nil_of_le→DM
open _root_.UInt8 renaming toNat_lt→Fw
open _root_.Bool renaming eq_iff_iff→Bl
open Go.ByteArray renaming toList_eq→Br
open Go.Code renaming region→FU
open Go.Departure renaming mixedOrders→Fu
open Go.Obj renaming cells→Ab
open Go.Region.Mode renaming any→GG
open Go.RowKit.Below renaming heap_setCell→AY
open Go.World renaming block_lt_of_cell?→Bp
open _root_.Nat renaming le_refl→Aw,le_trans→AL,lt_of_lt_of_le→Ar
open _root_.Or renaming inl→AO
abbrev bs (S:ByteArray):Bs:=S.data.toList
theorem VC (S:ByteArray):(bs S).length=S.size:=Ed
theorem jP {S:ByteArray}{n:Nat}(a:n<S.size):(bs S).drop n=S[n]::(bs S).drop (n+1):=by
 have b:n<(bs S).length:=by rw [VC];exact a
 rw [AR b];rfl
theorem YW {S:ByteArray}{n:Nat}(b:¬ n<S.size):(bs S).drop n=[]:=DM (by rw [VC];omega)
theorem og {S:ByteArray}{n:Nat}(a:n<S.size):∃ c:Nat,c<256∧((S[n]'a).toNat:Int)=c∧(S[n]'a).toNat=c:=⟨_,Fw _,rfl,rfl⟩
def Ret (v:h)(w:Y)(e:BX)(w':Y):Prop:=e=Ak v∧w'=w
theorem tY {w:Y}{a b:Int}(c:a=b):Ret (V Ad b) w (Ak (V Ad a)) w:=by rw [c];exact⟨rfl,rfl⟩
def Pq (b:Bool)(c:UInt8):Bool:=K4 c||(b&&OC c)
theorem zH9 (S:ByteArray)(at_:Nat)(b:Bool)(w:Y)(k:at_≤S.size)(l:S.size≤100000):
 As prog 78 #[Aa S,V Ad at_,AE b] w (Ret (V Ad ((Mx (Pq b) ((bs S).drop at_):Nat):Int)) w):=by
 go_enter func78,ntmps78;go_wp2
 go_loop [7] (fun s=>∃ n:Nat,s=V Ad n∧at_≤n∧n≤S.size∧AA (Mx (Pq b) ((bs S).drop at_)=(n - at_)+Mx (Pq b) ((bs S).drop n))) (fun s=>S.size - (intOf s).toNat)
 case atStart=>exact⟨at_,rfl,by omega,k,D (by simp)⟩
 case round=>
  obtain⟨n,rfl,m,o,e⟩:=hrel;by_cases a:n<S.size
  ·obtain⟨c,p,hc,f⟩:=og a;have d:=D (jP a);have g:AA (Pq b (S[n]'a)=(decide (48≤c)&&decide (c≤57)||(b&&(decide (97≤c)&&decide (c≤122))))):=D (by
    unfold Pq K4 OC
    rw [f])
   clear f;by_cases h1:48≤c<;>by_cases h:c≤57<;>by_cases i:97≤c<;>by_cases j:c≤122<;>cases b
   all_goals first|(exfalso;omega)|skip
   all_goals go_wp2
   all_goals first
    |(go_ret
      refine tY ?_
      rw [e,d,Mx,g]
      simp [h1,h,i,j]
      omega)
    |(go_round
      case rel=>exact⟨n+1,rfl,by omega,by omega,D (by rw [e,d,Mx,g];simp [h1,h,i,j];omega)⟩
      case measure=>simp [intOf];omega)
  ·have d:=D (YW a);go_wp2;go_ret;refine tY ?_
   rw [e,d,Mx];omega
abbrev str (l:Bs):ByteArray:=⟨l.toArray⟩
theorem VD (S:ByteArray):str (bs S)=S:=by simp [str,bs]
theorem L6 (l:Bs):bs (str l)=l:=by simp [str,bs]
theorem KO (l:Bs):(str l).size=l.length:=by simp [str,ByteArray.size]
theorem str_inj {a b:Bs}(c:str a=str b):a=b:=by rw [←L6 a,←L6 b,c]
theorem zb1 (a b:Bs):((str a).toList==(str b).toList)=LJ a b:=by
 rw [Br,Br,Bl,Ko];simp [str]
structure JK (G:Nat→Prop) (w w':Y):Prop where
 os:w'.os=w.os
 tape:w'.tape=w.tape
 output:w'.output=w.output
 size:w.heap.size≤w'.heap.size
 block:∀ k,k<w.heap.size→¬ G k→w'.heap[k]?= w.heap[k]?
section
variable {G G':Nat→Prop}{w w' w'':Y}
theorem JK.refl (w:Y):JK G w w:=⟨rfl,rfl,rfl,Aw _,fun _ _ _=>rfl⟩
theorem Gl (a:Ext w w'):JK G w w':=⟨a.os,a.tape,a.output,a.size,fun k b _=>a.block k b⟩
theorem JK.trans (a:JK G w w')(k:JK G w' w''):JK G w w'':=
 ⟨k.os.trans a.os,k.tape.trans a.tape,k.output.trans a.output,AL a.size k.size,fun j b c=>(k.block j (Ar b a.size) c).trans (a.block j b c)⟩
theorem JK.mono (a:JK G w w')(c:∀ k,k<w.heap.size→G k→G' k):JK G' w w':=⟨a.os,a.tape,a.output,a.size,fun k b d=>a.block k b fun q=>d (c k b q)⟩
theorem JK.ext (a:JK G w w')(c:∀ k,k<w.heap.size→¬ G k):Ext w w':=⟨a.os,a.tape,a.output,a.size,fun k b=>a.block k b (c k b)⟩
theorem JK.alloc (a:JK G w w')(o:Obj):JK G w (w'.alloc o):=a.trans (Gl ((Ext.refl w').alloc o))
theorem JK.drew (a:JK G w w'):JK G w w'.drew:=a.trans (Gl ((Ext.refl w').drew))
theorem QT {P:BR}{ops:Array B5}{Q:EY→CY→Y→Prop}{a:CY}(G:Nat→Prop)(F:List Nat){b:Nat}(c:JK G w w.drew→JX P GG ops Q (JK G w) F ops.size (CD ops.size false) a w.drew)(d:P.follows Fu=true:=by kernel_rfl):(FU b ops true).wp P Q a w:=JX.go (JK G w) F (JK.refl w).drew c d
theorem JK.setCell (a:JK G w w'){p:Bi}(b:w.heap.size≤p.block∨G p.block)(u:h):JK G w (w'.setCell p u):=by
 refine⟨a.os,a.tape,a.output,by simpa using a.size,fun k d c=>?_⟩;have e:k≠p.block:=fun q=>b.elim (fun b=>by omega) (fun b=>c (by rw [q];exact b))
 rw [AY _ _ _ _ e];exact a.block k d c
theorem JK.setRow (a:JK G w w'){g:Nat}(b:w.heap.size≤g∨G g)(c:Array h):JK G w (w'.setRow g c):=by
 refine⟨a.os,a.tape,a.output,by simpa using a.size,fun k e d=>?_⟩;have f:k≠g:=fun q=>b.elim (fun b=>by omega) (fun b=>d (by rw [q];exact b))
 rw [C7 _ _ _ _ f];exact a.block k e d
theorem JK.grown (a:JK G w w'){row:Option Nat}(b:w'.grownBy w'' row)(f:∀ g,row=some g→w.heap.size≤g∨G g):JK G w w'':=
 ⟨b.os.trans a.os,b.tape.trans a.tape,b.output.trans a.output,AL a.size b.size,fun k c d=>(b.block k (Ar c a.size) (fun e=>(f k e.symm).elim (fun q=>by omega) d)).trans (a.block k c d)⟩
theorem JK.heap (b:JK G w w'){k:Nat}{o:Obj}(a:w.heap[k]?= some o)(c:¬ G k):w'.heap[k]?= some o:=(b.block k (Ag.1 a).1 c).trans a
theorem JK.cell (a:JK G w w'){p:Bi}{v:h}(hc:w.cell? p=some v)(b:¬ G p.block):w'.cell? p=some v:=
 (World.cell?_of_block (a.block _ (Bp w p hc) b)).trans hc
end
theorem Ext.setRow {w w':Y}(a:Ext w w'){g:Nat}(b:w.heap.size≤g)(c:Array h):Ext w (w'.setRow g c):=(JK.setRow (G:=fun _=>False) (Gl a) (AO b) c).ext (fun _ _ q=>q)
def psC (S:ByteArray)(p:PS):Array h:= #[Aa S,V Ad p.tok.kind,Aa (str p.tok.text),V Af p.tok.num,V Ad p.tok.pos,V Ad p.off]
structure jQ (w:Y) (g:Nat) (S:ByteArray) (p:PS):Prop where
 b:w.heap[g]?= some (Ab (psC S p) 87 (0,0))
 r:p.rest=(bs S).drop p.off
 o:p.off≤S.size
 q:p.tok.pos≤S.size
theorem jQ.upd {w w':Y}{g:Nat}{S:ByteArray}{p:PS}{G:Nat→Prop}(a:jQ w g S p)(u:JK G w w')(c:¬ G g):jQ w' g S p:=⟨u.heap a.b c,a.r,a.o,a.q⟩
theorem jQ.ext {w w':Y}{g:Nat}{S:ByteArray}{p:PS}(a:jQ w g S p)(u:Ext w w'):jQ w' g S p:=⟨CE u a.b,a.r,a.o,a.q⟩
theorem zI0 (g:Nat)(S:ByteArray)(p:PS)(s:Bs)(w:Y)(a:jQ w g S p):
 As prog 86 #[Ae (some ⟨g,0,none⟩),Aa (str s)] w (Ret (AE (JZ s p)) w):=by
 have c1:w.cell? ⟨g,1,none⟩=some (V Ad p.tok.kind):=JA a.b 1;have i:w.cell? ⟨g,2,none⟩=some (Aa (str p.tok.text)):=JA a.b 2;have c:AA (((str p.tok.text).toList==(str s).toList)=LJ p.tok.text s):=D (zb1 _ _);have d:AA (JZ s p=((decide (p.tok.kind=3)||decide (p.tok.kind=1))&&LJ p.tok.text s)):=D (by
  unfold JZ
  congr 2
  ·rw [Bl];simp
  ·rw [Bl];simp)
 clear a;generalize p.tok.kind=k at*
 obtain⟨A,e⟩:=JH (str p.tok.text);obtain⟨j,f⟩:=JH (str s);rw [←e]at i;rw [←e,←f]at c;rw [←f];clear e f;by_cases h:k=3
 ·subst h;go_enter func86,ntmps86;go_wp2;go_ret;refine⟨?_,rfl⟩;rw [d,←c];simp
 ·by_cases h1:k=1
  ·subst h1;go_enter func86,ntmps86;go_wp2;go_ret;refine⟨?_,rfl⟩;rw [d,←c];simp
  ·have l:((k:Int)==3)=false:=by simp;omega
   have m:((k:Int)==1)=false:=by simp;omega
   go_enter func86,ntmps86;go_wp2;go_ret;refine⟨?_,rfl⟩;rw [d];simp [h,h1]
end Go.Proofs.YtmkomefmgcpnbaaGreatDoor
namespace Go.Proofs
open _root_.ByteArray renaming empty→Fh
open Go renaming Calls→As,Value→h,World→Y,callFunc→GS
open Go.Ending renaming returned→Ak
open Go.IntKind renaming i64→Ad,u64→Jc,u8→BJ
open Go.Lib renaming TabIs→Jm,decDigits→Df,fields→F6,hasPrefix→Fe,idxOfS→Iz,indexByte→Ck,nDigits→Ej,parseUintB→GY
open Go.Next renaming enter→I8
open Go.Obj renaming cells→Ab
open Go.Proofs.Tryz renaming func167→Ix,func168→Iy,func169→It,func215→Iw,func216→Is,func217→Iu,isAgg0→Du,isAgg161→Fc,isAgg20→GH,isAgg21→GI,isAgg23→E2,isAgg24→Ep,isAgg271→Ea,isAgg340→H7,isAgg34→Fy,isAgg3→Cy,isAgg4→Cm,isAgg5→DC,isAgg9→Cz,sizeOf0→C9,sizeOf161→EP,sizeOf163→Jh,sizeOf187→Ji,sizeOf20→Gc,sizeOf21→Gb,sizeOf223→Jb,sizeOf23→ED,sizeOf24→DR,sizeOf271→DV,sizeOf275→Jd,sizeOf278→Jf,sizeOf340→G7,sizeOf341→Je,sizeOf34→Fb,sizeOf399→Jg,sizeOf3→Cg,sizeOf400→Ja,sizeOf4→Cc,sizeOf5→Da,sizeOf9→Ci,underlying0→Cf,underlying161→DU,underlying163→Hb,underlying187→Fo,underlying20→EK,underlying21→EL,underlying223→G6,underlying23→B8,underlying24→Ch,underlying271→Db,underlying275→Fm,underlying278→G8,underlying2→Il,underlying340→Fl,underlying341→G9,underlying34→Bu,underlying399→Ha,underlying3→Bq,underlying400→GZ,underlying4→By,underlying5→B2,underlying9→A8,zeroValue0→Cp,zeroValue161→D5,zeroValue163→Hm,zeroValue187→Hr,zeroValue20→E1,zeroValue21→E0,zeroValue223→Hn,zeroValue23→DT,zeroValue24→Dx,zeroValue271→Dk,zeroValue275→Hp,zeroValue278→Ho,zeroValue2→IM,zeroValue340→Fx,zeroValue34→Ef,zeroValue399→Hl,zeroValue3→BI,zeroValue400→Hq,zeroValue4→BH,zeroValue5→CI,zeroValue9→BO
open Go.Result renaming ok→Ez
open Go.RowKit renaming Below→IL
open Go.Shelf renaming Ren→B6
open Go.Value renaming bool→AE,func→ER,int→V,slice→J,string→Aa,tuple→AZ
open Go.Shelf
def Zx:B6:=⟨fun|137=>85|217=>128|266=>172|n=>n,fun|9=>9|5=>5|3=>3|n=>n,fun|n=>n⟩
theorem mW:Go.Proofs.Lays.n137 Tryz.prog Zx:={
 mixed:=by kernel_rfl
 f137:=Tryz.func85.trans (congrArg some (by kernel_rfl))
 f217:=Tryz.func128.trans (congrArg some (by kernel_rfl))
 f266:=Tryz.func172.trans (congrArg some (by kernel_rfl))
 t3:=Bq
 a3:=Cy
 z3:=Cg
 v3:=BI
 t5:=B2
 a5:=DC
 z5:=Da
 v5:=CI
 t9:=A8
 a9:=Cz
 z9:=Ci
 v9:=BO}
open Go.RowKit in
theorem Tryz.strings_IndexByte (s:ByteArray)(c:Int)(w:Y):
 As Tryz.prog 85 #[Aa s,V BJ c] w fun e w'=>e=Ak (V Ad (Ck s.data.toList c.toNat.toUInt8))∧w'=w:=Any.strings_IndexByte mW s c w
def Zy:B6:=⟨fun|283=>167|n=>n,fun|3=>3|9=>9|4=>4|n=>n,fun|n=>n⟩
theorem mX:Go.Proofs.Lays.n283 Tryz.prog Zy:={
 mixed:=by kernel_rfl
 f283:=Ix.trans (congrArg some (by kernel_rfl))
 t3:=Bq
 a3:=Cy
 z3:=Cg
 v3:=BI
 t4:=By
 a4:=Cm
 z4:=Cc
 v4:=BH
 t9:=A8
 a9:=Cz
 z9:=Ci
 v9:=BO}
open Go.Lib in
theorem Tryz.internal_strconv_small (i:Nat)(a:i<100)(w:Y):
 As Tryz.prog 167 #[V Ad i] w fun e w'=>e=Ak (Aa ⟨(Df i).toArray⟩)∧w'=w:=Any.internal_strconv_small mX i a w
def ZI:B6:=⟨fun|284=>168|129=>216|317=>215|318=>217|n=>n,fun|53=>161|3=>3|212=>340|0=>0|4=>4|46=>271|5=>5|9=>9|n=>n,fun|17=>6|n=>n⟩
theorem jR:Go.Proofs.LaysM.n284 Tryz.prog ZI:={
 mixed:=by kernel_rfl
 f129:=Is.trans (congrArg some (by kernel_rfl))
 f284:=Iy.trans (congrArg some (by kernel_rfl))
 f317:=Iw.trans (congrArg some (by kernel_rfl))
 f318:=Iu.trans (congrArg some (by kernel_rfl))
 t0:=Cf
 a0:=Du
 z0:=C9
 v0:=Cp
 t3:=Bq
 a3:=Cy
 z3:=Cg
 v3:=BI
 t4:=By
 a4:=Cm
 z4:=Cc
 v4:=BH
 t5:=B2
 a5:=DC
 z5:=Da
 v5:=CI
 t9:=A8
 a9:=Cz
 z9:=Ci
 v9:=BO
 t46:=Db
 a46:=Ea
 z46:=DV
 v46:=Dk
 t53:=DU
 a53:=Fc
 z53:=EP
 v53:=D5
 t212:=Fl
 a212:=H7
 z212:=G7
 v212:=Fx
 g17:=by kernel_rfl
 i0:=by kernel_rfl
 i3:=by kernel_rfl
 i4:=by kernel_rfl
 i5:=by kernel_rfl
 i9:=by kernel_rfl
 i46:=by kernel_rfl
 i53:=by kernel_rfl
 i212:=by kernel_rfl
 m17:=by kernel_rfl}
open Go.Lib in
theorem Tryz.internal_strconv_numDigits (u:Nat)(h1:1≤u)(a:u<18446744073709551616)(w:Y)(b:Jm Tryz.prog w "internal/strconv.uint64pow10" Jc Lib.pow10Tab):
 As Tryz.prog 168 #[V Jc u] w fun e w'=>e=Ak (V Ad (Ej u))∧w'=w:=Any.internal_strconv_numDigits jR u h1 a w b
def Zz:B6:=⟨fun|285=>169|n=>n,fun|37=>23|53=>161|3=>3|4=>4|51=>24|9=>9|5=>5|0=>0|n=>n,fun|n=>n⟩
theorem mY:Go.Proofs.Lays.n285 Tryz.prog Zz:={
 mixed:=by kernel_rfl
 f285:=It.trans (congrArg some (by kernel_rfl))
 t0:=Cf
 a0:=Du
 z0:=C9
 v0:=Cp
 t3:=Bq
 a3:=Cy
 z3:=Cg
 v3:=BI
 t4:=By
 a4:=Cm
 z4:=Cc
 v4:=BH
 t5:=B2
 a5:=DC
 z5:=Da
 v5:=CI
 t9:=A8
 a9:=Cz
 z9:=Ci
 v9:=BO
 t37:=B8
 a37:=E2
 z37:=ED
 v37:=DT
 t51:=Ch
 a51:=Ep
 z51:=DR
 v51:=Dx
 t53:=DU
 a53:=Fc
 z53:=EP
 v53:=D5}
open Go.RowKit Go.Sort Go.Lib in
theorem Tryz.internal_strconv_formatBase10 (a off cap:Nat)(u:Nat)(d:Array UInt8)(w:Y)(f:Holds (fun(b:UInt8)=>V BJ (b.toNat:Int)) w a off d)(g:u<10 ^d.size)(h:u<18446744073709551616)(i:d.size<4611686018427387904):
 As Tryz.prog 169 #[J (some ⟨a,off,none⟩) d.size cap,V Jc u] w fun e w'=>
  e=Ak (AZ #[])∧∃ (n j:Nat) (c:Array UInt8),w'=(putRow (fun(b:UInt8)=>V BJ (b.toNat:Int)) w a off c).drewN n∧FmtInv d.size u 0 j c:=Any.internal_strconv_formatBase10 mY a off cap u d w f g h i
def ZJ:B6:=⟨fun|171=>105|243=>145|246=>191|283=>167|284=>168|285=>169|286=>170|129=>216|317=>215|318=>217|319=>218|320=>219|337=>250|338=>251|n=>n,fun|3=>3|9=>9|2=>2|4=>4|171=>275|0=>0|53=>161|37=>23|5=>5|173=>278|212=>340|51=>24|20=>20|213=>341|46=>271|232=>399|233=>400|n=>n,fun|17=>6|18=>8|19=>9|n=>n⟩
theorem jS:Go.Proofs.LaysM.n171 Tryz.prog ZJ:={
 mixed:=by kernel_rfl
 f129:=Is.trans (congrArg some (by kernel_rfl))
 f171:=Tryz.func105.trans (congrArg some (by kernel_rfl))
 f243:=Tryz.func145.trans (congrArg some (by kernel_rfl))
 f246:=Tryz.func191.trans (congrArg some (by kernel_rfl))
 f283:=Ix.trans (congrArg some (by kernel_rfl))
 f284:=Iy.trans (congrArg some (by kernel_rfl))
 f285:=It.trans (congrArg some (by kernel_rfl))
 f286:=Tryz.func170.trans (congrArg some (by kernel_rfl))
 f317:=Iw.trans (congrArg some (by kernel_rfl))
 f318:=Iu.trans (congrArg some (by kernel_rfl))
 f319:=Tryz.func218.trans (congrArg some (by kernel_rfl))
 f320:=Tryz.func219.trans (congrArg some (by kernel_rfl))
 f337:=Tryz.func250.trans (congrArg some (by kernel_rfl))
 f338:=Tryz.func251.trans (congrArg some (by kernel_rfl))
 t0:=Cf
 a0:=Du
 z0:=C9
 v0:=Cp
 t2:=Il
 a2:=Tryz.isAgg2
 z2:=Tryz.sizeOf2
 v2:=IM
 t3:=Bq
 a3:=Cy
 z3:=Cg
 v3:=BI
 t4:=By
 a4:=Cm
 z4:=Cc
 v4:=BH
 t5:=B2
 a5:=DC
 z5:=Da
 v5:=CI
 t9:=A8
 a9:=Cz
 z9:=Ci
 v9:=BO
 t20:=EK
 a20:=GH
 z20:=Gc
 v20:=E1
 t37:=B8
 a37:=E2
 z37:=ED
 v37:=DT
 t46:=Db
 a46:=Ea
 z46:=DV
 v46:=Dk
 t51:=Ch
 a51:=Ep
 z51:=DR
 v51:=Dx
 t53:=DU
 a53:=Fc
 z53:=EP
 v53:=D5
 t171:=Fm
 a171:=Tryz.isAgg275
 z171:=Jd
 v171:=Hp
 t173:=G8
 a173:=Tryz.isAgg278
 z173:=Jf
 v173:=Ho
 t212:=Fl
 a212:=H7
 z212:=G7
 v212:=Fx
 t213:=G9
 a213:=Tryz.isAgg341
 z213:=Je
 t232:=Ha
 a232:=Tryz.isAgg399
 z232:=Jg
 v232:=Hl
 t233:=GZ
 a233:=Tryz.isAgg400
 z233:=Ja
 v233:=Hq
 g17:=by kernel_rfl
 g18:=by kernel_rfl
 g19:=by kernel_rfl
 i0:=by kernel_rfl
 i2:=by kernel_rfl
 i3:=by kernel_rfl
 i4:=by kernel_rfl
 i5:=by kernel_rfl
 i9:=by kernel_rfl
 i20:=by kernel_rfl
 i37:=by kernel_rfl
 i46:=by kernel_rfl
 i51:=by kernel_rfl
 i53:=by kernel_rfl
 i171:=by kernel_rfl
 i173:=by kernel_rfl
 i212:=by kernel_rfl
 i232:=by kernel_rfl
 i233:=by kernel_rfl
 m17:=by kernel_rfl
 m18:=by kernel_rfl
 m19:=by kernel_rfl}
open Go.RowKit Go.Sort Go.Lib in
theorem Tryz.strconv_Itoa (n:Int)(a: -9223372036854775808≤n)(h1:n≤9223372036854775807)(w:Y)(b:Jm Tryz.prog w "internal/strconv.uint64pow10" Jc Lib.pow10Tab):
 As Tryz.prog 105 #[V Ad n] w fun e w'=>e=Ak (Aa ⟨(Lib.itoa n).toArray⟩)∧∃ k c,w'=grow (w.drewN k) c:=Any.strconv_Itoa jS n a h1 w b
open Go.RowKit Go.Sort Go.Lib in
def ZK:B6:=⟨fun|14=>81|16=>122|17=>123|19=>161|20=>162|21=>163|22=>164|23=>165|24=>166|25=>213|27=>105|26=>214|28=>145|29=>191|30=>167|31=>168|32=>169|33=>170|35=>216|34=>215|36=>217|37=>218|38=>219|39=>250|40=>251|n=>n,fun|9=>9|3=>3|22=>161|24=>163|25=>164|4=>4|34=>269|5=>5|36=>271|37=>23|0=>0|39=>272|21=>21|44=>336|47=>187|50=>382|48=>380|2=>2|52=>275|55=>278|59=>340|60=>24|20=>20|61=>341|65=>399|66=>400|67=>80|n=>n,fun|0=>4|1=>5|2=>6|3=>8|4=>9|n=>n⟩
theorem jT:Go.Proofs.LaysPu.n14 Tryz.prog ZK:={
 mixed:=by kernel_rfl
 f14:=Tryz.func81.trans (congrArg some (by kernel_rfl))
 f16:=Tryz.func122.trans (congrArg some (by kernel_rfl))
 f17:=Tryz.func123.trans (congrArg some (by kernel_rfl))
 f19:=Tryz.func161.trans (congrArg some (by kernel_rfl))
 f20:=Tryz.func162.trans (congrArg some (by kernel_rfl))
 f21:=Tryz.func163.trans (congrArg some (by kernel_rfl))
 f22:=Tryz.func164.trans (congrArg some (by kernel_rfl))
 f23:=Tryz.func165.trans (congrArg some (by kernel_rfl))
 f24:=Tryz.func166.trans (congrArg some (by kernel_rfl))
 f25:=Tryz.func213.trans (congrArg some (by kernel_rfl))
 f26:=Tryz.func214.trans (congrArg some (by kernel_rfl))
 f27:=Tryz.func105.trans (congrArg some (by kernel_rfl))
 f28:=Tryz.func145.trans (congrArg some (by kernel_rfl))
 f29:=Tryz.func191.trans (congrArg some (by kernel_rfl))
 f30:=Ix.trans (congrArg some (by kernel_rfl))
 f31:=Iy.trans (congrArg some (by kernel_rfl))
 f32:=It.trans (congrArg some (by kernel_rfl))
 f33:=Tryz.func170.trans (congrArg some (by kernel_rfl))
 f34:=Iw.trans (congrArg some (by kernel_rfl))
 f35:=Is.trans (congrArg some (by kernel_rfl))
 f36:=Iu.trans (congrArg some (by kernel_rfl))
 f37:=Tryz.func218.trans (congrArg some (by kernel_rfl))
 f38:=Tryz.func219.trans (congrArg some (by kernel_rfl))
 f39:=Tryz.func250.trans (congrArg some (by kernel_rfl))
 f40:=Tryz.func251.trans (congrArg some (by kernel_rfl))
 t0:=Cf
 a0:=Du
 z0:=C9
 v0:=Cp
 i0:=by kernel_rfl
 t2:=Il
 a2:=Tryz.isAgg2
 z2:=Tryz.sizeOf2
 v2:=IM
 i2:=by kernel_rfl
 t3:=Bq
 a3:=Cy
 z3:=Cg
 v3:=BI
 i3:=by kernel_rfl
 t4:=By
 a4:=Cm
 z4:=Cc
 v4:=BH
 i4:=by kernel_rfl
 t5:=B2
 a5:=DC
 z5:=Da
 v5:=CI
 i5:=by kernel_rfl
 t9:=A8
 a9:=Cz
 z9:=Ci
 v9:=BO
 i9:=by kernel_rfl
 t20:=EK
 a20:=GH
 z20:=Gc
 v20:=E1
 i20:=by kernel_rfl
 t21:=EL
 a21:=GI
 z21:=Gb
 v21:=E0
 i21:=by kernel_rfl
 t22:=DU
 a22:=Fc
 z22:=EP
 v22:=D5
 i22:=by kernel_rfl
 t24:=Hb
 a24:=Tryz.isAgg163
 z24:=Jh
 v24:=Hm
 i24:=by kernel_rfl
 t25:=Tryz.underlying164
 a25:=Tryz.isAgg164
 z25:=Tryz.sizeOf164
 v25:=Tryz.zeroValue164
 i25:=by kernel_rfl
 t34:=Tryz.underlying269
 a34:=Tryz.isAgg269
 z34:=Tryz.sizeOf269
 v34:=Tryz.zeroValue269
 i34:=by kernel_rfl
 c34:=by kernel_rfl
 t36:=Db
 a36:=Ea
 z36:=DV
 v36:=Dk
 i36:=by kernel_rfl
 t37:=B8
 a37:=E2
 z37:=ED
 v37:=DT
 i37:=by kernel_rfl
 t39:=Tryz.underlying272
 a39:=Tryz.isAgg272
 z39:=Tryz.sizeOf272
 v39:=Tryz.zeroValue272
 i39:=by kernel_rfl
 t44:=Tryz.underlying336
 a44:=Tryz.isAgg336
 z44:=Tryz.sizeOf336
 v44:=Tryz.zeroValue336
 i44:=by kernel_rfl
 t47:=Fo
 a47:=Tryz.isAgg187
 z47:=Ji
 v47:=Hr
 i47:=by kernel_rfl
 t48:=Tryz.underlying380
 a48:=Tryz.isAgg380
 z48:=Tryz.sizeOf380
 v48:=Tryz.zeroValue380
 i48:=by kernel_rfl
 t50:=Tryz.underlying382
 a50:=Tryz.isAgg382
 z50:=Tryz.sizeOf382
 v50:=Tryz.zeroValue382
 i50:=by kernel_rfl
 t52:=Fm
 a52:=Tryz.isAgg275
 z52:=Jd
 v52:=Hp
 i52:=by kernel_rfl
 t55:=G8
 a55:=Tryz.isAgg278
 z55:=Jf
 v55:=Ho
 i55:=by kernel_rfl
 t59:=Fl
 a59:=H7
 z59:=G7
 v59:=Fx
 i59:=by kernel_rfl
 t60:=Ch
 a60:=Ep
 z60:=DR
 v60:=Dx
 i60:=by kernel_rfl
 t61:=G9
 a61:=Tryz.isAgg341
 z61:=Je
 t65:=Ha
 a65:=Tryz.isAgg399
 z65:=Jg
 v65:=Hl
 i65:=by kernel_rfl
 t66:=GZ
 a66:=Tryz.isAgg400
 z66:=Ja
 v66:=Hq
 i66:=by kernel_rfl
 t67:=Tryz.underlying80
 a67:=Tryz.isAgg80
 z67:=Tryz.sizeOf80
 v67:=Tryz.zeroValue80
 i67:=by kernel_rfl
 g0:=by kernel_rfl
 m0:=by kernel_rfl
 g1:=by kernel_rfl
 m1:=by kernel_rfl
 g2:=by kernel_rfl
 m2:=by kernel_rfl
 g3:=by kernel_rfl
 m3:=by kernel_rfl
 g4:=by kernel_rfl
 m4:=by kernel_rfl}
open Go.RowKit in
theorem Tryz.strconv_ParseUint_10_at32_ok (s:ByteArray)(a:s.size≤9223372036854775806)(u:Nat)(b:GY 32 s.data.toList=.ok u)(w:Y):
 As Tryz.prog 81 #[Aa s,V Ad 10,V Ad 32] w fun e w'=>e=Ak (AZ #[V Jc u,.nilIface])∧(w'=w∨w'=Lib.bytesWorld w 5 s):=Any.strconv_ParseUint_10_at32_ok jT s a u b w
def ZL:B6:=⟨fun|17=>159|15=>212|20=>249|n=>n,fun|9=>9|23=>223|4=>4|3=>3|0=>0|21=>21|n=>n,fun|n=>n⟩
theorem jU:Go.Proofs.LaysGw.n17 Tryz.prog ZL:={
 mixed:=by kernel_rfl
 f15:=Tryz.func212.trans (congrArg some (by kernel_rfl))
 f17:=Tryz.func159.trans (congrArg some (by kernel_rfl))
 f20:=Tryz.func249.trans (congrArg some (by kernel_rfl))
 t0:=Cf
 a0:=Du
 z0:=C9
 v0:=Cp
 i0:=by kernel_rfl
 t3:=Bq
 a3:=Cy
 z3:=Cg
 v3:=BI
 i3:=by kernel_rfl
 t4:=By
 a4:=Cm
 z4:=Cc
 v4:=BH
 i4:=by kernel_rfl
 t9:=A8
 a9:=Cz
 z9:=Ci
 v9:=BO
 i9:=by kernel_rfl
 t21:=EL
 a21:=GI
 z21:=Gb
 v21:=E0
 i21:=by kernel_rfl
 t23:=G6
 a23:=Tryz.isAgg223
 z23:=Jb
 v23:=Hn
 i23:=by kernel_rfl}
open Go.RowKit Go.Lib in
theorem Tryz.strings_ContainsFunc (g:Nat)(lb:Array h)(a:∀ args w,(GS g args).run Tryz.prog w=Ez (I8 g args) w)(p:Nat→Bool)(s:ByteArray)(w:Y)(b:PredAt Tryz.prog g lb encR p w):
 As Tryz.prog 159 #[Aa s,ER (.func g) #[] lb] w fun e w'=>e=Ak (AE (decide (0≤Lib.idxFunc p true s)))∧IL w.heap.size w w':=Any.strings_ContainsFunc jU g lb a p s w b
def dL:B6:=⟨fun|99=>84|206=>127|n=>n,fun|9=>9|4=>4|3=>3|n=>n,fun|n=>n⟩
theorem qZ:Go.Proofs.Lays.n99 Tryz.prog dL:={
 mixed:=by kernel_rfl
 f99:=Tryz.func84.trans (congrArg some (by kernel_rfl))
 f206:=Tryz.func127.trans (congrArg some (by kernel_rfl))
 t3:=Bq
 a3:=Cy
 z3:=Cg
 v3:=BI
 t4:=By
 a4:=Cm
 z4:=Cc
 v4:=BH
 t9:=A8
 a9:=Cz
 z9:=Ci
 v9:=BO}
open Go.RowKit Go.Lib in
theorem Tryz.strings_HasPrefix (s p:ByteArray)(w:Y):
 As Tryz.prog 84 #[Aa s,Aa p] w fun e w'=>e=Ak (AE (Fe s.data.toList p.data.toList))∧w'=w:=Any.strings_HasPrefix qZ s p w
def Z0:B6:=⟨fun|157=>83|229=>125|199=>126|261=>171|311=>220|312=>221|n=>n,fun|9=>9|31=>34|3=>3|5=>5|4=>4|119=>221|0=>0|40=>223|152=>280|21=>21|154=>282|51=>24|141=>284|196=>346|193=>343|198=>349|49=>347|194=>344|201=>352|226=>384|46=>271|227=>385|n=>n,fun|0=>2|6=>3|n=>n⟩
theorem mZ:Go.Proofs.Lays.n157 Tryz.prog Z0:={
 mixed:=by kernel_rfl
 f157:=Tryz.func83.trans (congrArg some (by kernel_rfl))
 f199:=Tryz.func126.trans (congrArg some (by kernel_rfl))
 f229:=Tryz.func125.trans (congrArg some (by kernel_rfl))
 f261:=Tryz.func171.trans (congrArg some (by kernel_rfl))
 f311:=Tryz.func220.trans (congrArg some (by kernel_rfl))
 f312:=Tryz.func221.trans (congrArg some (by kernel_rfl))
 t0:=Cf
 a0:=Du
 z0:=C9
 v0:=Cp
 t3:=Bq
 a3:=Cy
 z3:=Cg
 v3:=BI
 t4:=By
 a4:=Cm
 z4:=Cc
 v4:=BH
 t5:=B2
 a5:=DC
 z5:=Da
 v5:=CI
 t9:=A8
 a9:=Cz
 z9:=Ci
 v9:=BO
 t21:=EL
 a21:=GI
 z21:=Gb
 v21:=E0
 t31:=Bu
 a31:=Fy
 z31:=Fb
 v31:=Ef
 t40:=G6
 a40:=Tryz.isAgg223
 z40:=Jb
 v40:=Hn
 t46:=Db
 a46:=Ea
 z46:=DV
 v46:=Dk
 t49:=Tryz.underlying347
 a49:=Tryz.isAgg347
 z49:=Tryz.sizeOf347
 v49:=Tryz.zeroValue347
 t51:=Ch
 a51:=Ep
 z51:=DR
 v51:=Dx
 t119:=Tryz.underlying221
 a119:=Tryz.isAgg221
 z119:=Tryz.sizeOf221
 t141:=Tryz.underlying284
 a141:=Tryz.isAgg284
 z141:=Tryz.sizeOf284
 v141:=Tryz.zeroValue284
 t152:=Tryz.underlying280
 a152:=Tryz.isAgg280
 z152:=Tryz.sizeOf280
 v152:=Tryz.zeroValue280
 t154:=Tryz.underlying282
 a154:=Tryz.isAgg282
 z154:=Tryz.sizeOf282
 v154:=Tryz.zeroValue282
 t193:=Tryz.underlying343
 a193:=Tryz.isAgg343
 z193:=Tryz.sizeOf343
 v193:=Tryz.zeroValue343
 t194:=Tryz.underlying344
 a194:=Tryz.isAgg344
 z194:=Tryz.sizeOf344
 v194:=Tryz.zeroValue344
 t196:=Tryz.underlying346
 a196:=Tryz.isAgg346
 z196:=Tryz.sizeOf346
 v196:=Tryz.zeroValue346
 t198:=Tryz.underlying349
 a198:=Tryz.isAgg349
 z198:=Tryz.sizeOf349
 v198:=Tryz.zeroValue349
 t201:=Tryz.underlying352
 a201:=Tryz.isAgg352
 z201:=Tryz.sizeOf352
 v201:=Tryz.zeroValue352
 t226:=Tryz.underlying384
 a226:=Tryz.isAgg384
 z226:=Tryz.sizeOf384
 v226:=Tryz.zeroValue384
 t227:=Tryz.underlying385
 a227:=Tryz.isAgg385
 z227:=Tryz.sizeOf385
 v227:=Tryz.zeroValue385
 g0:=by kernel_rfl
 g6:=by kernel_rfl}
open Go.RowKit Go.Lib in
theorem Tryz.strings_Fields (s:ByteArray)(w:Y)(a:s.size<4294967281)(c:∀ (j:Nat) b,s.data.toList[j]?= some b→b.toNat<128)(d:Jm Tryz.prog w "strings.asciiSpace" BJ Lib.asciiSpaceTab):
 As Tryz.prog 83 #[Aa s] w fun e w'=>
  e=Ak (J (some ⟨w.heap.size,0,none⟩) (F6 s.data.toList).length (F6 s.data.toList).length)∧w'=w.alloc (Ab ((F6 s.data.toList).map fun l=>Aa ⟨l.toArray⟩).toArray 9):=Any.strings_Fields mZ (by kernel_rfl) (by kernel_rfl) s w a c d
def Z4:B6:=⟨fun|109=>158|n=>n,fun|31=>34|9=>9|3=>3|0=>0|4=>4|n=>n,fun|n=>n⟩
theorem mg:Go.Proofs.Lays.n109 Tryz.prog Z4:={
 mixed:=by kernel_rfl
 f109:=Tryz.func158.trans (congrArg some (by kernel_rfl))
 t0:=Cf
 a0:=Du
 z0:=C9
 v0:=Cp
 t3:=Bq
 a3:=Cy
 z3:=Cg
 v3:=BI
 t4:=By
 a4:=Cm
 z4:=Cc
 v4:=BH
 t9:=A8
 a9:=Cz
 z9:=Ci
 v9:=BO
 t31:=Bu
 a31:=Fy
 z31:=Fb
 v31:=Ef}
open Go.Lib in
theorem Tryz.slices_Index_string (b off n c:Nat)(a:List ByteArray)(x:ByteArray)(w:Y)(d:n≤a.length)(f:n≤9223372036854775807)(hc:∀ j,j<a.length→w.cell? ⟨b,off+j,none⟩=some (Aa (a.getD j Fh))):
 As Tryz.prog 158 #[J (some ⟨b,off,none⟩) n c,Aa x] w fun e w'=>e=Ak (V Ad (Iz (a.take n) x))∧w'=w:=Any.slices_Index_string mg b off n c a x w d f hc
def Z5:B6:=⟨fun|110=>120|109=>158|n=>n,fun|31=>34|9=>9|4=>4|3=>3|0=>0|n=>n,fun|n=>n⟩
theorem mh:Go.Proofs.Lays.n110 Tryz.prog Z5:={
 mixed:=by kernel_rfl
 f109:=Tryz.func158.trans (congrArg some (by kernel_rfl))
 f110:=Tryz.func120.trans (congrArg some (by kernel_rfl))
 t0:=Cf
 a0:=Du
 z0:=C9
 v0:=Cp
 t3:=Bq
 a3:=Cy
 z3:=Cg
 v3:=BI
 t4:=By
 a4:=Cm
 z4:=Cc
 v4:=BH
 t9:=A8
 a9:=Cz
 z9:=Ci
 v9:=BO
 t31:=Bu
 a31:=Fy
 z31:=Fb
 v31:=Ef}
open Go.Lib in
theorem Tryz.slices_Contains_string (b off n c:Nat)(a:List ByteArray)(x:ByteArray)(w:Y)(d:n≤a.length)(f:n≤9223372036854775807)(hc:∀ j,j<a.length→w.cell? ⟨b,off+j,none⟩=some (Aa (a.getD j Fh))):
 As Tryz.prog 120 #[J (some ⟨b,off,none⟩) n c,Aa x] w fun e w'=>e=Ak (AE (Lib.containsS (a.take n) x))∧w'=w:=Any.slices_Contains_string mh b off n c a x w d f hc
end Go.Proofs
namespace Go.Proofs.YtmkomefmgcpnbaaGreatDoor
open Tryz Pg Go Go.Proofs Go.RowKit Go.Sort Go.Lib
open _root_.Array renaming length_toList→Ed,toList_extract→ES,replicate→CD,size_replicate→DD,toList_inj→F9
open _root_.ByteArray renaming data_extract→Er,empty→Fh,ext→DS,size_extract→DO
open Go renaming Calls→As,Value→h,World→Y,TypeId→AK,heap_alloc_new→Aj,Ending→BX,heap_alloc2_old→AP,wpList_store_row→CK
open Go.IntKind renaming i64→Ad,u64→Jc,u8→BJ,u32→Af,wrap_u32→Eg
open Go.Lib renaming hid→D,indexByte→Ck,fields→F6,idxOfS→Iz,decDigits→Df,nDigits→Ej,zeros24→Gk,parseUintB→GY,hasPrefix→Fe
open Go.Proofs renaming intOf→AX,enters_of→F8
open Go.RowKit renaming Below→IL,Hid→AA
open Go.Value renaming int→V,string→Aa,bool→AE,slice→J,pointer→Ae,agg→AN,oneCell'→CT,tuple→AZ
open _root_.List renaming drop_drop→ET,extract_eq_take_drop→DY,length_drop→Cr,take_of_length_le→DN,all_eq_true→A7,getD_eq_getElem?_getD→B0,getElem?_eq_getElem→Al,getElem?_map→Bh,getElem?_toArray→EJ,getElem_mem→F7,length_map→AI,map_cons→B7,mem_map→D4,mem_of_getElem?→AD,append_nil→BP,length_take→BD,mem_cons→AH,take_succ_cons→DL,foldl_append→FB,foldl_cons→IP,drop_eq_getElem_cons→AR,drop_eq_nil_of_le→DM,getElem?_eq_some_iff→Ao
open _root_.Nat renaming le_refl→Aw,le_trans→AL,lt_of_lt_of_le→Ar,zero_add→BF,blt_eq→Dm,blt→Be,eq_zero_or_pos→GW,mod_eq_of_lt→Bf,pow_succ→D6,ble→A6,lt_or_ge→Dg,min_eq_left→CJ
open _root_.Or renaming inl→AO,inr→AB
open _root_.UInt8 renaming toNat_inj→CH,ofNat→I9,toNat_lt→Fw
open _root_.Bool renaming and_eq_true→Ah,eq_false_iff→AJ,eq_iff_iff→Bl,false_eq_true→BL,not_eq_true'→Dl,or_eq_true→DZ
open Go.ByteArray renaming toList_eq→Br
open Go.Ending renaming returned→Ak
open Go.Obj renaming cells→Ab
open Go.Proofs.Tryz renaming underlying23→B8,underlying275→Fm,underlying5→B2,underlying9→A8,func47→Gm,ntmps47→Fz,results47→EU,underlying85→D7
open Go.Result renaming ok→Ez
open Go.Instr renaming build→D8
open Go.World renaming size_alloc→E3
open _root_.Option.some renaming inj→DJ
structure Mg (w:Y):Prop where
 sp:Lib.TabBelow prog 13 w "strings.asciiSpace" BJ Lib.asciiSpaceTab
 p10:Lib.TabBelow prog 13 w "internal/strconv.uint64pow10" Jc Lib.pow10Tab
 lt:13≤w.heap.size
theorem Mg.upd {w w':Y}{G:Nat→Prop}(a:Mg w)(u:JK G w w')(c:∀ k,G k→13≤k):Mg w':=by
 have b:IL 13 w w':=⟨u.os,u.tape,u.output,u.size,fun k d=>u.block k (Ar d a.lt) fun q=>by have:=c k q;omega⟩;exact⟨Lib.TabBelow.on a.sp b,Lib.TabBelow.on a.p10 b,AL a.lt u.size⟩
theorem Mg.ext {w w':Y}(b:Mg w)(e:Ext w w'):Mg w':=b.upd (Gl (G:=fun _=>False) e) (fun _ q=>q.elim)
def Jw (l:List Bs):List h:=l.map fun s=>Aa (str s)
theorem XV:∀ l:Bs,(Ck l 10= -1∧KZ true l=l.length)∨∃ o:Nat,Ck l 10=o∧o<l.length∧KZ true l=o+KZ false (l.drop o)
 |[]=>AO ⟨rfl,rfl⟩
 |b::l=>by
  by_cases a:b=10
  ·subst a;exact AB ⟨0,rfl,by simp,by simp [KZ]⟩
  ·have e:(b==10)=false:=by simpa using a
   rcases XV l with⟨h1,c⟩|⟨o,h1,c,d⟩
   ·refine AO ⟨?_,?_⟩
    ·rw [Ck,e,h1];rfl
    ·rw [KZ,if_neg a,c];rfl
   ·refine AB ⟨o+1,?_,by simpa using c,?_⟩
    ·have:((o:Int)== -1)=false:=by simp
     rw [Ck,e,h1,this];simp
    ·rw [KZ,if_neg a,d,List.drop_succ_cons];omega
theorem fQ (S:ByteArray)(n:Nat):bs (S.extract n S.size)=(bs S).drop n:=by
 unfold bs;rw [Er,ES,DY];exact DN (by rw [Cr,Ed];exact Aw _)
theorem z16 (S:ByteArray)(at_:Nat)(w:Y)(z:at_≤S.size)(G:S.size≤100000):
 As prog 48 #[Aa S,V Ad at_] w (Ret (V Ad ((at_+KZ false ((bs S).drop at_):Nat):Int)) w):=by
 go_enter func48,ntmps48;go_wp2
 go_loop [1] (fun s=>∃ n:Nat,s=V Ad n∧n≤S.size∧AA (at_+KZ false ((bs S).drop at_)=n+KZ false ((bs S).drop n))) (fun s=>S.size - (AX s).toNat)
 case atStart=>exact⟨at_,rfl,z,D rfl⟩
 case round=>
  obtain⟨n,rfl,H,g⟩:=hrel;by_cases k:n<S.size
  ·obtain⟨c,I,hc,a⟩:=og k;have b:=D (jP k);by_cases h:c=32∨c=9∨c=10
   ·have d:AA (KZ false ((bs S).drop n)=KZ false ((bs S).drop (n+1))+1):=D (by
     rw [b,KZ,if_pos]
     rcases h with e|e|e
     ·exact AO (CH.1 (by rw [a,e];rfl))
     ·exact AB (AO (CH.1 (by rw [a,e];rfl)))
     ·exact AB (AB (CH.1 (by rw [a,e];rfl))))
    clear a;rcases h with rfl|rfl|rfl
    all_goals
     go_wp2
     go_round
     case rel=>exact⟨n+1,by go_num,by omega,D (by rw [g,d];omega)⟩
     case measure=>simp [AX];omega
   ·have r:c≠32:=fun e=>h (AO e)
    have t:c≠9:=fun e=>h (AB (AO e))
    have u:c≠10:=fun e=>h (AB (AB e))
    have K:((c:Int)==32)=false:=by simp;omega
    have L:((c:Int)==9)=false:=by simp;omega
    have M:((c:Int)==10)=false:=by simp;omega
    have l:AA (¬(S[n]=32∨S[n]=9∨S[n]=10)):=D (by
     rintro(q|q|q)
     ·exact r (by rw [←a,q];rfl)
     ·exact t (by rw [←a,q];rfl)
     ·exact u (by rw [←a,q];rfl))
    by_cases m:c=35
    ·have d:AA (KZ false ((bs S).drop n)=KZ true ((bs S).drop n)):=D (by
      have v:S[n]=35:=CH.1 (by rw [a,m];rfl)
      have A:KZ false (S[n]::(bs S).drop (n+1))=KZ true ((bs S).drop (n+1))+1:=by rw [KZ,if_neg l,if_pos v]
      have B:KZ true (S[n]::(bs S).drop (n+1))=KZ true ((bs S).drop (n+1))+1:=by rw [KZ,if_neg (by rw [v];decide)]
      rw [b,A,B])
     have C:=D (XV ((bs S).drop n));have E:AA ((S.extract n S.size).data.toList=(bs S).drop n):=D (fQ S n);have i:=D (fun W=>strings_IndexByte (S.extract n S.size) 10 W);have F:((10:Int).toNat.toUInt8)=10:=rfl;rw [E,F]at i;have x:AA (((bs S).drop n).length=S.size - n):=D (by rw [Cr,VC]);subst m;clear a r t u;rcases C with⟨f,j⟩|⟨o,f,j,y⟩
     ·rw [f]at i;have p:AA (at_+KZ false ((bs S).drop at_)=S.size):=D (by rw [g,d,j,x];omega);clear f j;go_wp2_with (go_at_call 85;refine(i _).mono ?_;rintro e w' ⟨rfl,rfl⟩);go_ret;exact tY (by have:=p.out;omega)
     ·rw [f]at i;rw [x]at j;have N:¬ ((o:Int)<0):=by omega
      have O:o≠0:=by
       intro q;subst q;have:=(Lib.indexByte_some f).1;rw [b]at this;simp at this;exact l (AB (AB this))
      have p:AA (at_+KZ false ((bs S).drop at_)=(n+o)+KZ false ((bs S).drop (n+o))):=D (by rw [g,d,y,ET];omega);clear f y;go_wp2_with (go_at_call 85;refine(i _).mono ?_;rintro e w' ⟨rfl,rfl⟩)
      go_round
      case rel=>exact⟨n+o,by go_num,by omega,p⟩
      case measure=>simp [AX];omega
    ·have d:AA (KZ false ((bs S).drop n)=0):=D (by
      rw [b,KZ,if_neg l,if_neg]
      intro q
      exact m (by rw [←a,q];rfl))
     have P:((c:Int)==35)=false:=by simp;omega
     clear a;go_wp2;go_ret;exact tY (by have:=g.out;have:=d.out;omega)
  ·have b:=D (YW k);go_wp2;go_ret;have Q:KZ false ((bs S).drop n)=0:=by rw [b,KZ]
   exact tY (by have:=g.out;omega)
theorem RV {l:List Bs}{j:Nat}{s:Bs}(b:l[j]?= some s):(Jw l)[j]?= some (Aa (str s)):=by rw [Jw,Bh,b];rfl
theorem WR {w:Y}{g:Nat}{l:List Bs}{t:AK}(a:w.heap[g]?= some (Ab (Jw l).toArray t (0,0))){j:Nat}{s:Bs}(b:l[j]?= some s):w.cell? ⟨g,j,none⟩=some (Aa (str s)):=by
 rw [JA a j,EJ,RV b]
theorem ZM (l:List Bs)(j:Nat):(l.map str).getD j Fh=str (l.getD j []):=by
 rw [B0,B0,Bh];cases l[j]? <;>rfl
theorem uA {w:Y}{g:Nat}{l:List Bs}{t:AK}(b:w.heap[g]?= some (Ab (Jw l).toArray t (0,0))):∀ j,j<(l.map str).length→w.cell? ⟨g,0+j,none⟩=some (Aa ((l.map str).getD j Fh)):=by
 intro j a;rw [AI]at a;rw [BF,ZM,B0,Al a];exact WR b (Al a)
theorem VO (s:Bs):∀ (l:List Bs)(k:Nat),(∀i,LK s l k=some i→Lib.idxFromS (l.map str) (str s) k=i)∧(LK s l k=none→Lib.idxFromS (l.map str) (str s) k= -1)
 |[],k=>⟨fun i a=>(by cases a),fun _=>rfl⟩
 |x::l,k=>by
  rw [LK,B7,Lib.idxFromS];by_cases a:x=s
  ·subst a;rw [if_pos ((Ko _ _).2 rfl)];exact⟨fun i b=>(by cases b;simp),fun b=>(by cases b)⟩
  ·have h1:LJ x s=false:=by rw [AJ];exact fun q=>a ((Ko _ _).1 q)
   have c:str x≠str s:=fun q=>a (str_inj q)
   rw [h1];simp only [BL,if_false,if_neg c];exact VO s l (k+1)
theorem Z6 {s:Bs}{l:List Bs}(a:LK s l 0=none):Iz (l.map str) (str s)= -1:=(VO s l 0).2 a
theorem Z7 {s:Bs}{l:List Bs}{i:Nat}(b:LK s l 0=some i):Iz (l.map str) (str s)=i:=(VO s l 0).1 i b
theorem YY (s:Bs)(l:List Bs)(w:Y)(a:Mg w)(d:F6 s=l)(f:s.length<4294967281)(g:∀ c∈s,c.toNat<128):
 As prog 83 #[Aa (str s)] w fun e w'=>e=Ak (J (some ⟨w.heap.size,0,none⟩) l.length l.length)∧w'=w.alloc (Ab (Jw l).toArray 9):=by
 have:=strings_Fields (str s) w (by rw [KO];exact f) (fun j b h=>g b (AD h)) a.sp.here;rw [show(str s).data.toList=s from L6 s,d]at this;exact this
def zI1:Bs:=[97,114,114,97,121,32,98,114,101,97,107,32,99,111,110,115,116,32,99,111,110,116,105,110,117,101,32,101,108,115,101,32,102,117,110,99,32,103,101,116,32,105,102,32,112,117,116,32,114,101,116,117,114,110,32,115,116,111,112,32,118,97,114,32,119,104,105,108,101]
theorem yZ:F6 zI1=UD:=by decide+kernel
theorem Rl (s:Bs)(l:List Bs):Oc s l=true↔s∈l:=by
 unfold Oc;rw [List.any_eq_true];constructor
 ·rintro⟨x,a,b⟩;rw [(Ko _ _).1 b];exact a
 ·intro c;exact⟨s,c,(Ko _ _).2 rfl⟩
theorem XW (s:Bs)(l:List Bs):Lib.containsS (l.map str) (str s)=Oc s l:=by
 rw [Bl,Lib.containsS_iff,Rl,D4];constructor
 ·rintro⟨x,a,b⟩;rw [←str_inj b];exact a
 ·intro c;exact⟨s,c,rfl⟩
theorem ZN (s:Bs)(w:Y)(b:Mg w):As prog 79 #[Aa (str s)] w fun e w'=>e=Ak (AE (UE s))∧w'=w.alloc (Ab (Jw UD).toArray 9):=by
 have c:=D (YY zI1 UD w b yZ (by decide) (by decide));have a:=D (slices_Contains_string w.heap.size 0 13 13 (UD.map str) (str s) (w.alloc (Ab (Jw UD).toArray 9)) (by decide) (by omega) (uA (Aj w _)));rw [show(UD.map str).take 13=UD.map str from rfl,XW]at a;go_enter func79,ntmps79;go_wp2_with (first|(go_at_call 83;refine c.mono ?_;rintro e w' ⟨rfl,rfl⟩)|(go_at_call 120;refine a.mono ?_;rintro e w' ⟨rfl,rfl⟩));go_ret;exact⟨rfl,rfl⟩
def Wz (x:Nat):Bool:= !(decide (97≤x)&&decide (x≤122)||decide (48≤x)&&decide (x≤57))
theorem yg (x:Nat)(W:Y):As prog 160 #[V .i32 x] W fun e w'=>e=Ak (AE (Wz x))∧∃ q,w'=W.drewN q:=by
 have a:AA (Wz x= !(decide (97≤x)&&decide (x≤122)||decide (48≤x)&&decide (x≤57))):=D rfl;by_cases h1:x<97<;>by_cases g:122<x<;>by_cases h:x<48<;>by_cases i:57<x
 all_goals first|(exfalso;omega)|skip
 all_goals
  have b:decide (97≤x)= !decide (x<97):=by rw [Bl];simp
  have c:decide (x≤122)= !decide (122<x):=by rw [Bl];simp
  have d:decide (48≤x)= !decide (x<48):=by rw [Bl];simp
  have f:decide (x≤57)= !decide (57<x):=by rw [Bl];simp
  rw [b,c,d,f]at a;clear b c d f;go_enter func160,ntmps160;go_wp2;go_ret;refine⟨?_,0,rfl⟩;rw [a];simp [h1,g,h,i]
  try omega
theorem VP (s:Bs)(b:∀ c∈s,c.toNat<128∧Wz c.toNat=false):∀ (f pos:Nat),Lib.idxFuncFrom Wz true (str s) f pos= -1
 |0,_=>rfl
 |f+1,pos=>by
  unfold Lib.idxFuncFrom;by_cases a:pos<(str s).size
  ·rw [if_pos a];have g:pos<s.length:=by rw [←KO];exact a
   have d:=b s[pos] (F7 g);have e:(str s)[pos]'a=s[pos]:=rfl;rw [decode_ascii (str s) pos a (by rw [e];exact d.1),e];simp only [d.2,BL,if_false];exact VP s b f (pos+1)
  ·rw [if_neg a]
theorem jV {s:Bs}(a:Si s=true):s≠[]∧(∀c∈s,c.toNat<128∧Wz c.toNat=false)∧∀ c b,s=c::b→97≤c.toNat∧c.toNat≤122:=by
 unfold Si at a;cases s with
 |nil=>cases a
 |cons c b=>
  simp only [Ah,A7]at a;obtain⟨h1,d⟩:=a;refine⟨by simp,fun x f=>?_,fun c' g e=>?_⟩
  ·have:=d x f;unfold K4 OC at this;simp only [DZ,Ah,decide_eq_true_eq]at this;refine⟨by omega,?_⟩;unfold Wz;rcases this with q|q<;>simp [q.1,q.2]
  ·cases e;unfold OC at h1;simpa using h1
theorem zO4 (s:Bs)(w:Y)(b:Si s=true):As prog 121 #[Aa (str s)] w fun e w'=>e=Ak (AE true)∧Ext w w':=by
 obtain⟨h1,d,f⟩:=jV b;have g:=D (fun W=>strings_ContainsFunc 160 #[] (F8 func160 (by kernel_rfl) rfl) Wz (str s) W (fun l x _=>yg x l));have h:Lib.idxFunc Wz true (str s)= -1:=VP s d _ _;rw [h]at g;obtain⟨c,a,rfl⟩:∃ c a,s=c::a:=by cases s with|nil=>exact absurd rfl h1|cons c a=>exact⟨c,a,rfl⟩
 have i:=f c a rfl;have hlen:0<(str (c::a)).size:=by rw [KO];simp
 have hc:(((str (c::a))[0]'hlen).toNat:Int)=(c.toNat:Int):=rfl;have n:¬ (str (c::a)).toList=[]:=by rw [Br];simp [str]
 have o:(str (c::a)).toList.isEmpty=false:=by rw [Br];simp [str]
 obtain⟨k,j⟩:=JH c.toNat;rw [←j]at hc i;have p:97≤(k:Int):=by omega
 have q:(k:Int)≤122:=by omega
 clear j f d h1 b h i;generalize str (c::a)=S at*
 go_enter func121,ntmps121;go_wp2_with (go_at_call 159;refine(g _).mono ?_;rintro e w' ⟨rfl,m⟩);go_ret;exact⟨rfl,m⟩
theorem Ot (s:Bs)(w:Y)(b:Mg w)(a:Mt s=true):As prog 80 #[Aa (str s)] w fun e w'=>e=Ak (AE true)∧Ext w w':=by
 unfold Mt at a;simp only [Ah,Dl]at a;obtain⟨⟨h1,c⟩,d⟩:=a;have j:(str s).size≤12:=by rw [KO];simpa using c
 have i:=D (zO4 s w h1);have f:=D (fun(W:Y) (x:Ext w W)=>ZN s W (b.ext x));rw [d]at f;clear h1 c d b;generalize str s=S at*
 go_enter func80,ntmps80;go_wp2_with fail;refine i.mono ?_
 rintro e k ⟨rfl,g⟩;have h:=D g;clear g;go_wp2_with fail;refine(f _ h).mono ?_
 rintro e l ⟨rfl,rfl⟩;go_wp2_with fail;go_ret;exact⟨rfl,h.alloc _⟩
def qa:Bs:=[33,32,45,32,126,32,42,32,47,32,37,32,60,60,32,62,62,32,38,32,43,32,45,32,124,32,94,32,61,61,32,33,61,32,60,32,60,61,32,62,32,62,61,32,38,38,32,124,124]
theorem jW:F6 qa=Pg.ops:=by decide+kernel
theorem VE (op:Nat)(w:Y)(d:Mg w)(h1:1≤op)(f:op≤21):As prog 229 #[V Ad op] w fun e w'=>e=Ak (Aa (str (MM op)))∧w'=w.alloc (Ab (Jw Pg.ops).toArray 9):=by
 have b:=D (YY qa Pg.ops w d jW (by decide) (by decide));obtain⟨k,rfl⟩:∃ k,op=k+1:=⟨op - 1,by omega⟩;have a:k<Pg.ops.length:=by show k<21;omega
 have hc:(w.alloc (Ab (Jw Pg.ops).toArray 9)).cell? ⟨w.heap.size,k,none⟩=some (Aa (str (MM (k+1)))):=by
  rw [WR (Aj w _) (Al a)];unfold MM;rw [Nat.add_sub_cancel,Al a];rfl
 generalize MM (k+1)=R at*
 generalize(Jw Pg.ops).toArray=cz at*
 have hle:k<21:=a;have c:Pg.ops.length=21:=rfl;rw [c]at b;clear a c;go_enter func229,ntmps229;go_wp2_with (go_at_call 83;refine b.mono ?_;rintro e w' ⟨rfl,rfl⟩);go_ret;exact⟨rfl,rfl⟩
theorem jX (w:Y)(k:Nat)(a:Array Obj):Ext w (Sort.grow (w.drewN k) a):=by
 refine⟨rfl,rfl,rfl,by simp [Sort.grow],fun b c=>?_⟩;show(w.heap++a)[b]?= w.heap[b]?
 rw [Array.getElem?_append_left c]
theorem zO5 (w:Y)(o:Obj)(a:Array UInt8)(k:Nat):∃ c,(putRow (fun(b:UInt8)=>V BJ (b.toNat:Int)) (w.alloc o) w.heap.size 0 a).drewN k=grow (w.drewN k) c:=by
 rw [alloc_eq_grow];obtain⟨d,_,e⟩:=putRow_grow_new (fun(b:UInt8)=>V BJ (b.toNat:Int)) w #[o] w.heap.size 0 a (Aw _);exact⟨d,by rw [e];rfl⟩
theorem jY (u:Nat)(w:Y)(d:u<18446744073709551616)(f:Mg w):
 As prog 124 #[V Jc u,V Ad 10] w fun e w'=>e=Ak (Aa ⟨(Df u).toArray⟩)∧Ext w w':=by
 by_cases o:u<100
 ·have p:=D (fun W=>internal_strconv_small u o W);clear f;go_enter func124,ntmps124;go_wp2_with (go_at_call 167;refine(p _).mono ?_;rintro e w' ⟨rfl,rfl⟩);go_ret;exact⟨rfl,Ext.refl _⟩
 ·have i:1≤u:=by omega
  have x:Ej u≤20:=by have:=Lib.numDigits_eq u i d;split at this<;>omega
  have y:Ej u≤24:=by omega
  have l:prog.arrayLen 275=24:=by kernel_rfl
  have q:prog.elem 275=prog.elem 275:=rfl;have z:∀ W,(Instr.sliceAt 275 (Ae (some ⟨w.heap.size,0,none⟩)) none (some (V Ad (Ej u:Int))) none).run prog W=Ez (J (some ⟨w.heap.size,0,none⟩) (Ej u) 24) W:=fun W=>by
   rw [run_sliceAt_array_h W 275 ⟨w.heap.size,0,none⟩ (by simp [Program.arrayLen,Program.elem,Fm]) Ad (Ej u:Int) (by omega) (by rw [l];omega)];go_simp
  have g:Holds (fun(b:UInt8)=>V BJ (b.toNat:Int)) (w.alloc (Ab Gk 275)) w.heap.size 0 (CD (Ej u) 0):=by
   intro j a;rw [DD]at a;refine⟨?_,World.frozen?_alloc_new _ _ _ _⟩;rw [World.cell?_alloc_new,BF,Lib.zeros24_at j (by omega),getElem!_pos _ j (by rw [DD];exact a),Array.getElem_replicate];rfl
  have m:=internal_strconv_formatBase10 w.heap.size 0 24 u (CD (Ej u) 0) (w.alloc (Ab Gk 275)) g (by rw [DD];exact Lib.lt_pow_nDigits u) d (by rw [DD];omega);rw [DD]at m;have r:=D g;have s:=D (fun W=>internal_strconv_numDigits u i d (w.alloc W) (f.ext ((Ext.refl w).alloc W)).p10.here);clear g l q f;go_enter func124,ntmps124;go_wp2_with (go_at_call 168;refine(s _).mono ?_;rintro e w' ⟨rfl,rfl⟩)
  go_at_call 169
  refine m.mono ?_
  rintro e w' ⟨rfl,k,A,c,rfl,h⟩;have B:(convert 23 9 (J (some ⟨w.heap.size,0,none⟩) (Ej u) 24)).run prog ((putRow (fun(b:UInt8)=>V BJ (b.toNat:Int)) (w.alloc (Ab Gk 275)) w.heap.size 0 c).drewN k)=Ez (Aa ⟨(Df u).toArray⟩) ((putRow (fun(b:UInt8)=>V BJ (b.toNat:Int)) (w.alloc (Ab Gk 275)) w.heap.size 0 c).drewN k):=by
   have n:=run_convert_bytes_back (P:=prog) ((putRow (fun(b:UInt8)=>V BJ (b.toNat:Int)) (w.alloc (Ab Gk 275)) w.heap.size 0 c).drewN k) 23 9 5 ⟨w.heap.size,0,none⟩ 24 (Df u) B8 B2 A8 (fun j a=>by
    rw [Lib.row_is_numeral h j a,Lib.add_plain,World.cell?_drewN]
    exact cell?_putRow (fun(b:UInt8)=>V BJ (b.toNat:Int)) _ w.heap.size 0 _ c r (by rw [h.size,DD]) j (by rw [h.size];rw [Lib.decDigits_length]at a;exact a))
   rw [Lib.decDigits_length]at n;exact n
  go_wp2;go_ret;obtain⟨t,v⟩:=zO5 w (Ab Gk 275) c k;refine⟨rfl,?_⟩;rw [v];exact jX w k t
theorem uC:∀ (f n:Nat)(acc:Bs),n<10 ^f→0<f→Ue f n acc=Df n++acc
 |0,_,_,_,a=>absurd a (by omega)
 |f+1,n,acc,a,_=>by
  rw [Ue,Df];by_cases q:n<10
  ·have e:Be n 10=true:=by rw [Dm];exact q
   rw [e,if_pos rfl,dif_pos q,Bf q];rfl
  ·have e:Be n 10=false:=by rw [AJ];intro c;exact q (by rwa [Dm]at c)
   have b:0<f:=by
    rcases GW f with z|z
    ·subst z;simp at a;omega
    ·exact z
   rw [e,dif_neg q,if_neg (by decide),uC f (n /10) _ (by rw [D6]at a;omega) b];simp
theorem jZ (n:Nat)(a:n<18446744073709551616):KN n=Df n:=by
 have:=uC 20 n [] (by omega) (by omega);rw [BP]at this;exact this
theorem VQ (u:Nat)(w:Y)(a:u<18446744073709551616)(b:Mg w):
 As prog 82 #[V Jc u,V Ad 10] w fun e w'=>e=Ak (Aa (str (KN u)))∧Ext w w':=by
 rw [jZ u a];have c:=D (jY u w a b);clear b;go_enter func82,ntmps82;go_wp2_with (go_at_call 124;refine c.mono ?_;rintro e w' ⟨rfl,d⟩);go_ret;exact⟨rfl,d⟩
def qc (t:Tk):Array h:= #[V Ad t.kind,Aa (str t.text),V Af t.num,V Ad t.pos]
def TK:Array h:= #[V Ad 0,Aa ⟨#[]⟩,V Af 0,V Ad 0]
theorem TL:(prog.info? 85).map (·.size)=some 4:=by kernel_rfl
def ZO (w:Y)(t:Tk)(n:Nat)(e:BX)(w':Y):Prop:=e=Ak (AZ #[AN (qc t),V Ad (n:Int)])∧Ext w w'
theorem R3 (k n a:Int)(s:ByteArray)(w:Y):(D8 85 #[(0,V Ad k),(1,Aa s),(2,V Af n),(3,V Ad a)]).run prog w=Ez (AN #[V Ad k,Aa s,V Af n,V Ad a]) w:=by kernel_rfl
theorem ja (a:Int)(w:Y):(D8 85 #[(3,V Ad a)]).run prog w=Ez (AN #[V Ad 0,Aa ⟨#[]⟩,V Af 0,V Ad a]) w:=by kernel_rfl
theorem Z8 (t:Tk):(qc t).all (·.oneCell')=true:=by simp [qc,CT]
theorem zO6 (S:ByteArray)(at_:Nat)(w:Y)(a:at_=S.size)(b:S.size≤100000):
 As prog 47 #[Aa S,V Ad at_] w (ZO w ⟨0,[],0,at_⟩ at_):=by
 subst a;have c:=fun W=>ja (S.size:Int) W
 go_enter Gm,Fz;go_wp2;refine Ow EU D7 TL (Aj w _) ⟨rfl,(Ext.refl w).alloc _⟩
theorem Z9 (S:ByteArray)(n:Nat):S.extract n S.size=str ((bs S).drop n):=by rw [←fQ,VD]
theorem dM (l:Bs)(n:Nat):(str l).extract 0 n=str (l.take n):=by
 apply DS;apply F9.1;rw [Er,ES,DY];simp [str]
theorem XX (p:UInt8→Bool):∀ l:Bs,Mx p l≤l.length
 |[]=>Aw _
 |c::a=>by
  rw [Mx];split
  ·have:=XX p a;simp;omega
  ·simp
theorem yh (S:ByteArray)(at_:Nat)(w:Y)(B:at_≤S.size)(C:S.size≤100000)(p:Mg w)(c:UInt8)(a:Bs)(g:(bs S).drop at_=c::a)(hc:OC c=true)(n:Nat)
 (d:n=Mx (Pq true) (c::a)) (r:(UE ((c::a).take n)||A6 n 12)=true):
 As prog 47 #[Aa S,V Ad at_] w (ZO w ⟨1,(c::a).take n,0,at_⟩ (at_+n)):=by
 have h:=D (Z9 S at_);have i:=D (fun W=>zH9 S at_ true W B C);have j:=D (dM ((bs S).drop at_) n);rw [g]at h i j;rw [←d]at i;have E:n≤(str (c::a)).size:=by rw [d,KO];exact XX _ _
 have hlen:0<(str (c::a)).size:=by rw [KO];simp
 have M:at_<S.size:=by
  rcases Dg at_ S.size with q|q
  ·exact q
  ·rw [YW (by omega)]at g;cases g
 have N:(str (c::a)).size≤100000:=by rw [←h,DO];omega
 have O:(((str (c::a))[0]'hlen).toNat:Int)=(c.toNat:Int):=rfl;have P:97≤(c.toNat:Int):=by unfold OC at hc;simp at hc;omega
 have Q:(c.toNat:Int)≤122:=by unfold OC at hc;simp at hc;omega
 have T:((at_:Int)==(S.size:Int))=false:=by simp;omega
 have f:=D (fun(W:Y) (x:Ext w W)=>ZN ((c::a).take n) W (p.ext x));have hid:UE ((c::a).take n)=false→Mt ((c::a).take n)=true:=by
  intro q;rw [q,Bool.false_or]at r;have U:n≤12:=by simpa using r
  have F:∀ (l:Bs),∀x∈l.take (Mx (Pq true) l),Pq true x=true:=by
   intro l
   induction l with
   |nil=>intro x b;simp at b
   |cons X m G=>
    intro x b;rw [Mx]at b;split at b
    ·rename_i hy;rw [DL]at b;rcases AH.1 b with rfl|b
     ·exact hy
     ·exact G x b
    ·simp at b
  have s:=F (c::a);rw [←d]at s;have Z:1≤n:=by
   rw [d,Mx,if_pos (by unfold Pq;rw [hc];simp)];omega
  unfold Mt;rw [q];simp only [Bool.not_false,Bool.and_true,Ah];refine⟨?_,?_⟩
  ·obtain⟨m,rfl⟩:∃ m,n=m+1:=⟨n - 1,by omega⟩;rw [DL]at s ⊢;unfold Si;simp only [Ah,A7];refine⟨hc,fun x b=>?_⟩;have:=s x b;unfold Pq at this;simpa using this
  ·simp;omega
 have y:=D (fun(q:UE ((c::a).take n)=false) (W:Y) (x:Ext w W)=>Ot ((c::a).take n) W (p.ext x) (hid q));have H:(str ((c::a).take n)).size=n:=by rw [KO,BD,CJ (by rw [←KO];exact E)]
 obtain⟨o,z⟩:=JH ((c::a).take n);rw [←z]at j f y H ⊢;have h0:=fun W=>R3 1 0 (at_:Int) (str o) W
 generalize c.toNat=k at*
 generalize str (c::a)=R at*
 clear z hid r d g hc p;generalize(Jw UD).toArray=cz at*
 have t:=D (AP w (Ab TK 85) (Ab cz 9));cases u:UE o with
 |true=>
  rw [u]at f;go_enter Gm,Fz;go_upto_region 4 with(fail);rw [h];go_wp2_with fail;refine(i _).mono ?_
  rintro e I ⟨rfl,rfl⟩;go_wp2_with fail;rw [j];refine(f _ ((Ext.refl w).alloc _)).mono ?_
  rintro e K ⟨rfl,rfl⟩;go_wp2_with (refine CK rfl 85 _ _ rfl w.heap.size (qc ⟨1,o,0,at_⟩) rfl rfl 85 TK t TL rfl (Z8 _) ?_);refine Ow EU D7 TL (PO t) ⟨rfl,(((Ext.refl w).alloc _).alloc _).setRow (Aw _) _⟩
 |false=>
  rw [u]at f;go_enter Gm,Fz;go_upto_region 4 with(fail);rw [h];go_wp2_with fail;refine(i _).mono ?_
  rintro e I ⟨rfl,rfl⟩;go_wp2_with fail;rw [j];refine(f _ ((Ext.refl w).alloc _)).mono ?_
  rintro e K ⟨rfl,rfl⟩;go_wp2_with fail;refine(y u _ (((Ext.refl w).alloc _).alloc _)).mono ?_
  rintro e h1 ⟨rfl,v⟩;have L:=D v;have A:=D (CE v t);clear v;go_wp2_with (refine CK rfl 85 _ _ rfl w.heap.size (qc ⟨1,o,0,at_⟩) rfl rfl 85 TK A TL rfl (Z8 _) ?_);refine Ow EU D7 TL (PO A) ⟨rfl,((((Ext.refl w).alloc _).alloc _).trans L).setRow (Aw _) _⟩
def PD (acc:Nat)(l:Bs):Nat:=l.foldl (fun n c=>n*10+(c.toNat - 48)) acc
theorem oh:∀ (l:Bs)(acc:Nat),acc≤PD acc l
 |[],acc=>Aw _
 |c::l,acc=>by
  have:=oh l (acc*10+(c.toNat - 48));unfold PD at this ⊢;rw [IP];omega
theorem om:∀ (l:Bs)(acc:Nat),(∀c∈l,K4 c=true)→PD acc l<4294967296→Lib.parseUintM 4294967295 acc l=.ok (PD acc l)
 |[],acc,_,_=>rfl
 |c::l,acc,a,b=>by
  have hc:=a c (by simp);unfold K4 at hc;simp only [Ah,decide_eq_true_eq]at hc;have e:PD acc (c::l)=PD (acc*10+(c.toNat - 48)) l:=rfl;have hle:=oh l (acc*10+(c.toNat - 48));rw [e]at b ⊢;rw [Lib.parseUintM,if_pos hc,if_neg (by omega),if_neg (by omega)];exact om l _ (fun x d=>a x (by simp [d])) b
theorem fT (c:UInt8)(a:K4 c=true):I9 (48+(c.toNat - 48))=c:=by
 unfold K4 at a;simp only [Ah,decide_eq_true_eq]at a;apply CH.1;rw [UInt8.toNat_ofNat'];omega
theorem zO7:∀ (k:Nat)(l:Bs),l.length=k+1→(∀c∈l,K4 c=true)→(k=0∨∀ c,l.head? =some c→c≠48)→Df (PD 0 l)=l∧(k≠0→10 ^k≤PD 0 l):=by
 intro k
 induction k with
 |zero=>
  intro l d a _;obtain⟨c,rfl⟩:=List.length_eq_one_iff.1 d;have hc:=a c (by simp);have f:=fT c hc;unfold K4 at hc;simp only [Ah,decide_eq_true_eq]at hc;refine⟨?_,fun q=>absurd rfl q⟩;have e:PD 0 [c]=c.toNat - 48:=by unfold PD;simp
  rw [e,Df,dif_pos (by omega),f]
 |succ k j=>
  intro l d a n;rcases List.eq_nil_or_concat l with rfl|⟨m,c,rfl⟩
  ·simp at d
  ·rw [List.concat_eq_append]at*
   have h:m.length=k+1:=by simpa using d
   have hc:=a c (by simp);have f:=fT c hc;unfold K4 at hc;simp only [Ah,decide_eq_true_eq]at hc;have i:∀ x,m.head? =some x→x≠48:=by
    intro x g;rcases n with q|q
    ·omega
    ·exact q x (by rw [List.head?_append,g];rfl)
   obtain⟨h1,o⟩:=j m h (fun x g=>a x (by simp [g])) (AB i);have e:PD 0 (m++[c])=PD 0 m*10+(c.toNat - 48):=by unfold PD;rw [FB];rfl
   have u:10 ^k≤PD 0 m:=by
    rcases GW k with z|z
    ·subst z;obtain⟨b,rfl⟩:=List.length_eq_one_iff.1 h;have hy:=a b (by simp);have p:=i b rfl;unfold K4 at hy;simp only [Ah,decide_eq_true_eq]at hy;have r:PD 0 [b]=b.toNat - 48:=by unfold PD;simp
     rw [r];have:b.toNat≠48:=fun q=>p (CH.1 (by rw [q];rfl))
     simp;omega
    ·exact o (by omega)
   have v:0<10 ^k:=Nat.pow_pos (by omega);refine⟨?_,fun _=>by rw [e,D6];omega⟩;rw [e,Df,dif_neg (by omega)];have s:(PD 0 m*10+(c.toNat - 48)) /10=PD 0 m:=by omega
   have t:(PD 0 m*10+(c.toNat - 48)) %10=c.toNat - 48:=by omega
   rw [s,t,h1,f]
theorem XY {d:Bs}{v:Nat}(a:Ud d=some v)(e:∀ c∈d,K4 c=true):v<4294967296∧GY 32 d=.ok v∧KN v=d:=by
 have key:v=PD 0 d∧v<4294967296∧d≠[]∧(d.length=1∨∀ c,d.head? =some c→c≠48):=by
  unfold Ud at a;split at a
  ·cases a
  ·rename_i c;cases a;have:=Fw c;exact⟨by unfold PD;simp,by omega,by simp,AO rfl⟩
  ·rename_i c l _;split at a
   ·cases a
   ·rename_i hc;split at a
    ·rename_i b;cases a;exact⟨rfl,b,by simp,AB fun x h=>by cases h;exact hc⟩
    ·cases a
 obtain⟨b,f,g,i⟩:=key;refine⟨f,?_,?_⟩
 ·unfold GY;rw [if_neg g,show(2:Nat) ^32 - 1=4294967295 from rfl,b];exact om d 0 e (by rw [←b];exact f)
 ·rw [jZ v (by omega),b];obtain⟨k,j⟩:∃ k,d.length=k+1:=⟨d.length - 1,by have:=List.length_pos_iff.2 g;omega⟩;exact(zO7 k d j e (i.imp (fun q=>by omega) id)).1
theorem aB (d:Bs)(v:Nat)(w:Y)(b:d.length≤100000)(a:GY 32 d=.ok v):
 As prog 81 #[Aa (str d),V Ad 10,V Ad 32] w fun e w'=>e=Ak (AZ #[V Jc v,.nilIface])∧Ext w w':=by
 refine(strconv_ParseUint_10_at32_ok (str d) (by rw [KO];omega) v (by rw [show(str d).data.toList=d from L6 d];exact a) w).mono ?_
 rintro e w' ⟨rfl,rfl|rfl⟩
 ·exact⟨rfl,Ext.refl _⟩
 ·exact⟨rfl,Lib.bytesWorld_below w 5 (str d)⟩
theorem dN (p:UInt8→Bool):∀ l:Bs,∀x∈l.take (Mx p l),p x=true
 |[],x,a=>by simp at a
 |b::m,x,a=>by
  rw [Mx]at a;split at a
  ·rename_i hy;rw [DL]at a;rcases AH.1 a with rfl|a
   ·exact hy
   ·exact dN p m x a
  ·simp at a
theorem zO8 (S:ByteArray)(at_:Nat)(w:Y)(F:at_≤S.size)(G:S.size≤100000)(m:Mg w)(c:UInt8)(a:Bs)(b:(bs S).drop at_=c::a)(hc:K4 c=true)(n:Nat)
 (d:n=Mx (Pq false) (c::a)) (v:Nat) (o:Ud ((c::a).take n)=some v):
 As prog 47 #[Aa S,V Ad at_] w (ZO w ⟨2,(c::a).take n,v,at_⟩ (at_+n)):=by
 have f:=D (Z9 S at_);have g:=D (fun W=>zH9 S at_ false W F G);have h:=D (dM ((bs S).drop at_) n);rw [b]at f g h;rw [←d]at g;have H:n≤(str (c::a)).size:=by rw [d,KO];exact XX _ _
 have hlen:0<(str (c::a)).size:=by rw [KO];simp
 have M:at_<S.size:=by
  rcases Dg at_ S.size with q|q
  ·exact q
  ·rw [YW (by omega)]at b;cases b
 have N:(str (c::a)).size≤100000:=by rw [←f,DO];omega
 have O:(((str (c::a))[0]'hlen).toNat:Int)=(c.toNat:Int):=rfl;have P:48≤(c.toNat:Int):=by unfold K4 at hc;simp at hc;omega
 have Q:(c.toNat:Int)≤57:=by unfold K4 at hc;simp at hc;omega
 have T:(c.toNat:Int)<97:=by omega
 have U:((at_:Int)==(S.size:Int))=false:=by simp;omega
 have p:∀ x∈(c::a).take n,K4 x=true:=by
  intro x r;rw [d]at r;have:=dN (Pq false) (c::a) x r;unfold Pq at this;simpa using this
 obtain⟨X,s,t⟩:=XY o p;have Z:Af.wrap (v:Int)=v:=by rw [Eg];omega
 have h0:((v:Int) %4294967296)=v:=by omega
 have u:(str ((c::a).take n)).size=n:=by rw [KO,BD,CJ (by rw [←KO];exact H)]
 have y:((c::a).take n).length≤100000:=by rw [←KO,u];omega
 have z:=D (fun W=>aB ((c::a).take n) v W y s);have i:=D (fun(W:Y) (x:Ext w W)=>VQ v W (by omega) (m.ext x));rw [t]at i;obtain⟨A,B⟩:=JH ((c::a).take n);rw [←B]at h z i u ⊢;have h1:=fun W=>R3 2 v (at_:Int) (str A) W
 generalize c.toNat=k at*
 generalize str (c::a)=R at*
 have I:=D (Aj w (Ab TK 85));clear B d b hc m p o s t y;go_enter Gm,Fz;go_upto_region 4 with(fail);rw [f];go_wp2_with fail;refine(g _).mono ?_
 rintro e h2 ⟨rfl,rfl⟩;go_wp2_with fail;rw [h];refine(z _).mono ?_
 rintro e h3 ⟨rfl,j⟩;have C:=D (((Ext.refl w).alloc _).trans j);have K:=D (CE j I);clear j;go_wp2_with fail;refine(i _ C).mono ?_
 rintro e h4 ⟨rfl,l⟩;have L:=D (C.trans l);have E:=D (CE l K);clear l;go_wp2_with (refine CK rfl 85 _ _ rfl w.heap.size (qc ⟨2,A,v,at_⟩) rfl rfl 85 TK E TL rfl (Z8 _) ?_);refine Ow EU D7 TL (PO E) ⟨rfl,L.setRow (Aw _) _⟩
theorem uD (S:ByteArray)(at_:Nat)(w:Y)(m:at_≤S.size)(n:S.size≤100000)(x:UInt8)(a:Bs)(b:(bs S).drop at_=39::x::39::a)(h1:32≤x.toNat)(h:x.toNat≤126)(e:x≠39)(f:x≠92):
 As prog 47 #[Aa S,V Ad at_] w (ZO w ⟨2,[39,x,39],x.toNat,at_⟩ (at_+3)):=by
 have c:=D (Z9 S at_);have d:=D (dM ((bs S).drop at_) 3);rw [b]at c d;have o:3≤(str (39::x::39::a)).size:=by rw [KO];simp
 have p:at_<S.size:=by
  rcases Dg at_ S.size with q|q
  ·exact q
  ·rw [YW (by omega)]at b;cases b
 have r:(str (39::x::39::a)).size≤100000:=by rw [←c,DO];omega
 have i:0<(str (39::x::39::a)).size:=by omega
 have j:1<(str (39::x::39::a)).size:=by omega
 have q2:2<(str (39::x::39::a)).size:=by omega
 have s:(((str (39::x::39::a))[0]'i).toNat:Int)=39:=rfl;have t:(((str (39::x::39::a))[1]'j).toNat:Int)=(x.toNat:Int):=rfl;have u:(((str (39::x::39::a))[2]'q2).toNat:Int)=39:=rfl;have v:32≤(x.toNat:Int):=by omega
 have y:(x.toNat:Int)≤126:=by omega
 have z:((x.toNat:Int) != 39)=true:=by
  have:x.toNat≠39:=fun q=>e (CH.1 q)
  simp;omega
 have A:((x.toNat:Int) != 92)=true:=by
  have:x.toNat≠92:=fun q=>f (CH.1 q)
  simp;omega
 have B:((at_:Int)==(S.size:Int))=false:=by simp;omega
 have C:Af.wrap (x.toNat:Int)=(x.toNat:Int):=by rw [Eg];omega
 have E:((x.toNat:Int) %4294967296)=(x.toNat:Int):=by omega
 have F:=fun W=>R3 2 x.toNat (at_:Int) ((str (39::x::39::a)).extract 0 3) W
 have g:(39::x::39::a).take 3=[39,x,39]:=rfl;rw [g]at d;generalize l:[39,x,39]=T at*
 generalize x.toNat=k at*
 generalize str (39::x::39::a)=R at*
 have G:=D (Aj w (Ab TK 85));clear l b h1 h e f g;go_enter Gm,Fz;go_upto_region 4 with(fail);rw [c];go_upto_region 18 with(fail)
 go_region
 all_goals go_wp2
 all_goals refine Ow EU D7 TL (by rw [qc,←d];exact Aj w _) ⟨rfl,((Ext.refl w).alloc _).drew⟩
theorem pre_eq:∀ (x l:Bs),Fe l x=OW x l
 |[],l=>by simp [Fe,OW]
 |a::x,[]=>by simp [Fe,OW,List.isPrefixOf]
 |a::x,b::l=>by
  have c:=pre_eq x l;unfold Fe at c ⊢;rw [List.isPrefixOf,OW,c];congr 1;rw [Bl,beq_iff_eq,Nat.beq_eq];exact⟨fun q=>by rw [q],fun q=>CH.1 q⟩
def zI2:Bs:=[60,60,32,62,62,32,61,61,32,33,61,32,60,61,32,62,61,32,38,38,32,124,124,32,43,32,45,32,42,32,47,32,37,32,38,32,124,32,94,32,126,32,33,32,60,32,62,32,61,32,40,32,41,32,91,32,93,32,123,32,125,32,44,32,59]
theorem yj:F6 zI2=Ry:=by decide+kernel
theorem yt {α:Type}(p:α→Bool)(l:List α)(j:Nat)(x:α)(a:l[j]?= some x):(l.drop j).find? p=if p x then some x else(l.drop (j+1)).find? p:=by
 obtain⟨h1,b⟩:=Ao.1 a;rw [AR h1,b,List.find?_cons];cases p x<;>rfl
theorem yu (S:ByteArray)(at_:Nat)(w:Y)(P:at_≤S.size)(Q:S.size≤100000)(n:Mg w)(c:UInt8)(b:Bs)(g:(bs S).drop at_=c::b)(h1:OC c=false)(h:K4 c=false)(o:c≠39)
 (x:Bs) (p:Ry.find? (fun x=>OW x (c::b))=some x):
 As prog 47 #[Aa S,V Ad at_] w (ZO w ⟨3,x,0,at_⟩ (at_+x.length)):=by
 have i:=D (Z9 S at_);rw [g]at i;have hlen:0<(str (c::b)).size:=by rw [KO];simp
 have T:at_<S.size:=by
  rcases Dg at_ S.size with q|q
  ·exact q
  ·rw [YW (by omega)]at g;cases g
 have U:(str (c::b)).size≤100000:=by rw [←i,DO];omega
 have X:(((str (c::b))[0]'hlen).toNat:Int)=(c.toNat:Int):=rfl;have Z:((at_:Int)==(S.size:Int))=false:=by simp;omega
 have h0:((c.toNat:Int)==39)=false:=by
  have:c.toNat≠39:=fun q=>o (CH.1 q)
  simp;omega
 have h2:¬ (97≤c.toNat∧c.toNat≤122):=by unfold OC at h1;simpa using h1
 have h3:¬ (48≤c.toNat∧c.toNat≤57):=by unfold K4 at h;simpa using h
 have r:=D (fun W (x:Ext w W)=>YY zI2 Ry W (n.ext x) yj (by decide) (by decide));have C:=D (fun(a:Bs) W=>strings_HasPrefix (str (c::b)) (str a) W);have E:=D (fun(a:Bs)=>(show Fe (str (c::b)).data.toList (str a).data.toList=OW a (c::b)from by rw [show(str (c::b)).data.toList=c::b from L6 _,show(str a).data.toList=a from L6 _,pre_eq]));have F:=D p;have l:Ry.length=29:=rfl;have t:=D l;rw [l]at r;generalize u:(fun x=>OW x (c::b))=pp at*
 have G:AA (∀a,OW a (c::b)=pp a):=D (fun a=>by rw [←u]);have v:∀ a∈Ry,a.length≤2:=by decide
 have H:=D v;have I:=D (fun(j:Nat) (a:Bs) (y:Ry[j]?= some a)=>WR (Aj (w.alloc (Ab TK 85)) (Ab (Jw Ry).toArray 9)) y);have z:=D (AP w (Ab TK 85) (Ab (Jw Ry).toArray 9));generalize(Jw Ry).toArray=cz at*
 generalize c.toNat=k at*
 generalize str (c::b)=R at*
 generalize Ry=L at*
 clear u g n h1 h o p v l;by_cases h4:97≤k<;>by_cases h5:48≤k<;>by_cases h6:k≤57
 all_goals first|(exfalso;omega)|skip
 all_goals
  go_enter Gm,Fz;go_upto_region 4 with(fail);rw [i]
 all_goals
  go_wp2_with fail;refine(r _ ((Ext.refl w).alloc _)).mono ?_
  rintro e h7 ⟨rfl,rfl⟩;go_wp2_with fail
  go_loop [13,136] (fun _ s=>∃ j:Nat,s=V Ad j∧j≤29∧AA ((L.drop j).find? pp=some x)) (fun _ s=>29 - (AX s).toNat)
  case atStart=>exact⟨0,rfl,by omega,F⟩
  case round=>
   obtain⟨j,rfl,y,m⟩:=hrel;by_cases K:j<29
   ·obtain⟨a,hy⟩:∃ a,L[j]?= some a:=⟨L[j]'(by rw [t];exact K),Al _⟩
    have A:=I j a hy;rw [E3]at A;unfold TK at A;have B:=D (yt pp L j a hy);have h8:=H a (AD hy);have f:=D (fun W=>C a W);rw [E a,G a]at f;have M:=KO a;have h9:=fun W=>R3 3 0 (at_:Int) (str a) W
    clear hy;cases d:pp a with
    |true=>
     have N:a=x:=by
      have:=m.out;rw [B,d,if_pos rfl]at this;exact DJ this
     subst N;rw [d]at f;clear d;go_wp2_with (first|(go_at_call 84;refine(f _).mono ?_;rintro e w' ⟨rfl,rfl⟩)|refine CK rfl 85 _ _ rfl w.heap.size (qc ⟨3,a,0,at_⟩) rfl rfl 85 TK z TL rfl (Z8 _) ?_);refine Ow EU D7 TL (PO z) ⟨?_,(((Ext.refl w).alloc _).alloc _).setRow (Aw _) _⟩;simp [M]
    |false=>
     rw [d]at f;have O:AA ((L.drop (j+1)).find? pp=some x):=D (by
      have:=m.out
      rw [B,d]at this
      simpa using this)
     clear d;go_wp2_with (go_at_call 84;refine(f _).mono ?_;rintro e w' ⟨rfl,rfl⟩)
     go_round
     case rel=>exact⟨j+1,by go_num,by omega,O⟩
     case measure=>simp [AX];omega
   ·exfalso;have:=m.out;rw [DM (by rw [t];omega)]at this;cases this
end Go.Proofs.YtmkomefmgcpnbaaGreatDoor

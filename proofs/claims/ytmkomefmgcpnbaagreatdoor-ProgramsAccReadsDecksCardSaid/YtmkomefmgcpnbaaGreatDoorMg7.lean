import Derived.Test.YtmkomefmgcpnbaaGreatDoorMg6
import Derived.Lib.Builder
import Derived.Lib.UnsafeStr
import Derived.Shelf.Strings.Builder1
import Derived.Shelf.Strings.Builder2
import Derived.Shelf.Strings.OnBuilder
import Derived.Shelf.Small.Wraps
import Derived.Shelf.Strings.BuilderF
import Derived.Shelf.Strings.BuilderK
import Derived.Shelf.Strings.Builder2Cap
import Derived.Shelf.Strings.Cut
import Derived.Shelf.Strings.Count
import Derived.Shelf.Strings.Shaped
import Derived.Shelf.Strings.Split
import Derived.Shelf.Unicode.Latin
import Derived.Shelf.Bits.Mul64
import Derived.Shelf.Strings.Repeat
import Derived.Shelf.Unicode.DecodeSlow
import Derived.Shelf.Unicode.DecodeAny
import Derived.Shelf.Unicode.Is16White
import Derived.Shelf.Unicode.IsSpaceAny
import Derived.Shelf.Strings.FieldsFuncAny
import Derived.Shelf.Unicode.Is16Any
import Derived.Shelf.Unicode.Is32Any
import Derived.Shelf.Unicode.ExclAny
import Derived.Shelf.Strings.BuilderCap
import Derived.Shelf.SlicesE.Clone
set_option linter.all false
set_option maxHeartbeats 12800000
set_option maxRecDepth 100000
namespace Go.Proofs.YtmkomefmgcpnbaaGreatDoor
open Tryz Go Go.Proofs Go.RowKit
open Pg (Bs PS Ex Sm Tk)
open _root_.Array renaming getElem?_eq_some_iff→Ag
open Go renaming Act→CY,Calls→As,Exit→EY,Operand→CC,Oper→B5,Program→BR,TypeId→AK,TypeInfo→Ij,Value→h,World→Y,execOp→CS,maxLen→Bk,wpList_plain→Em,wpList→Dh
open Go.Builtin renaming append_→C8,append→Iq
open Go.Callee renaming builtin→GU
open Go.Departure renaming mixedOrders→Fu
open Go.Ending renaming returned→Ak
open Go.IntKind renaming i64→Ad,u8→BJ
open Go.Lib renaming hid→D,strCells→IB
open Go.Obj renaming cells→Ab
open Go.Op renaming call→Gy
open Go.Oper renaming upon_value→IV,wp→Cb
open Go.Proofs.Tryz renaming func144→IC,underlying124→Et,underlying187→Fo,underlying23→B8,underlying306→Fs,underlying9→A8
open Go.Result renaming andThen_ok→C3,andThen→BM,ok→Ez
open Go.RowKit renaming Hid→AA
open Go.RowKit.Below renaming heap_setCell→AY
open Go.Sem renaming run_bind→Di,run_pure→D3
open Go.Value renaming int→V,pointer→Ae,slice→J,string→Aa,tuple→AZ
open _root_.List renaming length_append→M,map_cons→B7,map_nil→D2,map_toArray→EZ
open _root_.Nat renaming le_refl→Aw,le_trans→AL,lt_of_lt_of_le→Ar,zero_le→Dd
open _root_.Option renaming map_eq_some_iff→DP
open _root_.Or renaming inl→AO,inr→AB
theorem iV {P:BR}(w:Y)(base:Nat)(t u b e:AK)(i:Ij)(d:P.underlying t=some (.slice e))(f:P.underlying u=some .string)(j:P.info? e=some i)(o:i.zero=some (V BJ 0))(p:i.size=1)(q:i.bytes=1)
 (v:h) (n:Nat) (xs:List h) (k:w.ownsRow base e 1 v n xs) (s:ByteArray) (r:n+s.size≤Bk) (y:n+s.size≤140737488355328) (z:base≤w.heap.size):
 ∃l w',(C8 #[t,u] b #[v,Aa s]).run P w=Ez l w'∧za6 w w' base e v l (n+s.size) (xs++IB s):=by
 obtain⟨l,w',m,h1,A,B⟩:=Lib.run_append_own_string (P:=P) w base t u b e i d f j o p q v n xs k s r y z;refine⟨l,w',m,h1,A,?_⟩;have H:n+s.size≤9223372036854775807:=by simp only [Bk]at r;omega
 rcases k.2 with⟨rfl,rfl⟩|⟨g,cap,cur,rfl,I,C,K,L,D,M⟩
 ·by_cases E:s.size=0
  ·left;rw [(B.2 ⟨rfl,E⟩)]
  ·right;have a:=run_append_nil_string (P:=P) w t u b e i (V BJ 0) d f j o s (by omega) (by omega) (by rw [q];omega);rw [m]at a;injection a with c x
   exact⟨w.heap.size,by rw [c];rfl,Aw _⟩
 ·by_cases F:n+s.size≤cap
  ·left;have N:cur.size=cap:=by simpa using D
   have a:=Lib.run_append_room_string (P:=P) w t u b e i d f j p g n cap cur C s F (by omega);rw [m]at a;injection a with c x
   rw [c];rfl
  ·right;have G:xs.length=n:=by simpa using k.1
   have a:=Lib.run_append_grow_string (P:=P) w t u b e i (V BJ 0) d f j o ⟨g,0,none⟩ n cap xs (by rw [p];simpa using G) (k.cells (g:=g) rfl) s (by omega) (by omega) (by rw [q];exact growslice_fits (by omega) (by omega));rw [m]at a;injection a with c x
   exact⟨w.heap.size,by rw [c];rfl,Aw _⟩
theorem Ul {P:BR}{w:Y}{ops:Array B5}{rest:List B5}{o:B5}{a:CY}{Q:EY→CY→Y→Prop}(c:o.guard=none)(sl x:CC)(t u:AK)
 (d:o.op=Gy {callee:=GU Iq,args:= #[sl,x],argTypes:= #[t,u]})
 (base:Nat) (e:AK) (i:Ij) (f:P.underlying t=some (.slice e)) (g:P.underlying u=some .string) (j:P.info? e=some i) (k:i.zero=some (V BJ 0)) (l:i.size=1) (m:i.bytes=1)
 (v:h) (n:Nat) (xs:List h) (p:a.eval sl=v) (q:w.ownsRow base e 1 v n xs) (s:ByteArray) (r:a.eval x=Aa s)
 (y:n+s.size≤Bk) (z:n+s.size≤140737488355328) (A:base≤w.heap.size)
 (B:∀ b w',za6 w w' base e v b (n+s.size) (xs++IB s)→Dh P ops Q rest (a.put o.dst b) w'):Dh P ops Q (o::rest) a w:=by
 refine Em c fun K C=>?_
 obtain⟨b,w',D,E⟩:=iV (P:=P) w base t u o.type e i f g j k l m v n xs q s y z A;unfold Cb CS;simp only [d,resolve,invoke,builtin,Di,D3,C3,EZ,B7,D2,p,r,D];exact C _ _ (B _ _ E)
abbrev byC (l:Bs):List h:=Lib.byteCells l
structure EB (T:AK) (b:Nat) (g:Option Nat) (l:Bs) (xs:List h) (w:Y):Prop where
 ex:∃ p v,(p=Ae none∨p=Ae (some ⟨b,0,none⟩))∧w.heap[b]?= some (Ab (p::v::xs).toArray T (0,0))∧w.ownsRow 0 5 1 v l.length (byC l)∧v.ownBlock=g
 ne:g≠some b
structure LW (b:Nat) (g:Option Nat) (w:Y) (g':Option Nat) (w':Y):Prop where
 upd:JK (fun k=>k=b∨g=some k) w w'
 new:g'=g∨∃ k,g'=some k∧w.heap.size≤k
theorem LW.refl (b:Nat)(g:Option Nat)(w:Y):LW b g w g w:=⟨JK.refl w,AO rfl⟩
theorem LW.trans {b:Nat}{g d f:Option Nat}{w h i:Y}(a:LW b g w d h)(k:LW b d h f i):LW b g w f i:=by
 have l:=a.upd.size;refine⟨⟨k.upd.os.trans a.upd.os,k.upd.tape.trans a.upd.tape,k.upd.output.trans a.upd.output,AL l k.upd.size,fun j n c=>?_⟩,?_⟩
 ·rw [k.upd.block j (Ar n l) (fun q=>?_),a.upd.block j n c];rcases q with q|q
  ·exact c (AO q)
  ·rcases a.new with e|⟨m,e,o⟩
   ·exact c (AB (e▸q))
   ·rw [e]at q;cases q;omega
 ·rcases k.new with e|⟨m,e,o⟩
  ·rw [e];exact a.new
  ·exact AB ⟨m,e,by omega⟩
theorem LW.ext {b:Nat}{g:Option Nat}{w a:Y}(c:Ext w a):LW b g w g a:=⟨Gl c,AO rfl⟩
theorem EB.lt {a:AK}{b:Nat}{g:Option Nat}{l:Bs}{xs:List h}{w:Y}(c:EB a b g l xs w):b<w.heap.size:=by
 obtain⟨p,v,_,h1,_⟩:=c.ex;exact(Ag.1 h1).1
theorem EB.gt {a:AK}{b:Nat}{g:Option Nat}{l:Bs}{xs:List h}{w:Y}(c:EB a b g l xs w){k:Nat}(d:g=some k):k<w.heap.size:=by
 obtain⟨p,v,_,_,e,f⟩:=c.ex;exact(Kc e (f.trans d)).2
theorem EB.upd {a:AK}{b:Nat}{g:Option Nat}{l:Bs}{xs:List h}{w w':Y}{G:Nat→Prop}(c:EB a b g l xs w)(u:JK G w w')(i:¬ G b)(j:∀ k,g=some k→¬ G k):EB a b g l xs w':=by
 obtain⟨p,v,m,h1,d,e⟩:=c.ex;exact⟨⟨p,v,m,u.heap h1 i,KX d (fun k f=>u.block k (Kc d f).2 (j k (e▸f))),e⟩,c.ne⟩
theorem EB.ext {a:AK}{b:Nat}{g:Option Nat}{l:Bs}{xs:List h}{w w':Y}(c:EB a b g l xs w)(u:Ext w w'):EB a b g l xs w':=c.upd (Gl (G:=fun _=>False) u) (fun q=>q) (fun _ _ q=>q)
theorem yZ4:(prog.info? 126).map (·.size)=some 2:=by kernel_rfl
theorem jE:(prog.info? 5).map (fun i=>(i.zero,i.size,i.bytes))=some (some (V BJ 0),1,1):=by kernel_rfl
def dZ (a:AK)(n:Nat):Prop:=liesAt prog prog.depth a (n /prog.cellsOf a) 0 126 1=true
theorem rO {a:AK}{b:Nat}{g:Option Nat}{l:Bs}{xs:List h}{w:Y}(n:dZ a (xs.length+2))(c:EB a b g l xs w):
 As prog 144 #[Ae (some ⟨b,0,none⟩)] w fun e w'=>e=Ak (AZ #[])∧(∃v,w'.heap[b]?= some (Ab (Ae (some ⟨b,0,none⟩)::v::xs).toArray a (0,0))∧w'.ownsRow 0 5 1 v l.length (byC l)∧v.ownBlock=g)∧JK (fun k=>k=b) w w':=by
 obtain⟨p,v,o,h1,d,f⟩:=c.ex;obtain⟨j,i,r⟩:=DP.1 yZ4;have s:=c.ne;have m:w.shape? b=some (a,xs.length+2):=by simp [World.shape?,h1]
 have c0:=bk h1 0;have z:=JF h1 0;rcases o with rfl|rfl
 ·have t:=D (JK.setCell (G:=fun k=>k=b) (p:=⟨b,0,none⟩) (JK.refl w) (AB rfl) (Ae (some ⟨b,0,none⟩)));have u:AA ((w.setCell ⟨b,0,none⟩ (Ae (some ⟨b,0,none⟩))).heap[b]?= some (Ab (Ae (some ⟨b,0,none⟩)::v::xs).toArray a (0,0))):=D (by
   have:=JJ h1 0 (Ae (some ⟨b,0,none⟩))
   simpa using this)
  have x:AA ((w.setCell ⟨b,0,none⟩ (Ae (some ⟨b,0,none⟩))).ownsRow 0 5 1 v l.length (byC l)):=D (KX d (fun k y=>AY _ _ _ _ (fun q=>s (by rw [←f,y];exact congrArg some q))));clear c h1 d;go_enter IC,ntmps144;go_wp2;rw [Lib.run_to_unsafe w ⟨b,0,none⟩ Et Fs i (by rw [r];decide) m (Nat.zero_lt_succ _)];simp only [BM];rw [IV];go_wp2;rw [run_callFunc_extern func190 (by kernel_rfl) (by kernel_rfl) (by kernel_rfl) (e:=Extern.AbiNoEscape.same) (by kernel_rfl)];rw [Lib.run_noEscape];simp only [BM];rw [IV];go_wp2;rw [Lib.run_from_unsafe w ⟨b,0,none⟩ Fs Et i m n];simp only [BM];rw [IV];go_wp2;go_end0;exact⟨rfl,⟨v,u,x,f⟩,t⟩
 ·clear c;go_enter IC,ntmps144;go_wp2;rw [Lib.run_neq_ptr_same w _ Et i];go_wp2;go_end0;exact⟨rfl,⟨v,h1,d,f⟩,JK.refl w⟩
theorem ys5 (s:Bs):IB (str s)=byC s:=by rw [Lib.strCells_eq,show(str s).data.toList=s from L6 s]
def yZ5 (c:AK)(b:Nat)(g:Option Nat)(l:Bs)(xs:List h)(w:Y)(w':Y):Prop:=∃ a,EB c b a l xs w'∧LW b g w a w'
theorem Xo {f:AK}{b:Nat}{g:Option Nat}{l s:Bs}{xs:List h}{w:Y}(G:dZ f (xs.length+2))(j:EB f b g l xs w)(U:l.length+s.length≤1000000):
 As prog 104 #[Ae (some ⟨b,0,none⟩),Aa (str s)] w fun e w'=>e=Ak (AZ #[V Ad s.length,.nilIface])∧yZ5 f b g (l++s) xs w w':=by
 obtain⟨H,I,K,L,N⟩:=info_parts jE;have O:=D (rO G j);have x:=j.ne;have y:=D (KO s);have P:=D (ys5 s);have W:=D (fun k i=>j.gt (k:=k) i);clear j;go_enter func104,ntmps104;go_wp2_with fail;refine O.mono ?_
 rintro e X ⟨rfl,⟨v,n,z,A⟩,B⟩;have c0:=bk n 0;have c1:=bk n 1;have u:=D n;have Q:=D z;have C:=D B;have o:=D A;clear n z B A;go_wp2_with (at_builtin;refine Ul rfl _ _ 23 9 rfl 0 5 H B8 A8 I K L N _ _ _ rfl Q (str s) rfl ?c3 ?c4 (Dd _) ?_)
 case c3=>rw [y.out];unfold Bk;omega
 case c4=>rw [y.out];omega
 intro Z r d;have t:r.heap[b]?= some (Ab (Ae (some ⟨b,0,none⟩)::v::xs).toArray f (0,0)):=by
  rw [d.grown.block b (Ag.1 u).1 (fun e=>x (by rw [←o];exact e.symm))];exact u
 have h0:=bk t 1;have f1:=JF t 1;obtain⟨a,c,rfl, -⟩:=NQ d.own;have R:AA ((r.setCell ⟨b,1,none⟩ (J a (l.length+s.length) c)).heap[b]?= some (Ab (Ae (some ⟨b,0,none⟩)::J a (l.length+s.length) c::xs).toArray f (0,0))):=D (by
  have:=JJ t 1 (J a (l.length+s.length) c)
  simpa using this)
 have E:(J a (l.length+s.length) c).ownBlock≠some b:=by
  rcases d.at_ with e|⟨m,e,F⟩
  ·rw [e,o];exact x
  ·rw [e];intro q;cases q;have:=(Ag.1 u).1;omega
 have S:AA ((r.setCell ⟨b,1,none⟩ (J a (l.length+s.length) c)).ownsRow 0 5 1 (J a (l.length+s.length) c) (l.length+s.length) (byC l++IB (str s))):=D (KX d.own (fun k i=>AY _ _ _ _ (fun q=>E (by rw [i];exact congrArg some q))));have T:AA (LW b g w (J a (l.length+s.length) c).ownBlock (r.setCell ⟨b,1,none⟩ (J a (l.length+s.length) c))):=D (by
  refine⟨((C.mono (G':=fun k=>k=b∨g=some k) (fun k _ q=>AO q)).grown d.grown (fun k i=>AB (AB (by rw [←o];exact i)))).setCell (p:=⟨b,1,none⟩) (AB (AO rfl)) _,?_⟩
  rcases d.at_ with e|⟨m,e,F⟩
  ·rw [e,o];exact AO rfl
  ·exact AB ⟨m,e,AL C.size F⟩)
 clear d t;go_wp2
 go_ret2
 refine⟨rfl,_,⟨⟨_,_,AB rfl,R,?_,rfl⟩,E⟩,T⟩;have:=S.out;rw [P.out,←Lib.byteCells_append]at this;rw [M];exact this
theorem zf8:prog.cellsOf 5=1:=by kernel_rfl
theorem pI {t:AK}{b:Nat}{g:Option Nat}{l:Bs}{xs:List h}{w0 w:Y}(i:EB t b g l xs w)(c:l≠[])(hlen:l.length≤1000000)(d:Ext w0 w)(u:∀ k,g=some k→w0.heap.size≤k):
 As prog 63 #[Ae (some ⟨b,0,none⟩)] w fun e w'=>e=Ak (Aa (str l))∧Ext w0 w':=by
 obtain⟨p,v,_,m,f,y⟩:=i.ex;have o:l.length≠0:=by simpa using c
 obtain⟨a,cap,cur,rfl,_,q,z,A,L,B⟩:∃ a cap cur,v=J (some ⟨a,0,none⟩) l.length cap∧0≤a∧w.heap[a]?= some (Ab cur 5 (0,0))∧l.length≤cap∧cap≤Bk∧cur.size=cap*1∧cur.toList.take (l.length*1)=byC l:=by
  rcases f.2 with⟨_,C⟩|⟨g,cap,cur,E,F⟩
  ·exact absurd C o
  ·exact⟨g,cap,cur,E,F⟩
 have G:w0.heap.size≤a:=u a (y.symm);have mixed:prog.follows Fu=true:=by kernel_rfl
 have c1:=bk (w:=w.drew) m 1;have H:(Builtin.unsafeSliceData_ #[23] 187 #[J (some ⟨a,0,none⟩) l.length cap]).run prog w.drew=Ez (Ae (some ⟨a,0,none⟩)) w.drew:=
  Lib.run_unsafeSliceData_row _ _ _ _ _ _ (by omega)
 have I:(Builtin.unsafeString_ #[187,3] 9 #[Ae (some ⟨a,0,none⟩),V Ad l.length]).run prog w.drew=Ez (Aa ⟨l.toArray⟩) (w.drew.freeze ⟨a,0,none⟩ l.length):=by
  refine Lib.run_unsafeString_row w.drew 187 3 9 5 Fo zf8 a cur.size (by have K:w.drew.heap[a]?= some (Ab cur 5 (0,0)):=q;simp [World.shape?,K]) l c (by omega) (by unfold Bk at A;omega) ?_
  intro j x d;have:=f.cells (g:=a) rfl j (V BJ x.toNat) (by simp [Lib.byteCells,d]);exact this
 have r:AA (Ext w0 (w.drew.freeze ⟨a,0,none⟩ l.length)):=D (Lib.below_freeze (Ext.drew d) (p:=⟨a,0,none⟩) G _);clear i m f q B;obtain⟨n,s⟩:=JH l.length;rw [←s]at I H c1 r z hlen;clear s o c;go_enter func63,ntmps63;go_wp2
 go_region_o
 all_goals (go_wp2;go_ret;exact⟨rfl,r⟩)
end Go.Proofs.YtmkomefmgcpnbaaGreatDoor
namespace Go.Proofs
open Go renaming Addr→Bi,Calls→As,TypeInfo→Ij,Value→h,World→Y,callFunc→GS,maxLen→Bk
open Go.Ending renaming returned→Ak
open Go.IntKind renaming i64→Ad
open Go.Lib renaming countB→Hf,goFieldsP→Eb,hasSuffix→Ge,join→EC,trimSuffix→EV
open Go.Next renaming enter→I8
open Go.Obj renaming cells→Ab
open Go.Proofs.SlLaysE0 renaming n41→ID
open Go.Proofs.Tryz renaming func144→IC,isAgg0→Du,isAgg161→Fc,isAgg20→GH,isAgg21→GI,isAgg23→E2,isAgg24→Ep,isAgg271→Ea,isAgg34→Fy,isAgg3→Cy,isAgg4→Cm,isAgg5→DC,isAgg9→Cz,sizeOf0→C9,sizeOf161→EP,sizeOf163→Jh,sizeOf187→Ji,sizeOf20→Gc,sizeOf21→Gb,sizeOf223→Jb,sizeOf23→ED,sizeOf24→DR,sizeOf271→DV,sizeOf34→Fb,sizeOf386→Jj,sizeOf3→Cg,sizeOf4→Cc,sizeOf5→Da,sizeOf9→Ci,underlying0→Cf,underlying124→Et,underlying161→DU,underlying163→Hb,underlying187→Fo,underlying20→EK,underlying21→EL,underlying223→G6,underlying23→B8,underlying24→Ch,underlying271→Db,underlying306→Fs,underlying34→Bu,underlying37→Dn,underlying386→He,underlying3→Bq,underlying4→By,underlying5→B2,underlying9→A8,zeroValue0→Cp,zeroValue161→D5,zeroValue163→Hm,zeroValue187→Hr,zeroValue20→E1,zeroValue21→E0,zeroValue223→Hn,zeroValue23→DT,zeroValue24→Dx,zeroValue271→Dk,zeroValue34→Ef,zeroValue386→Hv,zeroValue3→BI,zeroValue4→BH,zeroValue5→CI,zeroValue9→BO
open Go.Result renaming ok→Ez
open Go.RowKit renaming Below→IL
open Go.Shelf renaming Ren→B6
open Go.Value renaming bool→AE,func→ER,int→V,slice→J,string→Aa,tuple→AZ
open Go.Shelf
def VI:B6:=⟨fun|156=>100|165=>136|166=>104|169=>63|240=>144|241=>180|276=>190|277=>228|n=>n,fun|31=>34|9=>9|3=>3|4=>4|0=>0|20=>20|72=>126|76=>184|70=>124|37=>23|75=>163|127=>187|164=>306|5=>5|80=>80|n=>n,fun|n=>n⟩
theorem Y0:Go.Proofs.Lays.n156 Tryz.prog VI:={
 mixed:=by kernel_rfl
 f156:=Tryz.func100.trans (congrArg some (by kernel_rfl))
 f165:=Tryz.func136.trans (congrArg some (by kernel_rfl))
 f166:=Tryz.func104.trans (congrArg some (by kernel_rfl))
 f169:=Tryz.func63.trans (congrArg some (by kernel_rfl))
 f240:=IC.trans (congrArg some (by kernel_rfl))
 f241:=Tryz.func180.trans (congrArg some (by kernel_rfl))
 f276:=Tryz.func190.trans (congrArg some (by kernel_rfl))
 f277:=Tryz.func228.trans (congrArg some (by kernel_rfl))
 t0:=Cf
 a0:=Du
 z0:=C9
 v0:=Cp
 t3:=Bq
 a3:=Cy
 z3:=Cg
 v3:=BI
 t4:=By
 a4:=Cm
 z4:=Cc
 v4:=BH
 t9:=A8
 a9:=Cz
 z9:=Ci
 v9:=BO
 t20:=EK
 a20:=GH
 z20:=Gc
 v20:=E1
 t31:=Bu
 a31:=Fy
 z31:=Fb
 v31:=Ef
 t37:=B8
 a37:=E2
 z37:=ED
 v37:=DT
 t70:=Et
 a70:=Tryz.isAgg124
 z70:=Tryz.sizeOf124
 v70:=Tryz.zeroValue124
 t72:=Tryz.underlying126
 a72:=Tryz.isAgg126
 z72:=Tryz.sizeOf126
 v72:=Tryz.zeroValue126
 t75:=Hb
 a75:=Tryz.isAgg163
 z75:=Jh
 v75:=Hm
 t76:=Tryz.underlying184
 a76:=Tryz.isAgg184
 z76:=Tryz.sizeOf184
 v76:=Tryz.zeroValue184
 t127:=Fo
 a127:=Tryz.isAgg187
 z127:=Ji
 v127:=Hr
 t164:=Fs
 a164:=Tryz.isAgg306
 z164:=Tryz.sizeOf306
 v164:=Tryz.zeroValue306}
theorem Rn:Builder.Extra Tryz.prog VI:={
 sizeBuilder:=by kernel_rfl
 liesBuilder:=by kernel_rfl
 t5:=B2
 a5:=DC
 z5:=Da
 v5:=CI
 infoByte:=by kernel_rfl
 cellsByte:=by kernel_rfl
 sizeByte:=by kernel_rfl
 neB5:=by decide}
open Go.RowKit in
theorem Tryz.strings_Join_none (a:Option Bi)(c:Nat)(sep:ByteArray)(w:Y):
 As Tryz.prog 100 #[J a 0 c,Aa sep] w fun e w'=>e=Ak (Aa ⟨#[]⟩)∧w'=w:=Any.strings_Join_none Y0 Rn a c sep w
open Go.RowKit in
theorem Tryz.strings_Join (bk o c:Nat)(xs:List ByteArray)(sep:ByteArray)(w:Y)(a:∀ (j:Nat) x,xs[j]?= some x→w.cell? ⟨bk,o+j,none⟩=some (Aa x))(b:bk<w.heap.size)(d:xs.length≤140737488355328)(f:xs.length≤c)(hlen:(EC (xs.map (·.data.toList)) sep.data.toList).length≤140737488355328):
 As Tryz.prog 100 #[J (some ⟨bk,o,none⟩) xs.length c,Aa sep] w fun e w'=>e=Ak (Aa ⟨(EC (xs.map (·.data.toList)) sep.data.toList).toArray⟩)∧IL w.heap.size w w':=Any.strings_Join Y0 Rn bk o c xs sep w a b d f hlen
def aT:B6:=⟨fun|104=>202|211=>241|207=>260|n=>n,fun|9=>9|4=>4|24=>316|3=>3|n=>n,fun|n=>n⟩
theorem nP:Go.Proofs.Lays.n104 Tryz.prog aT:={
 mixed:=by kernel_rfl
 f104:=Tryz.func202.trans (congrArg some (by kernel_rfl))
 f207:=Tryz.func260.trans (congrArg some (by kernel_rfl))
 f211:=Tryz.func241.trans (congrArg some (by kernel_rfl))
 t3:=Bq
 a3:=Cy
 z3:=Cg
 v3:=BI
 t4:=By
 a4:=Cm
 z4:=Cc
 v4:=BH
 t9:=A8
 a9:=Cz
 z9:=Ci
 v9:=BO
 t24:=Tryz.underlying316
 a24:=Tryz.isAgg316
 z24:=Tryz.sizeOf316
 v24:=Tryz.zeroValue316}
open Go.RowKit in
theorem Tryz.strings_CutSuffix (s p:ByteArray)(w:Y)(a:s.size≤9223372036854775807):
 As Tryz.prog 202 #[Aa s,Aa p] w fun e w'=>e=Ak (AZ #[Aa ⟨(EV s.data.toList p.data.toList).toArray⟩,AE (Ge s.data.toList p.data.toList)])∧w'=w:=Any.strings_CutSuffix nP s p w a
def aU:B6:=⟨fun|145=>200|220=>240|219=>239|217=>128|225=>257|224=>258|267=>259|266=>172|314=>270|n=>n,fun|9=>9|4=>4|59=>314|3=>3|5=>5|46=>271|146=>386|51=>24|n=>n,fun|1=>7|n=>n⟩
theorem nQ:Go.Proofs.Lays.n145 Tryz.prog aU:={
 mixed:=by kernel_rfl
 f145:=Tryz.func200.trans (congrArg some (by kernel_rfl))
 f217:=Tryz.func128.trans (congrArg some (by kernel_rfl))
 f219:=Tryz.func239.trans (congrArg some (by kernel_rfl))
 f220:=Tryz.func240.trans (congrArg some (by kernel_rfl))
 f224:=Tryz.func258.trans (congrArg some (by kernel_rfl))
 f225:=Tryz.func257.trans (congrArg some (by kernel_rfl))
 f266:=Tryz.func172.trans (congrArg some (by kernel_rfl))
 f267:=Tryz.func259.trans (congrArg some (by kernel_rfl))
 f314:=Tryz.func270.trans (congrArg some (by kernel_rfl))
 t3:=Bq
 a3:=Cy
 z3:=Cg
 v3:=BI
 t4:=By
 a4:=Cm
 z4:=Cc
 v4:=BH
 t5:=B2
 a5:=DC
 z5:=Da
 v5:=CI
 t9:=A8
 a9:=Cz
 z9:=Ci
 v9:=BO
 t46:=Db
 a46:=Ea
 z46:=DV
 v46:=Dk
 t51:=Ch
 a51:=Ep
 z51:=DR
 v51:=Dx
 t59:=Tryz.underlying314
 a59:=Tryz.isAgg314
 z59:=Tryz.sizeOf314
 v59:=Tryz.zeroValue314
 t146:=He
 a146:=Tryz.isAgg386
 z146:=Jj
 v146:=Hv
 g1:=by kernel_rfl}
open Go.RowKit Go.Lib in
theorem Tryz.strings_Cut (s sep:ByteArray)(m:Int)(w:Y)(a:s.size<4294967281)(b:w.cell? ⟨7,0,none⟩=some (V Ad m)):
 As Tryz.prog 200 #[Aa s,Aa sep] w fun e w'=>e=Ak (AZ #[Aa ⟨(Lib.cut s.data.toList sep.data.toList).1.toArray⟩,Aa ⟨(Lib.cut s.data.toList sep.data.toList).2.1.toArray⟩,AE (Lib.cut s.data.toList sep.data.toList).2.2])∧∃ n,w'=w.drewN n:=Any.strings_Cut nQ s sep m w a b
def aV:B6:=⟨fun|146=>109|221=>147|268=>197|138=>198|143=>199|195=>236|197=>237|218=>238|219=>239|260=>256|217=>128|225=>257|224=>258|267=>259|266=>172|314=>270|n=>n,fun|9=>9|31=>34|3=>3|4=>4|0=>0|105=>363|21=>21|5=>5|46=>271|119=>221|139=>404|138=>403|146=>386|51=>24|n=>n,fun|1=>7|3=>10|4=>11|n=>n⟩
theorem nR:Go.Proofs.Lays.n146 Tryz.prog aV:={
 mixed:=by kernel_rfl
 f138:=Tryz.func198.trans (congrArg some (by kernel_rfl))
 f143:=Tryz.func199.trans (congrArg some (by kernel_rfl))
 f146:=Tryz.func109.trans (congrArg some (by kernel_rfl))
 f195:=Tryz.func236.trans (congrArg some (by kernel_rfl))
 f197:=Tryz.func237.trans (congrArg some (by kernel_rfl))
 f217:=Tryz.func128.trans (congrArg some (by kernel_rfl))
 f218:=Tryz.func238.trans (congrArg some (by kernel_rfl))
 f219:=Tryz.func239.trans (congrArg some (by kernel_rfl))
 f221:=Tryz.func147.trans (congrArg some (by kernel_rfl))
 f224:=Tryz.func258.trans (congrArg some (by kernel_rfl))
 f225:=Tryz.func257.trans (congrArg some (by kernel_rfl))
 f260:=Tryz.func256.trans (congrArg some (by kernel_rfl))
 f266:=Tryz.func172.trans (congrArg some (by kernel_rfl))
 f267:=Tryz.func259.trans (congrArg some (by kernel_rfl))
 f268:=Tryz.func197.trans (congrArg some (by kernel_rfl))
 f314:=Tryz.func270.trans (congrArg some (by kernel_rfl))
 t0:=Cf
 a0:=Du
 z0:=C9
 v0:=Cp
 t3:=Bq
 a3:=Cy
 z3:=Cg
 v3:=BI
 t4:=By
 a4:=Cm
 z4:=Cc
 v4:=BH
 t5:=B2
 a5:=DC
 z5:=Da
 v5:=CI
 t9:=A8
 a9:=Cz
 z9:=Ci
 v9:=BO
 t21:=EL
 a21:=GI
 z21:=Gb
 v21:=E0
 t31:=Bu
 a31:=Fy
 z31:=Fb
 v31:=Ef
 t46:=Db
 a46:=Ea
 z46:=DV
 v46:=Dk
 t51:=Ch
 a51:=Ep
 z51:=DR
 v51:=Dx
 t105:=Tryz.underlying363
 a105:=Tryz.isAgg363
 z105:=Tryz.sizeOf363
 v105:=Tryz.zeroValue363
 t119:=Tryz.underlying221
 a119:=Tryz.isAgg221
 z119:=Tryz.sizeOf221
 t138:=Tryz.underlying403
 a138:=Tryz.isAgg403
 z138:=Tryz.sizeOf403
 v138:=Tryz.zeroValue403
 t139:=Tryz.underlying404
 a139:=Tryz.isAgg404
 z139:=Tryz.sizeOf404
 v139:=Tryz.zeroValue404
 t146:=He
 a146:=Tryz.isAgg386
 z146:=Jj
 v146:=Hv
 g1:=by kernel_rfl
 g3:=by kernel_rfl
 g4:=by kernel_rfl}
open Go.RowKit Go.Lib in
theorem Tryz.strings_Split (s sep:ByteArray)(m:Int)(w:Y)(a:s.size<4294967281)(b:w.cell? ⟨7,0,none⟩=some (V Ad m))(h1:1≤sep.size):
 As Tryz.prog 109 #[Aa s,Aa sep] w fun e w'=>
  e=Ak (J (some ⟨w.heap.size,0,none⟩) (Hf s sep+1) (Hf s sep+1))∧w'=w.alloc (Ab ((Lib.splitB sep 0 (Hf s sep) s).map Aa).toArray 9):=Any.strings_Split nR (by kernel_rfl) s sep m w a b h1
def VJ:B6:=⟨fun|105=>179|212=>226|99=>84|165=>136|166=>104|170=>227|169=>63|263=>253|264=>254|206=>127|240=>144|241=>180|276=>190|277=>228|n=>n,fun|9=>9|3=>3|4=>4|20=>20|0=>0|46=>271|109=>357|5=>5|72=>126|76=>184|51=>24|146=>386|53=>161|148=>388|70=>124|37=>23|75=>163|127=>187|164=>306|80=>80|n=>n,fun|n=>n⟩
theorem nS:Go.Proofs.Lays.n105 Tryz.prog VJ:={
 mixed:=by kernel_rfl
 f99:=Tryz.func84.trans (congrArg some (by kernel_rfl))
 f105:=Tryz.func179.trans (congrArg some (by kernel_rfl))
 f165:=Tryz.func136.trans (congrArg some (by kernel_rfl))
 f166:=Tryz.func104.trans (congrArg some (by kernel_rfl))
 f169:=Tryz.func63.trans (congrArg some (by kernel_rfl))
 f170:=Tryz.func227.trans (congrArg some (by kernel_rfl))
 f206:=Tryz.func127.trans (congrArg some (by kernel_rfl))
 f212:=Tryz.func226.trans (congrArg some (by kernel_rfl))
 f240:=IC.trans (congrArg some (by kernel_rfl))
 f241:=Tryz.func180.trans (congrArg some (by kernel_rfl))
 f263:=Tryz.func253.trans (congrArg some (by kernel_rfl))
 f264:=Tryz.func254.trans (congrArg some (by kernel_rfl))
 f276:=Tryz.func190.trans (congrArg some (by kernel_rfl))
 f277:=Tryz.func228.trans (congrArg some (by kernel_rfl))
 t0:=Cf
 a0:=Du
 z0:=C9
 v0:=Cp
 t3:=Bq
 a3:=Cy
 z3:=Cg
 v3:=BI
 t4:=By
 a4:=Cm
 z4:=Cc
 v4:=BH
 t5:=B2
 a5:=DC
 z5:=Da
 v5:=CI
 t9:=A8
 a9:=Cz
 z9:=Ci
 v9:=BO
 t20:=EK
 a20:=GH
 z20:=Gc
 v20:=E1
 t37:=B8
 a37:=E2
 z37:=ED
 v37:=DT
 t46:=Db
 a46:=Ea
 z46:=DV
 v46:=Dk
 t51:=Ch
 a51:=Ep
 z51:=DR
 v51:=Dx
 t53:=DU
 a53:=Fc
 z53:=EP
 v53:=D5
 t70:=Et
 a70:=Tryz.isAgg124
 z70:=Tryz.sizeOf124
 v70:=Tryz.zeroValue124
 t72:=Tryz.underlying126
 a72:=Tryz.isAgg126
 z72:=Tryz.sizeOf126
 v72:=Tryz.zeroValue126
 t75:=Hb
 a75:=Tryz.isAgg163
 z75:=Jh
 v75:=Hm
 t76:=Tryz.underlying184
 a76:=Tryz.isAgg184
 z76:=Tryz.sizeOf184
 v76:=Tryz.zeroValue184
 t109:=Tryz.underlying357
 a109:=Tryz.isAgg357
 z109:=Tryz.sizeOf357
 v109:=Tryz.zeroValue357
 t127:=Fo
 a127:=Tryz.isAgg187
 z127:=Ji
 v127:=Hr
 t146:=He
 a146:=Tryz.isAgg386
 z146:=Jj
 v146:=Hv
 t148:=Tryz.underlying388
 a148:=Tryz.isAgg388
 z148:=Tryz.sizeOf388
 v148:=Tryz.zeroValue388
 t164:=Fs
 a164:=Tryz.isAgg306
 z164:=Tryz.sizeOf306
 v164:=Tryz.zeroValue306}
theorem V5:Builder.Extra Tryz.prog VJ:={
 sizeBuilder:=by kernel_rfl
 liesBuilder:=by kernel_rfl
 t5:=B2
 a5:=DC
 z5:=Da
 v5:=CI
 infoByte:=by kernel_rfl
 cellsByte:=by kernel_rfl
 sizeByte:=by kernel_rfl
 neB5:=by decide}
open Go.RowKit Go.Lib in
theorem Tryz.strings_Repeat (s:ByteArray)(c:Nat)(w:Y)(hc:c≤9223372036854775807)(hlen:s.size*c≤140737488355328):
 As Tryz.prog 179 #[Aa s,V Ad c] w fun e w'=>e=Ak (Aa ⟨(Lib.repeatL s.data.toList c).toArray⟩)∧IL w.heap.size w w':=Any.strings_Repeat nS V5 s c w hc hlen
def aW:B6:=⟨fun|229=>125|n=>n,fun|9=>9|40=>223|31=>34|152=>280|3=>3|0=>0|4=>4|21=>21|154=>282|n=>n,fun|n=>n⟩
theorem nT:Go.Proofs.Lays.n229 Tryz.prog aW:={
 mixed:=by kernel_rfl
 f229:=Tryz.func125.trans (congrArg some (by kernel_rfl))
 t0:=Cf
 a0:=Du
 z0:=C9
 v0:=Cp
 t3:=Bq
 a3:=Cy
 z3:=Cg
 v3:=BI
 t4:=By
 a4:=Cm
 z4:=Cc
 v4:=BH
 t9:=A8
 a9:=Cz
 z9:=Ci
 v9:=BO
 t21:=EL
 a21:=GI
 z21:=Gb
 v21:=E0
 t31:=Bu
 a31:=Fy
 z31:=Fb
 v31:=Ef
 t40:=G6
 a40:=Tryz.isAgg223
 z40:=Jb
 v40:=Hn
 t152:=Tryz.underlying280
 a152:=Tryz.isAgg280
 z152:=Tryz.sizeOf280
 v152:=Tryz.zeroValue280
 t154:=Tryz.underlying282
 a154:=Tryz.isAgg282
 z154:=Tryz.sizeOf282
 v154:=Tryz.zeroValue282}
open Go.RowKit Go.Lib in
theorem Tryz.strings_FieldsFunc (g:Nat)(lb:Array h)(a:∀ args w,(GS g args).run Tryz.prog w=Ez (I8 g args) w)(p:Nat→Bool)(s:ByteArray)(w:Y)(b:s.size≤4294967296)(c:PredAt Tryz.prog g lb encR p w):
 As Tryz.prog 125 #[Aa s,ER (.func g) #[] lb] w fun e w'=>∃ A,e=Ak (J (some ⟨A,0,none⟩) (Eb p s).length (Eb p s).length)∧w.heap.size≤A∧
  w'.ownsRow w.heap.size 9 1 (J (some ⟨A,0,none⟩) (Eb p s).length (Eb p s).length) (Eb p s).length ((Eb p s).map Aa)∧IL w.heap.size w w':=Any.strings_FieldsFunc nT g lb a p s w b c (by kernel_rfl) (by kernel_rfl)
def VY:B6:=⟨fun|41=>68|n=>n,fun|22=>37|23=>24|4=>4|n=>n,fun|n=>n⟩
theorem Td:ID Tryz.prog VY:={
 mixed:=by kernel_rfl
 f41:=⟨Tryz.f68.name,by decide,Tryz.func68.trans (congrArg some (by kernel_rfl))⟩
 t4:=By
 a4:=Cm
 z4:=Cc
 v4:=BH
 t22:=Dn
 a22:=Tryz.isAgg37
 z22:=Tryz.sizeOf37
 v22:=Tryz.zeroValue37}
open Go.RowKit Go.Lib in
theorem Tryz.slices_Clone (a:Ij)(z:h)(size bytes:Nat)(f:Tryz.prog.info? 24=some a)(g:a.zero=some z)(i:a.size=size)(k:a.bytes=bytes)(l:z.cells.size=size)(m:0<size)(z23:∀ w,(Go.sizeOf 24).run Tryz.prog w=Ez size w)(b off n c:Nat)(news:List h)(w:Y)(o:news.length=n*size)(p:n≤Bk)(q:n*bytes≤140737488355328)(hc:∀ j u,news[j]?= some u→w.cell? ⟨b,off+j,none⟩=some u)(h1:∀ u∈news,u.oneCell'=true):
 As Tryz.prog 68 #[J (some ⟨b,off,none⟩) n c] w fun e w'=>∃ d,e=Ak d∧w'.ownsRow w.heap.size 24 size d n news∧d≠J none 0 0∧IL w.heap.size w w':=AnyE.slices_Clone Td a z size bytes f g i k l m z23 b off n c news w o p q hc h1
open Go.RowKit Go.Lib in
theorem Tryz.slices_Clone_nil (n c:Nat)(w:Y):
 As Tryz.prog 68 #[J none n c] w fun e w'=>e=Ak (J none 0 0)∧w'=w:=AnyE.slices_Clone_nil Td n c w
end Go.Proofs
namespace Go.Proofs.YtmkomefmgcpnbaaGreatDoor
open Tryz Pg Go Go.Proofs Go.RowKit
open _root_.ByteArray renaming ext→DS
open Go renaming Addr→Bi,Calls→As,Ending→BX,World→Y
open Go.Ending renaming returned→Ak
open Go.IntKind renaming u32→Af,u64→Jc
open Go.Lib renaming hid→D,join→EC
open Go.Value renaming int→V,slice→J,string→Aa
open Go.World renaming block_lt_of_cell?→Bp
open _root_.List renaming getElem?_map→Bh,length_map→AI,map_congr_left→Gz,map_map→GL
def Mi (w:Y)(s:Bs)(e:BX)(w':Y):Prop:=e=Ak (Aa (str s))∧Ext w w'
theorem Lg (a b:Bs):str a++str b=str (a++b):=by
 apply DS;rw [ByteArray.data_append];simp [str]
theorem Za (v:Nat)(w:Y)(d:v<4294967296)(a:Mg w):As prog 98 #[V Af v] w (Mi w (KN v)):=by
 have b:=D (VQ v w (by omega) a);have f:Jc.wrap (v:Int)=v:=by rw [IntKind.wrap_u64];omega
 go_enter func98,ntmps98;go_wp2_with (go_at_call 82;refine b.mono ?_;rintro e w' ⟨rfl,c⟩);go_ret;exact⟨rfl,c⟩
theorem gD:∀ (l:List Bs),EC l [44,32]=Jy l
 |[]=>rfl
 |[x]=>by simp [EC,Jy]
 |x::a::l=>by
  rw [Jy,←gD (a::l)]
  ·simp [EC]
  ·simp
theorem jF {l:List Bs}{A:Option Bi}{c:Nat}{w:Y}(g:Ol w A (Jw l))(hc:l.length≤c)(t:l.length≤1000000)(u:(Jy l).length≤1000000):
 As prog 100 #[J A l.length c,Aa ⟨#[44,32]⟩] w (Mi w (Jy l)):=by
 cases l with
 |nil=>
  refine(strings_Join_none A c ⟨#[44,32]⟩ w).mono ?_
  rintro e w' ⟨rfl,rfl⟩;exact⟨rfl,Ext.refl _⟩
 |cons x d=>
  have n:0<(Jw (x::d)).length:=by simp [Jw]
  obtain⟨b,o,p⟩:=g.base n;subst p;have h:((x::d).map str).map (fun s=>s.data.toList)=x::d:=by
   rw [GL];exact(Gz (fun s _=>L6 s)).trans (List.map_id _)
  have i:=gD (x::d);have k:∀ (j:Nat) f,((x::d).map str)[j]?= some f→w.cell? ⟨b,o+j,none⟩=some (Aa f):=by
   intro j f hy;obtain⟨a,q,hc⟩:=g j (Aa f) (by rw [Jw,Bh];rw [Bh]at hy;cases m:(x::d)[j]? with|none=>rw [m]at hy;cases hy|some s=>rw [m]at hy;cases hy;rfl);cases q;rw [MW]at hc;exact hc
  have r:b<w.heap.size:=by
   have:=k 0 (str x) rfl;exact Bp w _ this
  have:=strings_Join b o c ((x::d).map str) ⟨#[44,32]⟩ w k r (by rw [AI];omega) (by rw [AI];exact hc) (by rw [h,i];omega);rw [AI,h,i]at this;exact this
end Go.Proofs.YtmkomefmgcpnbaaGreatDoor
namespace Pg
open _root_.Nat renaming blt→Be
mutual
def Wh:Ex→Bool
 |.mk _ _ num _ args=>Be num 4294967296&&Q8 args
def Q8:List Ex→Bool
 |[]=>true
 |x::l=>Wh x&&Q8 l
end
mutual
def Yd:Sm→Bool
 |.mk _ _ a body els=>Q8 a&&O7 body&&O7 els
def O7:List Sm→Bool
 |[]=>true
 |x::l=>Yd x&&O7 l
end
def jG (p:JQ):Bool:=p.globals.all (fun g=>Be g.num 4294967296&&g.init.all fun n=>Be n 4294967296)&&p.JY.all fun f=>O7 f.body
end Pg
namespace Go.Proofs.YtmkomefmgcpnbaaGreatDoor
open Tryz Pg Go Go.Proofs Go.RowKit
open Go renaming Act→CY,Addr→Bi,Calls→As,Deferred→GX,Edge→Ik,Exit→EY,Operand→CC,Oper→B5,Program→BR,TypeDesc→DK,TypeId→AK,Value→h,World→Y,execOp→CS,heap_alloc2_new→Ay,heap_alloc2_old→AP,heap_alloc_new→Aj,setRow_heap→Bo,setRow_other→C7,yielded→BW
open Go.Act renaming put→Au
open Go.Exit renaming panic→EM
open Go.Instr renaming loadAt→Ir,sureAddr→GQ
open Go.IntKind renaming i64→Ad,u32→Af
open Go.Lib renaming hid→D
open Go.Next renaming value→F5
open Go.Obj renaming cells→Ab
open Go.Op renaming load→IK
open Go.Operand renaming tmp→Eh
open Go.Proofs.Tryz renaming func181→E5,ntmps181→EF,underlying287→Ax
open Go.Region renaming Mode→Gi,free→EO,noSelect→DH,ready→Bw,wanted→AQ
open Go.Result renaming andThen_ok→C3,ok→Ez
open Go.RowKit renaming Hid→AA
open Go.Sem renaming run_bind→Di,run_pure→D3
open Go.TypeDesc renaming array→DX,struct→DA
open Go.Value renaming agg→AN,bool→AE,int→V,pointer→Ae,slice→J,string→Aa
open _root_.Nat renaming beq→Az,eq_of_beq_eq_true→Ap
theorem Sz {P:BR}{w:Y}{o:B5}{a:CY}(b:AK)(x:CC)(c:o.op=IK b x)(g f:Nat)(e:a.eval x=Ae (some ⟨g,f,none⟩))(d:DK)(xs:List h)(j:∀ i u,xs[i]?= some u→w.cell? ⟨g,f+i,none⟩=some u)
 (k:P.underlying b=some d) (l:(match d with|DA _|DX _ _=>true|_=>false)=true) (m:(P.info? b).map (·.size)=some xs.length):(CS a.eval o).run P w=Ez (F5 (AN xs.toArray)) w:=by
 unfold CS;simp only [c,e,Ir,GQ,Di,D3,C3,RO g f b d xs j k l m]
section
variable {P:BR}{ops:Array B5}{Q:EY→CY→Y→Prop}{md:Gi}{S:Y→Prop}{F:List Nat}{n:Nat}{listed:Array Bool}{a:CY}{w:Y}
theorem Te {i:Nat}{d:Nat}{b:AK}{x:CC}{g f k:Nat}{e:DK}{xs:List h}{l:AK}{m:String}{o:Array Ik}{p:Option (Nat×Bool)}{q:Array h}{r:List GX}(s:S w)(t:P.underlying b=some e)(v:(P.info? b).map (·.size)=some k)(hc:∀ w,S w→∀ i u,xs[i]?= some u→w.cell? ⟨g,f+i,none⟩=some u)(j:JX P md ops Q S F n (listed.setIfInBounds i true) ⟨q,r⟩ w)(H:ops.size=i+(n+1):=by(simp only [List.size_toArray,List.length_cons,List.length_nil];rfl))(y:ops[i]?= some ⟨some d,IK b x,l,m,o,p⟩:=by rfl)
 (z:(DH ops&&EO md ops listed i&&(Bw md ops listed).contains i&&VN md ops F i)=true:=by kernel_rfl) (A:∀ c a w,Q (EM c) (a.put (some d) (AN xs.toArray)) w→Q (EM c) a w:=by exact fun _ _ _ j=>j)
 (B:AQ ⟨some d,IK b x,l,m,o,p⟩ (BW ops a.tmps)=true:=by rfl) (C:a.eval x=Ae (some ⟨g,f,none⟩):=by rfl) (D:(match e with|DA _|DX _ _=>true|_=>false)=true:=by rfl) (E:k=xs.length:=by rfl)
 (G:a.put (some d) (AN xs.toArray)=⟨q,r⟩:=by(simp only [Act.put,pA,pB,pC];rfl)):JX P md ops Q S F (n+1) listed a w:=
 KM i s j y z A B (fun w k=>Sz b x rfl g f C e xs (hc w k) t (by cases e<;>exact D) (E▸v)) G
end
def ExP (e:Ex):Prop:=∀ (U:Nat→Prop)(lv n m:Nat)(cs:List h)(w:Y),OV U w e cs→Mg w→P6 e lv n=some m→Wh e=true→(Kt e).length≤1000000→As prog 181 #[AN cs.toArray] w (Mi w (Kt e))
def yN9 (l:List Ex):Prop:=∀ (U:Nat→Prop)(lv n m:Nat)(v:h)(w:Y),Ju KE U w l v→Mg w→L9 l lv n=some m→Q8 l=true→l.length≤1000→(Jy (NC l)).length≤1000000→As prog 183 #[v] w (Mi w (Jy (NC l)))
def ys6 (e:Ex):Prop:=∀ (U:Nat→Prop)(lv n m:Nat)(b:Bool)(cs:List h)(w:Y),OV U w e cs→Mg w→P6 e lv n=some m→Wh e=true→(P5 e (Kt e) b).length≤1000000→As prog 230 #[AN cs.toArray,AE b] w (Mi w (P5 e (Kt e) b))
theorem S9 {U:Nat→Prop}{w w':Y}{e:Ex}{cs:List h}(a:OV U w e cs)(x:Ext w w'):OV U w' e cs:=UU (Gl (G:=fun _=>False) x) (fun _ _ q=>q) (fun _ q=>q) e cs a
theorem Ju.ext {α:Type}{K:Kind α}{U:Nat→Prop}{w w':Y}{l:List α}{v:h}(a:Ju K U w l v)(x:Ext w w'):Ju K U w' l v:=a.upd (Gl (G:=fun _=>False) x) (fun _ _ q=>q) (fun _ q=>q)
theorem yC0 {w:Y}{op num:Nat}{name:Bs}{A:Option Bi}{n c:Nat}(f:num<4294967296)(g:Mg w):
 As prog 181 #[AN #[V Ad 1,V Ad op,V Af num,Aa (str name),J A n c]] w (Mi w (KN num)):=by
 have h:=D (fun W (x:Ext w W)=>Za num W f (g.ext x));obtain⟨j,a,b,d⟩:=alw w (Ab #[V Ad 1,V Ad op,V Af num,Aa (str name),J A n c] 287);have k:=JA d 0;have l:=JA d 2;go_enter E5,EF;go_upto_region 1 with fail
 try rw [a]
 clear a;go_wp2_with fail;refine(h _ b).mono ?_
 rintro e m ⟨rfl,i⟩;go_wp2_with fail;go_ret;exact⟨rfl,b.trans i⟩
theorem zg0 {w:Y}{op num:Nat}{name:Bs}{A:Option Bi}{n c:Nat}:
 As prog 181 #[AN #[V Ad 2,V Ad op,V Af num,Aa (str name),J A n c]] w (Mi w name):=by
 obtain⟨e,a,d,b⟩:=alw w (Ab #[V Ad 2,V Ad op,V Af num,Aa (str name),J A n c] 287);have f:=JA b 0;have g:=JA b 3;go_enter E5,EF;go_upto_region 1 with fail
 try rw [a]
 clear a;go_wp2_with fail;go_ret;exact⟨rfl,d⟩
theorem yC1 {w:Y}{op num:Nat}{name:Bs}{A:Option Bi}{n c:Nat}:
 As prog 181 #[AN #[V Ad 5,V Ad op,V Af num,Aa (str name),J A n c]] w (Mi w [103,101,116]):=by
 obtain⟨e,a,b,d⟩:=alw w (Ab #[V Ad 5,V Ad op,V Af num,Aa (str name),J A n c] 287);have f:=JA d 0;go_enter E5,EF;go_upto_region 1 with fail
 try rw [a]
 clear a;go_wp2_with fail;go_ret;exact⟨rfl,b⟩
theorem zQ7 {w:Y}{op num:Nat}{name:Bs}{b o c:Nat}{s:Bs}{m n p:Nat}{q:Bs}{r:Option Bi}{t v:Nat}(y:AA (∀j u,([V Ad m,V Ad n,V Af p,Aa (str q),J r t v]:List h)[j]?= some u→w.cell? ⟨b,o+j,none⟩=some u))
 (z:AA (∀W,Ext w W→As prog 181 #[AN #[V Ad m,V Ad n,V Af p,Aa (str q),J r t v]] W (Mi W s))) (L:name.length≤1000000) (M:s.length≤1000000):
 As prog 181 #[AN #[V Ad 3,V Ad op,V Af num,Aa (str name),J (some ⟨b,o,none⟩) 1 c]] w (Mi w (name++91::(s++[93]))):=by
 obtain⟨f,A,g,i⟩:=alw w (Ab #[V Ad 3,V Ad op,V Af num,Aa (str name),J (some ⟨b,o,none⟩) 1 c] 287);have N:=JA i 0;have C:=JA i 3;have E:=JA i 4;have F:=D (fun j u k=>g.cell (y j u k));have G:=D (fun W (x:Ext f W)=>z W (g.trans x));clear y z;go_enter E5,EF;go_upto_region 1 with fail
 try rw [A]
 clear A;go_upto_region 7 with fail;refine JX.go (Ext f) [] ((Ext.refl f).drew) (fun a=>?_);refine JC a ?_
 refine JP a (fun w d=>Ext.cell d C) ?_
 refine Mq a ?_
 refine JC a ?_
 refine JP a (fun w d=>Ext.cell d E) ?_
 refine JC a ?_
 refine Te a Ax Ki (fun w d j u k=>Ext.cell d (F j u k)) ?_
 refine JM (fun K B=>?_);go_simp;refine(G _ (by assumption)).mono ?_
 rintro e O ⟨rfl,l⟩;have H:=D ((g.trans (by assumption)).trans l);have I:=Ext.trans (by assumption) l;clear l;refine B _ _ ?_ (fun a=>?_)
 ·exact I
 clear B K
 iterate 2 refine Mq a ?_
 refine JC a ?_
 refine JV ?_
 go_wp2_with fail;go_ret;refine⟨?_,H⟩;rw [Lg,Lg,Lg];simp
theorem zg1 {w:Y}{op num:Nat}{name:Bs}{A:Option Bi}{n c:Nat}{s:Bs}(g:AA (∀W,Ext w W→As prog 183 #[J A n c] W (Mi W s)))(q:name.length≤1000000)(r:s.length≤1000000):
 As prog 181 #[AN #[V Ad 4,V Ad op,V Af num,Aa (str name),J A n c]] w (Mi w (name++40::(s++[41]))):=by
 obtain⟨b,h,i,d⟩:=alw w (Ab #[V Ad 4,V Ad op,V Af num,Aa (str name),J A n c] 287);have t:=JA d 0;have m:=JA d 3;have o:=JA d 4;have p:=D (fun W (x:Ext b W)=>g W (i.trans x));clear g;go_enter E5,EF;go_upto_region 1 with fail
 try rw [h]
 clear h;go_upto_region 9 with fail;refine JX.go (Ext b) [] ((Ext.refl b).drew) (fun a=>?_);refine JC a ?_
 refine JP a (fun w f=>Ext.cell f m) ?_
 refine Mq a ?_
 refine JC a ?_
 refine JP a (fun w f=>Ext.cell f o) ?_
 refine JM (fun K j=>?_);go_simp;refine(p _ (by assumption)).mono ?_
 rintro e u ⟨rfl,k⟩;have l:=Ext.trans (by assumption) k;clear k;refine j _ _ ?_ (fun a=>?_)
 ·exact l
 clear j K
 iterate 2 refine Mq a ?_
 refine JC a ?_
 refine JV ?_
 go_wp2_with fail;go_ret;refine⟨?_,i.trans l⟩;rw [Lg,Lg,Lg];simp
theorem zQ8 {w:Y}{op num:Nat}{name:Bs}{b o c:Nat}{s z:Bs}{k l m:Nat}{n:Bs}{p:Option Bi}{q r:Nat}(y:AA (∀j u,([V Ad k,V Ad l,V Af m,Aa (str n),J p q r]:List h)[j]?= some u→w.cell? ⟨b,o+j,none⟩=some u))
 (A:AA (∀W,Ext w W→As prog 230 #[AN #[V Ad k,V Ad l,V Af m,Aa (str n),J p q r],AE true] W (Mi W s))) (B:AA (∀W,Ext w W→As prog 229 #[V Ad op] W (Mi W z))) (P:z.length≤1000000) (Q:s.length≤1000000):
 As prog 181 #[AN #[V Ad 6,V Ad op,V Af num,Aa (str name),J (some ⟨b,o,none⟩) 1 c]] w (Mi w (z++s)):=by
 obtain⟨g,C,i,t⟩:=alw w (Ab #[V Ad 6,V Ad op,V Af num,Aa (str name),J (some ⟨b,o,none⟩) 1 c] 287);have R:=JA t 0;have H:=JA t 1;have I:=JA t 4;have L:=D (fun j u v=>i.cell (y j u v));have M:=D (fun W (x:Ext g W)=>A W (i.trans x));have N:=D (fun W (x:Ext g W)=>B W (i.trans x));clear y A B;go_enter E5,EF;go_upto_region 1 with fail
 try rw [C]
 clear C;go_upto_region 13 with fail;refine JX.go (Ext g) [] ((Ext.refl g).drew) (fun a=>?_);refine JC a ?_
 refine JP a (fun w d=>Ext.cell d H) ?_
 refine KM 3 a ?_
 refine QM 4 a (fun w d=>Ext.cell d I) ?_
 refine KM 5 a ?_
 refine KM 6 a ?_ (hy:=by(intro w d;refine Sz 287 (Eh 48) ?_ b (o+0) ?_ _ [V Ad k,V Ad l,V Af m,Aa (str n),J p q r] (fun j u v=>Ext.cell d (L j u v)) Ax rfl Ki<;>rfl))
 refine JX.rd 2 (fun K f=>?_);go_simp;refine(N _ (by assumption)).mono ?_
 rintro e S ⟨rfl,E⟩;have O:=Ext.trans (by assumption) E;clear E;refine f _ _ ?_ (fun a=>?_)
 ·exact O
 clear f K;refine JM (fun K f=>?_);go_simp;refine(M _ (by assumption)).mono ?_
 rintro e T ⟨rfl,F⟩;have G:=Ext.trans (by assumption) F;clear F;refine f _ _ ?_ (fun a=>?_)
 ·exact G
 clear f K;refine Mq a ?_
 refine JC a ?_
 refine JV ?_
 go_wp2_with fail;go_ret;exact⟨by first|rfl|(rw [Lg];rfl),i.trans G⟩
theorem zg2 {w:Y}{op num:Nat}{name:Bs}{A:Option Bi}{n c:Nat}{s:Bs}(a:AA (∀W,Ext w W→As prog 181 #[AN #[V Ad 7,V Ad op,V Af num,Aa (str name),J A n c]] W (Mi W s)))(j:s.length≤1000000):
 As prog 230 #[AN #[V Ad 7,V Ad op,V Af num,Aa (str name),J A n c],AE true] w (Mi w (40::(s++[41]))):=by
 obtain⟨g,b,d,f⟩:=alw w (Ab #[V Ad 7,V Ad op,V Af num,Aa (str name),J A n c] 287);have k:=JA f 0;have h:=D (fun W (x:Ext g W)=>a W (d.trans x));clear a;go_enter func230,ntmps230;go_upto_region 1 with fail
 try rw [b]
 clear b;go_upto_region 2 with fail;go_wp2_with (refine LH rfl Ax rfl f Ki ?_);refine(h _ (Ext.refl _)).mono ?_
 rintro e l ⟨rfl,i⟩;go_wp2_with fail;go_ret;refine⟨?_,d.trans i⟩
 first
  |rfl
  |(rw [m,o,Lg,Lg];simp)
theorem zg3 {w:Y}{op num:Nat}{name:Bs}{A:Option Bi}{n c:Nat}{s:Bs}(a:AA (∀W,Ext w W→As prog 181 #[AN #[V Ad 7,V Ad op,V Af num,Aa (str name),J A n c]] W (Mi W s)))(j:s.length≤1000000):
 As prog 230 #[AN #[V Ad 7,V Ad op,V Af num,Aa (str name),J A n c],AE false] w (Mi w s):=by
 obtain⟨g,b,d,f⟩:=alw w (Ab #[V Ad 7,V Ad op,V Af num,Aa (str name),J A n c] 287);have k:=JA f 0;have h:=D (fun W (x:Ext g W)=>a W (d.trans x));clear a;go_enter func230,ntmps230;go_upto_region 1 with fail
 try rw [b]
 clear b;go_upto_region 3 with fail;go_wp2_with (refine LH rfl Ax rfl f Ki ?_);refine(h _ (Ext.refl _)).mono ?_
 rintro e l ⟨rfl,i⟩;go_wp2_with fail;go_ret;exact⟨by first|rfl|(rw [Lg,Lg];simp),d.trans i⟩
theorem yC2 {w:Y}{k op num:Nat}{name:Bs}{A:Option Bi}{n c:Nat}{s:Bs}{b:Bool}(h:k≠7)(a:AA (∀W,Ext w W→As prog 181 #[AN #[V Ad k,V Ad op,V Af num,Aa (str name),J A n c]] W (Mi W s)))(m:s.length≤1000000):
 As prog 230 #[AN #[V Ad k,V Ad op,V Af num,Aa (str name),J A n c],AE b] w (Mi w s):=by
 have o:((k:Int)==7)=false:=by simp;omega
 clear h;obtain⟨i,d,f,g⟩:=alw w (Ab #[V Ad k,V Ad op,V Af num,Aa (str name),J A n c] 287);have p:=JA g 0;have j:=D (fun W (x:Ext i W)=>a W (f.trans x));clear a;go_enter func230,ntmps230;go_upto_region 1 with fail
 try rw [d]
 clear d;go_upto_region 3 with fail;go_wp2_with (refine LH rfl Ax rfl g Ki ?_);refine(j _ (Ext.refl _)).mono ?_
 rintro e q ⟨rfl,l⟩;go_wp2_with fail;go_ret;exact⟨by first|rfl|(rw [Lg,Lg];simp),f.trans l⟩
theorem yZ6 {w:Y}{k op num:Nat}{name:Bs}{A:Option Bi}{n c:Nat}{s:Bs}{b:Bool}(a:AA (∀W,Ext w W→As prog 181 #[AN #[V Ad k,V Ad op,V Af num,Aa (str name),J A n c]] W (Mi W s)))(d:s.length≤1000000):
 As prog 230 #[AN #[V Ad k,V Ad op,V Af num,Aa (str name),J A n c],AE b] w (Mi w (if Az k 7&&b then 40::(s++[41])else s)):=by
 by_cases e:k=7
 ·subst e;cases b
  ·exact zg3 a d
  ·exact zg2 a d
 ·have f:Az k 7=false:=by
   cases g:Az k 7
   ·rfl
   ·exact absurd (Ap g) e
  rw [f];exact yC2 e a d
theorem yC3 {w:Y}{op num:Nat}{name:Bs}{b o c:Nat}{s1 N z:Bs}{i g k:Nat}{xs:Bs}{l:Option Bi}{m n:Nat}{q p r:Nat}{s:Bs}{t:Option Bi}{v y:Nat}
 (Q:AA (∀j u,([V Ad i,V Ad g,V Af k,Aa (str xs),J l m n]:List h)[j]?= some u→w.cell? ⟨b,o+j,none⟩=some u)) (R:AA (∀j u,([V Ad q,V Ad p,V Af r,Aa (str s),J t v y]:List h)[j]?= some u→w.cell? ⟨b,o+5+j,none⟩=some u))
 (S:AA (∀W,Ext w W→As prog 230 #[AN #[V Ad i,V Ad g,V Af k,Aa (str xs),J l m n],AE (decide (J5 g<J5 op))] W (Mi W s1)))
 (T:AA (∀W,Ext w W→As prog 230 #[AN #[V Ad q,V Ad p,V Af r,Aa (str s),J t v y],AE (decide (J5 p≤J5 op))] W (Mi W N)))
 (U:AA (∀W,Ext w W→As prog 229 #[V Ad op] W (Mi W z))) (h9:op≤21) (ha:g≤21) (hb:p≤21) (hx:z.length≤1000000) (hz:s1.length≤1000000) (x0:N.length≤1000000):
 As prog 181 #[AN #[V Ad 7,V Ad op,V Af num,Aa (str name),J (some ⟨b,o,none⟩) 2 c]] w (Mi w (s1++32::(z++32::N))):=by
 obtain⟨a,Z,G,O⟩:=alw w (Ab #[V Ad 7,V Ad op,V Af num,Aa (str name),J (some ⟨b,o,none⟩) 2 c] 287);have x1:=JA O.out 0;have hc:=JA O.out 1;have h0:=JA O.out 4;have hd:=D (fun j u F=>G.out.cell (Q.out j u F));have he:=D (fun j u F=>G.out.cell (R.out j u F));have h1:=D (fun W (x:Ext a W)=>S.out W (G.out.trans x));have h2:=D (fun W (x:Ext a W)=>T.out W (G.out.trans x));have hf:=D (fun W (x:Ext a W)=>U.out W (G.out.trans x));have h3:=D (fun W=>VF op W h9);have hg:=D (fun W=>VF g W ha);have hh:=D (fun W=>VF p W hb);obtain⟨x2,h4⟩:=JH (J5 op);rw [←h4]at h3 h1 h2;clear Q R S T U h4;go_enter E5,EF;go_upto_region 1 with fail
 try rw [Z]
 clear Z;go_upto_region 14 with fail;go_wp2_with fail;refine(h3.out _).mono ?_
 rintro e a ⟨rfl,rfl⟩;go_upto_region 15 with fail
 go_cut [4,5] (fun hi hj P=>∃ X I:Nat,hi=Ae (some ⟨X,0,none⟩)∧hj=Ae (some ⟨I,0,none⟩)∧AA (P.heap[X]?= some (Ab #[V Ad i,V Ad g,V Af k,Aa (str xs),J l m n] 287 (0,0)))∧AA (P.heap[I]?= some (Ab #[V Ad q,V Ad p,V Af r,Aa (str s),J t v y] 287 (0,0)))∧AA (Ext a P))
 case first=>
  refine JX.go (Ext a) [] ((Ext.refl a).drew) (fun d=>?_);refine JC d ?_
  refine JP d (fun w A=>Ext.cell A h0) ?_
  refine JC d ?_
  refine Te d Ax Ki (fun w A j u F=>Ext.cell A (hd.out j u F)) ?_
  refine JC d ?_
  refine JP d (fun w A=>Ext.cell A h0) ?_
  refine JC d ?_
  refine Te d Ax Ki (fun w A j u F=>Ext.cell A (he.out j u F)) ?_
  refine Nl (rs:=[8,9]) (by kernel_rfl) (by simp) ?_
  refine(Lm.cons (o:={dst:=some 4,op:=_,type:=_,pos:=_,after:=_,guard:=_}) rfl (fun K f=>?_) (Lm.cons (o:={dst:=some 5,op:=_,type:=_,pos:=_,after:=_,guard:=_}) rfl (fun K f=>?_) Lm.nil))
  ·go_simp;refine f.out _ _ (fun _=>?_) (fun L=>?_)
   ·exact Ext.alloc (by assumption) _
   have d:=L (by simp);clear f K L;refine JX.rd 9 (fun K f=>?_);go_simp;have M:=D (AP (a.drew) (Ab #[V Ad 0,V Ad 0,V Af 0,Aa ⟨#[]⟩,J none 0 0] 287) (Ab #[V Ad 0,V Ad 0,V Af 0,Aa ⟨#[]⟩,J none 0 0] 287));have B:=D (Ay (a.drew) (Ab #[V Ad 0,V Ad 0,V Af 0,Aa ⟨#[]⟩,J none 0 0] 287) (Ab #[V Ad 0,V Ad 0,V Af 0,Aa ⟨#[]⟩,J none 0 0] 287));refine f.out _ _ ?_ (fun d=>?_)
   ·exact Ext.alloc (by assumption) _
   clear f K
   try simp only [Au,pA,pB,pC]
   refine JX.rd 10 (fun K f=>?_);refine Ov rfl 287 _ _ rfl (a.heap.size) #[V Ad i,V Ad g,V Af k,Aa (str xs),J l m n] (by rfl) (by rfl) 287 #[V Ad 0,V Ad 0,V Af 0,Aa ⟨#[]⟩,J none 0 0] M.out Ki rfl (VG _ _ _ _ _ _ _) ?_
   have C:AA (((((a.alloc (Ab #[V Ad 0,V Ad 0,V Af 0,Aa ⟨#[]⟩,J none 0 0] 287)).alloc (Ab #[V Ad 0,V Ad 0,V Af 0,Aa ⟨#[]⟩,J none 0 0] 287)).drew.setRow (a.heap.size) #[V Ad i,V Ad g,V Af k,Aa (str xs),J l m n])).heap[a.heap.size]?= some (Ab #[V Ad i,V Ad g,V Af k,Aa (str xs),J l m n] 287 (0,0))):=D (Bo _ (a.heap.size) _ #[V Ad i,V Ad g,V Af k,Aa (str xs),J l m n] _ _ M.out);have B:AA (((((a.alloc (Ab #[V Ad 0,V Ad 0,V Af 0,Aa ⟨#[]⟩,J none 0 0] 287)).alloc (Ab #[V Ad 0,V Ad 0,V Af 0,Aa ⟨#[]⟩,J none 0 0] 287)).drew.setRow (a.heap.size) #[V Ad i,V Ad g,V Af k,Aa (str xs),J l m n])).heap[a.heap.size+1]?= some (Ab #[V Ad 0,V Ad 0,V Af 0,Aa ⟨#[]⟩,J none 0 0] 287 (0,0))):=D ((C7 _ (a.heap.size) (a.heap.size+1) #[V Ad i,V Ad g,V Af k,Aa (str xs),J l m n] (by omega)).trans B.out);refine f.out _ _ ?_ (fun d=>?_)
   ·exact Ext.setRow (by assumption) (by omega) _
   clear f K
   try simp only [Au,pA,pB,pC]
   refine JX.rd 11 (fun K f=>?_);refine Ov rfl 287 _ _ rfl (a.heap.size+1) #[V Ad q,V Ad p,V Af r,Aa (str s),J t v y] (by rfl) (by rfl) 287 #[V Ad 0,V Ad 0,V Af 0,Aa ⟨#[]⟩,J none 0 0] B.out Ki rfl (VG _ _ _ _ _ _ _) ?_
   have H:AA ((((((a.alloc (Ab #[V Ad 0,V Ad 0,V Af 0,Aa ⟨#[]⟩,J none 0 0] 287)).alloc (Ab #[V Ad 0,V Ad 0,V Af 0,Aa ⟨#[]⟩,J none 0 0] 287)).drew.setRow (a.heap.size) #[V Ad i,V Ad g,V Af k,Aa (str xs),J l m n]).setRow (a.heap.size+1) #[V Ad q,V Ad p,V Af r,Aa (str s),J t v y])).heap[a.heap.size+1]?= some (Ab #[V Ad q,V Ad p,V Af r,Aa (str s),J t v y] 287 (0,0))):=D (Bo _ (a.heap.size+1) _ #[V Ad q,V Ad p,V Af r,Aa (str s),J t v y] _ _ B.out);have C:AA ((((((a.alloc (Ab #[V Ad 0,V Ad 0,V Af 0,Aa ⟨#[]⟩,J none 0 0] 287)).alloc (Ab #[V Ad 0,V Ad 0,V Af 0,Aa ⟨#[]⟩,J none 0 0] 287)).drew.setRow (a.heap.size) #[V Ad i,V Ad g,V Af k,Aa (str xs),J l m n]).setRow (a.heap.size+1) #[V Ad q,V Ad p,V Af r,Aa (str s),J t v y])).heap[a.heap.size]?= some (Ab #[V Ad i,V Ad g,V Af k,Aa (str xs),J l m n] 287 (0,0))):=D ((C7 _ (a.heap.size+1) (a.heap.size) #[V Ad q,V Ad p,V Af r,Aa (str s),J t v y] (by omega)).trans C.out);refine f.out _ _ ?_ (fun d=>?_)
   ·exact Ext.setRow (by assumption) (by omega) _
   clear f K
   try simp only [Au,pA,pB,pC]
   refine JV ?_
   have E:AA (Ext a ((((a.alloc (Ab #[V Ad 0,V Ad 0,V Af 0,Aa ⟨#[]⟩,J none 0 0] 287)).alloc (Ab #[V Ad 0,V Ad 0,V Af 0,Aa ⟨#[]⟩,J none 0 0] 287)).drew.setRow (a.heap.size) #[V Ad i,V Ad g,V Af k,Aa (str xs),J l m n]).setRow (a.heap.size+1) #[V Ad q,V Ad p,V Af r,Aa (str s),J t v y])):=D (by assumption);go_wp2_with fail
   go_meet
   exact⟨_,_,rfl,rfl,C,H,E⟩
  ·go_simp;have B:=D (Aj (a.drew) (Ab #[V Ad 0,V Ad 0,V Af 0,Aa ⟨#[]⟩,J none 0 0] 287));refine f.out _ _ (fun _=>?_) (fun L=>?_)
   ·exact Ext.alloc (by assumption) _
   have d:=L (by simp);clear f K L
   try simp only [Au,pA,pB,pC]
   refine JX.rd 8 (fun K f=>?_);go_simp;have B:=D (AP (a.drew) (Ab #[V Ad 0,V Ad 0,V Af 0,Aa ⟨#[]⟩,J none 0 0] 287) (Ab #[V Ad 0,V Ad 0,V Af 0,Aa ⟨#[]⟩,J none 0 0] 287));have M:=D (Ay (a.drew) (Ab #[V Ad 0,V Ad 0,V Af 0,Aa ⟨#[]⟩,J none 0 0] 287) (Ab #[V Ad 0,V Ad 0,V Af 0,Aa ⟨#[]⟩,J none 0 0] 287));refine f.out _ _ ?_ (fun d=>?_)
   ·exact Ext.alloc (by assumption) _
   clear f K
   try simp only [Au,pA,pB,pC]
   refine JX.rd 10 (fun K f=>?_);refine Ov rfl 287 _ _ rfl (a.heap.size+1) #[V Ad i,V Ad g,V Af k,Aa (str xs),J l m n] (by rfl) (by rfl) 287 #[V Ad 0,V Ad 0,V Af 0,Aa ⟨#[]⟩,J none 0 0] M.out Ki rfl (VG _ _ _ _ _ _ _) ?_
   have C:AA (((((a.alloc (Ab #[V Ad 0,V Ad 0,V Af 0,Aa ⟨#[]⟩,J none 0 0] 287)).alloc (Ab #[V Ad 0,V Ad 0,V Af 0,Aa ⟨#[]⟩,J none 0 0] 287)).drew.setRow (a.heap.size+1) #[V Ad i,V Ad g,V Af k,Aa (str xs),J l m n])).heap[a.heap.size+1]?= some (Ab #[V Ad i,V Ad g,V Af k,Aa (str xs),J l m n] 287 (0,0))):=D (Bo _ (a.heap.size+1) _ #[V Ad i,V Ad g,V Af k,Aa (str xs),J l m n] _ _ M.out);have B:AA (((((a.alloc (Ab #[V Ad 0,V Ad 0,V Af 0,Aa ⟨#[]⟩,J none 0 0] 287)).alloc (Ab #[V Ad 0,V Ad 0,V Af 0,Aa ⟨#[]⟩,J none 0 0] 287)).drew.setRow (a.heap.size+1) #[V Ad i,V Ad g,V Af k,Aa (str xs),J l m n])).heap[a.heap.size]?= some (Ab #[V Ad 0,V Ad 0,V Af 0,Aa ⟨#[]⟩,J none 0 0] 287 (0,0))):=D ((C7 _ (a.heap.size+1) (a.heap.size) #[V Ad i,V Ad g,V Af k,Aa (str xs),J l m n] (by omega)).trans B.out);refine f.out _ _ ?_ (fun d=>?_)
   ·exact Ext.setRow (by assumption) (by omega) _
   clear f K
   try simp only [Au,pA,pB,pC]
   refine JX.rd 11 (fun K f=>?_);refine Ov rfl 287 _ _ rfl (a.heap.size) #[V Ad q,V Ad p,V Af r,Aa (str s),J t v y] (by rfl) (by rfl) 287 #[V Ad 0,V Ad 0,V Af 0,Aa ⟨#[]⟩,J none 0 0] B.out Ki rfl (VG _ _ _ _ _ _ _) ?_
   have H:AA ((((((a.alloc (Ab #[V Ad 0,V Ad 0,V Af 0,Aa ⟨#[]⟩,J none 0 0] 287)).alloc (Ab #[V Ad 0,V Ad 0,V Af 0,Aa ⟨#[]⟩,J none 0 0] 287)).drew.setRow (a.heap.size+1) #[V Ad i,V Ad g,V Af k,Aa (str xs),J l m n]).setRow (a.heap.size) #[V Ad q,V Ad p,V Af r,Aa (str s),J t v y])).heap[a.heap.size]?= some (Ab #[V Ad q,V Ad p,V Af r,Aa (str s),J t v y] 287 (0,0))):=D (Bo _ (a.heap.size) _ #[V Ad q,V Ad p,V Af r,Aa (str s),J t v y] _ _ B.out);have C:AA ((((((a.alloc (Ab #[V Ad 0,V Ad 0,V Af 0,Aa ⟨#[]⟩,J none 0 0] 287)).alloc (Ab #[V Ad 0,V Ad 0,V Af 0,Aa ⟨#[]⟩,J none 0 0] 287)).drew.setRow (a.heap.size+1) #[V Ad i,V Ad g,V Af k,Aa (str xs),J l m n]).setRow (a.heap.size) #[V Ad q,V Ad p,V Af r,Aa (str s),J t v y])).heap[a.heap.size+1]?= some (Ab #[V Ad i,V Ad g,V Af k,Aa (str xs),J l m n] 287 (0,0))):=D ((C7 _ (a.heap.size) (a.heap.size+1) #[V Ad q,V Ad p,V Af r,Aa (str s),J t v y] (by omega)).trans C.out);refine f.out _ _ ?_ (fun d=>?_)
   ·exact Ext.setRow (by assumption) (by omega) _
   clear f K
   try simp only [Au,pA,pB,pC]
   refine JV ?_
   have E:AA (Ext a ((((a.alloc (Ab #[V Ad 0,V Ad 0,V Af 0,Aa ⟨#[]⟩,J none 0 0] 287)).alloc (Ab #[V Ad 0,V Ad 0,V Af 0,Aa ⟨#[]⟩,J none 0 0] 287)).drew.setRow (a.heap.size+1) #[V Ad i,V Ad g,V Af k,Aa (str xs),J l m n]).setRow (a.heap.size) #[V Ad q,V Ad p,V Af r,Aa (str s),J t v y])):=D (by assumption);go_wp2_with fail
   go_meet
   exact⟨_,_,rfl,rfl,C,H,E⟩
 obtain⟨X,I,rfl,rfl,C,H,E⟩:=hcut;have hk:wc.cell? ⟨X,1,none⟩=some (V Ad g):=JA C.out 1;have hl:wc.cell? ⟨I,1,none⟩=some (V Ad p):=JA H.out 1;have hm:wc.cell? ⟨w.heap.size,1,none⟩=some (V Ad op):=E.out.cell hc;have hn:=D (fun W (x:Ext wc W)=>h1.out W (E.out.trans x));have ho:=D (fun W (x:Ext wc W)=>h2.out W (E.out.trans x));have hp:=D (fun W (x:Ext wc W)=>hf.out W (E.out.trans x));go_upto_region 16 with fail;refine JX.go (Ext wc) [] ((Ext.refl wc).drew) (fun d=>?_);refine JC d ?_ (hy:=by(intro w A;refine R5 287 (Eh 4) ?_ X ?_ 287 #[V Ad i,V Ad g,V Af k,Aa (str xs),J l m n] (0,0) _ (CE A C.out) Ax rfl Ki<;>rfl))
 refine JC d ?_
 refine JP d (fun w A=>Ext.cell A hk) ?_
 refine KM 4 d ?_
 refine KM 8 d ?_
 refine QM 9 d (fun w A=>Ext.cell A hm) ?_
 refine KM 13 d ?_ (hy:=by(intro w A;refine R5 287 (Eh 5) ?_ I ?_ 287 #[V Ad q,V Ad p,V Af r,Aa (str s),J t v y] (0,0) _ (CE A H.out) Ax rfl Ki<;>rfl))
 refine KM 14 d ?_
 refine QM 15 d (fun w A=>Ext.cell A hl) ?_
 refine KM 17 d ?_
 try simp only [Au,pA,pB,pC]
 refine JX.rd 3 (fun K f=>?_);go_simp;refine(hg.out _).mono ?_
 rintro e hq ⟨rfl,rfl⟩;refine f.out _ _ ?_ (fun d=>?_)
 ·assumption
 clear f K
 try simp only [Au,pA,pB,pC]
 refine KM 5 d ?_
 try simp only [Au,pA,pB,pC]
 refine JX.rd 6 (fun K f=>?_);go_simp
 with_reducible refine(hn.out _ (by assumption)).mono ?_
 rintro e hr ⟨rfl,h5⟩;have hs:Ext wc hr:=Ext.trans (by assumption) h5;clear h5;refine f.out _ _ ?_ (fun d=>?_)
 ·exact hs
 clear f K
 try simp only [Au,pA,pB,pC]
 refine TY 7 d ?_
 try simp only [Au,pA,pB,pC]
 refine JX.rd 10 (fun K f=>?_);go_simp
 with_reducible refine(hp.out _ (by assumption)).mono ?_
 rintro e ht ⟨rfl,h6⟩;have hu:Ext wc ht:=Ext.trans (by assumption) h6;clear h6;refine f.out _ _ ?_ (fun d=>?_)
 ·exact hu
 clear f K
 try simp only [Au,pA,pB,pC]
 refine TY 11 d ?_
 refine TY 12 d ?_
 try simp only [Au,pA,pB,pC]
 refine JX.rd 16 (fun K f=>?_);go_simp;refine(hh.out _).mono ?_
 rintro e hq ⟨rfl,rfl⟩;refine f.out _ _ ?_ (fun d=>?_)
 ·assumption
 clear f K
 try simp only [Au,pA,pB,pC]
 refine JC d ?_
 try simp only [Au,pA,pB,pC]
 refine JM (fun K f=>?_);go_simp
 with_reducible refine(ho.out _ (by assumption)).mono ?_
 rintro e hv ⟨rfl,h7⟩;have h8:Ext wc hv:=Ext.trans (by assumption) h7;clear h7;refine f.out _ _ ?_ (fun d=>?_)
 ·exact h8
 clear f K
 try simp only [Au,pA,pB,pC]
 refine Mq d ?_
 refine JC d ?_
 try simp only [Au,pA,pB,pC]
 refine JV ?_
 go_wp2_with fail;go_ret;refine⟨?_,G.out.trans (E.out.trans h8)⟩;have hw:(⟨#[32]⟩:ByteArray)=str [32]:=rfl
 first
  |(rw [hw,Lg,Lg,Lg,Lg];simp)
  |(simp)
end Go.Proofs.YtmkomefmgcpnbaaGreatDoor

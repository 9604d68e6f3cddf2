import Derived.Test.YtmkomefmgcpnbaaGreatDoorMg17
import Derived.Lib.FieldsP
import Derived.Lib.Split
import Derived.Laws.RangeString
set_option linter.all false
set_option maxHeartbeats 12800000
set_option maxRecDepth 100000
namespace Go.Proofs.YtmkomefmgcpnbaaGreatDoor
open Tryz Pg Go Go.Proofs Go.RowKit
open Pm (Tm Ac In)
open Go renaming Calls→As,Value→h,World→Y,heap_alloc2_new→Ay,heap_alloc2_old→AP,Addr→Bi,Ending→BX,TypeId→AK,heap_alloc_new→Aj,bodyPost_end→GM,maxLen→Bk,results_none→Dr,wpList_store_row→CK
open Go.Ending renaming returned→Ak
open Go.IntKind renaming i64→Ad,u32→Af,wrap_u32→Eg
open Go.IntWalk renaming i64_in→AU
open Go.Lib renaming hid→D,countB→Hf,count→Jp,goFieldsP→Eb,hasSuffix→Ge,indexByte→Ck,index_one→Gf,splitK→IG,trimSuffix→EV
open Go.Obj renaming cells→Ab
open Go.Proofs renaming intOf→AX,enters_of→F8
open Go.Proofs.Tryz renaming underlying109→Bg,underlying112→Bm,underlying26→Bd,underlying56→Cw,func148→IJ,ntmps148→Ic,results148→Gw,underlying253→Cl,underlying68→FN,underlying76→FO
open Go.RowKit renaming Hid→AA
open Go.Value renaming agg→AN,int→V,slice→J,tuple→AZ,pointer→Ae,string→Aa,bool→AE,func→ER,oneCell'→CT
open _root_.List renaming drop_eq_getElem_cons→AR,drop_length→Cu,drop_zero→FI,getElem?_eq_getElem→Al,getElem?_eq_some_iff→Ao,map_cons→B7,map_nil→D2,mem_of_getElem?→AD,append_assoc→AG,append_nil→BP,flatMap_append→CO,isEmpty_iff→CL,length_append→M,length→De,take_add_one→BB,take_append_drop→C6,take_length→BN,all_eq_true→A7,cons_append→BS,dropLast_concat_getLast→Gv,drop_drop→ET,extract_eq_take_drop→DY,getLast?_eq_some_getLast→Ek,length_cons→Am,length_drop→Cr,length_nil→Av,length_take→BD,map_append→Dv,map_congr_left→Gz,map_map→GL,mem_append→Fi,mem_cons→AH,nil_append→B9,getElem?_map→Bh,length_map→AI,flatMap_cons→Hw,not_mem_nil→Ba
open _root_.Nat renaming le_succ→CA,lt_of_lt_of_le→Ar,eq_of_beq_eq_true→Ap,le_of_ble_eq_true→Ai,le_refl→Aw,add_comm→IA,add_zero→Dp,lt_succ_self→Dy,sub_self→GJ,zero_le→Dd,le_of_lt→Ev,ne_of_lt→II,zero_add→BF,le_trans→AL
open _root_.Or renaming inl→AO,inr→AB
open _root_.Bool renaming and_eq_true→Ah,or_eq_true→DZ,eq_iff_iff→Bl,false_eq_true→BL
open Go.Act renaming put→Au
open Go.World renaming drew→Ga
open Go.ByteArray renaming toList_eq→Br
open _root_.Array renaming toList_extract→ES,toList_inj→F9,getElem?_eq_some_iff→Ag,getElem?_setIfInBounds→BE
open _root_.ByteArray renaming data_extract→Er,ext→DS
open _root_.UInt8 renaming toNat_inj→CH
open Go.RowKit.Below renaming heap_setCell→AY
def ky (g:KJ):Nat:=if g.kind=2 then 1 else if g.kind=3 then g.num else 0
def sF (f:Pg.Fn):Nat:=60+30*Jv f.body
theorem qF {α:Type}(a:α→Nat){l:List α}{i:Nat}{x:α}(b:l[i]?= some x):((l.drop i).map a).sum=a x+((l.drop (i+1)).map a).sum:=by
 obtain⟨h1,c⟩:=Ao.1 b;rw [AR h1,c,B7,List.sum_cons]
theorem yF5 (p:JQ)(U:Nat→Prop)(G F:h)(w:Y)(A:Ju KG U w p.globals G)(B:Ju KF U w p.JY F)(he:Mg w)(hf:∀ k,U k→k<w.heap.size)(r:iX p)(hg:OJ p=true)(hc:∀ f∈p.JY,ND p f f.body 0=true)(hh:∀ g∈p.globals,g.num<4294967296)(hy:QB p≤49152):
 As prog 55 #[AN #[G,F]] w fun e w'=>e=Ak (AZ #[V Ad (QB p:Nat),AN #[V Ad 0,V Ad 0]])∧Ext w w':=by
 have hi:100+((p.globals.map ky).sum+(p.JY.map sF).sum)=QB p:=rfl;obtain⟨hz,hj⟩:=JH (QB p);rw [←hj]at hy hi ⊢;have C:=D (fun W (x:Ext w W)=>zB4 <| zB6 p U G F W (A.ext x) (B.ext x) (he.ext x) (fun k x0=>Ar (hf k x0) x.size) r hg hc);obtain⟨x1,hk⟩:=r.cnt;have hl:=V9 p.JY 0 x1 (by omega) hk;have x2:=D hl;have x3:=D hh;have x4:=r.ng;have x5:=r.nf;have hm:=D A;have hn:=D B;obtain⟨E,H,rfl⟩:=JB A;obtain⟨I,K,rfl⟩:=JB B;obtain⟨m,R⟩:=JH p.globals.length;obtain⟨n,S⟩:=JH p.JY.length;have T:=D R;have X:=D S;rw [←R]at C hm x4 ⊢;rw [←S]at C hn x5 ⊢;obtain⟨ho,Z⟩:=JH ((p.globals.map ky).sum);obtain⟨x6,h0⟩:=JH ((p.JY.map sF).sum);rw [←Z,←h0]at hi;have x7:=D Z;have x8:=D h0;clear R S A B he hf r hg hc hl hk hh hj Z h0;go_enter func55,ntmps55;go_upto_region 1 with fail;have h1:=D (((Ext.refl w).alloc (Ab #[J E m H,J I n K] 56)).alloc (Ab #[V Ad 0,V Ad 0] 26));have L:=D (AP w (Ab #[J E m H,J I n K] 56) (Ab #[V Ad 0,V Ad 0] 26));have h2:=D (Ay w (Ab #[J E m H,J I n K] 56) (Ab #[V Ad 0,V Ad 0] 26));generalize(w.alloc (Ab #[J E m H,J I n K] 56)).alloc (Ab #[V Ad 0,V Ad 0] 26)=W0 at h1 L h2 ⊢;go_upto_region 2 with(first|refine LH rfl Cw rfl L Sy ?_|(go_at_call 102;refine(C _ h1).mono ?_;rintro e hp ⟨rfl,hq⟩));have M:=D (hq.alloc (Ab #[V Ad 0,V Ad 0] 26));have N:=D (h1.trans M);have O:=D (CE M L);have h3:=D (CE M h2);have x9:=bk O 0;clear hq M C L h2;go_wp2;have hr:=D (Ext.refl (hp.alloc (Ab #[V Ad 0,V Ad 0] 26)));generalize hp.alloc (Ab #[V Ad 0,V Ad 0] 26)=W1 at N O h3 hr x9 ⊢;clear hr;go_loopw [5,19] (fun h4 s h5=>∃ (i a:Nat),h4=V Ad a∧s=V Ad i∧i≤m∧a+((p.globals.drop i).map ky).sum=100+ho∧AA (Ext W1 h5)) (fun _ s _=>m - (AX s).toNat)
 case atStart=>exact⟨0,100,rfl,rfl,by omega,by rw [x7];rfl,D (Ext.refl _)⟩
 case round=>
  obtain⟨i,a,rfl,rfl,xt,P,c⟩:=hrel;by_cases xa:i<m
  ·obtain⟨x,l⟩:∃ x,p.globals[i]?= some x:=⟨_,Al (show i<p.globals.length by rw [←T];exact xa)⟩
   obtain⟨b,o,xb,cs,t, -,h6,u⟩:=((hm.ext N).ext c).elem l;obtain⟨xu,rfl,hs⟩:=h6;obtain⟨xv,xw,rfl⟩:=JB hs;rw [qF ky l]at P;have h7:=x3 x (AD l);rw [←T]at t;injection t with h8 xc h9
   subst h8 h9;have ha:=D u;have xd:a+ky x≤100000:=by omega
   have xx:Ad.wrap (x.num:Int)=(x.num:Int):=AU _ (by omega);have v:=D P;clear u hs l P;have xe:(((x.kind:Int)==2)=true∧ky x=1)∨(((x.kind:Int)==2)=false∧((x.kind:Int)==3)=true∧ky x=x.num)∨(((x.kind:Int)==2)=false∧((x.kind:Int)==3)=false∧ky x=0):=by
    unfold ky;by_cases q2:x.kind=2
    ·exact AO ⟨by simp;omega,by rw [if_pos q2]⟩
    ·by_cases q3:x.kind=3
     ·exact AB (AO ⟨by simp;omega,by simp;omega,by rw [if_neg q2,if_pos q3]⟩)
     ·exact AB (AB ⟨by simp;omega,by simp;omega,by rw [if_neg q2,if_neg q3]⟩)
   generalize str x.name=xs at*
   generalize ky x=d at*
   rcases xe with⟨ht,rfl⟩|⟨ht,xf,rfl⟩|⟨ht,xf,rfl⟩
   all_goals
    go_wp2_with (refine KV rfl Bm rfl ha Oe ?_);go_roundw
   case rel=>exact⟨i+1,a+1,by go_num,by go_num,by omega,by have:=v.out;omega,D (c.alloc _)⟩
   case measure=>simp [AX];omega
   case rel=>exact⟨i+1,a+x.num,by go_num,by go_num,by omega,by have:=v.out;omega,D (c.alloc _)⟩
   case measure=>simp [AX];omega
   case rel=>exact⟨i+1,a,by go_num,by go_num,by omega,by have:=v.out;omega,D (c.alloc _)⟩
   case measure=>simp [AX];omega
  ·have xg:i=m:=by omega
   subst xg;rw [show p.globals.drop i=[]from by rw [T,Cu],D2,List.sum_nil]at P;have hu:=D (N.trans c);have xh:=D (CE c O);have xi:=D (CE c h3);have xy:=bk xh 1;clear c N O h3;go_wp2;go_loopw [5,40] (fun h4 s h5=>∃ (j a:Nat),h4=V Ad a∧s=V Ad j∧j≤n∧a+((p.JY.drop j).map sF).sum=100+ho+x6∧AA (Ext wr h5)) (fun _ s _=>n - (AX s).toNat)
   case atStart=>exact⟨0,a,rfl,rfl,by omega,by rw [x8,FI];omega,D (Ext.refl _)⟩
   case round=>
    obtain⟨j,hb,rfl,rfl,xz,y,c⟩:=hrel;by_cases xj:j<n
    ·obtain⟨x,l⟩:∃ x,p.JY[j]?= some x:=⟨_,Al (show j<p.JY.length by rw [←X];exact xj)⟩
     obtain⟨b,o,xb,cs,t, -,h6,u⟩:=((hn.ext hu).ext c).elem l;obtain⟨y0,y1,y2,rfl,hv,hw,hd⟩:=h6;obtain⟨PA,y3,rfl⟩:=JB hv;obtain⟨y4,y5,rfl⟩:=JB hw;obtain⟨xk,xl,rfl⟩:=JB hd;rw [qF sF l]at y;have h7:=x2 x (AD l);rw [←X]at t;injection t with h8 xc h9
     subst h8 h9;have ha:=D u;have y6:=h7.2.2;have xm:=D (fun(W:Y) (xn:Ext wr W)=>yE9 x.body U (J xk x.body.length xl) W (hd.ext xn) (by omega));have hx:sF x=60+30*Jv x.body:=rfl;rw [hx]at y;generalize Jv x.body=q at*
     have xd:hb+(60+30*q)≤100000:=by omega
     have v:=D y;clear u hv hw hd l y h7 hx;generalize str x.name=xs at*
     generalize x.params.length=np at*
     generalize x.JE.length=nl at*
     generalize x.body.length=nb at*
     go_wp2_with (first|refine KV rfl Bg rfl ha Nb ?_|(go_at_call 103;refine(xm _ ((Ext.refl _).alloc _)).mono ?_;rintro e y7 ⟨rfl,xo⟩));go_roundw
     case rel=>exact⟨j+1,hb+(60+30*q),by go_num,by go_num,by omega,by have:=v.out;omega,D ((c.alloc _).trans xo)⟩
     case measure=>simp [AX];omega
    ·have xp:j=n:=by omega
     subst xp;rw [show p.JY.drop j=[]from by rw [X,Cu],D2,List.sum_nil]at y;have xq:hb=hz:=by omega
     subst xq;have z:=D (CE c xi);have y8:=bk z 0;have y9:=bk z 1;have ya:=JF z 0;have f1:=JF z 1;have Q:=JJ z 0 (V Ad 0);have yb:=bk Q 1;have yc:=JF Q 1;have xr:=D (JJ Q 1 (V Ad 0));clear Q;go_wp2;refine Rx results55 Bd Pk xr ?_
     exact⟨rfl,((hu.trans c).setCell (p:=⟨w.heap.size+1,0,none⟩) (CA _) _).setCell (p:=⟨w.heap.size+1,1,none⟩) (CA _) _⟩
structure TT (p:JQ) (c:Cn) (U:Nat→Prop) (g0:Option Nat) (Ld:h) (w0:Y) (g:Option Nat) (lv:h) (l:Bs) (lb:Nat) (w:Y):Prop where
 cw:CW c g l lb 0 [] lv w
 rl:K9 c.b g0 Ld w0 g lv w
 gG:Ju KG U w p.globals (J c.GA c.ng c.gc)
 nu:∀ k,U k→¬ CG c.b g lv k
 lt:∀ k,U k→k<w.heap.size
section
variable {p:JQ}{c:Cn}{U:Nat→Prop}{g0 g:Option Nat}{Ld lv:h}{w0 w w' W1:Y}{l l':Bs}{lb lb':Nat}
theorem TT.step {f:Option Nat}{i:h}(a:TT p c U g0 Ld w0 g lv l lb w)(j:CW c f l' lb' 0 [] i w')(d:K9 c.b g lv w f i w'):TT p c U g0 Ld w0 f i l' lb' w':=
 ⟨j,a.rl.trans d,a.gG.upd d.upd a.nu (fun _ q=>q),fun k e=>d.bg (a.lt k e) (a.nu k e),fun k e=>Ar (a.lt k e) d.upd.size⟩
theorem TT.ext (a:TT p c U g0 Ld w0 g lv l lb w)(x:Ext w w'):TT p c U g0 Ld w0 g lv l lb w':=a.step (a.cw.ext x) (K9.ext x)
theorem TT.fin (a:TT p c U g0 Ld w0 g lv l lb w):MB c g0 Ld w0 l lb 0 [] (Ak (AZ #[])) w:=⟨rfl,g,lv,a.cw,a.rl⟩
def TW (p:JQ)(c:Cn)(U:Nat→Prop)(g0:Option Nat)(Ld:h)(w0:Y)(lv:h)(l:Bs)(lb:Nat)(e:BX)(w':Y):Prop:=e=Ak (AZ #[])∧∃ a,AA (TT p c U g0 Ld w0 a lv l lb w')
theorem TT.tw (a:TT p c U g0 Ld w0 g lv l lb w){e:BX}(b:ny c g lv w l' lb' 0 [] e w'):TW p c U g0 Ld w0 lv l' lb' e w':=by
 obtain⟨h1,d,f,h⟩:=b;exact⟨h1,d,D (a.step f h)⟩
theorem Nf (a:TT p c U g0 Ld w0 g lv l lb w)(name:Bs)(n:Nat)(d:l.length+(JS name n).length≤1000000)(f:n≤9223372036854775807){s v:h}(i:s=Aa (str name))(j:v=V Ad n):
 As prog 59 #[Ae (some ⟨c.b,0,none⟩),s,v] w (TW p c U g0 Ld w0 lv (l++JS name n) lb):=by
 subst i j;exact(rY a.cw f d).mono fun e w' k=>a.tw k
theorem yF7 (a:TT p c U g0 Ld w0 g lv l lb w)(s:Bs)(d:l.length+(JU s).length≤1000000){v:h}(f:v=Aa (str s)):
 As prog 62 #[Ae (some ⟨c.b,0,none⟩),v] w (TW p c U g0 Ld w0 lv (l++JU s) lb):=by
 subst f;exact(kP a.cw d).mono fun e w' i=>a.tw i
theorem TT.cell (a:TT p c U g0 Ld w0 g lv l lb w){q:Bi}{u:h}(hc:w0.cell? q=some u)(d:¬ CG c.b g0 Ld q.block):w.cell? q=some u:=JK.cell a.rl.upd hc d
end
def zB7 (i:Nat)(g:KJ):Bs:=if g.kind=1 then []else JU (Lf i)++(g.init.flatMap (JS Md)++JS MO (max g.num 1 - g.init.length))
theorem wJ (i:Nat)(g:KJ)(l:List KJ):Me i (g::l)=zB7 i g++Me (i+1) l:=by rw [Me];rfl
theorem yF8 (p:JQ)(X:iX p)(c:Cn)(U:Nat→Prop)(g:Option Nat)(lv:h)(w:Y)(l:Bs)(lb:Nat)(L:TT p c U g lv w g lv l lb w)(hh:l.length+(Me 0 p.globals).length≤1000000):
 As prog 61 #[Ae (some ⟨c.b,0,none⟩)] w (MB c g lv w (l++Me 0 p.globals) lb 0 []):=by
 obtain⟨A,N⟩:=JH p.globals.length;have hi:=D N;have hz:=X.ng;obtain⟨xu,xv,x0⟩:=JB L.gG;injection x0 with u B v
 have x1:w.cell? ⟨c.b,3,none⟩=some (J c.GA A c.gc):=L.cw.Kv (i:=1) (by show some (J c.GA c.ng c.gc)=_;rw [B,N]);obtain⟨xw,Z⟩:=JH c.GA;obtain⟨xx,h0⟩:=JH c.gc;rw [←Z,←h0]at x1;have x2:=D Z;have x3:=D h0;have x4:=D L;have hj:=D X.tx;have x5:=D hh;rw [←N]at hz;clear L X hh u B v N Z h0;go_enter func61,ntmps61;go_wp2;go_loopw [12] (fun s h2=>∃ (i:Nat) (r:Option Nat) (m:Bs),s=V Ad i∧i≤A∧AA (TT p c U g lv w r lv m lb h2)∧AA (m++Me i (p.globals.drop i)=l++Me 0 p.globals)) (fun s _=>A - (AX s).toNat)
 case atStart=>exact⟨0,g,l,rfl,by omega,x4,D (by simp)⟩
 case round=>
  obtain⟨i,r,m,rfl,xy,C,O⟩:=hrel;by_cases x6:i<A
  ·obtain⟨x,E⟩:∃ x,p.globals[i]?= some x:=⟨_,Al (show i<p.globals.length by rw [←hi];exact x6)⟩
   have h3:p.globals.drop i=x::p.globals.drop (i+1):=by
    obtain⟨h1,x7⟩:=Ao.1 E;rw [AR h1,x7]
   have n:=O.out;rw [h3,wJ]at n;have P:=AD E;obtain⟨xz,x8,x9⟩:=hj.gn x P;have y:=hj.g x P;obtain⟨b,o,y0,cs,xa, -,xb,h4⟩:=C.gG.elem E;obtain⟨y1,rfl,Q⟩:=xb;have xc:=D Q;obtain⟨hk,hl,rfl⟩:=JB Q;injection xa with u B v
   have xd:=x2.trans u;have xe:=x3.trans v;subst xd xe;clear u B v;have hm:=D h4;obtain⟨W1,h5,hn,h6⟩:=alw wr (Ab #[V Ad x.kind,Aa (str x.name),V Af x.num,J hk x.init.length hl] 112);have h7:AA (¬CG c.b r lv wr.heap.size):=D (fun q=>by have:=C.cw.lt q;omega);have t:=D (C.ext hn);have a:AA (TT p c U r lv (W1) r lv m lb (W1)):=D ⟨t.cw,K9.refl _ _ _ _,t.gG,t.nu,t.lt⟩;have y2:=bk h6 0;have z2:=bk h6 2;have ho:=bk h6 3;have h8:=congrArg De n;simp only [M]at h8;by_cases h9:x.kind=1
   ·have xf:((x.kind:Int)==1)=true:=by simp;omega
    have F:AA (m++Me (i+1) (p.globals.drop (i+1))=l++Me 0 p.globals):=D (by rw [←n];unfold zB7;rw [if_pos h9];rfl);clear h4 Q E h3 n P y h8 O h9;go_wp2_with (refine KV rfl Bm rfl hm Oe ?_)
    try rw [h5]
    go_roundw
    case rel=>exact⟨i+1,r,m,by go_num,by omega,t,F⟩
    case measure=>simp [AX];omega
   ·have xf:((x.kind:Int)==1)=false:=by simp;omega
    have F:AA (m++(JU (Lf i)++(x.init.flatMap (JS Md)++JS MO (max x.num 1 - x.init.length)))++Me (i+1) (p.globals.drop (i+1))=l++Me 0 p.globals):=D (by rw [←n,AG];unfold zB7;rw [if_neg h9]);have hp:=congrArg De F.out;simp only [M]at hp;have R:AA (m.length+((JU (Lf i)).length+((x.init.flatMap (JS Md)).length+(JS MO (max x.num 1 - x.init.length)).length))≤1000000):=D (by have:=x5.out;omega);have y3:x.init.length≤max x.num 1:=by
     unfold VB at y;simp only [Ah,DZ]at y;by_cases q3:x.kind=3
     ·rcases y.2 with q|q
      ·rw [q3]at q;cases q
      ·have:=Ai q.2;omega
     ·rcases y.1.1.2 with q|q
      ·exact absurd (Ap q) q3
      ·rw [CL]at q;rw [q];simp
    have y4:max x.num 1 - x.init.length≤4294967296:=by omega
    have hq:AA (Ad.wrap (max (Ad.wrap (x.num:Int)) 1 - (x.init.length:Int))=((max x.num 1 - x.init.length:Nat):Int)):=D (by
     have xg:Ad.wrap (x.num:Int)=(x.num:Int):=AU _ (by omega)
     rw [xg,AU _ (by omega)]
     omega)
    obtain⟨z,ha⟩:=JH x.init.length;have S:=D ha;have xh:=D x9;have y5:z≤1000:=by rw [ha];exact x8
    clear h4 Q E h3 n P y h8 O hp ha;go_wp2_with (refine KV rfl Bm rfl hm Oe ?_)
    try rw [h5]
    clear h5;refine JX.go (fun W=>Ext W W) [] (Ext.refl (Ga W1)) (fun f=>?_)
    iterate 4 refine JC f ?_
    try simp only [Au,pA,pB,pC]
    refine JM (fun K d=>?_);go_simp;refine(ak i _ (by omega) (a.cw.tab.ext ((Ext.refl W1).drew))).mono ?_
    rintro e y6 ⟨rfl,hr⟩;have a:=D ((a.ext ((Ext.refl W1).drew)).ext hr);clear hr;refine d _ _ ?_ (fun f=>?_)
    ·exact Ext.refl _
    clear d K
    try simp only [Au,pA,pB,pC]
    refine JM (fun K d=>?_);go_simp;refine(yF7 a (Lf i) (by have:=R.out;omega) rfl).mono ?_
    clear a;rintro e xi ⟨rfl,xj,a⟩;refine d _ _ ?_ (fun f=>?_)
    ·exact Ext.refl _
    clear d K
    try simp only [Au,pA,pB,pC]
    refine JV ?_
    have y7:xi.cell? ⟨wr.heap.size,3,none⟩=some (J hk z hl):=by rw [S];exact a.cell ho h7
    go_wp2;go_loopw [29] (fun s h2=>∃ (j:Nat) (hs:Option Nat) (G:Bs),s=V Ad j∧j≤z∧AA (TT p c U r lv W1 hs lv G lb h2)∧AA (G=m++JU (Lf i)++(x.init.take j).flatMap (JS Md))) (fun s _=>z - (AX s).toNat)
    case atStart=>exact⟨0,xj,_,rfl,by omega,a,D (by simp)⟩
    case round=>
     clear a;obtain⟨j,hs,G,rfl,y8,a,T⟩:=hrel;by_cases xk:j<z
     ·obtain⟨k,hy⟩:∃ k,x.init[j]?= some k:=⟨_,Al (show j<x.init.length by rw [←S];exact xk)⟩
      have ht:=((xc.ext hn).upd a.rl.upd C.nu (fun _ q=>q));obtain⟨xl,H,y9,xm,hu, -,hv,hw⟩:=ht.elem hy;have xn:xm=[V Af (k:Nat)]:=hv;subst xn;rw [←S]at hu;injection hu with u B v
      subst u v;have ya:wr.cell? ⟨xl,H+j,none⟩=some (V Af (k:Nat)):=by have:=hw 0 (V Af (k:Nat)) rfl;rwa [show H+j*KU.size+0=H+j from by show H+j*1+0=H+j;omega]at this
      have yb:=xh k (AD hy);have yc:Ad.wrap (k:Int)=(k:Int):=AU _ (by omega);have hb:(x.init.take (j+1)).flatMap (JS Md)=(x.init.take j).flatMap (JS Md)++JS Md k:=by rw [BB,hy,CO];simp
      have hle:((x.init.take (j+1)).flatMap (JS Md)).length≤(x.init.flatMap (JS Md)).length:=by
       conv=>rhs;rw [←C6 (j+1) x.init,CO,M]
       omega
      rw [hb,M]at hle;have xo:AA (G.length+(JS Md k).length≤1000000):=D (by rw [T];simp only [M];have:=R.out;omega);have xp:AA (G++JS Md k=m++JU (Lf i)++(x.init.take (j+1)).flatMap (JS Md)):=D (by rw [T,hb];simp only [AG]);clear ht hv hw hy hb hle;go_wp2_with (go_at_call 59;refine(Nf a Md k xo (by omega) rfl rfl).mono ?_;clear a;rintro e yd ⟨rfl,xq,a⟩);go_roundw
      case rel=>exact⟨j+1,xq,_,by go_num,by omega,a,xp⟩
      case measure=>simp [AX];omega
     ·have xr:j=z:=by omega
      have hx:=T.out;rw [show x.init.take j=x.init from by rw [xr,S,BN]]at hx;subst hx;clear T;go_wp2;refine JX.go (fun W=>∃ hc hd,TT p c U r lv W1 hc lv hd lb W) [] (⟨_,_,a.ext ((Ext.refl wr).drew)⟩) (fun f=>?_)
      iterate 4 refine JC f ?_
      refine JC f ?_ (hy:=by(intro w he;obtain⟨hc,hd,hf⟩:=he;have q:=hf.cell z2 h7.out;go_simp;(try with_reducible rfl)))
      refine JC f ?_
      refine KM 7 f ?_
      refine KM 8 f ?_ (hy:=by(intro w he;obtain⟨hc,hd,hf⟩:=he;have q:=hf.cell ho h7.out;go_simp;(try with_reducible rfl)))
      try simp only [Au,pA,pB,pC]
      refine Nl (rs:=[6,9]) (by kernel_rfl) (by simp) ?_
      refine(Lm.cons (o:={dst:=some 46,op:=_,type:=_,pos:=_,after:=_,guard:=_}) rfl (fun K d=>?_) (Lm.cons (o:={dst:=some 49,op:=_,type:=_,pos:=_,after:=_,guard:=_}) rfl (fun K d=>?_) Lm.nil))
      ·go_simp;refine d _ _ (fun _=>?_) (fun I=>?_)
       ·trivial
       have f:=I (by simp);clear d K I
       try simp only [Au,pA,pB,pC]
       refine JX.rd 9 (fun K d=>?_);go_simp;refine d _ _ ?_ (fun f=>?_)
       ·trivial
       clear d K
       try simp only [Au,pA,pB,pC]
       refine KM 10 f ?_
       try simp only [Au,pA,pB,pC]
       refine JX.rd 11 (fun K d=>?_);go_simp;refine(Nf (a.ext ((Ext.refl wr).drew)) MO (max x.num 1 - x.init.length) (by have:=R.out;simp only [M];omega) (by omega) rfl (by rw [hq])).mono ?_
       clear a;rintro e xs ⟨rfl,hg,a⟩;refine d _ _ ?_ (fun f=>?_)
       ·exact⟨_,_,a⟩
       clear d K
       try simp only [Au,pA,pB,pC]
       refine JV ?_
       go_wp2_with fail;go_roundw
       case rel=>exact⟨i+1,hg,_,by go_num,by omega,D (t.step a.cw a.rl),D (by rw [←F];simp only [AG])⟩
       case measure=>simp [AX];omega
      ·go_simp;refine d _ _ (fun _=>?_) (fun I=>?_)
       ·trivial
       have f:=I (by simp);clear d K I
       try simp only [Au,pA,pB,pC]
       refine JX.rd 6 (fun K d=>?_);go_simp;refine d _ _ ?_ (fun f=>?_)
       ·trivial
       clear d K
       try simp only [Au,pA,pB,pC]
       refine KM 10 f ?_
       try simp only [Au,pA,pB,pC]
       refine JX.rd 11 (fun K d=>?_);go_simp;refine(Nf (a.ext ((Ext.refl wr).drew)) MO (max x.num 1 - x.init.length) (by have:=R.out;simp only [M];omega) (by omega) rfl (by rw [hq])).mono ?_
       clear a;rintro e xs ⟨rfl,hg,a⟩;refine d _ _ ?_ (fun f=>?_)
       ·exact⟨_,_,a⟩
       clear d K
       try simp only [Au,pA,pB,pC]
       refine JV ?_
       go_wp2_with fail;go_roundw
       case rel=>exact⟨i+1,hg,_,by go_num,by omega,D (t.step a.cw a.rl),D (by rw [←F];simp only [AG])⟩
       case measure=>simp [AX];omega
  ·have xt:i=A:=by omega
   subst xt;have n:=O.out;rw [show p.globals.drop i=[]from by rw [hi,Cu],Me,BP]at n;subst n;go_wp2;go_end0;exact C.fin
theorem zB8 (x:Nat)(W:Y):As prog 205 #[V .i32 x] W fun e w'=>e=Ak (AE (Wz x))∧∃ q,w'=W.drewN q:=by
 have a:AA (Wz x= !(decide (97≤x)&&decide (x≤122)||decide (48≤x)&&decide (x≤57))):=D rfl;by_cases h1:x<97<;>by_cases g:122<x<;>by_cases h:x<48<;>by_cases i:57<x
 all_goals first|(exfalso;omega)|skip
 all_goals
  have b:decide (97≤x)= !decide (x<97):=by rw [Bl];simp
  have c:decide (x≤122)= !decide (122<x):=by rw [Bl];simp
  have d:decide (48≤x)= !decide (x<48):=by rw [Bl];simp
  have f:decide (x≤57)= !decide (57<x):=by rw [Bl];simp
  rw [b,c,d,f]at a;clear b c d f;go_enter func205,ntmps205;go_wp2;go_ret;refine⟨?_,0,rfl⟩;rw [a];simp [h1,g,h,i]
  try omega
theorem Yh (s:Bs)(w:Y)(b:Mk s=true):As prog 154 #[Aa (str s)] w fun e w'=>e=Ak (AE true)∧Ext w w':=by
 unfold Mk at b;rw [Ah]at b;have d:=Ai b.2;obtain⟨h1,f,g⟩:=jV b.1;have h:=D (fun W=>strings_ContainsFunc 205 #[] (F8 func205 (by kernel_rfl) rfl) Wz (str s) W (fun m x _=>zB8 x m));have i:Lib.idxFunc Wz true (str s)= -1:=VP s f _ _;rw [i]at h;obtain⟨c,a,rfl⟩:∃ c a,s=c::a:=by cases s with|nil=>exact absurd rfl h1|cons c a=>exact⟨c,a,rfl⟩
 have j:=g c a rfl;have hlen:0<(str (c::a)).size:=by rw [KO];simp
 have o:(str (c::a)).size≤6:=by rw [KO];exact d
 have hc:(((str (c::a))[0]'hlen).toNat:Int)=(c.toNat:Int):=rfl;have p:¬ (str (c::a)).toList=[]:=by rw [Br];simp [str]
 have q:(str (c::a)).toList.isEmpty=false:=by rw [Br];simp [str]
 obtain⟨k,l⟩:=JH c.toNat;rw [←l]at hc j;have r:97≤(k:Int):=by omega
 have t:(k:Int)≤122:=by omega
 clear l g f h1 b i j d;generalize str (c::a)=S at*
 go_enter func154,ntmps154;go_wp2_with (go_at_call 159;refine(h _).mono ?_;rintro e w' ⟨rfl,n⟩);go_ret;exact⟨rfl,n⟩
theorem zU0 (c:UInt8)(a:Bs)(w:Y)(b:K4 c=true):As prog 154 #[Aa (str (c::a))] w fun e w'=>e=Ak (AE false)∧w'=w:=by
 have hlen:0<(str (c::a)).size:=by rw [KO];simp
 have hc:(((str (c::a))[0]'hlen).toNat:Int)=(c.toNat:Int):=rfl;have d:¬ (str (c::a)).toList=[]:=by rw [Br];simp [str]
 have f:(str (c::a)).toList.isEmpty=false:=by rw [Br];simp [str]
 have g:(c.toNat:Int)<97:=by unfold K4 at b;simp at b;omega
 generalize c.toNat=k at*
 generalize str (c::a)=S at*
 by_cases h:S.size≤6
 ·go_enter func154,ntmps154;go_wp2;go_ret;exact⟨rfl,rfl⟩
 ·have i:6<S.size:=by omega
  go_enter func154,ntmps154;go_wp2;go_ret;exact⟨rfl,rfl⟩
theorem oK (d:Bs)(v:Nat)(w:Y)(a:Mg w)(b:Ud d=some v)(c:∀ x∈d,K4 x=true)(f:d.length≤100000):
 As prog 242 #[Aa (str d)] w fun e w'=>e=Ak (AZ #[V Af v,AE true])∧Ext w w':=by
 obtain⟨m,g,h⟩:=XY b c;have n:Af.wrap (v:Int)=v:=by rw [Eg];omega
 have k:=D (fun W=>aB d v W f g);have i:=D (fun(W:Y) (x:Ext w W)=>VQ v W (by omega) (a.ext x));rw [h]at i;clear a b c f g h;generalize str d=o at*
 go_enter func242,ntmps242;go_wp2_with (first|(go_at_call 81;refine(k _).mono ?_;rintro e p ⟨rfl,j⟩)|(go_at_call 82;refine(i _ j).mono ?_;rintro e q ⟨rfl,l⟩))
 go_ret2
 exact⟨rfl,j.trans l⟩
theorem zL3 (s:Bs)(a b:Nat):(str s).extract a b=str ((s.take b).drop a):=by
 apply DS;apply F9.1;rw [Er,ES,DY];simp [str,List.drop_take]
abbrev gM (a:Nat):Bool:=decide (a=32)
def Ut (s:Bs)(pos:Nat):Option Nat→Bs
 |some a=>((s.take pos).drop a).reverse
 |none=>[]
theorem wM {s:Bs}{pos:Nat}{c:UInt8}{b:Option Nat}(hc:s[pos]?= some c)(d:∀ a,b=some a→a<pos):Ut s (pos+1) (some (b.getD pos))=c::Ut s pos b:=by
 have g:=(Ao.1 hc).1;have e:s.take (pos+1)=s.take pos++[c]:=by rw [BB,hc];rfl
 have f:(s.take pos).length=pos:=by rw [BD];omega
 cases b with
 |none=>
  show((s.take (pos+1)).drop pos).reverse=[c]
  rw [e,List.drop_append,f,List.drop_of_length_le (by omega),GJ];rfl
 |some a=>
  have:=d a rfl;show((s.take (pos+1)).drop a).reverse=c::((s.take pos).drop a).reverse
  rw [e,List.drop_append_of_le_length (by omega),List.reverse_append];rfl
theorem TV (s:Bs)(k:∀ c∈s,c.toNat<128):∀ (l:Bs)(pos f:Nat)(d:Option Nat)(acc:List (Nat×Nat)),s.drop pos=l→l.length≤f→pos≤s.length→(∀a,d=some a→a<pos)→
 (Lib.closeSpans (str s) (Lib.spansFromP gM (str s) f pos d acc)).map (fun x=>(str s).extract x.1 x.2)=acc.map (fun x=>(str s).extract x.1 x.2)++(K8 (Ut s pos d) l).map str
 |[],pos,f,d,acc,g,h,p,i=>by
  have t:pos=s.length:=by have:=congrArg De g;rw [Cr,Av]at this;omega
  rw [Lib.spansFromP_end _ _ _ _ _ _ (by rw [KO];omega)];cases d with
  |none=>simp [Lib.closeSpans,Ut,K8]
  |some a=>
   have h1:=i a rfl;have m:((s.take pos).drop a)≠[]:=fun q=>by have:=congrArg De q;rw [Cr,BD,Av]at this;omega
   show(acc++[(a,(str s).size)]).map _=_
   have e:(Ut s pos (some a)).isEmpty=false:=by unfold Ut;simpa using m
   rw [K8,e,Dv];simp only [B7,D2,Ut,List.reverse_reverse,BL,if_false];rw [zL3,KO,←t]
 |c::j,pos,0,d,acc,g,h,p,i=>by simp at h
 |c::j,pos,f+1,d,acc,g,h,p,i=>by
  have u:pos<s.length:=by have:=congrArg De g;rw [Cr,Am]at this;omega
  have hc:s[pos]?= some c:=by rw [←List.head?_drop,g];rfl
  have n:pos<(str s).size:=by rw [KO];exact u
  have r:((str s)[pos]'n)=c:=by
   have:=(Ao.1 hc).2;exact this
  have v:Utf8.decode (str s) pos=(c.toNat,1):=by
   have:=decode_ascii (str s) pos n (by rw [r];exact k c (AD hc));rw [r]at this;exact this
  have o:s.drop (pos+1)=j:=by rw [←ET,g];rfl
  have w:=wM hc i;unfold Lib.spansFromP;rw [if_pos n,v];have y:gM c.toNat=decide (c=32):=by
   rw [Bl];simp only [gM,decide_eq_true_eq];exact⟨fun q=>CH.1 q,fun q=>by rw [q];rfl⟩
  dsimp only;rw [y];by_cases q:c=32
  ·rw [if_pos (by rw [q];rfl)];subst q;cases d with
   |none=>
    dsimp only;rw [TV s k j (pos+1) f none acc o (by simpa using h) (by omega) (by simp)];rw [K8,if_pos rfl];rfl
   |some a=>
    have h1:=i a rfl;have m:((s.take pos).drop a)≠[]:=fun q=>by have:=congrArg De q;rw [Cr,BD,Av]at this;omega
    have e:(Ut s pos (some a)).isEmpty=false:=by unfold Ut;simpa using m
    dsimp only;rw [TV s k j (pos+1) f none _ o (by simpa using h) (by omega) (by simp)];rw [K8,if_pos rfl,e,Dv];simp only [B7,D2,BL,if_false,AG,BS,B9];rw [zL3];show _++(str _::_)=_++(str (Ut s pos (some a)).reverse::_)
    unfold Ut;rw [List.reverse_reverse]
  ·rw [if_neg (by simpa using q)];have key:=TV s k j (pos+1) f (some (d.getD pos)) acc o (by simpa using h) (by omega) (fun a e=>by
    cases d with
    |none=>cases e;exact Dy _
    |some b=>cases e;exact Nat.lt_succ_of_lt (i _ rfl))
   rw [w]at key;rw [K8,if_neg q,←key];cases d<;>rfl
theorem zB9 (s:Bs)(a:∀ c∈s,c.toNat<128):Eb gM (str s)=(K8 [] s).map str:=by
 unfold Eb Lib.spansOfP;exact TV s a s 0 _ none [] rfl (by rw [KO];exact Aw _) (Dd _) (by simp)
theorem oL {s:Bs}{k:UInt8}(b:k∉s):Lib.index s [k]= -1:=by
 rw [Gf]
 induction s with
 |nil=>rfl
 |cons c e d=>
  have h1:(c==k)=false:=by simp only [beq_eq_false_iff_ne];exact fun q=>b (by rw [q];simp)
  rw [Ck,h1,d (fun q=>b (by simp [q]))];rfl
theorem zU1 {s:Bs}{k:UInt8}(a:k∉s):Lib.cut s [k]=(s,[],false):=by
 unfold Lib.cut;rw [oL a,if_neg (by decide)]
theorem VL {c:UInt8}(a:c≠32):∀ (s acc:Bs),c∈s∨c∈acc→∃ f∈K8 acc s,c∈f
 |[],acc,hc=>by
  have hc:c∈acc:=by simpa using hc
  have:acc.isEmpty=false:=by cases acc with|nil=>simp at hc|cons _ _=>rfl
  rw [K8,this];exact⟨acc.reverse,by simp,by simpa using hc⟩
 |d::b,acc,hc=>by
  rw [K8];by_cases q:d=32
  ·rw [if_pos q];cases h:acc.isEmpty with
   |true=>
    have e:acc=[]:=by simpa using h
    subst e;obtain⟨f,h1,g⟩:=VL a b [] (by
     rcases hc with hc|hc
     ·rcases AH.1 hc with e|e
      ·exact absurd (e.trans q) a
      ·exact AO e
     ·simp at hc)
    exact⟨f,by simpa using h1,g⟩
   |false=>
    rcases hc with hc|hc
    ·obtain⟨f,h1,g⟩:=VL a b [] (by
      rcases AH.1 hc with e|e
      ·exact absurd (e.trans q) a
      ·exact AO e)
     exact⟨f,by simp [h1],g⟩
    ·exact⟨acc.reverse,by simp,by simpa using hc⟩
  ·rw [if_neg q];exact VL a b (d::acc) (by
    rcases hc with hc|hc
    ·rcases AH.1 hc with e|e
     ·exact AB (by simp [e])
     ·exact AO e
    ·exact AB (by simp [hc]))
theorem TF {a:Bs}(b:Mk a=true):∀ c∈a,c≠59∧c≠58∧c≠43:=by
 unfold Mk Si at b;rw [Ah]at b;have b:=b.1;cases a with
 |nil=>cases b
 |cons x d=>
  rw [Ah,A7]at b;intro c hc;have:=b.2 c hc;refine⟨?_,?_,?_⟩<;>(rintro rfl;revert this;decide)
theorem zC0 {s:Bs}{l:WO}(c:Pp s=some l):(59:UInt8)∉s:=by
 intro hc;obtain⟨f,h1,d⟩:=VL (by decide) s [] (AO hc);unfold Pp at c;split at c
 ·rename_i e;rw [e]at h1;simp at h1
 ·rename_i a e;rw [e]at h1;have h:f=a:=by simpa using h1
  subst h;split at c
  ·split at c
   ·rename_i i g;have j:f≠[]:=fun q=>by rw [q]at d;simp at d
    rw [←Gv j]at d;rcases Fi.1 d with q|q
    ·exact(TF g _ q).1 rfl
    ·rw [Ek j]at i;simp only [List.mem_singleton]at q;rw [←q]at i;revert i;decide
   ·cases c
  ·split at c
   ·rename_i g;exact(TF g _ d).1 rfl
   ·cases c
 ·rename_i a b e;rw [e]at h1;have h:f=a∨f=b:=by simpa using h1
  split at c
  ·rename_i g;rcases h with rfl|rfl
   ·exact(TF g _ d).1 rfl
   ·split at c
    ·rename_i k;exact(TF k _ d).1 rfl
    ·split at c
     ·split at c
      ·rename_i m;have:=A7.1 m _ d;revert this;decide
      ·cases c
     ·cases c
  ·cases c
 ·cases c
theorem Y9:∀ {s acc:Bs},Ck s 10= -1→Kg acc s=[acc.reverse++s]
 |[],acc,_=>by simp [Kg]
 |c::b,acc,a=>by
  have f:=Lib.indexByte_none a 0;have d:c≠10:=fun q=>f (by rw [q];rfl)
  have h1:Ck b 10= -1:=by
   have e:(c==10)=false:=by simpa using d
   rw [Ck,e]at a;simp only [BL,if_false]at a;split at a
   ·rename_i q;simpa using q
   ·rename_i q;have g: -1≤Ck b 10:=by rw [←Gf];exact Lib.index_ge _ _
    omega
  rw [Kg,if_neg d,Y9 h1];simp
theorem bL:∀ {s acc:Bs}{i:Nat},Ck s 10=(i:Int)→Kg acc s=(acc.reverse++s.take i)::Kg [] (s.drop (i+1))
 |[],acc,i,a=>by simp [Ck]at a
 |c::b,acc,i,a=>by
  by_cases hc:c=10
  ·have e:(c==10)=true:=by simpa using hc
   rw [Ck,e]at a;simp only [if_true]at a;have:i=0:=by omega
   subst this;rw [Kg,if_pos hc];simp
  ·have e:(c==10)=false:=by simpa using hc
   rw [Ck,e]at a;simp only [BL,if_false]at a;split at a
   ·omega
   ·obtain⟨j,rfl⟩:∃ j,i=j+1:=⟨i - 1,by
     have d: -1≤Ck b 10:=by rw [←Gf];exact Lib.index_ge _ _
     rename_i q
     have q:¬ Ck b 10= -1:=by simpa using q
     omega⟩
    rw [Kg,if_neg hc,bL (i:=j) (by omega)];simp
theorem qG:∀ (n:Nat)(s:Bs),s.length≤n→IG [10] 0 (Jp s [10]) s=Kg [] s
 |n,s,c=>by
  rcases Lib.index_spec s [10]with⟨h1,_⟩|⟨i,h1,d,e,_⟩
  ·rw [Lib.count_miss h1,IG,Y9 (by rw [←Gf];exact h1)];rfl
  ·have a:=Lib.index_room s [10] (by rw [h1];omega);rw [h1]at a;have f:i+1≤s.length:=by simp at a;omega
   have b:¬ ((i:Int)== -1)=true:=by simp
   rw [Lib.count_hit (by simp) h1,IA,IG,h1,if_neg b,bL (i:=i) (by rw [←Gf];exact h1)];simp only [Int.toNat_natCast,Dp,List.reverse_nil,B9,Am,Av];cases n with
   |zero=>omega
   |succ n=>rw [qG n (s.drop (i+(0+1))) (by rw [Cr];omega)]
theorem bM:∀ (k:Nat)(s:Bs),k=Jp s [10]→(IG [10] 0 k s).length=k+1
 |0,s,_=>rfl
 |k+1,s,a=>by
  rcases Lib.index_spec s [10]with⟨h1,_⟩|⟨i,h1,_,_,_⟩
  ·rw [Lib.count_miss h1]at a;omega
  ·have b:¬ ((i:Int)== -1)=true:=by simp
   rw [Lib.count_hit (by simp) h1]at a;rw [IG,h1,if_neg b,Am];simp only [Int.toNat_natCast];rw [bM k _ (by omega)]
theorem lC (s:Bs):Lib.splitB (str [10]) 0 (Hf (str s) (str [10])) (str s)=(Kg [] s).map str∧Hf (str s) (str [10])+1=(Kg [] s).length:=by
 have e:Hf (str s) (str [10])=Jp s [10]:=rfl;have a:=Lib.splitB_data (str [10]) 0 (Jp s [10]) (str s);have b:=qG _ s (Aw _);have a:(Lib.splitB (str [10]) 0 (Jp s [10]) (str s)).map (·.data.toList)=Kg [] s:=by rw [a];exact b
 refine⟨?_,by rw [e,←b,bM _ s rfl]⟩;rw [e,←a,GL]
 conv=>lhs;rw [←List.map_id (Lib.splitB _ _ _ _)]
 exact Gz fun x _=>by show x=str x.data.toList;simp [str]
theorem Wp:∀ {s acc:Bs}{x:Bs},x∈Kg acc s→∀ c∈x,c∈s∨c∈acc
 |[],acc,x,a,c,hc=>by
  have e:x=acc.reverse:=by simpa [Kg]using a
  rw [e]at hc;exact AB (by simpa using hc)
 |d::b,acc,x,a,c,hc=>by
  rw [Kg]at a;split at a
  ·rcases AH.1 a with e|e
   ·rw [e]at hc;exact AB (by simpa using hc)
   ·exact AO (by rcases Wp e c hc with q|q<;>simp_all)
  ·rcases Wp a c hc with q|q
   ·exact AO (by simp [q])
   ·rcases AH.1 q with q|q
    ·exact AO (by simp [q])
    ·exact AB q
theorem Vg {a:Bs}(b:a≠[]):Ge a [58]=decide (a.getLast?.getD 0=58):=by
 rw [Ek b];unfold Ge;have e:=Gv b;rw [Bl,decide_eq_true_eq,List.isSuffixOf_iff_suffix];constructor
 ·rintro⟨t,c⟩;have:a.getLast? =some 58:=by rw [←c];simp
  rw [Ek b]at this;simpa using this
 ·intro q;exact⟨a.dropLast,by rw [←e];simp at q;simp [q]⟩
theorem wN {a:Bs}:Ge a [58]=true→EV a [58]=a.dropLast:=by
 intro b;unfold EV;rw [if_pos b,List.dropLast_eq_take];rfl
structure P8 (w:Y) (m:Int):Prop where
 tab:Mg w
 c7:w.cell? ⟨7,0,none⟩=some (V Ad m)
theorem P8.ext {w w':Y}{m:Int}(a:P8 w m)(x:Ext w w'):P8 w' m:=⟨a.tab.ext x,x.cell a.c7⟩
theorem Ua {w:Y}{m:Int}(a:P8 w m)(s:Bs)(k:UInt8)(b:k∉s)(c:s.length≤1000000):
 As prog 200 #[Aa (str s),Aa ⟨#[k]⟩] w fun e w'=>e=Ak (AZ #[Aa (str s),Aa ⟨#[]⟩,AE false])∧Ext w w':=by
 have:=strings_Cut (str s) ⟨#[k]⟩ m w (by rw [KO];omega) a.c7;rw [show(str s).data.toList=s from L6 s,show(⟨#[k]⟩:ByteArray).data.toList=[k]from rfl,zU1 b]at this;refine this.mono ?_
 rintro e w' ⟨rfl,n,rfl⟩;exact⟨rfl,(Ext.refl w).drewN n⟩
theorem RG {W:Y}{b:Nat}{u v:h}{d:AK}(a:W.heap[b]?= some (Ab #[u,v] d))(x c:h):
 W.cell? ⟨b,0,none⟩=some u∧W.frozen? ⟨b,0,none⟩=false∧(W.setCell ⟨b,0,none⟩ x).cell? ⟨b,1,none⟩=some v∧(W.setCell ⟨b,0,none⟩ x).frozen? ⟨b,1,none⟩=false∧AA (((W.setCell ⟨b,0,none⟩ x).setCell ⟨b,1,none⟩ c).heap[b]?= some (Ab #[x,c] d)):=by
 have h1:=JJ a 0 x;exact⟨JA a 0,JF a 0,JA h1 1,JF h1 1,D (JJ h1 1 c)⟩
def qH (s:Bs)(n:Nat):Array h:= #[Aa (str s),V Af n]
theorem wO:(prog.info? 191).map (·.size)=some 2:=by kernel_rfl
theorem zn8 {d:Bs}(b:∀ x∈d,K4 x=true):(43:UInt8)∉d:=fun q=>by have:=b _ q;revert this;decide
theorem lD (s:Bs)(w:Y)(m:Int)(c:P8 w m)(b:Mk s=true):
 As prog 203 #[Aa (str s)] w fun e w'=>e=Ak (AZ #[AN (qH s 0),AE true])∧Ext w w':=by
 have d:s.length≤1000000:=by unfold Mk at b;rw [Ah]at b;have:=Ai b.2;omega
 have h:=D (fun W (x:Ext w W)=>Ua (c.ext x) s 43 (fun q=>(TF b _ q).2.2 rfl) d);have i:=D (fun W=>Yh s W b);have j:=D (Aj w (Ab #[Aa ⟨#[]⟩,V Af 0] 191));clear c b d;unfold qH;generalize l:str s=S at*
 go_enter func203,ntmps203;go_upto_region 4 with(first|(go_at_call 200;refine(h _ ((Ext.refl w).alloc _)).mono ?_;rintro e n ⟨rfl,f⟩)|(go_at_call 154;refine(i _).mono ?_;rintro e o ⟨rfl,g⟩));obtain⟨r,t,z1,f1,k⟩:=RG (CE (f.trans g) j) (Aa S) (V Af 0);go_wp2;refine Ow results203 underlying191 wO k ?_
 exact⟨rfl,((((Ext.refl w).alloc _).trans (f.trans g)).setCell (p:=⟨w.heap.size,0,none⟩) (Aw _) _).setCell (p:=⟨w.heap.size,1,none⟩) (Aw _) _⟩
theorem lF (d:Bs)(v:Nat)(w:Y)(m:Int)(f:P8 w m)(g:Ud d=some v)(b:∀ x∈d,K4 x=true)(i:d.length≤100000):
 As prog 203 #[Aa (str d)] w fun e w'=>e=Ak (AZ #[AN (qH [] v),AE true])∧Ext w w':=by
 have k:=D (fun W (x:Ext w W)=>Ua (f.ext x) d 43 (zn8 b) (by omega));obtain⟨c,a,rfl⟩:∃ c a,d=c::a:=by cases d with|nil=>cases g|cons c a=>exact⟨c,a,rfl⟩
 have l:=D (fun W=>zU0 c a W (b c (by simp)));have n:=D (fun W (x:Ext w W)=>oK (c::a) v W (f.tab.ext x) g b i);have o:=D (Aj w (Ab #[Aa ⟨#[]⟩,V Af 0] 191));clear f g b i;unfold qH;rw [show str []=⟨#[]⟩from rfl];generalize s:str (c::a)=S at*
 go_enter func203,ntmps203;go_upto_region 8 with(first|(go_at_call 200;refine(k _ ((Ext.refl w).alloc _)).mono ?_;rintro e t ⟨rfl,h⟩)|(go_at_call 154;refine(l _).mono ?_;rintro e q ⟨rfl,rfl⟩)|(go_at_call 242;refine(n _ (((Ext.refl w).alloc _).trans h)).mono ?_;rintro e q ⟨rfl,j⟩));obtain⟨u,y,z1,f1,r⟩:=RG (CE (h.trans j) o) (Aa ⟨#[]⟩) (V Af v);go_wp2;refine Ow results203 underlying191 wO r ?_
 exact⟨rfl,((((Ext.refl w).alloc _).trans (h.trans j)).setCell (p:=⟨w.heap.size,0,none⟩) (Aw _) _).setCell (p:=⟨w.heap.size,1,none⟩) (Aw _) _⟩
theorem zn9 (x:Nat)(W:Y):As prog 201 #[V .i32 x] W fun e w'=>e=Ak (AE (gM x))∧∃ q,w'=W.drewN q:=by
 have a:AA (((x:Int)==32)=gM x):=D (by unfold gM;rw [Bl];simp;omega);go_enter func201,ntmps201;go_wp2;go_ret;exact⟨by show Ak (AE ((x:Int)==32))=_;rw [a],0,rfl⟩
def Rb (l o:Bs)(a:Bool)(n:Bs)(k:Nat):Array h:= #[Aa (str l),Aa (str o),AE a,Aa (str n),V Af k]
def lnV:WO→Array h
 |.none_=>Rb [] [] false [] 0
 |.lab s=>Rb s [] false [] 0
 |.yX s=>Rb [] s false [] 0
 |.opN s n=>Rb [] s true [] n
 |.opL s t=>Rb [] s true t 0
abbrev Oo:Array h:= #[Aa ⟨#[]⟩,Aa ⟨#[]⟩,AE false,Aa ⟨#[]⟩,V Af 0]
theorem OH:(prog.info? 253).map (·.size)=some 5:=by kernel_rfl
theorem wP:Oo.all (·.oneCell')=true:=by simp [CT]
def FdR (w:Y)(l:List Bs)(e:BX)(w':Y):Prop:=∃ A,e=Ak (J (some ⟨A,0,none⟩) l.length l.length)∧Ext w w'∧∀ i s,l[i]?= some s→w'.cell? ⟨A,i,none⟩=some (Aa (str s))
theorem Wq (s:Bs)(w:Y)(g:∀ c∈s,c.toNat<128)(m:s.length≤1000000):
 As prog 125 #[Aa (str s),ER (.func 201) #[] #[]] w (FdR w (K8 [] s)):=by
 have:=strings_FieldsFunc 201 #[] (F8 func201 (by kernel_rfl) rfl) gM (str s) w (by rw [KO];omega) (fun W x _=>zn9 x W);rw [zB9 s g]at this;refine this.mono ?_
 rintro e w' ⟨A,rfl,n,b,h⟩;rw [AI]at b ⊢;refine⟨A,rfl,h,fun i x j=>?_⟩;obtain⟨o,p,k, -, -, -,hc⟩:=NQ b;injection k with l q r
 obtain⟨a,d,f⟩:=hc i (Aa (str x)) (by rw [GL,Bh,j];rfl);rw [←l]at d;cases d;rw [MW,BF]at f;exact f
theorem YB:∀ (s a:Bs),a∈K8 [] s→a.length≤s.length:=by
 have key:∀ (s acc a:Bs),a∈K8 acc s→a.length≤acc.length+s.length:=by
  intro s
  induction s with
  |nil=>
   intro acc a b;rw [K8]at b;split at b
   ·simp at b
   ·have e:a=acc.reverse:=by simpa using b
    rw [e];simp
  |cons c f d=>
   intro acc a b;rw [K8]at b;split at b
   ·split at b
    ·have:=d [] a b;simp only [Am,Av]at*;omega
    ·rcases AH.1 b with e|b
     ·rw [e];simp
     ·have:=d [] a b;simp only [Am,Av]at*;omega
   ·have:=d (c::acc) a b;simp only [Am]at*;omega
 intro s a b;have:=key s [] a b;simpa using this
theorem wQ (s:Bs)(w:Y)(m:Int)(a:P8 w m)(b:∀ c∈s,c.toNat<128)(k:s.length≤400000)(d:(59:UInt8)∉s)(f:K8 [] s=[]):
 As prog 148 #[Aa (str s)] w fun e w'=>e=Ak (AZ #[AN (lnV .none_),AE true])∧Ext w w':=by
 have l:=D (fun W (x:Ext w W)=>Ua (a.ext x) s 59 d (by omega));have g:=D (fun W=>Wq s W b (by omega));rw [f]at g;have n:=D (Aj w (Ab Oo 253));clear a b k d f;generalize r:str s=S at*
 go_enter IJ,Ic;go_upto_region 3 with(first|(go_at_call 200;refine(l _ ((Ext.refl w).alloc _)).mono ?_;rintro e t ⟨rfl,h⟩)|(go_at_call 125;refine(g _).mono ?_;rintro e o ⟨A,rfl,i,u⟩));have p:=D (h.trans i);have j:=D (CE ((h.trans i).alloc (Ab Oo 253)) n);have q:=D (Aj o (Ab Oo 253));go_wp2_with (first|(refine LH rfl Cl rfl q OH ?_)|(refine L8 rfl rfl rfl j OH ?_ (h1:=wP)));refine Ow Gw Cl OH (PO j) ?_
 exact⟨rfl,((((Ext.refl w).alloc _).trans p).alloc _).setRow (Aw _) _⟩
theorem Ws (a:Bs)(W:Y)(c:a.length≤400000)(b:a≠[]):
 As prog 202 #[Aa (str a),Aa ⟨#[58]⟩] W fun e w'=>e=Ak (AZ #[Aa (str (if a.getLast?.getD 0=58 then a.dropLast else a)),AE (decide (a.getLast?.getD 0=58))])∧w'=W:=by
 have:=strings_CutSuffix (str a) ⟨#[58]⟩ W (by rw [KO];omega);rw [show(str a).data.toList=a from L6 a,show(⟨#[58]⟩:ByteArray).data.toList=[58]from rfl,Vg b]at this;have e:EV a [58]=if a.getLast?.getD 0=58 then a.dropLast else a:=by
  split
  ·rename_i q;exact wN (by rw [Vg b,q];rfl)
  ·rename_i q;unfold EV;rw [Vg b,if_neg (by simpa using q)]
 rw [e]at this;exact this
theorem wR (s:Bs)(w:Y)(m:Int)(r:P8 w m)(t:∀ c∈s,c.toNat<128)(N:s.length≤400000)(u:(59:UInt8)∉s)(a:Bs)(j:K8 [] s=[a])(g:a.getLast?.getD 0=58)(v:Mk a.dropLast=true):
 As prog 148 #[Aa (str s)] w fun e w'=>e=Ak (AZ #[AN (lnV (.lab a.dropLast)),AE true])∧Ext w w':=by
 have O:=D (fun W (x:Ext w W)=>Ua (r.ext x) s 59 u (by omega));have y:=D (fun W=>Wq s W t (by omega));rw [j]at y;have k:=D (Aj w (Ab Oo 253));have z:a≠[]:=fun q=>by rw [q]at g;cases g
 have P:=YB s a (by rw [j];simp);have B:=D (fun W=>Ws a W (by omega) z);rw [if_pos g,g,show decide ((58:UInt8)=58)=true from rfl]at B;have Q:=D (fun W=>Yh a.dropLast W v);rw [show lnV (.lab a.dropLast)= #[Aa (str a.dropLast),Aa ⟨#[]⟩,AE false,Aa ⟨#[]⟩,V Af 0]from rfl];clear r t N u j g v z P;generalize str a.dropLast=d at*
 generalize X:str s=S at*
 go_enter IJ,Ic;go_upto_region 3 with(first|(go_at_call 200;refine(O _ ((Ext.refl w).alloc _)).mono ?_;rintro e Z ⟨rfl,C⟩)|(go_at_call 125;refine(y _).mono ?_;rintro e b ⟨A,rfl,E,F⟩));have l:=D (C.trans E);have G:=D (CE ((C.trans E).alloc (Ab Oo 253)) k);have H:=D (Aj b (Ab Oo 253));have h0:=(Ext.refl b |>.alloc (Ab Oo 253)).cell (F 0 a rfl);clear F;go_upto_region 9 with(first|(go_at_call 202;refine(B _).mono ?_;rintro e f ⟨rfl,rfl⟩)|(go_at_call 154;refine(Q _).mono ?_;rintro e f ⟨rfl,h⟩));have I:=D ((((Ext.refl w).alloc (Ab Oo 253)).trans l).trans (((Ext.refl b).alloc (Ab Oo 253)).trans h));have i:=CE h H;have K:=D (CE h G);have n:w.heap.size<b.heap.size:=Ar (Ag.1 k).1 l.size;have R:=JA i 0;have T:=JF i 0;have L:AA ((f.setCell ⟨b.heap.size,0,none⟩ (Aa d)).drew.heap[b.heap.size]?= some (Ab #[Aa d,Aa ⟨#[]⟩,AE false,Aa ⟨#[]⟩,V Af 0] 253)):=D (JJ i 0 (Aa d));have o:AA ((f.setCell ⟨b.heap.size,0,none⟩ (Aa d)).drew.heap[w.heap.size]?= some (Ab Oo 253)):=D (by
  show(f.setCell ⟨b.heap.size,0,none⟩ (Aa d)).heap[w.heap.size]?= _
  rw [AY _ _ _ _ (II n)];exact K)
 have U:AA (w.heap.size≤b.heap.size):=D (Ev n);clear i h k H G K n l
 go_region
 have M:AA (Ext w (f.setCell ⟨b.heap.size,0,none⟩ (Aa d)).drew):=D ((I.setCell (p:=⟨b.heap.size,0,none⟩) U _).drew);clear I R T;generalize(f.setCell ⟨b.heap.size,0,none⟩ (Aa d)).drew=W5 at M L o ⊢;go_wp2_with (first|(refine LH rfl Cl rfl L OH ?_)|(refine L8 rfl rfl rfl o OH ?_));refine Ow Gw Cl OH (PO o) ?_
 exact⟨rfl,M.setRow (Aw _) _⟩
theorem Rc {w:Y}{b k i:Nat}{o:Obj}{v:h}(c:w.heap[k]?= some o)(d:k<b):(w.setCell ⟨b,i,none⟩ v).heap[k]?= some o:=by
 rw [AY _ _ _ _ (II d)];exact c
theorem zU3 {w0 W:Y}{b:Nat}{c d e f g:h}{i:AK}(a:W.heap[b]?= some (Ab #[c,d,e,f,g] i))(j:w0.heap.size≤b)(k:Ext w0 W)(u v:h):
 W.cell? ⟨b,3,none⟩=some f∧W.frozen? ⟨b,3,none⟩=false∧(W.setCell ⟨b,3,none⟩ u).cell? ⟨b,4,none⟩=some g∧(W.setCell ⟨b,3,none⟩ u).frozen? ⟨b,4,none⟩=false∧AA (((W.setCell ⟨b,3,none⟩ u).setCell ⟨b,4,none⟩ v).heap[b]?= some (Ab #[c,d,e,u,v] i))∧AA (Ext w0 ((W.setCell ⟨b,3,none⟩ u).setCell ⟨b,4,none⟩ v)):=by
 have h1:=JJ a 3 u;exact⟨JA a 3,JF a 3,JA h1 4,JF h1 4,D (JJ h1 4 v),D ((k.setCell (p:=⟨b,3,none⟩) j _).setCell (p:=⟨b,4,none⟩) j _)⟩
theorem wT (s:Bs)(w:Y)(m:Int)(B:P8 w m)(C:∀ c∈s,c.toNat<128)(T:s.length≤400000)(E:(59:UInt8)∉s)(a:Bs)(n:K8 [] s=[a])(o:¬ a.getLast?.getD 0=58)(g:Mk a=true):
 As prog 148 #[Aa (str s)] w fun e w'=>e=Ak (AZ #[AN (lnV (.yX a)),AE true])∧Ext w w':=by
 have U:=D (fun W (x:Ext w W)=>Ua (B.ext x) s 59 E (by omega));have F:=D (fun W=>Wq s W C (by omega));rw [n]at F;have r:=D (Aj w (Ab Oo 253));have G:a≠[]:=fun q=>by rw [q]at g;cases g
 have X:=YB s a (by rw [n];simp);have t:=D (fun W=>Ws a W (by omega) G);rw [if_neg o,show decide (a.getLast?.getD 0=58)=false from by simpa using o]at t;have H:=D (fun W=>Yh a W g);rw [show lnV (.yX a)= #[Aa ⟨#[]⟩,Aa (str a),AE false,Aa ⟨#[]⟩,V Af 0]from rfl];clear B C T E n o g G X;obtain⟨b,u⟩:∃ b,str a=b:=⟨_,rfl⟩;rw [u]at t H ⊢;have Z:=D u;clear u;generalize h4:str s=S at*
 go_enter IJ,Ic;go_upto_region 3 with(first|(go_at_call 200;refine(U _ ((Ext.refl w).alloc _)).mono ?_;rintro e h5 ⟨rfl,h⟩)|(go_at_call 125;refine(F _).mono ?_;rintro e d ⟨A,rfl,j,I⟩));have K:=D (((Ext.refl w).alloc (Ab Oo 253)).trans (h.trans j));have L:=D (CE (h.trans j) r);have M:AA (w.heap.size<d.heap.size):=D (Ar (Ag.1 r).1 (h.trans j).size);have N:=D (Aj d (Ab Oo 253));have k:=D ((Ext.refl d).alloc (Ab Oo 253));have y:=k.cell (I 0 _ rfl);rw [Z]at y;clear I h j r;go_upto_region 14 with(first|(go_at_call 202;refine(t _).mono ?_;rintro e O ⟨rfl,rfl⟩)|(go_at_call 154;refine(H _).mono ?_;rintro e O ⟨rfl,f⟩));have P:=D (K.trans (k.trans f));have l:=CE f N;have h0:=f.cell y;have h1:=JA l 1;have h2:=JF l 1;have Q:=D (JJ l 1 (Aa b));have z:=D (Rc (i:=1) (v:=Aa b) (CE f (CE k L)) M);have R:=D (P.setCell (p:=⟨d.heap.size,1,none⟩) (Ev M) (Aa b));clear l L K y P k f N;go_upto_region 15 with fail;clear h0 h1 h2;generalize O.setCell ⟨d.heap.size,1,none⟩ (Aa b)=W5 at R Q z ⊢;go_wp2_with (first|(refine LH rfl Cl rfl Q OH ?_)|(refine L8 rfl rfl rfl z OH ?_));refine Ow Gw Cl OH (PO z) ?_
 exact⟨rfl,R.setRow (Aw _) _⟩
theorem gN (s:Bs)(w:Y)(m:Int)(u:P8 w m)(R:∀ c∈s,c.toNat<128)(ha:s.length≤400000)(T:(59:UInt8)∉s)(a b:Bs)(y:K8 [] s=[a,b])(h:Mk a=true)(nm:Bs)(k:Nat)
 (U:∀ W,P8 W m→As prog 203 #[Aa (str b)] W fun e w'=>e=Ak (AZ #[AN (qH nm k),AE true])∧Ext W w'):
 As prog 148 #[Aa (str s)] w fun e w'=>e=Ak (AZ #[AN (Rb [] a true nm k),AE true])∧Ext w w':=by
 have z:¬ a.getLast?.getD 0=58:=fun q=>by
  cases B:a.getLast? with
  |none=>rw [B]at q;cases q
  |some c=>
   rw [B]at q;exact(TF h c (List.mem_of_getLast? B)).2.1 q
 have hb:=D (fun W (x:Ext w W)=>Ua (u.ext x) s 59 T (by omega));have X:=D (fun W=>Wq s W R (by omega));rw [y]at X;have C:=D (Aj w (Ab Oo 253));have Z:a≠[]:=fun q=>by rw [q]at h;cases h
 have hc:=YB s a (by rw [y];simp);have E:=D (fun W=>Ws a W (by omega) Z);rw [if_neg z,show decide (a.getLast?.getD 0=58)=false from by simpa using z]at E;have h0:=D (fun W=>Yh a W h);have F:=D (fun W (x:Ext w W)=>U W (u.ext x));unfold qH at F;rw [show Rb [] a true nm k= #[Aa ⟨#[]⟩,Aa (str a),AE true,Aa (str nm),V Af k]from rfl];clear u R ha T y z h Z hc U;obtain⟨f,G⟩:∃ f,str a=f:=⟨_,rfl⟩;rw [G]at E h0 ⊢;have hd:=D G;clear G;obtain⟨hq,H⟩:∃ f,str b=f:=⟨_,rfl⟩;rw [H]at F;have he:=D H;clear H;generalize str nm=I at*
 generalize hr:str s=S at*
 go_enter IJ,Ic;go_upto_region 3 with(first|(go_at_call 200;refine(hb _ ((Ext.refl w).alloc _)).mono ?_;rintro e hs ⟨rfl,l⟩)|(go_at_call 125;refine(X _).mono ?_;rintro e d ⟨A,rfl,n,K⟩));have L:=D (((Ext.refl w).alloc (Ab Oo 253)).trans (l.trans n));have hf:=D (CE (l.trans n) C);have h1:AA (w.heap.size<d.heap.size):=D (Ar (Ag.1 C).1 (l.trans n).size);have h2:=D (Aj d (Ab Oo 253));have M:=D ((Ext.refl d).alloc (Ab Oo 253));have N:=M.cell (K 0 _ rfl);rw [hd]at N;have h3:=D (K 1 _ rfl);rw [he]at h3;clear K l n C;go_upto_region 14 with(first|(go_at_call 202;refine(E _).mono ?_;rintro e h4 ⟨rfl,rfl⟩)|(go_at_call 154;refine(h0 _).mono ?_;rintro e h4 ⟨rfl,o⟩));have h5:=D (M.trans o);have r:=CE o h2;have hg:=o.cell N;have hh:=JA r 1;have hi:=JF r 1;have j:=JJ r 1 (Aa f);have O:=D (h5.setCell (p:=⟨d.heap.size,1,none⟩) (Aw _) (Aa f));clear r N M o h2 h5;go_upto_region 15 with fail;clear hg hh hi;generalize h4.setCell ⟨d.heap.size,1,none⟩ (Aa f)=hj at j O ⊢;have z2:=JA j 2;have f2:=JF j 2;have P:=JJ j 2 (AE true);have g:=D (O.setCell (p:=⟨d.heap.size,2,none⟩) (Aw _) (AE true));clear j O;go_upto_region 18 with fail;clear z2 f2;generalize hj.setCell ⟨d.heap.size,2,none⟩ (AE true)=W6 at P g ⊢;have hk:=g.cell h3;have h6:=D (L.trans g);go_upto_region 19 with(go_at_call 203;refine(F _ h6).mono ?_;rintro e hl ⟨rfl,t⟩;obtain⟨hm,hn,ho,hp,h7,h8⟩:=zU3 (CE t P) (show _≤d.heap.size from Aw _) (g.trans t) (Aa I) (V Af k));have Q:=D (Rc (i:=4) (v:=V Af k) (Rc (i:=3) (v:=Aa I) (CE (g.trans t) hf) h1) h1);have h9:=D (L.trans h8);clear hm hn ho hp hk P g h6 h8 t L;generalize(hl.setCell ⟨d.heap.size,3,none⟩ (Aa I)).setCell ⟨d.heap.size,4,none⟩ (V Af k)=W8 at h9 h7 Q ⊢;go_wp2_with (first|(refine LH rfl Cl rfl h7 OH ?_)|(refine L8 rfl rfl rfl Q OH ?_));refine Ow Gw Cl OH (PO Q) ?_
 exact⟨rfl,h9.setRow (Aw _) _⟩
theorem wU (s:Bs)(l:WO)(w:Y)(m:Int)(h:P8 w m)(i:∀ c∈s,c.toNat<128)(j:s.length≤400000)(d:Pp s=some l):
 As prog 148 #[Aa (str s)] w fun e w'=>e=Ak (AZ #[AN (lnV l),AE true])∧Ext w w':=by
 have k:=zC0 d;unfold Pp at d;split at d
 ·rename_i f;cases d;exact wQ s w m h i j k f
 ·rename_i a f;split at d
  ·rename_i q;split at d
   ·rename_i g;cases d;exact wR s w m h i j k a f q g
   ·cases d
  ·rename_i q;split at d
   ·rename_i g;cases d;exact wT s w m h i j k a f q g
   ·cases d
 ·rename_i a b f;split at d
  ·rename_i g;split at d
   ·rename_i t;cases d;exact gN s w m h i j k a b f g b 0 (fun W o=>lD b W m o t)
   ·split at d
    ·rename_i n p;split at d
     ·rename_i r;cases d;have u:b.length≤20:=by have:=(XY p (A7.1 r)).2.2;rw [←this];exact Yg n
      exact gN s w m h i j k a b f g [] n (fun W o=>lF b n W m o p (A7.1 r) (by omega))
     ·cases d
    ·cases d
  ·cases d
 ·cases d
def oM (t:Tm):List h:=[V Ad t.kind,V Af t.val]
def QL (a:Ac):List h:=[V Ad a.kind,V Ad a.eQ,V Ad a.x.kind,V Af a.x.val,V Ad a.y.kind,V Af a.y.val]
def KA:Kind Ac where
 size:=6
 pos:=by omega
 rep:=fun _ _ a cs=>cs=QL a
 len:=by intro U w x cs b;subst b;rfl
 one:=by intro U w x cs b u c;subst b;simp only [QL,AH,Ba,or_false]at c;rcases c with rfl|rfl|rfl|rfl|rfl|rfl<;>rfl
 upd:=fun b _ _ _=>b
def KI:Kind (In×Nat) where
 size:=4
 pos:=by omega
 rep:=fun U w x cs=>∃ v,cs=[Aa (str x.1.name),V Af x.2,AE x.1.operand,v]∧Ju KA U w x.1.acts v
 len:=by intro U w x cs a;obtain⟨v,rfl,_⟩:=a;rfl
 one:=by
  intro U w x cs a u b;obtain⟨v,rfl,h1⟩:=a;obtain⟨A,c,rfl⟩:=JB h1;simp only [AH,Ba,or_false]at b;rcases b with rfl|rfl|rfl|rfl<;>rfl
 upd:=fun a u d b=>by
  obtain⟨v,h1,e⟩:=a;exact⟨v,h1,e.upd u d b⟩
theorem jL:(prog.info? 68).map (·.size)=some 2:=by kernel_rfl
theorem Yj:(prog.info? 76).map (·.size)=some 6:=by kernel_rfl
abbrev bQ:Array h:= #[V Ad 0,V Ad 0,V Ad 0,V Af 0,V Ad 0,V Af 0]
abbrev Qa:Array h:= #[Aa ⟨#[]⟩,V Af 0,AE false,J none 0 0]
theorem yG2:(prog.info? 76).map (fun i=>(i.zero,i.size,i.bytes))=some (some (AN bQ),6,48):=by kernel_rfl
theorem yG3:(prog.info? 72).map (fun i=>(i.zero,i.size,i.bytes))=some (some (AN Qa),4,48):=by kernel_rfl
theorem yh0 (n:Nat)(w:Y):As prog 23 #[V Af n] w fun e w'=>e=Ak (AN #[V Ad 1,V Af n])∧Ext w w':=by
 go_enter func23,ntmps23;go_wp2;refine K3 results23 FN jL (Aj w _) ?_
 exact⟨rfl,(Ext.refl w).alloc _⟩
theorem yh1 (n:Nat)(w:Y):As prog 26 #[V Af n] w fun e w'=>e=Ak (AN #[V Ad 0,V Af n])∧Ext w w':=by
 go_enter func26,ntmps26;go_wp2;refine K3 results26 FN jL (Aj w _) ?_
 exact⟨rfl,(Ext.refl w).alloc _⟩
theorem QI {W:Y}{b i:Nat}{u v:h}{cs:Array h}{e:AK}(a:W.heap[b]?= some (Ab cs e))(f:cs[i]?= some u)(h1:cs[i+1]?= some v)(x c:h):
 W.cell? ⟨b,i,none⟩=some u∧W.frozen? ⟨b,i,none⟩=false∧(W.setCell ⟨b,i,none⟩ x).cell? ⟨b,i+1,none⟩=some v∧(W.setCell ⟨b,i,none⟩ x).frozen? ⟨b,i+1,none⟩=false∧AA (((W.setCell ⟨b,i,none⟩ x).setCell ⟨b,i+1,none⟩ c).heap[b]?= some (Ab ((cs.setIfInBounds i x).setIfInBounds (i+1) c) e)):=by
 have d:=JJ a i x;refine⟨by rw [JA a,f],JF a i,?_,JF d (i+1),D (JJ d (i+1) c)⟩;rw [JA d,BE,if_neg (by omega),h1]
def KT:Kind Tm where
 size:=2
 pos:=by omega
 rep:=fun _ _ t cs=>cs=oM t
 len:=by intro U w x cs a;subst a;rfl
 one:=by intro U w x cs a u b;subst a;simp only [oM,AH,Ba,or_false]at b;rcases b with rfl|rfl<;>rfl
 upd:=fun a _ _ _=>a
def bR (k t:Nat)(a:List Tm):Ac:=⟨k,t,a[0]?.getD ⟨0,0⟩,a[1]?.getD ⟨0,0⟩⟩
theorem zo3 (k t:Nat)(d:List Tm)(W:d.length≤2)(U:Nat→Prop)(w:Y)(v:h)(K:Ju KT U w d v):
 As prog 25 #[V Ad k,V Ad t,v] w fun e w'=>e=Ak (AN (QL (bR k t d)).toArray)∧Ext w w':=by
 have X:=D K;obtain⟨A,c,rfl⟩:=JB K;obtain⟨n,L⟩:=JH d.length;have M:=D L;rw [←L]at W ⊢;clear K L;obtain⟨Z,N⟩:=JH ((QL (bR k t (d.take 0))).toArray);have h0:=D N;have m:=D (AP w (Ab bQ 76) (Ab Z 76));have f:=D (Ay w (Ab bQ 76) (Ab Z 76));have r:=D (((Ext.refl w).alloc (Ab bQ 76)).alloc (Ab Z 76));go_enter func25,ntmps25;go_upto_region 2 with fail;rw [show #[V Ad (k:Int),V Ad (t:Int),V Ad 0,V Af 0,V Ad 0,V Af 0]=Z from N.symm];clear N;generalize(w.alloc (Ab bQ 76)).alloc (Ab Z 76)=W0 at m f r ⊢;rw [h0]at f;go_wp2;go_loopw [15] (fun s O=>∃ i:Nat,s=V Ad i∧i≤n∧AA (O.heap[w.heap.size]?= some (Ab bQ 76))∧AA (O.heap[w.heap.size+1]?= some (Ab (QL (bR k t (d.take i))).toArray 76))∧AA (Ext w O)) (fun s _=>n - (AX s).toNat)
 case atStart=>exact⟨0,rfl,by omega,m,f,r⟩
 case round=>
  clear m f r;obtain⟨i,rfl,hb,m,f,r⟩:=hrel;by_cases h1:i<n
  ·obtain⟨x,y⟩:∃ x,d[i]?= some x:=⟨_,Al (show i<d.length by rw [←M];exact h1)⟩
   obtain⟨b,o,hc,cs,Q, -,rfl,R⟩:=(X.ext r).elem y;rw [←M]at Q;injection Q with h2 hd h3
   subst h2 h3;have h4:=D R;clear R;have h5:i=0∨i=1:=by omega
   have F:=fun o=>CE ((Ext.refl wr).alloc o) m
   have G:AA (d.take (i+1)=d.take i++[x]):=D (by rw [BB,y];rfl);have H:=fun q=>CE ((Ext.refl wr).alloc q) f
   have S:=D (r.alloc (Ab #[V Ad x.kind,V Af x.val] 68));have I:w.heap.size≤w.heap.size+1:=CA _;have T:=D (fun j u (q:(oM x)[j]?= some u)=>h4 j u q);rcases h5 with B|B
   ·have h6:((i:Int)==0)=true:=by simp;omega
    have g:AA ((QL (bR k t (d.take i))).toArray[2]?= some (V Ad 0)∧(QL (bR k t (d.take i))).toArray[2+1]?= some (V Af 0)∧(((QL (bR k t (d.take i))).toArray.setIfInBounds 2 (V Ad x.kind)).setIfInBounds (2+1) (V Af x.val))=(QL (bR k t (d.take (i+1)))).toArray):=D (by
     rw [G]
     subst B
     obtain⟨C,hy⟩:∃ C,d.take 0=C:=⟨_,rfl⟩
     exact⟨rfl,rfl,rfl⟩)
    obtain⟨h7,h8,z1,f1,E⟩:=QI (H (Ab #[V Ad x.kind,V Af x.val] 68)) (i:=2) g.1 g.2.1 (V Ad x.kind) (V Af x.val);rw [g.2.2]at E;have P:=D (Rc (i:=3) (v:=V Af x.val) (Rc (i:=2) (v:=V Ad x.kind) (F (Ab #[V Ad x.kind,V Af x.val] 68)) (Dy _)) (Dy _));clear H F G B g y;go_wp2_with (refine Pn rfl 68 _ rfl b (o+i*2) rfl _ [V Ad x.kind,V Af x.val] T FN rfl jL ?_);go_roundw
    case rel=>exact⟨i+1,by go_num,by omega,P,E,D ((S.setCell (p:=⟨w.heap.size+1,2,none⟩) I _).setCell (p:=⟨w.heap.size+1,3,none⟩) I _)⟩
    case measure=>simp [AX];omega
   ·have h6:((i:Int)==0)=false:=by simp;omega
    have g:AA ((QL (bR k t (d.take i))).toArray[4]?= some (V Ad 0)∧(QL (bR k t (d.take i))).toArray[4+1]?= some (V Af 0)∧(((QL (bR k t (d.take i))).toArray.setIfInBounds 4 (V Ad x.kind)).setIfInBounds (4+1) (V Af x.val))=(QL (bR k t (d.take (i+1)))).toArray):=D (by
     rw [G]
     subst B
     obtain⟨C,hy⟩:∃ C,d.take 1=C:=⟨_,rfl⟩
     cases d with
     |nil=>simp at y
     |cons z l=>exact⟨rfl,rfl,rfl⟩)
    obtain⟨h7,h8,z1,f1,E⟩:=QI (H (Ab #[V Ad x.kind,V Af x.val] 68)) (i:=4) g.1 g.2.1 (V Ad x.kind) (V Af x.val);rw [g.2.2]at E;have P:=D (Rc (i:=5) (v:=V Af x.val) (Rc (i:=4) (v:=V Ad x.kind) (F (Ab #[V Ad x.kind,V Af x.val] 68)) (Dy _)) (Dy _));clear H F G B g y;go_wp2_with (refine Pn rfl 68 _ rfl b (o+i*2) rfl _ [V Ad x.kind,V Af x.val] T FN rfl jL ?_);go_roundw
    case rel=>exact⟨i+1,by go_num,by omega,P,E,D ((S.setCell (p:=⟨w.heap.size+1,4,none⟩) I _).setCell (p:=⟨w.heap.size+1,5,none⟩) I _)⟩
    case measure=>simp [AX];omega
  ·have h9:i=n:=by omega
   subst h9;rw [show d.take i=d from by rw [M,BN]]at f;generalize ha:bR k t d=a at f ⊢;go_wp2_with (first|(refine U9 rfl 76 _ rfl (w.heap.size+1) rfl 76 (QL a).toArray (0,0) _ f FO rfl Yj ?_)|(refine CK rfl 76 _ _ rfl w.heap.size (QL a).toArray rfl rfl 76 bQ m Yj rfl (by simp [QL,CT]) ?_));refine K3 results25 FO Yj (PO m) ?_
   exact⟨by rw [ha],r.setRow (Aw _) _⟩
theorem WA {U:Nat→Prop}{w:Y}:∀ {l:List Ac}{xs:List h},NF KA U w l xs↔xs=l.flatMap QL
 |[],xs=>Iff.rfl
 |a::l,xs=>by
  constructor
  ·rintro⟨x,c,rfl,rfl,b⟩;rw [WA.1 b];rfl
  ·intro b;exact⟨QL a,l.flatMap QL,b,rfl,WA.2 rfl⟩
theorem yG4 {base n:Nat}{w:Y}{e:AK}{v:h}{l:List Ac}{xs:List h}(b:w.ownsRow base e 6 v n xs)(d:xs=l.flatMap QL)(f:n=l.length):Ju KA (fun k=>base≤k∧k<w.heap.size) w l v:=by
 subst f;obtain⟨A,c,rfl,g,i,j,m⟩:=K7 b;exact⟨A,c,xs,rfl,g,i,j,⟨m,fun a o=>by subst o;exact Kc b rfl⟩,WA.2 d⟩
theorem wh {l:List Ac}:∀ u∈l.flatMap QL,u.oneCell'=true:=by
 intro u b;obtain⟨a,_,c⟩:=List.mem_flatMap.1 b;exact KA.one (U:=fun _=>True) (w:=default) (x:=a) rfl u c
theorem wo (l:List Ac):(l.flatMap QL).length=l.length*6:=by
 induction l with
 |nil=>rfl
 |cons a l b=>rw [Hw,M,b];simp [QL];omega
theorem zU7 (i:Nat)(P:h)(a l:List Ac)(U:Nat→Prop)(w:Y)(v:h)(j:w.heap[i]?= some (Ab #[P] 70))(L:Ju KA U w a P)(M:Ju KA U w l v)(hf:a.length+l.length≤100):
 As prog 27 #[v,Ae (some ⟨i,0,none⟩)] w fun e w'=>∃ o,e=Ak o∧Ju KA (fun k=>w.heap.size≤k∧k<w'.heap.size) w' (a++l) o∧Ext w w':=by
 obtain⟨p,q,r,s,t⟩:=info_parts yG2;obtain⟨A,c,xs,rfl,N,O,Q,x,b⟩:=L;obtain⟨R,c',f,rfl,S,T,W,y,d⟩:=M;have b:=WA.1 b;have d:=WA.1 d;have z:=JA (CE ((Ext.refl w).alloc (Ab #[] 76)) j) 0;have hg:=z;have X:=D (x.cells.ext ((Ext.refl w).alloc (Ab #[] 76)));have Z:=D y.cells;have h0:AA ((w.alloc (Ab #[] 76)).ownsRow w.heap.size 76 6 (J (some ⟨w.heap.size,0,none⟩) 0 0) 0 []):=D ⟨rfl,AB ⟨w.heap.size,0,#[],rfl,Aw _,Aj w _,Aw _,Dd _,rfl,rfl⟩⟩;have B:=D q;have C:=D r;have E:=D s;have F:=D t;have h1:AA (xs.length=a.length*6):=D (by rw [b,wo]);have h2:AA (f.length=l.length*6):=D (by rw [d,wo]);have h3:AA (∀u∈xs,u.oneCell'=true):=D (by rw [b];exact wh);have h4:AA (∀u∈f,u.oneCell'=true):=D (by rw [d];exact wh);have G:AA (w.heap.size≤(w.alloc (Ab #[] 76)).heap.size):=D ((Ext.refl w).alloc _).size;have h5:AA (0+a.length≤Bk):=D (by unfold Bk;omega);have h6:AA ((0+a.length)*48≤140737488355328):=D (by omega);have h7:AA (0+a.length+l.length≤Bk):=D (by unfold Bk;omega);have h8:AA ((0+a.length+l.length)*48≤140737488355328):=D (by omega);have H:AA ([]++xs++f=(a++l).flatMap QL∧0+a.length+l.length=(a++l).length):=D ⟨by rw [b,d,CO,B9],by simp⟩;have I:=D ((Ext.refl w).alloc (Ab #[] 76));clear j z x y b d N O Q S T W q r s t;generalize a.length=n at*
 generalize l.length=m at*
 go_enter func27,ntmps27;go_wp2_with (at_builtin;first|(refine Lp rfl _ _ 70 rfl w.heap.size 76 p (AN bQ) 6 48 underlying70 B C E F rfl (by decide) (J (some ⟨w.heap.size,0,none⟩) 0 0) 0 [] rfl h0 A n c xs rfl X h1 h3 h5 h6 G ?_;intro h9 hh K g hi)|(refine Lp rfl _ _ 70 rfl w.heap.size 76 p (AN bQ) 6 48 underlying70 B C E F rfl (by decide) h9 (0+n) ([]++xs) rfl K R m c' f rfl (Z.out.ext (ZB I g (fun k e=>by cases e;exact Aw _))) h2 h4 h7 h8 (AL G g.size) ?_;intro ha hj hb hc hk));have hd:=ZB I g (fun k e=>by cases e;exact Aw _);have he:=ZB hd hc (fun k e=>(Kc K e).1);go_ret;exact⟨ha,rfl,yG4 hb H.1 H.2,he⟩
def TBl (base b:Nat)(l:List (In×Nat))(w:Y):Prop:=b<base∧∃ v,w.heap[b]?= some (Ab #[V Ad 65536,v] 47)∧RowK KI 72 base w l v
theorem yh2 (base b:Nat)(l:List (In×Nat))(z w:Y)(hc:TBl base b l z)(F:Ext z w)(x:In)(U:Nat→Prop)(v:h)(M:base≤z.heap.size)(H:∀ k,U k→z.heap.size≤k∧k<w.heap.size)(N:Ju KA U w x.acts v)(hd:l.length≤100){S:ByteArray}(B:S=str x.name){o:Bool}(C:o=x.operand):
 As prog 24 #[Aa S,AE o,v,Ae (some ⟨b,0,none⟩)] w fun e w'=>e=Ak (AZ #[])∧TBl base b (l++[(x,l.length+1)]) w'∧JK (fun k=>k=b∨base≤k) w w':=by
 subst B C;obtain⟨he,Z,h0,h1,h2⟩:=info_parts yG3;obtain⟨h3,hf,h4,O⟩:=hc;obtain⟨hw,P⟩:=O.own;have I:∀ j,hf.ownBlock=some j→base≤j∧j<z.heap.size:=fun j Q=>Kc P Q
 obtain⟨i,c0,rfl, -⟩:=K7 P;have R:AA (KI.rep U w (x,l.length+1) [Aa (str x.name),V Af ((l.length+1:Nat):Int),AE x.operand,v]):=D ⟨v,rfl,N⟩;obtain⟨A,c,rfl⟩:=JB N;obtain⟨m,T⟩:=JH x.acts.length;obtain⟨n,u⟩:=JH l.length;obtain⟨S,B⟩:=JH (str x.name);obtain⟨o,C⟩:=JH x.operand;have s:=D u;have K:=CE F h4;rw [←B,←C,←T,←u]at R;rw [←u]at K I hd;rw [←T,←B,←C];have hx:Ad.wrap ((n:Int)+1)=(n:Int)+1:=AU _ (by omega);have hy:Af.wrap ((n:Int)+1)=(n:Int)+1:=by rw [Eg];omega
 have h5:=CE ((Ext.refl w).alloc (Ab #[Aa S,V Af ((n:Int)+1),AE o,J A m c] 72)) K;have E:=D ((Ext.refl w).alloc (Ab #[Aa S,V Af ((n:Int)+1),AE o,J A m c] 72));have hg:=D (RowK.upd (G:=fun _=>False) (RowK.upd (G:=fun _=>False) O (Gl F) (fun _ _ q=>q)) (Gl E) (fun _ _ q=>q));have hz:=JA K 1;have h6:=F.size;have hh:AA (base≤(w.alloc (Ab #[Aa S,V Af ((n:Int)+1),AE o,J A m c] 72)).heap.size):=D (AL (AL M h6) E.size);have L:AA (KI.rep (fun k=>base≤k∧k<(w.alloc (Ab #[Aa S,V Af ((n:Int)+1),AE o,J A m c] 72)).heap.size∧(J i n c0).ownBlock≠some k) (w.alloc (Ab #[Aa S,V Af ((n:Int)+1),AE o,J A m c] 72)) (x,n+1) [Aa S,V Af ((n:Int)+1),AE o,J A m c]):=D (KI.upd R (Gl (G:=fun _=>False) E) (fun _ _ q=>q) (fun j q=>⟨AL M (H j q).1,Ar (H j q).2 E.size,fun e=>by have:=I j e;have:=H j q;omega⟩));have hi:=D (RJ (W:=w) (e:=72) rfl [Aa S,V Af ((n:Int)+1),AE o,J A m c]);have hj:=D (KI.one L);have hk:AA (n+1≤Bk):=D (by unfold Bk;omega);have hl:AA ((n+1)*48≤140737488355328):=D (by omega);have hm:=D Z;have hn:=D h0;have ho:=D h1;have hp:=D h2;have h7:AA (∀j,(J i n c0).ownBlock=some j→base≤j):=D (fun j q=>(I j q).1);have hq:=D h5;have X:=D h3;clear u T B C Z h0 h1 h2 N R F H O P h4 h6 M I K h5 h3;obtain⟨xs,hr,hs⟩:=hg;have h8:=D hr;have ht:=D hs;rw [←s]at h8;have h9:AA (∀g f,f.ownsRow base 72 4 g (n+1) (xs++[Aa S,V Af ((n:Int)+1),AE o,J A m c])→(w.alloc (Ab #[Aa S,V Af ((n:Int)+1),AE o,J A m c] 72)).grownBy f (J i n c0).ownBlock→(g.ownBlock=(J i n c0).ownBlock∨g.ownBlock=some (w.alloc (Ab #[Aa S,V Af ((n:Int)+1),AE o,J A m c] 72)).heap.size)→f.heap[b]?= some (Ab #[V Ad 65536,J i n c0] 47)∧TBl base b (l++[(x,l.length+1)]) (f.setCell ⟨b,1,none⟩ g)∧JK (fun k=>k=b∨base≤k) w (f.setCell ⟨b,1,none⟩ g)):=D (by
  intro g f r d t
  have hu:(J i n c0).ownBlock≠some b:=fun q=>by have:=h7 b q;have:=X.out;omega
  have ha:JK (fun j=>(J i n c0).ownBlock=some j) (w.alloc (Ab #[Aa S,V Af ((n:Int)+1),AE o,J A m c] 72)) f:=⟨d.os,d.tape,d.output,d.size,fun j Q u=>d.block j Q (fun q=>u q.symm)⟩
  have y:=ha.heap hq hu
  have hb:=JK.setCell (G:=fun k=>k=b) (p:=⟨b,1,none⟩) (JK.refl f) (AB rfl) g
  refine⟨y,⟨X,g,JJ y 1 g,?_⟩,((Gl E).trans (ha.mono (fun k _ q=>AB (h7 k q)))).trans (hb.mono (fun k _ q=>AO q))⟩
  rw [s]at r t L d
  have:=RowK.snoc (a:=(x,l.length+1)) ht (by rw [←s];rw [←s]at L;exact L) (by rw [←s]at r ⊢;exact r) (by rw [←s]at d ⊢;exact d) (by rw [←s]at t ⊢;exact t)
  exact this.upd hb (fun k q c=>by have x0:k=b:=c;have:=X.out;omega))
 go_enter func24,ntmps24;go_wp2_with (at_builtin;refine Lp rfl _ _ 45 rfl base 72 he (AN Qa) 4 48 underlying45 hm hn ho hp rfl (by decide) (J i n c0) n xs rfl h8 (some ⟨w.heap.size,0,none⟩) 1 1 [Aa S,V Af ((n:Int)+1),AE o,J A m c] rfl hi rfl hj hk hl hh ?_;intro g f r d t;obtain⟨x1,c1,rfl, -⟩:=K7 r;have hv:=D (h9 _ f r d t).2;have y:=(h9 _ f r d t).1;have z1:=JA y 1;have f1:=JF y 1;clear y r d t);refine GM (Dr rfl _ _ _) rfl ?_
 exact⟨rfl,hv⟩
end Go.Proofs.YtmkomefmgcpnbaaGreatDoor

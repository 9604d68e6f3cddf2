import Derived.Test.YtmkomefmgcpnbaaGreatDoorMg14
set_option linter.all false
set_option maxHeartbeats 12800000
set_option maxRecDepth 100000
namespace Go.Proofs.YtmkomefmgcpnbaaGreatDoor
open Tryz Pg Go Go.Proofs Go.RowKit
open Go renaming Calls→As,Value→h,World→Y,Addr→Bi,maxLen→Bk,Act→CY,Operand→CC,Oper→B5,TypeId→AK,execOp→CS
open Go.IntKind renaming i64→Ad,u32→Af
open Go.Lib renaming hid→D
open Go.Obj renaming cells→Ab
open Go.Proofs renaming intOf→AX
open Go.Proofs.Tryz renaming underlying287→Ax,func192→E7,ntmps192→EI,func146→DQ,ntmps146→DB
open Go.RowKit renaming Hid→AA
open Go.Value renaming agg→AN,int→V,pointer→Ae,slice→J,string→Aa,map→Bj,bool→AE,tuple→AZ
open _root_.List renaming append_assoc→AG,flatMap_append→CO,getElem?_eq_getElem→Al,length_append→M,take_add_one→BB,take_append_drop→C6,take_length→BN,getElem?_eq_some_iff→Ao,mem_of_getElem?→AD,mem_cons_of_mem→DE,mem_cons_self→Bb,mem_cons→AH,sizeOf_lt_of_mem→BQ,length_map→AI
open _root_.Nat renaming zero_add→BF,eq_of_beq_eq_true→Ap,le_of_ble_eq_true→Ai
open Go.Act renaming put→Au
open Go.IntWalk renaming i64_in→AU
open _root_.Or renaming inl→AO,inr→AB
open _root_.Bool renaming and_eq_true→Ah
open _root_.SizeOf renaming sizeOf→Aq
open Go.Next renaming value→F5
open Go.Op renaming lookup→Jo
open Go.Operand renaming tmp→Eh
open Go.Result renaming andThen→BM,ok→Ez
theorem SS.arg {α:Type}{K:Kind α}{d:Ke}{c:Cn}{U:Nat→Prop}{g0 g:Option Nat}{a lv:h}{w0 W:Y}{l:Bs}{lb wt:Nat}{lp:List Bs}(e:SS d c U g0 a w0 g lv l lb wt lp W)(f:∀ k,U k→¬ CG c.b g0 a k){args:List α}{v:h}(i:Ju K U w0 args v):Ju K U W args v:=i.upd e.rl.upd f (fun _ q=>q)
theorem KW {U:Nat→Prop}{W:Y}{args:List Ex}{b o n c:Nat}(e:Ju KE U W args (J (some ⟨b,o,none⟩) n c))(i:Nat){x:Ex}(f:args[i]?= some x):∃ cs,KE.rep U W x cs∧(prog.info? 287).map (·.size)=some cs.length∧∀ j u,cs[j]?= some u→W.cell? ⟨b,o+i*5+j,none⟩=some u:=by
 obtain⟨m,p,q,cs,g, -,d,h⟩:=e.elem f;injection g with a r s
 injection a with a
 injection a with k l
 subst k l;exact⟨cs,d,by rw [zS4 d];exact Ki,h⟩
theorem zy (op:Nat)(b:4≤op)(c:op≤19):(Lt op).length≤2:=by
 have:op=4∨op=5∨op=6∨op=7∨op=8∨op=9∨op=10∨op=11∨op=12∨op=13∨op=14∨op=15∨op=16∨op=17∨op=18∨op=19:=by omega
 rcases this with rfl|rfl|rfl|rfl|rfl|rfl|rfl|rfl|rfl|rfl|rfl|rfl|rfl|rfl|rfl|rfl<;>decide
structure Stp (n:Nat):Prop where mk::
def XT (p:JQ)(f:Pg.Fn)(c:Cn)(U:Nat→Prop)(x:Ex)(wt lb:Nat)(A:Bs)(lb':Nat):Prop:=
 ∀(g0 g:Option Nat) (a lv:h) (w0 w:Y) (l:Bs) (lp:List Bs) (cs:List h) (v:h),SS (JI p f) c U g0 a w0 g lv l lb wt lp w→KE.rep U w x cs→l.length+A.length≤1000000→v=AN cs.toArray→
  As prog 192 #[Ae (some ⟨c.b,0,none⟩),v] w (SR (JI p f) c U g0 a w0 (l++A) lb' wt lp)
theorem XC.t {p:JQ}{f:Pg.Fn}{x:Ex}(a:XC p f x)(c:Cn)(U:Nat→Prop){wt lb:Nat}(h1:lb+LY x≤100000)(b:wt+LY x≤100000):XT p f c U x wt lb (JW (JI p f) x wt lb).1 (JW (JI p f) x wt lb).2:=
 fun g0 g j lv w0 w l lp cs v d e h i=>a.s d e h1 b h i
theorem unary_1 (p:JQ)(f:Pg.Fn)(num:Nat)(name:Bs)(a:Ex)(n:XC p f a)(c:Cn)(U:Nat→Prop)(g:Option Nat)(lv:h)(w:Y)(l:Bs)(lb wt:Nat)(lp:List Bs)(o:CW c g l lb wt lp lv w)(q:Lc (JI p f) c U g lv w)(j k m:Nat)(r:Ju KE U w [a] (J (some ⟨j,k,none⟩) 1 m))(t:l.length+(JW (JI p f) a wt lb).1.length+(JD [Ka]).length≤1000000∧lb+LY a≤100000∧wt+LY a≤100000):
 As prog 233 #[Ae (some ⟨c.b,0,none⟩),AN #[V Ad 6,V Ad 1,V Af num,Aa (str name),J (some ⟨j,k,none⟩) 1 m]] w (MB c g lv w (l++((JW (JI p f) a wt lb).1++JD [Ka])) (JW (JI p f) a wt lb).2 wt lp):=by
 have z:=D n;have d:=D t;obtain⟨G,H,i,u⟩:=alw w (Ab #[V Ad 6,V Ad 1,V Af num,Aa (str name),J (some ⟨j,k,none⟩) 1 m] 287);have A:=D (SS.start (o.ext i) (q.ext i));have I:=bk u 1;have K:=bk u 4;obtain⟨cs,v,B,x⟩:=KW (r.ext i) 0 (show [a][0]?= some a from rfl);have y:=D v;have C:=D x;clear o q r n t v x;go_enter func233,ntmps233;go_wp2_with (first|(refine KV rfl Ax rfl C B ?_)|(go_at_call 192;refine(z.s A y (by have:=d.out;omega) (by have:=d.out;omega) (by have:=d.out;omega) rfl).mono ?_;rintro e L ⟨rfl,N,O,E⟩;try clear y)|(go_at_call 57;refine(TD E [Ka] (by have:=d.out;simp only [M]at*;omega) (by simp) (by simp) rfl rfl).mono ?_;rintro e P ⟨rfl,Q,F⟩));go_end0;have:=(F.fin).of (K9.ext i);rw [AG]at this;exact this
theorem zl7 (p:JQ)(f:Pg.Fn)(op num:Nat)(name:Bs)(a:Ex)(x:XC p f a)(c:Cn)(U:Nat→Prop)(g:Option Nat)(lv:h)(w:Y)(l:Bs)(lb wt:Nat)(lp:List Bs)(k:CW c g l lb wt lp lv w)(m:Lc (JI p f) c U g lv w)(n o r:Nat)(y:Ju KE U w [a] (J (some ⟨n,o,none⟩) 1 r))(R:((op:Int)==1)=false)(S:((op:Int)==3)=true)(z:l.length+(JS Kz 4294967295).length+(JD [KL]).length+(JW (JI p f) a (wt+1) lb).1.length+(JD [Qz]).length≤1000000∧lb+LY a≤100000∧wt+1+LY a≤100000):
 As prog 233 #[Ae (some ⟨c.b,0,none⟩),AN #[V Ad 6,V Ad op,V Af num,Aa (str name),J (some ⟨n,o,none⟩) 1 r]] w (MB c g lv w (l++(JS Kz 4294967295++(JD [KL]++((JW (JI p f) a (wt+1) lb).1++JD [Qz])))) (JW (JI p f) a (wt+1) lb).2 wt lp):=by
 have F:=D x;have d:=D z;obtain⟨T,W,j,A⟩:=alw w (Ab #[V Ad 6,V Ad op,V Af num,Aa (str name),J (some ⟨n,o,none⟩) 1 r] 287);have G:AA (¬CG c.b g lv w.heap.size):=D (fun q=>by have:=k.lt q;omega);have H:=D m.nu;have I:=D (SS.start (k.ext j) (m.ext j));have X:=bk A 1;have K:=bk A 4;have L:=D (y.ext j);have Z:wt≤100000:=by omega
 clear k m y x z;go_enter func233,ntmps233;go_wp2_with (first|(refine KV rfl Ax rfl N O ?_)|(go_at_call 59;refine(Us I Kz 4294967295 (by have:=d.out;omega) (by omega) rfl rfl).mono ?_;rintro e h0 ⟨rfl,h1,P⟩)|(go_at_call 193;refine(kR P (by have:=d.out;omega) (by have:=d.out;simp only [M]at*;omega)).mono ?_;rintro e h2 ⟨rfl,h3,t⟩;obtain⟨cs,B,O,C⟩:=KW (t.arg H L) 0 (show [a][0]?= some a from rfl);have E:=D B;have N:=D C;clear B C;have h4:=t.cell K G)|(go_at_call 192;refine(F.s t E (by have:=d.out;omega) (by have:=d.out;omega) (by have:=d.out;simp only [M]at*;omega) rfl).mono ?_;rintro e h5 ⟨rfl,h6,h7,Q⟩;try clear E)|(go_at_call 57;refine(TD Q [Qz] (by have:=d.out;simp only [M]at*;omega) (by simp) (by simp) rfl rfl).mono ?_;rintro e h8 ⟨rfl,h9,u⟩;have ha:=u.cw.Kv (i:=8) rfl;have f10:=u.cw.QX 10));go_end0;have:=(((u.p9 wt (v:=V Ad (wt:Int)) rfl)).fin).of (K9.ext j);simp only [AG]at this;exact this
theorem zl8 (p:JQ)(f:Pg.Fn)(op num:Nat)(name:Bs)(a:Ex)(x:XC p f a)(c:Cn)(U:Nat→Prop)(g:Option Nat)(lv:h)(w:Y)(l:Bs)(lb wt:Nat)(lp:List Bs)(k:CW c g l lb wt lp lv w)(m:Lc (JI p f) c U g lv w)(n o r:Nat)(y:Ju KE U w [a] (J (some ⟨n,o,none⟩) 1 r))(R:((op:Int)==1)=false)(S:((op:Int)==3)=false)(z:l.length+(JS Kz 0).length+(JD [KL]).length+(JW (JI p f) a (wt+1) lb).1.length+(JD [Qz]).length≤1000000∧lb+LY a≤100000∧wt+1+LY a≤100000):
 As prog 233 #[Ae (some ⟨c.b,0,none⟩),AN #[V Ad 6,V Ad op,V Af num,Aa (str name),J (some ⟨n,o,none⟩) 1 r]] w (MB c g lv w (l++(JS Kz 0++(JD [KL]++((JW (JI p f) a (wt+1) lb).1++JD [Qz])))) (JW (JI p f) a (wt+1) lb).2 wt lp):=by
 have F:=D x;have d:=D z;obtain⟨T,W,j,A⟩:=alw w (Ab #[V Ad 6,V Ad op,V Af num,Aa (str name),J (some ⟨n,o,none⟩) 1 r] 287);have G:AA (¬CG c.b g lv w.heap.size):=D (fun q=>by have:=k.lt q;omega);have H:=D m.nu;have I:=D (SS.start (k.ext j) (m.ext j));have X:=bk A 1;have K:=bk A 4;have L:=D (y.ext j);have Z:wt≤100000:=by omega
 clear k m y x z;go_enter func233,ntmps233;go_wp2_with (first|(refine KV rfl Ax rfl N O ?_)|(go_at_call 59;refine(Us I Kz 0 (by have:=d.out;omega) (by omega) rfl rfl).mono ?_;rintro e h0 ⟨rfl,h1,P⟩)|(go_at_call 193;refine(kR P (by have:=d.out;omega) (by have:=d.out;simp only [M]at*;omega)).mono ?_;rintro e h2 ⟨rfl,h3,t⟩;obtain⟨cs,B,O,C⟩:=KW (t.arg H L) 0 (show [a][0]?= some a from rfl);have E:=D B;have N:=D C;clear B C;have h4:=t.cell K G)|(go_at_call 192;refine(F.s t E (by have:=d.out;omega) (by have:=d.out;omega) (by have:=d.out;simp only [M]at*;omega) rfl).mono ?_;rintro e h5 ⟨rfl,h6,h7,Q⟩;try clear E)|(go_at_call 57;refine(TD Q [Qz] (by have:=d.out;simp only [M]at*;omega) (by simp) (by simp) rfl rfl).mono ?_;rintro e h8 ⟨rfl,h9,u⟩;have ha:=u.cw.Kv (i:=8) rfl;have f10:=u.cw.QX 10));go_end0;have:=(((u.p9 wt (v:=V Ad (wt:Int)) rfl)).fin).of (K9.ext j);simp only [AG]at this;exact this
theorem vZ (p:JQ)(f:Pg.Fn)(num o h0:Nat)(name A P:Bs)(a b:Ex)(c:Cn)(U:Nat→Prop)(g:Option Nat)(lv:h)(w:Y)(l:Bs)(lb wt:Nat)(lp:List Bs)(Q:CW c g l lb wt lp lv w)(R:Lc (JI p f) c U g lv w)(h1:XT p f c U a wt lb A o)(h2:XT p f c U b wt (o+1) P h0)(S T W:Nat)(X:Ju KE U w [a,b] (J (some ⟨S,T,none⟩) 2 W))(Z:l.length+(A.length+(JD [Kb,JL (o+1)]).length+P.length+(JD [Ka]).length+(JD [Ka]).length+(JU (JL (o+1))).length)≤1000000∧o≤900000∧wt≤900000):
 As prog 234 #[Ae (some ⟨c.b,0,none⟩),AN #[V Ad 7,V Ad 20,V Af num,Aa (str name),J (some ⟨S,T,none⟩) 2 W]] w (MB c g lv w (l++(A++((JD [Kb,JL (o+1)])++(P++((JD [Ka])++((JD [Ka])++(JU (JL (o+1))))))))) h0 wt lp):=by
 have h3:=D h1;have h4:=D h2;obtain⟨hc,r⟩:=JH A.length;obtain⟨hd,s⟩:=JH ((JD [Kb,JL (o+1)]).length);obtain⟨he,t⟩:=JH P.length;obtain⟨hf,u⟩:=JH ((JD [Ka]).length);obtain⟨hg,v⟩:=JH ((JU (JL (o+1))).length);rw [←r,←s,←t,←u,←v]at Z;have x:=D Z;obtain⟨hh,hi,O,h5⟩:=alw w (Ab #[V Ad 7,V Ad 20,V Af num,Aa (str name),J (some ⟨S,T,none⟩) 2 W] 287);have m:AA (¬CG c.b g lv w.heap.size):=D (fun q=>by have:=Q.lt q;omega);have y:=D R.nu;have d:=D (SS.start (Q.ext O) (R.ext O));have z:=bk h5 1;have B:=bk h5 4;obtain⟨hj,h6,h8,h7⟩:=KW (X.ext O) 0 (show [a,b][0]?= some a from rfl);have h9:=D h6;have ha:=D h7;have C:=D (X.ext O);clear Q R X h1 h2 Z h6 h7;have i:Stp 0:=⟨⟩;go_enter func234,ntmps234;go_wp2_with (first|(refine KV rfl Ax rfl ha h8 ?_)|(refine KV rfl Ax rfl E F ?_)|(go_at_call 192;have n:Stp 0:=i;refine(h3 _ _ _ _ _ _ _ _ _ _ d h9 (by have:=x.out;simp only [M,←r,←s,←t,←u,←v];omega) rfl).mono ?_;clear d h3;rintro e H ⟨rfl,I,hb,d⟩;clear i n;have i:Stp 1:=⟨⟩;have K:=d.cell z m;have L:=d.cell B m;obtain⟨N,j,F,k⟩:=KW (d.arg y C) 1 (show [a,b][1]?= some b from rfl);have G:=D j;have E:=D k;clear j k)|(go_at_call 235;have n:Stp 1:=i;refine(kQ d (by have:=x.out;omega)).mono ?_;clear d;rintro e H ⟨rfl,I,d⟩;clear i n;have i:Stp 2:=⟨⟩;have K:=d.cell z m;have L:=d.cell B m;obtain⟨N,j,F,k⟩:=KW (d.arg y C) 1 (show [a,b][1]?= some b from rfl);have G:=D j;have E:=D k;clear j k)|(go_at_call 57;have n:Stp 2:=i;refine(TD d [Kb,JL (o+1)] (by have:=x.out;simp only [M,←r,←s,←t,←u,←v];omega) (by simp) (by simp) rfl rfl).mono ?_;clear d;rintro e H ⟨rfl,I,d⟩;clear i n;have i:Stp 3:=⟨⟩;have K:=d.cell z m;have L:=d.cell B m;obtain⟨N,j,F,k⟩:=KW (d.arg y C) 1 (show [a,b][1]?= some b from rfl);have G:=D j;have E:=D k;clear j k)|(go_at_call 192;have n:Stp 3:=i;refine(h4 _ _ _ _ _ _ _ _ _ _ d G (by have:=x.out;simp only [M,←r,←s,←t,←u,←v];omega) rfl).mono ?_;clear d h4;rintro e H ⟨rfl,I,hb,d⟩;clear i n;have i:Stp 4:=⟨⟩;have K:=d.cell z m;have L:=d.cell B m;obtain⟨N,j,F,k⟩:=KW (d.arg y C) 1 (show [a,b][1]?= some b from rfl);have G:=D j;have E:=D k;clear j k)|(go_at_call 57;have n:Stp 4:=i;refine(TD d [Ka] (by have:=x.out;simp only [M,←r,←s,←t,←u,←v];omega) (by simp) (by simp) rfl rfl).mono ?_;clear d;rintro e H ⟨rfl,I,d⟩;clear i n;have i:Stp 5:=⟨⟩;have K:=d.cell z m;have L:=d.cell B m;obtain⟨N,j,F,k⟩:=KW (d.arg y C) 1 (show [a,b][1]?= some b from rfl);have G:=D j;have E:=D k;clear j k)|(go_at_call 57;have n:Stp 5:=i;refine(TD d [Ka] (by have:=x.out;simp only [M,←r,←s,←t,←u,←v];omega) (by simp) (by simp) rfl rfl).mono ?_;clear d;rintro e H ⟨rfl,I,d⟩;clear i n;have i:Stp 6:=⟨⟩;have K:=d.cell z m;have L:=d.cell B m;obtain⟨N,j,F,k⟩:=KW (d.arg y C) 1 (show [a,b][1]?= some b from rfl);have G:=D j;have E:=D k;clear j k)|(go_at_call 62;have n:Stp 6:=i;refine(VK d (JL (o+1)) (by have:=x.out;simp only [M,←r,←s,←t,←u,←v];omega) rfl).mono ?_;clear d;rintro e H ⟨rfl,I,d⟩;clear i n;have i:Stp 7:=⟨⟩;have K:=d.cell z m;have L:=d.cell B m;obtain⟨N,j,F,k⟩:=KW (d.arg y C) 1 (show [a,b][1]?= some b from rfl);have G:=D j;have E:=D k;clear j k));go_end0;have:=(d.fin).of (K9.ext O);simp only [AG]at this;exact this
theorem zz (p:JQ)(f:Pg.Fn)(num o h0:Nat)(name A P:Bs)(a b:Ex)(c:Cn)(U:Nat→Prop)(g:Option Nat)(lv:h)(w:Y)(l:Bs)(lb wt:Nat)(lp:List Bs)(Q:CW c g l lb wt lp lv w)(R:Lc (JI p f) c U g lv w)(h1:XT p f c U a wt lb A o)(h2:XT p f c U b wt (o+1) P h0)(S T W:Nat)(X:Ju KE U w [a,b] (J (some ⟨S,T,none⟩) 2 W))(Z:l.length+(A.length+(JD [Ka]).length+(JD [Kb,JL (o+1)]).length+P.length+(JD [Ka]).length+(JU (JL (o+1))).length+(JD [Ka]).length)≤1000000∧o≤900000∧wt≤900000):
 As prog 234 #[Ae (some ⟨c.b,0,none⟩),AN #[V Ad 7,V Ad 21,V Af num,Aa (str name),J (some ⟨S,T,none⟩) 2 W]] w (MB c g lv w (l++(A++((JD [Ka])++((JD [Kb,JL (o+1)])++(P++((JD [Ka])++((JU (JL (o+1)))++(JD [Ka])))))))) h0 wt lp):=by
 have h3:=D h1;have h4:=D h2;obtain⟨hc,r⟩:=JH A.length;obtain⟨hd,s⟩:=JH ((JD [Ka]).length);obtain⟨he,t⟩:=JH ((JD [Kb,JL (o+1)]).length);obtain⟨hf,u⟩:=JH P.length;obtain⟨hg,v⟩:=JH ((JU (JL (o+1))).length);rw [←r,←s,←t,←u,←v]at Z;have x:=D Z;obtain⟨hh,hi,O,h5⟩:=alw w (Ab #[V Ad 7,V Ad 21,V Af num,Aa (str name),J (some ⟨S,T,none⟩) 2 W] 287);have m:AA (¬CG c.b g lv w.heap.size):=D (fun q=>by have:=Q.lt q;omega);have y:=D R.nu;have d:=D (SS.start (Q.ext O) (R.ext O));have z:=bk h5 1;have B:=bk h5 4;obtain⟨hj,h6,h8,h7⟩:=KW (X.ext O) 0 (show [a,b][0]?= some a from rfl);have h9:=D h6;have ha:=D h7;have C:=D (X.ext O);clear Q R X h1 h2 Z h6 h7;have i:Stp 0:=⟨⟩;go_enter func234,ntmps234;go_wp2_with (first|(refine KV rfl Ax rfl ha h8 ?_)|(refine KV rfl Ax rfl E F ?_)|(go_at_call 192;have n:Stp 0:=i;refine(h3 _ _ _ _ _ _ _ _ _ _ d h9 (by have:=x.out;simp only [M,←r,←s,←t,←u,←v];omega) rfl).mono ?_;clear d h3;rintro e H ⟨rfl,I,hb,d⟩;clear i n;have i:Stp 1:=⟨⟩;have K:=d.cell z m;have L:=d.cell B m;obtain⟨N,j,F,k⟩:=KW (d.arg y C) 1 (show [a,b][1]?= some b from rfl);have G:=D j;have E:=D k;clear j k)|(go_at_call 235;have n:Stp 1:=i;refine(kQ d (by have:=x.out;omega)).mono ?_;clear d;rintro e H ⟨rfl,I,d⟩;clear i n;have i:Stp 2:=⟨⟩;have K:=d.cell z m;have L:=d.cell B m;obtain⟨N,j,F,k⟩:=KW (d.arg y C) 1 (show [a,b][1]?= some b from rfl);have G:=D j;have E:=D k;clear j k)|(go_at_call 57;have n:Stp 2:=i;refine(TD d [Ka] (by have:=x.out;simp only [M,←r,←s,←t,←u,←v];omega) (by simp) (by simp) rfl rfl).mono ?_;clear d;rintro e H ⟨rfl,I,d⟩;clear i n;have i:Stp 3:=⟨⟩;have K:=d.cell z m;have L:=d.cell B m;obtain⟨N,j,F,k⟩:=KW (d.arg y C) 1 (show [a,b][1]?= some b from rfl);have G:=D j;have E:=D k;clear j k)|(go_at_call 57;have n:Stp 3:=i;refine(TD d [Kb,JL (o+1)] (by have:=x.out;simp only [M,←r,←s,←t,←u,←v];omega) (by simp) (by simp) rfl rfl).mono ?_;clear d;rintro e H ⟨rfl,I,d⟩;clear i n;have i:Stp 4:=⟨⟩;have K:=d.cell z m;have L:=d.cell B m;obtain⟨N,j,F,k⟩:=KW (d.arg y C) 1 (show [a,b][1]?= some b from rfl);have G:=D j;have E:=D k;clear j k)|(go_at_call 192;have n:Stp 4:=i;refine(h4 _ _ _ _ _ _ _ _ _ _ d G (by have:=x.out;simp only [M,←r,←s,←t,←u,←v];omega) rfl).mono ?_;clear d h4;rintro e H ⟨rfl,I,hb,d⟩;clear i n;have i:Stp 5:=⟨⟩;have K:=d.cell z m;have L:=d.cell B m;obtain⟨N,j,F,k⟩:=KW (d.arg y C) 1 (show [a,b][1]?= some b from rfl);have G:=D j;have E:=D k;clear j k)|(go_at_call 57;have n:Stp 5:=i;refine(TD d [Ka] (by have:=x.out;simp only [M,←r,←s,←t,←u,←v];omega) (by simp) (by simp) rfl rfl).mono ?_;clear d;rintro e H ⟨rfl,I,d⟩;clear i n;have i:Stp 6:=⟨⟩;have K:=d.cell z m;have L:=d.cell B m;obtain⟨N,j,F,k⟩:=KW (d.arg y C) 1 (show [a,b][1]?= some b from rfl);have G:=D j;have E:=D k;clear j k)|(go_at_call 62;have n:Stp 6:=i;refine(VK d (JL (o+1)) (by have:=x.out;simp only [M,←r,←s,←t,←u,←v];omega) rfl).mono ?_;clear d;rintro e H ⟨rfl,I,d⟩;clear i n;have i:Stp 7:=⟨⟩;have K:=d.cell z m;have L:=d.cell B m;obtain⟨N,j,F,k⟩:=KW (d.arg y C) 1 (show [a,b][1]?= some b from rfl);have G:=D j;have E:=D k;clear j k)|(go_at_call 57;have n:Stp 7:=i;refine(TD d [Ka] (by have:=x.out;simp only [M,←r,←s,←t,←u,←v];omega) (by simp) (by simp) rfl rfl).mono ?_;clear d;rintro e H ⟨rfl,I,d⟩;clear i n;have i:Stp 8:=⟨⟩;have K:=d.cell z m;have L:=d.cell B m;obtain⟨N,j,F,k⟩:=KW (d.arg y C) 1 (show [a,b][1]?= some b from rfl);have G:=D j;have E:=D k;clear j k));go_end0;have:=(d.fin).of (K9.ext O);simp only [AG]at this;exact this
theorem zA0 (p:JQ)(f:Pg.Fn)(op:Nat)(num I K:Nat)(name A m:Bs)(a b:Ex)(c:Cn)(U:Nat→Prop)(g:Option Nat)(lv:h)(w:Y)(l:Bs)(lb wt:Nat)(lp:List Bs)(L:CW c g l lb wt lp lv w)(N:Lc (JI p f) c U g lv w)(h1:XT p f c U a wt lb A I)(h2:XT p f c U b (wt+1) I m K)(O P Q:Nat)(R:Ju KE U w [a,b] (J (some ⟨O,P,none⟩) 2 Q))(F:4≤op∧op≤19)(S:l.length+(A.length+(JD [KL]).length+m.length+((Lt op).flatMap fun s=>JD [s]).length)≤1000000∧I≤900000∧wt≤900000):
 As prog 234 #[Ae (some ⟨c.b,0,none⟩),AN #[V Ad 7,V Ad op,V Af num,Aa (str name),J (some ⟨O,P,none⟩) 2 Q]] w (MB c g lv w (l++(A++((JD [KL])++(m++((Lt op).flatMap fun s=>JD [s]))))) K wt lp):=by
 have h3:=D h1;have h4:=D h2;obtain⟨x2,t⟩:=JH A.length;obtain⟨x3,u⟩:=JH ((JD [KL]).length);obtain⟨x4,x⟩:=JH m.length;obtain⟨x5,y⟩:=JH (((Lt op).flatMap fun s=>JD [s]).length);rw [←t,←u,←x,←y]at S;have o:=D S;obtain⟨x6,x7,z,h5⟩:=alw w (Ab #[V Ad 7,V Ad op,V Af num,Aa (str name),J (some ⟨O,P,none⟩) 2 Q] 287);have r:AA (¬CG c.b g lv w.heap.size):=D (fun q=>by have:=L.lt q;omega);have h6:=D N.nu;have d:=D (SS.start (L.ext z) (N.ext z));have T:=bk h5 1;have W:=bk h5 4;obtain⟨x8,h7,hk,h8⟩:=KW (R.ext z) 0 (show [a,b][0]?= some a from rfl);have hl:=D h7;have hm:=D h8;have h9:=D (R.ext z);clear L N R h1 h2 S h7 h8;have x9:=o.2.2;have xa:((op:Int)==20)=false:=by simp;omega
 have xb:((op:Int)==21)=false:=by simp;omega
 obtain⟨n,ha⟩:=JH ((Lt op).length);have hb:=D ha;have xc:n≤2:=by rw [ha];exact zy op F.1 F.2
 have j:Stp 0:=⟨⟩;go_enter func234,ntmps234;go_wp2_with (first|(refine KV rfl Ax rfl hm hk ?_)|(refine KV rfl Ax rfl hc hd ?_)|(go_at_call 192;have k:Stp 0:=j;refine(h3 _ _ _ _ _ _ _ _ _ _ d hl (by have:=o.out;simp only [M,←t,←u,←x,←y];omega) rfl).mono ?_;clear d h3;rintro e he ⟨rfl,B,G,d⟩;clear j k;have j:Stp 1:=⟨⟩;have hf:=d.cell T r;have hg:=d.cell W r;obtain⟨hn,C,hd,E⟩:=KW (d.arg h6 h9) 1 (show [a,b][1]?= some b from rfl);have hh:=D C;have hc:=D E;clear C E)|(go_at_call 193;have k:Stp 1:=j;refine(kR d (by have:=o.out;omega) (by have:=o.out;simp only [M,←t,←u,←x,←y];omega)).mono ?_;clear d;rintro e he ⟨rfl,B,d⟩;clear j k;have j:Stp 2:=⟨⟩;have hf:=d.cell T r;have hg:=d.cell W r;obtain⟨hn,C,hd,E⟩:=KW (d.arg h6 h9) 1 (show [a,b][1]?= some b from rfl);have hh:=D C;have hc:=D E;clear C E)|(go_at_call 192;have k:Stp 2:=j;refine(h4 _ _ _ _ _ _ _ _ _ _ d hh (by have:=o.out;simp only [M,←t,←u,←x,←y];omega) rfl).mono ?_;clear d h4;rintro e he ⟨rfl,B,G,d⟩;clear j k;have j:Stp 3:=⟨⟩;have hf:=d.cell T r;have hg:=d.cell W r)|(go_at_call 255;have k:Stp 3:=j;refine(oC op F.1 F.2 _).mono ?_;rintro e ho ⟨hp,rfl,hq,hi,H⟩;clear j k;have hr:=D (SS.start (d.cw.ext H) (d.env.ext H));have hs:=D (d.rl.trans (K9.ext H));have ht:=D (show ¬CG c.b B G hp from fun q=>by have:=d.cw.lt q;omega);have hu:=D hi;clear d hi H hq));go_loopw [99] (fun s hv=>∃ (i:Nat) (hj:Option Nat),s=V Ad i∧i≤n∧AA (SS (JI p f) c U B G ho hj G (l++A++JD [KL]++m++((Lt op).take i).flatMap fun s=>JD [s]) K (wt+1) lp hv)) (fun s _=>n - (AX s).toNat)
 case atStart=>exact⟨0,B,rfl,by omega,D (by have:=hr.out;simpa using this)⟩
 case round=>
  obtain⟨i,hj,rfl,xd,d⟩:=hrel;by_cases hw:i<n
  ·obtain⟨s,X⟩:∃ s,(Lt op)[i]?= some s:=⟨_,Al (show i<(Lt op).length by rw [←hb];exact hw)⟩
   obtain⟨xe,hx,Z⟩:=hu i (Aa (str s)) (RV X);cases hx;rw [MW,BF]at Z;have xf:=d.cell Z ht;have h0:((Lt op).take (i+1)).flatMap (fun s=>JD [s])=((Lt op).take i).flatMap (fun s=>JD [s])++JD [s]:=by rw [BB,X,CO];simp
   have hy:=D h0;have hle:(((Lt op).take (i+1)).flatMap (fun s=>JD [s])).length≤((Lt op).flatMap fun s=>JD [s]).length:=by
    conv=>rhs;rw [←C6 (i+1) (Lt op),CO,M]
    omega
   rw [h0,M,←y]at hle;have hz:AA ((l++A++JD [KL]++m++((Lt op).take i).flatMap fun s=>JD [s]).length+(JD [s]).length≤1000000):=D (by have:=o.out;simp only [M,←t,←u,←x];omega);clear X Z h0 hle;go_wp2_with (go_at_call 57;refine(TD d.out [s] hz.out (by simp) (by simp) rfl rfl).mono ?_;clear d;rintro e xg ⟨rfl,x0,d⟩);go_roundw
   case rel=>exact⟨i+1,x0,by go_num,by omega,D (by have:=d.out;rw [hy,←AG];exact this)⟩
   case measure=>simp [AX];omega
  ·have x1:i=n:=by omega
   subst x1;have xh:=d.cw.Kv (i:=8) rfl;have f10:=d.cw.QX 10;go_wp2;go_end0;have:=(((d.p9 wt (v:=V Ad (wt:Int)) rfl).fin).of hs).of (K9.ext z);rw [show(Lt op).take i=Lt op from by rw [hb,BN]]at this;simp only [AG]at this;exact this
structure Ph (p:JQ) (f:Pg.Fn):Prop where
 nf:p.JY.length≤64
 p6:f.params.length≤6
 l12:f.JE.length≤12
 gn:∀ g∈p.globals,g.num<4294967296
theorem Ph.sz {p:JQ}{f:Pg.Fn}(a:Ph p f):(JI p f).size≤100:=by
 have h1:=a.p6;have b:=a.l12;show f.params.length+1+f.JE.length≤100
 omega
theorem zl9 (p:JQ)(f:Pg.Fn)(o:Ph p f)(s:Bs)(u:Ma p f s 2 0=true)(c:Cn)(U:Nat→Prop)(g:Option Nat)(lv:h)(w:Y)(l:Bs)(lb wt:Nat)(lp:List Bs)(d:CW c g l lb wt lp lv w)(e:Lc (JI p f) c U g lv w)(j:wt≤1000000)(m:l.length+(MQ (JI p f) s wt).length≤1000000):
 As prog 232 #[Ae (some ⟨c.b,0,none⟩),Aa (str s)] w (MB c g lv w (l++MQ (JI p f) s wt) lb wt lp):=by
 rcases pg u (AB rfl)with⟨k,a,v⟩|⟨a,i,gl,q,n⟩
 ·exact yD8 (JI p f) c U g lv l s lb wt k lp w d e a v o.sz j m
 ·have r:=o.gn gl (AD n);by_cases t:gl.kind=1
  ·exact zl2 (JI p f) c U g lv l s lb wt i gl lp w d e a q n t r j m
  ·exact zl3 (JI p f) c U g lv l s lb wt i gl lp w d e a q n t r j m
theorem SX.zm0 {d:Ke}{c:Cn}{U:Nat→Prop}{g0:Option Nat}{f lv:h}{w0 W:Y}{lb wt:Nat}{lp:List Bs}(g:SX d c U g0 f w0 lv lb wt lp W){b o i:Nat}{gl:KJ}(j:c.GA=some ⟨b,o,none⟩)(k:d.pr.globals[i]?= some gl):W.cell? ⟨b,o+i*4+2,none⟩=some (V Af gl.num):=by
 obtain⟨r,l⟩:=g.env;obtain⟨s,t,u,cs,e, -,m,n⟩:=l.gG.elem k;obtain⟨v,rfl,w⟩:=m;rw [j]at e;injection e with a x y
 injection a with a
 injection a with p q
 subst p q;exact n 2 _ rfl
theorem yE0 (p:JQ)(f:Pg.Fn)(B:Ph p f)(op num:Nat)(name:Bs)(A:Option Bi)(n k:Nat)(c:Cn)(U:Nat→Prop)(g:Option Nat)(lv:h)(w:Y)(l:Bs)(lb wt:Nat)(lp:List Bs)(d:CW c g l lb wt lp lv w)(i:Lc (JI p f) c U g lv w)(C:num<4294967296)(m:l.length+(JS Kz num).length≤1000000):
 As prog 192 #[Ae (some ⟨c.b,0,none⟩),AN #[V Ad 1,V Ad op,V Af num,Aa (str name),J A n k]] w (MB c g lv w (l++JS Kz num) lb wt lp):=by
 have u:=D m;obtain⟨v,E,j,o⟩:=alw w (Ab #[V Ad 1,V Ad op,V Af num,Aa (str name),J A n k] 287);have x:AA (¬CG c.b g lv w.heap.size):=D (fun q=>by have:=d.lt q;omega);have F:=D i.nu;have r:=D (SS.start (d.ext j) (i.ext j));have G:=bk o 0;have y:=bk o 2;have H:Ad.wrap (num:Int)=(num:Int):=AU _ (by omega);clear d i m;go_enter E7,EI;go_wp2;refine M5 [] r (fun a=>?_)
 iterate 4 refine JC a ?_
 refine JP a (fun w z=>z.cell y x) ?_
 refine JC a ?_
 try simp only [Au,pA,pB,pC]
 refine JM (fun K s=>?_);go_simp;refine(Us (r.ext ((Ext.refl v).drew)) Kz num u (by omega) rfl rfl).mono ?_
 rintro e I ⟨rfl,L,t⟩;refine s _ _ ?_ (fun a=>?_)
 ·exact SX.of t
 clear s K
 try simp only [Au,pA,pB,pC]
 refine JV ?_
 go_wp2_with fail;go_end0;exact(t.fin).of (K9.ext j)
theorem yE1 (p:JQ)(f:Pg.Fn)(t:Ph p f)(op num:Nat)(name:Bs)(A:Option Bi)(n j:Nat)(c:Cn)(U:Nat→Prop)(g:Option Nat)(lv:h)(w:Y)(l:Bs)(lb wt:Nat)(lp:List Bs)(a:CW c g l lb wt lp lv w)(d:Lc (JI p f) c U g lv w)(k:l.length+(JD [Vo]).length≤1000000):
 As prog 192 #[Ae (some ⟨c.b,0,none⟩),AN #[V Ad 5,V Ad op,V Af num,Aa (str name),J A n j]] w (MB c g lv w (l++JD [Vo]) lb wt lp):=by
 have m:=D k;obtain⟨u,v,i,o⟩:=alw w (Ab #[V Ad 5,V Ad op,V Af num,Aa (str name),J A n j] 287);have x:AA (¬CG c.b g lv w.heap.size):=D (fun q=>by have:=a.lt q;omega);have y:=D d.nu;have r:=D (SS.start (a.ext i) (d.ext i));have z:=bk o 0;clear a d k;go_enter E7,EI;go_wp2_with (go_at_call 57;refine(TD r [Vo] m (by simp) (by simp) rfl rfl).mono ?_;rintro e B ⟨rfl,C,s⟩);go_end0;exact(s.fin).of (K9.ext i)
theorem yE2 (p:JQ)(f:Pg.Fn)(t:Ph p f)(op num:Nat)(name:Bs)(A:Option Bi)(n j:Nat)(c:Cn)(U:Nat→Prop)(g:Option Nat)(lv:h)(w:Y)(l:Bs)(lb wt:Nat)(lp:List Bs)(a:CW c g l lb wt lp lv w)(d:Lc (JI p f) c U g lv w)(k:Ma p f name 2 0=true)(m:wt≤1000000)(o:l.length+(MQ (JI p f) name wt).length≤1000000):
 As prog 192 #[Ae (some ⟨c.b,0,none⟩),AN #[V Ad 2,V Ad op,V Af num,Aa (str name),J A n j]] w (MB c g lv w (l++MQ (JI p f) name wt) lb wt lp):=by
 obtain⟨u,y,i,r⟩:=alw w (Ab #[V Ad 2,V Ad op,V Af num,Aa (str name),J A n j] 287);have z:AA (¬CG c.b g lv w.heap.size):=D (fun q=>by have:=a.lt q;omega);have B:=D d.nu;have s:=D (SS.start (a.ext i) (d.ext i));have C:=bk r 0;have E:=bk r 3;have v:=D (zl9 p f t name k c U g lv u l lb wt lp s.cw s.env m o);clear a d o k m;go_enter E7,EI;go_wp2_with (go_at_call 232;refine v.mono ?_;rintro e F ⟨rfl,x⟩);go_end0;exact MB.of ⟨rfl,x⟩ (K9.ext i)
theorem yE3 (p:JQ)(f:Pg.Fn)(z:Ph p f)(op num:Nat)(name:Bs)(args:List Ex)(v:h)(o:∀ x∈args,XC p f x)(c:Cn)(U:Nat→Prop)(g:Option Nat)(lv:h)(w:Y)(l:Bs)(lb wt:Nat)(lp:List Bs)(d:CW c g l lb wt lp lv w)(j:Lc (JI p f) c U g lv w)(k:Ju KE U w args v)(r:∃ i,JR name (p.JY.map Pg.Fn.name)=some i)(s:lb+Jz args≤100000)(t:wt+Jz args≤100000)(u:l.length+(Pz (JI p f) name args wt lb).1.length≤1000000):
 As prog 192 #[Ae (some ⟨c.b,0,none⟩),AN #[V Ad 4,V Ad op,V Af num,Aa (str name),v]] w (MB c g lv w (l++(Pz (JI p f) name args wt lb).1) (Pz (JI p f) name args wt lb).2 wt lp):=by
 obtain⟨B,F,a,m⟩:=alw w (Ab #[V Ad 4,V Ad op,V Af num,Aa (str name),v] 287);have G:AA (¬CG c.b g lv w.heap.size):=D (fun q=>by have:=d.lt q;omega);have H:=D j.nu;have y:=D (SS.start (d.ext a) (j.ext a));have I:=bk m 0;have K:=bk m 3;have L:=bk m 4;have C:=D (zK6 p f name args o c U g lv B l lb wt lp v y.cw y.env (k.ext a) r z.nf s t u);obtain⟨A,M,rfl⟩:=JB k;clear d j u k o r s t;generalize(Pz (JI p f) name args wt lb).1=T at*
 generalize(Pz (JI p f) name args wt lb).2=eB at*
 generalize args.length=n at*
 go_enter E7,EI;go_wp2_with (go_at_call 196;refine C.mono ?_;rintro e N ⟨rfl,E⟩);go_end0;exact MB.of ⟨rfl,E⟩ (K9.ext a)
theorem rf (p:JQ)(f:Pg.Fn)(v:Ph p f)(op num:Nat)(name k:Bs)(m:Nat)(A:Option Bi)(n d:Nat)(c:Cn)(U:Nat→Prop)(g:Option Nat)(lv:h)(w:Y)(l:Bs)(lb wt:Nat)(lp:List Bs)(i:CW c g l lb wt lp lv w)(j:Lc (JI p f) c U g lv w)(o:∀ W,Ext w W→As prog 233 #[Ae (some ⟨c.b,0,none⟩),AN #[V Ad 6,V Ad op,V Af num,Aa (str name),J A n d]] W (MB c g lv W (l++k) m wt lp)):
 As prog 192 #[Ae (some ⟨c.b,0,none⟩),AN #[V Ad 6,V Ad op,V Af num,Aa (str name),J A n d]] w (MB c g lv w (l++k) m wt lp):=by
 obtain⟨s,x,a,r⟩:=alw w (Ab #[V Ad 6,V Ad op,V Af num,Aa (str name),J A n d] 287);have y:AA (¬CG c.b g lv w.heap.size):=D (fun q=>by have:=i.lt q;omega);have z:=D j.nu;have B:=D (SS.start (i.ext a) (j.ext a));have C:=bk r 0;have t:=D (o s a);clear i j o;go_enter E7,EI;go_wp2_with (first|refine LH rfl Ax rfl r Ki ?_|(go_at_call 233;refine t.mono ?_;rintro e E ⟨rfl,u⟩));go_end0;exact MB.of ⟨rfl,u⟩ (K9.ext a)
theorem rq (p:JQ)(f:Pg.Fn)(v:Ph p f)(op num:Nat)(name k:Bs)(m:Nat)(A:Option Bi)(n d:Nat)(c:Cn)(U:Nat→Prop)(g:Option Nat)(lv:h)(w:Y)(l:Bs)(lb wt:Nat)(lp:List Bs)(i:CW c g l lb wt lp lv w)(j:Lc (JI p f) c U g lv w)(o:∀ W,Ext w W→As prog 234 #[Ae (some ⟨c.b,0,none⟩),AN #[V Ad 7,V Ad op,V Af num,Aa (str name),J A n d]] W (MB c g lv W (l++k) m wt lp)):
 As prog 192 #[Ae (some ⟨c.b,0,none⟩),AN #[V Ad 7,V Ad op,V Af num,Aa (str name),J A n d]] w (MB c g lv w (l++k) m wt lp):=by
 obtain⟨s,x,a,r⟩:=alw w (Ab #[V Ad 7,V Ad op,V Af num,Aa (str name),J A n d] 287);have y:AA (¬CG c.b g lv w.heap.size):=D (fun q=>by have:=i.lt q;omega);have z:=D j.nu;have B:=D (SS.start (i.ext a) (j.ext a));have C:=bk r 0;have t:=D (o s a);clear i j o;go_enter E7,EI;go_wp2_with (first|refine LH rfl Ax rfl r Ki ?_|(go_at_call 234;refine t.mono ?_;rintro e E ⟨rfl,u⟩));go_end0;exact MB.of ⟨rfl,u⟩ (K9.ext a)
theorem yE4 (p:JQ)(f:Pg.Fn)(P:Ph p f)(op num z k:Nat)(name A:Bs)(a:Ex)(gl:KJ)(c:Cn)(U:Nat→Prop)(g:Option Nat)(lv:h)(w:Y)(l:Bs)(lb wt:Nat)(lp:List Bs)(r:CW c g l lb wt lp lv w)(s:Lc (JI p f) c U g lv w)(Q:XT p f c U a wt lb A z)(B C E:Nat)(R:Ju KE U w [a] (J (some ⟨B,C,none⟩) 1 E))(S:JR name (p.globals.map KJ.name)=some k)(o:p.globals[k]?= some gl)(F:l.length+(A.length+(JS Nh gl.num).length+(JD [RP,Lf k]).length)≤1000000):
 As prog 192 #[Ae (some ⟨c.b,0,none⟩),AN #[V Ad 3,V Ad op,V Af num,Aa (str name),J (some ⟨B,C,none⟩) 1 E]] w (MB c g lv w (l++(A++((JS Nh gl.num)++(JD [RP,Lf k])))) z wt lp):=by
 have T:=D Q;obtain⟨ho,t⟩:=JH A.length;obtain⟨hp,u⟩:=JH ((JS Nh gl.num).length);obtain⟨hq,x⟩:=JH ((JD [RP,Lf k]).length);rw [←t,←u,←x]at F;have H:=D F;obtain⟨W,hr,y,I⟩:=alw w (Ab #[V Ad 3,V Ad op,V Af num,Aa (str name),J (some ⟨B,C,none⟩) 1 E] 287);have h9:AA (¬CG c.b g lv w.heap.size):=D (fun q=>by have:=r.lt q;omega);have hs:=D s.nu;have j:=D (SS.start (r.ext y) (s.ext y));have ht:=bk I 0;have ha:=bk I 3;have hu:=bk I 4;obtain⟨hv,X,hb,Z⟩:=KW (R.ext y) 0 (show [a][0]?= some a from rfl);have L:=D X;have hc:=D Z;have hw:=P.gn gl (AD o);have hx:Ad.wrap (gl.num:Int)=(gl.num:Int):=AU _ (by omega);obtain⟨hd,go,hy,hz,he,h0, -, -⟩:=s.gG.elem o;injection he with h2 h3 hf
 have h4:=D h2;have hg:=D (show(JI p f).pr.globals[k]?= some gl from o);have x0:k<c.ng:=by rw [h3];exact(Ao.1 o).1
 have x1:k≤9223372036854775807:=by unfold Bk at h0;have:=(Ao.1 o).1;have x2:(JI p f).pr.globals.length=p.globals.length:=rfl;omega
 obtain⟨h5,N, -⟩:=s.gm;have hh:=D N;have hi:AA ((c.xs lb wt lv)[3]?= some (Bj (some h5))):=D (by show some c.gm=_;rw [N]);have hj:AA (vI (p.globals.map KJ.name) (str name)=some (V Ad k)):=D (by unfold vI;rw [L6,S];rfl);clear r s R Q F X Z S o N h2 h3 hf h0 P;go_enter E7,EI;go_wp2;refine M5 [] j (fun d=>?_)
 iterate 3 refine JC d ?_
 refine JP d (fun w n=>n.Kv hi) ?_
 refine JC d ?_
 refine JP d (fun w n=>n.cell ha h9) ?_
 refine JX.take (i:=6) (oi:={dst:=some 30,op:=_,type:=_,pos:=_,after:=_,guard:=_}) (v:=?vq1) rfl (by kernel_rfl) (by kernel_rfl) (by kernel_rfl) (by kernel_rfl) (fun _ _ _ r=>r) (AO ⟨by rfl,?ax⟩) d ?jJ
 case ax=>(intro w n;have q:=n;obtain⟨x3,h1,hk⟩:=n.gm;rw [hh]at h1;injection h1 with h1;injection h1 with h1;subst h1;exact QY Yu _ _ rfl h5 _ hk rfl (str name) rfl _ (by rw [hj];first|done|rfl))
 refine KM 7 d ?_
 try simp only [Au,pA,pB,pC]
 refine JV ?_
 have j:=D (j.ext ((Ext.refl W).drew));have L:=D (KE.upd L (Gl (G:=fun _=>False) ((Ext.refl W).drew)) (fun _ _ q=>q) (fun _ q=>q));go_wp2_with (first|(refine KV rfl Ax rfl hc hb ?_)|(go_at_call 192;refine(T _ _ _ _ _ _ _ _ _ _ j L (by have:=H.out;simp only [M,←t,←u,←x];omega) rfl).mono ?_;clear j T;rintro e hl ⟨rfl,x4,hm,j⟩));have hn:AA ((c.xs z wt hm)[1]?= some (J (some ⟨hd,go,none⟩) c.ng c.gc)):=D (by show some (J c.GA c.ng c.gc)=_;rw [h4]);refine M5 [] j (fun d=>?_)
 iterate 7 refine JC d ?_
 refine JP d (fun w n=>n.Kv hn) ?_
 iterate 3 refine JC d ?_
 refine JP d (fun w n=>n.zm0 h4 hg) ?_
 refine JC d ?_
 try simp only [Au,pA,pB,pC]
 refine JM (fun K m=>?_);go_simp;refine(Us (j.ext ((Ext.refl hl).drew)) Nh gl.num (by have:=H.out;simp only [M,←t,←u,←x];omega) (by omega) rfl rfl).mono ?_
 clear j;rintro e h6 ⟨rfl,x5,j⟩;refine m _ _ ?_ (fun d=>?_)
 ·exact SX.of j
 clear m K
 try simp only [Au,pA,pB,pC]
 refine JV ?_
 go_wp2_with fail;refine M5 [] j (fun d=>?_)
 iterate 4 refine JC d ?_
 try simp only [Au,pA,pB,pC]
 refine JM (fun K m=>?_);go_simp;refine(ak k _ (by omega) (j.cw.tab.ext ((Ext.refl h6).drew))).mono ?_
 rintro e x6 ⟨rfl,h7⟩;have O:=D ((j.ext ((Ext.refl h6).drew)).ext h7);clear h7;refine m _ _ ?_ (fun d=>?_)
 ·exact SX.of O
 clear m K
 try simp only [Au,pA,pB,pC]
 refine JM (fun K m=>?_);go_simp;refine m _ _ ?_ (fun d=>?_)
 ·exact(SX.of O).ext ((Ext.refl _).alloc _)
 clear m K
 try simp only [Au,pA,pB,pC]
 refine JM (fun K m=>?_);go_simp;refine(TD O [RP,Lf k] (by have:=H.out;simp only [M,←t,←u,←x];omega) (by simp) (by simp) rfl rfl).mono ?_
 rintro e x7 ⟨rfl,x8,h8⟩;refine m _ _ ?_ (fun d=>?_)
 ·exact SX.of h8
 clear m K
 try simp only [Au,pA,pB,pC]
 refine JV ?_
 go_wp2_with fail;go_end0;have:=(h8.fin).of (K9.ext y);simp only [AG]at this;exact this
theorem XJ.form {k op num:Nat}{name:Bs}{args l:List Ex}(a:XJ (.mk k op num name args::l)):Sj k op num name args.length=true:=by
 obtain⟨lv,n,m,a⟩:=a;rw [L9,P6]at a;split at a
 ·cases a
 ·rename_i q b;split at b
  ·rename_i c;rw [Ah]at c;exact c.2
  ·cases b
theorem XJ.head {x:Ex}{l:List Ex}(a:XJ (x::l)):XJ [x]:=by
 obtain⟨lv,n,m,a⟩:=a;rw [L9]at a;split at a
 ·cases a
 ·rename_i q b;exact⟨lv,n,q,by rw [L9,b];rfl⟩
theorem XJ.tail {x:Ex}{l:List Ex}(a:XJ (x::l)):XJ l:=by
 obtain⟨lv,n,m,a⟩:=a;rw [L9]at a;split at a
 ·cases a
 ·rename_i q b;exact⟨_,_,_,a⟩
structure EOk (p:JQ) (f:Pg.Fn) (x:Ex):Prop where
 ck:Zv p f x=true
 fm:XJ [x]
 nb:Wh x=true
theorem zm2 {p:JQ}{f:Pg.Fn}:∀ {l:List Ex},Qf p f l=true→XJ l→Q8 l=true→∀ x∈l,EOk p f x
 |[],_,_,_,x,a=>by cases a
 |d::l,h1,c,b,x,a=>by
  rw [Qf,Ah]at h1;rw [Q8,Ah]at b;rcases AH.1 a with rfl|a
  ·exact⟨h1.1,c.head,b.1⟩
  ·exact zm2 h1.2 c.tail b.2 x a
theorem gJ {α:Type}{l:List α}(b:l.length=1):∃ a,l=[a]:=by
 match l,b with
 |[a],_=>exact⟨a,rfl⟩
theorem yP8 {α:Type}{l:List α}(c:l.length=2):∃ a b,l=[a,b]:=by
 match l,c with
 |[a,b],_=>exact⟨a,b,rfl⟩
theorem QD {α:Type}{K:Kind α}{U:Nat→Prop}{w:Y}{l:List α}{v:h}(a:Ju K U w l v)(d:0<l.length):∃ b o c,v=J (some ⟨b,o,none⟩) l.length c:=by
 obtain⟨b,o,c,cs,e,_⟩:=a.elem (Al d);exact⟨b,o,c,e⟩
theorem Xu {p:JQ}{f:Pg.Fn}{s:Bs}{i:Nat}{gl:KJ}(a:JR s (p.globals.map KJ.name)=some i)(b:p.globals[i]?= some gl):(JI p f).QR s=i∧(JI p f).gl s=gl:=by
 have h1:(JI p f).QR s=i:=by unfold Ke.QR;show(JR s (p.globals.map KJ.name)).getD 0=i;rw [a];rfl
 exact⟨h1,by unfold Ke.gl;rw [h1];show(p.globals[i]?).getD _=gl;rw [b];rfl⟩
theorem yE5 (p:JQ)(f:Pg.Fn)(n:Ph p f):∀ (N:Nat)(x:Ex),Aq x<N→EOk p f x→XC p f x:=by
 intro N
 induction N with
 |zero=>intro x h;omega
 |succ N h0=>
  rintro⟨k,op,num,name,args⟩ h2 z c U g lv w l lb wt lp cs h i S I K d;have h3:Aq args<N:=by
   have L:Aq (Ex.mk k op num name args)=1+Aq k+Aq op+Aq num+Aq name+Aq args:=by simp
   omega
  have D:=z.ck;have E:=z.nb;have B:=z.fm.form;obtain⟨hb,hd,O, -⟩:=z.fm.cons;rw [Zv,Ah]at D;rw [Wh,Ah]at E;have h4:num<4294967296:=by have:=E.1;exact Nat.lt_of_succ_le (Ai this)
  have C:∀ a∈args,XC p f a:=fun a r=>h0 a (by have:=BQ r;omega) (zm2 D.2 O E.2 a r)
  rw [show KE.rep=OV from rfl,OZ]at S;obtain⟨h5,rfl,j⟩:=S;rw [LY]at I K;have u:=D.1;unfold Sj at B;simp only [Ah]at B;have H:=B.2;have v:=B.1.1.1.2;have T:∀ a∈args,LY a≤Jz args:=fun a r=>by
   clear z D E B O C j I K d u H v h2 h3
   induction args with
   |nil=>cases r
   |cons he l h6=>
    rw [Jz];rcases AH.1 r with rfl|r
    ·omega
    ·have:=h6 r;omega
  clear B D E O z;have h7:k=1∨k=2∨k=3∨k=4∨k=5∨k=6∨k=7:=by omega
  rcases h7 with rfl|rfl|rfl|rfl|rfl|rfl|rfl
  ·have e:JW (JI p f) (.mk 1 op num name args) wt lb=(JS Kz num,lb):=by rw [JW,if_pos rfl]
   rw [e]at d ⊢;obtain⟨A,F,rfl⟩:=JB j;exact yE0 p f n op num name A _ F c U g lv w l lb wt lp h i h4 d
  ·have e:JW (JI p f) (.mk 2 op num name args) wt lb=(MQ (JI p f) name wt,lb):=by rw [JW,if_neg (by decide),if_pos rfl]
   rw [e]at d ⊢;obtain⟨A,F,rfl⟩:=JB j;have G:Ma p f name 2 0=true:=by unfold Ri at u;rwa [if_pos rfl]at u
   exact yE2 p f n op num name A _ F c U g lv w l lb wt lp h i G (by omega) d
  ·obtain⟨a,rfl⟩:=gJ (Ap (by rwa [if_pos (AO rfl)]at H));have G:Ma p f name 3 0=true:=by unfold Ri at u;rwa [if_neg (by decide),if_pos rfl]at u
   obtain⟨X,gl,P,Q⟩:=vW G;have e:JW (JI p f) (.mk 3 op num name [a]) wt lb=((JW (JI p f) a wt lb).1++(JS Nh gl.num++JD [RP,Lf X]),(JW (JI p f) a wt lb).2):=by
    rw [JW,if_neg (by decide),if_neg (by decide),if_pos rfl,LM,(Xu P Q).1,(Xu P Q).2]
   rw [e]at d ⊢;obtain⟨o,q,m,rfl⟩:=QD j (by simp);have hc:=T a Bb;refine yE4 p f n op num _ X name _ a gl c U g lv w l lb wt lp h i ((C a Bb).t c U (by omega) (by omega)) o q m j P Q ?_
   simp only [M]at d;omega
  ·have G:Ma p f name 4 args.length=true:=by unfold Ri at u;rwa [if_neg (by decide),if_neg (by decide),if_pos rfl]at u
   have e:JW (JI p f) (.mk 4 op num name args) wt lb=Pz (JI p f) name args wt lb:=by
    rw [JW,if_neg (by decide),if_neg (by decide),if_neg (by decide),if_pos rfl];rfl
   rw [e]at d ⊢;obtain⟨h8,h9, -⟩:=vX G;exact yE3 p f n op num name args h5 C c U g lv w l lb wt lp h i j ⟨h8,h9⟩ (by omega) (by omega) d
  ·have e:JW (JI p f) (.mk 5 op num name args) wt lb=(JD [Vo],lb):=by rw [JW,if_neg (by decide),if_neg (by decide),if_neg (by decide),if_neg (by decide),if_pos rfl]
   rw [e]at d ⊢;obtain⟨A,F,rfl⟩:=JB j;exact yE1 p f n op num name A _ F c U g lv w l lb wt lp h i d
  ·obtain⟨a,rfl⟩:=gJ (Ap (by rwa [if_pos (AB rfl)]at H));have ha:1≤op∧op≤3:=by rw [if_pos rfl,Ah]at v;exact⟨Ai v.1,Ai v.2⟩
   obtain⟨o,q,m,rfl⟩:=QD j (by simp);have hc:=T a Bb;have y:=C a Bb;by_cases h1:op=1
   ·subst h1;have e:JW (JI p f) (.mk 6 1 num name [a]) wt lb=((JW (JI p f) a wt lb).1++JD [Ka],(JW (JI p f) a wt lb).2):=by
     rw [JW,if_neg (by decide),if_neg (by decide),if_neg (by decide),if_neg (by decide),if_neg (by decide),if_pos rfl,if_pos rfl,LM]
    rw [e]at d ⊢;simp only [M]at d;exact rf p f n 1 num name _ _ _ _ m c U g lv w l lb wt lp h i fun W x=>unary_1 p f num name a y c U g lv W l lb wt lp (h.ext x) (i.ext x) o q m (j.ext x) ⟨by omega,by omega,by omega⟩
   ·have e:JW (JI p f) (.mk 6 op num name [a]) wt lb=(JS Kz (if op=3 then 4294967295 else 0)++(JD [KL]++((JW (JI p f) a (wt+1) lb).1++JD [Qz])),(JW (JI p f) a (wt+1) lb).2):=by
     rw [JW,if_neg (by decide),if_neg (by decide),if_neg (by decide),if_neg (by decide),if_neg (by decide),if_pos rfl,if_neg h1,LM]
    rw [e]at d ⊢;simp only [M]at d;by_cases L:op=3
    ·rw [if_pos L]at d ⊢;exact rf p f n op num name _ _ _ _ m c U g lv w l lb wt lp h i fun W x=>zl7 p f op num name a y c U g lv W l lb wt lp (h.ext x) (i.ext x) o q m (j.ext x) (by simp;omega) (by simp;omega) ⟨by omega,by omega,by omega⟩
    ·rw [if_neg L]at d ⊢;exact rf p f n op num name _ _ _ _ m c U g lv w l lb wt lp h i fun W x=>zl8 p f op num name a y c U g lv W l lb wt lp (h.ext x) (i.ext x) o q m (j.ext x) (by simp;omega) (by simp;omega) ⟨by omega,by omega,by omega⟩
  ·obtain⟨a,b,rfl⟩:=yP8 (Ap (by rwa [if_neg (by decide),if_pos rfl]at H));have ha:4≤op∧op≤21:=by rw [if_neg (by decide),if_pos rfl,Ah]at v;exact⟨Ai v.1,Ai v.2⟩
   obtain⟨o,q,m,rfl⟩:=QD j (by simp);have y:=C a Bb;have R:=C b (DE _ Bb);have hf:=RY (JI p f) a wt lb;rw [Jz,Jz,Jz]at I K;by_cases Y:op=20
   ·subst Y;have e:JW (JI p f) (.mk 7 20 num name [a,b]) wt lb=((JW (JI p f) a wt lb).1++(JD [Kb,JL ((JW (JI p f) a wt lb).2+1)]++((JW (JI p f) b wt ((JW (JI p f) a wt lb).2+1)).1++(JD [Ka]++(JD [Ka]++JU (JL ((JW (JI p f) a wt lb).2+1)))))),(JW (JI p f) b wt ((JW (JI p f) a wt lb).2+1)).2):=by
     rw [JW,if_neg (by decide),if_neg (by decide),if_neg (by decide),if_neg (by decide),if_neg (by decide),if_neg (by decide),if_pos rfl];simp only [LM,RL]
    rw [e]at d ⊢;simp only [M]at d;exact rq p f n 20 num name _ _ _ _ m c U g lv w l lb wt lp h i fun W x=>vZ p f num _ _ name _ _ a b c U g lv W l lb wt lp (h.ext x) (i.ext x) (y.t c U (by omega) (by omega)) (R.t c U (by omega) (by omega)) o q m (j.ext x) ⟨by omega,by omega,by omega⟩
   ·by_cases Z:op=21
    ·subst Z;have e:JW (JI p f) (.mk 7 21 num name [a,b]) wt lb=((JW (JI p f) a wt lb).1++(JD [Ka]++(JD [Kb,JL ((JW (JI p f) a wt lb).2+1)]++((JW (JI p f) b wt ((JW (JI p f) a wt lb).2+1)).1++(JD [Ka]++(JU (JL ((JW (JI p f) a wt lb).2+1))++JD [Ka]))))),(JW (JI p f) b wt ((JW (JI p f) a wt lb).2+1)).2):=by
      rw [JW,if_neg (by decide),if_neg (by decide),if_neg (by decide),if_neg (by decide),if_neg (by decide),if_neg (by decide),if_neg (by decide),if_pos rfl];simp only [LM,RL]
     rw [e]at d ⊢;simp only [M]at d;exact rq p f n 21 num name _ _ _ _ m c U g lv w l lb wt lp h i fun W x=>zz p f num _ _ name _ _ a b c U g lv W l lb wt lp (h.ext x) (i.ext x) (y.t c U (by omega) (by omega)) (R.t c U (by omega) (by omega)) o q m (j.ext x) ⟨by omega,by omega,by omega⟩
    ·have e:JW (JI p f) (.mk 7 op num name [a,b]) wt lb=((JW (JI p f) a wt lb).1++(JD [KL]++((JW (JI p f) b (wt+1) (JW (JI p f) a wt lb).2).1++(Lt op).flatMap fun s=>JD [s])),(JW (JI p f) b (wt+1) (JW (JI p f) a wt lb).2).2):=by
      rw [JW,if_neg (by decide),if_neg (by decide),if_neg (by decide),if_neg (by decide),if_neg (by decide),if_neg (by decide),if_neg Y,if_neg Z];simp only [LM,RL]
     rw [e]at d ⊢;simp only [M]at d;exact rq p f n op num name _ _ _ _ m c U g lv w l lb wt lp h i fun W x=>zA0 p f op num _ _ name _ _ a b c U g lv W l lb wt lp (h.ext x) (i.ext x) (y.t c U (by omega) (by omega)) (R.t c U (by omega) (by omega)) o q m (j.ext x) ⟨by omega,by omega⟩ ⟨by omega,by omega,by omega⟩
theorem zS7 (p:JQ)(f:Pg.Fn)(Q:Ph p f)(name:Bs)(t:Nat)(A:Bs)(a:Ex)(c:Cn)(U:Nat→Prop)(g:Option Nat)(lv:h)(w:Y)(l:Bs)(lb:Nat)(lp:List Bs)(u:CW c g l lb 0 lp lv w)(v:Lc (JI p f) c U g lv w)(SB SC:Option Bi)(nb x y z:Nat)(k m n:Nat)(B:Ju KE U w [a] (J (some ⟨k,m,none⟩) 1 n))(C:XT p f c U a 0 lb A t)(o:l.length+(A.length+(JD [Uf]).length)≤1000000∧lb≤800000):
 As prog 146 #[Ae (some ⟨c.b,0,none⟩),AN #[V Ad 7,Aa (str name),J (some ⟨k,m,none⟩) 1 n,J SB nb x,J SC y z]] w (MB c g lv w (l++(A++(JD [Uf]))) t 0 lp):=by
 have E:=D C;obtain⟨R,q⟩:=JH A.length;obtain⟨S,r⟩:=JH ((JD [Uf]).length);rw [←q,←r]at o;have F:=D o;obtain⟨T,W,j,G⟩:=alw w (Ab #[V Ad 7,Aa (str name),J (some ⟨k,m,none⟩) 1 n,J SB nb x,J SC y z] 227);have d:=D (SS.start (u.ext j) (v.ext j));have X:=JA G 0;have Z:=JA G 2;obtain⟨h0,H,K,I⟩:=KW (B.ext j) 0 (show [a][0]?= some a from rfl);have L:=D H;have N:=D I;clear B H I;clear u v o C;have i:Stp 0:=⟨⟩;go_enter DQ,DB;go_wp2_with (first|(refine KV rfl Ax rfl N K ?_)|(go_at_call 192;have s:Stp 0:=i;refine(E _ _ _ _ _ _ _ _ _ _ d L (by have:=F.out;simp only [M,←q,←r];omega) rfl).mono ?_;clear d E;rintro e O ⟨rfl,P,h1,d⟩;clear i s;have i:Stp 1:=⟨⟩)|(go_at_call 57;have s:Stp 1:=i;refine(TD d [Uf] (by have:=F.out;simp only [M,←q,←r];omega) (by simp) (by simp) rfl rfl).mono ?_;clear d;rintro e O ⟨rfl,P,d⟩;clear i s;have i:Stp 2:=⟨⟩));go_end0;have:=(d.fin).of (K9.ext j);simp only [AG]at this;exact this
theorem zA2 (p:JQ)(f:Pg.Fn)(Q:Ph p f)(name:Bs)(t:Nat)(A:Bs)(a:Ex)(c:Cn)(U:Nat→Prop)(g:Option Nat)(lv:h)(w:Y)(l:Bs)(lb:Nat)(lp:List Bs)(u:CW c g l lb 0 lp lv w)(v:Lc (JI p f) c U g lv w)(SB SC:Option Bi)(nb x y z:Nat)(k m n:Nat)(B:Ju KE U w [a] (J (some ⟨k,m,none⟩) 1 n))(C:XT p f c U a 0 lb A t)(o:l.length+(A.length+(JD [PR]).length)≤1000000∧lb≤800000):
 As prog 146 #[Ae (some ⟨c.b,0,none⟩),AN #[V Ad 8,Aa (str name),J (some ⟨k,m,none⟩) 1 n,J SB nb x,J SC y z]] w (MB c g lv w (l++(A++(JD [PR]))) t 0 lp):=by
 have E:=D C;obtain⟨R,q⟩:=JH A.length;obtain⟨S,r⟩:=JH ((JD [PR]).length);rw [←q,←r]at o;have F:=D o;obtain⟨T,W,j,G⟩:=alw w (Ab #[V Ad 8,Aa (str name),J (some ⟨k,m,none⟩) 1 n,J SB nb x,J SC y z] 227);have d:=D (SS.start (u.ext j) (v.ext j));have X:=JA G 0;have Z:=JA G 2;obtain⟨h0,H,K,I⟩:=KW (B.ext j) 0 (show [a][0]?= some a from rfl);have L:=D H;have N:=D I;clear B H I;clear u v o C;have i:Stp 0:=⟨⟩;go_enter DQ,DB;go_wp2_with (first|(refine KV rfl Ax rfl N K ?_)|(go_at_call 192;have s:Stp 0:=i;refine(E _ _ _ _ _ _ _ _ _ _ d L (by have:=F.out;simp only [M,←q,←r];omega) rfl).mono ?_;clear d E;rintro e O ⟨rfl,P,h1,d⟩;clear i s;have i:Stp 1:=⟨⟩)|(go_at_call 57;have s:Stp 1:=i;refine(TD d [PR] (by have:=F.out;simp only [M,←q,←r];omega) (by simp) (by simp) rfl rfl).mono ?_;clear d;rintro e O ⟨rfl,P,d⟩;clear i s;have i:Stp 2:=⟨⟩));go_end0;have:=(d.fin).of (K9.ext j);simp only [AG]at this;exact this
theorem zS8 (p:JQ)(f:Pg.Fn)(v:Ph p f)(name:Bs)(m:Nat)(A:Bs)(a:Ex)(c:Cn)(U:Nat→Prop)(g:Option Nat)(lv:h)(w:Y)(l:Bs)(lb:Nat)(lp:List Bs)(x:CW c g l lb 0 lp lv w)(i:Lc (JI p f) c U g lv w)(SB SC:Option Bi)(nb y z B:Nat)(n o q:Nat)(C:Ju KE U w [a] (J (some ⟨n,o,none⟩) 1 q))(E:XT p f c U a 0 lb A m)(r:l.length+(A.length+(JS Od (f.JE.length+1)).length)≤1000000∧lb≤800000):
 As prog 146 #[Ae (some ⟨c.b,0,none⟩),AN #[V Ad 6,Aa (str name),J (some ⟨n,o,none⟩) 1 q,J SB nb y,J SC z B]] w (MB c g lv w (l++(A++(JS Od (f.JE.length+1)))) m 0 lp):=by
 have F:=D E;obtain⟨h0,s⟩:=JH A.length;obtain⟨h1,t⟩:=JH ((JS Od (f.JE.length+1)).length);rw [←s,←t]at r;have G:=D r;obtain⟨h2,h3,j,H⟩:=alw w (Ab #[V Ad 6,Aa (str name),J (some ⟨n,o,none⟩) 1 q,J SB nb y,J SC z B] 227);have d:=D (SS.start (x.ext j) (i.ext j));have h4:=JA H 0;have h5:=JA H 2;obtain⟨h6,I,O,L⟩:=KW (C.ext j) 0 (show [a][0]?= some a from rfl);have P:=D I;have Q:=D L;clear C I L;have h7:c.lo≤12:=by rw [i.lo];exact v.l12
 have R:AA (Ad.wrap ((c.lo:Int)+1)=((f.JE.length+1:Nat):Int)):=D (by have h8:c.lo=f.JE.length:=i.lo;rw [AU _ (by omega)];omega);clear x i r E;have u:Stp 0:=⟨⟩;go_enter DQ,DB;go_wp2_with (first|(refine KV rfl Ax rfl Q O ?_)|(go_at_call 192;have S:Stp 0:=u;refine(F _ _ _ _ _ _ _ _ _ _ d P (by have:=G.out;simp only [M,←s,←t];omega) rfl).mono ?_;clear d F;rintro e T ⟨rfl,h9,W,d⟩;clear u S;have u:Stp 1:=⟨⟩));have X:AA ((c.xs m 0 W)[7]?= some (V Ad c.lo)):=D rfl;refine M5 [] d (fun k=>?_)
 iterate 6 refine JC k ?_
 refine JP k (fun w Z=>Z.Kv X) ?_
 refine JC k ?_
 refine JM (fun K N=>?_);go_simp;refine(Us (d.ext ((Ext.refl T).drew)) Od (f.JE.length+1) (by have:=G.out;simp only [M,←s,←t];omega) (by have:=v.l12;omega) rfl (by rw [R])).mono ?_
 clear d;rintro e ha ⟨rfl,hb,d⟩;refine N _ _ ?_ (fun k=>?_)
 ·exact SX.of d
 clear N K;refine JV ?_
 go_wp2_with fail;go_end0;have:=(d.fin).of (K9.ext j);simp only [AG]at this;exact this
theorem zA3 (p:JQ)(f:Pg.Fn)(C:Ph p f)(name:Bs)(args:List Ex)(v:h)(k:∀ x∈args,XC p f x)(c:Cn)(U:Nat→Prop)(g:Option Nat)(lv:h)(w:Y)(l:Bs)(lb wt:Nat)(lp:List Bs)(m:CW c g l lb wt lp lv w)(o:Lc (JI p f) c U g lv w)(SB SC:Option Bi)(nb q r s:Nat)(d:Ju KE U w args v)(t:∃ i,JR name (p.JY.map Pg.Fn.name)=some i)(u:lb+Jz args≤100000)(y:wt+Jz args≤100000)(z:l.length+(Pz (JI p f) name args wt lb).1.length≤1000000):
 As prog 146 #[Ae (some ⟨c.b,0,none⟩),AN #[V Ad 5,Aa (str name),v,J SB nb q,J SC r s]] w (MB c g lv w (l++(Pz (JI p f) name args wt lb).1) (Pz (JI p f) name args wt lb).2 wt lp):=by
 obtain⟨E,H,a,j⟩:=alw w (Ab #[V Ad 5,Aa (str name),v,J SB nb q,J SC r s] 227);have B:=D (SS.start (m.ext a) (o.ext a));have I:=JA j 0;have K:=JA j 1;have L:=JA j 2;have F:=D (zK6 p f name args k c U g lv E l lb wt lp v B.cw B.env (d.ext a) t C.nf u y z);obtain⟨A,M,rfl⟩:=JB d;clear m o z d k t u y;generalize(Pz (JI p f) name args wt lb).1=T at*
 generalize(Pz (JI p f) name args wt lb).2=eB at*
 generalize args.length=n at*
 go_enter DQ,DB;go_wp2_with (go_at_call 196;refine F.mono ?_;rintro e N ⟨rfl,G⟩);go_end0;exact MB.of ⟨rfl,G⟩ (K9.ext a)
section
variable {κ:Type} [DecidableEq κ] {K:Wm κ}{T kt et:AK}{z:h}
theorem Zf (d:MT K T kt et z){w:Y}{o:B5}{a:CY}(m x:CC)(e:o.op=Jo T m x true)(c:Nat)(val:κ→Option h)(f:MapAt K w c val)(g:a.eval m=Bj (some c))(b:κ)(i:a.eval x=K.enc b){v:h}(j:val b=some v):(CS a.eval o).run prog w=Ez (F5 (AZ #[v,AE true])) w:=by
 simp [CS,e,g,i,R8 d f b,j,BM]
theorem Zg (d:MT K T kt et z){w:Y}{o:B5}{a:CY}(m x:CC)(e:o.op=Jo T m x true)(c:Nat)(val:κ→Option h)(f:MapAt K w c val)(g:a.eval m=Bj (some c))(b:κ)(i:a.eval x=K.enc b)(j:val b=none):(CS a.eval o).run prog w=Ez (F5 (AZ #[z,AE false])) w:=by
 simp [CS,e,g,i,R8 d f b,j,BM]
end
theorem SX.yc8 {d:Ke}{c:Cn}{U:Nat→Prop}{g0:Option Nat}{f:h}{w0 W:Y}{lb wt:Nat}{lp:List Bs}{A:Bi}{n cap:Nat}(b:SX d c U g0 f w0 (J (some A) n cap) lb wt lp W){i:Nat}{s:Bs}(g:lp[i]?= some s):W.cell? (A.add i)=some (Aa (str s)):=by
 obtain⟨m,o,b⟩:=b;obtain⟨p,q,e, -, -, -,j⟩:=NQ b.cw.lo;injection e with k r t
 subst k;obtain⟨a,l,hc⟩:=j i _ (RV g);cases l;exact hc
theorem zS9 (p:JQ)(f:Pg.Fn)(h6:Ph p f)(name:Bs)(m i:Nat)(A:Bs)(a:Ex)(c:Cn)(U:Nat→Prop)(g:Option Nat)(lv:h)(w:Y)(l:Bs)(lb:Nat)(lp:List Bs)(o:CW c g l lb 0 lp lv w)(r:Lc (JI p f) c U g lv w)(SB SC:Option Bi)(nb L N O:Nat)(t u x:Nat)(y:Ju KE U w [a] (J (some ⟨t,u,none⟩) 1 x))(P:XT p f c U a 0 lb A m)(Q:(JI p f).slot name=some i)(R:i<(JI p f).size)(z:l.length+(A.length+(JS QQ ((JI p f).size - i)).length)≤1000000∧lb≤800000):
 As prog 146 #[Ae (some ⟨c.b,0,none⟩),AN #[V Ad 1,Aa (str name),J (some ⟨t,u,none⟩) 1 x,J SB nb L,J SC N O]] w (MB c g lv w (l++(A++(JS QQ ((JI p f).size - i)))) m 0 lp):=by
 have S:=D P;obtain⟨hl,B⟩:=JH A.length;obtain⟨hm,C⟩:=JH ((JS QQ ((JI p f).size - i)).length);rw [←B,←C]at z;have T:=D z;obtain⟨hn,ho,s,E⟩:=alw w (Ab #[V Ad 1,Aa (str name),J (some ⟨t,u,none⟩) 1 x,J SB nb L,J SC N O] 227);have h7:AA (¬CG c.b g lv w.heap.size):=D (fun q=>by have:=o.lt q;omega);have hp:=D r.nu;have j:=D (SS.start (o.ext s) (r.ext s));have hq:=bk E 0;have h8:=bk E 1;have hr:=bk E 2;obtain⟨hs,W,h9,X⟩:=KW (y.ext s) 0 (show [a][0]?= some a from rfl);have ha:=D W;have hb:=D X;have ht:=D (y.ext s);clear y W X;obtain⟨Z,h0, -⟩:=r.sm;have h2:=D h0;have hc:AA (vS (JI p f) (str name)=some (V Ad i)):=D (by unfold vS;rw [L6,Q];rfl);have h3:=h6.sz;obtain⟨n,F⟩:=JH c.sz;have G:AA (n=(JI p f).size):=D (by rw [F,r.sz]);have hu:n≤100:=by rw [G];exact h3
 have hv:i<n:=by rw [G];exact R
 have hd:=D F;have he:AA (Ad.wrap (Ad.wrap (n:Int) - (i:Int))=(((JI p f).size - i:Nat):Int)):=D (by
  have hf:Ad.wrap (n:Int)=(n:Int):=AU _ (by omega)
  rw [hf,AU _ (by omega),←G];omega)
 have hw:(JI p f).size - i≤100:=by omega
 clear F h3 R;clear h0 Q;clear o r z P;have H:Stp 0:=⟨⟩;go_enter DQ,DB;go_wp2_with (first|(refine KV rfl Ax rfl hb h9 ?_)|(go_at_call 192;have hg:Stp 0:=H;refine(S _ _ _ _ _ _ _ _ _ _ j ha (by have:=T.out;simp only [M,←B,←C];omega) rfl).mono ?_;clear j S;rintro e h4 ⟨rfl,hx,I,j⟩;clear H hg;have H:Stp 1:=⟨⟩));have hh:AA ((c.xs m 0 I)[5]?= some (Bj (some Z))):=D (by show some c.sm=_;rw [h2]);have hi:AA ((c.xs m 0 I)[6]?= some (V Ad n)):=D (by rw [hd];rfl);have hj:AA ((c.xs m 0 I)[8]?= some (V Ad 0)):=D rfl;refine M5 [] j (fun d=>?_)
 iterate 3 refine JC d ?_
 refine JP d (fun w k=>k.Kv hh) ?_
 refine JC d ?_
 refine JP d (fun w k=>k.cell h8 h7) ?_
 refine JX.take (i:=6) (oi:={dst:=some 24,op:=_,type:=_,pos:=_,after:=_,guard:=_}) (v:=?vq1) rfl (by kernel_rfl) (by kernel_rfl) (by kernel_rfl) (by kernel_rfl) (fun _ _ _ o=>o) (AO ⟨by rfl,?ax⟩) d ?jJ
 case ax=>(intro w k;have q:=k;obtain⟨hy,h1,hk⟩:=k.sm;rw [h2]at h1;injection h1 with h1;injection h1 with h1;subst h1;refine Zf Yu (Eh 21) (Eh 23) ?_ Z _ hk ?_ (str name) ?_ hc<;>rfl)
 refine KM 7 d ?_
 refine KM 8 d ?_
 refine KM 9 d ?_
 refine KM 10 d ?_
 refine KM 11 d ?_
 try simp only [Au,pA,pB,pC]
 refine JV ?_
 have j:=D (j.ext ((Ext.refl h4).drew));go_wp2;refine M5 [] j (fun d=>?_)
 iterate 6 refine JC d ?_
 refine JP d (fun w k=>k.Kv hi) ?_
 iterate 3 refine JC d ?_
 refine JP d (fun w k=>k.Kv hj) ?_
 iterate 3 refine JC d ?_
 try simp only [Au,pA,pB,pC]
 refine JM (fun K h5=>?_);go_simp;refine(Us (j.ext ((Ext.refl h4.drew).drew)) QQ ((JI p f).size - i) (by have:=T.out;simp only [M,←B,←C];omega) (by omega) rfl (by rw [he])).mono ?_
 clear j;rintro e hz ⟨rfl,x0,j⟩;refine h5 _ _ ?_ (fun d=>?_)
 ·exact SX.of j
 clear h5 K
 try simp only [Au,pA,pB,pC]
 refine JV ?_
 go_wp2_with fail;go_end0;have:=(j.fin).of (K9.ext s);simp only [AG]at this;exact this
theorem zT0 (p:JQ)(f:Pg.Fn)(hl:Ph p f)(name:Bs)(t i:Nat)(A:Bs)(a:Ex)(gl:KJ)(c:Cn)(U:Nat→Prop)(g:Option Nat)(lv:h)(w:Y)(l:Bs)(lb:Nat)(lp:List Bs)(n:CW c g l lb 0 lp lv w)(o:Lc (JI p f) c U g lv w)(SB SC:Option Bi)(nb N O P:Nat)(u x y:Nat)(z:Ju KE U w [a] (J (some ⟨u,x,none⟩) 1 y))(Q:XT p f c U a 0 lb A t)(R:(JI p f).slot name=none)(B:JR name (p.globals.map KJ.name)=some i)(S:p.globals[i]?= some gl)(C:l.length+(A.length+(JD [RQ,Lf i]).length)≤1000000∧lb≤800000):
 As prog 146 #[Ae (some ⟨c.b,0,none⟩),AN #[V Ad 1,Aa (str name),J (some ⟨u,x,none⟩) 1 y,J SB nb N,J SC O P]] w (MB c g lv w (l++(A++(JD [RQ,Lf i]))) t 0 lp):=by
 have T:=D Q;obtain⟨hm,E⟩:=JH A.length;obtain⟨hn,F⟩:=JH ((JD [RQ,Lf i]).length);rw [←E,←F]at C;have W:=D C;obtain⟨ho,hp,r,G⟩:=alw w (Ab #[V Ad 1,Aa (str name),J (some ⟨u,x,none⟩) 1 y,J SB nb N,J SC O P] 227);have X:AA (¬CG c.b g lv w.heap.size):=D (fun q=>by have:=n.lt q;omega);have hq:=D o.nu;have j:=D (SS.start (n.ext r) (o.ext r));have hr:=bk G 0;have Z:=bk G 1;have hs:=bk G 2;obtain⟨ht,h0,hc,h2⟩:=KW (z.ext r) 0 (show [a][0]?= some a from rfl);have hd:=D h0;have he:=D h2;have hu:=D (z.ext r);clear z h0 h2;obtain⟨h3,h4, -⟩:=o.sm;have h5:=D h4;have hf:AA (vS (JI p f) (str name)=none):=D (by unfold vS;rw [L6,R];rfl);obtain⟨H,h6, -⟩:=o.gm;have h7:=D h6;have hg:AA (vI ((JI p f).pr.globals.map KJ.name) (str name)=some (V Ad i)):=D (by unfold vI;rw [L6];show(JR name (p.globals.map KJ.name)).map _=_;rw [B];rfl);have h8:=lastIdx_lt B;obtain⟨_,_,_,_,_,h9, -, -⟩:=o.gG.elem S;have hv:i≤9223372036854775807:=by unfold Bk at h9;have hw:(JI p f).pr.globals.length=p.globals.length:=rfl;rw [AI]at h8;omega
 clear h4 R h6 B S h8 h9;clear n o C Q;have I:Stp 0:=⟨⟩;go_enter DQ,DB;go_wp2_with (first|(refine KV rfl Ax rfl he hc ?_)|(go_at_call 192;have hh:Stp 0:=I;refine(T _ _ _ _ _ _ _ _ _ _ j hd (by have:=W.out;simp only [M,←E,←F];omega) rfl).mono ?_;clear j T;rintro e L ⟨rfl,hx,ha,j⟩;clear I hh;have I:Stp 1:=⟨⟩));have hi:AA ((c.xs t 0 ha)[5]?= some (Bj (some h3))):=D (by show some c.sm=_;rw [h5]);have hj:AA ((c.xs t 0 ha)[3]?= some (Bj (some H))):=D (by show some c.gm=_;rw [h7]);refine M5 [] j (fun d=>?_)
 iterate 3 refine JC d ?_
 refine JP d (fun w k=>k.Kv hi) ?_
 refine JC d ?_
 refine JP d (fun w k=>k.cell Z X) ?_
 refine JX.take (i:=6) (oi:={dst:=some 24,op:=_,type:=_,pos:=_,after:=_,guard:=_}) (v:=?vq2) rfl (by kernel_rfl) (by kernel_rfl) (by kernel_rfl) (by kernel_rfl) (fun _ _ _ n=>n) (AO ⟨by rfl,?yw3⟩) d ?xB0
 case yw3=>(intro w k;have q:=k;obtain⟨hk,h1,s⟩:=k.sm;rw [h5]at h1;injection h1 with h1;injection h1 with h1;subst h1;refine Zg Yu (Eh 21) (Eh 23) ?_ h3 _ s ?_ (str name) ?_ hf<;>rfl)
 refine KM 7 d ?_
 refine KM 8 d ?_
 refine KM 9 d ?_
 refine KM 10 d ?_
 refine KM 11 d ?_
 try simp only [Au,pA,pB,pC]
 refine JV ?_
 have j:=D (j.ext ((Ext.refl L).drew));go_wp2;refine M5 [] j (fun d=>?_)
 iterate 6 refine JC d ?_
 refine JP d (fun w k=>k.Kv hj) ?_
 refine JC d ?_
 refine JP d (fun w k=>k.cell Z X) ?_
 refine JX.take (i:=9) (oi:={dst:=some 52,op:=_,type:=_,pos:=_,after:=_,guard:=_}) (v:=?vq3) rfl (by kernel_rfl) (by kernel_rfl) (by kernel_rfl) (by kernel_rfl) (fun _ _ _ n=>n) (AO ⟨by rfl,?yw4⟩) d ?xB1
 case yw4=>(intro w k;have q:=k;obtain⟨hk,h1,s⟩:=k.gm;rw [h7]at h1;injection h1 with h1;injection h1 with h1;subst h1;have s:MapAt KQ w H (vI (List.map KJ.name p.globals)):=s;refine QY Yu (Eh 49) (Eh 51) ?_ H _ s ?_ (str name) ?_ _ ?_<;>first|(rw [hg];first|done|rfl)|rfl)
 try simp only [Au,pA,pB,pC]
 refine JX.rd 10 (fun K m=>?_);go_simp;refine(ak i _ (by omega) (j.cw.tab.ext ((Ext.refl L.drew).drew))).mono ?_
 rintro e hy ⟨rfl,hb⟩;have j:=D ((j.ext ((Ext.refl L.drew).drew)).ext hb);clear hb;refine m _ _ ?_ (fun d=>?_)
 ·exact SX.of j
 clear m K
 try simp only [Au,pA,pB,pC]
 refine JX.rd 11 (fun K m=>?_);go_simp;refine m _ _ ?_ (fun d=>?_)
 ·exact(SX.of j).ext ((Ext.refl _).alloc _)
 clear m K
 try simp only [Au,pA,pB,pC]
 refine JX.rd 12 (fun K m=>?_);go_simp;refine(TD j [RQ,Lf i] (by have:=W.out;simp only [M,←E,←F];omega) (by simp) (by simp) rfl rfl).mono ?_
 clear j;rintro e hz ⟨rfl,x0,j⟩;refine m _ _ ?_ (fun d=>?_)
 ·exact SX.of j
 clear m K
 try simp only [Au,pA,pB,pC]
 refine JV ?_
 go_wp2_with fail;go_end0;have:=(j.fin).of (K9.ext r);simp only [AG]at this;exact this
end Go.Proofs.YtmkomefmgcpnbaaGreatDoor

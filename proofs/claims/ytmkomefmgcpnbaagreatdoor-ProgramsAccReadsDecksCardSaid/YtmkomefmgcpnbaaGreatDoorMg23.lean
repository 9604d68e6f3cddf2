import Derived.Test.YtmkomefmgcpnbaaGreatDoorMg22
import Derived.Test.YtmkomefmgcpnbaaGreatDoorMg21
import Derived.Laws.BitsAllLaws
set_option linter.all false
set_option maxHeartbeats 12800000
set_option maxRecDepth 100000
namespace Go.Proofs.YtmkomefmgcpnbaaGreatDoor
open Tryz Go Go.Proofs Go.RowKit Pg
open Pm (Tm Ac In TS upd Lx MF NZ MK Ls Mm stepT UK Re)
open _root_.Array renaming getElem?_eq_getElem→Bc,getElem?_eq_some_iff→Ag,getElem?_setIfInBounds→BE
open Go renaming Act→CY,Calls→As,Exit→EY,Program→BR,Value→h,World→Y,bodyPost_ret→B1,heap_alloc_new→Aj,results_cell_row→FZ,wpList→Dh,wp_seq→CZ,Operand→CC,Oper→B5,TypeId→AK,execOp→CS,run_makeMap_plain→DF,undef→Ca,wpList_plain→Em,Ending→BX
open Go.Act renaming put→Au
open Go.Ending renaming returned→Ak
open Go.IntKind renaming i64→Ad,u32→Af,u64→Jc,u8→BJ
open Go.Lib renaming hid→D
open Go.Obj renaming cells→Ab,map→Eu
open Go.RowKit renaming Hid→AA
open Go.Value renaming agg→AN,int→V,pointer→Ae,slice→J,bool→AE,func→ER,map→Bj,string→Aa,tuple→AZ
open _root_.Nat renaming le_of_lt→Ev,le_trans→AL,lt_of_lt_of_le→Ar,zero_le→Dd,ble→A6,blt_eq→Dm,le_of_ble_eq_true→Ai,le_refl→Aw,min_eq_left→CJ
open _root_.Option.some renaming inj→DJ
open _root_.Or renaming inl→AO,inr→AB
open _root_.Bool renaming and_eq_true→Ah,not_eq_true'→Dl
open _root_.List renaming all_eq_true→A7,getElem?_eq_getElem→Al,mem_cons→AH,mem_cons_of_mem→DE,mem_cons_self→Bb,not_mem_nil→Ba,getElem?_eq_none→C5,getElem?_zipIdx→Gp
open _root_.And renaming intro→Ct
open Go.Code renaming region→FU
open Go.Instr renaming makeFunc→Hh,mapUpdate→Fk
open Go.Op renaming call→Gy
open Go.Oper renaming wp→Cb
open Go.Operand renaming const→FV
open Go.Proofs.Tryz renaming underlying9→A8,underlying26→Bd,underlying56→Cw,underlying24→Ch,zeroValue3→BI
open Go.Result renaming andThen→BM,ok→Ez
open Go.RowKit.Below renaming grown→Hu,heap_setCell→AY
open _root_.Int renaming natCast_emod→Ip
theorem bf {v:Int}(a:0≤v)(w:Y):As prog 23 #[V Af v] w fun e w'=>e=Ak (AN #[V Ad 1,V Af v])∧Ext w w':=by
 obtain⟨n,rfl⟩:=Int.eq_ofNat_of_zero_le a;exact yh0 n w
theorem zW5 (W:Y)(s:Nat)(e:s=W.heap.size)(b:Nat)(c:W.heap[b]?= some (Ab #[V Ad 0,J none 0 0] 47)):
 let a:=((((((W.alloc (Ab #[V Ad 1,V Af 0] 68)).alloc (Ab #[V Ad 1,V Af 1] 68)).alloc (Ab #[V Ad 1,V Af 2] 68)).alloc (Ab #[V Ad 1,V Af 3] 68)).alloc (Ab #[V Ad 1,V Af 4] 68)).alloc (Ab #[V Ad 2,V Af 0] 68)).alloc (Ab #[V Ad 65536,J none 0 0] 47)
 TmB b s (s+1) (s+1+1) (s+1+1+1) (s+1+1+1+1) (s+1+1+1+1+1) (s+1+1+1+1+1+1) a∧a.heap[s+1+1+1+1+1+1]?= some (Ab #[V Ad 65536,J none 0 0] 47)∧Ext W a∧a.heap.size=s+7:=by
 subst e;have f:=(Ag.1 c).1;have d:Ext W (((((((W.alloc (Ab #[V Ad 1,V Af 0] 68)).alloc (Ab #[V Ad 1,V Af 1] 68)).alloc (Ab #[V Ad 1,V Af 2] 68)).alloc (Ab #[V Ad 1,V Af 3] 68)).alloc (Ab #[V Ad 1,V Af 4] 68)).alloc (Ab #[V Ad 2,V Af 0] 68)).alloc (Ab #[V Ad 65536,J none 0 0] 47)):=((((((((Ext.refl W).alloc _).alloc _).alloc _).alloc _).alloc _).alloc _).alloc _);refine⟨⟨CE d c,?_,?_,?_,?_,?_,?_,by omega⟩,NR (by simp),d,by simp⟩
 all_goals
  repeat (first|exact NR (by simp)|apply MX)
structure TC (b1 b2 b3 b4 b5 b6:Nat) (W:Y):Prop where
 c1:W.cell? ⟨b1,0,none⟩=some (V Ad (1:Nat))
 d1:W.cell? ⟨b1,1,none⟩=some (V Af (0:Nat))
 c2:W.cell? ⟨b2,0,none⟩=some (V Ad (1:Nat))
 d2:W.cell? ⟨b2,1,none⟩=some (V Af (1:Nat))
 c3:W.cell? ⟨b3,0,none⟩=some (V Ad (1:Nat))
 d3:W.cell? ⟨b3,1,none⟩=some (V Af (2:Nat))
 c4:W.cell? ⟨b4,0,none⟩=some (V Ad (1:Nat))
 d4:W.cell? ⟨b4,1,none⟩=some (V Af (3:Nat))
 c5:W.cell? ⟨b5,0,none⟩=some (V Ad (1:Nat))
 d5:W.cell? ⟨b5,1,none⟩=some (V Af (4:Nat))
 c6:W.cell? ⟨b6,0,none⟩=some (V Ad (2:Nat))
 d6:W.cell? ⟨b6,1,none⟩=some (V Af (0:Nat))
theorem TmB.cells {h b c d e f g i:Nat}{W:Y}(a:TmB h b c d e f g i W):TC b c d e f g W:=
 ⟨JA a.h1 0,JA a.h1 1,JA a.h2 0,JA a.h2 1,JA a.h3 0,JA a.h3 1,JA a.h4 0,JA a.h4 1,JA a.h5 0,JA a.h5 1,JA a.h6 0,JA a.h6 1⟩
theorem xV {P:BR}{c:Code}{Q:EY→CY→Y→Prop}{a:CY}{w:Y}{Fp:CY→Prop}(d:Fp a)(k:∀ b,Fp b→c.wp P Q b w):c.wp P Q a w:=k a d
theorem lt7 {i:Nat}(a:i<7):i=0∨i=1∨i=2∨i=3∨i=4∨i=5∨i=6:=by omega
theorem y19 {i:Nat}(a:i<11):i=0∨i=1∨i=2∨i=3∨i=4∨i=5∨i=6∨i=7∨i=8∨i=9∨i=10:=by omega
inductive AF (P:Nat→Prop):Nat→Nat→Prop
 |z {k:Nat}:AF P k 0
 |s {k n:Nat}:P k→AF P (k+1) n→AF P k (n+1)
theorem AF.go {P:Nat→Prop}:∀ {n k:Nat},AF P k n→∀ i,k≤i→i<k+n→P i
 |0,_,_,i,h1,a=>by omega
 |n+1,k,.s b c,i,h1,a=>by
  by_cases q:i=k
  ·subst q;exact b
  ·exact AF.go c i (by omega) (by omega)
theorem M7 {P:Nat→Prop}{n:Nat}(a:AF P 0 n):∀ i,i<n→P i:=fun i b=>AF.go a i (Dd _) (by omega)
theorem lX (w:Y):As prog 14 #[] w fun e w'=>∃ v,e=Ak (AN #[V Ad 65536,v])∧Ju KI (fun k=>w.heap.size≤k∧k<w'.heap.size) w' J3 v∧Ext w w':=by
 have x7:=D (Aj w (Ab #[V Ad 0,J none 0 0] 47));have x8:=D ((Ext.refl w).alloc (Ab #[V Ad 0,J none 0 0] 47));go_enter func14,ntmps14;go_upto_region 2 with(first|(go_at_call 23;refine(bf (v:=0) (by decide) _).mono ?_;rintro e I ⟨rfl,Z⟩)|(go_at_call 23;refine(bf (v:=1) (by decide) _).mono ?_;rintro e yg ⟨rfl,h7⟩)|(go_at_call 23;refine(bf (v:=2) (by decide) _).mono ?_;rintro e yh ⟨rfl,h8⟩)|(go_at_call 23;refine(bf (v:=3) (by decide) _).mono ?_;rintro e yi ⟨rfl,h9⟩)|(go_at_call 23;refine(bf (v:=4) (by decide) _).mono ?_;rintro e C ⟨rfl,ha⟩));have x9:=D (((((x8.trans Z).trans h7).trans h8).trans h9).trans ha);have hb:=D (CE ha (CE h9 (CE h8 (CE h7 (CE Z x7)))));clear Z h7 h8 h9 ha x8 x7;go_upto_region 6 with fail;obtain⟨xa,xb,K,xc⟩:=zW5 C _ rfl w.heap.size hb;have y:=D xa;have O:=D xb;have hd:=D (x9.trans K);have xd:=D (Ag.1 hb).1;have he:=D xc;clear xa xb K xc x9 hb;generalize((((((C.alloc (Ab #[V Ad 1,V Af 0] 68)).alloc (Ab #[V Ad 1,V Af 1] 68)).alloc (Ab #[V Ad 1,V Af 2] 68)).alloc (Ab #[V Ad 1,V Af 3] 68)).alloc (Ab #[V Ad 1,V Af 4] 68)).alloc (Ab #[V Ad 2,V Af 0] 68)).alloc (Ab #[V Ad 65536,J none 0 0] 47)=W6 at y O hd he ⊢;obtain⟨g,F⟩:=JH (C.heap.size+1+1+1+1+1+1);obtain⟨hf,hg⟩:=JH (C.heap.size+1+1+1+1+1);obtain⟨hh,hi⟩:=JH (C.heap.size+1+1+1+1);obtain⟨hj,hk⟩:=JH (C.heap.size+1+1+1);obtain⟨hl,hm⟩:=JH (C.heap.size+1+1);obtain⟨hn,ho⟩:=JH (C.heap.size+1);obtain⟨hp,hq⟩:=JH C.heap.size;rw [←F,←hg,←hi,←hk,←hm,←ho,←hq]at y;rw [←F]at O;rw [←F,←hg,←hi,←hk,←hm,←ho,←hq];have yj:w.heap.size<g:=by rw [F];have:=xd.out;omega
 have xw:g<W6.heap.size:=by rw [he,F];omega
 clear F hg hi hk hm ho hq he xd;obtain⟨x,hr⟩:=JH w.heap.size;rw [←hr]at y;rw [←hr];have xe:AA (w.heap.size≤x):=D (by omega);clear hr;rename_i xx xf;obtain⟨c1,hs,ht,hu,L,M,hv,hw,hx,hy,hz,x0⟩:=y.cells;refine xV (Fp:=FF x hp hn hl hj hh hf g) ⟨by kernel_rfl,rfl,rfl,rfl,rfl,rfl,rfl,rfl,rfl,rfl,rfl,rfl⟩ (fun a b=>?_);have t:=b.sz;refine Wx Ext (Zs [.fn OB,.tm ⟨1,2⟩,.tm ⟨0,1⟩,.OA [⟨1,2⟩,⟨0,1⟩],.ac ⟨2,2,⟨1,2⟩,⟨0,1⟩⟩,.fn OB,.tm ⟨1,2⟩,.OA [⟨1,2⟩],.ac ⟨13,1,⟨1,2⟩,⟨0,0⟩⟩,.acb [⟨2,2,⟨1,2⟩,⟨0,1⟩⟩,⟨13,1,⟨1,2⟩,⟨0,0⟩⟩],.nw 70 #[J none 0 0]] W6) 11 t (fun p q=>p.trans q) Ext.refl (Ext.drew (Ext.refl _)) (fun i xy=>?_) (fun x1 I K Q=>?_) (by kernel_rfl) (by kernel_rfl)
 ·rcases y19 xy with rfl|rfl|rfl|rfl|rfl|rfl|rfl|rfl|rfl|rfl|rfl
  ·exact J4 t b.t9
  ·exact KH t b.t3 L M
  ·exact SI 1 t
  ·exact Le 1 2 t
  ·exact La 0 3 2 2 t
  ·exact J4 t b.t9
  ·exact KH t b.t3 L M
  ·exact SK 6 t
  ·exact La 5 7 13 1 t
  ·exact UM 4 8 t
  ·exact yj7 t (hc:=fun _=>rfl)
 obtain⟨yk,xz,xg⟩:=Q.rd t 9 29 (by decide) rfl (by decide);obtain⟨E,rfl,y0,x2⟩:=(Zs.eq rfl).1 xg;obtain⟨v10,xh,xi⟩:=Q.rd t 10 10 (by decide) rfl (by decide);obtain⟨r,rfl,xj,H⟩:=(Zs.eq rfl).1 xi;have x3:=b.of Q (by kernel_rfl);clear xg xi Q c1 hs ht hu L M hv hw hx hy hz x0;have xk:E≠r:=by
  rintro rfl;rw [x2]at H;cases H
 have y1:=JA H 0;have y2:=JF H 0;refine Nl (n:=0) (rs:=[11]) (by kernel_rfl) (by simp) (Lm.cons (i:=11) (o:={dst:=none,op:=_,type:=_,pos:=_,after:=_,guard:=_}) rfl (fun y3 R=>?_) Lm.nil)
 replace R:=D R
 have xl:=D xf;have xm:=D H;have xn:=D x2;clear xf H x2;go_simp;refine R _ _ (fun _=>trivial) (fun _=>JX.done (by kernel_rfl) ?_ _);refine xl _ _ ?_
 clear R xl y1 y2 y3 xx;have A:Ext W6 (I.setCell ⟨r,0,none⟩ (J (some ⟨E,0,none⟩) 2 2)):=K.setCell (p:=⟨r,0,none⟩) xj _;have S:=JJ xm 0 (J (some ⟨E,0,none⟩) 2 2);have T:(I.setCell ⟨r,0,none⟩ (J (some ⟨E,0,none⟩) 2 2)).heap[E]?= _:=JK.heap (JK.setCell (G:=fun k=>k=r) (p:=⟨r,0,none⟩) (JK.refl I) (AB rfl) _) xn xk
 have xo:=(Ag.1 S).1;generalize I.setCell ⟨r,0,none⟩ (J (some ⟨E,0,none⟩) 2 2)=N at A S T xo ⊢;have xp:g<N.heap.size:=Ar xw A.size;have y4:=(Ag.1 T).1;have c:DW x hp hn hl hj hh hf g r N (J3.take 0) N:=⟨⟨CE A y.h0,CE A y.h1,CE A y.h2,CE A y.h3,CE A y.h4,CE A y.h5,CE A y.h6,y.lt⟩,⟨xp,_,CE A O,RowK.nil _ _ _ _⟩,
  ⟨_,fun k=>k=E,S,zM2 xU T rfl rfl (by simp),fun k q=>by subst q;exact⟨y4,by omega⟩⟩,⟨xo,by omega⟩,JK.refl _⟩
 have y5:=D (hd.trans A);have y6:w.heap.size<N.heap.size:=by omega
 have xq:=x3.sz;clear A S T y O hd xm xn xk y0 xj K b;refine CZ (wp_region_list ?_);have xr:=fun(v u:h)=>(((x3.put (d:=30) (v:=v) (by omega)).put (d:=11) (v:=u) (by omega)))
 have xs:=fun(v u:h)=>(show(((x1.put (some 30) v).put (some 11) u).tmps[(11:Nat)]?= some u) by simp [Au,xq])
 have x4:=D c;have xt:=D xr;have xu:=D xs;clear c xr xs x3;have y7:∀ B,x1.tmps[10]'B=Ae (some ⟨r,0,none⟩):=fun B=>by have:=xh;rw [Bc B]at this;exact DJ this
 simp only [Dh];go_simp;refine AO (AO ?_);refine xV (Fp:=fun a=>FF x hp hn hl hj hh hf g a∧a.tmps[(11:Nat)]?= some (Sc r)) ⟨xt _ _,xu _ _⟩ ?_
 clear t xq xz y7 xh xt xu a;rintro a ⟨b,f⟩;have c:=x4.out;clear x4 x1;have t:=b.sz;obtain⟨c1,hs,ht,hu,L,M,hv,hw,hx,hy,hz,x0⟩:=c.tm.cells;obtain⟨P,U,l,m, -⟩:=c.pp;refine CZ (LX [.fn (Nv g),.fn OB,.tm ⟨1,0⟩,.OA [⟨1,0⟩],.ac ⟨17,0,⟨1,0⟩,⟨0,0⟩⟩,.acb [⟨17,0,⟨1,0⟩,⟨0,0⟩⟩]] 6 0 5 (Pm.Lh[0]) (J3.take 0) (J3.take 1) b f c (M7 (.s (J4 b.sz b.t8) <| .s (J4 b.sz b.t9) <| .s (KH b.sz b.t1 c.tm.cells.c1 c.tm.cells.d1) <| .s (SK 2 b.sz) <| .s (La 1 3 17 0 b.sz) <| .s (Nc 4 b.sz) <| .z)) (fun a j b f c=>?_) (AB rfl));refine CZ (LX [.fn (Nv g),.fn OB,.tm ⟨2,0⟩,.OA [⟨2,0⟩],.ac ⟨0,0,⟨2,0⟩,⟨0,0⟩⟩,.acb [⟨0,0,⟨2,0⟩,⟨0,0⟩⟩]] 6 0 5 (Pm.Lh[1]) (J3.take 1) (J3.take 2) b f c (M7 (.s (J4 b.sz b.t8) <| .s (J4 b.sz b.t9) <| .s (KH b.sz b.t6 c.tm.cells.c6 c.tm.cells.d6) <| .s (SK 2 b.sz) <| .s (La 1 3 0 0 b.sz) <| .s (Nc 4 b.sz) <| .z)) (fun a j b f c=>?_) (AB rfl));refine CZ (LX [.fn (Nv g),.fn OB,.tm ⟨2,0⟩,.OA [⟨2,0⟩],.ac ⟨13,0,⟨2,0⟩,⟨0,0⟩⟩,.acb [⟨13,0,⟨2,0⟩,⟨0,0⟩⟩]] 6 0 5 (Pm.Lh[2]) (J3.take 2) (J3.take 3) b f c (M7 (.s (J4 b.sz b.t8) <| .s (J4 b.sz b.t9) <| .s (KH b.sz b.t6 c.tm.cells.c6 c.tm.cells.d6) <| .s (SK 2 b.sz) <| .s (La 1 3 13 0 b.sz) <| .s (Nc 4 b.sz) <| .z)) (fun a j b f c=>?_) (AB rfl));refine CZ (LX [.fn (Nv g),.fn OB,.tm ⟨2,0⟩,.tm ⟨1,0⟩,.OA [⟨2,0⟩,⟨1,0⟩],.ac ⟨14,0,⟨2,0⟩,⟨1,0⟩⟩,.acb [⟨14,0,⟨2,0⟩,⟨1,0⟩⟩]] 7 0 6 (Pm.Lh[3]) (J3.take 3) (J3.take 4) b f c (M7 (.s (J4 b.sz b.t8) <| .s (J4 b.sz b.t9) <| .s (KH b.sz b.t6 c.tm.cells.c6 c.tm.cells.d6) <| .s (KH b.sz b.t1 c.tm.cells.c1 c.tm.cells.d1) <| .s (Le 2 3 b.sz) <| .s (La 1 4 14 0 b.sz) <| .s (Nc 5 b.sz) <| .z)) (fun a j b f c=>?_) (AB rfl));refine CZ (LX [.fn (Nv g),.fn OB,.tm ⟨1,2⟩,.tm ⟨2,0⟩,.OA [⟨1,2⟩,⟨2,0⟩],.ac ⟨2,1,⟨1,2⟩,⟨2,0⟩⟩,.fn OB,.tm ⟨1,1⟩,.OA [⟨1,1⟩],.ac ⟨13,0,⟨1,1⟩,⟨0,0⟩⟩,.acb [⟨2,1,⟨1,2⟩,⟨2,0⟩⟩,⟨13,0,⟨1,1⟩,⟨0,0⟩⟩]] 11 0 10 (Pm.Lh[4]) (J3.take 4) (J3.take 5) b f c (M7 (.s (J4 b.sz b.t8) <| .s (J4 b.sz b.t9) <| .s (KH b.sz b.t3 c.tm.cells.c3 c.tm.cells.d3) <| .s (KH b.sz b.t6 c.tm.cells.c6 c.tm.cells.d6) <| .s (Le 2 3 b.sz) <| .s (La 1 4 2 1 b.sz) <| .s (J4 b.sz b.t9) <| .s (KH b.sz b.t2 c.tm.cells.c2 c.tm.cells.d2) <| .s (SK 7 b.sz) <| .s (La 6 8 13 0 b.sz) <| .s (UM 5 9 b.sz) <| .z)) (fun a j b f c=>?_) (AB rfl));refine CZ (LX [.fn (Nv g),.fn OB,.tm ⟨1,2⟩,.tm ⟨2,0⟩,.OA [⟨1,2⟩,⟨2,0⟩],.ac ⟨2,1,⟨1,2⟩,⟨2,0⟩⟩,.fn OB,.tm ⟨1,1⟩,.tm ⟨1,0⟩,.OA [⟨1,1⟩,⟨1,0⟩],.ac ⟨14,0,⟨1,1⟩,⟨1,0⟩⟩,.acb [⟨2,1,⟨1,2⟩,⟨2,0⟩⟩,⟨14,0,⟨1,1⟩,⟨1,0⟩⟩]] 12 0 11 (Pm.Lh[5]) (J3.take 5) (J3.take 6) b f c (M7 (.s (J4 b.sz b.t8) <| .s (J4 b.sz b.t9) <| .s (KH b.sz b.t3 c.tm.cells.c3 c.tm.cells.d3) <| .s (KH b.sz b.t6 c.tm.cells.c6 c.tm.cells.d6) <| .s (Le 2 3 b.sz) <| .s (La 1 4 2 1 b.sz) <| .s (J4 b.sz b.t9) <| .s (KH b.sz b.t2 c.tm.cells.c2 c.tm.cells.d2) <| .s (KH b.sz b.t1 c.tm.cells.c1 c.tm.cells.d1) <| .s (Le 7 8 b.sz) <| .s (La 6 9 14 0 b.sz) <| .s (UM 5 10 b.sz) <| .z)) (fun a j b f c=>?_) (AB rfl));refine CZ (LX [.fn (Nv g),.fn OB,.tm ⟨1,0⟩,.tm ⟨2,0⟩,.OA [⟨1,0⟩,⟨2,0⟩],.ac ⟨1,1,⟨1,0⟩,⟨2,0⟩⟩,.fn OB,.tm ⟨1,1⟩,.OA [⟨1,1⟩],.ac ⟨13,0,⟨1,1⟩,⟨0,0⟩⟩,.acb [⟨1,1,⟨1,0⟩,⟨2,0⟩⟩,⟨13,0,⟨1,1⟩,⟨0,0⟩⟩]] 11 0 10 (Pm.Lh[6]) (J3.take 6) (J3.take 7) b f c (M7 (.s (J4 b.sz b.t8) <| .s (J4 b.sz b.t9) <| .s (KH b.sz b.t1 c.tm.cells.c1 c.tm.cells.d1) <| .s (KH b.sz b.t6 c.tm.cells.c6 c.tm.cells.d6) <| .s (Le 2 3 b.sz) <| .s (La 1 4 1 1 b.sz) <| .s (J4 b.sz b.t9) <| .s (KH b.sz b.t2 c.tm.cells.c2 c.tm.cells.d2) <| .s (SK 7 b.sz) <| .s (La 6 8 13 0 b.sz) <| .s (UM 5 9 b.sz) <| .z)) (fun a j b f c=>?_) (AB rfl));refine CZ (LX [.fn (Nv g),.fn (Sc r),.fn OB,.tm ⟨1,1⟩,.tm ⟨2,0⟩,.OA [⟨1,1⟩,⟨2,0⟩],.ac ⟨1,1,⟨1,1⟩,⟨2,0⟩⟩,.fn OB,.tm ⟨1,1⟩,.tm ⟨1,0⟩,.OA [⟨1,1⟩,⟨1,0⟩],.ac ⟨14,0,⟨1,1⟩,⟨1,0⟩⟩,.acb [⟨1,1,⟨1,1⟩,⟨2,0⟩⟩,⟨14,0,⟨1,1⟩,⟨1,0⟩⟩],.YK [⟨2,2,⟨1,2⟩,⟨0,1⟩⟩,⟨13,1,⟨1,2⟩,⟨0,0⟩⟩,⟨1,1,⟨1,1⟩,⟨2,0⟩⟩,⟨14,0,⟨1,1⟩,⟨1,0⟩⟩]] 14 0 13 (Pm.Lh[7]) (J3.take 7) (J3.take 8) b f c (M7 (.s (J4 b.sz b.t8) <| .s (J4 b.sz f) <| .s (J4 b.sz b.t9) <| .s (KH b.sz b.t2 c.tm.cells.c2 c.tm.cells.d2) <| .s (KH b.sz b.t6 c.tm.cells.c6 c.tm.cells.d6) <| .s (Le 3 4 b.sz) <| .s (La 2 5 1 1 b.sz) <| .s (J4 b.sz b.t9) <| .s (KH b.sz b.t2 c.tm.cells.c2 c.tm.cells.d2) <| .s (KH b.sz b.t1 c.tm.cells.c1 c.tm.cells.d1) <| .s (Le 8 9 b.sz) <| .s (La 7 10 14 0 b.sz) <| .s (UM 6 11 b.sz) <| .s (by obtain⟨P,U,l,m, -⟩:=c.pp;exact QJ 1 12 b.sz l m) <| .z)) (fun a j b f c=>?_) (AO rfl));refine CZ (LX [.fn (Nv g),.fn OB,.tm ⟨1,2⟩,.tm ⟨1,0⟩,.OA [⟨1,2⟩,⟨1,0⟩],.ac ⟨14,0,⟨1,2⟩,⟨1,0⟩⟩,.fn OB,.tm ⟨1,2⟩,.tm ⟨0,1⟩,.OA [⟨1,2⟩,⟨0,1⟩],.ac ⟨1,2,⟨1,2⟩,⟨0,1⟩⟩,.acb [⟨14,0,⟨1,2⟩,⟨1,0⟩⟩,⟨1,2,⟨1,2⟩,⟨0,1⟩⟩]] 12 0 11 (Pm.Lh[8]) (J3.take 8) (J3.take 9) b f c (M7 (.s (J4 b.sz b.t8) <| .s (J4 b.sz b.t9) <| .s (KH b.sz b.t3 c.tm.cells.c3 c.tm.cells.d3) <| .s (KH b.sz b.t1 c.tm.cells.c1 c.tm.cells.d1) <| .s (Le 2 3 b.sz) <| .s (La 1 4 14 0 b.sz) <| .s (J4 b.sz b.t9) <| .s (KH b.sz b.t3 c.tm.cells.c3 c.tm.cells.d3) <| .s (SI 1 b.sz) <| .s (Le 7 8 b.sz) <| .s (La 6 9 1 2 b.sz) <| .s (UM 5 10 b.sz) <| .z)) (fun a j b f c=>?_) (AB rfl));refine CZ (LX [.fn (Nv g),.fn OB,.tm ⟨1,2⟩,.tm ⟨2,0⟩,.OA [⟨1,2⟩,⟨2,0⟩],.ac ⟨2,2,⟨1,2⟩,⟨2,0⟩⟩,.acb [⟨2,2,⟨1,2⟩,⟨2,0⟩⟩]] 7 0 6 (Pm.Lh[9]) (J3.take 9) (J3.take 10) b f c (M7 (.s (J4 b.sz b.t8) <| .s (J4 b.sz b.t9) <| .s (KH b.sz b.t3 c.tm.cells.c3 c.tm.cells.d3) <| .s (KH b.sz b.t6 c.tm.cells.c6 c.tm.cells.d6) <| .s (Le 2 3 b.sz) <| .s (La 1 4 2 2 b.sz) <| .s (Nc 5 b.sz) <| .z)) (fun a j b f c=>?_) (AB rfl));refine CZ (LX [.fn (Nv g),.fn (Sc r),.fn OB,.tm ⟨1,1⟩,.tm ⟨1,0⟩,.OA [⟨1,1⟩,⟨1,0⟩],.ac ⟨1,0,⟨1,1⟩,⟨1,0⟩⟩,.acb [⟨1,0,⟨1,1⟩,⟨1,0⟩⟩],.YK [⟨2,2,⟨1,2⟩,⟨0,1⟩⟩,⟨13,1,⟨1,2⟩,⟨0,0⟩⟩,⟨1,0,⟨1,1⟩,⟨1,0⟩⟩]] 9 0 8 (Pm.Lh[10]) (J3.take 10) (J3.take 11) b f c (M7 (.s (J4 b.sz b.t8) <| .s (J4 b.sz f) <| .s (J4 b.sz b.t9) <| .s (KH b.sz b.t2 c.tm.cells.c2 c.tm.cells.d2) <| .s (KH b.sz b.t1 c.tm.cells.c1 c.tm.cells.d1) <| .s (Le 3 4 b.sz) <| .s (La 2 5 1 0 b.sz) <| .s (Nc 6 b.sz) <| .s (by obtain⟨P,U,l,m, -⟩:=c.pp;exact QJ 1 7 b.sz l m) <| .z)) (fun a j b f c=>?_) (AO rfl));refine CZ (LX [.fn (Nv g),.fn (Sc r),.fn OB,.tm ⟨1,1⟩,.tm ⟨1,0⟩,.OA [⟨1,1⟩,⟨1,0⟩],.ac ⟨2,0,⟨1,1⟩,⟨1,0⟩⟩,.acb [⟨2,0,⟨1,1⟩,⟨1,0⟩⟩],.YK [⟨2,2,⟨1,2⟩,⟨0,1⟩⟩,⟨13,1,⟨1,2⟩,⟨0,0⟩⟩,⟨2,0,⟨1,1⟩,⟨1,0⟩⟩]] 9 0 8 (Pm.Lh[11]) (J3.take 11) (J3.take 12) b f c (M7 (.s (J4 b.sz b.t8) <| .s (J4 b.sz f) <| .s (J4 b.sz b.t9) <| .s (KH b.sz b.t2 c.tm.cells.c2 c.tm.cells.d2) <| .s (KH b.sz b.t1 c.tm.cells.c1 c.tm.cells.d1) <| .s (Le 3 4 b.sz) <| .s (La 2 5 2 0 b.sz) <| .s (Nc 6 b.sz) <| .s (by obtain⟨P,U,l,m, -⟩:=c.pp;exact QJ 1 7 b.sz l m) <| .z)) (fun a j b f c=>?_) (AO rfl));refine CZ (LX [.fn (Nv g),.fn (Sc r),.fn OB,.tm ⟨1,1⟩,.tm ⟨1,0⟩,.OA [⟨1,1⟩,⟨1,0⟩],.ac ⟨3,0,⟨1,1⟩,⟨1,0⟩⟩,.acb [⟨3,0,⟨1,1⟩,⟨1,0⟩⟩],.YK [⟨2,2,⟨1,2⟩,⟨0,1⟩⟩,⟨13,1,⟨1,2⟩,⟨0,0⟩⟩,⟨3,0,⟨1,1⟩,⟨1,0⟩⟩]] 9 0 8 (Pm.Lh[12]) (J3.take 12) (J3.take 13) b f c (M7 (.s (J4 b.sz b.t8) <| .s (J4 b.sz f) <| .s (J4 b.sz b.t9) <| .s (KH b.sz b.t2 c.tm.cells.c2 c.tm.cells.d2) <| .s (KH b.sz b.t1 c.tm.cells.c1 c.tm.cells.d1) <| .s (Le 3 4 b.sz) <| .s (La 2 5 3 0 b.sz) <| .s (Nc 6 b.sz) <| .s (by obtain⟨P,U,l,m, -⟩:=c.pp;exact QJ 1 7 b.sz l m) <| .z)) (fun a j b f c=>?_) (AO rfl));refine CZ (LX [.fn (Nv g),.fn (Sc r),.fn OB,.tm ⟨0,2⟩,.tm ⟨1,0⟩,.OA [⟨0,2⟩,⟨1,0⟩],.ac ⟨18,0,⟨0,2⟩,⟨1,0⟩⟩,.fn OB,.tm ⟨1,1⟩,.tm ⟨1,0⟩,.OA [⟨1,1⟩,⟨1,0⟩],.ac ⟨4,0,⟨1,1⟩,⟨1,0⟩⟩,.acb [⟨18,0,⟨0,2⟩,⟨1,0⟩⟩,⟨4,0,⟨1,1⟩,⟨1,0⟩⟩],.YK [⟨2,2,⟨1,2⟩,⟨0,1⟩⟩,⟨13,1,⟨1,2⟩,⟨0,0⟩⟩,⟨18,0,⟨0,2⟩,⟨1,0⟩⟩,⟨4,0,⟨1,1⟩,⟨1,0⟩⟩]] 14 0 13 (Pm.Lh[13]) (J3.take 13) (J3.take 14) b f c (M7 (.s (J4 b.sz b.t8) <| .s (J4 b.sz f) <| .s (J4 b.sz b.t9) <| .s (SI 2 b.sz) <| .s (KH b.sz b.t1 c.tm.cells.c1 c.tm.cells.d1) <| .s (Le 3 4 b.sz) <| .s (La 2 5 18 0 b.sz) <| .s (J4 b.sz b.t9) <| .s (KH b.sz b.t2 c.tm.cells.c2 c.tm.cells.d2) <| .s (KH b.sz b.t1 c.tm.cells.c1 c.tm.cells.d1) <| .s (Le 8 9 b.sz) <| .s (La 7 10 4 0 b.sz) <| .s (UM 6 11 b.sz) <| .s (by obtain⟨P,U,l,m, -⟩:=c.pp;exact QJ 1 12 b.sz l m) <| .z)) (fun a j b f c=>?_) (AO rfl));refine CZ (LX [.fn (Nv g),.fn (Sc r),.fn OB,.tm ⟨0,2⟩,.tm ⟨1,0⟩,.OA [⟨0,2⟩,⟨1,0⟩],.ac ⟨18,0,⟨0,2⟩,⟨1,0⟩⟩,.fn OB,.tm ⟨1,1⟩,.tm ⟨1,0⟩,.OA [⟨1,1⟩,⟨1,0⟩],.ac ⟨5,0,⟨1,1⟩,⟨1,0⟩⟩,.acb [⟨18,0,⟨0,2⟩,⟨1,0⟩⟩,⟨5,0,⟨1,1⟩,⟨1,0⟩⟩],.YK [⟨2,2,⟨1,2⟩,⟨0,1⟩⟩,⟨13,1,⟨1,2⟩,⟨0,0⟩⟩,⟨18,0,⟨0,2⟩,⟨1,0⟩⟩,⟨5,0,⟨1,1⟩,⟨1,0⟩⟩]] 14 0 13 (Pm.Lh[14]) (J3.take 14) (J3.take 15) b f c (M7 (.s (J4 b.sz b.t8) <| .s (J4 b.sz f) <| .s (J4 b.sz b.t9) <| .s (SI 2 b.sz) <| .s (KH b.sz b.t1 c.tm.cells.c1 c.tm.cells.d1) <| .s (Le 3 4 b.sz) <| .s (La 2 5 18 0 b.sz) <| .s (J4 b.sz b.t9) <| .s (KH b.sz b.t2 c.tm.cells.c2 c.tm.cells.d2) <| .s (KH b.sz b.t1 c.tm.cells.c1 c.tm.cells.d1) <| .s (Le 8 9 b.sz) <| .s (La 7 10 5 0 b.sz) <| .s (UM 6 11 b.sz) <| .s (by obtain⟨P,U,l,m, -⟩:=c.pp;exact QJ 1 12 b.sz l m) <| .z)) (fun a j b f c=>?_) (AO rfl));refine CZ (LX [.fn (Nv g),.fn (Sc r),.fn OB,.tm ⟨1,1⟩,.tm ⟨1,0⟩,.OA [⟨1,1⟩,⟨1,0⟩],.ac ⟨6,0,⟨1,1⟩,⟨1,0⟩⟩,.acb [⟨6,0,⟨1,1⟩,⟨1,0⟩⟩],.YK [⟨2,2,⟨1,2⟩,⟨0,1⟩⟩,⟨13,1,⟨1,2⟩,⟨0,0⟩⟩,⟨6,0,⟨1,1⟩,⟨1,0⟩⟩]] 9 0 8 (Pm.Lh[15]) (J3.take 15) (J3.take 16) b f c (M7 (.s (J4 b.sz b.t8) <| .s (J4 b.sz f) <| .s (J4 b.sz b.t9) <| .s (KH b.sz b.t2 c.tm.cells.c2 c.tm.cells.d2) <| .s (KH b.sz b.t1 c.tm.cells.c1 c.tm.cells.d1) <| .s (Le 3 4 b.sz) <| .s (La 2 5 6 0 b.sz) <| .s (Nc 6 b.sz) <| .s (by obtain⟨P,U,l,m, -⟩:=c.pp;exact QJ 1 7 b.sz l m) <| .z)) (fun a j b f c=>?_) (AO rfl));refine CZ (LX [.fn (Nv g),.fn (Sc r),.fn OB,.tm ⟨1,1⟩,.tm ⟨1,0⟩,.OA [⟨1,1⟩,⟨1,0⟩],.ac ⟨7,0,⟨1,1⟩,⟨1,0⟩⟩,.acb [⟨7,0,⟨1,1⟩,⟨1,0⟩⟩],.YK [⟨2,2,⟨1,2⟩,⟨0,1⟩⟩,⟨13,1,⟨1,2⟩,⟨0,0⟩⟩,⟨7,0,⟨1,1⟩,⟨1,0⟩⟩]] 9 0 8 (Pm.Lh[16]) (J3.take 16) (J3.take 17) b f c (M7 (.s (J4 b.sz b.t8) <| .s (J4 b.sz f) <| .s (J4 b.sz b.t9) <| .s (KH b.sz b.t2 c.tm.cells.c2 c.tm.cells.d2) <| .s (KH b.sz b.t1 c.tm.cells.c1 c.tm.cells.d1) <| .s (Le 3 4 b.sz) <| .s (La 2 5 7 0 b.sz) <| .s (Nc 6 b.sz) <| .s (by obtain⟨P,U,l,m, -⟩:=c.pp;exact QJ 1 7 b.sz l m) <| .z)) (fun a j b f c=>?_) (AO rfl));refine CZ (LX [.fn (Nv g),.fn (Sc r),.fn OB,.tm ⟨1,1⟩,.tm ⟨1,0⟩,.OA [⟨1,1⟩,⟨1,0⟩],.ac ⟨8,0,⟨1,1⟩,⟨1,0⟩⟩,.acb [⟨8,0,⟨1,1⟩,⟨1,0⟩⟩],.YK [⟨2,2,⟨1,2⟩,⟨0,1⟩⟩,⟨13,1,⟨1,2⟩,⟨0,0⟩⟩,⟨8,0,⟨1,1⟩,⟨1,0⟩⟩]] 9 0 8 (Pm.Lh[17]) (J3.take 17) (J3.take 18) b f c (M7 (.s (J4 b.sz b.t8) <| .s (J4 b.sz f) <| .s (J4 b.sz b.t9) <| .s (KH b.sz b.t2 c.tm.cells.c2 c.tm.cells.d2) <| .s (KH b.sz b.t1 c.tm.cells.c1 c.tm.cells.d1) <| .s (Le 3 4 b.sz) <| .s (La 2 5 8 0 b.sz) <| .s (Nc 6 b.sz) <| .s (by obtain⟨P,U,l,m, -⟩:=c.pp;exact QJ 1 7 b.sz l m) <| .z)) (fun a j b f c=>?_) (AO rfl));refine CZ (LX [.fn (Nv g),.fn (Sc r),.fn OB,.tm ⟨1,1⟩,.tm ⟨1,0⟩,.OA [⟨1,1⟩,⟨1,0⟩],.ac ⟨9,0,⟨1,1⟩,⟨1,0⟩⟩,.acb [⟨9,0,⟨1,1⟩,⟨1,0⟩⟩],.YK [⟨2,2,⟨1,2⟩,⟨0,1⟩⟩,⟨13,1,⟨1,2⟩,⟨0,0⟩⟩,⟨9,0,⟨1,1⟩,⟨1,0⟩⟩]] 9 0 8 (Pm.Lh[18]) (J3.take 18) (J3.take 19) b f c (M7 (.s (J4 b.sz b.t8) <| .s (J4 b.sz f) <| .s (J4 b.sz b.t9) <| .s (KH b.sz b.t2 c.tm.cells.c2 c.tm.cells.d2) <| .s (KH b.sz b.t1 c.tm.cells.c1 c.tm.cells.d1) <| .s (Le 3 4 b.sz) <| .s (La 2 5 9 0 b.sz) <| .s (Nc 6 b.sz) <| .s (by obtain⟨P,U,l,m, -⟩:=c.pp;exact QJ 1 7 b.sz l m) <| .z)) (fun a j b f c=>?_) (AO rfl));refine CZ (LX [.fn (Nv g),.fn (Sc r),.fn OB,.tm ⟨1,1⟩,.tm ⟨1,0⟩,.OA [⟨1,1⟩,⟨1,0⟩],.ac ⟨10,0,⟨1,1⟩,⟨1,0⟩⟩,.acb [⟨10,0,⟨1,1⟩,⟨1,0⟩⟩],.YK [⟨2,2,⟨1,2⟩,⟨0,1⟩⟩,⟨13,1,⟨1,2⟩,⟨0,0⟩⟩,⟨10,0,⟨1,1⟩,⟨1,0⟩⟩]] 9 0 8 (Pm.Lh[19]) (J3.take 19) (J3.take 20) b f c (M7 (.s (J4 b.sz b.t8) <| .s (J4 b.sz f) <| .s (J4 b.sz b.t9) <| .s (KH b.sz b.t2 c.tm.cells.c2 c.tm.cells.d2) <| .s (KH b.sz b.t1 c.tm.cells.c1 c.tm.cells.d1) <| .s (Le 3 4 b.sz) <| .s (La 2 5 10 0 b.sz) <| .s (Nc 6 b.sz) <| .s (by obtain⟨P,U,l,m, -⟩:=c.pp;exact QJ 1 7 b.sz l m) <| .z)) (fun a j b f c=>?_) (AO rfl));refine CZ (LX [.fn (Nv g),.fn (Sc r),.fn OB,.tm ⟨1,1⟩,.tm ⟨1,0⟩,.OA [⟨1,1⟩,⟨1,0⟩],.ac ⟨11,0,⟨1,1⟩,⟨1,0⟩⟩,.acb [⟨11,0,⟨1,1⟩,⟨1,0⟩⟩],.YK [⟨2,2,⟨1,2⟩,⟨0,1⟩⟩,⟨13,1,⟨1,2⟩,⟨0,0⟩⟩,⟨11,0,⟨1,1⟩,⟨1,0⟩⟩]] 9 0 8 (Pm.Lh[20]) (J3.take 20) (J3.take 21) b f c (M7 (.s (J4 b.sz b.t8) <| .s (J4 b.sz f) <| .s (J4 b.sz b.t9) <| .s (KH b.sz b.t2 c.tm.cells.c2 c.tm.cells.d2) <| .s (KH b.sz b.t1 c.tm.cells.c1 c.tm.cells.d1) <| .s (Le 3 4 b.sz) <| .s (La 2 5 11 0 b.sz) <| .s (Nc 6 b.sz) <| .s (by obtain⟨P,U,l,m, -⟩:=c.pp;exact QJ 1 7 b.sz l m) <| .z)) (fun a j b f c=>?_) (AO rfl));refine CZ (LX [.fn (Nv g),.fn (Sc r),.fn OB,.tm ⟨1,1⟩,.tm ⟨1,0⟩,.OA [⟨1,1⟩,⟨1,0⟩],.ac ⟨12,0,⟨1,1⟩,⟨1,0⟩⟩,.acb [⟨12,0,⟨1,1⟩,⟨1,0⟩⟩],.YK [⟨2,2,⟨1,2⟩,⟨0,1⟩⟩,⟨13,1,⟨1,2⟩,⟨0,0⟩⟩,⟨12,0,⟨1,1⟩,⟨1,0⟩⟩]] 9 0 8 (Pm.Lh[21]) (J3.take 21) (J3.take 22) b f c (M7 (.s (J4 b.sz b.t8) <| .s (J4 b.sz f) <| .s (J4 b.sz b.t9) <| .s (KH b.sz b.t2 c.tm.cells.c2 c.tm.cells.d2) <| .s (KH b.sz b.t1 c.tm.cells.c1 c.tm.cells.d1) <| .s (Le 3 4 b.sz) <| .s (La 2 5 12 0 b.sz) <| .s (Nc 6 b.sz) <| .s (by obtain⟨P,U,l,m, -⟩:=c.pp;exact QJ 1 7 b.sz l m) <| .z)) (fun a j b f c=>?_) (AO rfl));refine CZ (LX [.fn (Nv g),.fn (Sc r),.fn OB,.tm ⟨1,0⟩,.tm ⟨1,1⟩,.OA [⟨1,0⟩,⟨1,1⟩],.ac ⟨12,0,⟨1,0⟩,⟨1,1⟩⟩,.acb [⟨12,0,⟨1,0⟩,⟨1,1⟩⟩],.YK [⟨2,2,⟨1,2⟩,⟨0,1⟩⟩,⟨13,1,⟨1,2⟩,⟨0,0⟩⟩,⟨12,0,⟨1,0⟩,⟨1,1⟩⟩]] 9 0 8 (Pm.Lh[22]) (J3.take 22) (J3.take 23) b f c (M7 (.s (J4 b.sz b.t8) <| .s (J4 b.sz f) <| .s (J4 b.sz b.t9) <| .s (KH b.sz b.t1 c.tm.cells.c1 c.tm.cells.d1) <| .s (KH b.sz b.t2 c.tm.cells.c2 c.tm.cells.d2) <| .s (Le 3 4 b.sz) <| .s (La 2 5 12 0 b.sz) <| .s (Nc 6 b.sz) <| .s (by obtain⟨P,U,l,m, -⟩:=c.pp;exact QJ 1 7 b.sz l m) <| .z)) (fun a j b f c=>?_) (AO rfl));refine CZ (LX [.fn (Nv g),.fn OB,.tm ⟨1,0⟩,.tm ⟨0,0⟩,.OA [⟨1,0⟩,⟨0,0⟩],.ac ⟨11,0,⟨1,0⟩,⟨0,0⟩⟩,.acb [⟨11,0,⟨1,0⟩,⟨0,0⟩⟩]] 7 0 6 (Pm.Lh[23]) (J3.take 23) (J3.take 24) b f c (M7 (.s (J4 b.sz b.t8) <| .s (J4 b.sz b.t9) <| .s (KH b.sz b.t1 c.tm.cells.c1 c.tm.cells.d1) <| .s (SI 0 b.sz) <| .s (Le 2 3 b.sz) <| .s (La 1 4 11 0 b.sz) <| .s (Nc 5 b.sz) <| .z)) (fun a j b f c=>?_) (AB rfl));refine CZ (LX [.fn (Nv g),.fn OB,.tm ⟨1,0⟩,.tm ⟨2,0⟩,.OA [⟨1,0⟩,⟨2,0⟩],.ac ⟨12,1,⟨1,0⟩,⟨2,0⟩⟩,.fn OB,.tm ⟨0,1⟩,.tm ⟨1,1⟩,.OA [⟨0,1⟩,⟨1,1⟩],.ac ⟨18,0,⟨0,1⟩,⟨1,1⟩⟩,.acb [⟨12,1,⟨1,0⟩,⟨2,0⟩⟩,⟨18,0,⟨0,1⟩,⟨1,1⟩⟩]] 12 0 11 (Pm.Lh[24]) (J3.take 24) (J3.take 25) b f c (M7 (.s (J4 b.sz b.t8) <| .s (J4 b.sz b.t9) <| .s (KH b.sz b.t1 c.tm.cells.c1 c.tm.cells.d1) <| .s (KH b.sz b.t6 c.tm.cells.c6 c.tm.cells.d6) <| .s (Le 2 3 b.sz) <| .s (La 1 4 12 1 b.sz) <| .s (J4 b.sz b.t9) <| .s (SI 1 b.sz) <| .s (KH b.sz b.t2 c.tm.cells.c2 c.tm.cells.d2) <| .s (Le 7 8 b.sz) <| .s (La 6 9 18 0 b.sz) <| .s (UM 5 10 b.sz) <| .z)) (fun a j b f c=>?_) (AB rfl));refine CZ (LX [.fn (Nv g),.fn OB,.tm ⟨2,0⟩,.OA [⟨2,0⟩],.ac ⟨0,4,⟨2,0⟩,⟨0,0⟩⟩,.acb [⟨0,4,⟨2,0⟩,⟨0,0⟩⟩]] 6 0 5 (Pm.Lh[25]) (J3.take 25) (J3.take 26) b f c (M7 (.s (J4 b.sz b.t8) <| .s (J4 b.sz b.t9) <| .s (KH b.sz b.t6 c.tm.cells.c6 c.tm.cells.d6) <| .s (SK 2 b.sz) <| .s (La 1 3 0 4 b.sz) <| .s (Nc 4 b.sz) <| .z)) (fun a j b f c=>?_) (AB rfl));refine CZ (LX [.fn (Nv g),.fn OB,.tm ⟨2,0⟩,.tm ⟨1,0⟩,.OA [⟨2,0⟩,⟨1,0⟩],.ac ⟨19,4,⟨2,0⟩,⟨1,0⟩⟩,.acb [⟨19,4,⟨2,0⟩,⟨1,0⟩⟩]] 7 0 6 (Pm.Lh[26]) (J3.take 26) (J3.take 27) b f c (M7 (.s (J4 b.sz b.t8) <| .s (J4 b.sz b.t9) <| .s (KH b.sz b.t6 c.tm.cells.c6 c.tm.cells.d6) <| .s (KH b.sz b.t1 c.tm.cells.c1 c.tm.cells.d1) <| .s (Le 2 3 b.sz) <| .s (La 1 4 19 4 b.sz) <| .s (Nc 5 b.sz) <| .z)) (fun a j b f c=>?_) (AB rfl));refine CZ (LX [.fn (Nv g),.fn OB,.tm ⟨1,3⟩,.tm ⟨0,1⟩,.OA [⟨1,3⟩,⟨0,1⟩],.ac ⟨1,3,⟨1,3⟩,⟨0,1⟩⟩,.fn OB,.tm ⟨1,3⟩,.tm ⟨0,101⟩,.OA [⟨1,3⟩,⟨0,101⟩],.ac ⟨12,1,⟨1,3⟩,⟨0,101⟩⟩,.fn OB,.tm ⟨0,3⟩,.tm ⟨1,1⟩,.OA [⟨0,3⟩,⟨1,1⟩],.ac ⟨18,0,⟨0,3⟩,⟨1,1⟩⟩,.fn OB,.tm ⟨1,2⟩,.tm ⟨1,4⟩,.OA [⟨1,2⟩,⟨1,4⟩],.ac ⟨14,0,⟨1,2⟩,⟨1,4⟩⟩,.fn OB,.tm ⟨1,2⟩,.tm ⟨0,1⟩,.OA [⟨1,2⟩,⟨0,1⟩],.ac ⟨1,2,⟨1,2⟩,⟨0,1⟩⟩,.fn OB,.tm ⟨2,0⟩,.OA [⟨2,0⟩],.ac ⟨0,4,⟨2,0⟩,⟨0,0⟩⟩,.acb [⟨1,3,⟨1,3⟩,⟨0,1⟩⟩,⟨12,1,⟨1,3⟩,⟨0,101⟩⟩,⟨18,0,⟨0,3⟩,⟨1,1⟩⟩,⟨14,0,⟨1,2⟩,⟨1,4⟩⟩,⟨1,2,⟨1,2⟩,⟨0,1⟩⟩,⟨0,4,⟨2,0⟩,⟨0,0⟩⟩]] 31 0 30 (Pm.Lh[27]) (J3.take 27) (J3.take 28) b f c (M7 (.s (J4 b.sz b.t8) <| .s (J4 b.sz b.t9) <| .s (KH b.sz b.t4 c.tm.cells.c4 c.tm.cells.d4) <| .s (SI 1 b.sz) <| .s (Le 2 3 b.sz) <| .s (La 1 4 1 3 b.sz) <| .s (J4 b.sz b.t9) <| .s (KH b.sz b.t4 c.tm.cells.c4 c.tm.cells.d4) <| .s (SI 101 b.sz) <| .s (Le 7 8 b.sz) <| .s (La 6 9 12 1 b.sz) <| .s (J4 b.sz b.t9) <| .s (SI 3 b.sz) <| .s (KH b.sz b.t2 c.tm.cells.c2 c.tm.cells.d2) <| .s (Le 12 13 b.sz) <| .s (La 11 14 18 0 b.sz) <| .s (J4 b.sz b.t9) <| .s (KH b.sz b.t3 c.tm.cells.c3 c.tm.cells.d3) <| .s (KH b.sz b.t5 c.tm.cells.c5 c.tm.cells.d5) <| .s (Le 17 18 b.sz) <| .s (La 16 19 14 0 b.sz) <| .s (J4 b.sz b.t9) <| .s (KH b.sz b.t3 c.tm.cells.c3 c.tm.cells.d3) <| .s (SI 1 b.sz) <| .s (Le 22 23 b.sz) <| .s (La 21 24 1 2 b.sz) <| .s (J4 b.sz b.t9) <| .s (KH b.sz b.t6 c.tm.cells.c6 c.tm.cells.d6) <| .s (SK 27 b.sz) <| .s (La 26 28 0 4 b.sz) <| .s (yJ1 5 10 15 20 25 29 b.sz) <| .z)) (fun a j b f c=>?_) (AB rfl));refine CZ (LX [.fn (Nv g),.fn OB,.tm ⟨1,2⟩,.tm ⟨2,0⟩,.OA [⟨1,2⟩,⟨2,0⟩],.ac ⟨2,2,⟨1,2⟩,⟨2,0⟩⟩,.fn OB,.tm ⟨1,2⟩,.OA [⟨1,2⟩],.ac ⟨13,4,⟨1,2⟩,⟨0,0⟩⟩,.fn OB,.tm ⟨1,3⟩,.tm ⟨0,1⟩,.OA [⟨1,3⟩,⟨0,1⟩],.ac ⟨2,3,⟨1,3⟩,⟨0,1⟩⟩,.acb [⟨2,2,⟨1,2⟩,⟨2,0⟩⟩,⟨13,4,⟨1,2⟩,⟨0,0⟩⟩,⟨2,3,⟨1,3⟩,⟨0,1⟩⟩]] 16 0 15 (Pm.Lh[28]) (J3.take 28) (J3.take 29) b f c (M7 (.s (J4 b.sz b.t8) <| .s (J4 b.sz b.t9) <| .s (KH b.sz b.t3 c.tm.cells.c3 c.tm.cells.d3) <| .s (KH b.sz b.t6 c.tm.cells.c6 c.tm.cells.d6) <| .s (Le 2 3 b.sz) <| .s (La 1 4 2 2 b.sz) <| .s (J4 b.sz b.t9) <| .s (KH b.sz b.t3 c.tm.cells.c3 c.tm.cells.d3) <| .s (SK 7 b.sz) <| .s (La 6 8 13 4 b.sz) <| .s (J4 b.sz b.t9) <| .s (KH b.sz b.t4 c.tm.cells.c4 c.tm.cells.d4) <| .s (SI 1 b.sz) <| .s (Le 11 12 b.sz) <| .s (La 10 13 2 3 b.sz) <| .s (yJ0 5 9 14 b.sz) <| .z)) (fun a j b f c=>?_) (AB rfl));refine CZ (LX [.fn (Nv g),.fn OB,.ac ⟨15,0,⟨0,0⟩,⟨0,0⟩⟩,.acb [⟨15,0,⟨0,0⟩,⟨0,0⟩⟩]] 4 0 3 (Pm.Lh[29]) (J3.take 29) (J3.take 30) b f c (M7 (.s (J4 b.sz b.t8) <| .s (J4 b.sz b.t9) <| .s (yJ2 1 15 0 b.sz) <| .s (Nc 2 b.sz) <| .z)) (fun a j b f c=>?_) (AB rfl));refine CZ (LX [.fn (Nv g),.fn OB,.tm ⟨1,0⟩,.OA [⟨1,0⟩],.ac ⟨16,0,⟨1,0⟩,⟨0,0⟩⟩,.acb [⟨16,0,⟨1,0⟩,⟨0,0⟩⟩]] 6 0 5 (Pm.Lh[30]) (J3.take 30) (J3.take 31) b f c (M7 (.s (J4 b.sz b.t8) <| .s (J4 b.sz b.t9) <| .s (KH b.sz b.t1 c.tm.cells.c1 c.tm.cells.d1) <| .s (SK 2 b.sz) <| .s (La 1 3 16 0 b.sz) <| .s (Nc 4 b.sz) <| .z)) (fun a j b f c=>?_) (AB rfl));refine CZ (LX [.fn (Nv g),.fn OB,.tm ⟨2,0⟩,.OA [⟨2,0⟩],.ac ⟨0,2,⟨2,0⟩,⟨0,0⟩⟩,.acb [⟨0,2,⟨2,0⟩,⟨0,0⟩⟩]] 6 0 5 (Pm.Lh[31]) (J3.take 31) (J3.take 32) b f c (M7 (.s (J4 b.sz b.t8) <| .s (J4 b.sz b.t9) <| .s (KH b.sz b.t6 c.tm.cells.c6 c.tm.cells.d6) <| .s (SK 2 b.sz) <| .s (La 1 3 0 2 b.sz) <| .s (Nc 4 b.sz) <| .z)) (fun a j b f c=>?_) (AB rfl));have t:=b.sz;have x4:=D c;have y8:=D b;have xv:=b.t0;have y9:=b.t7;obtain⟨-,v,W,X⟩:=c.tb;obtain⟨x5,x6,rfl⟩:=JB X.sl;rw [show(J3.take 32).length=32 from rfl]at W X;have ya:=D X;have yb:=D (JK.ext ((Gl y5).trans c.up) (fun k yc q=>by rcases q with q|q<;>omega));have yd:AA (x<N.heap.size):=D (Nat.lt_trans c.tm.lt.1 xp);have yl:=JA W 0;have ym:=JA W 1;obtain⟨yn,yo,yp,yq,ye⟩:=QI (i:=0) c.tm.h0 rfl rfl (V Ad 65536) (J x5 32 x6);clear c1 hs ht hu L M hv hw hx hy hz x0 l m b c X W f;have yr:∀ B,a.tmps[7]'B=Ae (some ⟨g,0,none⟩):=fun B=>by have:=y9;rw [Bc B]at this;exact DJ this
 have ys:∀ B,a.tmps[0]'B=Ae (some ⟨x,0,none⟩):=fun B=>by have:=xv;rw [Bc B]at this;exact DJ this
 refine CZ (wp_region_list ?_);simp only [Dh];go_simp;refine AO (AO (wp_ret ?_));refine B1 (FZ results14 _ _ x 47 #[V Ad 65536,J x5 32 x6] (0,0) _ (by simp [xv]) ye underlying47 rfl (by kernel_rfl)) y8.df ⟨_,rfl,?_,?_⟩
 ·have yf:=RowK.upd (G:=fun k=>k=x) ya (JK.setCell (G:=fun k=>k=x) (p:=⟨x,1,none⟩) (JK.setCell (G:=fun k=>k=x) (p:=⟨x,0,none⟩) (JK.refl j) (AB rfl) (V Ad 65536)) (AB rfl) (J x5 32 x6)) (fun k yc q=>by subst q;have:=yd.out;omega);exact yf.sl.mono (fun k q=>⟨AL (Ev y6) q.1,q.2⟩)
 ·exact(yb.setCell (p:=⟨x,0,none⟩) xe _).setCell (p:=⟨x,1,none⟩) xe _
def bn (n:Nat)(src:Bs):Option (List Nat):=if A6 src.length 12000 then match WK n src with
 |none=>none
 |some p=>if WM p&&jG p&& !(QH p).isEmpty&&A6 (QB p) 49152 then Vp (OY p)else none
 else none
theorem zE1 {n:Nat}{src:Bs}{L:List Nat}(a:bn n src=some L):src.length≤12000∧∃ p,WK n src=some p∧WM p=true∧jG p=true∧QH p≠[]∧QB p≤49152∧Vp (OY p)=some L:=by
 unfold bn at a;split at a
 ·rename_i h1;split at a
  ·cases a
  ·rename_i p c;split at a
   ·rename_i b;simp only [Ah,Dl,List.isEmpty_eq_false_iff]at b;exact⟨Ai h1,p,c,b.1.1.1,b.1.1.2,b.1.2,Ai b.2,a⟩
   ·cases a
 ·cases a
theorem lY:∀ (l:List Pg.Fn)(n m:Nat),QA l n=some m→∀ f∈l,Rz f=true∧∃ n m,K5 f.body 1 n=some m
 |[],_,_,_,f,a=>by cases a
 |x::l,n,m,b,f,a=>by
  obtain⟨q,h1,c,d⟩:=gH b;rcases AH.1 a with rfl|a
  ·exact⟨h1,n,q,c⟩
  ·exact lY l q m d f a
theorem yJ4 {p:JQ}(d:WM p=true)(b:jG p=true)(o:QH p≠[]):iX p∧OJ p=true∧∀ f∈p.JY,ND p f f.body 0=true:=by
 unfold WM jO at d;unfold jG at b;simp only [Ah,A7,Nat.ble_eq,Option.isSome_iff_exists]at d b;obtain⟨⟨⟨⟨⟨⟨⟨h1,q⟩,r⟩,h⟩,⟨m,j⟩⟩,s⟩,t⟩,u⟩:=d;have g:∀ x∈p.globals,x.init.length≤1000:=fun x c=>by
  obtain⟨i,g,e⟩:=List.getElem_of_mem c;have w:=kJ (l:=p.globals) (i:=i) (x:=x) (by rw [Al g,e]);have y:=kK p.globals (i+1);have z:Tg p.globals 0≤1000:=h;omega
 refine⟨⟨h1,q,⟨r,fun x c=>⟨?_,g x c,fun n v=>?_⟩,fun f k=>?_,by omega,o⟩,h,⟨m,j⟩,s⟩,t,u⟩
 ·simpa [Dm]using(b.1 x c).1
 ·simpa [Dm]using(b.1 x c).2 n v
 ·have:=lY p.JY 0 m j f k;exact⟨this.1,b.2 f k,this.2⟩
theorem zE2 (p:JQ)(L:List Nat)(m:Int)(U:Nat→Prop)(G F:h)(w:Y)(j:Ju KG U w p.globals G)(l:Ju KF U w p.JY F)(n:P8 w m)(r:∀ k,U k→k<w.heap.size)(s:iX p)(t:OJ p=true)(hc:∀ f∈p.JY,ND p f f.body 0=true)(u:QB p≤49152)(o:Vp (OY p)=some L):
 As prog 19 #[AN #[G,F]] w (Ww w L):=by
 have O:=(lT o).1;obtain⟨P,Q,rfl⟩:=JB j;obtain⟨R,S,rfl⟩:=JB l;refine(zq2 _ _ (str (OY p)) L w (fun W x=>yH5 p U _ _ W (j.ext x) (l.ext x) (n.ext x).tab (fun k i=>Ar (r k i) x.size) s t hc u (by omega)) (fun W x=>?_) ⟨_,_,_,_,_,_,rfl,rfl⟩)
 ·refine(lX W).mono ?_
  rintro e w' ⟨v,rfl,a,q⟩;obtain⟨A,c,rfl⟩:=JB a;rw [show J3.length=32 from rfl]at a ⊢;refine⟨A,c,rfl,q,fun y d=>?_⟩;refine(xK A c (str (OY p)) L y fun z g=>?_);refine(xP _ _ (OY p) L z m (((n.ext x).ext q).ext (d.trans g)) ((a.ext d).ext g) (fun k i=>Ar i.2 (d.trans g).size) o fun B C=>ed _ _ B (((a.ext d).ext g).ext C)).mono ?_
  rintro e T ⟨b,D,E,H,I,K,rfl,h1,M,X,N⟩;exact⟨b,D,E,H,I,K,rfl,h1,M,N⟩
def bz (w:Y)(a:ByteArray)(v:h):Prop:=∃ b,v=ER (.func 44) #[] #[Ae (some ⟨b,0,none⟩)]∧w.heap[b]?= some (Ab #[Aa a] 9 (0,0))
theorem zr3 (a:ByteArray)(w:Y):As prog 43 #[Aa a] w fun e w'=>∃ v S,S=a∧e=Ak v∧bz w' S v∧Ext w w':=by
 have d:∀ (fn:Fn) (first cap:Array h) (w:Y),(Hh fn first cap).run prog w=Ez (ER fn first cap) w:=fun _ _ _ _=>rfl
 have b:=D (Aj w (Ab #[Aa a] 9));have c:=D ((Ext.refl w).alloc (Ab #[Aa a] 9));go_enter func43,ntmps43;go_wp2;go_ret;exact⟨_,a,rfl,rfl,⟨_,rfl,b.out⟩,c.out⟩
theorem zE3 (a:ByteArray)(w:Y)(b:Nat)(c:w.heap[b]?= some (Ab #[Aa a] 9 (0,0))):As prog 44 #[Ae (some ⟨b,0,none⟩)] w fun e w'=>e=Ak (Aa a)∧w'=w:=by
 have d:=JA c 0;clear c;go_enter func44,ntmps44;go_wp2;go_ret;exact⟨rfl,rfl⟩
section
variable {w W W2:Y}{gB:Nat}
def qM:List (ByteArray×h)→ByteArray→Option h
 |[],_=>none
 |p::l,z=>if z=p.1 then some p.2 else qM l z
abbrev Sr:=ByteArray×h×Option ByteArray
def srV (L:List Sr):List (ByteArray×h):=L.map fun p=>(p.1,p.2.1)
structure cB (w W:Y) (gB:Nat) (L:List Sr):Prop where
 x:Ext w W
 m:MapAt KQ W gB (qM (srV L))
 f:∀ p∈L,∀T,p.2.2=some T→bz W T p.2.1
theorem bz.keep {a:ByteArray}{v:h}(c:bz W a v)(d:∀ (b:Nat)(cs:Array h)(t:AK)(f:Nat×Nat),W.heap[b]?= some (Ab cs t f)→W2.heap[b]?= some (Ab cs t f)):bz W2 a v:=by
 obtain⟨b,h1,e⟩:=c;exact⟨b,h1,d _ _ _ _ e⟩
theorem bz.ext {a:ByteArray}{v:h}(b:bz W a v)(x:Ext W W2):bz W2 a v:=b.keep fun _ _ _ _ q=>CE x q
theorem cB.ext {L:List Sr}(a:cB w W gB L)(x:Ext W W2):cB w W2 gB L:=
 ⟨a.x.trans x,MapAt.keep KQ a.m (x.block gB (MapAt.lt KQ a.m)),fun p b c d=>(a.f p b c d).ext x⟩
theorem cB.put {L:List Sr}(d:cB w W gB L)(n:w.heap.size≤gB){i:ByteArray}{v:h}{o:Option ByteArray}(r:∀ a,o=some a→bz W a v)(m:Ur KQ W W2 gB (qM (srV L)) i v):cB w W2 gB ((i,v,o)::L):=by
 have j:∀ (b:Nat) (cs:Array h) (t:AK) (f:Nat×Nat),W.heap[b]?= some (Ab cs t f)→W2.heap[b]?= some (Ab cs t f):=fun b cs t f q=>by
  have s:b≠gB:=fun e=>by
   obtain⟨u,c,h1, -⟩:=d.m;rw [←e,q]at h1;cases h1
  rw [m.grown.block b (Ag.1 q).1 (fun e=>s (DJ e)),q]
 refine⟨Hu d.x m.grown d.x.size (fun k e=>by cases e;first|done|exact n),m.at_,fun p g a l=>?_⟩;rcases AH.1 g with rfl|g
 ·exact(r a l).keep j
 ·exact(d.f p g a l).keep j
end
theorem mtF:MT KQ 103 9 80 .nilFunc where
 t:=underlying103
 k:=A8
 z:=fun w=>by kernel_rfl
theorem WG {w W:Y}{gB:Nat}{L:List Sr}{ops:Array B5}{rest:List B5}{o:B5}{a:CY}{Q:EY→CY→Y→Prop}(e:o.guard=none)(m x u:CC)(f:o.op=.insert 103 m x u)(c:AA (cB w W gB L))(g:AA (w.heap.size≤gB))
 (i:a.eval m=Bj (some gB)) {b:ByteArray} (j:a.eval x=Aa b) {v:h} (k:a.eval u=v) (t:Option ByteArray) (l:∀ d,t=some d→bz W d v) (n:∀ W2,AA (cB w W2 gB ((b,v,t)::L))→Dh prog ops Q rest (a.put o.dst Ca) W2):Dh prog ops Q (o::rest) a W:=by
 refine Em e fun K p=>?_
 obtain⟨W2,q,r⟩:=TU mtF c.out.m b v;have s:(Fk 103 (Bj (some gB)) (Aa b) v).run prog W=Ez () W2:=q;unfold Cb;simp [CS,f,i,j,k,s,BM];exact p _ _ (n W2 (D (c.out.put g.out l r)))
def lZ:List Sr→ByteArray→Option ByteArray
 |[],_=>none
 |p::l,z=>if z=p.1 then p.2.2 else lZ l z
theorem xW {W:Y}:∀ {L:List Sr}{z a:ByteArray},(∀p∈L,∀a,p.2.2=some a→bz W a p.2.1)→lZ L z=some a→∃ v,qM (srV L) z=some v∧bz W a v
 |[],_,_,_,b=>by cases b
 |p::l,z,a,d,b=>by
  unfold lZ at b;show ∃v,qM ((p.1,p.2.1)::srV l) z=some v∧bz W a v
  unfold qM;by_cases c:z=p.1
  ·rw [if_pos c]at b;rw [if_pos (show z=(p.1,p.2.1).1 from c)];exact⟨_,rfl,d p (Bb ..) a b⟩
  ·rw [if_neg c]at b;rw [if_neg (show ¬z=(p.1,p.2.1).1 from c)];exact xW (fun q e=>d q (DE _ e)) b
noncomputable def OI (i:Nat):ByteArray:=match f29.body with
 |some (.seq _ (.seq _ (.seq (FU _ ops _) _)))=>match ops[i]? with
  |some o=>match o.op with
   |Gy c=>match(c.args[0]? :Option CC)with
    |some (FV (Aa s))=>s
    |_=>⟨#[]⟩
   |_=>⟨#[]⟩
  |none=>⟨#[]⟩
 |_=>⟨#[]⟩
noncomputable def Lh (z:ByteArray):Option ByteArray:=
 if z=⟨#[116,97,112,101]⟩then some (OI 19)else if z=⟨#[97,99,99]⟩then some (OI 16)else if z=⟨#[115,116,97,99,107]⟩then some (OI 13)else if z=⟨#[117,110,115,113,117,101,101,122,101]⟩then some (OI 10)else if z=⟨#[99,111,114,114,101,99,116]⟩then some (OI 7)else if z=⟨#[115,104,97,114,101,115]⟩then some (OI 4)else none
theorem zW7 {b c d e f g:ByteArray}{i j k l m n o p:h}(name:ByteArray)(h1:b=OI 19)(q:c=OI 16)(r:d=OI 13)(s:e=OI 10)(t:f=OI 7)(u:g=OI 4):
 lZ [(⟨#[116,97,112,101]⟩,i,some b),(⟨#[97,99,99]⟩,j,some c),(⟨#[115,116,97,99,107]⟩,k,some d),(⟨#[117,110,115,113,117,101,101,122,101]⟩,l,some e),(⟨#[99,111,114,114,101,99,116]⟩,m,some f),(⟨#[115,104,97,114,101,115]⟩,n,some g),(⟨#[100,105,103,101,115,116]⟩,o,none),(⟨#[97,115,109]⟩,p,none)] name=Lh name:=by
 rw [h1,q,r,s,t,u];unfold Lh;simp only [lZ,ite_self]
theorem zW8 (name:ByteArray)(d:ByteArray)(w:Y)(g:Lh name=some d):As prog 29 #[Aa name] w fun e w'=>∃ v,e=Ak (AZ #[v,AE true])∧bz w' d v∧Ext w w':=by
 have z:∀ (fn:Fn) (first cap:Array h) (w:Y),(Hh fn first cap).run prog w=Ez (ER fn first cap) w:=fun _ _ _ _=>rfl
 have A:= @DF prog;have i:=D g;have j:AA (w.heap.size≤w.heap.size):=D (Aw _);have a:AA (cB w (w.alloc (Eu #[] 0)) w.heap.size []):=D ⟨(Ext.refl w).alloc _,Ti (K:=KQ) w,fun _ t=>by cases t⟩;have b:AA (1=1):=D rfl;clear g;go_enter func29,ntmps29;go_upto_region 2 with fail;go_upto_region 3 with(first|(go_at_call 43;refine(zr3 _ _).mono ?_;rintro e B ⟨v,S,k,rfl,l,n⟩;have o:=D l;have p:=D (a.ext n);have q:=D (Ct k b);clear a l n k b;have a:=p;have b:=q;clear p q)|(refine WG rfl _ _ _ rfl a j rfl rfl (by first|rfl|(simp;rfl)) (some _) (fun _ e=>by cases e;exact o) ?_;clear a o;intro W2 a)|(refine WG rfl _ _ _ rfl a j rfl rfl (by first|rfl|(simp;rfl)) none (fun _ e=>by cases e) ?_;clear a;intro W2 a)|(obtain⟨r,q2,q3,q4,q5,q6, -⟩:=b;obtain⟨v,c,s⟩:=xW a.f ((zW7 name (r.trans (show _=OI 19 by kernel_rfl)) (q2.trans (show _=OI 16 by kernel_rfl)) (q3.trans (show _=OI 13 by kernel_rfl)) (q4.trans (show _=OI 10 by kernel_rfl)) (q5.trans (show _=OI 7 by kernel_rfl)) (q6.trans (show _=OI 4 by kernel_rfl))).trans i);refine O8 mtF rfl _ _ rfl w.heap.size _ a.m rfl name rfl v true (by rw [c];rfl) (by rw [c];rfl) ?_;clear r q2 q3 q4 q5 q6 c;have u:=D s;clear s));have y:=D a.x;clear a i;go_wp2_with fail
 go_ret2
 exact⟨_,rfl,u,y⟩
theorem zW9 (name a:ByteArray)(w:Y)(g:Lh name=some a):As prog 17 #[Aa name] w fun e w'=>e=Ak (AZ #[Aa a,AN NU])∧Ext w w':=by
 have l:=D (fun W=>zW8 name a W g);obtain⟨r,h,m,i⟩:=alw w (Ab NU 26);have c:AA (w.heap.size≤w.heap.size):=D (Aw _);clear g;go_enter func17,ntmps17;go_upto_region 1 with fail
 try rw [h]
 clear h;obtain⟨d,j⟩:=JH w.heap.size;have c:AA (w.heap.size≤d):=D (by omega);rw [←j]at i ⊢;clear j;go_wp2_with (first|(go_at_call 29;refine(l _).mono ?_;rintro e s ⟨v,rfl,⟨b,rfl,k⟩,f⟩;have n:=D k;have o:=D (m.trans f);obtain⟨t,u,z1,f1,q⟩:=RG (CE f i) (V Ad 0) (V Ad 0);clear k f)|(go_at_call 44;refine(zE3 _ _ _ n).mono ?_;rintro e x ⟨rfl,rfl⟩));refine Rx results17 Bd Pk q ?_
 exact⟨rfl,(o.setCell (p:=⟨d,0,none⟩) c _).setCell (p:=⟨d,1,none⟩) c _⟩
theorem zr4 (name B:ByteArray)(p:JQ)(L:List Nat)(w:Y)(T:Lh name=some B)
 (m:∀ W,Ext w W→As prog 18 #[Aa B] W (zo W p))
 (X:∀ W U G F,Ext w W→Ju KG U W p.globals G→Ju KF U W p.JY F→(∀k,U k→k<W.heap.size)→As prog 19 #[AN #[G,F]] W (Ww W L)):
 As prog 11 #[Aa name] w (Ww w L):=by
 have hh:=D (fun W=>zW9 name B W T);have Z:=D m;have C:=D X;obtain⟨hu,h0,hi,h1⟩:=alw w (Ab NU 26);unfold zo at Z;unfold Ww at C ⊢;obtain⟨n,h2⟩:=JH L.length;rw [←h2]at C ⊢;clear T m X h2;go_enter func11,ntmps11;go_upto_region 1 with fail
 try rw [h0]
 clear h0;obtain⟨d,r⟩:=JH w.heap.size;have E:AA (w.heap.size≤d):=D (by omega);rw [←r]at h1 ⊢;clear r;go_upto_region 4 with(go_at_call 17;refine(hh _).mono ?_;rintro e s ⟨rfl,H⟩;have h3:=D (hi.trans H);have I:=D (CE H h1);clear H);have t:=D (h3.alloc (Ab NU 26));have K:=D (MX (q:=Ab NU 26) I);have l:=D (Aj s (Ab NU 26));have h4:AA (d<s.heap.size):=D (Ag.1 I).1;generalize s.alloc (Ab NU 26)=W1 at t K l ⊢;obtain⟨a,u⟩:=JH s.heap.size;rw [←u]at l h4 ⊢;clear u h3 I;go_upto_region 5 with(go_at_call 18;refine(Z _ t).mono ?_;rintro e b ⟨G,F,rfl,M,N,v⟩;obtain⟨f,h,rfl⟩:=JB M;obtain⟨i,j,rfl⟩:=JB N;have h5:=D (t.trans v);have h6:=D (CE v K);have O:=D (CE v l);have h7:=D M;have h8:=D N;obtain⟨h9,ha,z1,f1,x⟩:=RG (MX (q:=Ab #[J f p.globals.length h,J i p.JY.length j] 56) O) (V Ad 0) (V Ad 0);clear v M N);have r:=E.out;have u:=h4.out;have hj:a<b.heap.size:=(Ag.1 O).1;have o:JK (fun k=>k=a) b (((b.alloc (Ab #[J f p.globals.length h,J i p.JY.length j] 56)).setCell ⟨a,0,none⟩ (V Ad 0)).setCell ⟨a,1,none⟩ (V Ad 0)):=((Gl (G:=fun k=>k=a) ((Ext.refl b).alloc _)).setCell (p:=⟨a,0,none⟩) (AB rfl) _).setCell (p:=⟨a,1,none⟩) (AB rfl) _;have y:=D (((h5.alloc (Ab #[J f p.globals.length h,J i p.JY.length j] 56)).setCell (p:=⟨a,0,none⟩) (by show _≤a;omega) (V Ad 0)).setCell (p:=⟨a,1,none⟩) (by show _≤a;omega) (V Ad 0));have Q:=D (o.heap h6 (fun c=>by have hb:d=a:=c;omega));have R:AA ((((b.alloc (Ab #[J f p.globals.length h,J i p.JY.length j] 56)).setCell ⟨a,0,none⟩ (V Ad 0)).setCell ⟨a,1,none⟩ (V Ad 0)).heap[b.heap.size]?= some (Ab #[J f p.globals.length h,J i p.JY.length j] 56 (0,0))):=D (by
  rw [AY _ _ _ _ (show b.heap.size≠a by omega),AY _ _ _ _ (show b.heap.size≠a by omega)]
  exact Aj b _)
 have hc:=D (h7.upd o (fun k q c=>by have hb:k=a:=c;have:=q.1;have:=(Ag.1 l).1;omega) (fun _ q=>q));have hd:=D (h8.upd o (fun k q c=>by have hb:k=a:=c;have:=q.1;have:=(Ag.1 l).1;omega) (fun _ q=>q));have he:AA (∀k,(W1.heap.size≤k∧k<b.heap.size)→k<(((b.alloc (Ab #[J f p.globals.length h,J i p.JY.length j] 56)).setCell ⟨a,0,none⟩ (V Ad 0)).setCell ⟨a,1,none⟩ (V Ad 0)).heap.size):=D (fun k q=>Ar q.2 o.size);have S:=x;clear o h9 ha z1 f1 x h7 h8 O h6 h5 l K t;generalize((b.alloc (Ab #[J f p.globals.length h,J i p.JY.length j] 56)).setCell ⟨a,0,none⟩ (V Ad 0)).setCell ⟨a,1,none⟩ (V Ad 0)=W4 at y Q R hc hd he S ⊢;obtain⟨P,m⟩:=JH b.heap.size;rw [←m]at R ⊢;clear m r u hj;have hv:=JA S 0;have hw:=JA S 1;have hk:=D (C W4 _ _ _ y hc hd he);go_wp2_with (first|(refine LH rfl Cw rfl R Sy ?_)|(go_at_call 19;refine hk.mono ?_;rintro e hl ⟨A,c,rfl,z,hf⟩;have hm:=D (y.trans z);have hg:=D hf;have hn:=D (CE z Q);have hx:=D z;obtain⟨h9,ha,z1,f1,x⟩:=RG hn (V Ad 0) (V Ad 0);clear z hf));refine Rx results11 Bd Pk x ?_
 refine⟨A,c,rfl,(hm.setCell (p:=⟨d,0,none⟩) E _).setCell (p:=⟨d,1,none⟩) E _,?_⟩;have ho:=y.size;have hp:=KX (w':=(hl.setCell ⟨d,0,none⟩ (V Ad 0)).setCell ⟨d,1,none⟩ (V Ad 0)) hg (fun k q=>by
  have:=(Kc hg q).1
  have:=(Ag.1 Q).1
  rw [AY _ _ _ _ (show k≠d by omega),AY _ _ _ _ (show k≠d by omega)])
 obtain⟨hq,hr⟩:=hp;exact⟨hq,hr.imp id (fun⟨g,cap,cur,e,hs,ht⟩=>⟨g,cap,cur,e,AL ho hs,ht⟩)⟩
def KB:Kind Nat where
 size:=1
 pos:=by omega
 rep:=fun _ _ n cs=>cs=[V BJ n]
 len:=by intro U w x cs b;subst b;rfl
 one:=by intro U w x cs b u c;subst b;simp only [AH,Ba,or_false]at c;subst c;rfl
 upd:=fun b _ _ _=>b
def YL (j:Nat):Nat:=if j=0∨32<j then 0 else j
structure MC (cb cc mp:Nat) (I O IS:h) (cs:Array h) (s:TS):Prop where
 n:cs.size=269
 c0:cs[(0:Nat)]?= some (J (some ⟨cb,0,none⟩) 65536 cc)
 r:∀ i,i<5→cs[1+i]?= some (V Af (s.r i))
 c6:cs[(6:Nat)]?= some I
 c7:cs[(7:Nat)]?= some O
 c8:cs[(8:Nat)]?= some (V Ad s.stop)
 c9:cs[(9:Nat)]?= some (V Af s.code)
 c10:cs[(10:Nat)]?= some IS
 sm:∀ j,j<256→cs[11+j]?= some (V Ad (YL j))
 gV:cs[(267:Nat)]?= some (Bj (some mp))
 cK:cs[(268:Nat)]?= some (V Af s.operand)
def Mw (I:h):Prop:=∀ b o q n c,I=J (some ⟨b,o,q⟩) n c→q=none
structure MR (mb cb cc base mp:Nat) (IS I O:h) (w:Y) (s:TS):Prop where
 hm:∃ cs,w.heap[mb]?= some (Ab cs 100)∧MC cb cc mp I O IS cs s
 hc:∃ ms,w.heap[cb]?= some (Ab ms 24)∧∀ i,i<65536→ms[i]?= some (V Af (s.mem i))
 inp:Ju KB (fun k=>k<base∧k≠mb∧k≠cb) w s.inp I
 out:RowK KB 5 base w s.out O
 ins:Ju KI (fun k=>k<base∧k≠mb∧k≠cb) w J3 IS
 map:MapAt (UA Af) w mp (fun _=>none)
 lt:mb<base∧cb<base∧mp<base∧mb≠cb∧mp≠mb∧mp≠cb
 sz:base≤w.heap.size
 xX:Mw I
section
variable {mb cb cc base mp:Nat}{IS I O:h}{w w':Y}{s:TS}
theorem MR.ext (a:MR mb cb cc base mp IS I O w s)(x:Ext w w'):MR mb cb cc base mp IS I O w' s:=by
 obtain⟨cs,h1,b⟩:=a.hm;obtain⟨c,d,e⟩:=a.hc;exact⟨⟨cs,CE x h1,b⟩,⟨c,CE x d,e⟩,a.inp.ext x,a.out.upd (Gl (G:=fun _=>False) x) (fun _ _ q=>q),a.ins.ext x,MapAt.keep (UA Af) a.map (x.block mp (Ar a.lt.2.2.1 a.sz)),a.lt,AL a.sz x.size,a.xX⟩
theorem MR.put (a:MR mb cb cc base mp IS I O w s)(i:Nat)(v:h){c d:h}{b:TS}(hc:∀ cs,MC cb cc mp I O IS cs s→MC cb cc mp c d IS (cs.setIfInBounds i v) b)(f:Ju KB (fun k=>k<base∧k≠mb∧k≠cb) w b.inp c)(g:RowK KB 5 base w b.out d)(j:b.mem=s.mem)(l:Mw c):
 MR mb cb cc base mp IS c d (w.setCell ⟨mb,i,none⟩ v) b:=by
 obtain⟨cs,h1,m⟩:=a.hm;obtain⟨n,o,r⟩:=a.hc;have u:JK (fun k=>k=mb) w (w.setCell ⟨mb,i,none⟩ v):=JK.setCell (G:=fun k=>k=mb) (p:=⟨mb,i,none⟩) (JK.refl w) (AB rfl) v;obtain⟨y,z,A,t,x,B⟩:=a.lt;refine⟨⟨_,JJ h1 i v,hc cs m⟩,⟨n,u.heap o (fun q=>t q.symm),by rw [j];exact r⟩,f.upd u (fun k q e=>q.2.1 e) (fun _ q=>q),g.upd u (fun k q e=>by omega),a.ins.upd u (fun k q e=>q.2.1 e) (fun _ q=>q),MapAt.keep (UA Af) a.map ?_,a.lt,AL a.sz u.size,l⟩;exact u.block mp (by have:=a.sz;omega) x
theorem MC.set {cs:Array h}{i:Nat}{v:h}{j:Nat}(a:cs.size=269)(b:i<269):(cs.setIfInBounds i v)[j]?= if i=j then some v else cs[j]? :=by
 rw [BE];split
 ·rw [if_pos (by omega)]
 ·rfl
theorem MR.reg (a:MR mb cb cc base mp IS I O w s){t:Nat}(f:t<5)(n:Nat):MR mb cb cc base mp IS I O (w.setCell ⟨mb,1+t,none⟩ (V Af n)) (MF s t n):=by
 refine a.put _ _ (fun cs c=>⟨by simp [c.n],?_,fun i b=>?_,?_,?_,?_,?_,?_,fun j d=>?_,?_,?_⟩) a.inp a.out rfl a.xX
 all_goals rw [MC.set c.n (by omega)]
 ·rw [if_neg (by omega)];exact c.c0
 ·show _=some (V Af ((upd s.r t n i:Nat):Int))
  unfold upd;by_cases e:i=t
  ·subst e;simp
  ·rw [if_neg (by omega),if_neg e];exact c.r i b
 ·rw [if_neg (by omega)];exact c.c6
 ·rw [if_neg (by omega)];exact c.c7
 ·rw [if_neg (by omega)];exact c.c8
 ·rw [if_neg (by omega)];exact c.c9
 ·rw [if_neg (by omega)];exact c.c10
 ·rw [if_neg (by omega)];exact c.sm j d
 ·rw [if_neg (by omega)];exact c.gV
 ·rw [if_neg (by omega)];exact c.cK
theorem MR.other (f:MR mb cb cc base mp IS I O w s)(i:Nat)(z:i=6∨i=7∨i=8∨i=9∨i=268)(v:h){b d:h}{a:TS}(g:(if i=6 then v else I)=b)(l:(if i=7 then v else O)=d)(m:(if i=8 then v else V Ad s.stop)=V Ad a.stop)(o:(if i=9 then v else V Af s.code)=V Af a.code)(p:(if i=268 then v else V Af s.operand)=V Af a.operand)(q:a.r=s.r)(t:a.mem=s.mem)
 (u:Ju KB (fun k=>k<base∧k≠mb∧k≠cb) w a.inp b) (x:RowK KB 5 base w a.out d) (y:Mw b):MR mb cb cc base mp IS b d (w.setCell ⟨mb,i,none⟩ v) a:=by
 subst g l;refine f.put _ _ (fun cs c=>⟨by simp [c.n],?_,fun j e=>?_,?_,?_,?_,?_,?_,fun j e=>?_,?_,?_⟩) u x t y
 all_goals rw [MC.set c.n (by omega)]
 ·rw [if_neg (by omega)];exact c.c0
 ·rw [if_neg (by omega),q];exact c.r j e
 ·split
  ·rfl
  ·exact c.c6
 ·split
  ·rfl
  ·exact c.c7
 ·rw [←m];split
  ·rfl
  ·exact c.c8
 ·rw [←o];split
  ·rfl
  ·exact c.c9
 ·rw [if_neg (by omega)];exact c.c10
 ·rw [if_neg (by omega)];exact c.sm j e
 ·rw [if_neg (by omega)];exact c.gV
 ·rw [←p];split
  ·rfl
  ·exact c.cK
theorem MR.mem (a:MR mb cb cc base mp IS I O w s){x:Nat}(d:x<65536)(n:Nat):MR mb cb cc base mp IS I O (w.setCell ⟨cb,x,none⟩ (V Af n)) {s with mem:=upd s.mem x n}:=by
 obtain⟨cs,h1,b⟩:=a.hm;obtain⟨m,f,c⟩:=a.hc;have u:JK (fun k=>k=cb) w (w.setCell ⟨cb,x,none⟩ (V Af n)):=JK.setCell (G:=fun k=>k=cb) (p:=⟨cb,x,none⟩) (JK.refl w) (AB rfl) _;obtain⟨o,t,v,g,y,h⟩:=a.lt;have j:=(Ag.1 (c x d)).1;refine⟨⟨cs,u.heap h1 g,⟨b.n,b.c0,b.r,b.c6,b.c7,b.c8,b.c9,b.c10,b.sm,b.gV,b.cK⟩⟩,⟨_,JJ f x _,fun i l=>?_⟩,a.inp.upd u (fun k q e=>q.2.2 e) (fun _ q=>q),a.out.upd u (fun k q e=>by omega),a.ins.upd u (fun k q e=>q.2.2 e) (fun _ q=>q),MapAt.keep (UA Af) a.map (u.block mp (by have:=a.sz;omega) h),a.lt,AL a.sz u.size,a.xX⟩;rw [BE];show _=some (V Af ((upd s.mem x n i:Nat):Int))
 unfold upd;by_cases e:x=i
 ·subst e;simp [j]
 ·rw [if_neg e,if_neg (fun q=>e q.symm)];exact c i l
end
theorem qN {mb cb cc base mp:Nat}{IS I O:h}{w:Y}{s:TS}(a:MR mb cb cc base mp IS I O w s)(n:Nat)(c:n<4294967296):As prog 69 #[Ae (some ⟨mb,0,none⟩),V Af n] w fun e w'=>e=Ak (AE (decide (n<65536)))∧Ext w w':=by
 obtain⟨cs,h1,b⟩:=a.hm;have c0:w.cell? ⟨mb,0,none⟩=some (J (some ⟨cb,0,none⟩) 65536 cc):=(JA h1 0).trans b.c0;have d:Jc.wrap (n:Int)=n:=by rw [IntKind.wrap_u64];omega
 clear a h1 b;go_enter func69,ntmps69;go_wp2;go_ret;refine⟨?_,Ext.refl _⟩;simp;constructor<;>intro a<;>omega
theorem yj9 (b:Bool)(w:Y):As prog 153 #[AE b] w fun e w'=>e=Ak (V Af (if b then 1 else 0))∧Ext w w':=by
 cases b
 all_goals
  go_enter func153,ntmps153;go_wp2;go_ret;exact⟨rfl,Ext.refl _⟩
theorem MR.sQ {a b c base d:Nat}{e f g:h}{w:Y}{s:TS}(j:MR a b c base d e f g w s){i:Nat}(k:i<5):w.cell? ⟨a,1+i,none⟩=some (V Af (s.r i)):=by
 obtain⟨cs,h1,l⟩:=j.hm;exact(JA h1 (1+i)).trans (l.r i k)
theorem zr6 {l p q base r:Nat}{t u x:h}{w:Y}{s:TS}(m:MR l p q base r t u x w s)(k v:Nat)(d:k≤2)(n:k=1→v<5):As prog 114 #[Ae (some ⟨l,0,none⟩),AN #[V Ad k,V Af v]] w fun e w'=>e=Ak (V Af (Lx s ⟨k,v⟩))∧Ext w w':=by
 obtain⟨K,b⟩:=JH (k:Int);rw [←b];have c:=D ((Ext.refl w).alloc (Ab #[V Ad K,V Af v] 68));have f:=D (Aj w (Ab #[V Ad K,V Af v] 68));have g:=m.ext c;obtain⟨cs,h1,o⟩:=g.hm;have E:=(JA h1 268).trans o.cK;have y:=D (fun i z=>g.sQ (i:=i) z);have F:=bk f 0;have A:=bk f 1;clear m g h1 o f;obtain rfl|rfl|rfl:k=0∨k=1∨k=2:=by omega
 ·obtain rfl:K=0:=by omega
  clear b d;go_enter func114,ntmps114;go_wp2;go_ret;exact⟨rfl,c⟩
 ·obtain rfl:K=1:=by omega
  clear b d;have B:=n rfl;have C:=y v B;have G:(v:Int)<5:=by omega
  clear n;go_enter func114,ntmps114;go_upto_region 3 with fail;generalize H:w.alloc (Ab #[V Ad 1,V Af v] 68)=W2 at*
  refine JX.go (fun X=>Ext W2 X) [] (Ext.drew (Ext.refl _)) (fun a=>?_)
  iterate 2 refine JC a ?_
  refine JP a (fun w j=>Ext.cell j A) ?_
  iterate 4 refine JC a ?_
  refine JP a (fun w j=>Ext.cell j C) ?_
  refine JC a ?_
  refine JV ?_
  try simp only [Au,pA,pB,pC]
  go_wp2;go_ret;exact⟨rfl,c.drew⟩
 ·obtain rfl:K=2:=by omega
  clear b d;go_enter func114,ntmps114;go_wp2;go_ret;exact⟨rfl,c⟩
theorem zr7 {x a:Nat}:((x:Int)+a) %4294967296=((NZ 1 x a:Nat):Int):=by
 show _=(((x+a) %4294967296:Nat):Int)
 omega
theorem zr8 {x a:Nat}(hy:a<4294967296):((x:Int) - a) %4294967296=((NZ 2 x a:Nat):Int):=by
 rw [Pm.sI];omega
theorem zr9 {x a:Nat}:((x:Int)*a) %4294967296=((NZ 3 x a:Nat):Int):=by
 show _=(((x*a) %4294967296:Nat):Int)
 rw [Ip,Int.natCast_mul];rfl
theorem zs1 {x a:Nat}:(x:Int)*2 ^min a 32 %4294967296=((NZ 9 x a:Nat):Int):=by
 show _=(((if a<32 then x*2 ^a %4294967296 else 0:Nat)):Int)
 split
 ·rename_i b;rw [CJ (by omega),Ip,Int.natCast_mul,Int.natCast_pow];rfl
 ·rename_i b;rw [Nat.min_eq_right (by omega),show(2:Int) ^32=4294967296 from by decide];exact Int.mul_emod_left _ _
theorem zs2 {x a:Nat}(c:x<4294967296):(x:Int) /2 ^min a 32=((NZ 10 x a:Nat):Int):=by
 show _=(((if a<32 then x /2 ^a else 0:Nat)):Int)
 split
 ·rename_i b;rw [CJ (by omega),Int.natCast_ediv,Int.natCast_pow];rfl
 ·rename_i b;rw [Nat.min_eq_right (by omega),show(2:Int) ^32=4294967296 from by decide];omega
theorem zs3 {x a:Nat}(b:x<4294967296)(hy:a<4294967296):bits .and Af (x:Int) a=((NZ 6 x a:Nat):Int):=u32_and_nat x a b hy
theorem yJ6 {x a:Nat}(b:x<4294967296)(hy:a<4294967296):bits .or Af (x:Int) a=((NZ 7 x a:Nat):Int):=u32_or_nat x a b hy
theorem zs4 {x a:Nat}(b:x<4294967296)(hy:a<4294967296):bits .xor Af (x:Int) a=((NZ 8 x a:Nat):Int):=u32_xor_nat x a b hy
theorem zE4 (k x a:Nat)(w:Y)(c:k=1∨k=2∨k=3∨k=6∨k=7∨k=8∨k=9∨k=10∨k=11∨k=12)(b:x<4294967296)(hy:a<4294967296):As prog 116 #[V Ad k,V Af x,V Af a] w fun e w'=>e=Ak (V Af (NZ k x a))∧Ext w w':=by
 have d:=D yj9;rcases c with rfl|rfl|rfl|rfl|rfl|rfl|rfl|rfl|rfl|rfl
 all_goals
  go_enter func116,ntmps116;go_wp2_with (go_at_call 153;refine(d _ _).mono ?_;rintro e h ⟨rfl,f⟩)
  all_goals
   go_ret;refine⟨?_,by first|exact Ext.refl _|exact f⟩
 ·exact congrArg (fun z=>Ak (V Af z)) zr7
 ·exact congrArg (fun z=>Ak (V Af z)) (zr8 hy)
 ·exact congrArg (fun z=>Ak (V Af z)) zr9
 ·exact congrArg (fun z=>Ak (V Af z)) (zs3 b hy)
 ·exact congrArg (fun z=>Ak (V Af z)) (yJ6 b hy)
 ·exact congrArg (fun z=>Ak (V Af z)) (zs4 b hy)
 ·exact congrArg (fun z=>Ak (V Af z)) zs1
 ·exact congrArg (fun z=>Ak (V Af z)) (zs2 b)
 ·rename_i g;show Ak (V Af 1)=Ak (V Af ((if x=a then 1 else 0:Nat):Int))
  rw [if_pos (by omega)];rfl
 ·rename_i g;show Ak (V Af 0)=Ak (V Af ((if x=a then 1 else 0:Nat):Int))
  rw [if_neg (by omega)];rfl
 ·show Ak (V Af 1)=Ak (V Af ((if x<a then 1 else 0:Nat):Int))
  rw [if_pos (by omega)];rfl
 ·show Ak (V Af 0)=Ak (V Af ((if x<a then 1 else 0:Nat):Int))
  rw [if_neg (by omega)];rfl
theorem mtN:MT (UA Af) 98 24 3 (V Ad 0) where
 t:=underlying98
 k:=Ch
 z:=fun w=>by simp [BI]
theorem xY {code:Nat}(c:code<256):(YL code=0∧Mm code=none)∨(YL code=code∧1≤code∧code≤32∧∃ x,Mm code=some x∧J3[code - 1]?= some (x,code)):=by
 unfold YL Mm;by_cases a:code=0
 ·exact AO ⟨by simp [a],by rw [if_pos a]⟩
 ·rw [if_neg a];by_cases h1:32<code
  ·refine AO ⟨by simp [h1],?_⟩;rw [C5];show 32≤code - 1
   omega
  ·refine AB ⟨by rw [if_neg (by omega)],by omega,by omega,?_⟩;have b:code - 1<Pm.Lh.length:=by show code - 1<32;omega
   refine⟨Pm.Lh[code - 1],Al b,?_⟩;unfold J3;rw [Gp,Al b];simp;omega
def yk0 (a c base:Nat)(w:Y)(code:Nat)(e:BX):Prop:=(Mm code=none∧e=Ak (AZ #[Ae none,AE false]))∨∃ x b o v,Mm code=some x∧e=Ak (AZ #[Ae (some ⟨b,o,none⟩),AE true])∧(b<base∧b≠a∧b≠c)∧w.cell? ⟨b,o+2,none⟩=some (AE x.operand)∧w.cell? ⟨b,o+3,none⟩=some v∧Ju KA (fun k=>k<base∧k≠a∧k≠c) w x.acts v
theorem yJ7 {a f r base j:Nat}{t u y:h}{w:Y}{s:TS}(c:MR a f r base j t u y w s)(code:Nat)(hc:code<4294967296):
 As prog 70 #[Ae (some ⟨a,0,none⟩),V Af code] w fun e w'=>yk0 a f base w code e∧Ext w w':=by
 obtain⟨cs,h1,d⟩:=c.hm;have z:=D c.map;have k:=D c.ins;have I:=(JA h1 267).trans d.gV;have K:=(JA h1 10).trans d.c10;have A:=D d.sm;have B:=D h1;clear c h1 d;by_cases l:code<256
 ·have xs:w.cell? ⟨a,11+code,none⟩=some (V Ad (YL code)):=(JA B (11+code)).trans (A code l);rcases xY l with⟨g,i⟩|⟨g,m,L,x,C,E⟩
  ·rw [g]at xs;have n:(code:Int)<256:=by omega
   go_enter func70,ntmps70;go_wp2
   go_ret2
   exact⟨AO ⟨i,rfl⟩,Ext.refl _⟩
  ·rw [g]at xs;obtain⟨b,o,M,N,p, -,⟨v,rfl,F⟩,q⟩:=k.elem E;rw [show J3.length=32 from rfl]at p;subst p;have G:AA (b<base∧b≠a∧b≠f):=D (by obtain⟨_,_,_,e,_,_,_,H,_⟩:=k;injection e with m;subst m;exact H.low _ rfl);have n:(code:Int)<256:=by omega
   have O:¬ (code:Int)=0:=by omega
   have P:(code:Int) - 1=((code - 1:Nat):Int):=by omega
   have Q:((code - 1:Nat):Int)<32:=by omega
   go_enter func70,ntmps70;go_wp2
   go_ret2
   refine⟨AB ⟨x,b,o+(code - 1)*4,v,C,rfl,G,q 2 _ rfl,q 3 _ rfl,F⟩,Ext.refl _⟩
 ·have i:Mm code=none:=by
   unfold Mm;rw [if_neg (by omega),C5];show 32≤code - 1
   omega
  have n:¬ (code:Int)<256:=by omega
  go_enter func70,ntmps70;go_wp2_with (refine Qq mtN rfl _ _ rfl j _ z rfl (code:Int) rfl (V Ad 0) rfl ?_)
  go_ret2
  exact⟨AO ⟨i,rfl⟩,Ext.refl _⟩
end Go.Proofs.YtmkomefmgcpnbaaGreatDoor

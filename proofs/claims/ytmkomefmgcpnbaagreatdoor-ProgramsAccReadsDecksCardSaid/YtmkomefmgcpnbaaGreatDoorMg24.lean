import Derived.Test.YtmkomefmgcpnbaaGreatDoorMg23
set_option linter.all false
set_option maxHeartbeats 12800000
set_option maxRecDepth 100000
namespace Go.Proofs.YtmkomefmgcpnbaaGreatDoor
open Tryz Go Go.Proofs Go.RowKit
open Pg (Bs)
open Pm (Tm Ac In TS upd Lx MF NZ MK Ls Mm stepT UK Re UB VM)
open _root_.Bool renaming and_eq_true→Ah,not_eq_true'→Dl,or_eq_true→DZ
open Go renaming Addr→Bi,Calls→As,Ending→BX,Value→h,World→Y,bodyPost_end→GM,bodyPost_ret→B1,heap_alloc2_new→Ay,heap_alloc2_old→AP,maxLen→Bk,results_none→Dr,setRow_heap→Bo
open Go.Act renaming put→Au
open Go.Ending renaming returned→Ak
open Go.IntKind renaming i64→Ad,u32→Af,u8→BJ
open Go.Lib renaming hid→D
open Go.Obj renaming cells→Ab
open Go.Proofs.Tryz renaming underlying23→B8,isAgg23→E2,isAgg4→Cm,sizeOf23→ED,sizeOf4→Cc,sizeOf5→Da,underlying4→By,underlying62→Cx,zeroValue23→DT,zeroValue4→BH
open Go.RowKit renaming Hid→AA
open Go.Value renaming bool→AE,int→V,pointer→Ae,slice→J,tuple→AZ,agg→AN
open _root_.Int renaming natCast_emod→Ip
open _root_.List renaming getElem?_eq_some_iff→Ao,length_cons→Am,mem_cons→AH,not_mem_nil→Ba,all_eq_true→A7,drop_eq_getElem_cons→AR,drop_length→Cu,getElem?_eq_getElem→Al,mem_of_getElem?→AD,mem_map→D4
open _root_.Nat renaming div_le_self→I3,le_of_ble_eq_true→Ai,le_trans→AL,le_succ→CA,zero_add→BF
open _root_.Or renaming inl→AO,inr→AB
open Go.Proofs renaming intOf→AX
open Go.Proofs.SlLaysE0 renaming n41→ID
open Go.Shelf renaming Ren→B6
theorem MR.Sd {a b c base d:Nat}{e f g:h}{w:Y}{s:TS}(j:MR a b c base d e f g w s)(i:Nat):w.frozen? ⟨a,i,none⟩=false:=by
 obtain⟨cs,h1,k⟩:=j.hm;exact JF h1 i
abbrev MU (b c base:Nat)(w w':Y):Prop:=JK (fun k=>k=b∨k=c∨base≤k) w w'
theorem yk1 {a i j base l:Nat}{m o q:h}{w:Y}{s:TS}(d:MR a i j base l m o q w s)(f q2 g r t n:Nat)(u:t<5)(h1:w.heap[f]?= some (Ab #[Ae (some ⟨a,0,none⟩)] 95))(v:w.heap[q2]?= some (Ab #[Ae (some ⟨g,r,none⟩)] 153))(y:w.cell? ⟨g,r+1,none⟩=some (V Ad t))(z:f≠a)(A:q2≠a)(B:g≠a):
 As prog 115 #[V Af n,Ae (some ⟨f,0,none⟩),Ae (some ⟨q2,0,none⟩)] w fun e w'=>e=Ak (AZ #[])∧MR a i j base l m o q w' (MF s t n)∧JK (fun k=>k=a) w w':=by
 have C:=JA h1 0;have E:=JA v 0;have G:=d.sQ u;have f1:=d.Sd (1+t);have F:=D d;have H:(t:Int)<5:=by omega
 clear d h1 v;go_enter func115,ntmps115;go_upto_region 0 with fail;refine JX.go (fun X=>JK (fun k=>k=a) w X) [] (JK.drew (JK.refl _)) (fun b=>?_);refine JP b (fun w c=>JK.cell c C z) ?_
 refine JP b (fun w c=>JK.cell c E A) ?_
 iterate 2 refine JC b ?_
 refine JP b (fun w c=>JK.cell c y B) ?_
 iterate 5 refine JC b ?_
 refine JM (fun K x=>?_);go_simp;refine x _ _ (JK.setCell (p:=⟨a,1+t,none⟩) b (AB rfl) _) (fun b=>?_);clear x;refine JV ?_
 go_end0;exact⟨rfl,(F.reg u n).ext (Ext.drew (Ext.refl _)),b⟩
theorem yk2 {z:Int}{n f:Nat}{p q:h}{w:Y}{R:BX→Y→Prop}(a:z=n)(b:As prog f #[V Af n,p,q] w R):As prog f #[V Af z,p,q] w R:=by rw [a];exact b
theorem fC {a b c base d:Nat}{f g i:h}{w:Y}{s:TS}(j:MR a b c base d f g i w s){n:Nat}(k:n<65536):As prog 69 #[Ae (some ⟨a,0,none⟩),V Af n] w fun e w'=>e=Ak (AE true)∧Ext w w':=by
 have:=qN j n (by omega)
 rwa [decide_eq_true k]at this
theorem fD {a b c base d:Nat}{f g i:h}{w:Y}{s:TS}(j:MR a b c base d f g i w s){n:Nat}(k:¬ n<65536)(l:n<4294967296):As prog 69 #[Ae (some ⟨a,0,none⟩),V Af n] w fun e w'=>e=Ak (AE false)∧Ext w w':=by
 have:=qN j n l
 rwa [decide_eq_false k]at this
theorem MR.cell0 {a b c base d:Nat}{e f g:h}{w:Y}{s:TS}(i:MR a b c base d e f g w s):w.cell? ⟨a,0,none⟩=some (J (some ⟨b,0,none⟩) 65536 c):=by
 obtain⟨cs,j,k⟩:=i.hm;exact(JA j 0).trans k.c0
theorem MR.sU {c a d base e:Nat}{f g i:h}{w:Y}{s:TS}(j:MR c a d base e f g i w s){x:Nat}(k:x<65536):w.cell? ⟨a,x,none⟩=some (V Af (s.mem x))∧w.frozen? ⟨a,x,none⟩=false:=by
 obtain⟨m,b,l⟩:=j.hc;exact⟨(JA b x).trans (l x k),JF b x⟩
theorem MR.zs5 {a c d base e:Nat}{f b g:h}{w:Y}{s:TS}(i:MR a c d base e f b g w s):w.cell? ⟨a,6,none⟩=some b:=by
 obtain⟨cs,j,k⟩:=i.hm;exact(JA j 6).trans k.c6
theorem MR.yk3 {a c d base e:Nat}{f g b:h}{w:Y}{s:TS}(i:MR a c d base e f g b w s):w.cell? ⟨a,7,none⟩=some b:=by
 obtain⟨cs,j,k⟩:=i.hm;exact(JA j 7).trans k.c7
theorem MR.zs6 {a b c base d:Nat}{e f g:h}{w:Y}{s:TS}(i:MR a b c base d e f g w s):w.cell? ⟨a,9,none⟩=some (V Af s.code):=by
 obtain⟨cs,j,k⟩:=i.hm;exact(JA j 9).trans k.c9
def y50 (a b c base d:Nat)(f:h)(w:Y)(s:TS)(e:BX)(w':Y):Prop:=e=Ak (AZ #[])∧(∃g i,MR a b c base d f g i w' s)∧MU a b base w w'
structure yS3 (mb cb base ab ao:Nat) (a:Ac) (w:Y):Prop where
 ok:UB a=true
 lt:ab<base∧ab≠mb∧ab≠cb
 c:∀ (j:Nat) u,(QL a)[j]?= some u→w.cell? ⟨ab,ao+j,none⟩=some u
theorem zs7 {X a:Nat}(b:X<4294967296):(X:Int) /a %4294967296=((X /a:Nat):Int):=by
 have c:=I3 X a;rw [←Int.natCast_ediv];generalize X /a=z at*
 omega
theorem yJ9 (s:TS)(t:Nat)(x a:Tm):MK s ⟨0,t,x,a⟩=MF s t (Lx s x):=rfl
theorem yK0 {k:Nat}(b:k=1∨k=2∨k=3∨k=6∨k=7∨k=8∨k=9∨k=10∨k=11∨k=12)(s:TS)(t:Nat)(x a:Tm):MK s ⟨k,t,x,a⟩=MF s t (NZ k (Lx s x) (Lx s a)):=by
 rcases b with rfl|rfl|rfl|rfl|rfl|rfl|rfl|rfl|rfl|rfl<;>rfl
theorem zM3 (s:TS)(t:Nat)(x a:Tm):MK s ⟨4,t,x,a⟩=if Lx s a=0 then {s with stop:=4}else MF s t (Lx s x /Lx s a):=rfl
theorem zM4 (s:TS)(t:Nat)(x a:Tm):MK s ⟨5,t,x,a⟩=if Lx s a=0 then {s with stop:=4}else MF s t (Lx s x %Lx s a):=rfl
theorem xZ (s:TS)(t:Nat)(x a:Tm):MK s ⟨19,t,x,a⟩=if Lx s a=0 then MF s t (Lx s x)else s:=rfl
theorem xe (s:TS)(t:Nat)(x a:Tm):MK s ⟨13,t,x,a⟩=if Lx s x<65536 then MF s t (s.mem (Lx s x))else {s with stop:=3}:=rfl
theorem xg (s:TS)(t:Nat)(x a:Tm):MK s ⟨14,t,x,a⟩=if Lx s x<65536 then {s with mem:=upd s.mem (Lx s x) (Lx s a)}else {s with stop:=3}:=rfl
theorem zX0 (s:TS)(t:Nat)(x a:Tm)(b:s.inp=[]):MK s ⟨15,t,x,a⟩=MF s t 4294967295:=by
 obtain⟨m,d,i,o,e,c,op⟩:=s;cases b;rfl
theorem zX1 (s:TS)(t:Nat)(x a:Tm){b:Nat}{l:List Nat}(d:s.inp=b::l):MK s ⟨15,t,x,a⟩={MF s t b with inp:=l}:=by
 obtain⟨m,e,i,o,f,c,op⟩:=s;cases d;rfl
theorem xh (s:TS)(t:Nat)(x a:Tm):MK s ⟨16,t,x,a⟩=if 20000≤s.out.length then {s with stop:=5}else {s with out:=s.out++[Lx s x %256]}:=rfl
theorem zs8 (s:TS)(t:Nat)(x a:Tm):MK s ⟨17,t,x,a⟩={s with stop:=1,code:=Lx s x}:=rfl
theorem xq (s:TS)(t:Nat)(x a:Tm):MK s ⟨18,t,x,a⟩=if Lx s a=0 then {s with stop:=1,code:=Lx s x}else s:=rfl
theorem MU.of {a b base:Nat}{w w':Y}(u:JK (fun k=>k=a) w w'):MU a b base w w':=u.mono (fun k _ q=>AO q)
theorem zX2 {U:Nat→Prop}{w:Y}{b:Nat}{l:List Nat}{f d n c:Nat}{j:Option Bi}(p:n=l.length)(r:Ju KB U w (b::l) (J (some ⟨f,d,none⟩) (n+1) c))(s:(if c=1 then some (⟨f,d,none⟩:Bi)else some ⟨f,d+1,none⟩)=j):Ju KB U w l (J j n (c - 1)):=by
 subst p s;obtain⟨A,c',xs,e,t,E,F,k,v⟩:=r;injection e with y G z
 subst y z;obtain⟨x,B,rfl,h,m⟩:=v;have h:=h;subst h;simp only [Am]at t;refine⟨_,c - 1,B,rfl,by omega,by omega,(fun q=>by split at q<;>cases q),⟨fun i u o=>?_,fun a g=>?_⟩,m⟩
 ·obtain⟨a,g,hc⟩:=k.cells (i+1) u (by simpa using o);cases g;have H:=(Ao.1 o).1;have C:=NF.len m;rw [if_neg (by have:KB.size=1:=rfl;rw [this]at C;omega)];refine⟨_,rfl,?_⟩;rw [MW]at hc ⊢;rw [show d+1+i=d+(i+1) by omega];exact hc
 ·have D:=k.low ⟨f,d,none⟩ rfl;split at g<;>(cases g;exact D)
theorem MR.Yv {b c d base e:Nat}{f g i:h}{w:Y}{s:TS}(a:MR b c d base e f g i w s)(n:Nat){z:Int}(j:z=n):MR b c d base e f g i (w.setCell ⟨b,8,none⟩ (V Ad z)) {s with stop:=n}:=by
 subst j;exact a.other 8 (by omega) _ rfl rfl rfl rfl rfl rfl rfl a.inp a.out a.xX
theorem MR.cod {b c d base e:Nat}{f g i:h}{w:Y}{s:TS}(a:MR b c d base e f g i w s)(n:Nat):MR b c d base e f g i (w.setCell ⟨b,9,none⟩ (V Af n)) {s with code:=n}:=
 a.other 9 (by omega) _ rfl rfl rfl rfl rfl rfl rfl a.inp a.out a.xX
theorem MR.y52 {a c d base e:Nat}{f j g b:h}{w:Y}{s:TS}(i:MR a c d base e f j g w s){l:List Nat}(m:Ju KB (fun k=>k<base∧k≠a∧k≠c) w l b)(n:Mw b):MR a c d base e f b g (w.setCell ⟨a,6,none⟩ b) {s with inp:=l}:=
 i.other 6 (by omega) _ rfl rfl rfl rfl rfl rfl rfl m i.out n
theorem MR.app {a o z base t:Nat}{A B d f:h}{w w':Y}{s:TS}(c:MR a o z base t A B d w s)(g:w.grownBy w' d.ownBlock)(C:∀ j,d.ownBlock=some j→base≤j){x:Nat}(D:RowK KB 5 base w' (s.out++[x]) f):MR a o z base t A B f (w'.setCell ⟨a,7,none⟩ f) {s with out:=s.out++[x]}:=by
 have u:JK (fun k=>d.ownBlock=some k) w w':=⟨g.os,g.tape,g.output,g.size,fun j y E=>g.block j y (fun q=>E q.symm)⟩;obtain⟨cs,h1,b⟩:=c.hm;obtain⟨F,H,I⟩:=c.hc;obtain⟨K,L,M,N,O,R⟩:=c.lt;have m:∀ k,k<base→¬ d.ownBlock=some k:=fun k S q=>by have:=C k q;omega
 have P:=u.heap h1 (m _ K);have v:JK (fun k=>k=a) w' (w'.setCell ⟨a,7,none⟩ f):=JK.setCell (G:=fun k=>k=a) (p:=⟨a,7,none⟩) (JK.refl w') (AB rfl) _;have l:JK (fun k=>k=a∨d.ownBlock=some k) w (w'.setCell ⟨a,7,none⟩ f):=(u.mono (fun k _ q=>AB q)).trans (v.mono (fun k _ q=>AO q));have nb:∀ k,k<base∧k≠a∧k≠o→¬ (k=a∨d.ownBlock=some k):=fun k q e=>by
  rcases e with e|e
  ·exact q.2.1 e
  ·exact m k q.1 e
 refine⟨⟨_,JJ P 7 f,⟨by simp [b.n],?_,fun i Q=>?_,?_,?_,?_,?_,?_,fun j y=>?_,?_,?_⟩⟩,⟨F,l.heap H (fun e=>by rcases e with e|e;exact N e.symm;exact m _ L e),I⟩,c.inp.upd l nb (fun _ q=>q),D.upd v (fun k q e=>by omega),c.ins.upd l nb (fun _ q=>q),MapAt.keep (UA Af) c.map (l.block t (by have:=c.sz;omega) (fun e=>by rcases e with e|e;exact O e;exact m _ M e)),c.lt,AL c.sz l.size,c.xX⟩
 all_goals rw [MC.set b.n (by omega)]
 ·rw [if_neg (by omega)];exact b.c0
 ·rw [if_neg (by omega)];exact b.r i Q
 ·rw [if_neg (by omega)];exact b.c6
 ·rw [if_pos rfl]
 ·rw [if_neg (by omega)];exact b.c8
 ·rw [if_neg (by omega)];exact b.c9
 ·rw [if_neg (by omega)];exact b.c10
 ·rw [if_neg (by omega)];exact b.sm j y
 ·rw [if_neg (by omega)];exact b.gV
 ·rw [if_neg (by omega)];exact b.cK
theorem yk4 {b a base:Nat}{w:Y}{i:Nat}(v:h):MU b a base w (w.setCell ⟨a,i,none⟩ v):=JK.setCell (p:=⟨a,i,none⟩) (JK.refl w) (AB (AB (AO rfl))) v
theorem Vj {a b base:Nat}{w:Y}{i:Nat}(v:h):MU a b base w (w.setCell ⟨a,i,none⟩ v):=JK.setCell (p:=⟨a,i,none⟩) (JK.refl w) (AB (AO rfl)) v
theorem zs9 {b c:Nat}(a:VM ⟨b,c⟩=true):b≤2∧(b=1→c<5):=by
 unfold VM at a;simp only [Ah,DZ,Dl]at a;refine⟨Ai a.1.1,fun e=>?_⟩;rcases a.2 with q|q
 ·exact Ai q
 ·rw [e]at q;cases q
theorem zt0 {o hx xk base xl:Nat}{xm yh xn:h}{w:Y}{s:TS}(h0:MR o hx xk base xl xm yh xn w s)(hk:Re s){L M:Nat}{a:Ac}(R:yS3 o hx base L M a w):
 As prog 71 #[Ae (some ⟨o,0,none⟩),Ae (some ⟨L,M,none⟩)] w (y50 o hx xk base xl xm w (MK s a)):=by
 obtain⟨k,t,⟨xo,xp⟩,hz,x0⟩:=a;have x1:=R.ok;unfold UB at x1;simp only [Ah]at x1;obtain⟨⟨⟨x2,h2⟩,h7⟩,hy⟩:=x1;have x2:=Ai x2;have h2:=Ai h2;have G:w.cell? ⟨L,M,none⟩=some (V Ad k):=R.c 0 _ rfl;have hl:=R.c 1 _ rfl;have hn:=R.c 2 _ rfl;have ho:=R.c 3 _ rfl;have hp:w.cell? ⟨L,M+4,none⟩=some (V Ad hz):=R.c 4 _ rfl;have hq:w.cell? ⟨L,M+5,none⟩=some (V Af x0):=R.c 5 _ rfl;have N:=D (((Ext.refl w).alloc (Ab #[Ae (some ⟨o,0,none⟩)] 95)).alloc (Ab #[Ae (some ⟨L,M,none⟩)] 153));have he:=D (AP w (Ab #[Ae (some ⟨o,0,none⟩)] 95) (Ab #[Ae (some ⟨L,M,none⟩)] 153));have hf:=D (Ay w (Ab #[Ae (some ⟨o,0,none⟩)] 95) (Ab #[Ae (some ⟨L,M,none⟩)] 153));have x3:=D (fun W (e:Ext w W) q v (h1:q≤2) (yi:q=1→v<5)=>zr6 (h0.ext e) q v h1 yi);obtain⟨xr,xt⟩:=zs9 h7;obtain⟨xu,xv⟩:=zs9 hy;have hr:=D (Pm.bN hk h7);have xw:=D (Pm.bN hk hy);obtain⟨U,xx⟩:∃ q,q=w.heap.size:=⟨_,rfl⟩;have hg:AA (∀j,xn.ownBlock=some j→base≤j∧j≠U):=D (by obtain⟨xs,yj⟩:=h0.out.own;intro j x4;have:=Kc yj x4;omega);have h3:AA (U≠o∧U+1≠o∧L≠o):=D ⟨by have:=h0.lt.1;have:=h0.sz;omega,by have:=h0.lt.1;have:=h0.sz;omega,R.lt.2.1⟩;go_enter func71,ntmps71;go_upto_region 1 with fail;rw [←xx]at he hf ⊢;clear xx;obtain⟨x5,xy⟩:∃ W,W=(w.alloc (Ab #[Ae (some ⟨o,0,none⟩)] 95)).alloc (Ab #[Ae (some ⟨L,M,none⟩)] 153):=⟨_,rfl⟩;rw [←xy]at N he hf ⊢;clear xy;have c1:x5.cell? ⟨U,0,none⟩=some (Ae (some ⟨o,0,none⟩)):=JA he.out 0;have H:x5.cell? ⟨U+1,0,none⟩=some (Ae (some ⟨L,M,none⟩)):=JA hf.out 0;have yk:=D R;have xz:=D h0;have yl:=D hk
 replace G:=N.out.cell G
 replace hl:=N.out.cell hl
 replace hn:=N.out.cell hn
 replace ho:=N.out.cell ho
 replace hp:=N.out.cell hp
 replace hq:=N.out.cell hq
 clear h0 R hk h7 hy;obtain⟨X,x6⟩:=JH (Lx s ⟨xo,xp⟩);obtain⟨A,x7⟩:∃ X,X=Lx s ⟨hz,x0⟩:=⟨_,rfl⟩;have B:=D x6;have O:=D x7;rw [←x6]at hr;rw [←x7]at xw;clear x6 x7;refine JX.go (fun X=>Ext x5 X) [] (Ext.drew (Ext.refl _)) (fun d=>?_);refine JP d (fun w g=>Ext.cell g c1) ?_
 refine JP d (fun w g=>Ext.cell g H) ?_
 iterate 2 refine JC d ?_
 refine JC d ?_ (hy:=by intro w g;have q:=Ext.cell g hn;have q2:=Ext.cell g ho;go_simp;(try with_reducible rfl))
 refine QM 6 d (fun w g=>Ext.cell g c1) ?_
 refine QM 7 d (fun w g=>Ext.cell g H) ?_
 refine KM 8 d ?_
 refine KM 9 d ?_
 refine KM 10 d ?_ (hy:=by intro w g;have q:=Ext.cell g hp;have q2:=Ext.cell g hq;go_simp;(try with_reducible rfl))
 try simp only [Au,pA,pB,pC]
 refine JX.rd 5 (fun K f=>?_);go_simp;refine(x3.out _ (N.out.trans d) xo xp xr xt).mono ?_
 rintro e ze ⟨rfl,h7⟩;rw [←B.out];refine f.out _ _ (d.trans h7) (fun d=>?_);clear f
 try simp only [Au,pA,pB,pC]
 refine JM (fun K f=>?_);go_simp;refine(x3.out _ (N.out.trans d) hz x0 xu xv).mono ?_
 rintro e S ⟨rfl,h7⟩;rw [←O.out];refine f.out _ _ (d.trans h7) (fun d=>?_);clear f
 iterate 2 refine JC d ?_
 refine JV ?_
 try simp only [Au,pA,pB,pC]
 have y:=D (N.out.trans d);have r:=D (xz.out.ext y.out);have h4:=D (fun W (e:Ext S W) (z:Int) (n:Nat) (ym:z=n)=>yk2 ym <| yk1 (r.out.ext e) U (U+1) L M t n x2 (CE e (CE d he.out)) (CE e (CE d hf.out)) (e.cell (d.cell hl)) h3.out.1 h3.out.2.1 h3.out.2.2)
 replace c1:=d.cell c1
 replace H:=d.cell H
 replace G:=d.cell G
 have y0:=D (fun(F:X<65536) W (e:Ext S W)=>fC (r.out.ext e) F);have y1:=D (fun(F:¬ X<65536) W (e:Ext S W)=>fD (r.out.ext e) F hr.out);have T:S.cell? ⟨o,8,none⟩=some (V Ad s.stop):=by obtain⟨cs,x8,y2⟩:=r.out.hm;exact(JA x8 8).trans y2.c8
 have hb:=r.out.Sd 8;clear hl hn ho hp hq he hf x3 N xr xt xu xv d xz yk;go_upto_region 5 with fail;have y3:=D (fun W (h2:k=1∨k=2∨k=3∨k=6∨k=7∨k=8∨k=9∨k=10∨k=11∨k=12)=>zE4 k X A W h2 hr xw);obtain rfl|rfl|rfl|rfl|rfl|rfl|rfl|rfl|rfl|rfl|h2:k=0∨k=4∨k=5∨k=13∨k=14∨k=15∨k=16∨k=17∨k=18∨k=19∨(k=1∨k=2∨k=3∨k=6∨k=7∨k=8∨k=9∨k=10∨k=11∨k=12):=by omega
 ·go_wp2_with (go_at_call 115;refine(h4.out _ (Ext.refl _) _ _ rfl).mono ?_;rintro e h8 ⟨rfl,C,E⟩);go_end0;rw [yJ9,←B.out];exact⟨rfl,⟨_,_,C⟩,(Gl y.out).trans (MU.of E)⟩
 ·by_cases P:A=0
  ·have h9:(A:Int)=0:=by omega
   go_wp2_with fail;go_end0;rw [zM3,←B.out,←O.out,if_pos P];exact⟨rfl,⟨_,_,r.out.Yv 4 rfl⟩,(Gl y.out).trans (Vj _)⟩
  ·have h9:¬ (A:Int)=0:=by omega
   have x9:AA ((X:Int) /A %4294967296=((X /A:Nat):Int)):=D (zs7 hr.out);go_wp2_with (go_at_call 115;refine(h4.out _ (Ext.refl _) _ _ x9.out).mono ?_;rintro e h8 ⟨rfl,C,E⟩);go_end0;rw [zM3,←B.out,←O.out,if_neg P];exact⟨rfl,⟨_,_,C⟩,(Gl y.out).trans (MU.of E)⟩
 ·by_cases P:A=0
  ·have h9:(A:Int)=0:=by omega
   go_wp2_with fail;go_end0;rw [zM4,←B.out,←O.out,if_pos P];exact⟨rfl,⟨_,_,r.out.Yv 4 rfl⟩,(Gl y.out).trans (Vj _)⟩
  ·have h9:¬ (A:Int)=0:=by omega
   have x9:AA ((X:Int) %A=((X %A:Nat):Int)):=D (rfl);go_wp2_with (go_at_call 115;refine(h4.out _ (Ext.refl _) _ _ x9.out).mono ?_;rintro e h8 ⟨rfl,C,E⟩);go_end0;rw [zM4,←B.out,←O.out,if_neg P];exact⟨rfl,⟨_,_,C⟩,(Gl y.out).trans (MU.of E)⟩
 ·by_cases F:X<65536
  ·have yn:(X:Int)<65536:=by omega
   go_wp2_with (first|(go_at_call 69;refine(y0.out F _ (Ext.refl _)).mono ?_;rintro e hs ⟨rfl,m⟩;have Q:=D m;have I:=D (r.out.ext m);replace c1:=m.cell c1;replace H:=m.cell H;replace G:=m.cell G;replace T:=m.cell T;replace hb:=I.out.Sd 8;have yo:=I.out.cell0;obtain⟨yp,yq⟩:=I.out.sU F;clear m)|(go_at_call 115;refine(h4.out _ Q.out _ _ rfl).mono ?_;rintro e h8 ⟨rfl,C,E⟩));go_end0;rw [xe,←B.out,if_pos F];exact⟨rfl,⟨_,_,C⟩,(Gl (y.out.trans Q.out)).trans (MU.of E)⟩
  ·go_wp2_with (go_at_call 69;refine(y1.out F _ (Ext.refl _)).mono ?_;rintro e hs ⟨rfl,m⟩;have Q:=D m;have I:=D (r.out.ext m);replace c1:=m.cell c1;replace H:=m.cell H;replace G:=m.cell G;replace T:=m.cell T;replace hb:=I.out.Sd 8;clear m);go_end0;rw [xe,←B.out,if_neg F];exact⟨rfl,⟨_,_,I.out.Yv 3 rfl⟩,(Gl (y.out.trans Q.out)).trans (Vj _)⟩
 ·by_cases F:X<65536
  ·have yn:(X:Int)<65536:=by omega
   go_wp2_with (go_at_call 69;refine(y0.out F _ (Ext.refl _)).mono ?_;rintro e hs ⟨rfl,m⟩;have Q:=D m;have I:=D (r.out.ext m);replace c1:=m.cell c1;replace H:=m.cell H;replace G:=m.cell G;replace T:=m.cell T;replace hb:=I.out.Sd 8;have yo:=I.out.cell0;obtain⟨yp,yq⟩:=I.out.sU F;clear m);go_end0;rw [xg,←B.out,←O.out,if_pos F];exact⟨rfl,⟨_,_,I.out.mem F A⟩,(Gl (y.out.trans Q.out)).trans (yk4 _)⟩
  ·go_wp2_with (go_at_call 69;refine(y1.out F _ (Ext.refl _)).mono ?_;rintro e hs ⟨rfl,m⟩;have Q:=D m;have I:=D (r.out.ext m);replace c1:=m.cell c1;replace H:=m.cell H;replace G:=m.cell G;replace T:=m.cell T;replace hb:=I.out.Sd 8;clear m);go_end0;rw [xg,←B.out,if_neg F];exact⟨rfl,⟨_,_,I.out.Yv 3 rfl⟩,(Gl (y.out.trans Q.out)).trans (Vj _)⟩
 ·have ha:=D r.out.inp;have ht:=r.out.zs5;cases hh:s.inp with
  |nil=>
   rw [hh]at ha;obtain⟨zf,hu,rfl⟩:=JB ha.out;go_wp2_with (go_at_call 115;refine(h4.out _ (Ext.refl _) _ 4294967295 (by decide)).mono ?_;rintro e h8 ⟨rfl,C,E⟩);refine B1 (Dr rfl _ _ _) rfl ?_
   rw [zX0 _ _ _ _ hh];exact⟨rfl,⟨_,_,C⟩,(Gl y.out).trans (MU.of E)⟩
  |cons b l=>
   rw [hh]at ha;obtain⟨hi,hv,hu,cs,rfl, -,xa,y4⟩:=ha.out.elem (i:=0) (x:=b) rfl;have xa:cs=[V BJ b]:=xa;subst xa;have zg:S.cell? ⟨hi,hv,none⟩=some (V BJ b):=by have:=y4 0 _ rfl;simpa using this
   obtain⟨n,h5⟩:=JH l.length;rw [show(b::l).length=n+1 by rw [h5];rfl]at ha ht;obtain⟨xb,y5⟩:∃ xb,(if hu=1 then some (⟨hi,hv,none⟩:Bi)else some ⟨hi,hv+1,none⟩)=xb:=⟨_,rfl⟩;have yr:=D (zX2 h5 ha.out y5);have ys:AA (Mw (J xb n (hu - 1))):=D (by intro zh zi q zj c' e;injection e with Z;rw [←y5]at Z;split at Z<;>(injection Z with Z;injection Z with _ _ Z;exact Z.symm));have hlen:(b::l).length=n+1:=by rw [h5];rfl
   have hle:(1:Int)≤(n:Int)+1:=by omega
   have zk:¬ ((n:Int)+1=0):=by omega
   have zl:((n+1:Nat):Int)=(n:Int)+1:=by omega
   have yt:AA ((b:Int) %4294967296=((b:Nat):Int)):=D (by have:=yl.out.inp b (by rw [hh];simp);omega);have zm:AA (hi≠o):=D (by obtain⟨_,_,_,e,_,_,_,yu,_⟩:=ha.out;injection e with Z;subst Z;exact(yu.low _ rfl).2.1);clear y4 h5;go_upto_region 28 with(go_at_call 115;refine(h4.out _ (Ext.refl _) _ b yt.out).mono ?_;rintro e h8 ⟨rfl,C,E⟩)
   replace c1:=E.cell c1 h3.out.1
   replace ht:=C.zs5
   rw [hlen]at ht;have zn:=C.Sd 6;clear H G T hb;refine JX.go (fun X=>X.cell? ⟨U,0,none⟩=some (Ae (some ⟨o,0,none⟩))∧X.cell? ⟨o,6,none⟩=some (J (some ⟨hi,hv,none⟩) (n+1) hu)) [10] ⟨c1,ht⟩ (fun d=>?_);refine JP d (fun w g=>g.1) ?_
   refine JP d (fun w g=>g.1) ?_
   iterate 3 refine JC d ?_
   refine JP d (fun w g=>g.2) ?_
   refine JC d ?_
   try simp only [Au,pA,pB,pC]
   refine JM (fun K f=>?_);go_simp;refine f.out _ _ (d) (fun d=>?_);clear f
   try simp only [Au,pA,pB,pC]
   refine JM (fun K f=>?_);go_simp;refine f.out _ _ (d) (fun d=>?_);clear f
   try simp only [Au,pA,pB,pC]
   refine JM (fun K f=>?_);go_simp;refine f.out _ _ (d) (fun d=>?_);clear f
   try simp only [Au,pA,pB,pC]
   refine JX.fn (fun K f=>?_);go_simp;refine f.out _ _ ?_
   clear f;refine JV ?_
   try simp only [Au,pA,pB,pC]
   refine GM (Dr rfl _ _ _) rfl ?_
   rw [zX1 _ _ _ _ hh];refine⟨rfl,⟨_,_,(C.y52 (yr.out.upd E (fun k q e=>q.2.1 e) (fun _ q=>q)) ys.out).ext (Ext.drew (Ext.refl _))⟩,?_⟩;exact(Gl y.out).trans ((MU.of E).trans ((Vj _).drew))
 ·have yv:=r.out.yk3;obtain⟨xc,xd,y6⟩:=JB r.out.out.sl;obtain⟨n,h5⟩:=JH s.out.length;rw [←h5]at y6;subst y6;have hc:=D h5;clear h5;by_cases zo:20000≤n
  ·have yw:(20000:Int)≤(n:Int):=by omega
   go_wp2_with fail;refine B1 (Dr rfl _ _ _) rfl ?_
   rw [xh,if_pos (by have:=hc.out;omega)];exact⟨rfl,⟨_,_,r.out.Yv 5 rfl⟩,(Gl y.out).trans (Vj _)⟩
  ·have yw:¬ (20000:Int)≤(n:Int):=by omega
   obtain⟨yx,y7,y8,y9,ya⟩:=info_parts jE;have yy:=D y7;have yz:=D y8;have z0:=D y9;have z1:=D ya;have z2:AA (n+1≤Bk):=D (by unfold Bk;omega);have z3:AA ((n+1)*1≤140737488355328):=D (by omega);clear y7 y8 y9 ya H G T hb;go_upto_region 32 with fail;refine JX.go (fun X=>X.cell? ⟨U,0,none⟩=some (Ae (some ⟨o,0,none⟩))∧X.cell? ⟨o,7,none⟩=some (J xc n xd)) [13] ⟨c1,yv⟩ (fun d=>?_);have xf:Ext S S.drew:=Ext.drew (Ext.refl _);generalize S.drew=wd at d xf ⊢;have z4:=D (r.out.ext xf);refine JP d (fun w g=>g.1) ?_
   refine JP d (fun w g=>g.1) ?_
   iterate 3 refine JC d ?_
   refine JP d (fun w g=>g.2) ?_
   iterate 2 refine JC d ?_
   try simp only [Au,pA,pB,pC]
   refine JM (fun K f=>?_);go_simp;refine f.out _ _ (⟨((Ext.refl _).alloc _).cell d.1,((Ext.refl _).alloc _).cell d.2⟩) (fun d=>?_);clear f;have hd:=D (z4.out.ext ((Ext.refl wd).alloc (Ab #[V BJ (BJ.wrap (X:Int))] 5)));have xi:=D (RJ (W:=wd) (e:=5) rfl [V BJ (BJ.wrap (X:Int))]);obtain⟨xs,xj,yb⟩:=hd.out.out;rw [←hc.out]at xj;have z5:=D xj;have z6:=D yb;have z7:=D hd.out.sz;have z8:=D (xf.alloc (Ab #[V BJ (BJ.wrap (X:Int))] 5));clear xj yb
   try simp only [Au,pA,pB,pC]
   refine JM (fun K f=>?_);refine MI rfl _ _ 23 rfl base 5 yx (V BJ 0) 1 1 B8 yy.out yz.out z0.out z1.out rfl (by decide) (J xc n xd) n xs (by rfl) z5.out (some ⟨wd.heap.size,0,none⟩) 1 1 [V BJ (BJ.wrap (X:Int))] (by rfl) xi.out rfl (by intro u yc;simp only [AH,Ba,or_false]at yc;subst yc;rfl) z2.out z3.out z7.out ?_
   intro zp yd hj h6 ye;obtain⟨zq,zr,z9, -⟩:=K7 hj;subst z9;rw [hc.out]at hj;have yf:=D (RowK.snoc (a:=X %256) z6.out (by show [_]=[_];rw [IntKind.wrap_u8,Ip];rfl) hj h6 (by rw [←hc.out];exact ye));rw [←hc.out]at hj yf;have hw:AA (JK (fun k=>(J xc n xd).ownBlock=some k) (wd.alloc (Ab #[V BJ (BJ.wrap (X:Int))] 5)) yd):=D ⟨h6.os,h6.tape,h6.output,h6.size,fun j x4 za=>h6.block j x4 (fun q=>za q.symm)⟩;have zb:=D (hd.out.app h6 (fun j q=>(hg.out j q).1) yf.out);have yg:yd.frozen? ⟨o,7,none⟩=false:=by obtain⟨cs,x8,y2⟩:=hd.out.hm;exact JF (hw.out.heap x8 (fun q=>by have h1:base≤o:=(hg.out _ q).1;have:=hd.out.lt.1;omega)) 7
   clear hj h6 ye;refine f.out _ _ (⟨hw.out.cell d.1 (fun q=>(hg.out _ q).2 rfl),hw.out.cell d.2 (fun q=>by have h1:base≤o:=(hg.out _ q).1;have:=hd.out.lt.1;omega)⟩) (fun d=>?_);clear f
   try simp only [Au,pA,pB,pC]
   refine JM (fun K f=>?_);go_simp;refine f.out _ _ (d) (fun d=>?_);clear f
   try simp only [Au,pA,pB,pC]
   refine JM (fun K f=>?_);go_simp;refine f.out _ _ (d) (fun d=>?_);clear f
   try simp only [Au,pA,pB,pC]
   refine JM (fun K f=>?_);go_simp;refine f.out _ _ (d) (fun d=>?_);clear f
   try simp only [Au,pA,pB,pC]
   refine JX.fn (fun K f=>?_);go_simp;refine f.out _ _ ?_
   clear f;refine JV ?_
   try simp only [Au,pA,pB,pC]
   refine GM (Dr rfl _ _ _) rfl ?_
   rw [xh,if_neg (by have:=hc.out;omega),←B.out];exact⟨rfl,⟨_,_,zb.out⟩,(Gl (y.out.trans z8.out)).trans ((hw.out.mono (fun k _ q=>AB (AB (hg.out k q).1))).trans (Vj _))⟩
 ·go_upto_region 36 with fail;refine JX.go (fun X=>JK (fun k=>k=o) S X) [] (JK.drew (JK.refl _)) (fun d=>?_);refine JP d (fun w g=>JK.cell g c1 h3.out.1) ?_
  refine JP d (fun w g=>JK.cell g c1 h3.out.1) ?_
  iterate 4 refine JC d ?_
  try simp only [Au,pA,pB,pC]
  refine JM (fun K f=>?_);go_simp;refine f.out _ _ (JK.setCell (p:=⟨o,8,none⟩) d (AB rfl) _) (fun d=>?_);clear f;have zc:=(r.out.Yv 1 (z:=1) rfl).zs6;have yg:=(r.out.Yv 1 (z:=1) rfl).Sd 9
  iterate 3 refine JC d ?_
  try simp only [Au,pA,pB,pC]
  refine JM (fun K f=>?_);go_simp;refine f.out _ _ (JK.setCell (p:=⟨o,9,none⟩) d (AB rfl) _) (fun d=>?_);clear f;refine JV ?_
  try simp only [Au,pA,pB,pC]
  go_end0;rw [zs8,←B.out];exact⟨rfl,⟨_,_,((r.out.Yv 1 (z:=1) rfl).cod X).ext (Ext.drew (Ext.refl _))⟩,(Gl y.out).trans (d.mono (fun k _ q=>AO q))⟩
 ·by_cases P:A=0
  ·have h9:(A:Int)=0:=by omega
   go_upto_region 36 with fail;refine JX.go (fun X=>JK (fun k=>k=o) S X) [] (JK.drew (JK.refl _)) (fun d=>?_);refine JP d (fun w g=>JK.cell g c1 h3.out.1) ?_
   refine JP d (fun w g=>JK.cell g c1 h3.out.1) ?_
   iterate 4 refine JC d ?_
   try simp only [Au,pA,pB,pC]
   refine JM (fun K f=>?_);go_simp;refine f.out _ _ (JK.setCell (p:=⟨o,8,none⟩) d (AB rfl) _) (fun d=>?_);clear f;have zc:=(r.out.Yv 1 (z:=1) rfl).zs6;have yg:=(r.out.Yv 1 (z:=1) rfl).Sd 9
   iterate 3 refine JC d ?_
   try simp only [Au,pA,pB,pC]
   refine JM (fun K f=>?_);go_simp;refine f.out _ _ (JK.setCell (p:=⟨o,9,none⟩) d (AB rfl) _) (fun d=>?_);clear f;refine JV ?_
   try simp only [Au,pA,pB,pC]
   go_end0;rw [xq,←B.out,←O.out,if_pos P];exact⟨rfl,⟨_,_,((r.out.Yv 1 (z:=1) rfl).cod X).ext (Ext.drew (Ext.refl _))⟩,(Gl y.out).trans (d.mono (fun k _ q=>AO q))⟩
  ·have h9:¬ (A:Int)=0:=by omega
   go_wp2_with fail;go_end0;rw [xq,←B.out,←O.out,if_neg P];exact⟨rfl,⟨_,_,r.out⟩,Gl y.out⟩
 ·by_cases P:A=0
  ·have h9:(A:Int)=0:=by omega
   go_wp2_with (go_at_call 115;refine(h4.out _ (Ext.refl _) _ _ rfl).mono ?_;rintro e h8 ⟨rfl,C,E⟩);go_end0;rw [xZ,←B.out,←O.out,if_pos P];exact⟨rfl,⟨_,_,C⟩,(Gl y.out).trans (MU.of E)⟩
  ·have h9:¬ (A:Int)=0:=by omega
   go_wp2_with fail;go_end0;rw [xZ,←B.out,←O.out,if_neg P];exact⟨rfl,⟨_,_,r.out⟩,Gl y.out⟩
 have zd:=D (fun W=>y3 W h2);have xi:=D (yK0 h2);clear y3;rcases h2 with rfl|rfl|rfl|rfl|rfl|rfl|rfl|rfl|rfl|rfl
 all_goals
  go_wp2_with (first|(go_at_call 116;refine(zd _).mono ?_;rintro e hs ⟨rfl,m⟩;have Q:=D m)|(go_at_call 115;refine(h4.out _ Q.out _ _ rfl).mono ?_;rintro e h8 ⟨rfl,C,E⟩));go_end0;rw [xi.out,←B.out,←O.out];exact⟨rfl,⟨_,_,C⟩,(Gl (y.out.trans Q.out)).trans (MU.of E)⟩
theorem zM5 {g h base n:Nat}{w:Y}{l:List Ac}{j m c:Nat}(p:Ju KA (fun k=>k<base∧k≠g∧k≠h) w l (J (some ⟨j,m,none⟩) n c))(r:n=l.length)(s:l.all UB=true){i:Nat}{a:Ac}(q:l[i]?= some a):yS3 g h base j (m+i*6) a w:=by
 subst r;obtain⟨b,o,x,cs,e, -,f,t⟩:=p.elem q;injection e with d y z
 injection d with d
 injection d with d u
 subst d u;have f:cs=QL a:=f;subst f;obtain⟨_,_,_,e,_,_,_,v,_⟩:=p;injection e with d
 subst d;exact⟨A7.1 s a (AD q),v.low _ rfl,t⟩
theorem xu {s:TS}{l:List Ac}{i:Nat}{a:Ac}(b:l[i]?= some a)(c:(MK s a).stop=0):Ls s (l.drop i)=Ls (MK s a) (l.drop (i+1)):=by
 obtain⟨h1,d⟩:=Ao.1 b;rw [AR h1,d,Ls,if_pos c]
theorem lu {s:TS}{l:List Ac}{i:Nat}{a:Ac}(b:l[i]?= some a)(c:(MK s a).stop≠0):Ls s (l.drop i)=MK s a:=by
 obtain⟨h1,d⟩:=Ao.1 b;rw [AR h1,d,Ls,if_neg c]
theorem zM6 {z:Int}{n f:Nat}{p:h}{w:Y}{R:BX→Y→Prop}(b:z=n)(c:As prog f #[p,V Af n] w R):As prog f #[p,V Af z] w R:=by rw [b];exact c
def StR (a b c base d:Nat)(f:h)(w:Y)(s:TS)(e:BX)(w':Y):Prop:=e=Ak (AZ #[])∧(∃g i,MR a b c base d f g i w' s)∧MU a b base w w'
theorem MR.Zk {a b c base d:Nat}{e f g:h}{w:Y}{s:TS}(i:MR a b c base d e f g w s):w.cell? ⟨a,8,none⟩=some (V Ad s.stop):=by
 obtain⟨cs,j,k⟩:=i.hm;exact(JA j 8).trans k.c8
theorem MR.zt4 {a b c base d:Nat}{e f g:h}{w:Y}{s:TS}(i:MR a b c base d e f g w s):w.cell? ⟨a,268,none⟩=some (V Af s.operand):=by
 obtain⟨cs,j,k⟩:=i.hm;exact(JA j 268).trans k.cK
theorem MR.yS6 {a b c base d:Nat}{e f g:h}{w:Y}{s:TS}(i:MR a b c base d e f g w s){t:Nat}(k:t<5)(n:Nat){z:Int}(l:z=n){j:Nat}(m:j=1+t):MR a b c base d e f g (w.setCell ⟨a,j,none⟩ (V Af z)) (MF s t n):=by
 subst l m;exact i.reg k n
theorem MR.op {c d e base f:Nat}{g i j:h}{w:Y}{s:TS}(b:MR c d e base f g i j w s)(n:Nat):MR c d e base f g i j (w.setCell ⟨c,268,none⟩ (V Af n)) {s with operand:=n}:=
 b.other 268 (by omega) _ rfl rfl rfl rfl rfl rfl rfl b.inp b.out b.xX
theorem yK2 {s:TS}(a:¬ s.r 4<65536):Pm.stepT s={s with stop:=3}:=by unfold Pm.stepT;rw [if_pos a]
theorem yK3 {s:TS}(a:s.r 4<65536)(b:Mm (s.mem (s.r 4))=none):Pm.stepT s={s with stop:=2}:=by unfold Pm.stepT;rw [if_neg (fun q=>q a),b]
theorem yK4 {s:TS}{x:In}(a:s.r 4<65536)(b:Mm (s.mem (s.r 4))=some x)(c:x.operand=false):Pm.stepT s=Ls (MF s 4 (s.r 4+1)) x.acts:=by
 unfold Pm.stepT;rw [if_neg (fun q=>q a),b];dsimp only;rw [if_pos c]
theorem yK5 {s:TS}{x:In}(a:s.r 4<65536)(b:Mm (s.mem (s.r 4))=some x)(c:x.operand=true)(d:¬ s.r 4+1<65536):Pm.stepT s={s with stop:=3}:=by
 unfold Pm.stepT;rw [if_neg (fun q=>q a),b];dsimp only;rw [if_neg (by rw [c];decide),if_pos d]
theorem yK6 {s:TS}{x:In}(a:s.r 4<65536)(b:Mm (s.mem (s.r 4))=some x)(c:x.operand=true)(d:s.r 4+1<65536):Pm.stepT s=Ls {MF s 4 (s.r 4+2)with operand:=s.mem (s.r 4+1)} x.acts:=by
 unfold Pm.stepT;rw [if_neg (fun q=>q a),b];dsimp only;rw [if_neg (by rw [c];decide),if_neg (fun q=>q d)]
theorem yK7 {c R hy base hz:Nat}{x0 y2 y3:h}{w:Y}{s:TS}(T:MR c R hy base hz x0 y2 y3 w s)(x6:Re s)(x7:s.stop=0):
 As prog 41 #[Ae (some ⟨c,0,none⟩)] w (StR c R hy base hz x0 w (Pm.stepT s)):=by
 have F:=D x6;have L:=D T;have xs:=D x7;obtain⟨P,x1⟩:=JH (s.r 4);have m:=D x1;have y4:AA (P<4294967296):=D (by rw [x1];exact x6.r 4);have x2:w.cell? ⟨c,5,none⟩=some (V Af P):=by rw [x1];exact T.sQ (i:=4) (by omega)
 have x8:=T.Sd 5;have H:w.cell? ⟨c,8,none⟩=some (V Ad 0):=by have:=T.Zk;rw [x7]at this;exact this
 have h6:=T.Sd 8;have he:=T.cell0;clear T x6 x7 x1;by_cases N:P<65536
 ·obtain⟨h7, -⟩:=L.sU N;obtain⟨C,x3⟩:=JH (s.mem P);rw [←x3]at h7;have xt:AA (C=s.mem (s.r 4)):=D (by rw [x3,m]);have y5:AA (C<4294967296):=D (by rw [x3];exact F.mem P);clear x3;have y6:(P:Int)<65536:=by omega
  go_enter func41,ntmps41;go_upto_region 6 with(first|(go_at_call 69;refine(fC L N).mono ?_;rintro e y7 ⟨rfl,I⟩;replace he:=I.cell he;replace h7:=I.cell h7;have y8:=D (L.ext I))|(go_at_call 70;refine(yJ7 y8 C y5).mono ?_;rintro e x9 ⟨y9,h8⟩;rcases y9 with⟨hf,rfl⟩|⟨x,b,o,v,xa,rfl,xb,h9,K,xc⟩))
  ·have g:=D (I.trans h8)
   replace H:=g.cell H
   replace h6:=(L.ext g).Sd 8
   go_wp2_with fail;refine B1 (Dr rfl _ _ _) rfl ?_
   rw [yK3 (by rw [←m];exact N) (by rw [←xt];exact hf)];exact⟨rfl,⟨_,_,(L.ext g).Yv 2 rfl⟩,(Gl g).trans (Vj _)⟩
  ·have g:=D (I.trans h8);have U:=D (L.ext g);have ha:=D xb;have x4:=D xa;rw [xt]at x4;obtain⟨xv,ya, -⟩:=Pm.qJ xa;have xw:=D xv;have xd:=D (xc.ext h8);obtain⟨yo,yp,rfl⟩:=JB xc;obtain⟨n,hf⟩:=JH x.acts.length;have hb:=D hf;rw [←hf]at xd K ya
   replace h9:=h8.cell h9
   replace K:=h8.cell K
   replace x2:=g.cell x2
   replace x8:=U.Sd 5
   replace H:=g.cell H
   replace h6:=U.Sd 8
   have xe:AA (c≠b):=D (fun q=>xb.2.1 q.symm);clear xa xb xc hf xv I h8 he h7;cases hg:x.operand with
   |false=>
    rw [hg]at h9;have xf:((P:Int)+1) %4294967296=(P:Int)+1:=by omega
    go_upto_region 12 with fail;have W:=D (U.yS6 (t:=4) (by omega) (P+1) (z:=(P:Int)+1) (by omega) (j:=5) rfl);have u:AA (JK (fun k=>k=c) x9 (x9.setCell ⟨c,5,none⟩ (V Af ((P:Int)+1)))):=D (JK.setCell (G:=fun k=>k=c) (p:=⟨c,5,none⟩) (JK.refl _) (AB rfl) _);have hh:=u.cell K (fun q=>xe q.symm);have hi:=D (xd.upd u (fun k q e=>q.2.1 e) (fun _ q=>q));generalize x9.setCell ⟨c,5,none⟩ (V Af ((P:Int)+1))=W5 at W u hh hi ⊢;obtain⟨y,A⟩:=JH (MF s 4 (P+1));rw [←A]at W;have hj:AA (Pm.stepT s=Ls y x.acts):=D (by rw [A,m];exact yK4 (by rw [←m];exact N) x4 hg);have xg:AA (Re y):=D (by rw [A];exact Pm.P9 F 4 _ (by omega));have xh:y.stop=0:=by rw [A];exact xs
    clear A x2 x8 H h6 K h9 xf;go_wp2;go_loopw [87] (fun X hk=>∃ (i:Nat) (d:TS) (hl hm:h),X=V Ad i∧i≤n∧AA (MR c R hy base hz x0 hl hm hk d)∧AA (Re d)∧d.stop=0∧AA (Ls y x.acts=Ls d (x.acts.drop i))∧AA (MU c R base W5 hk)) (fun X _=>n - (AX X).toNat)
    case atStart=>exact⟨0,y,_,_,rfl,by omega,W,xg,xh,D rfl,D (JK.refl _)⟩
    case round=>
     obtain⟨i,d,hl,hm,rfl,yb,hn,ho,yc,Z,B⟩:=hrel;have yd:=B.cell hh (fun q=>by rcases q with q|q|q;exact absurd q (by intro q;exact ha.2.1 q);exact absurd q (by intro q;exact ha.2.2 q);have q:base≤b:=q;have:=ha.1;omega);by_cases xi:i<n
     ·obtain⟨a,M⟩:∃ a,x.acts[i]?= some a:=⟨_,Al (show i<x.acts.length by rw [←hb];exact xi)⟩
      have hp:=D (hi.upd B (fun k q e=>by rcases e with e|e|e;exact absurd e (by intro e;exact q.2.1 e);exact absurd e (by intro e;exact q.2.2 e);omega) (fun _ q=>q));obtain⟨ye,yf,yg,cs,xj, -, -, -⟩:=hp.elem M;injection xj with xk xl xm
      subst xk;have hq:=D (zM5 hp hb xw M);have hr:=D (zt0 hn ho hq);have hs:=D M;have xn:=D (Pm.bO ho hq.ok);clear M xl xm;by_cases l:(MK d a).stop=0
      ·go_wp2_with (go_at_call 71;refine hr.mono ?_;rintro e h0 ⟨rfl,⟨ht,hu,f⟩,E⟩;have xo:h0.cell? ⟨c,8,none⟩=some (V Ad 0):=(by have:=f.Zk;rw [l]at this;exact this);have h1:=D f;have h2:=D E;clear f E);go_roundw
       case rel=>exact⟨i+1,MK d a,ht,hu,by go_num,by omega,h1,xn,l,D (by rw [Z];exact xu hs l),D (B.trans h2)⟩
       case measure=>simp [AX];omega
      ·obtain⟨h3,h4⟩:=JH ((MK d a).stop);have hv:=D h4;rw [←h4]at l;clear h4;have yh:((h3:Int) != 0)=true:=by simpa using l
       have yi:¬ (h3:Int)=0:=by omega
       go_wp2_with (go_at_call 71;refine hr.mono ?_;rintro e h0 ⟨rfl,⟨ht,hu,f⟩,E⟩;have xo:h0.cell? ⟨c,8,none⟩=some (V Ad h3):=(by have:=f.Zk;rw [←hv]at this;exact this);have h1:=D f;have h2:=D E;clear f E);refine B1 (Dr rfl _ _ _) rfl ?_
       rw [hj,Z,lu hs (by rw [←hv];exact l)];exact⟨rfl,⟨_,_,h1⟩,((Gl g).trans (MU.of u)).trans (B.trans h2)⟩
     ·have xp:i=n:=by omega
      go_wp2;refine GM (Dr rfl _ _ _) rfl ?_
      rw [hj,Z,xp,hb,Cu,Ls];exact⟨rfl,⟨_,_,hn⟩,((Gl g).trans (MU.of u)).trans B⟩
   |true=>
    rw [hg]at h9;have xf:((P:Int)+1) %4294967296=(P:Int)+1:=by omega
    have yj:((P:Int)+2) %4294967296=(P:Int)+2:=by omega
    by_cases hw:P+1<65536
    ·have yk:(P:Int)+1<65536:=by omega
     have yl:=D (zM6 (z:=(P:Int)+1) (by omega) (fC U hw));obtain⟨h5,xx⟩:=JH (s.mem (P+1));have xq:=D xx;clear xx;go_upto_region 5 with(go_at_call 69;refine yl.mono ?_;rintro e hc ⟨rfl,O⟩;have hd:=D O;have Q:=D (U.ext O);have he:=Q.cell0;have h7:hc.cell? ⟨R,P+1,none⟩=some (V Af h5):=(by rw [xq];exact(Q.sU hw).1);have ym:=Q.zt4;have f268:=Q.Sd 268;clear O);have x5:=D (Q.op h5);have xy:(hc.setCell ⟨c,268,none⟩ (V Af h5)).cell? ⟨c,5,none⟩=some (V Af P):=by rw [m];exact x5.sQ (i:=4) (by omega)
     have xz:=x5.Sd 5;have hx:AA (JK (fun k=>k=c) hc (hc.setCell ⟨c,268,none⟩ (V Af h5))):=D (JK.setCell (G:=fun k=>k=c) (p:=⟨c,268,none⟩) (JK.refl _) (AB rfl) _)
     replace K:=hx.cell (hd.cell K) (fun q=>xe q.symm)
     have y0:=D ((xd.ext hd).upd hx (fun k q e=>q.2.1 e) (fun _ q=>q));generalize hc.setCell ⟨c,268,none⟩ (V Af h5)=xr at x5 xy xz hx K y0 ⊢;clear h9 x2 x8 H h6 he h7 ym f268;go_upto_region 12 with fail;have W:=D (x5.yS6 (t:=4) (by omega) (P+2) (z:=(P:Int)+2) (by omega) (j:=5) rfl);have u:AA (JK (fun k=>k=c) xr (xr.setCell ⟨c,5,none⟩ (V Af ((P:Int)+2)))):=D (JK.setCell (G:=fun k=>k=c) (p:=⟨c,5,none⟩) (JK.refl _) (AB rfl) _);have hh:=u.cell K (fun q=>xe q.symm);have hi:=D (y0.upd u (fun k q e=>q.2.1 e) (fun _ q=>q));generalize xr.setCell ⟨c,5,none⟩ (V Af ((P:Int)+2))=W5 at W u hh hi ⊢;obtain⟨y,A⟩:∃ S,S=MF {s with operand:=h5} 4 (P+2):=⟨_,rfl⟩;rw [←A]at W;have hj:AA (Pm.stepT s=Ls y x.acts):=D (by rw [A,xq.out,m.out];exact yK6 (by rw [←m.out];exact N) x4.out hg (by rw [←m.out];exact hw));have xg:AA (Re y):=D (by rw [A];exact Pm.P9 (s:={s with operand:=h5}) ⟨F.out.mem,F.out.r,F.out.inp,F.out.out,F.out.zo2,(by rw [xq.out];exact F.out.mem _),F.out.code,F.out.stop⟩ 4 (P+2) (by omega));have xh:y.stop=0:=by rw [A];exact xs.out
     clear A xy xz K xf yj;go_wp2;go_loopw [87] (fun X hk=>∃ (i:Nat) (d:TS) (hl hm:h),X=V Ad i∧i≤n∧AA (MR c R hy base hz x0 hl hm hk d)∧AA (Re d)∧d.stop=0∧AA (Ls y x.acts=Ls d (x.acts.drop i))∧AA (MU c R base W5 hk)) (fun X _=>n - (AX X).toNat)
     case atStart=>exact⟨0,y,_,_,rfl,by omega,W,xg,xh,D rfl,D (JK.refl _)⟩
     case round=>
      obtain⟨i,d,hl,hm,rfl,yb,hn,ho,yc,Z,B⟩:=hrel;have yd:=B.cell hh (fun q=>by rcases q with q|q|q;exact absurd q (by intro q;exact ha.2.1 q);exact absurd q (by intro q;exact ha.2.2 q);have q:base≤b:=q;have:=ha.1;omega);by_cases xi:i<n
      ·obtain⟨a,M⟩:∃ a,x.acts[i]?= some a:=⟨_,Al (show i<x.acts.length by rw [←hb];exact xi)⟩
       have hp:=D (hi.upd B (fun k q e=>by rcases e with e|e|e;exact absurd e (by intro e;exact q.2.1 e);exact absurd e (by intro e;exact q.2.2 e);omega) (fun _ q=>q));obtain⟨ye,yf,yg,cs,xj, -, -, -⟩:=hp.elem M;injection xj with xk xl xm
       subst xk;have hq:=D (zM5 hp hb xw M);have hr:=D (zt0 hn ho hq);have hs:=D M;have xn:=D (Pm.bO ho hq.ok);clear M xl xm;by_cases l:(MK d a).stop=0
       ·go_wp2_with (go_at_call 71;refine hr.mono ?_;rintro e h0 ⟨rfl,⟨ht,hu,f⟩,E⟩;have xo:h0.cell? ⟨c,8,none⟩=some (V Ad 0):=(by have:=f.Zk;rw [l]at this;exact this);have h1:=D f;have h2:=D E;clear f E);go_roundw
        case rel=>exact⟨i+1,MK d a,ht,hu,by go_num,by omega,h1,xn,l,D (by rw [Z];exact xu hs l),D (B.trans h2)⟩
        case measure=>simp [AX];omega
       ·obtain⟨h3,h4⟩:=JH ((MK d a).stop);have hv:=D h4;rw [←h4]at l;clear h4;have yh:((h3:Int) != 0)=true:=by simpa using l
        have yi:¬ (h3:Int)=0:=by omega
        go_wp2_with (go_at_call 71;refine hr.mono ?_;rintro e h0 ⟨rfl,⟨ht,hu,f⟩,E⟩;have xo:h0.cell? ⟨c,8,none⟩=some (V Ad h3):=(by have:=f.Zk;rw [←hv]at this;exact this);have h1:=D f;have h2:=D E;clear f E);refine B1 (Dr rfl _ _ _) rfl ?_
        rw [hj,Z,lu hs (by rw [←hv];exact l)];exact⟨rfl,⟨_,_,h1⟩,((Gl (g.trans hd)).trans ((MU.of hx).trans (MU.of u))).trans (B.trans h2)⟩
      ·have xp:i=n:=by omega
       go_wp2;refine GM (Dr rfl _ _ _) rfl ?_
       rw [hj,Z,xp,hb,Cu,Ls];exact⟨rfl,⟨_,_,hn⟩,((Gl (g.trans hd)).trans ((MU.of hx).trans (MU.of u))).trans B⟩
    ·have yk:¬ (P:Int)+1<65536:=by omega
     have yn:=D (zM6 (z:=(P:Int)+1) (by omega) (fD U hw (by omega)));go_wp2_with (go_at_call 69;refine yn.mono ?_;rintro e hc ⟨rfl,O⟩;have hd:=D O;have Q:=D (U.ext O);replace H:=O.cell H;replace h6:=Q.Sd 8;clear O);refine B1 (Dr rfl _ _ _) rfl ?_
     rw [yK5 (by rw [←m];exact N) x4 hg (by rw [←m];exact hw)];exact⟨rfl,⟨_,_,Q.Yv 3 rfl⟩,(Gl (g.trans hd)).trans (Vj _)⟩
 ·have y6:¬ (P:Int)<65536:=by omega
  go_enter func41,ntmps41;go_wp2_with (go_at_call 69;refine(fD L N y4).mono ?_;rintro e y7 ⟨rfl,I⟩;replace H:=I.cell H;replace h6:=(L.ext I).Sd 8;have y1:=D I);refine B1 (Dr rfl _ _ _) rfl ?_
  rw [yK2 (by rw [←m];exact N)];exact⟨rfl,⟨_,_,(L.ext y1).Yv 3 rfl⟩,(Gl y1).trans (Vj _)⟩
def zE6:B6:=⟨fun|41=>38|n=>n,fun|22=>23|23=>5|4=>4|n=>n,fun|n=>n⟩
theorem zu1:ID prog zE6:={
 mixed:=by kernel_rfl
 f41:=⟨f38.name,by decide,func38.trans (congrArg some (by kernel_rfl))⟩
 t4:=By
 a4:=Cm
 z4:=Cc
 v4:=BH
 t22:=B8
 a22:=E2
 z22:=ED
 v22:=DT}
theorem gX (n c:Nat)(w:Y):As prog 38 #[J none n c] w fun e w'=>e=Ak (J none 0 0)∧w'=w:=AnyE.slices_Clone_nil zu1 n c w
def byV (l:List Nat):List h:=l.map fun(n:Nat)=>V BJ (n:Int)
theorem cO {U:Nat→Prop}{w:Y}:∀ {l:List Nat}{xs:List h},NF KB U w l xs↔xs=byV l
 |[],xs=>Iff.rfl
 |n::l,xs=>by
  constructor
  ·rintro⟨x,c,rfl,h1,a⟩;have h1:x=[V BJ n]:=h1;rw [h1,cO.1 a];rfl
  ·intro b;exact⟨[V BJ n],byV l,b,rfl,cO.2 rfl⟩
theorem zu3 {l:List Nat}:∀ u∈byV l,u.oneCell'=true:=by
 intro u a;obtain⟨n,_,rfl⟩:=D4.1 a;rfl
theorem fF (U:Nat→Prop)(w:Y)(l:List Nat)(v:h)(d:Ju KB U w l v)(s:Mw v)(S:l.length≤1000000):As prog 38 #[v] w fun e w'=>∃ f,e=Ak f∧Ju KB (fun k=>w.heap.size≤k∧k<w'.heap.size∧∃ cur,w'.heap[k]?= some (Ab cur 5)) w' l f∧Mw f∧Ext w w':=by
 obtain⟨A,c,xs,rfl,T,W,t,x,i⟩:=d;have i:=cO.1 i;cases A with
 |none=>
  have hc:=t rfl;have y:l.length=0:=by omega
  have z:l=[]:=List.length_eq_zero_iff.1 y;subst z;refine(gX _ _ w).mono ?_
  rintro e w' ⟨rfl,rfl⟩;exact⟨_,rfl,Ju.nil _ _ _,fun b o q n c e=>(by cases e),Ext.refl _⟩
 |some a=>
  obtain⟨b,o,q⟩:=a;have B:q=none:=s b o q _ _ rfl;subst B;obtain⟨C,D,E,F,G⟩:=info_parts jE;refine(AnyE.slices_Clone zu1 C (V BJ 0) 1 1 D E F G rfl (by decide) Da b o l.length c xs w (by rw [i];simp [byV]) (by omega) (by omega) (fun j u H=>?_) (by rw [i];exact zu3)).mono ?_
  ·obtain⟨a,r,hc⟩:=x.cells j u H;cases r;rw [MW]at hc;exact hc
  ·rintro e w' ⟨f,rfl,m,X,I⟩;have K:Mw f:=by
    rcases m.2 with d|⟨g,cap,L,rfl,_⟩
    ·rw [d.1];intro b o q n c e;cases e
    ·intro b o q n c e;injection e with p;injection p with p;injection p with _ _ p;exact p.symm
   have M:∀ g,f.ownBlock=some g→∃ cur,w'.heap[g]?= some (Ab cur 5):=by
    rcases m.2 with d|⟨g,cap,L,rfl,_,d,_⟩
    ·rw [d.1];intro g q;cases q
    ·intro Z q;cases q;exact⟨_,d⟩
   obtain⟨N,c',rfl,O,P,Q,R⟩:=K7 m;refine⟨_,rfl,⟨N,c',xs,rfl,O,P,Q,⟨R,fun a r=>?_⟩,cO.2 i⟩,K,I⟩;subst r;exact⟨(Kc m rfl).1,(Kc m rfl).2,M _ rfl⟩
abbrev Nw:Array h:= #[J none 0 0,V Af 0,V Af 0,V Af 0,V Af 0,V Af 0,J none 0 0,J none 0 0,V Ad 0,V Af 0]
theorem OQ:(prog.info? 62).map (·.size)=some 10:=by kernel_rfl
theorem MR.row {c d e base i:Nat}{k f g:h}{w:Y}{s:TS}(l:MR c d e base i k f g w s):∀ (j:Nat) u,[J (some ⟨d,0,none⟩) 65536 e,V Af (s.r 0),V Af (s.r 1),V Af (s.r 2),V Af (s.r 3),V Af (s.r 4),f,g,V Ad s.stop,V Af s.code][j]?= some u→w.cell? ⟨c,0+j,none⟩=some u:=by
 obtain⟨cs,h1,a⟩:=l.hm;intro j u b;rw [BF,JA h1 j,←b]
 match j,b with
 |0,_=>exact a.c0
 |1,_=>exact a.r 0 (by omega)
 |2,_=>exact a.r 1 (by omega)
 |3,_=>exact a.r 2 (by omega)
 |4,_=>exact a.r 3 (by omega)
 |5,_=>exact a.r 4 (by omega)
 |6,_=>exact a.c6
 |7,_=>exact a.c7
 |8,_=>exact a.c8
 |9,_=>exact a.c9
 |j+10,b=>simp at b
theorem qO {R a b base hf:Nat}{hg hh S:h}{w:Y}{s:TS}(f:MR R a b base hf hg hh S w s)(hi:s.inp.length≤1000000):As prog 42 #[Ae (some ⟨R,0,none⟩)] w fun e w'=>∃ T,e=Ak (AN #[J (some ⟨a,0,none⟩) 65536 b,V Af (s.r 0),V Af (s.r 1),V Af (s.r 2),V Af (s.r 3),V Af (s.r 4),T,S,V Ad s.stop,V Af s.code])∧(∃c g d,T=J c g d)∧Ext w w':=by
 obtain⟨o,t,rfl⟩:=JB f.inp;obtain⟨x,y,rfl⟩:=JB f.out.sl;have U:=D (fun W (e:Ext w W)=>fF _ W s.inp _ (f.inp.ext e) f.xX hi);obtain⟨n,M⟩:=JH s.inp.length;obtain⟨m,N⟩:=JH s.out.length;have K:=D f.row;rw [←M,←N]at K;rw [←M]at U;rw [←N];clear f M N;obtain⟨z,Z⟩:=JH (s.r 0);obtain⟨A,h1⟩:=JH (s.r 1);obtain⟨B,h0⟩:=JH (s.r 2);obtain⟨C,h2⟩:=JH (s.r 3);obtain⟨E,h3⟩:=JH (s.r 4);obtain⟨F,h4⟩:=JH s.stop;obtain⟨H,h5⟩:=JH s.code;rw [←Z,←h1,←h0,←h2,←h3,←h4,←h5]at K ⊢;clear Z h1 h0 h2 h3 h4 h5;have h6:=D (((Ext.refl w).alloc (Ab Nw 62)).alloc (Ab Nw 62));have hj:=D (AP w (Ab Nw 62) (Ab Nw 62));have h7:=D (Ay w (Ab Nw 62) (Ab Nw 62));have hq:=D (fun j u q=>h6.cell (K j u q));go_enter func42,ntmps42;go_upto_region 1 with fail;have hk:=D ((Ext.refl w).alloc (Ab Nw 62));have hl:=D (fun j u q=>hk.cell (K j u q));go_upto_region 2 with(first|(refine KV rfl Cx rfl hl OQ ?_)|(refine L8 rfl rfl rfl h7 OQ ?_));have I:=D (Bo ((w.alloc (Ab Nw 62)).alloc (Ab Nw 62)) (w.heap.size+1) Nw #[J (some ⟨a,0,none⟩) 65536 b,V Af z,V Af A,V Af B,V Af C,V Af E,J o n t,J x m y,V Ad F,V Af H] 62 (0,0) h7);have L:=D (h6.setRow (CA w.heap.size) #[J (some ⟨a,0,none⟩) 65536 b,V Af z,V Af A,V Af B,V Af C,V Af E,J o n t,J x m y,V Ad F,V Af H]);have h8:AA (JK (fun k=>k=w.heap.size+1) ((w.alloc (Ab Nw 62)).alloc (Ab Nw 62)) (((w.alloc (Ab Nw 62)).alloc (Ab Nw 62)).setRow (w.heap.size+1) #[J (some ⟨a,0,none⟩) 65536 b,V Af z,V Af A,V Af B,V Af C,V Af E,J o n t,J x m y,V Ad F,V Af H])):=D (JK.setRow (G:=fun k=>k=w.heap.size+1) (JK.refl _) (AB rfl) _);have O:=D (h8.heap hj (by omega));obtain⟨X,h9⟩:=JH w.heap.size;have ha:AA (w.heap.size≤X∧w.heap.size≤X+1):=D (by omega);rw [←h9]at I L O ⊢;clear h9 h8;generalize((w.alloc (Ab Nw 62)).alloc (Ab Nw 62)).setRow (X+1) #[J (some ⟨a,0,none⟩) 65536 b,V Af z,V Af A,V Af B,V Af C,V Af E,J o n t,J x m y,V Ad F,V Af H]=W3 at I L O ⊢;have hb:=bk I 6;go_upto_region 3 with(go_at_call 38;refine(U _ L).mono ?_;rintro e i ⟨v,rfl,hc, -,l⟩;have hm:i.cell? ⟨X+1,6,none⟩=some (J o n t):=l.cell hb;have hn:i.frozen? ⟨X+1,6,none⟩=false:=JF (CE l I) 6;obtain⟨c,d,rfl⟩:=JB hc);have ho:=D (CE l I);have hp:=D (CE l O);have P:=D ((L.trans l).setCell (p:=⟨X+1,6,none⟩) ha.2 (J c s.inp.length d));obtain⟨g,hd⟩:=JH s.inp.length;rw [←hd]at P ⊢;have he:AA ((i.setCell ⟨X+1,6,none⟩ (J c g d)).heap[X+1]?= some (Ab #[J (some ⟨a,0,none⟩) 65536 b,V Af z,V Af A,V Af B,V Af C,V Af E,J c g d,J x m y,V Ad F,V Af H] 62)):=D (JJ ho 6 _);have Q:AA ((i.setCell ⟨X+1,6,none⟩ (J c g d)).heap[X]?= some (Ab Nw 62)):=D (JK.heap (JK.setCell (G:=fun k=>k=X+1) (p:=⟨X+1,6,none⟩) (JK.refl i) (AB rfl) _) hp (by omega));generalize i.setCell ⟨X+1,6,none⟩ (J c g d)=W5 at he Q P ⊢;clear hd hc l hm hn hb;go_wp2_with (first|(refine LH rfl Cx rfl he OQ ?_)|(refine L8 rfl rfl rfl Q OQ ?_));refine K3 results42 Cx OQ (PO Q) ?_
 exact⟨_,rfl,⟨_,_,_,rfl⟩,P.setRow ha.1 _⟩
end Go.Proofs.YtmkomefmgcpnbaaGreatDoor

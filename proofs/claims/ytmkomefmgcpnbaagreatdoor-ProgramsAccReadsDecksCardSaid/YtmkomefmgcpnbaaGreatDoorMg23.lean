import Derived.Test.YtmkomefmgcpnbaaGreatDoorMg22
set_option linter.all false
set_option maxHeartbeats 12800000
set_option maxRecDepth 100000
namespace Go.Proofs.YtmkomefmgcpnbaaGreatDoor
open Tryz Go Go.Proofs Go.RowKit
open Pg (Bs)
open Pm (Tm Ac In TS upd Lx MF NZ MK Ls Mm Re UB VM)
open _root_.Array renaming getElem?_eq_some_iff→Ag
open Go renaming Addr→Bi,Calls→As,Ending→BX,Value→h,World→Y,bodyPost_ret→B1,heap_alloc2_new→Ay,heap_alloc2_old→AP,heap_alloc_new→Aj,setRow_heap→Bo,wpList_store_row→CK,Program→BR,TypeDesc→DK,TypeId→AK,results→El,run_loadVar_row→DI,setRow_other→C7,undef→Ca
open Go.Ending renaming returned→Ak
open Go.IntKind renaming i64→Ad,u32→Af
open Go.Lib renaming hid→D
open Go.Obj renaming cells→Ab
open Go.Proofs.Tryz renaming underlying26→Bd,underlying62→Cx
open Go.RowKit renaming Hid→AA
open Go.Value renaming agg→AN,int→V,oneCell'→CT,slice→J,tuple→AZ,pointer→Ae,string→Aa
open _root_.Nat renaming lt_of_lt_of_le→Ar,le_refl→Aw
open _root_.Or renaming inl→AO,inr→AB
open Go.Act renaming put→Au
open Go.Result renaming ok→Ez
open Go.ResultVar renaming tmp→Jt
open Go.TypeDesc renaming array→DX,struct→DA
abbrev Zm:Array h:= #[J none 0 0,V Ad 0,V Af 0,V Ad 0]
theorem sV:(prog.info? 42).map (·.size)=some 4:=by kernel_rfl
def zv7 (w:Y)(s:TS)(e:BX)(w':Y):Prop:=∃ a k U,e=Ak (AZ #[AN #[a,V Ad s.stop,V Af s.code,V Ad k],AN OL])∧Ju KB U w' s.out a∧(∀k,U k→w.heap.size≤k)∧Ext w w'
theorem yL7 (h7:h)(h8 x3:Nat→Prop)(w:Y)(h9:Ju KI h8 w J3 h7)(x4:∀ k,h8 k→k<w.heap.size)(L:List Nat)(hk:Option Bi)(x5:Nat)(xy:0<L.length)(xz:L.length≤65536)(x6:Ol w hk (L.map fun(n:Nat)=>V Af (n:Int)))(inp:List Nat)(ha:h)(hl:Ju KB x3 w inp ha)(y0:Mw ha)(hlen:inp.length≤400000)(steps:Nat)(y1:steps≤50000000)(x7:Re ⟨fun i=>L[i]?.getD 0,fun _=>0,inp,[],0,0,0⟩):
 As prog 13 #[AN #[V Ad 65536,h7],J hk L.length x5,ha,V Ad steps] w (zv7 w (Pm.UK steps ⟨fun i=>L[i]?.getD 0,fun _=>0,inp,[],0,0,0⟩)):=by
 have hb:=D (fun W (e:Ext w W)=>zv1 h7 h8 x3 W (h9.ext e) L hk x5 xy xz (x6.ext e) inp ha (hl.ext e) y0 hlen);have hc:=D (fun W (e:Ext w W) g c hm hd (y2:TH W g (fun i=>L[i]?.getD 0)) (h1:Ju KB hm W inp hd) (y3:Mw hd)=>yl1 h7 h8 hm W (h9.ext e) (fun k q=>Ar (x4 k q) e.size) g c _ y2 inp hd h1 y3 hlen steps y1 x7);obtain⟨A,R,rfl⟩:=JB h9;obtain⟨yb,yc,rfl⟩:=JB hl;rw [show J3.length=32 from rfl]at hb hc ⊢;obtain⟨n,hn⟩:=JH inp.length;obtain⟨m,ho⟩:=JH L.length;obtain⟨hp,hq⟩:=JH (Pm.UK steps ⟨fun i=>L[i]?.getD 0,fun _=>0,inp,[],0,0,0⟩);rw [←hn,←ho]at hb;rw [←hq]at hc;rw [←hn,←ho,←hq];obtain⟨X,U⟩:=JH w.heap.size;have Z:AA (Ext w (((w.alloc (Ab #[V Ad 65536,J A 32 R] 47)).alloc (Ab Zm 42)).alloc (Ab OL 26))):=D ((((Ext.refl w).alloc _).alloc _).alloc _);have h0:AA ((((w.alloc (Ab #[V Ad 65536,J A 32 R] 47)).alloc (Ab Zm 42)).alloc (Ab OL 26)).heap[X]?= some (Ab #[V Ad 65536,J A 32 R] 47)):=D (by subst U;exact MX (MX (NR rfl)));have hr:AA ((((w.alloc (Ab #[V Ad 65536,J A 32 R] 47)).alloc (Ab Zm 42)).alloc (Ab OL 26)).heap[X+1]?= some (Ab Zm 42)):=D (by subst U;exact MX (NR (by simp)));have he:AA ((((w.alloc (Ab #[V Ad 65536,J A 32 R] 47)).alloc (Ab Zm 42)).alloc (Ab OL 26)).heap[X+1+1]?= some (Ab OL 26)):=D (by subst U;exact NR (by simp));clear h9 hl x6 hn ho hq x7 x4;go_enter func13,ntmps13;go_upto_region 1 with fail;rw [←U];have y4:AA (w.heap.size≤X):=D (by omega);clear U;generalize((w.alloc (Ab #[V Ad 65536,J A 32 R] 47)).alloc (Ab Zm 42)).alloc (Ab OL 26)=W3 at Z h0 hr he ⊢;have hs:=bk h0 0;have t1:=bk h0 1;go_upto_region 2 with(first|(go_at_call 20;refine(hb _ Z).mono ?_;rintro e a ⟨g,c,hd,hm,rfl,x8,h2,ht,x9⟩;obtain⟨u,v,rfl⟩:=JB h2;obtain⟨x,xa⟩:(∃n,n=inp.length):=⟨_,rfl⟩;rw [←xa]at h2 ht ⊢;have S:=D x9;have xb:=D x8;have xc:=D h2;have y5:=D ht;have y:=AP a (Ab Nw 62) (Ab OL 26);have xd:=Ay a (Ab Nw 62) (Ab OL 26);clear x8 h2 ht x9 xa)|(refine CK rfl 62 _ _ rfl a.heap.size #[J (some ⟨g,0,none⟩) 65536 c,V Af 0,V Af 0,V Af 0,V Af 0,V Af 0,J u x v,J none 0 0,V Ad 0,V Af 0] rfl rfl 62 Nw y OQ rfl (by simp [CT]) ?_;obtain⟨hf,p1,hg,hh,r⟩:=QI (i:=0) (JK.heap (JK.setRow (G:=fun k=>k=a.heap.size) (JK.refl _) (AB rfl) #[J (some ⟨g,0,none⟩) 65536 c,V Af 0,V Af 0,V Af 0,V Af 0,V Af 0,J u x v,J none 0 0,V Ad 0,V Af 0]) xd (by omega)) rfl rfl (V Ad 0) (V Ad 0)));have s:AA (JK (fun k=>k=a.heap.size∨k=a.heap.size+1) a (((((a.alloc (Ab Nw 62)).alloc (Ab OL 26)).setRow a.heap.size #[J (some ⟨g,0,none⟩) 65536 c,V Af 0,V Af 0,V Af 0,V Af 0,V Af 0,J u x v,J none 0 0,V Ad 0,V Af 0]).setCell ⟨a.heap.size+1,0,none⟩ (V Ad 0)).setCell ⟨a.heap.size+1,1,none⟩ (V Ad 0))):=D (JK.setCell (p:=⟨a.heap.size+1,1,none⟩) (JK.setCell (p:=⟨a.heap.size+1,0,none⟩) (JK.setRow (((JK.refl a).alloc _).alloc _) (AB (AO rfl)) _) (AB (AB rfl)) _) (AB (AB rfl)) _);have hu:AA ((((((a.alloc (Ab Nw 62)).alloc (Ab OL 26)).setRow a.heap.size #[J (some ⟨g,0,none⟩) 65536 c,V Af 0,V Af 0,V Af 0,V Af 0,V Af 0,J u x v,J none 0 0,V Ad 0,V Af 0]).setCell ⟨a.heap.size+1,0,none⟩ (V Ad 0)).setCell ⟨a.heap.size+1,1,none⟩ (V Ad 0)).heap[a.heap.size]?= some (Ab #[J (some ⟨g,0,none⟩) 65536 c,V Af 0,V Af 0,V Af 0,V Af 0,V Af 0,J u x v,J none 0 0,V Ad 0,V Af 0] 62)):=D (JK.heap (JK.setCell (G:=fun k=>k=a.heap.size+1) (p:=⟨a.heap.size+1,1,none⟩) (JK.setCell (G:=fun k=>k=a.heap.size+1) (p:=⟨a.heap.size+1,0,none⟩) (JK.refl _) (AB rfl) _) (AB rfl) _) (Bo _ _ Nw #[J (some ⟨g,0,none⟩) 65536 c,V Af 0,V Af 0,V Af 0,V Af 0,V Af 0,J u x v,J none 0 0,V Ad 0,V Af 0] 62 (0,0) y) (by omega));have xe:=D (S.size);have t:=D (s.ext (fun k xf=>by omega));obtain⟨P,xg⟩:=JH a.heap.size;have h3:AA (X+1+1<P∧w.heap.size≤P):=D (by have:=(Ag.1 he).1;have:=Z.size;have:=xe.out;omega);rw [←xg]at r s hu t hf p1 hg hh ⊢;clear xg y xd hf p1 hg hh xe hs t1;generalize((((a.alloc (Ab Nw 62)).alloc (Ab OL 26)).setRow P #[J (some ⟨g,0,none⟩) 65536 c,V Af 0,V Af 0,V Af 0,V Af 0,V Af 0,J u x v,J none 0 0,V Ad 0,V Af 0]).setCell ⟨P+1,0,none⟩ (V Ad 0)).setCell ⟨P+1,1,none⟩ (V Ad 0)=W5 at r s hu t ⊢;have z:=D r;have xh:=D (xb.ext t);have hv:=D (Z.trans (S.trans t));have xi:=D (xc.ext t);have hw:=D (CE (S.trans t) h0);have hx:=D (CE (S.trans t) hr);have hy:=D (CE (S.trans t) he);have xj:=bk z 0;have xk:=bk z 1;have hs:=bk hw 0;have t1:=bk hw 1;clear r hb S xb xc Z h0 hr he t s;have h2:¬ (50000000:Int)<(steps:Int):=by omega
 have yd:¬ (steps:Int)<0:=by omega
 go_upto_region 6 with fail;have xl:=D (hc _ hv g c _ _ xh xi y5);obtain⟨l,xm⟩:=JH hp.stop;obtain⟨o,xn⟩:=JH hp.code;have xo:=D xm;have xp:=D xn;clear xm xn hc;go_upto_region 7 with(first|(refine LH rfl Cx rfl hu.out OQ ?_)|(go_at_call 22;refine xl.out.mono ?_;rintro e b ⟨ye,yf,yg,B,C,E,F,H,k,rfl,⟨y6,xq,hi⟩,⟨I,K,rfl⟩,⟨M,O,Q,rfl⟩,T⟩;obtain⟨d,f,rfl⟩:=JB hi;obtain⟨j,xr⟩:(∃n,n=hp.out.length):=⟨_,rfl⟩;rw [←xr]at hi ⊢;rw [←xo.out,←xp.out];have h4:=D T;have xs:=D hi;have hz:=D xq;have y:=Aj b (Ab Nw 62);have y7:=D (CE (T.trans ((Ext.refl b).alloc (Ab Nw 62))) hx.out);have y8:=D (CE (T.trans ((Ext.refl b).alloc (Ab Nw 62))) hy.out);have xt:=D (CE (T.trans ((Ext.refl b).alloc (Ab Nw 62))) z.out);have xu:(P+1<b.heap.size):=(by have:=(Ag.1 z.out).1;have:=T.size;omega);clear hi T xq xr)|(refine CK rfl 62 _ _ rfl b.heap.size #[J I 65536 K,V Af B,V Af C,V Af E,V Af F,V Af H,J M O Q,J d j f,V Ad l,V Af o] rfl rfl 62 Nw y OQ rfl (by simp [CT]) ?_;obtain⟨hf,p1,hg,hh,r⟩:=QI (i:=0) (JK.heap (JK.setRow (G:=fun k=>k=b.heap.size) (JK.refl _) (AB rfl) #[J I 65536 K,V Af B,V Af C,V Af E,V Af F,V Af H,J M O Q,J d j f,V Ad l,V Af o]) xt.out (by omega)) rfl rfl (V Ad 0) (V Ad 0)));have s:AA (JK (fun k=>k=b.heap.size∨k=P+1) b ((((b.alloc (Ab Nw 62)).setRow b.heap.size #[J I 65536 K,V Af B,V Af C,V Af E,V Af F,V Af H,J M O Q,J d j f,V Ad l,V Af o]).setCell ⟨P+1,0,none⟩ (V Ad 0)).setCell ⟨P+1,1,none⟩ (V Ad 0))):=D (JK.setCell (p:=⟨P+1,1,none⟩) (JK.setCell (p:=⟨P+1,0,none⟩) (JK.setRow ((JK.refl b).alloc _) (AB (AO rfl)) _) (AB (AB rfl)) _) (AB (AB rfl)) _);have h5:AA (((((b.alloc (Ab Nw 62)).setRow b.heap.size #[J I 65536 K,V Af B,V Af C,V Af E,V Af F,V Af H,J M O Q,J d j f,V Ad l,V Af o]).setCell ⟨P+1,0,none⟩ (V Ad 0)).setCell ⟨P+1,1,none⟩ (V Ad 0)).heap[b.heap.size]?= some (Ab #[J I 65536 K,V Af B,V Af C,V Af E,V Af F,V Af H,J M O Q,J d j f,V Ad l,V Af o] 62)):=D (JK.heap (JK.setCell (G:=fun k=>k=P+1) (p:=⟨P+1,1,none⟩) (JK.setCell (G:=fun k=>k=P+1) (p:=⟨P+1,0,none⟩) (JK.refl _) (AB rfl) _) (AB rfl) _) (Bo _ _ Nw #[J I 65536 K,V Af B,V Af C,V Af E,V Af F,V Af H,J M O Q,J d j f,V Ad l,V Af o] 62 (0,0) y) (by omega));have yh:=D xu;have yi:=D h4.out.size;have hj:=D (s.heap (CE h4 hx) (fun q=>by have:=h3.out;omega));have x0:=D (s.heap (CE h4 hy) (fun q=>by have:=h3.out;omega));have x1:=D (xs.upd s (fun q h6 e=>by have:=hz q h6;have:=(Ag.1 z).1;omega) (fun _ q=>q));have x2:=D (((Gl (G:=fun k=>k=b.heap.size∨k=P+1) (hv.trans h4)).trans s).ext (fun k xf q=>by have:=h3.out;omega));obtain⟨N,xv⟩:=JH b.heap.size;rw [←xv]at r h5 s hj x0 x1 x2 ⊢;clear xv y y7 y8 xt hf p1 hg hh hs t1 xj xk xu s;generalize(((b.alloc (Ab Nw 62)).setRow N #[J I 65536 K,V Af B,V Af C,V Af E,V Af F,V Af H,J M O Q,J d j f,V Ad l,V Af o]).setCell ⟨P+1,0,none⟩ (V Ad 0)).setCell ⟨P+1,1,none⟩ (V Ad 0)=W6 at r h5 hj x0 x1 x2 ⊢;have xw:=D r;have xj:=bk xw 0;have xk:=bk xw 1;have g0:=bk h5 7;have yj:=bk h5 8;have yk:=bk h5 9;clear r xl xs h4 hv xi xh hw hx hy;go_upto_region 9 with fail;have y9:=D (JK.heap (JK.setRow (G:=fun k=>k=X+1) (JK.refl W6) (AB rfl) #[J d j f,V Ad l,V Af o,V Ad k]) x0 (by omega));obtain⟨yl,ym,q2,q3,r⟩:=QI (i:=0) y9 rfl rfl (V Ad 0) (V Ad 0);go_wp2_with (refine L8 rfl rfl rfl hj sV ?_);have xx:JK (fun k=>k=X+1∨k=X+1+1) W6 _:=JK.setCell (p:=⟨X+1+1,1,none⟩) (JK.setCell (p:=⟨X+1+1,0,none⟩) (JK.setRow (JK.refl W6) (AB (AO rfl)) #[J d j f,V Ad l,V Af o,V Ad k]) (AB (AB rfl)) (V Ad 0)) (AB (AB rfl)) (V Ad 0);have ya:=JK.heap (JK.setCell (G:=fun k=>k=X+1+1) (p:=⟨X+1+1,1,none⟩) (JK.setCell (G:=fun k=>k=X+1+1) (p:=⟨X+1+1,0,none⟩) (JK.refl (W6.setRow (X+1) #[J d j f,V Ad l,V Af o,V Ad k])) (AB rfl) (V Ad 0)) (AB rfl) (V Ad 0)) (Bo W6 (X+1) Zm #[J d j f,V Ad l,V Af o,V Ad k] 42 (0,0) hj) (by omega);refine B1 (Xp results13 _ _ (X+1) (X+1+1) 42 26 #[J d j f,V Ad l,V Af o,V Ad k] OL (0,0) (0,0) _ _ rfl rfl ya r underlying42 rfl sV Bd rfl cZ) rfl ?_
 exact⟨J d j f,k,y6,by rw [←xo,←xp],x1.upd xx (fun q h6 e=>by have:=hz q h6;have:=h3.out;have:=(Ag.1 z).1;omega) (fun _ q=>q),fun q h6=>by have:=hz q h6;have:=h3.out;have:=(Ag.1 z).1;omega,((Gl (G:=fun k=>k=X+1∨k=X+1+1) x2).trans xx).ext (fun k xf q=>by have:=y4.out;omega)⟩
theorem sW {P:BR}{fn:Func}{t u q:Tmp}{a:AK}(g:fn.results= #[Jt t,Jt u,.cell q a])(tmps:Array h)(w:Y)(b:Nat)(e:AK)(c:Array h)(f:Nat×Nat)(d:DK)
 (i:tmps.getD q Ca=Ae (some ⟨b,0,none⟩)) (j:w.heap[b]?= some (Ab c e f)) (k:P.underlying a=some d) (l:(match d with|DA _|DX _ _=>true|_=>false)=true) (m:(P.info? a).map (·.size)=some c.size):
 (El fn tmps).run P w=Ez (AZ #[tmps.getD t Ca,tmps.getD u Ca,AN c]) w:=by
 have n:tmps[q]?.getD Ca=Ae (some ⟨b,0,none⟩):=by simpa using i
 simp [El,g,n,asAddr,DI w b e a c f d j k l m]
def zv9 (w:Y)(s:TS)(e:BX)(w':Y):Prop:=∃ a U,e=Ak (AZ #[a,V Af s.code,AN NU])∧Ju KB U w' s.out a∧Ext w w'
theorem yL8 (name:ByteArray)(L:List Nat)(w:Y)(h7:∀ W,Ext w W→As prog 11 #[Aa name] W (Ww W L))(h8:0<L.length)(h9:L.length≤65536)(inp:List Nat)(ha:Nat→Prop)(z:h)(I:Ju KB ha w inp z)(hb:Mw z)(hlen:inp.length≤400000)(hc:Re ⟨fun i=>L[i]?.getD 0,fun _=>0,inp,[],0,0,0⟩)(s:TS)(hd:s=Pm.UK 50000000 ⟨fun i=>L[i]?.getD 0,fun _=>0,inp,[],0,0,0⟩)(he:s.stop=1):
 As prog 5 #[Aa name,z] w (zv9 w s):=by
 have M:=D h7;have l:=D (fun(U:Nat→Prop) (N:h) W (x:Ext w W) (hf:Option Bi) (x9:Nat) (o:Ju KI U W J3 N) (xa:∀ k,U k→k<W.heap.size) (B:Ol W hf (L.map fun(n:Nat)=>V Af (n:Int)))=>yL7 N U ha W o xa L hf x9 h8 h9 B inp z (I.ext x) hb hlen 50000000 (by omega) hc);rw [←hd]at l;obtain⟨xq,hg,hh,hi⟩:=alw w (Ab NU 26);have hj:=D he;unfold Ww at M;unfold zv7 at l;obtain⟨xr,xs,rfl⟩:=JB I;obtain⟨n,hk⟩:=JH inp.length;obtain⟨m,O⟩:=JH L.length;rw [←hk]at l hlen ⊢;rw [←O]at l M;have xt:decide ((400000:Int)<n)=false:=by simp;omega
 clear h7 h8 h9 I hb hc hd he hk O;go_enter func5,ntmps5;go_upto_region 1 with fail
 try rw [hg]
 clear hg;obtain⟨d,C⟩:=JH w.heap.size;have Q:AA (w.heap.size≤d):=D (by omega);rw [←C]at hi ⊢;clear C;go_upto_region 4 with(go_at_call 11;refine(M _ hh).mono ?_;rintro e r ⟨A,c,rfl,R,hl⟩;have hm:=D (hh.trans R);have S:=D (CE R hi);have hn:=D hl;clear R hl);have T:=D (hm.alloc (Ab NU 26));have X:=D (MX (q:=Ab NU 26) S);have Z:=D (Aj r (Ab NU 26));have ho:AA (d<r.heap.size):=D (Ag.1 S).1;obtain⟨xu,c',xb, -, -, -,B⟩:=NQ hn;injection xb with xc xd xe
 subst xc;have hp:=D (B.ext ((Ext.refl r).alloc (Ab NU 26)));clear B xd xe;generalize r.alloc (Ab NU 26)=hq at T X Z hp ⊢;obtain⟨b,E⟩:=JH r.heap.size;rw [←E]at Z ho ⊢;clear E hm S hn;go_upto_region 6 with fail;go_upto_region 7 with(first|(go_at_call 14;refine(lX _).mono ?_;rintro e h0 ⟨N,rfl,o,j⟩;have xf:=D (l _ _ h0 (T.trans j) A c o (fun k q=>q.2) (hp.ext j));obtain⟨xv,xw,rfl⟩:=JB o;have hr:=D (T.trans j);have xg:=D j;have xh:=D (CE j X);have hs:=D (CE j Z);clear j o)|(go_at_call 13;refine xf.mono ?_;rintro e a ⟨xi,k,U,rfl,h1,ht,F⟩;have hu:=D ht;have hv:=D (hr.trans F);have hw:=D (CE F xh);have H:=D (CE F hs);have hx:=D h1;have h2:=D (Aj a (Ab Zm 42));have t:=D ((C7 (a.alloc (Ab Zm 42)) a.heap.size b #[xi,V Ad s.stop,V Af s.code,V Ad k] (by have:=(Ag.1 H).1;omega)).trans (MX (q:=Ab Zm 42) H));obtain⟨hz,x0,rfl⟩:=JB h1;obtain⟨x1,h3⟩:∃ q,q=s.out.length:=⟨_,rfl⟩;rw [←h3]at t ⊢;have xj:=D h3;clear h3 F h1 ht)|(refine L8 rfl rfl rfl h2 sV ?_)|(refine L8 rfl rfl rfl t Pk ?_));have C:=Q.out;have E:=ho.out;have xk:b<h0.heap.size:=(Ag.1 hs).1;have xl:b<a.heap.size:=(Ag.1 H).1;obtain⟨f,x2⟩:∃ f:Array h,f= #[J hz x1 x0,V Ad s.stop,V Af s.code,V Ad k]:=⟨_,rfl⟩;have h4:JK (fun k=>k=b) a (((a.alloc (Ab Zm 42)).setRow a.heap.size f).setRow b NU):=((Gl (G:=fun k=>k=b) ((Ext.refl a).alloc _)).setRow (AO (Aw _)) f).setRow (AB rfl) NU;have x3:=D (((hv.alloc (Ab Zm 42)).setRow (g:=a.heap.size) (by omega) f).setRow (g:=b) (by omega) NU);have u:=D ((C7 ((a.alloc (Ab Zm 42)).setRow a.heap.size f) b a.heap.size NU (by omega)).trans (Bo _ a.heap.size Zm f _ _ h2));rw [←x2]at t ⊢;have h5:=D (Bo _ b NU NU _ _ t);have x4:=D (h4.heap hw (fun c=>by have x5:d=b:=c;omega));have x6:=D (hx.upd h4 (fun k q c=>by have x5:k=b:=c;have:=hu k q;omega) (fun _ q=>q));have xm:AA (hq.heap.size≤h0.heap.size):=D (by have:=xg.size;omega);clear h4 C E xk xl hv hr H hw t h2 hx;generalize((a.alloc (Ab Zm 42)).setRow a.heap.size f).setRow b NU=v at x3 u h5 x4 x6 ⊢;obtain⟨P,x7⟩:=JH a.heap.size;rw [←x7]at u ⊢;subst x2;have xx:AA (s.stop=1):=hj;have xn:=bk u 0;have p1:v.cell? ⟨P,1,none⟩=some (V Ad 1):=by rw [JA u 1,show(1:Int)=(s.stop:Int) by rw [hj];rfl];rfl
 have xo:=bk u 2;have xy:=bk h5 0;have xz:=bk h5 1;obtain⟨y0,y1,z1,f1,xp⟩:=RG x4 (V Ad 0) (V Ad 0);clear x7;go_upto_region 11 with fail;refine JX.go (fun W=>W=v.drew) [7] rfl (fun y=>?_);refine JC y ?_
 refine JC y ?_ (hy:=by(intro w h6;subst h6;have q:v.drew.cell? ⟨P,0,none⟩=some (J hz x1 x0):=xn;go_simp;(try with_reducible rfl)))
 refine JC y ?_
 refine JC y ?_ (hy:=by(intro w h6;subst h6;have q:v.drew.cell? ⟨P,2,none⟩=some (V Af s.code):=xo;go_simp;(try with_reducible rfl)))
 iterate 3 refine JC y ?_
 try simp only [Au,pA,pB,pC]
 refine JX.fn (fun K x8=>?_);go_simp;refine x8 _ _ ?_
 clear x8 K
 try simp only [Au,pA,pB,pC]
 refine JV ?_
 go_wp2_with fail;refine B1 (sW results5 _ _ d 26 #[V Ad 0,V Ad 0] (0,0) _ rfl xp Bd rfl Pk) rfl ?_
 refine⟨_,U,rfl,?_,((x3.setCell (p:=⟨d,0,none⟩) Q _).setCell (p:=⟨d,1,none⟩) Q _).drew⟩;have y2:d<hq.heap.size:=(Ag.1 X).1;have O:=xm.out;rw [xj];exact x6.upd (((Gl (G:=fun k=>k=d) (Ext.refl v)).setCell (p:=⟨d,0,none⟩) (AB rfl) _).setCell (p:=⟨d,1,none⟩) (AB rfl) _).drew (fun k q c=>by have x5:k=d:=c;have:=hu k q;omega) (fun _ q=>q)
end Go.Proofs.YtmkomefmgcpnbaaGreatDoor
namespace Pm
open _root_.Bool renaming and_eq_true→Ah
open _root_.Nat renaming add_mod_right→C4,beq→Az,ble_eq_true_of_le→Dw,ble→A6,blt→Be,eq_of_beq_eq_true→Ap,le_of_ble_eq_true→Ai,mod_eq_of_lt→Bf,ne_of_beq_eq_false→FP,pow_succ→D6
open _root_.Or renaming inl→AO,inr→AB
inductive Tr where
 |z
 |n (v:Nat) (l r:Tr)
def Tr.get:Tr→Nat→Nat
 |.z,_=>0
 |.n v _ _,0=>v
 |.n _ l a,j+1=>cond (Az (j %2) 0) (l.get (j /2)) (a.get (j /2))
def SQ {α:Type}:Nat→Tr→Nat→Nat→(Tr→α)→α
 |0,t,_,_,k=>k t
 |_+1,.z,0,v,k=>k (.n v .z .z)
 |f+1,.z,j+1,v,k=>cond (Az (j %2) 0) (SQ f .z (j /2) v fun l=>k (.n 0 l .z)) (SQ f .z (j /2) v fun a=>k (.n 0 .z a))
 |_+1,.n _ l a,0,v,k=>k (.n v l a)
 |f+1,.n x l a,j+1,v,k=>cond (Az (j %2) 0) (SQ f l (j /2) v fun l=>k (.n x l a)) (SQ f a (j /2) v fun a=>k (.n x l a))
def Tr.set (f:Nat)(t:Tr)(i v:Nat):Tr:=SQ f t i v id
theorem Pb {α:Type}:∀ (f:Nat)(t:Tr)(i v:Nat)(k:Tr→α),SQ f t i v k=k (Tr.set f t i v)
 |0,t,_,_,k=>rfl
 |_+1,.z,0,v,k=>rfl
 |f+1,.z,j+1,v,k=>by
  unfold Tr.set SQ;cases Az (j %2) 0<;>simp only [cond]
  ·rw [Pb f,Pb f (k:=fun a=>id (Tr.n 0 .z a))];rfl
  ·rw [Pb f,Pb f (k:=fun a=>id (Tr.n 0 a .z))];rfl
 |_+1,.n _ l a,0,v,k=>rfl
 |f+1,.n x l a,j+1,v,k=>by
  unfold Tr.set SQ;cases Az (j %2) 0<;>simp only [cond]
  ·rw [Pb f,Pb f (k:=fun b=>id (Tr.n x l b))];rfl
  ·rw [Pb f,Pb f (k:=fun b=>id (Tr.n x b a))];rfl
theorem l7 {α:Type}(n:Nat)(a b:α):cond (Az n 0) a b=if n=0 then a else b:=by
 cases n<;>rfl
theorem zX9 (f:Nat)(x:Nat)(l a:Tr)(j v:Nat):Tr.set (f+1) (.n x l a) (j+1) v=if j %2=0 then .n x (Tr.set f l (j /2) v) a else .n x l (Tr.set f a (j /2) v):=by
 show SQ _ _ _ _ _=_
 rw [SQ,l7];split<;>rw [Pb]<;>rfl
theorem zF0 (f:Nat)(j v:Nat):Tr.set (f+1) .z (j+1) v=if j %2=0 then .n 0 (Tr.set f .z (j /2) v) .z else .n 0 .z (Tr.set f .z (j /2) v):=by
 show SQ _ _ _ _ _=_
 rw [SQ,l7];split<;>rw [Pb]<;>rfl
theorem Qr (x:Nat)(l a:Tr)(j:Nat):(Tr.n x l a).get (j+1)=if j %2=0 then l.get (j /2)else a.get (j /2):=by
 rw [Tr.get,l7]
theorem sZ (i:Nat):Tr.z.get i=0:=by cases i<;>rfl
theorem YO:∀ (f:Nat)(t:Tr)(i v j:Nat),i+1<2 ^f→(Tr.set f t i v).get j=if j=i then v else t.get j
 |0,t,i,v,j,a=>by simp at a
 |f+1,.z,0,v,j,a=>by
  show(Tr.n v .z .z).get j=_
  cases j with
  |zero=>rfl
  |succ j=>rw [Qr,sZ,sZ];simp
 |f+1,.n x l c,0,v,j,a=>by
  show(Tr.n v l c).get j=_
  cases j with
  |zero=>rfl
  |succ j=>rw [Qr,Qr];simp
 |f+1,.z,i+1,v,j,a=>by
  have b:i /2+1<2 ^f:=by rw [D6]at a;omega
  rw [zF0];cases j with
  |zero=>
   split<;>(rw [if_neg (by omega)];rfl)
  |succ j=>
   split
   ·rw [Qr,YO f .z _ v _ b];simp only [sZ];by_cases q:j %2=0
    ·rw [if_pos q];by_cases e:j=i
     ·subst e;simp
     ·rw [if_neg (by omega),if_neg (by omega)]
    ·rw [if_neg q,if_neg (by omega)]
   ·rw [Qr,YO f .z _ v _ b];simp only [sZ];by_cases q:j %2=0
    ·rw [if_pos q,if_neg (by omega)]
    ·rw [if_neg q];by_cases e:j=i
     ·subst e;simp
     ·rw [if_neg (by omega),if_neg (by omega)]
 |f+1,.n x l c,i+1,v,j,a=>by
  have b:i /2+1<2 ^f:=by rw [D6]at a;omega
  rw [zX9];cases j with
  |zero=>
   split<;>(rw [if_neg (by omega)];rfl)
  |succ j=>
   split
   ·rw [Qr,Qr,YO f l _ v _ b];by_cases q:j %2=0
    ·rw [if_pos q,if_pos q];by_cases e:j=i
     ·subst e;simp
     ·rw [if_neg (by omega),if_neg (by omega)]
    ·rw [if_neg q,if_neg q,if_neg (by omega)]
   ·rw [Qr,Qr,YO f c _ v _ b];by_cases q:j %2=0
    ·rw [if_pos q,if_pos q,if_neg (by omega)]
    ·rw [if_neg q,if_neg q];by_cases e:j=i
     ·subst e;simp
     ·rw [if_neg (by omega),if_neg (by omega)]
def fN {α:Type}(n:Nat)(k:Nat→α):α:=match n with
 |0=>k 0
 |m+1=>k (m+1)
theorem zF1 {α:Type}(n:Nat)(k:Nat→α):fN n k=k n:=by cases n<;>rfl
def Uy (c n:Nat):Nat:=(c+4294967296 - n) %4294967296
def rdX {α:Type}(l:List Nat)(k:Nat→List Nat→α):α:=match l with
 |[]=>k 4294967295 []
 |x::l=>k x l
def Qc:Nat→Tr→Nat→Nat→Nat→Nat→List Nat→List Nat→Option (Nat×List Nat)
 |0,_,_,_,_,_,_,_=>none
 |f+1,t,p,a,c,d,inp,out=>
  cond (Be (p+1) 65536) (
  fN (t.get p) fun k=>fN (t.get (p+1)) fun n=>
  cond (Az k 2) (Qc f t (p+2) n c d inp out) <|
  cond (Az k 5) (fN (Uy c n) fun x=>cond (Be x 65536) (fN (t.get x) fun v=>Qc f t (p+2) v c d inp out) none) <|
  cond (Az k 9) (cond (Be c 65536) (SQ 18 t c a fun t=>Qc f t (p+1) a (c+1) d inp out) none) <|
  cond (Az k 27) (cond (Az a 0) (Qc f t n a c d inp out) (Qc f t (p+2) a c d inp out)) <|
  cond (Az k 26) (Qc f t n a c d inp out) <|
  cond (Az k 6) (fN (Uy c n) fun x=>cond (Be x 65536) (SQ 18 t x a fun t=>Qc f t (p+2) a c d inp out) none) <|
  cond (Az k 3) (cond (Be n 65536) (fN (t.get n) fun v=>Qc f t (p+2) v c d inp out) none) <|
  cond (Az k 4) (cond (Be n 65536) (SQ 18 t n a fun t=>Qc f t (p+2) a c d inp out) none) <|
  cond (Az k 7) (fN ((a+n) %4294967296) fun x=>cond (Be x 65536) (fN (t.get x) fun v=>Qc f t (p+2) v c d inp out) none) <|
  cond (Az k 8) (fN (Uy c 1) fun c=>cond (Be c 65536) (fN ((t.get c+n) %4294967296) fun x=>cond (Be x 65536) (SQ 18 t x a fun t=>Qc f t (p+2) a c d inp out) none) none) <|
  cond (Az k 10) (fN (Uy c n) fun c=>Qc f t (p+2) a c d inp out) <|
  cond (Az k 25) (cond (Be a n) (Qc f t (p+2) a c d inp out) none) <|
  cond (Az k 28) (cond (Be d 100&&Be c 65536) (SQ 18 t c (p+2) fun t=>Qc f t n a (c+1) (d+1) inp out) none) <|
  cond (Az k 29) (fN (Uy c n) fun c=>cond (Be c 65536&&Be 0 d) (fN (t.get c) fun p=>fN (d - 1) fun d=>Qc f t p a c d inp out) none) <|
  cond (Az k 32) (Qc f t (p+2) a n d inp out) <|
  cond (Az k 24) (Qc f t (p+1) (cond (Az a 0) 1 0) c d inp out) <|
  cond (Az k 30) (rdX inp fun x l=>Qc f t (p+1) x c d l out) <|
  cond (Az k 31) (cond (A6 20000 out.length) none (Qc f t (p+1) a c d inp (out++[a %256]))) <|
  cond (Az k 1) (some (a,out)) <|
  cond (A6 11 k&&A6 k 23) (fN (Uy c 1) fun c=>cond (Be c 65536&& !(Az a 0&&(Az k 14||Az k 15))) (fN (O9 k (t.get c) a) fun v=>Qc f t (p+1) v c d inp out) none)
  none) none
structure RX (t:Tr) (p a c d:Nat) (inp out:List Nat) (m:MS):Prop where
 mem:∀ i,t.get i=m.mem i
 pc:m.pc=p
 a:m.a=a
 c:m.c=c
 dd:m.d=d
 inp:m.inp=inp
 out:m.out=out
 stop:m.stop=0
 dl:d≤100
theorem MV {α:Type}{b:Bool}{x:Option α}{v:α}(a:cond b x none=some v):b=true∧x=some v:=by
 cases b with
 |true=>exact⟨rfl,a⟩
 |false=>cases a
theorem Nz {a b:Nat}(c:Be a b=true):a<b:=Ai c
theorem WH {t:Tr}{m:Nat→Nat}(a:∀ i,t.get i=m i){i:Nat}(b:i<65536)(v:Nat):∀ j,(Tr.set 18 t i v).get j=upd m i v j:=fun j=>by
 rw [YO 18 t i v j (by omega)];unfold upd;rw [a j]
theorem Qw {n:Nat}{k:Nat→Option (Nat×List Nat)}{v:Nat×List Nat}(a:fN n k=some v):k n=some v:=by rw [zF1]at a;exact a
theorem YP {t:Tr}{i x:Nat}{k:Tr→Option (Nat×List Nat)}{v:Nat×List Nat}(b:SQ 18 t i x k=some v):k (Tr.set 18 t i x)=some v:=by rw [Pb]at b;exact b
def Tp (f:Nat)(m:MS)(a:Nat×List Nat):Prop:=∃ k,k≤f∧(it k m).stop=1∧(it k m).code=a.1∧(it k m).out=a.2
def IH (f:Nat):Prop:=∀ {t:Tr}{p a c d:Nat}{inp out:List Nat}{m:MS}{b:Nat×List Nat},Qc f t p a c d inp out=some b→RX t p a c d inp out m→Tp f m b
theorem Tp.go {f:Nat}{m a:MS}{b:Nat×List Nat}(c:LZ m=a)(d:Tp f a b):Tp (f+1) m b:=by
 obtain⟨k,g,e⟩:=d;exact⟨k+1,by omega,by rw [it,c];exact e⟩
theorem y80 {d:Nat}(a:0<d)(k:d≤100):(d+4294967296 - 1) %4294967296=d - 1:=by
 rw [show d+4294967296 - 1=(d - 1)+4294967296 by omega,C4];exact Bf (by omega)
section
variable {t:Tr}{mem:Nat→Nat}{p a c d n code:Nat}{inp out:List Nat}(hm:∀ i,t.get i=mem i)(hd:d≤100)
include hm hd
theorem q2:RX t p n c d inp out (Lu 2 n ⟨mem,p,a,c,d,inp,out,0,code⟩):=by
 simp only [Lu,Nat.reduceEqDiff, ↓reduceIte];exact⟨hm,rfl,rfl,rfl,rfl,rfl,rfl,rfl,hd⟩
theorem q5 (b:Uy c n<65536):RX t p (t.get (Uy c n)) c d inp out (Lu 5 n ⟨mem,p,a,c,d,inp,out,0,code⟩):=by
 unfold Lu Uy at*
 rw [if_neg (by decide),if_neg (by decide),if_neg (by decide),if_pos rfl,if_pos b];exact⟨hm,rfl,(hm _).symm,rfl,rfl,rfl,rfl,rfl,hd⟩
theorem q6 (b:Uy c n<65536):RX (Tr.set 18 t (Uy c n) a) p a c d inp out (Lu 6 n ⟨mem,p,a,c,d,inp,out,0,code⟩):=by
 unfold Lu Uy at*
 rw [if_neg (by decide),if_neg (by decide),if_neg (by decide),if_neg (by decide),if_pos rfl,if_pos b];exact⟨WH hm b _,rfl,rfl,rfl,rfl,rfl,rfl,rfl,hd⟩
theorem q9 (b:c<65536):RX (Tr.set 18 t c a) p a (c+1) d inp out (PL 9 ⟨mem,p,a,c,d,inp,out,0,code⟩):=by
 simp only [PL,Nat.reduceEqDiff, ↓reduceIte];rw [if_pos b,Bf (show c+1<4294967296 by omega)];exact⟨WH hm b _,rfl,rfl,rfl,rfl,rfl,rfl,rfl,hd⟩
theorem q26:RX t n a c d inp out (Lu 26 n ⟨mem,p,a,c,d,inp,out,0,code⟩):=by
 simp only [Lu,Nat.reduceEqDiff, ↓reduceIte];exact⟨hm,rfl,rfl,rfl,rfl,rfl,rfl,rfl,hd⟩
theorem y81 (b:a=0):RX t n a c d inp out (Lu 27 n ⟨mem,p,a,c,d,inp,out,0,code⟩):=by
 simp only [Lu,Nat.reduceEqDiff, ↓reduceIte];rw [if_pos b];exact⟨hm,rfl,rfl,rfl,rfl,rfl,rfl,rfl,hd⟩
theorem y82 (b:¬ a=0):RX t p a c d inp out (Lu 27 n ⟨mem,p,a,c,d,inp,out,0,code⟩):=by
 simp only [Lu,Nat.reduceEqDiff, ↓reduceIte];rw [if_neg b];exact⟨hm,rfl,rfl,rfl,rfl,rfl,rfl,rfl,hd⟩
theorem q3 (b:n<65536):RX t p (t.get n) c d inp out (Lu 3 n ⟨mem,p,a,c,d,inp,out,0,code⟩):=by
 simp only [Lu,Nat.reduceEqDiff, ↓reduceIte];rw [if_pos b];exact⟨hm,rfl,(hm _).symm,rfl,rfl,rfl,rfl,rfl,hd⟩
theorem q4 (b:n<65536):RX (Tr.set 18 t n a) p a c d inp out (Lu 4 n ⟨mem,p,a,c,d,inp,out,0,code⟩):=by
 simp only [Lu,Nat.reduceEqDiff, ↓reduceIte];rw [if_pos b];exact⟨WH hm b _,rfl,rfl,rfl,rfl,rfl,rfl,rfl,hd⟩
theorem q7 (b:(a+n) %4294967296<65536):RX t p (t.get ((a+n) %4294967296)) c d inp out (Lu 7 n ⟨mem,p,a,c,d,inp,out,0,code⟩):=by
 simp only [Lu,Nat.reduceEqDiff, ↓reduceIte];rw [if_pos b];exact⟨hm,rfl,(hm _).symm,rfl,rfl,rfl,rfl,rfl,hd⟩
theorem q8 (b:Uy c 1<65536)(hy:(t.get (Uy c 1)+n) %4294967296<65536):RX (Tr.set 18 t ((t.get (Uy c 1)+n) %4294967296) a) p a (Uy c 1) d inp out (Lu 8 n ⟨mem,p,a,c,d,inp,out,0,code⟩):=by
 rw [hm]at hy ⊢;unfold Lu Uy at*
 rw [if_neg (by decide),if_neg (by decide),if_neg (by decide),if_neg (by decide),if_neg (by decide),if_neg (by decide),if_pos rfl,if_pos b,if_pos hy];exact⟨WH hm hy _,rfl,rfl,rfl,rfl,rfl,rfl,rfl,hd⟩
theorem q10:RX t p a (Uy c n) d inp out (Lu 10 n ⟨mem,p,a,c,d,inp,out,0,code⟩):=by
 unfold Lu Uy;rw [if_neg (by decide),if_neg (by decide),if_neg (by decide),if_neg (by decide),if_neg (by decide),if_neg (by decide),if_neg (by decide),if_pos rfl];exact⟨hm,rfl,rfl,rfl,rfl,rfl,rfl,rfl,hd⟩
theorem q25 (b:a<n):RX t p a c d inp out (Lu 25 n ⟨mem,p,a,c,d,inp,out,0,code⟩):=by
 simp only [Lu,Nat.reduceEqDiff, ↓reduceIte];rw [if_pos b];exact⟨hm,rfl,rfl,rfl,rfl,rfl,rfl,rfl,hd⟩
theorem q28 (h1:d<100)(b:c<65536):RX (Tr.set 18 t c p) n a (c+1) (d+1) inp out (Lu 28 n ⟨mem,p,a,c,d,inp,out,0,code⟩):=by
 simp only [Lu,Nat.reduceEqDiff, ↓reduceIte];rw [Bf (show d+1<4294967296 by omega),if_pos (show d+1<101 by omega),if_pos b,Bf (show c+1<4294967296 by omega)];exact⟨WH hm b _,rfl,rfl,rfl,rfl,rfl,rfl,rfl,h1⟩
theorem q29 (b:Uy c n<65536)(h1:0<d):RX t (t.get (Uy c n)) a (Uy c n) (d - 1) inp out (Lu 29 n ⟨mem,p,a,c,d,inp,out,0,code⟩):=by
 unfold Lu Uy at*
 rw [if_neg (by decide),if_neg (by decide),if_neg (by decide),if_neg (by decide),if_neg (by decide),if_neg (by decide),if_neg (by decide),if_neg (by decide),if_neg (by decide),if_neg (by decide),if_neg (by decide),if_neg (by decide),if_pos rfl,if_pos b,y80 h1 hd];exact⟨hm,(hm _).symm,rfl,rfl,rfl,rfl,rfl,rfl,(by omega)⟩
theorem q32:RX t p a n d inp out (Lu 32 n ⟨mem,p,a,c,d,inp,out,0,code⟩):=by
 simp only [Lu,Nat.reduceEqDiff, ↓reduceIte];exact⟨hm,rfl,rfl,rfl,rfl,rfl,rfl,rfl,hd⟩
theorem q24:RX t p (cond (Az a 0) 1 0) c d inp out (PL 24 ⟨mem,p,a,c,d,inp,out,0,code⟩):=by
 simp only [PL,Nat.reduceEqDiff, ↓reduceIte];exact⟨hm,rfl,by cases a<;>rfl,rfl,rfl,rfl,rfl,rfl,hd⟩
theorem y83:RX t p 4294967295 c d [] out (PL 30 ⟨mem,p,a,c,d,[],out,0,code⟩):=by
 simp only [PL,Nat.reduceEqDiff, ↓reduceIte];exact⟨hm,rfl,rfl,rfl,rfl,rfl,rfl,rfl,hd⟩
theorem y84 {x:Nat}:RX t p x c d inp out (PL 30 ⟨mem,p,a,c,d,x::inp,out,0,code⟩):=by
 simp only [PL,Nat.reduceEqDiff, ↓reduceIte];exact⟨hm,rfl,rfl,rfl,rfl,rfl,rfl,rfl,hd⟩
theorem q31 (b:¬ 20000≤out.length):RX t p a c d inp (out++[a %256]) (PL 31 ⟨mem,p,a,c,d,inp,out,0,code⟩):=by
 simp only [PL,Nat.reduceEqDiff, ↓reduceIte];rw [if_neg b];exact⟨hm,rfl,rfl,rfl,rfl,rfl,rfl,rfl,hd⟩
theorem qb {k X:Nat}(f:11≤k)(g:k≤23)(b:(c+4294967296 - 1) %4294967296=X)(hy:X<65536)(e:¬ ((k=14∨k=15)∧a=0)):RX t p (O9 k (t.get X) a) X d inp out (PL k ⟨mem,p,a,c,d,inp,out,0,code⟩):=by
 unfold PL;rw [if_neg (by omega),if_neg (by omega),if_neg (by omega),if_neg (by omega),if_neg (by omega),b,if_pos hy,if_neg e];exact⟨hm,rfl,by rw [hm],rfl,rfl,rfl,rfl,rfl,hd⟩
end
theorem yl9 {k:Nat}(a:11≤k)(b:k≤23):has k=false:=by
 obtain⟨j,rfl⟩:=Nat.exists_eq_add_of_le a;have:j<13:=by omega
 revert this;clear a b;revert j;decide
theorem bq {k j:Nat}{α:Type}{x c z:α}(b:cond (Az k j) x c=z):(k=j∧x=z)∨(k≠j∧c=z):=by
 cases e:Az k j with
 |true=>rw [e]at b;exact AO ⟨Ap e,b⟩
 |false=>rw [e]at b;exact AB ⟨FP e,b⟩
theorem zw0:∀ (f:Nat),IH f:=by
 intro f
 induction f with
 |zero=>intro _ _ _ _ _ _ _ _ _ e _;cases e
 |succ f h=>
  intro t p a c d inp out m L e I;unfold Qc at e
  replace e:=MV e
  obtain⟨w,e⟩:=e;have w:=Nz w
  replace e:=Qw e
  replace e:=Qw e
  obtain⟨mem,i,o,u,v,r,s,M,code⟩:=m;obtain⟨hm,h1,z,A,B,C,D,E,hd⟩:=I;simp only at hm h1 z A B C D E;subst h1 z A B C D E;have y:=hm i;have F:=hm (i+1);generalize t.get i=k at*
  generalize t.get (i+1)=n at*
  have s1:0<k∧k≤32∧has k=true→LZ ⟨mem,i,o,u,v,r,s,0,code⟩=Lu k n ⟨mem,i+2,o,u,v,r,s,0,code⟩:=fun⟨a,b,c⟩=>Wt rfl w y.symm F.symm a b c
  have j:0<k∧k≤32∧has k=false→LZ ⟨mem,i,o,u,v,r,s,0,code⟩=PL k ⟨mem,i+1,o,u,v,r,s,0,code⟩:=fun⟨a,b,c⟩=>jK rfl (show i<65536 by omega) y.symm a b c
  clear y F
  replace e:=bq e
  rcases e with⟨rfl,e⟩|⟨N,e⟩
  ·exact Tp.go (s1 (by decide)) (h e (q2 hm hd))
  replace e:=bq e
  rcases e with⟨rfl,e⟩|⟨O,e⟩
  ·obtain⟨g,e⟩:=MV (Qw e);exact Tp.go (s1 (by decide)) (h (Qw e) (q5 hm hd (Nz g)))
  replace e:=bq e
  rcases e with⟨rfl,e⟩|⟨P,e⟩
  ·obtain⟨g,e⟩:=MV (e);exact Tp.go (j (by decide)) (h (YP e) (q9 hm hd (Nz g)))
  replace e:=bq e
  rcases e with⟨rfl,e⟩|⟨n27,e⟩
  ·cases q:Az o 0 with
   |true=>rw [q]at e;exact Tp.go (s1 (by decide)) (h e (y81 hm hd (Ap q)))
   |false=>rw [q]at e;exact Tp.go (s1 (by decide)) (h e (y82 hm hd (FP q)))
  replace e:=bq e
  rcases e with⟨rfl,e⟩|⟨n26,e⟩
  ·exact Tp.go (s1 (by decide)) (h e (q26 hm hd))
  replace e:=bq e
  rcases e with⟨rfl,e⟩|⟨Q,e⟩
  ·obtain⟨g,e⟩:=MV (Qw e);exact Tp.go (s1 (by decide)) (h (YP e) (q6 hm hd (Nz g)))
  replace e:=bq e
  rcases e with⟨rfl,e⟩|⟨R,e⟩
  ·obtain⟨g,e⟩:=MV (e);exact Tp.go (s1 (by decide)) (h (Qw e) (q3 hm hd (Nz g)))
  replace e:=bq e
  rcases e with⟨rfl,e⟩|⟨S,e⟩
  ·obtain⟨g,e⟩:=MV (e);exact Tp.go (s1 (by decide)) (h (YP e) (q4 hm hd (Nz g)))
  replace e:=bq e
  rcases e with⟨rfl,e⟩|⟨T,e⟩
  ·obtain⟨g,e⟩:=MV (Qw e);exact Tp.go (s1 (by decide)) (h (Qw e) (q7 hm hd (Nz g)))
  replace e:=bq e
  rcases e with⟨rfl,e⟩|⟨U,e⟩
  ·obtain⟨g,e⟩:=MV (Qw e);obtain⟨hy,e⟩:=MV (Qw e);exact Tp.go (s1 (by decide)) (h (YP e) (q8 hm hd (Nz g) (Nz hy)))
  replace e:=bq e
  rcases e with⟨rfl,e⟩|⟨n10,e⟩
  ·exact Tp.go (s1 (by decide)) (h (Qw e) (q10 hm hd))
  replace e:=bq e
  rcases e with⟨rfl,e⟩|⟨n25,e⟩
  ·obtain⟨g,e⟩:=MV (e);exact Tp.go (s1 (by decide)) (h e (q25 hm hd (Nz g)))
  replace e:=bq e
  rcases e with⟨rfl,e⟩|⟨n28,e⟩
  ·obtain⟨g,e⟩:=MV (e);rw [Ah]at g;exact Tp.go (s1 (by decide)) (h (YP e) (q28 hm hd (Nz g.1) (Nz g.2)))
  replace e:=bq e
  rcases e with⟨rfl,e⟩|⟨n29,e⟩
  ·obtain⟨g,e⟩:=MV (Qw e);rw [Ah]at g;exact Tp.go (s1 (by decide)) (h (Qw (Qw e)) (q29 hm hd (Nz g.1) (Nz g.2)))
  replace e:=bq e
  rcases e with⟨rfl,e⟩|⟨n32,e⟩
  ·exact Tp.go (s1 (by decide)) (h e (q32 hm hd))
  replace e:=bq e
  rcases e with⟨rfl,e⟩|⟨n24,e⟩
  ·exact Tp.go (j (by decide)) (h e (q24 hm hd))
  replace e:=bq e
  rcases e with⟨rfl,e⟩|⟨n30,e⟩
  ·cases r with
   |nil=>exact Tp.go (j (by decide)) (h e (y83 hm hd))
   |cons x l=>exact Tp.go (j (by decide)) (h e (y84 hm hd))
  replace e:=bq e
  rcases e with⟨rfl,e⟩|⟨n31,e⟩
  ·cases q:A6 20000 s.length with
   |true=>rw [q]at e;cases e
   |false=>rw [q]at e;exact Tp.go (j (by decide)) (h e (q31 hm hd fun q2=>by rw [Dw q2]at q;cases q))
  replace e:=bq e
  rcases e with⟨rfl,e⟩|⟨W,e⟩
  ·cases e;exact⟨1,by omega,by rw [it,j (by decide)];exact⟨rfl,rfl,rfl⟩⟩
  obtain⟨g,e⟩:=MV e;rw [Ah]at g;have G:=Ai g.1;have H:=Ai g.2;obtain⟨hy,e⟩:=MV (Qw e);rw [Ah]at hy;have K:¬ ((k=14∨k=15)∧o=0):=by
   rintro⟨q,rfl⟩;rcases q with rfl|rfl<;>simp at hy
  exact Tp.go (j ⟨by omega,by omega,yl9 G H⟩) (h (Qw e) (qb hm hd G H rfl (Nz hy.1) K))
end Pm
namespace Pm
open _root_.Nat renaming beq→Az,ble→A6,blt→Be
inductive RE where
 |num (n:Nat)
 |loc (i:Nat)
 |gv (i:Nat)
 |ix (i:Nat) (e:RE)
 |call (f:Nat) (as:List RE)
 |get
 |qQ (e:RE)
 |neg (e:RE)
 |flip (e:RE)
 |bin (k:Nat) (z:Bool) (a b:RE)
 |land (a b:RE)
 |lor (a b:RE)
inductive RS where
 |PN (i:Nat) (e:RE)
 |TI (i:Nat) (e:RE)
 |sj (i:Nat) (a e:RE)
 |ite (e:RE) (b c:List RS)
 |dA (e:RE) (b:List RS)
 |call (f:Nat) (as:List RE)
 |ret (e:RE)
 |put (e:RE)
 |stop (e:RE)
 |brk
 |cont
structure RF where
 np:Nat
 nl:Nat
 body:List RS
structure Ctx where
 img:List Nat
 ce:Nat
 fa:List Nat
 fs:List RF
 ga:List Nat
 gl:List Nat
 sb:Nat
abbrev Pl:=Nat×List Nat
def t1 (X:Ctx)(k:Nat)(p:Pl):Option Pl:=match p.2 with
 |x::a=>if Az x k&&Be p.1 X.ce then some (p.1+1,a)else none
 |[]=>none
def t2 (X:Ctx)(k n:Nat)(p:Pl):Option Pl:=match p.2 with
 |x::a::b=>if Az x k&&Az a n&&Be (p.1+1) X.ce then some (p.1+2,b)else none
 |_=>none
def oV (X:Ctx)(k:Nat)(p:Pl):Option (Nat×Pl):=match p.2 with
 |x::a::b=>if Az x k&&Be (p.1+1) X.ce then some (a,(p.1+2,b))else none
 |_=>none
def slot (np i:Nat):Nat:=if i<np then i else i+1
mutual
def cE (X:Ctx)(np c:Nat):RE→Nat→Pl→Option Pl
 |.num n,_,p=>t2 X 2 n p
 |.loc i,sz,p=>if Be i c then t2 X 5 (sz - slot np i) p else none
 |.gv i,_,p=>X.ga[i]?.bind fun a=>if Az (X.gl[i]?.getD 0) 1 then t2 X 3 a p else none
 |.ix i e,sz,p=>X.ga[i]?.bind fun a=>(cE X np c e sz p).bind fun q=>(t2 X 25 (X.gl[i]?.getD 0) q).bind fun d=>t2 X 7 a d
 |.call f h,sz,p=>(yF X np c h sz p).bind fun q=>X.fa[f]?.bind fun a=>X.fs[f]?.bind fun F=>if Az F.np h.length then(t2 X 28 a q).bind fun d=>if Az h.length 0 then some d else t2 X 10 h.length d else none
 |.get,_,p=>t1 X 30 p
 |.qQ e,sz,p=>(cE X np c e sz p).bind fun q=>t1 X 24 q
 |.neg e,sz,p=>if Be sz 60 then(t2 X 2 0 p).bind fun q=>(t1 X 9 q).bind fun d=>(cE X np c e (sz+1) d).bind fun s=>t1 X 12 s
  else none
 |.flip e,sz,p=>if Be sz 60 then(t2 X 2 4294967295 p).bind fun q=>(t1 X 9 q).bind fun d=>(cE X np c e (sz+1) d).bind fun s=>t1 X 12 s
  else none
 |.bin k z a b,sz,p=>if Be sz 60&&A6 11 k&&A6 k 23 then(cE X np c a sz p).bind fun q=>(t1 X 9 q).bind fun d=>(cE X np c b (sz+1) d).bind fun s=>(t1 X k s).bind fun u=>if z then t1 X 24 u else some u
  else none
 |.land a b,sz,p=>(cE X np c a sz p).bind fun q=>(oV X 27 q).bind fun g=>(cE X np c b sz g.2).bind fun s=>(t1 X 24 s).bind fun u=>(t1 X 24 u).bind fun v=>if Az v.1 g.1 then some v else none
 |.lor a b,sz,p=>(cE X np c a sz p).bind fun o=>(t1 X 24 o).bind fun q=>(oV X 27 q).bind fun g=>(cE X np c b sz g.2).bind fun s=>(t1 X 24 s).bind fun u=>if Az u.1 g.1 then t1 X 24 u else none
def yF (X:Ctx)(np a:Nat):List RE→Nat→Pl→Option Pl
 |[],_,p=>some p
 |e::l,sz,p=>if Be sz 60 then(cE X np a e sz p).bind fun q=>(t1 X 9 q).bind fun b=>yF X np a l (sz+1) b
  else none
end
mutual
def cS (X:Ctx)(np d:Nat):RS→Nat×Nat→Pl→Option Pl
 |.PN i e,_,p=>if Be i d then(cE X np d e (d+1) p).bind fun q=>t2 X 6 (d+1 - slot np i) q
  else none
 |.TI i e,_,p=>X.ga[i]?.bind fun a=>if Az (X.gl[i]?.getD 0) 1 then(cE X np d e (d+1) p).bind fun q=>t2 X 4 a q else none
 |.sj i a e,_,p=>X.ga[i]?.bind fun g=>(cE X np d a (d+1) p).bind fun q=>(t2 X 25 (X.gl[i]?.getD 0) q).bind fun k=>(t1 X 9 k).bind fun s=>(cE X np d e (d+2) s).bind fun u=>t2 X 8 g u
 |.ite e b c,lp,p=>(cE X np d e (d+1) p).bind fun q=>(oV X 27 q).bind fun h=>(jC X np d b lp h.2).bind fun s=>if c.isEmpty then(if Az s.1 h.1 then some s else none)else(oV X 26 s).bind fun j=>if Az j.2.1 h.1 then(jC X np d c lp j.2).bind fun v=>if Az v.1 j.1 then some v else none
  else none
 |.dA e b,_,p=>(cE X np d e (d+1) p).bind fun q=>(oV X 27 q).bind fun h=>(jC X np d b (p.1,h.1) h.2).bind fun s=>(t2 X 26 p.1 s).bind fun u=>if Az u.1 h.1 then some u else none
 |.call f l,_,p=>cE X np d (.call f l) (d+1) p
 |.ret e,_,p=>(cE X np d e (d+1) p).bind fun q=>t2 X 29 (d - np+1) q
 |.put e,_,p=>(cE X np d e (d+1) p).bind fun q=>t1 X 31 q
 |.stop e,_,p=>(cE X np d e (d+1) p).bind fun q=>t1 X 1 q
 |.brk,lp,p=>t2 X 26 lp.2 p
 |.cont,lp,p=>t2 X 26 lp.1 p
def jC (X:Ctx)(np a:Nat):List RS→Nat×Nat→Pl→Option Pl
 |[],_,p=>some p
 |s::l,lp,p=>(cS X np a s lp p).bind fun q=>jC X np a l lp q
end
def YQ (X:Ctx):Nat→Pl→Option Pl
 |0,p=>some p
 |n+1,p=>(t1 X 9 p).bind fun q=>YQ X n q
def cF (X:Ctx)(F:RF)(p:Pl):Option Pl:=
 if A6 (F.np+F.nl+2) 60 then
  ((if Az F.nl 0 then some p else(t2 X 2 0 p).bind fun q=>YQ X F.nl q)).bind fun a=>(jC X F.np (F.np+F.nl) F.body (65536,65536) a).bind fun s=>(t2 X 2 0 s).bind fun u=>t2 X 29 (F.nl+1) u
 else none
def cFs (X:Ctx):List RF→List Nat→Pl→Bool
 |[],[],p=>Az p.1 X.ce
 |F::l,a::m,p=>Az a p.1&&match cF X F p with
  |none=>false
  |some q=>cFs X l m q
 |_,_,_=>false
def cG:Nat→Nat→List Nat→List Nat→Bool
 |at_,b,[],[]=>A6 at_ b
 |at_,b,a::l,n::m=>A6 at_ a&&A6 1 n&&cG (a+n) b l m
 |_,_,_,_=>false
def cX (X:Ctx)(main:Nat):Bool:=match X.fa[main]?,X.fs[main]? with
 |some a,some F=>match t2 X 32 X.sb (0,X.img)with
  |none=>false
  |some p=>match t2 X 28 a p with
   |none=>false
   |some q=>match t2 X 2 0 q with
    |none=>false
    |some b=>match t1 X 1 b with
     |none=>false
     |some s=>cFs X X.fs X.fa s&&cG X.ce X.sb X.ga X.gl&&A6 (X.sb+8000) 65536&&Az F.np 0
 |_,_=>false
structure Gs where
 g:List (List Nat)
 inp:List Nat
 out:List Nat
 t:Nat
def Gs.arr (G:Gs)(i:Nat):List Nat:=G.g[i]?.getD []
def Gs.Pj (G:Gs)(i j v:Nat):Gs:={G with g:=G.g.set i ((G.arr i).set j v)}
def Gs.tick (G:Gs)(k:Nat):Gs:={G with t:=G.t+k}
mutual
def OM:RE→Nat
 |.num _=>1
 |.loc _=>1
 |.gv _=>1
 |.ix _ e=>OM e+2
 |.call _ c=>gY c+2
 |.get=>1
 |.qQ e=>OM e+1
 |.neg e=>OM e+3
 |.flip e=>OM e+3
 |.bin _ _ a b=>OM a+OM b+3
 |.land a b=>OM a+OM b+3
 |.lor a b=>OM a+OM b+4
def gY:List RE→Nat
 |[]=>0
 |e::l=>OM e+1+gY l
end
mutual
def Rw:RS→Nat
 |.PN _ e=>OM e+1
 |.TI _ e=>OM e+1
 |.sj _ a e=>OM a+OM e+3
 |.ite e b c=>OM e+2+Uz b+Uz c
 |.dA e _=>OM e+1
 |.call _ d=>gY d+2
 |.ret e=>OM e+1
 |.put e=>OM e+1
 |.stop e=>OM e+1
 |.brk=>1
 |.cont=>1
def Uz:List RS→Nat
 |[]=>0
 |s::l=>Rw s+Uz l
end
def yG (e:RE)(b:List RS):Nat:=OM e+Uz b+2
def szF (F:RF):Nat:=F.nl+1+Uz F.body+2
end Pm
namespace Pm
open _root_.Bool renaming and_eq_true→Ah
open _root_.Classical renaming choose_spec→B4,choose→CN
open _root_.Nat renaming blt_eq→Dm,eq_of_beq_eq_true→Ap,lt_of_lt_of_le→Ar
structure ML (X:Ctx) (p:Pl):Prop where
 eq:p.2=X.img.drop p.1
theorem drop_cons {l:List Nat}{n x:Nat}{a:List Nat}(b:l.drop n=x::a):l[n]?= some x∧l.drop (n+1)=a:=by
 constructor
 ·have:=congrArg (fun l=>l[0]?) b;simpa using this
 ·have:=congrArg List.tail b;simpa [List.tail_drop]using this
theorem OT {X:Ctx}{k:Nat}{p q:Pl}(b:t1 X k p=some q)(c:ML X p):p.1<X.ce∧X.img[p.1]?= some k∧q.1=p.1+1∧ML X q:=by
 obtain⟨a,l⟩:=p;unfold t1 at b;cases l with
 |nil=>cases b
 |cons x g=>
  dsimp only at b;split at b
  ·rename_i hc;rw [Ah]at hc;have h1:=Ap hc.1;have d:a<X.ce:=by have:=hc.2;simpa [Dm]using this
   cases b;obtain⟨e,f⟩:=drop_cons c.eq.symm;exact⟨d,by rw [e,h1],rfl,⟨f.symm⟩⟩
  ·cases b
theorem NB {X:Ctx}{k n:Nat}{p q:Pl}(b:t2 X k n p=some q)(c:ML X p):p.1+1<X.ce∧X.img[p.1]?= some k∧X.img[p.1+1]?= some n∧q.1=p.1+2∧ML X q:=by
 obtain⟨a,l⟩:=p;unfold t2 at b
 match l,b,c with
 |[],b,_=>cases b
 |[_],b,_=>cases b
 |x::j::m,b,c=>
  dsimp only at b;split at b
  ·rename_i hc;rw [Ah,Ah]at hc;have h1:=Ap hc.1.1;have d:=Ap hc.1.2;have e:a+1<X.ce:=by have:=hc.2;simpa [Dm]using this
   cases b;obtain⟨f,g⟩:=drop_cons c.eq.symm;obtain⟨h,i⟩:=drop_cons g;exact⟨e,by rw [f,h1],by rw [h,d],rfl,⟨i.symm⟩⟩
  ·cases b
theorem Wy {X:Ctx}{k n:Nat}{p q:Pl}(b:oV X k p=some (n,q))(c:ML X p):p.1+1<X.ce∧X.img[p.1]?= some k∧X.img[p.1+1]?= some n∧q.1=p.1+2∧ML X q:=by
 obtain⟨a,l⟩:=p;unfold oV at b
 match l,b,c with
 |[],b,_=>cases b
 |[_],b,_=>cases b
 |x::i::j,b,c=>
  dsimp only at b;split at b
  ·rename_i hc;rw [Ah]at hc;have h1:=Ap hc.1;have d:a+1<X.ce:=by have:=hc.2;simpa [Dm]using this
   cases b;obtain⟨e,f⟩:=drop_cons c.eq.symm;obtain⟨g,h⟩:=drop_cons f;exact⟨d,by rw [e,h1],by rw [g],rfl,⟨h.symm⟩⟩
  ·cases b
structure Lay (X:Ctx):Prop where
 ce:∀ (i a n:Nat),X.ga[i]?= some a→X.gl[i]?= some n→X.ce≤a∧a+n≤X.sb∧1≤n
 ne:∀ (i i2 a a2 n n2:Nat),i<i2→X.ga[i]?= some a→X.gl[i]?= some n→X.ga[i2]?= some a2→X.gl[i2]?= some n2→a+n≤a2
 sb:X.sb+8000≤65536
 cs:X.ce≤X.sb
structure Mem (X:Ctx) (m:Nat→Nat) (G:Gs):Prop where
 code:∀ (i k:Nat),i<X.ce→X.img[i]?= some k→m i=k
 len:∀ (i n:Nat),X.gl[i]?= some n→(G.arr i).length=n
 QR:∀ (i a n:Nat),X.ga[i]?= some a→X.gl[i]?= some n→∀ j,j<n→m (a+j)=(G.arr i)[j]?.getD 0
structure At (X:Ctx) (np nv b0 d:Nat) (fr:List Nat) (sz:Nat) (G:Gs) (pc:Nat) (m:MS):Prop where
 stop:m.stop=0
 pc:m.pc=pc
 c:m.c=b0+sz
 d:m.d=d
 inp:m.inp=G.inp
 out:m.out=G.out
 mem:Mem X m.mem G
 fl:fr.length=nv
 fr:∀ i,i<nv→m.mem (b0+slot np i)=fr[i]?.getD 0
def NV (X:Ctx)(b:Nat)(m a:Nat→Nat):Prop:=∀ j,X.sb≤j→j<b→a j=m j
theorem NV.refl (X:Ctx)(b:Nat)(m:Nat→Nat):NV X b m m:=fun _ _ _=>rfl
theorem NV.trans {X:Ctx}{b:Nat}{m a c:Nat→Nat}(e:NV X b m a)(k:NV X b a c):NV X b m c:=fun j h1 d=>(k j h1 d).trans (e j h1 d)
theorem NV.mono {X:Ctx}{b a:Nat}{m c:Nat→Nat}(d:NV X b m c)(k:a≤b):NV X a m c:=fun j h1 e=>d j h1 (Ar e k)
def Halt (c:Nat)(G:Gs)(m:MS):Prop:=m.stop=1∧m.code=c∧m.out=G.out
def Kl (k:Nat)(G G2:Gs)(m a:MS):Prop:=∃ j,Go j m a∧j+G.t≤G2.t+k
theorem Kl.trans {a b:Nat}{G G2 c:Gs}{m d e:MS}(f:Kl a G G2 m d)(k:Kl b G2 c d e):Kl (a+b) G c m e:=by
 obtain⟨i,h1,h⟩:=f;obtain⟨j,g,l⟩:=k;exact⟨i+j,h1.trans g,by omega⟩
theorem Kl.mono {a b:Nat}{G G2:Gs}{m c:MS}(d:Kl a G G2 m c)(k:a≤b):Kl b G G2 m c:=by
 obtain⟨i,h1,e⟩:=d;exact⟨i,h1,by omega⟩
theorem Kl.one {G G2:Gs}{m a:MS}(b:LZ m=a)(c:G.t=G2.t):Kl 1 G G2 m a:=⟨1,Go.one b,by omega⟩
theorem Kl.refl (G:Gs)(m:MS):Kl 0 G G m m:=⟨0,Go.refl m,by omega⟩
def fG (X:Ctx)(n f:Nat)(vs:List Nat)(Q S:Nat→Gs→Prop)(G:Gs):Prop:=
 ∀(m:MS) (e ra d a:Nat),X.fa[f]?= some a→m.stop=0→m.pc=a→m.c=e+vs.length+1→m.d=d+1→d+1+n≤100→m.mem (e+vs.length)=ra→(∀i,i<vs.length→m.mem (e+i)=vs[i]?.getD 0)→
  Mem X m.mem G→m.inp=G.inp→m.out=G.out→X.sb≤e→e+64*(n+1)≤65536→
  ∃b G2,Kl 0 G G2 m b∧((b.stop=0∧b.pc=ra∧b.c=e+vs.length∧b.d=d∧Mem X b.mem G2∧b.inp=G2.inp∧b.out=G2.out∧NV X e m.mem b.mem∧Q b.a G2)∨∃ c,Halt c G2 b∧S c G2)
theorem qR:∃ f:Nat→Nat→Nat→Nat,f=O9:=⟨O9,rfl⟩
noncomputable def ins:Nat→Nat→Nat→Nat:=CN qR
theorem ins_eq:ins=O9:=B4 qR
mutual
def wE (X:Ctx)(n:Nat)(d:List Nat)(S:Nat→Gs→Prop):RE→(Nat→Gs→Prop)→Gs→Prop
 |.num v,Q,G=>Q v G
 |.loc i,Q,G=>Q (d[i]?.getD 0) G
 |.gv i,Q,G=>Q ((G.arr i)[0]?.getD 0) G
 |.ix i e,Q,G=>wE X n d S e (fun v c=>if v<X.gl[i]?.getD 0 then Q ((c.arr i)[v]?.getD 0) c else S 1 c) G
 |.call f h,Q,G=>wEs X n d S h (fun vs c=>0<n∧fG X (n - 1) f vs Q S c) G
 |.get,Q,G=>match G.inp with
  |[]=>Q 4294967295 G
  |b::l=>Q b {G with inp:=l}
 |.qQ e,Q,G=>wE X n d S e (fun v c=>Q (if v=0 then 1 else 0) c) G
 |.neg e,Q,G=>wE X n d S e (fun v c=>Q (ins 12 0 v) c) G
 |.flip e,Q,G=>wE X n d S e (fun v c=>Q (ins 12 4294967295 v) c) G
 |.bin k z a b,Q,G=>wE X n d S a (fun x c=>wE X n d S b (fun g G2=>if(k=14∨k=15)∧g=0 then S 2 G2 else Q (if z then(if ins k x g=0 then 1 else 0)else ins k x g) G2) c) G
 |.land a b,Q,G=>wE X n d S a (fun x c=>if x=0 then Q 0 c else wE X n d S b (fun g G2=>Q (if g=0 then 0 else 1) G2) c) G
 |.lor a b,Q,G=>wE X n d S a (fun x c=>if x=0 then wE X n d S b (fun g G2=>Q (if g=0 then 0 else 1) G2) c else Q 1 c) G
def wEs (X:Ctx)(n:Nat)(a:List Nat)(S:Nat→Gs→Prop):List RE→(List Nat→Gs→Prop)→Gs→Prop
 |[],Q,G=>Q [] G
 |e::l,Q,G=>wE X n a S e (fun v b=>wEs X n a S l (fun vs G2=>Q (v::vs) G2) b) G
end
structure Post where
 N:List Nat→Gs→Prop
 B:List Nat→Gs→Prop
 C:List Nat→Gs→Prop
 R:Nat→Gs→Prop
 S:Nat→Gs→Prop
mutual
def wS (X:Ctx)(n:Nat):RS→List Nat→Post→Gs→Prop
 |.PN i e,d,P,G=>wE X n d P.S e (fun v g=>P.N (d.set i v) g) G
 |.TI i e,d,P,G=>wE X n d P.S e (fun v g=>P.N d (g.Pj i 0 v)) G
 |.sj i a e,d,P,G=>wE X n d P.S a (fun x g=>if x<X.gl[i]?.getD 0 then wE X n d P.S e (fun v G2=>P.N d (G2.Pj i x v)) g else P.S 1 g) G
 |.ite e b c,d,P,G=>wE X n d P.S e (fun v g=>if v=0 then su X n c d P g else su X n b d P g) G
 |.dA e b,d,P,G=>∃ (l:List Nat→Gs→Prop) (m:List Nat→Gs→Nat),l d G∧∀ h g,h.length=d.length→l h g→
  wE X n h P.S e (fun v G2=>if v=0 then P.N h G2 else
   su X n b h {P with N:=fun j k=>l j k∧m j k<m h g,C:=fun j k=>l j k∧m j k<m h g,B:=P.N} (G2.tick (yG e b))) g
 |.call f o,d,P,G=>wEs X n d P.S o (fun vs g=>0<n∧fG X (n - 1) f vs (fun _ G2=>P.N d G2) P.S g) G
 |.ret e,d,P,G=>wE X n d P.S e P.R G
 |.put e,d,P,G=>wE X n d P.S e (fun v g=>g.out.length<20000∧P.N d {g with out:=g.out++[v %256]}) G
 |.stop e,d,P,G=>wE X n d P.S e P.S G
 |.brk,d,P,G=>P.B d G
 |.cont,d,P,G=>P.C d G
def su (X:Ctx)(n:Nat):List RS→List Nat→Post→Gs→Prop
 |[],a,P,G=>P.N a G
 |s::l,a,P,G=>wS X n s a {P with N:=fun b c=>su X n l b P c} G
end
end Pm
namespace Pm
open _root_.Nat renaming le_refl→Aw,mod_eq_of_lt→Bf
open _root_.Or renaming inl→AO,inr→AB
section
variable {X:Ctx}{np nv b0 d:Nat}{fr:List Nat}{sz:Nat}{G:Gs}{pc:Nat}{m:MS}
theorem Ym (m:Nat→Nat)(i v:Nat):upd m i v i=v:=by simp [upd]
theorem upd_ne (m:Nat→Nat){i j:Nat}(v:Nat)(a:j≠i):upd m i v j=m j:=by simp [upd,a]
theorem Mem.push (b:Mem X m.mem G)(L:Lay X){j:Nat}(l:X.sb≤j)(v:Nat):Mem X (upd m.mem j v) G:=by
 refine⟨fun i k e f=>?_,b.len,fun i a n c d g h=>?_⟩
 ·have:=L.cs;rw [upd_ne _ _ (by omega)];exact b.code i k e f
 ·have:=(L.ce i a n c d).2.1;rw [upd_ne _ _ (by omega)];exact b.QR i a n c d g h
theorem Uc {a:Nat→Nat}{b j:Nat}(c:b≤j∨j<X.sb)(v:Nat):NV X b a (upd a j v):=fun i h1 d=>upd_ne _ _ (by omega)
theorem At.word (a:At X np nv b0 d fr sz G pc m){k:Nat}(h1:pc<X.ce)(b:X.img[pc]?= some k):m.mem m.pc=k:=by
 rw [a.pc];exact a.mem.code _ _ h1 b
theorem At.word2 (a:At X np nv b0 d fr sz G pc m){k:Nat}(h1:pc+1<X.ce)(b:X.img[pc+1]?= some k):m.mem (m.pc+1)=k:=by
 rw [a.pc];exact a.mem.code _ _ h1 b
theorem At.step0 (a:At X np nv b0 d fr sz G pc m)(L:Lay X){k:Nat}{p q:Pl}(f:p.1=pc)(g:t1 X k p=some q)(h:ML X p)(i:0<k)(j:k≤32)(l:has k=false):
 LZ m=PL k {m with pc:=q.1}∧ML X q:=by
 obtain⟨b,c,e,n⟩:=OT g h;rw [f]at b c e;have o:=L.sb;have hc:=L.cs;refine⟨?_,n⟩;rw [jK a.stop (by rw [a.pc];omega) (a.word b c) i j l,a.pc,e]
theorem At.step1 (a:At X np nv b0 d fr sz G pc m)(L:Lay X){k n:Nat}{p q:Pl}(g:p.1=pc)(h:t2 X k n p=some q)(i:ML X p)(j:0<k)(l:k≤32)(o:has k=true):
 LZ m=Lu k n {m with pc:=q.1}∧ML X q:=by
 obtain⟨b,c,e,f,r⟩:=NB h i;rw [g]at b c f e;have s:=L.sb;have hc:=L.cs;refine⟨?_,r⟩;rw [Wt a.stop (by rw [a.pc];omega) (a.word (by omega) c) (a.word2 b e) j l o,a.pc,f]
theorem At.zN0 (a:At X np nv b0 d fr sz G pc m)(L:Lay X){k n:Nat}{p q:Pl}(g:p.1=pc)(h:oV X k p=some (n,q))(i:ML X p)(j:0<k)(l:k≤32)(o:has k=true):
 LZ m=Lu k n {m with pc:=q.1}∧ML X q:=by
 obtain⟨b,c,e,f,r⟩:=Wy h i;rw [g]at b c f e;have s:=L.sb;have hc:=L.cs;refine⟨?_,r⟩;rw [Wt a.stop (by rw [a.pc];omega) (a.word (by omega) c) (a.word2 b e) j l o,a.pc,f]
theorem At.Pj (b:At X np nv b0 d fr sz G pc m)(e v:Nat):At X np nv b0 d fr sz G e {m with pc:=e,a:=v}:=
 ⟨b.stop,rfl,b.c,b.d,b.inp,b.out,b.mem,b.fl,b.fr⟩
theorem At.Qd (a:At X np nv b0 d fr sz G pc m)(b:Nat):At X np nv b0 d fr sz G b {m with pc:=b}:=
 ⟨a.stop,rfl,a.c,a.d,a.inp,a.out,a.mem,a.fl,a.fr⟩
theorem At.tick (a:At X np nv b0 d fr sz G pc m)(k:Nat):At X np nv b0 d fr sz (G.tick k) pc m:=
 ⟨a.stop,a.pc,a.c,a.d,a.inp,a.out,⟨a.mem.code,a.mem.len,a.mem.QR⟩,a.fl,a.fr⟩
theorem At.push (b:At X np nv b0 d fr sz G pc m)(L:Lay X){p q:Pl}(g:p.1=pc)(h:t1 X 9 p=some q)(j:ML X p)(o:X.sb≤b0)(r:nv+1≤sz)(hc:b0+sz<65536):
 ∃f,LZ m=f∧At X np nv b0 d fr (sz+1) G q.1 f∧f.a=m.a∧f.mem (b0+sz)=m.a∧NV X (b0+sz) m.mem f.mem∧ML X q:=by
 obtain⟨e,k⟩:=b.step0 L g h j (by omega) (by omega) rfl;have l:(b0+sz+1) %4294967296=b0+sz+1:=Bf (by omega);refine⟨{m with pc:=q.1,mem:=upd m.mem (b0+sz) m.a,c:=b0+sz+1},?_,⟨b.stop,rfl,rfl,b.d,b.inp,b.out,b.mem.push L (by omega) _,b.fl,fun i n=>?_⟩,rfl,Ym _ _ _,Uc (AO (Aw _)) _,k⟩
 ·rw [e];simp only [PL,b.c,l];rw [if_neg (by omega),if_pos trivial,if_pos hc]
 ·show upd m.mem _ _ _=_
  rw [upd_ne _ _ (by unfold slot;split<;>omega)];exact b.fr i n
end
def Ms (X:Ctx)(n:Nat)(fr:List Nat)(S:Nat→Gs→Prop)(e:RE)(Q:Nat→Gs→Prop)(G:Gs):Prop:=
 ∀(np nv b0 d sz:Nat) (p q:Pl) (m:MS),cE X np nv e sz p=some q→ML X p→At X np nv b0 d fr sz G p.1 m→d+n≤100→X.sb≤b0→b0+64*(n+1)≤65536→sz≤60→nv+1≤sz→np≤nv→
  ∃b G2,Kl (OM e) G G2 m b∧((∃v,At X np nv b0 d fr sz G2 q.1 b∧b.a=v∧NV X (b0+sz) m.mem b.mem∧Q v G2)∨∃ c,Halt c G2 b∧S c G2)
def l8 (X:Ctx)(n:Nat)(fr:List Nat)(S:Nat→Gs→Prop)(l:List RE)(Q:List Nat→Gs→Prop)(G:Gs):Prop:=
 ∀(np nv b0 d sz:Nat) (p q:Pl) (m:MS),yF X np nv l sz p=some q→ML X p→At X np nv b0 d fr sz G p.1 m→d+n≤100→X.sb≤b0→b0+64*(n+1)≤65536→sz≤60→nv+1≤sz→np≤nv→
  ∃a G2,Kl (gY l) G G2 m a∧((∃vs,vs.length=l.length∧At X np nv b0 d fr (sz+l.length) G2 q.1 a∧(∀i,i<vs.length→a.mem (b0+sz+i)=vs[i]?.getD 0)∧sz+l.length≤60∧NV X (b0+sz) m.mem a.mem∧Q vs G2)∨∃ c,Halt c G2 a∧S c G2)
theorem JG {α a:Type}{o:Option α}{f:α→Option a}{b:a}(c:o.bind f=some b):∃ x,o=some x∧f x=some b:=Option.bind_eq_some_iff.1 c
mutual
theorem ME {X:Ctx}{np nv:Nat}:∀ (e:RE){sz:Nat}{p q:Pl},cE X np nv e sz p=some q→ML X p→ML X q
 |.num n,sz,p,q,c,d=>by rw [cE]at c;exact(NB c d).2.2.2.2
 |.loc i,sz,p,q,c,d=>by
  rw [cE]at c;split at c
  ·exact(NB c d).2.2.2.2
  ·cases c
 |.gv i,sz,p,q,c,d=>by
  rw [cE]at c;obtain⟨a,_,c⟩:=JG c;split at c
  ·exact(NB c d).2.2.2.2
  ·cases c
 |.ix i e,sz,p,q,c,d=>by
  rw [cE]at c;obtain⟨a,_,c⟩:=JG c;obtain⟨j,h1,c⟩:=JG c;obtain⟨q2,g,c⟩:=JG c;exact(NB c (NB g (ME e h1 d)).2.2.2.2).2.2.2.2
 |.call f s,sz,p,q,c,d=>by
  rw [cE]at c;obtain⟨j,h1,c⟩:=JG c;obtain⟨a,_,c⟩:=JG c;obtain⟨F,_,c⟩:=JG c;split at c
  ·obtain⟨q2,g,c⟩:=JG c;have m:=(NB g (tC s h1 d)).2.2.2.2;split at c
   ·cases c;exact m
   ·exact(NB c m).2.2.2.2
  ·cases c
 |.get,sz,p,q,c,d=>by rw [cE]at c;exact(OT c d).2.2.2
 |.qQ e,sz,p,q,c,d=>by
  rw [cE]at c;obtain⟨j,h1,c⟩:=JG c;exact(OT c (ME e h1 d)).2.2.2
 |.neg e,sz,p,q,c,d=>by
  rw [cE]at c;split at c
  ·obtain⟨j,h1,c⟩:=JG c;obtain⟨q2,g,c⟩:=JG c;obtain⟨q3,h,c⟩:=JG c;exact(OT c (ME e h (OT g (NB h1 d).2.2.2.2).2.2.2)).2.2.2
  ·cases c
 |.flip e,sz,p,q,c,d=>by
  rw [cE]at c;split at c
  ·obtain⟨j,h1,c⟩:=JG c;obtain⟨q2,g,c⟩:=JG c;obtain⟨q3,h,c⟩:=JG c;exact(OT c (ME e h (OT g (NB h1 d).2.2.2.2).2.2.2)).2.2.2
  ·cases c
 |.bin k z a b,sz,p,q,c,d=>by
  rw [cE]at c;split at c
  ·obtain⟨j,h1,c⟩:=JG c;obtain⟨q2,g,c⟩:=JG c;obtain⟨q3,h,c⟩:=JG c;obtain⟨q4,l,c⟩:=JG c;have r:=(OT l (ME b h (OT g (ME a h1 d)).2.2.2)).2.2.2;split at c
   ·exact(OT c r).2.2.2
   ·cases c;exact r
  ·cases c
 |.land a b,sz,p,q,c,d=>by
  rw [cE]at c;obtain⟨j,h1,c⟩:=JG c;obtain⟨⟨o,q2⟩,g,c⟩:=JG c;obtain⟨q3,h,c⟩:=JG c;obtain⟨q4,l,c⟩:=JG c;obtain⟨q5,t,c⟩:=JG c;split at c
  ·cases c;exact(OT t (OT l (ME b h (Wy g (ME a h1 d)).2.2.2.2)).2.2.2).2.2.2
  ·cases c
 |.lor a b,sz,p,q,c,d=>by
  rw [cE]at c;obtain⟨j,h1,c⟩:=JG c;obtain⟨v,u,c⟩:=JG c;obtain⟨⟨o,q2⟩,g,c⟩:=JG c;obtain⟨q3,h,c⟩:=JG c;obtain⟨q4,l,c⟩:=JG c;split at c
  ·exact(OT c (OT l (ME b h (Wy g (OT u (ME a h1 d)).2.2.2).2.2.2.2)).2.2.2).2.2.2
  ·cases c
theorem tC {X:Ctx}{np nv:Nat}:∀ (l:List RE){sz:Nat}{p q:Pl},yF X np nv l sz p=some q→ML X p→ML X q
 |[],sz,p,q,a,b=>by rw [yF]at a;cases a;exact b
 |e::l,sz,p,q,a,b=>by
  rw [yF]at a;split at a
  ·obtain⟨d,h1,a⟩:=JG a;obtain⟨q2,c,a⟩:=JG a;exact tC l a (OT c (ME e h1 b)).2.2.2
  ·cases a
end
mutual
theorem zw2 {X:Ctx}{np nv:Nat}:∀ (s:RS){lp:Nat×Nat}{p q:Pl},cS X np nv s lp p=some q→ML X p→ML X q
 |.PN i e,lp,p,q,d,h=>by
  rw [cS]at d;split at d
  ·obtain⟨j,h1,d⟩:=JG d;exact(NB d (ME e h1 h)).2.2.2.2
  ·cases d
 |.TI i e,lp,p,q,d,h=>by
  rw [cS]at d;obtain⟨a,_,d⟩:=JG d;split at d
  ·obtain⟨j,h1,d⟩:=JG d;exact(NB d (ME e h1 h)).2.2.2.2
  ·cases d
 |.sj i a e,lp,p,q,d,h=>by
  rw [cS]at d;obtain⟨g,_,d⟩:=JG d;obtain⟨j,h1,d⟩:=JG d;obtain⟨q2,k,d⟩:=JG d;obtain⟨q3,l,d⟩:=JG d;obtain⟨q4,m,d⟩:=JG d;exact(NB d (ME e m (OT l (NB k (ME a h1 h)).2.2.2.2).2.2.2)).2.2.2.2
 |.ite e b c,lp,p,q,d,h=>by
  rw [cS]at d;obtain⟨j,h1,d⟩:=JG d;obtain⟨⟨o,q2⟩,k,d⟩:=JG d;obtain⟨q3,l,d⟩:=JG d;have n:=UN b l (Wy k (ME e h1 h)).2.2.2.2;split at d
  ·split at d
   ·cases d;exact n
   ·cases d
  ·obtain⟨⟨u,q4⟩,m,d⟩:=JG d;split at d
   ·obtain⟨q5,r,d⟩:=JG d;split at d
    ·cases d;exact UN c r (Wy m n).2.2.2.2
    ·cases d
   ·cases d
 |.dA e b,lp,p,q,d,h=>by
  rw [cS]at d;obtain⟨j,h1,d⟩:=JG d;obtain⟨⟨o,q2⟩,k,d⟩:=JG d;obtain⟨q3,l,d⟩:=JG d;obtain⟨q4,m,d⟩:=JG d;split at d
  ·cases d;exact(NB m (UN b l (Wy k (ME e h1 h)).2.2.2.2)).2.2.2.2
  ·cases d
 |.call f t,lp,p,q,d,h=>by rw [cS]at d;exact ME _ d h
 |.ret e,lp,p,q,d,h=>by
  rw [cS]at d;obtain⟨j,h1,d⟩:=JG d;exact(NB d (ME e h1 h)).2.2.2.2
 |.put e,lp,p,q,d,h=>by
  rw [cS]at d;obtain⟨j,h1,d⟩:=JG d;exact(OT d (ME e h1 h)).2.2.2
 |.stop e,lp,p,q,d,h=>by
  rw [cS]at d;obtain⟨j,h1,d⟩:=JG d;exact(OT d (ME e h1 h)).2.2.2
 |.brk,lp,p,q,d,h=>by rw [cS]at d;exact(NB d h).2.2.2.2
 |.cont,lp,p,q,d,h=>by rw [cS]at d;exact(NB d h).2.2.2.2
theorem UN {X:Ctx}{np nv:Nat}:∀ (l:List RS){lp:Nat×Nat}{p q:Pl},jC X np nv l lp p=some q→ML X p→ML X q
 |[],lp,p,q,a,b=>by rw [jC]at a;cases a;exact b
 |s::l,lp,p,q,a,b=>by
  rw [jC]at a;obtain⟨c,h1,a⟩:=JG a;exact UN l a (zw2 s h1 b)
end
theorem Ms.mono {X:Ctx}{n:Nat}{fr:List Nat}{S:Nat→Gs→Prop}{e:RE}{Q c:Nat→Gs→Prop}{G:Gs}(f:Ms X n fr S e Q G)(k:∀ v a,Q v a→c v a):Ms X n fr S e c G:=by
 intro np nv b0 d sz p q m hc g h i j l o r s;obtain⟨m1,a,c1,b⟩:=f np nv b0 d sz p q m hc g h i j l o r s;rcases b with⟨v,t,u,w,x⟩|b
 ·exact⟨m1,a,c1,AO ⟨v,t,u,w,k _ _ x⟩⟩
 ·exact⟨m1,a,c1,AB b⟩
end Pm

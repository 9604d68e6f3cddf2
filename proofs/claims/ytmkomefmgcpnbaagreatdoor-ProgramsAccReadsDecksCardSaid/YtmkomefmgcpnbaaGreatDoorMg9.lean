import Derived.Test.YtmkomefmgcpnbaaGreatDoorMg8
set_option linter.all false
set_option maxHeartbeats 12800000
set_option maxRecDepth 100000
namespace Go.Proofs.YtmkomefmgcpnbaaGreatDoor
open Tryz Pg Go Go.Proofs Go.RowKit
open _root_.Bool renaming eq_false_iff→AJ
open Go renaming Calls→As,World→Y,heap_alloc2_new→Ay,heap_alloc2_old→AP,heap_alloc_new→Aj,Ending→BX,TypeId→AK,Value→h,maxLen→Bk,Addr→Bi,callFunc→GS
open Go.IntKind renaming i64→Ad,u32→Af
open Go.Lib renaming hid→D
open Go.Obj renaming cells→Ab
open Go.Proofs.Tryz renaming func130→GK,ntmps130→Gd,results130→Fj,underlying227→AV,underlying34→Bu,underlying37→Dn,results50→Hc,underlying109→Bg,results51→Hd,underlying112→Bm
open Go.RowKit renaming Hid→AA
open Go.Value renaming int→V,pointer→Ae,slice→J,string→Aa,tuple→AZ,agg→AN,func→ER
open _root_.Nat renaming strongRecOn→D1,le_refl→Aw,le_trans→AL,lt_of_lt_of_le→Ar
open _root_.Or renaming inl→AO,inr→AB
open _root_.Array renaming getElem?_eq_some_iff→Ag,getElem?_setIfInBounds→BE,ext_getElem?→Es
open Go.Act renaming put→Au
open Go.Ending renaming returned→Ak
open _root_.List renaming mem_cons→AH,not_mem_nil→Ba
open Go.Instr renaming build→D8
open Go.Next renaming enter→I8
open Go.Proofs renaming enters_of→F8
open Go.Result renaming ok→Ez
theorem zP7 {g:Nat}{S:ByteArray}{p:PS}{w:Y}(a:PW w g S p)(s:Nn p=true){x:Sm}{q:PS}{n:Nat}(t:aM g S n)(u:WJ n p=some (x,q)):
 As prog 130 #[Ae (some ⟨g,0,none⟩)] w (Uk w g S q x):=by
 have c:=a.lt;have i:=D (fun(W:Y) (e:Ext w W)=>UT (a.ext e));rw [s]at i;have v:=D (fun W (y:PW W g S p)=>t p x q W u y);have l:AA (Vx w ((w.alloc (Ab zS 227)).alloc (Ab zS 227)) g S p zS):=D ⟨Ay w _ _,AP w _ _,a.ext (((Ext.refl w).alloc _).alloc _),Gl (((Ext.refl w).alloc _).alloc _)⟩;clear a;go_enter GK,Gd;go_wp2_with fail;refine(i _ (((Ext.refl w).alloc _).alloc _)).mono ?_
 rintro e z ⟨rfl,d⟩;have f:=D (l.step c (Gl d) (l.pw.ext d));clear d;go_wp2_with fail;refine(v z f.pw).mono ?_
 rintro e B ⟨⟨cs,rfl,h⟩,m,o⟩;obtain⟨k,nm,A,E,F,H,I,K,C,c1,L,rfl⟩:=Vw h;have b:=D (f.step c o m);have N:=f.lt;have M:=D (KS.upd h (JK.refl (G:=fun _=>False) _) (fun _ _ q=>q) (U':=fun j=>w.heap.size<j∧j<B.heap.size) (fun j q=>⟨by have:=q.1;omega,q.2⟩));clear h m o;go_wp2_with (refine L8 rfl rfl rfl b.r MH ?_);refine K3 Fj AV MH (PO b.r) ?_
 exact jD (cs:=[V Ad k,Aa (str nm),J A E F,J H I K,J C c1 L]) b.px b.pw c M
theorem yX0 {g:Nat}{S:ByteArray}{p:PS}{w:Y}(a:PW w g S p)(y:Nn p=false)(z:JZ [105,102] p=true){b q:PS}(B:Kh p=some b){x:Sm}{n:Nat}(E:uQ g S n)(F:Zu n b=some (x,q)):
 As prog 130 #[Ae (some ⟨g,0,none⟩)] w (Uk w g S q x):=by
 have c:=a.lt;have l:=D (fun(W:Y) (e:Ext w W)=>UT (a.ext e));rw [y]at l;have H:=D (fun(W:Y) (e:Ext w W)=>LU (s:=[105,102]) (a.ext e) z B);have I:=D (fun W (K:PW W g S b)=>E b x q W F K);have m:AA (Vx w ((w.alloc (Ab zS 227)).alloc (Ab zS 227)) g S p zS):=D ⟨Ay w _ _,AP w _ _,a.ext (((Ext.refl w).alloc _).alloc _),Gl (((Ext.refl w).alloc _).alloc _)⟩;clear a;go_enter GK,Gd;go_wp2_with fail;refine(l _ (((Ext.refl w).alloc _).alloc _)).mono ?_
 rintro e L ⟨rfl,d⟩;have M:=D ((((Ext.refl w).alloc (Ab zS 227)).alloc (Ab zS 227)).trans d);have N:=D (m.step c (Gl d) (m.pw.ext d));clear d;go_wp2_with fail;refine(H L M).mono ?_
 rintro e O ⟨rfl,o,t⟩;have h:=D (N.step c t o);clear o t;go_wp2_with fail;refine(I O h.pw).mono ?_
 rintro e P ⟨⟨cs,rfl,i⟩,u,v⟩;obtain⟨k,nm,A,Q,R,T,U,X,C,c1,Z,rfl⟩:=Vw i;have f:=D (h.step c v u);have h1:=h.lt;have h0:=D (KS.upd i (JK.refl (G:=fun _=>False) _) (fun _ _ q=>q) (U':=fun j=>w.heap.size<j∧j<P.heap.size) (fun j q=>⟨by have:=q.1;omega,q.2⟩));clear i u v;go_wp2_with (refine L8 rfl rfl rfl f.r MH ?_);refine K3 Fj AV MH (PO f.r) ?_
 exact jD (cs:=[V Ad k,Aa (str nm),J A Q R,J T U X,J C c1 Z]) f.px f.pw c h0
theorem zP8 {g:Nat}{S:ByteArray}{p:PS}{w:Y}(a:PW w g S p)(H:Nn p=false)(I:JZ [105,102] p=false)(l:JZ [119,104,105,108,101] p=true){f q:PS}(K:Kh p=some f){x:Ex}{b:List Sm}{n:Nat}(L:aJ g S n)(M:Vm n f=some ((x,b),q)):
 As prog 130 #[Ae (some ⟨g,0,none⟩)] w (Uk w g S q (.mk 4 [] [x] b [])):=by
 have h:=a.lt;have h4:=a.g13;have y:=D (fun(W:Y) (e:Ext w W)=>UT (a.ext e));rw [H]at y;have N:=D (fun(W:Y) (e:Ext w W)=>J8 (s:=[105,102]) (a.ext e) I);have O:=D (fun(W:Y) (e:Ext w W)=>LU (s:=[119,104,105,108,101]) (a.ext e) l K);have P:=D (fun W (Q:PW W g S f) (l:W.heap[w.heap.size+1]?= some (Ab #[V Ad 4,Aa ⟨#[]⟩,J none 0 0,J none 0 0,J none 0 0] 227 (0,0)))=>L f x b q W (w.heap.size+1) _ _ _ _ _ M Q (by omega) (by omega) l);have z:AA (Vx w ((w.alloc (Ab zS 227)).alloc (Ab zS 227)) g S p zS):=D ⟨Ay w _ _,AP w _ _,a.ext (((Ext.refl w).alloc _).alloc _),Gl (((Ext.refl w).alloc _).alloc _)⟩;clear a;go_enter GK,Gd;go_wp2_with fail;refine(y _ (((Ext.refl w).alloc _).alloc _)).mono ?_
 rintro e m ⟨rfl,i⟩;have A:=D ((((Ext.refl w).alloc (Ab zS 227)).alloc (Ab zS 227)).trans i);have R:=D (z.step h (Gl i) (z.pw.ext i));clear i;go_wp2_with fail;refine(N m A).mono ?_
 rintro e m ⟨rfl,rfl⟩;go_wp2_with fail;refine(O m A).mono ?_
 rintro e T ⟨rfl,B,C⟩;have o:=D (R.step h C B);clear B C;have h5:=JA o.x 0;have h6:=JF o.x 0;have d:=D (o.set h 0 (V Ad 4));go_upto_region 9 with fail;generalize(T.setCell ⟨w.heap.size+1,0,none⟩ (V Ad 4))=w3 at*
 go_wp2_with fail;refine(P w3 d.pw d.x).mono ?_
 rintro e U ⟨rfl,E,t,h7,h8,F,u,v⟩;obtain⟨X,Z,rfl⟩:=JB u;obtain⟨h0,h1,rfl⟩:=JB v;have j:AA (Vx w U g S q #[V Ad 4,Aa ⟨#[]⟩,J X [x].length Z,J h0 b.length h1,J none 0 0]):=D ⟨F,t.heap d.r (fun c=>by rcases c with c|c<;>omega),E,(d.px.mono (G':=fun k=>k=g∨k=w.heap.size+1) (fun k _ c=>AO c)).trans t |>.mono (fun k h9 c=>by rcases c with c|c;exact c;omega)⟩;have G:=d.lt;have h2:=D (aK (w:=w) u G);have h3:=D (aK (w:=w) v G);clear E t F u v;go_wp2_with (first|refine Qx rfl AV rfl j.x MH ?_|refine L8 rfl rfl rfl j.r MH ?_);refine K3 Fj AV MH (PO j.r) ?_
 exact dS (nm:=[]) j h h2 h3 (Ju.nil _ _ _)
theorem qp {g:Nat}{S:ByteArray}{p:PS}{w:Y}(d:PW w g S p)(h6:Nn p=false)(h7:JZ [105,102] p=false)(h8:JZ [119,104,105,108,101] p=false){k:Nat}{z:Int}(l:k=6∧AA (z=6)∧AA (JZ [114,101,116,117,114,110] p=true)∨k=7∧AA (z=7)∧AA (JZ [114,101,116,117,114,110] p=false)∧AA (JZ [112,117,116] p=true)∨k=8∧AA (z=8)∧AA (JZ [114,101,116,117,114,110] p=false)∧AA (JZ [112,117,116] p=false)∧AA (JZ [115,116,111,112] p=true)){E L q:PS}(h9:Kh p=some E){x:Ex}{n:Nat}(ha:Ps g S n)(hb:M3 n 1 E=some (x,L))(hc:KD [59] L=some q):
 As prog 130 #[Ae (some ⟨g,0,none⟩)] w (Uk w g S q (.mk k [] [x] [] [])):=by
 have c:=d.lt;have X:=D (fun(W:Y) (e:Ext w W)=>UT (d.ext e));rw [h6]at X;have hd:=D (fun(W:Y) (e:Ext w W)=>J8 (s:=[105,102]) (d.ext e) h7);have he:=D (fun(W:Y) (e:Ext w W)=>J8 (s:=[119,104,105,108,101]) (d.ext e) h8);have M:=D (fun(s:Bs) (N:AA (JZ s p=false)) (W:Y) (e:Ext w W)=>J8 (s:=s) (d.ext e) N.out);have hf:=D (fun(s:Bs) (N:AA (JZ s p=true)) (W:Y) (e:Ext w W)=>LU (s:=s) (d.ext e) N.out h9);have hg:=D (fun W (hh:PW W g S E)=>ha 1 E x L W hb hh);have hi:=D hc;have Z:AA (Vx w ((w.alloc (Ab zS 227)).alloc (Ab zS 227)) g S p zS):=D ⟨Ay w _ _,AP w _ _,d.ext (((Ext.refl w).alloc _).alloc _),Gl (((Ext.refl w).alloc _).alloc _)⟩;clear d;go_enter GK,Gd;go_wp2_with fail;refine(X _ (((Ext.refl w).alloc _).alloc _)).mono ?_
 rintro e a ⟨rfl,F⟩;have h:=D ((((Ext.refl w).alloc (Ab zS 227)).alloc (Ab zS 227)).trans F);have hj:=D (Z.step c (Gl F) (Z.pw.ext F));clear F;go_wp2_with fail;refine(hd a h).mono ?_
 rintro e a ⟨rfl,rfl⟩;go_wp2_with fail;refine(he a h).mono ?_
 rintro e a ⟨rfl,rfl⟩;go_wp2_with fail;rcases l with⟨rfl,O,l⟩|⟨rfl,O,h1,l⟩|⟨rfl,O,h1,hk,l⟩
 rotate_left
 refine(M _ h1 a h).mono ?_
 rintro e a ⟨rfl,rfl⟩;go_wp2_with fail
 rotate_left
 refine(M _ h1 a h).mono ?_
 rintro e a ⟨rfl,rfl⟩;go_wp2_with fail;refine(M _ hk a h).mono ?_
 rintro e a ⟨rfl,rfl⟩;go_wp2_with fail
 all_goals
  refine(hf _ l a h).mono ?_
  rintro e hl ⟨rfl,h0,h2⟩;have P:=D (hj.step c h2 h0);clear h0 h2;go_wp2_with fail;refine(hg hl P.pw).mono ?_
  rintro e f ⟨⟨cs,rfl,Q⟩,h3,R⟩;obtain⟨m,o,t,v,y,A,B,rfl⟩:=Nq Q;have ho:=P.lt;have hp:=R.size;have C:=D ((P.step c R h3).alloc c (Ab #[V Ad m,V Ad o,V Af t,Aa (str v),J y A B] 287));have hm:=D (Vr (K:=KE) (U:=UX w (f.alloc (Ab #[V Ad m,V Ad o,V Af t,Aa (str v),J y A B] 287))) (Aj f (Ab #[V Ad m,V Ad o,V Af t,Aa (str v),J y A B] 287)) (KE.upd Q (Gl (G:=fun _=>False) ((Ext.refl f).alloc (Ab #[V Ad m,V Ad o,V Af t,Aa (str v),J y A B] 287))) (fun _ _ q=>q) (fun k q=>⟨by have:=q.1;omega,by have:=q.2;simp;omega⟩)) ⟨by omega,by simp⟩);have hq:=JA C.x 0;have hr:=JF C.x 0;have hs:=JA C.x 2;have ht:=JF C.x 2;have j:=(C.set c 0 (V Ad z)).set c 2 (J (some ⟨f.heap.size,0,none⟩) 1 1);have H:=Rm (i:=2) (u:=J (some ⟨f.heap.size,0,none⟩) 1 1) (Rm (i:=0) (u:=V Ad z) hm);rw [O]at j H
  replace j:=D j
  replace H:=D H
  clear h3 R Q;go_upto_region 21 with fail;generalize(((f.alloc (Ab #[V Ad m,V Ad o,V Af t,Aa (str v),J y A B] 287)).setCell ⟨w.heap.size+1,0,none⟩ (V Ad _)).setCell ⟨w.heap.size+1,2,none⟩ (J (some ⟨f.heap.size,0,none⟩) 1 1))=w4 at*
  go_wp2_with fail;refine(Mh (j.pw.ext ((Ext.refl w4).alloc _)) hi (b:=w4.heap.size) (Aj w4 _) (by have:=j.lt;omega)).mono ?_
  rintro e hu ⟨rfl,h4,h5⟩;have T:=(Gl ((Ext.refl w4).alloc _)).trans h5;have I:=D (j.step c T h4);have hn:=D (Qm H c T);clear h4 h5 T;go_wp2_with (first|refine Qx rfl AV rfl I.x MH ?_|refine L8 rfl rfl rfl I.r MH ?_ (h1:=(Np (VH _ _ _ _ _ _ _ _ _ _ _))));refine K3 Fj AV MH (PO I.r) ?_
  exact dS (nm:=[]) I c hn (Ju.nil _ _ _) (Ju.nil _ _ _)
theorem zd6 {g:Nat}{S:ByteArray}{p:PS}{w:Y}(c:PW w g S p)(F:Nn p=false)(G:JZ [105,102] p=false)(H:JZ [119,104,105,108,101] p=false)(I:JZ [114,101,116,117,114,110] p=false)(K:JZ [112,117,116] p=false)(L:JZ [115,116,111,112] p=false){k:Nat}{z:Int}(i:k=9∧AA (z=9)∧AA (JZ [98,114,101,97,107] p=true)∨k=10∧AA (z=10)∧AA (JZ [98,114,101,97,107] p=false)∧AA (JZ [99,111,110,116,105,110,117,101] p=true)){o q:PS}(M:Kh p=some o)(N:KD [59] o=some q):
 As prog 130 #[Ae (some ⟨g,0,none⟩)] w (Uk w g S q (.mk k [] [] [] [])):=by
 have h:=c.lt;have t:=D (fun(W:Y) (e:Ext w W)=>UT (c.ext e));rw [F]at t;have O:=D (fun(W:Y) (e:Ext w W)=>J8 (s:=[105,102]) (c.ext e) G);have P:=D (fun(W:Y) (e:Ext w W)=>J8 (s:=[119,104,105,108,101]) (c.ext e) H);have Q:=D (fun(W:Y) (e:Ext w W)=>J8 (s:=[114,101,116,117,114,110]) (c.ext e) I);have R:=D (fun(W:Y) (e:Ext w W)=>J8 (s:=[112,117,116]) (c.ext e) K);have T:=D (fun(W:Y) (e:Ext w W)=>J8 (s:=[115,116,111,112]) (c.ext e) L);have U:=D (fun(s:Bs) (m:AA (JZ s p=false)) (W:Y) (e:Ext w W)=>J8 (s:=s) (c.ext e) m.out);have X:=D (fun(s:Bs) (m:AA (JZ s p=true)) (W:Y) (e:Ext w W)=>LU (s:=s) (c.ext e) m.out M);have Z:=D N;have u:AA (Vx w ((w.alloc (Ab zS 227)).alloc (Ab zS 227)) g S p zS):=D ⟨Ay w _ _,AP w _ _,c.ext (((Ext.refl w).alloc _).alloc _),Gl (((Ext.refl w).alloc _).alloc _)⟩;clear c;go_enter GK,Gd;go_wp2_with fail;refine(t _ (((Ext.refl w).alloc _).alloc _)).mono ?_
 rintro e a ⟨rfl,j⟩;have d:=D ((((Ext.refl w).alloc (Ab zS 227)).alloc (Ab zS 227)).trans j);have h0:=D (u.step h (Gl j) (u.pw.ext j));clear j;go_wp2_with fail;refine(O a d).mono ?_
 rintro e a ⟨rfl,rfl⟩;go_wp2_with fail;refine(P a d).mono ?_
 rintro e a ⟨rfl,rfl⟩;go_wp2_with fail;refine(Q a d).mono ?_
 rintro e a ⟨rfl,rfl⟩;go_wp2_with fail;refine(R a d).mono ?_
 rintro e a ⟨rfl,rfl⟩;go_wp2_with fail;refine(T a d).mono ?_
 rintro e a ⟨rfl,rfl⟩;go_wp2_with fail;rcases i with⟨rfl,v,i⟩|⟨rfl,v,h1,i⟩
 rotate_left
 refine(U _ h1 a d).mono ?_
 rintro e a ⟨rfl,rfl⟩;go_wp2_with fail
 all_goals
  refine(X _ i a d).mono ?_
  rintro e h2 ⟨rfl,y,A⟩;have n:=D (h0.step h A y);clear y A;have h3:=JA n.x 0;have h4:=JF n.x 0;have f:=n.set h 0 (V Ad z);rw [v]at f
  replace f:=D f
  go_upto_region 21 with fail;generalize(h2.setCell ⟨w.heap.size+1,0,none⟩ (V Ad _))=w4 at*
  go_wp2_with fail;refine(Mh (f.pw.ext ((Ext.refl w4).alloc _)) Z (b:=w4.heap.size) (Aj w4 _) (by have:=f.lt;omega)).mono ?_
  rintro e h5 ⟨rfl,B,C⟩;have E:=(Gl ((Ext.refl w4).alloc _)).trans C;have l:=D (f.step h E B);clear B C E;go_wp2_with (first|refine Qx rfl AV rfl l.x MH ?_|refine L8 rfl rfl rfl l.r MH ?_ (h1:=(Np (VH _ _ _ _ _ _ _ _ _ _ _))));refine K3 Fj AV MH (PO l.r) ?_
  exact dS (nm:=[]) l h (Ju.nil _ _ _) (Ju.nil _ _ _) (Ju.nil _ _ _)
theorem yA9 {g:Nat}{S:ByteArray}{n:Nat}(D:∀ m,m<n→Ps g S m)(L:∀ m,m<n→aM g S m)(M:∀ m,m<n→uQ g S m)(N:∀ m,m<n→aJ g S m):ql g S n:=by
 intro p x q w a i;cases n with
 |zero=>cases a
 |succ n=>
  have E:∀ (k:Nat),XQ n k p=some (x,q)→∃ (m:Nat) (d j:PS) (l:Ex),m<n∧Kh p=some d∧M3 m 1 d=some (l,j)∧KD [59] j=some q∧x=.mk k [] [l] [] []:=by
   intro k e;cases n with
   |zero=>cases e
   |succ n=>
    rw [XQ]at e;split at e
    ·cases e
    ·rename_i d c;split at e
     ·cases e
     ·rename_i l j h;split at e
      ·cases e
      ·rename_i O f;cases e;exact⟨n,d,j,l,by omega,c,h,f,rfl⟩
  have H:∀ (k:Nat),YU k p=some (x,q)→∃ (d:PS),Kh p=some d∧KD [59] d=some q∧x=.mk k [] [] [] []:=by
   intro k e;rw [YU]at e;split at e
   ·cases e
   ·rename_i d c;split at e
    ·cases e
    ·rename_i O f;cases e;exact⟨d,c,f,rfl⟩
  rw [dJ]at a;by_cases t:Nn p=true
  ·rw [if_pos t]at a;exact zP7 i t (L n (by omega)) a
  rw [if_neg t]at a;have o:=AJ.2 t;by_cases u:JZ [105,102] p=true
  ·rw [if_pos u]at a;split at a
   ·cases a
   ·rename_i d c;exact yX0 i o u c (M n (by omega)) a
  rw [if_neg u]at a;have r:=AJ.2 u;by_cases v:JZ [119,104,105,108,101] p=true
  ·rw [if_pos v]at a;split at a
   ·cases a
   ·rename_i d c;split at a
    ·cases a
    ·rename_i l b j h;cases a;exact zP8 i o r v c (N n (by omega)) h
  rw [if_neg v]at a;have s:=AJ.2 v;by_cases y:JZ [114,101,116,117,114,110] p=true
  ·rw [if_pos y]at a;obtain⟨m,d,j,l,I,c,h,f,rfl⟩:=E 6 a;exact qp i o r s (AO ⟨rfl,rfl,y⟩) c (D m (by omega)) h f
  rw [if_neg y]at a;have z:=AJ.2 y;by_cases A:JZ [112,117,116] p=true
  ·rw [if_pos A]at a;obtain⟨m,d,j,l,I,c,h,f,rfl⟩:=E 7 a;exact qp i o r s (AB (AO ⟨rfl,rfl,z,A⟩)) c (D m (by omega)) h f
  rw [if_neg A]at a;have F:=AJ.2 A;by_cases B:JZ [115,116,111,112] p=true
  ·rw [if_pos B]at a;obtain⟨m,d,j,l,I,c,h,f,rfl⟩:=E 8 a;exact qp i o r s (AB (AB ⟨rfl,rfl,z,F,B⟩)) c (D m (by omega)) h f
  rw [if_neg B]at a;have K:=AJ.2 B;by_cases C:JZ [98,114,101,97,107] p=true
  ·rw [if_pos C]at a;obtain⟨d,c,f,rfl⟩:=H 9 a;exact zd6 i o r s z F K (AO ⟨rfl,rfl,C⟩) c f
  rw [if_neg C]at a;have P:=AJ.2 C;by_cases G:JZ [99,111,110,116,105,110,117,101] p=true
  ·rw [if_pos G]at a;obtain⟨d,c,f,rfl⟩:=H 10 a;exact zd6 i o r s z F K (AB ⟨rfl,rfl,P,G⟩) c f
  rw [if_neg G]at a;cases a
theorem zQ2 (g:Nat)(S:ByteArray)(n:Nat):n≤1000→ql g S n∧aH g S n∧aJ g S n∧uQ g S n∧aM g S n:=by
 induction n using D1 with
 |_ n b=>
  intro d;have c:=fun m (a:m<n)=>(oz g S m (by omega)).1
  have e:=fun m (a:m<n)=>(oz g S m (by omega)).2.2
  exact⟨yA9 c (fun m a=>(b m a (by omega)).2.2.2.2) (fun m a=>(b m a (by omega)).2.2.2.1) (fun m a=>(b m a (by omega)).2.2.1),
   yA2 d (fun m a=>(b m a (by omega)).1),yA4 c (fun m a=>(b m a (by omega)).2.1),
   yq2 (fun m a=>(b m a (by omega)).2.2.1) (fun m a=>(b m a (by omega)).2.2.2.1) (fun m a=>(b m a (by omega)).2.1),zd0 c e⟩
def Qs:Kind Bs where
 size:=1
 pos:=by omega
 rep:=fun _ _ s cs=>cs=[Aa (str s)]
 len:=by intro U w x cs a;subst a;rfl
 one:=by intro U w x cs a u b;subst a;simp only [AH,Ba,or_false]at b;subst b;rfl
 upd:=fun a _ _ _=>a
def KU:Kind Nat where
 size:=1
 pos:=by omega
 rep:=fun _ _ n cs=>cs=[V Af n]
 len:=by intro U w x cs c;subst c;rfl
 one:=by intro U w x cs c u d;subst c;simp only [AH,Ba,or_false]at d;subst d;rfl
 upd:=fun c _ _ _=>c
structure QW {α:Type} (K:Kind α) (e T:AK) (W:Y) (g b o bs:Nat) (c:Array h) (f:Nat) (acc:List α) (v:h):Prop where
 bx:W.heap[b]?= some (Ab #[Ae (some ⟨g,0,none⟩)] 83 (0,0))
 out:W.heap[o]?= some (Ab c T (0,0))
 nK:c[f]?= some v
 row:RowK K e bs W acc v
 hbs:o<bs
section
variable {α:Type}{K:Kind α}{e T:AK}{w W W' w2:Y}{g b o bs:Nat}{c:Array h}{f:Nat}{acc:List α}{v v':h}{S:ByteArray}{q:PS}
theorem QW.upd {G:Nat→Prop}(a:QW K e T W g b o bs c f acc v)(u:JK G W W')(d:¬ G b)(h:¬ G o)(i:∀ k,bs≤k→¬ G k):QW K e T W' g b o bs c f acc v:=
 ⟨u.heap a.bx d,u.heap a.out h,a.nK,a.row.upd u i,a.hbs⟩
theorem QW.low (a:QW K e T W g b o bs c f acc v):∀ k,v.ownBlock=some k→bs≤k∧k<W.heap.size:=fun k q=>by
 obtain⟨xs,d⟩:=a.row.own;exact Kc d q
theorem QW.grow (n:g<b)(p:b<o)(a:QW K e T W g b o bs c f acc v)(d:W.grownBy w2 v.ownBlock)(h:PW W g S q):
 w2.heap[b]?= some (Ab #[Ae (some ⟨g,0,none⟩)] 83 (0,0))∧w2.heap[o]?= some (Ab c T (0,0))∧PW w2 g S q∧JK (fun k=>k=g∨k=o∨bs≤k) W w2:=by
 have i:JK (fun k=>v.ownBlock=some k) W w2:=⟨d.os,d.tape,d.output,d.size,fun k l m=>d.block k l (fun q=>m q.symm)⟩;have j:∀ k,k≤o→v.ownBlock≠some k:=fun k l q=>by have:=a.low k q;have:=a.hbs;omega
 exact⟨i.heap a.bx (j b (by omega)),i.heap a.out (j o (Aw _)),⟨h.at_.upd i (j g (by omega)),h.tab.upd i (fun k q=>by have:=a.low k q;have:=a.hbs;have:=h.g13;omega),h.g13,h.hs⟩,i.mono (fun k _ q=>AB (AB (a.low k q).1))⟩
theorem QW.snoc (m:g<b)(n:b<o){x:α}{xs cs:List h}(i:QW K e T W g b o bs c f acc v)(r:PW W g S q)(s:NF K (fun k=>bs≤k∧k<W.heap.size∧v.ownBlock≠some k) W acc xs)
 (t:K.rep (fun k=>bs≤k∧k<W.heap.size∧v.ownBlock≠some k) W x cs) (u:w2.ownsRow bs e K.size v' (acc.length+1) (xs++cs)) (j:W.grownBy w2 v.ownBlock) (w:v'.ownBlock=v.ownBlock∨v'.ownBlock=some W.heap.size):
 QW K e T (w2.setCell ⟨o,f,none⟩ v') g b o bs (c.setIfInBounds f v') f (acc++[x]) v'∧PW (w2.setCell ⟨o,f,none⟩ v') g S q∧JK (fun k=>k=g∨k=o∨bs≤k) W (w2.setCell ⟨o,f,none⟩ v'):=by
 obtain⟨y,z,a,A⟩:=i.grow m n j r;have d:JK (fun k=>k=o) w2 (w2.setCell ⟨o,f,none⟩ v'):=JK.setCell (G:=fun k=>k=o) (p:=⟨o,f,none⟩) (JK.refl w2) (AB rfl) v';have B:f<c.size:=(Ag.1 i.nK).1;refine⟨⟨d.heap y (fun q=>by have q2:b=o:=q;omega),JJ z f v',by rw [BE,if_pos rfl,if_pos B],(RowK.snoc s t u j w).upd d (fun k q c=>by have l:k=o:=c;have:=i.hbs;omega),i.hbs⟩,?_,A.trans (d.mono (fun k _ c=>AB (AO c)))⟩;exact⟨a.at_.upd d (fun c=>by have l:g=o:=c;omega),a.tab.upd d (fun k c=>by have l:k=o:=c;have:=a.g13;omega),a.g13,a.hs⟩
end
theorem R6:(prog.info? 9).map (fun i=>(i.zero,i.size,i.bytes))=some (some (Aa ⟨#[]⟩),1,16):=by kernel_rfl
theorem qw:(prog.info? 24).map (fun i=>(i.zero,i.size,i.bytes))=some (some (V Af 0),1,4):=by kernel_rfl
def jm {α:Type}(K:Kind α)(e T:AK)(w:Y)(g b o bs:Nat)(S:ByteArray)(q:PS)(c:Array h)(f:Nat)(acc:List α)(a:BX)(w':Y):Prop:=
 a=Ak (AZ #[])∧∃ v,QW K e T w' g b o bs (c.setIfInBounds f v) f acc v∧PW w' g S q∧JK (fun k=>k=g∨k=o∨bs≤k) w w'
theorem yB1 {g b o bs:Nat}{S:ByteArray}{p q:PS}{x:Bs}{acc:List Bs}{c:Array h}{v:h}{w:Y}(y:g<b)(z:b<o)(hi:acc.length≤2000)(U:bs≤w.heap.size)
 (B:M0 p=some (x,q)) (C:PW w g S p) (f:QW Qs 9 109 w g b o bs c 1 acc v):
 As prog 90 #[Ae (some ⟨o,0,none⟩),Ae (some ⟨b,0,none⟩)] w (jm Qs 9 109 w g b o bs S q c 1 (acc++[x])):=by
 obtain⟨X,E,F,H,I⟩:=info_parts R6;have Z:=D E;have h0:=D F;have h1:=D H;have h2:=D I;have h3:=D (fun W (m:PW W g S p)=>TM m B);have h4:=D C;have L:=D f;have h5:AA (w.cell? ⟨o,1,none⟩=some v):=D (by rw [JA f.out];exact f.nK);have h6:AA (w.cell? ⟨b,0,none⟩=some (Ae (some ⟨g,0,none⟩))):=D (JA f.bx 0);have h7:AA (acc.length+1≤Bk):=D (by unfold Bk;omega);have h8:AA ((acc.length+1)*16≤140737488355328):=D (by omega);obtain⟨hj,M⟩:=f.row.own;have h9:∃ A c,v=J A acc.length c:=by obtain⟨A,c,m,_⟩:=K7 M;exact⟨A,c,m⟩
 obtain⟨N,c0,ha⟩:=h9;have hk:o<w.heap.size:=(Ag.1 f.out).1;clear E F H I B C f M;subst ha;go_enter func90,ntmps90;refine JX.go (fun w'=>w'.cell? ⟨o,1,none⟩=some (J N acc.length c0)∧w'.cell? ⟨b,0,none⟩=some (Ae (some ⟨g,0,none⟩))) [7] (⟨h5,h6⟩) (fun d=>?_)
 iterate 3 refine JC d ?_
 try simp only [Au,pA,pB,pC]
 refine JM (fun K a=>?_);go_simp;(with_reducible refine(h3.out _ (h4.out.ext ((Ext.refl w).drew))).mono ?_)
 rintro e i ⟨rfl,hb,j⟩;refine a.out _ _ ?_ (fun d=>?_)
 ·exact⟨j.cell d.1 (by show ¬o=g;omega),j.cell d.2 (by show ¬b=g;omega)⟩
 clear a K
 try simp only [Au,pA,pB,pC]
 refine JM (fun K a=>?_);go_simp;have O:=D (hb.ext ((Ext.refl i).alloc (Ab #[Aa (str x)] 9)));have l:=D ((L.upd ((Gl ((Ext.refl w).drew)).trans j) (fun q=>by have q2:b=g:=q;omega) (fun q=>by have q2:o=g:=q;omega) (fun k hl q=>by have q2:k=g:=q;have:=L.hbs;omega)).upd (Gl (G:=fun _=>False) ((Ext.refl i).alloc (Ab #[Aa (str x)] 9))) (fun q=>q) (fun q=>q) (fun _ _ q=>q));have hc:AA (JK (fun k=>k=g∨k=o∨bs≤k) w (i.alloc (Ab #[Aa (str x)] 9))):=D (((Gl ((Ext.refl w).drew)).trans (j.mono (fun k _ q=>AO q))).alloc _);have hd:=D (RJ (W:=i) (e:=9) rfl [Aa (str x)]);have he:AA (bs≤(i.alloc (Ab #[Aa (str x)] 9)).heap.size):=D (by have:=j.size;have hm:w.heap.size≤i.heap.size:=this;have hn:=U;simp;omega);refine a _ _ ?_ (fun d=>?_)
 ·exact⟨((Ext.refl _).alloc _).cell d.1,((Ext.refl _).alloc _).cell d.2⟩
 clear a K
 try simp only [Au,pA,pB,pC]
 refine JM (fun K a=>?_);obtain⟨xs,P,Q⟩:=l.row;have hf:=D P;have hg:=D Q;clear P Q;refine MI rfl _ _ 34 rfl bs 9 X (Aa ⟨#[]⟩) 1 16 Bu Z h0 h1 h2 rfl (by decide) (J N acc.length c0) acc.length xs (by rfl) hf (some ⟨i.heap.size,0,none⟩) 1 1 [Aa (str x)] (by rfl) hd rfl (by intro u R;simp only [AH,Ba,or_false]at R;subst R;rfl) h7 h8 he ?_
 intro v' w2 n r T;obtain⟨ho,c1,hh, -⟩:=K7 n;subst hh;have s:=D (l.grow y z r O);have t:=D (l.snoc (x:=x) y z O hg rfl n r T);have hp:=JF s.2.1 1;clear n r T;refine a _ _ ?_ (fun d=>?_)
 ·exact⟨by rw [JA s.2.1];exact l.nK,JA s.1 0⟩
 clear a K
 try simp only [Au,pA,pB,pC]
 refine JC d ?_
 try simp only [Au,pA,pB,pC]
 refine JX.fn (fun K a=>?_);go_simp;refine a _ _ ?_
 clear a K
 try simp only [Au,pA,pB,pC]
 refine JV ?_
 go_end0;exact⟨rfl,_,t.1,t.2.1,hc.trans t.2.2⟩
theorem zI8 {g b o bs:Nat}{S:ByteArray}{p q:PS}{x:Bs}{acc:List Bs}{c:Array h}{v:h}{w:Y}(y:g<b)(z:b<o)(hi:acc.length≤2000)(U:bs≤w.heap.size)
 (B:M0 p=some (x,q)) (C:PW w g S p) (f:QW Qs 9 109 w g b o bs c 2 acc v):
 As prog 91 #[Ae (some ⟨o,0,none⟩),Ae (some ⟨b,0,none⟩)] w (jm Qs 9 109 w g b o bs S q c 2 (acc++[x])):=by
 obtain⟨X,E,F,H,I⟩:=info_parts R6;have Z:=D E;have h0:=D F;have h1:=D H;have h2:=D I;have h3:=D (fun W (m:PW W g S p)=>TM m B);have h4:=D C;have L:=D f;have h5:AA (w.cell? ⟨o,2,none⟩=some v):=D (by rw [JA f.out];exact f.nK);have h6:AA (w.cell? ⟨b,0,none⟩=some (Ae (some ⟨g,0,none⟩))):=D (JA f.bx 0);have h7:AA (acc.length+1≤Bk):=D (by unfold Bk;omega);have h8:AA ((acc.length+1)*16≤140737488355328):=D (by omega);obtain⟨hj,M⟩:=f.row.own;have h9:∃ A c,v=J A acc.length c:=by obtain⟨A,c,m,_⟩:=K7 M;exact⟨A,c,m⟩
 obtain⟨N,c0,ha⟩:=h9;have hk:o<w.heap.size:=(Ag.1 f.out).1;clear E F H I B C f M;subst ha;go_enter func91,ntmps91;refine JX.go (fun w'=>w'.cell? ⟨o,2,none⟩=some (J N acc.length c0)∧w'.cell? ⟨b,0,none⟩=some (Ae (some ⟨g,0,none⟩))) [7] (⟨h5,h6⟩) (fun d=>?_)
 iterate 3 refine JC d ?_
 try simp only [Au,pA,pB,pC]
 refine JM (fun K a=>?_);go_simp;(with_reducible refine(h3.out _ (h4.out.ext ((Ext.refl w).drew))).mono ?_)
 rintro e i ⟨rfl,hb,j⟩;refine a.out _ _ ?_ (fun d=>?_)
 ·exact⟨j.cell d.1 (by show ¬o=g;omega),j.cell d.2 (by show ¬b=g;omega)⟩
 clear a K
 try simp only [Au,pA,pB,pC]
 refine JM (fun K a=>?_);go_simp;have O:=D (hb.ext ((Ext.refl i).alloc (Ab #[Aa (str x)] 9)));have l:=D ((L.upd ((Gl ((Ext.refl w).drew)).trans j) (fun q=>by have q2:b=g:=q;omega) (fun q=>by have q2:o=g:=q;omega) (fun k hl q=>by have q2:k=g:=q;have:=L.hbs;omega)).upd (Gl (G:=fun _=>False) ((Ext.refl i).alloc (Ab #[Aa (str x)] 9))) (fun q=>q) (fun q=>q) (fun _ _ q=>q));have hc:AA (JK (fun k=>k=g∨k=o∨bs≤k) w (i.alloc (Ab #[Aa (str x)] 9))):=D (((Gl ((Ext.refl w).drew)).trans (j.mono (fun k _ q=>AO q))).alloc _);have hd:=D (RJ (W:=i) (e:=9) rfl [Aa (str x)]);have he:AA (bs≤(i.alloc (Ab #[Aa (str x)] 9)).heap.size):=D (by have:=j.size;have hm:w.heap.size≤i.heap.size:=this;have hn:=U;simp;omega);refine a _ _ ?_ (fun d=>?_)
 ·exact⟨((Ext.refl _).alloc _).cell d.1,((Ext.refl _).alloc _).cell d.2⟩
 clear a K
 try simp only [Au,pA,pB,pC]
 refine JM (fun K a=>?_);obtain⟨xs,P,Q⟩:=l.row;have hf:=D P;have hg:=D Q;clear P Q;refine MI rfl _ _ 34 rfl bs 9 X (Aa ⟨#[]⟩) 1 16 Bu Z h0 h1 h2 rfl (by decide) (J N acc.length c0) acc.length xs (by rfl) hf (some ⟨i.heap.size,0,none⟩) 1 1 [Aa (str x)] (by rfl) hd rfl (by intro u R;simp only [AH,Ba,or_false]at R;subst R;rfl) h7 h8 he ?_
 intro v' w2 n r T;obtain⟨ho,c1,hh, -⟩:=K7 n;subst hh;have s:=D (l.grow y z r O);have t:=D (l.snoc (x:=x) y z O hg rfl n r T);have hp:=JF s.2.1 2;clear n r T;refine a _ _ ?_ (fun d=>?_)
 ·exact⟨by rw [JA s.2.1];exact l.nK,JA s.1 0⟩
 clear a K
 try simp only [Au,pA,pB,pC]
 refine JC d ?_
 try simp only [Au,pA,pB,pC]
 refine JX.fn (fun K a=>?_);go_simp;refine a _ _ ?_
 clear a K
 try simp only [Au,pA,pB,pC]
 refine JV ?_
 go_end0;exact⟨rfl,_,t.1,t.2.1,hc.trans t.2.2⟩
theorem yB2 {g b o bs:Nat}{S:ByteArray}{p q:PS}{x:Nat}{acc:List Nat}{c:Array h}{v:h}{w:Y}(y:g<b)(z:b<o)(hi:acc.length≤2000)(U:bs≤w.heap.size)
 (B:QP p=some (x,q)) (C:PW w g S p) (f:QW KU 24 112 w g b o bs c 3 acc v):
 As prog 94 #[Ae (some ⟨o,0,none⟩),Ae (some ⟨b,0,none⟩)] w (jm KU 24 112 w g b o bs S q c 3 (acc++[x])):=by
 obtain⟨X,E,F,H,I⟩:=info_parts qw;have Z:=D E;have h0:=D F;have h1:=D H;have h2:=D I;have h3:=D (fun W (m:PW W g S p)=>YZ m B);have h4:=D C;have L:=D f;have h5:AA (w.cell? ⟨o,3,none⟩=some v):=D (by rw [JA f.out];exact f.nK);have h6:AA (w.cell? ⟨b,0,none⟩=some (Ae (some ⟨g,0,none⟩))):=D (JA f.bx 0);have h7:AA (acc.length+1≤Bk):=D (by unfold Bk;omega);have h8:AA ((acc.length+1)*4≤140737488355328):=D (by omega);obtain⟨hj,M⟩:=f.row.own;have h9:∃ A c,v=J A acc.length c:=by obtain⟨A,c,m,_⟩:=K7 M;exact⟨A,c,m⟩
 obtain⟨N,c0,ha⟩:=h9;have hk:o<w.heap.size:=(Ag.1 f.out).1;clear E F H I B C f M;subst ha;go_enter func94,ntmps94;refine JX.go (fun w'=>w'.cell? ⟨o,3,none⟩=some (J N acc.length c0)∧w'.cell? ⟨b,0,none⟩=some (Ae (some ⟨g,0,none⟩))) [7] (⟨h5,h6⟩) (fun d=>?_)
 iterate 3 refine JC d ?_
 try simp only [Au,pA,pB,pC]
 refine JM (fun K a=>?_);go_simp;(with_reducible refine(h3.out _ (h4.out.ext ((Ext.refl w).drew))).mono ?_)
 rintro e i ⟨rfl,hb,j⟩;refine a.out _ _ ?_ (fun d=>?_)
 ·exact⟨j.cell d.1 (by show ¬o=g;omega),j.cell d.2 (by show ¬b=g;omega)⟩
 clear a K
 try simp only [Au,pA,pB,pC]
 refine JM (fun K a=>?_);go_simp;have O:=D (hb.ext ((Ext.refl i).alloc (Ab #[V Af x] 24)));have l:=D ((L.upd ((Gl ((Ext.refl w).drew)).trans j) (fun q=>by have q2:b=g:=q;omega) (fun q=>by have q2:o=g:=q;omega) (fun k hl q=>by have q2:k=g:=q;have:=L.hbs;omega)).upd (Gl (G:=fun _=>False) ((Ext.refl i).alloc (Ab #[V Af x] 24))) (fun q=>q) (fun q=>q) (fun _ _ q=>q));have hc:AA (JK (fun k=>k=g∨k=o∨bs≤k) w (i.alloc (Ab #[V Af x] 24))):=D (((Gl ((Ext.refl w).drew)).trans (j.mono (fun k _ q=>AO q))).alloc _);have hd:=D (RJ (W:=i) (e:=24) rfl [V Af x]);have he:AA (bs≤(i.alloc (Ab #[V Af x] 24)).heap.size):=D (by have:=j.size;have hm:w.heap.size≤i.heap.size:=this;have hn:=U;simp;omega);refine a _ _ ?_ (fun d=>?_)
 ·exact⟨((Ext.refl _).alloc _).cell d.1,((Ext.refl _).alloc _).cell d.2⟩
 clear a K
 try simp only [Au,pA,pB,pC]
 refine JM (fun K a=>?_);obtain⟨xs,P,Q⟩:=l.row;have hf:=D P;have hg:=D Q;clear P Q;refine MI rfl _ _ 37 rfl bs 24 X (V Af 0) 1 4 Dn Z h0 h1 h2 rfl (by decide) (J N acc.length c0) acc.length xs (by rfl) hf (some ⟨i.heap.size,0,none⟩) 1 1 [V Af x] (by rfl) hd rfl (by intro u R;simp only [AH,Ba,or_false]at R;subst R;rfl) h7 h8 he ?_
 intro v' w2 n r T;obtain⟨ho,c1,hh, -⟩:=K7 n;subst hh;have s:=D (l.grow y z r O);have t:=D (l.snoc (x:=x) y z O hg rfl n r T);have hp:=JF s.2.1 3;clear n r T;refine a _ _ ?_ (fun d=>?_)
 ·exact⟨by rw [JA s.2.1];exact l.nK,JA s.1 0⟩
 clear a K
 try simp only [Au,pA,pB,pC]
 refine JC d ?_
 try simp only [Au,pA,pB,pC]
 refine JX.fn (fun K a=>?_);go_simp;refine a _ _ ?_
 clear a K
 try simp only [Au,pA,pB,pC]
 refine JV ?_
 go_end0;exact⟨rfl,_,t.1,t.2.1,hc.trans t.2.2⟩
structure WX (T:AK) (z:Array h) (w W:Y) (X g:Nat) (S:ByteArray) (q:PS) (cs:Array h):Prop where
 x:W.heap[X]?= some (Ab cs T (0,0))
 r:W.heap[w.heap.size+1]?= some (Ab z T (0,0))
 b:W.heap[w.heap.size]?= some (Ab #[Ae (some ⟨g,0,none⟩)] 83 (0,0))
 pw:PW W g S q
 px:PX g w W
section
variable {T:AK}{z:Array h}{w W W':Y}{X g:Nat}{S:ByteArray}{p q:PS}{cs:Array h}
theorem WX.lt (a:WX T z w W X g S q cs):X<W.heap.size:=(Ag.1 a.x).1
theorem WX.step (a:WX T z w W X g S p cs)(h:w.heap.size+1<X)(i:g<w.heap.size)(d:PX g W W')(f:PW W' g S q):WX T z w W' X g S q cs:=
 ⟨d.heap a.x (fun c=>by have e:X=g:=c;omega),d.heap a.r (fun c=>by have e:w.heap.size+1=g:=c;omega),d.heap a.b (fun c=>by have e:w.heap.size=g:=c;omega),f,a.px.trans d⟩
theorem WX.alloc (a:WX T z w W X g S q cs)(b:w.heap.size+1<X)(c:g<w.heap.size)(o:Obj):WX T z w (W.alloc o) X g S q cs:=a.step b c (Gl ((Ext.refl W).alloc o)) (a.pw.ext ((Ext.refl W).alloc o))
theorem WX.set (a:WX T z w W X g S q cs)(j:w.heap.size+1<X)(l:g<w.heap.size)(i:Nat)(v:h):WX T z w (W.setCell ⟨X,i,none⟩ v) X g S q (cs.setIfInBounds i v):=by
 have d:=(JK.refl W).setCell (G:=fun k=>k=X) (p:=⟨X,i,none⟩) (AB rfl) v;exact⟨JJ a.x i v,d.heap a.r (fun c=>by have e:w.heap.size+1=X:=c;omega),d.heap a.b (fun c=>by have e:w.heap.size=X:=c;omega),a.pw.upd d (fun c=>by have e:g=X:=c;omega) (fun k c=>by have e:k=X:=c;have:=a.pw.g13;omega),a.px.setCell (p:=⟨X,i,none⟩) (AO (by show w.heap.size≤X;omega)) v⟩
theorem WX.list {α:Type}{K:Kind α}{e:AK}{f:Nat}{l:List α}{v:h}{b:Array h}(a:WX T z w W X g S p cs)(m:w.heap.size+1<X)(n:g<w.heap.size)(d:QW K e T W' g w.heap.size X W.heap.size b f l v)(j:PW W' g S q)(i:JK (fun k=>k=g∨k=X∨W.heap.size≤k) W W'):
 WX T z w W' X g S q b:=
 ⟨d.out,i.heap a.r (fun c=>by have:=a.lt;rcases c with c|c|c<;>omega),d.bx,j,((a.px.mono (G':=fun k=>k=g∨k=X∨W.heap.size≤k) (fun k _ c=>AO c)).trans i).mono (fun k o c=>by have:=a.lt;rcases c with c|c|c;exact c;omega;omega)⟩
end
theorem o7 {α:Type}{K:Kind α}{X g:Nat}{W W':Y}{l:List α}{v:h}(b:Ju K (UZ X W) W l v)(d:g<X)(a:JK (fun k=>k=g∨k=X∨W.heap.size≤k) W W'):Ju K (UZ X W') W' l v:=
 b.upd a (fun k q c=>by have e:=q.1;have q2:=q.2;rcases c with c|c|c<;>omega) (fun k q=>⟨q.1,Ar q.2 a.size⟩)
theorem aP {α:Type}{K:Kind α}{e T:AK}{W:Y}{g b X bs f:Nat}{c:Array h}{l:List α}{v:h}(d:QW K e T W g b X bs c f l v):Ju K (UZ X W) W l v:=
 d.row.sl.upd (JK.refl (G:=fun _=>False) _) (fun _ _ q=>q) (fun k q=>⟨by have:=d.hbs;omega,q.2⟩)
theorem qx {α:Type}{K:Kind α}{e T:AK}{elem:PS→Option (α×PS)}{g b o bs f F:Nat}{S:ByteArray}(C:∀ args w,(GS F args).run prog w=Ez (I8 F args) w)(Q:g<b)(R:b<o)
 (D:∀ p x q acc c v W,acc.length≤2000→bs≤W.heap.size→elem p=some (x,q)→PW W g S p→QW K e T W g b o bs c f acc v→As prog F #[Ae (some ⟨o,0,none⟩),Ae (some ⟨b,0,none⟩)] W (jm K e T W g b o bs S q c f (acc++[x])))
 {n:Nat} {p q:PS} {l:List α} (z:Rh elem n [] p=some (l,q)) (U:n≤1000) {w:Y} (E:PW w g S p) {c:Array h} {v:h} (a:QW K e T w g b o bs c f [] v) (G:bs≤w.heap.size):
 As prog 89 #[Ae (some ⟨g,0,none⟩),ER (.func F) #[] #[Ae (some ⟨o,0,none⟩),Ae (some ⟨b,0,none⟩)]] w (jm K e T w g b o bs S q c f l):=by
 rw [uJ]at z;have H:c.setIfInBounds f v=c:=by
  apply Es;intro i;rw [BE];by_cases A:f=i
  ·subst A;rw [if_pos rfl,if_pos (Ag.1 a.nK).1,a.nK]
  ·rw [if_neg A]
 have hbs:=a.hbs;refine(zI4 (fun _=>elem) g S n F _ C (fun k=>k=g∨k=o∨bs≤k) (AO rfl)
  (fun acc W=>bs≤W.heap.size∧∃ v,QW K e T W g b o bs (c.setIfInBounds f v) f acc v)
  (fun acc W W' d j=>⟨AL d.1 j.size,d.2.elim fun v t=>⟨v,t.upd j (fun q=>by have q2:b=g:=q;omega) (fun q=>by have q2:o=g:=q;omega) (fun k X q=>by have q2:k=g:=q;omega)⟩⟩)
  (fun m acc p1 x I W Z j L d=>?_) p l q w z E ⟨G,v,by rw [H];exact a⟩).mono ?_
 ·obtain⟨h1,M,t⟩:=d;refine(D p1 x I acc _ M W (by omega) h1 j L t).mono ?_
  rintro N O ⟨u,y,r,B,s⟩;refine⟨u,B,⟨AL h1 s.size,y,?_⟩,s⟩;rw [Array.setIfInBounds_setIfInBounds]at r;exact r
 ·rintro N O ⟨u,r,⟨B,y,s⟩,P⟩;exact⟨u,y,s,r,P⟩
def KF:Kind Pg.Fn where
 size:=4
 pos:=by omega
 rep:=fun U w f cs=>∃ P L a,cs=[Aa (str f.name),P,L,a]∧Ju Qs U w f.params P∧Ju Qs U w f.JE L∧Ju KS U w f.body a
 len:=by intro U w x cs d;obtain⟨P,L,a,rfl,_⟩:=d;rfl
 one:=by
  intro U w x cs d u b;obtain⟨P,L,a,rfl,h1,e,g⟩:=d;obtain⟨A,c,rfl⟩:=JB h1;obtain⟨j,k,rfl⟩:=JB e;obtain⟨l,m,rfl⟩:=JB g;simp only [AH,Ba,or_false]at b;rcases b with rfl|rfl|rfl|rfl<;>rfl
 upd:=fun d u h b=>by
  obtain⟨P,L,a,h1,e,g,i⟩:=d;exact⟨P,L,a,h1,e.upd u h b,g.upd u h b,i.upd u h b⟩
def KG:Kind KJ where
 size:=4
 pos:=by omega
 rep:=fun U w x cs=>∃ v,cs=[V Ad x.kind,Aa (str x.name),V Af x.num,v]∧Ju KU U w x.init v
 len:=by intro U w x cs b;obtain⟨v,rfl,_⟩:=b;rfl
 one:=by
  intro U w x cs b u d;obtain⟨v,rfl,h1⟩:=b;obtain⟨A,c,rfl⟩:=JB h1;simp only [AH,Ba,or_false]at d;rcases d with rfl|rfl|rfl|rfl<;>rfl
 upd:=fun b u e d=>by
  obtain⟨v,h1,f⟩:=b;exact⟨v,h1,f.upd u e d⟩
def o8 {α:Type}(K:Kind α)(w:Y)(g:Nat)(S:ByteArray)(q:PS)(x:α)(e:BX)(w':Y):Prop:=
 (∃cs:List h,e=Ak (AN cs.toArray)∧K.rep (fun k=>w.heap.size≤k∧k<w'.heap.size) w' x cs)∧PW w' g S q∧PX g w w'
theorem Xj {α:Type}{K:Kind α}{T:AK}{z:Array h}{w W:Y}{X g:Nat}{S:ByteArray}{q:PS}{x:α}{cs:List h}(a:WX T z w W X g S q cs.toArray)(f:w.heap.size+1<X)(i:g<w.heap.size)(e:K.rep (UZ X W) W x cs):
 o8 K w g S q x (Ak (AN cs.toArray)) (W.setRow (w.heap.size+1) cs.toArray):=by
 have b:JK (fun k=>k=w.heap.size+1) W (W.setRow (w.heap.size+1) cs.toArray):=JK.setRow (G:=fun k=>k=w.heap.size+1) (JK.refl W) (AB rfl) _;refine⟨⟨cs,rfl,K.upd e b (fun k q c=>by have d:k=w.heap.size+1:=c;have:=q.1;omega) (fun k q=>⟨by have:=q.1;omega,Ar q.2 b.size⟩)⟩,?_,a.px.setRow (AO (by omega)) _⟩;exact⟨a.pw.at_.upd b (fun c=>by have d:g=w.heap.size+1:=c;omega),a.pw.tab.upd b (fun k c=>by have d:k=w.heap.size+1:=c;have:=a.pw.g13;omega),a.pw.g13,a.pw.hs⟩
def zF:Array h:= #[Aa ⟨#[]⟩,J none 0 0,J none 0 0,J none 0 0]
theorem yB3:(prog.info? 109).map (fun i=>(i.zero,i.size,i.bytes))=some (some (AN zF),4,88):=by kernel_rfl
theorem Nb:(prog.info? 109).map (·.size)=some 4:=by kernel_rfl
theorem qy (s:ByteArray)(A:Option Bi)(n c:Nat)(b:Option Bi)(m d:Nat)(C:Option Bi)(p f:Nat):∀ u∈([Aa s,J A n c,J b m d,J C p f]:List h),u.oneCell'=true:=by
 intro u a;simp only [AH,Ba,or_false]at a;rcases a with rfl|rfl|rfl|rfl<;>rfl
theorem uX:∀ args w,(GS 90 args).run prog w=Ez (I8 90 args) w:=F8 func90 (by kernel_rfl) rfl
theorem fe:∀ args w,(GS 91 args).run prog w=Ez (I8 91 args) w:=F8 func91 (by kernel_rfl) rfl
theorem yX3 {g:Nat}{S:ByteArray}{n:Nat}(hw:n≤1000)(xc:aH g S n){p q:PS}{x:Pg.Fn}(o:jM n p=some (x,q)){w:Y}(G:PW w g S p):
 As prog 50 #[Ae (some ⟨g,0,none⟩)] w (o8 KF w g S q x):=by
 unfold jM at o;split at o
 ·cases o
 rename_i s p1 h1;split at o
 ·cases o
 rename_i xs xd;split at o
 ·cases o
 rename_i hx y8 h6;split at o
 ·cases o
 rename_i y9 hp;split at o
 ·cases o
 rename_i ya hq;split at o
 ·cases o
 rename_i xe yb j;split at o
 ·cases o
 rename_i b yc hr;cases o;have a:=G.lt;have xf:=D (TM (G.ext (((Ext.refl w).alloc (Ab #[Ae (some ⟨g,0,none⟩)] 83)).alloc (Ab zF 109))) h1);have hs:=D xc;clear h1 G xc;go_enter func50,ntmps50;go_wp2_with fail;refine xf.mono ?_
 rintro e H ⟨rfl,xg,h7⟩;have xt:w.heap.size+2≤H.heap.size:=by have:=h7.size;simpa using this
 have xh:=h7.heap (Ay w (Ab #[Ae (some ⟨g,0,none⟩)] 83) (Ab zF 109)) (by show ¬w.heap.size+1=g;omega);have xi:=h7.heap (AP w (Ab #[Ae (some ⟨g,0,none⟩)] 83) (Ab zF 109)) (by show ¬w.heap.size=g;omega);have h8:AA (WX 109 zF w (H.alloc (Ab #[Aa (str s),J none 0 0,J none 0 0,J none 0 0] 109)) H.heap.size g S p1 #[Aa (str s),J none 0 0,J none 0 0,J none 0 0]):=
  D ⟨Aj H _,CE ((Ext.refl H).alloc _) xh,CE ((Ext.refl H).alloc _) xi,xg.ext ((Ext.refl H).alloc _),((Gl (((Ext.refl w).alloc (Ab #[Ae (some ⟨g,0,none⟩)] 83)).alloc (Ab zF 109))).trans h7).alloc _⟩
 obtain⟨X,xj⟩:=JH H.heap.size;have m:g<X:=by omega
 have h:w.heap.size+1<X:=by omega
 clear xg h7 xh xi xf;go_upto_region 2 with fail;rw [←xj]at h8 ⊢;clear xj xt;generalize(H.alloc (Ab #[Aa (str s),J none 0 0,J none 0 0,J none 0 0] 109))=w2 at*
 have yd:=bk h8.b 0;go_wp2_with fail;refine(Mh (h8.pw.ext ((Ext.refl w2).alloc _)) xd (b:=w2.heap.size) (Aj w2 _) (by have:=h8.lt;omega)).mono ?_
 rintro e xu ⟨rfl,xk,xl⟩;have F:=D (h8.step h a ((Gl ((Ext.refl w2).alloc _)).trans xl) xk);clear xk xl xd;have ye:=bk F.b 0;have ht:=D (zI0 g S xs [41] xu F.pw.at_);unfold fP at h6;split at h6
 ·rename_i hy;cases h6;rw [hy]at ht;go_wp2_with fail;refine ht.mono ?_
  rintro e I ⟨rfl,rfl⟩;have xv:=D (Ju.nil Qs (UZ X I) I);go_wp2_with fail;refine(aD (F.pw.ext ((Ext.refl I).alloc _)) hp hq (b:=I.heap.size) (Aj I _) (by have:=F.lt;omega)).mono ?_
  rintro e xw ⟨rfl,h9,ha⟩;have O:=(Gl ((Ext.refl I).alloc _)).trans ha;have t:=D (F.step h a O h9);have hb:=D (OG xv m O);clear h9 ha O hp hq;have xx:=bk t.b 0;unfold XU at j;split at j
  ·rename_i P;split at j
   ·cases j
   ·rename_i xy hz;split at j
    ·cases j
    ·rename_i xz y0 hc;split at j
     ·cases j
     ·rename_i y1 hd;cases j;go_wp2_with fail;refine(LU t.pw P hz).mono ?_
      rintro e B ⟨rfl,he,Q⟩;have A:=D (t.step h a Q he);have x0:=D (OG hb m Q);clear he Q;have y2:=bk A.b 0;have x1:=A.lt;have hf:AA (QW Qs 9 109 B g w.heap.size X B.heap.size #[Aa (str s),J none 0 0,J none 0 0,J none 0 0] 2 [] (J none 0 0)):=D ⟨A.b,A.x,rfl,RowK.nil _ _ _ _,x1⟩;have hg:=D (qx fe a (by omega) (fun p x q acc c v W hh hi hj G hk=>zI8 a (by omega) hh hi hj G hk) hc hw A.pw hf (Aw _));clear hc hf;go_wp2_with fail;refine hg.mono ?_
      rintro e K ⟨rfl,y3,R,hl,T⟩;have L:=D (A.list h a R hl T);have x2:=D (o7 x0 m T);have hm:=D (aP R);obtain⟨x3,x4,rfl⟩:=JB hm;clear hg R hl T;have y4:=bk L.b 0;go_wp2_with fail;refine(Mh (L.pw.ext ((Ext.refl K).alloc _)) hd (b:=K.heap.size) (Aj K _) (by have:=L.lt;omega)).mono ?_
      rintro e y5 ⟨rfl,hn,ho⟩;have M:=(Gl ((Ext.refl K).alloc _)).trans ho;have N:=D (L.step h a M hn);have x5:=D (OG x2 m M);have U:=D (OG hm m M);clear hn ho M hd;have y6:=bk N.b 0;go_wp2_with fail;refine(hs _ _ _ _ hr N.pw).mono ?_
      rintro e wr ⟨⟨x6,rfl,y⟩,C,k⟩;obtain⟨d,f,rfl⟩:=JB y;have z:=D (N.step h a k C);have Z:=D (OG x5 m k);have h0:=D (OG U m k);have E:=N.lt;have h2:=D (Xh y E);have x7:=bk z.x 3;have x8:=JF z.x 3;have l:=D (z.set h a 3 (J d b.length f));have h3:=D (NI (i:=3) (u:=J d b.length f) Z);have h4:=D (NI (i:=3) (u:=J d b.length f) h0);have h5:=D (NI (i:=3) (u:=J d b.length f) h2);clear C k y E;go_upto_region 10 with fail;generalize(wr.setCell ⟨X,3,none⟩ (J d b.length f))=wz at*
      go_wp2_with (first|refine Qx rfl Bg rfl l.x Nb ?_|refine L8 rfl rfl rfl l.r Nb ?_ (h1:=(Np (qy _ _ _ _ _ _ _ _ _ _))));refine K3 Hc Bg Nb (PO l.r) ?_
      exact Xj (cs:=[Aa (str s),J none 0 0,J x3 xe.length x4,J d b.length f]) l h a ⟨_,_,_,rfl,h3,h4,h5⟩
  ·rename_i P;have x9:=AJ.2 P;cases j;go_wp2_with fail;refine(J8 t.pw x9).mono ?_
   rintro e B ⟨rfl,rfl⟩;have U:=D (Ju.nil Qs (UZ X B) B);go_wp2_with fail;refine(hs _ _ _ _ hr t.pw).mono ?_
   rintro e wr ⟨⟨x6,rfl,y⟩,C,k⟩;obtain⟨d,f,rfl⟩:=JB y;have z:=D (t.step h a k C);have Z:=D (OG hb m k);have h0:=D (OG U m k);have E:=t.lt;have h2:=D (Xh y E);have x7:=bk z.x 3;have x8:=JF z.x 3;have l:=D (z.set h a 3 (J d b.length f));have h3:=D (NI (i:=3) (u:=J d b.length f) Z);have h4:=D (NI (i:=3) (u:=J d b.length f) h0);have h5:=D (NI (i:=3) (u:=J d b.length f) h2);clear C k y E;go_upto_region 10 with fail;generalize(wr.setCell ⟨X,3,none⟩ (J d b.length f))=wz at*
   go_wp2_with (first|refine Qx rfl Bg rfl l.x Nb ?_|refine L8 rfl rfl rfl l.r Nb ?_ (h1:=(Np (qy _ _ _ _ _ _ _ _ _ _))));refine K3 Hc Bg Nb (PO l.r) ?_
   exact Xj (cs:=[Aa (str s),J none 0 0,J none 0 0,J d b.length f]) l h a ⟨_,_,_,rfl,h3,h4,h5⟩
 ·rename_i hy;have y7:=AJ.2 hy;rw [y7]at ht;go_wp2_with fail;refine ht.mono ?_
  rintro e I ⟨rfl,rfl⟩;have xm:=F.lt;have xn:AA (QW Qs 9 109 I g w.heap.size X I.heap.size #[Aa (str s),J none 0 0,J none 0 0,J none 0 0] 1 [] (J none 0 0)):=D ⟨F.b,F.x,rfl,RowK.nil _ _ _ _,xm⟩;have xo:=D (qx uX a (by omega) (fun p x q acc c v W hh hi hj G hk=>yB1 a (by omega) hh hi hj G hk) h6 hw F.pw xn (Aw _));clear h6 xn xm;go_wp2_with fail;refine xo.mono ?_
  rintro e hu ⟨rfl,yf,xa,xp,xq⟩;have hv:=D (F.list h a xa xp xq);have xr:=D (aP xa);obtain⟨pA,xb,rfl⟩:=JB xr;clear xo xa xp xq;have yg:=bk hv.b 0;go_wp2_with fail;refine(aD (hv.pw.ext ((Ext.refl hu).alloc _)) hp hq (b:=hu.heap.size) (Aj hu _) (by have:=hv.lt;omega)).mono ?_
  rintro e xw ⟨rfl,h9,ha⟩;have O:=(Gl ((Ext.refl hu).alloc _)).trans ha;have t:=D (hv.step h a O h9);have hb:=D (OG xr m O);clear h9 ha O hp hq;have xx:=bk t.b 0;unfold XU at j;split at j
  ·rename_i P;split at j
   ·cases j
   ·rename_i xy hz;split at j
    ·cases j
    ·rename_i xz y0 hc;split at j
     ·cases j
     ·rename_i y1 hd;cases j;go_wp2_with fail;refine(LU t.pw P hz).mono ?_
      rintro e B ⟨rfl,he,Q⟩;have A:=D (t.step h a Q he);have x0:=D (OG hb m Q);clear he Q;have y2:=bk A.b 0;have x1:=A.lt;have hf:AA (QW Qs 9 109 B g w.heap.size X B.heap.size #[Aa (str s),J pA hx.length xb,J none 0 0,J none 0 0] 2 [] (J none 0 0)):=D ⟨A.b,A.x,rfl,RowK.nil _ _ _ _,x1⟩;have hg:=D (qx fe a (by omega) (fun p x q acc c v W hh hi hj G hk=>zI8 a (by omega) hh hi hj G hk) hc hw A.pw hf (Aw _));clear hc hf;go_wp2_with fail;refine hg.mono ?_
      rintro e K ⟨rfl,y3,R,hl,T⟩;have L:=D (A.list h a R hl T);have x2:=D (o7 x0 m T);have hm:=D (aP R);obtain⟨x3,x4,rfl⟩:=JB hm;clear hg R hl T;have y4:=bk L.b 0;go_wp2_with fail;refine(Mh (L.pw.ext ((Ext.refl K).alloc _)) hd (b:=K.heap.size) (Aj K _) (by have:=L.lt;omega)).mono ?_
      rintro e y5 ⟨rfl,hn,ho⟩;have M:=(Gl ((Ext.refl K).alloc _)).trans ho;have N:=D (L.step h a M hn);have x5:=D (OG x2 m M);have U:=D (OG hm m M);clear hn ho M hd;have y6:=bk N.b 0;go_wp2_with fail;refine(hs _ _ _ _ hr N.pw).mono ?_
      rintro e wr ⟨⟨x6,rfl,y⟩,C,k⟩;obtain⟨d,f,rfl⟩:=JB y;have z:=D (N.step h a k C);have Z:=D (OG x5 m k);have h0:=D (OG U m k);have E:=N.lt;have h2:=D (Xh y E);have x7:=bk z.x 3;have x8:=JF z.x 3;have l:=D (z.set h a 3 (J d b.length f));have h3:=D (NI (i:=3) (u:=J d b.length f) Z);have h4:=D (NI (i:=3) (u:=J d b.length f) h0);have h5:=D (NI (i:=3) (u:=J d b.length f) h2);clear C k y E;go_upto_region 10 with fail;generalize(wr.setCell ⟨X,3,none⟩ (J d b.length f))=wz at*
      go_wp2_with (first|refine Qx rfl Bg rfl l.x Nb ?_|refine L8 rfl rfl rfl l.r Nb ?_ (h1:=(Np (qy _ _ _ _ _ _ _ _ _ _))));refine K3 Hc Bg Nb (PO l.r) ?_
      exact Xj (cs:=[Aa (str s),J pA hx.length xb,J x3 xe.length x4,J d b.length f]) l h a ⟨_,_,_,rfl,h3,h4,h5⟩
  ·rename_i P;have x9:=AJ.2 P;cases j;go_wp2_with fail;refine(J8 t.pw x9).mono ?_
   rintro e B ⟨rfl,rfl⟩;have U:=D (Ju.nil Qs (UZ X B) B);go_wp2_with fail;refine(hs _ _ _ _ hr t.pw).mono ?_
   rintro e wr ⟨⟨x6,rfl,y⟩,C,k⟩;obtain⟨d,f,rfl⟩:=JB y;have z:=D (t.step h a k C);have Z:=D (OG hb m k);have h0:=D (OG U m k);have E:=t.lt;have h2:=D (Xh y E);have x7:=bk z.x 3;have x8:=JF z.x 3;have l:=D (z.set h a 3 (J d b.length f));have h3:=D (NI (i:=3) (u:=J d b.length f) Z);have h4:=D (NI (i:=3) (u:=J d b.length f) h0);have h5:=D (NI (i:=3) (u:=J d b.length f) h2);clear C k y E;go_upto_region 10 with fail;generalize(wr.setCell ⟨X,3,none⟩ (J d b.length f))=wz at*
   go_wp2_with (first|refine Qx rfl Bg rfl l.x Nb ?_|refine L8 rfl rfl rfl l.r Nb ?_ (h1:=(Np (qy _ _ _ _ _ _ _ _ _ _))));refine K3 Hc Bg Nb (PO l.r) ?_
   exact Xj (cs:=[Aa (str s),J pA hx.length xb,J none 0 0,J d b.length f]) l h a ⟨_,_,_,rfl,h3,h4,h5⟩
abbrev zG:Array h:= #[V Ad 0,Aa ⟨#[]⟩,V Af 0,J none 0 0]
theorem yY1:(prog.info? 112).map (fun i=>(i.zero,i.size,i.bytes))=some (some (AN zG),4,56):=by kernel_rfl
theorem Oe:(prog.info? 112).map (·.size)=some 4:=by kernel_rfl
theorem rE (k:Int)(s:ByteArray)(m:Int)(A:Option Bi)(n c:Nat):∀ u∈([V Ad k,Aa s,V Af m,J A n c]:List h),u.oneCell'=true:=by
 intro u a;simp only [AH,Ba,or_false]at a;rcases a with rfl|rfl|rfl|rfl<;>rfl
theorem rF:∀ args w,(GS 94 args).run prog w=Ez (I8 94 args) w:=F8 func94 (by kernel_rfl) rfl
theorem zQ {g:Nat}{S:ByteArray}{n:Nat}(h2:n≤1000){w:Y}{p:PS}(l:PW w g S p)(Q:JZ [99,111,110,115,116] p=true){p1 y z A q:PS}{s:Bs}{k:Nat}(h1:Kh p=some p1)(m:M0 p1=some (s,y))(o:KD [61] y=some z)(R:QP z=some (k,A))(T:KD [59] A=some q):
 As prog 51 #[Ae (some ⟨g,0,none⟩)] w (o8 KG w g S q ⟨1,s,k,[]⟩):=by
 have a:=l.lt;have f:AA (WX 112 zG w (((w.alloc (Ab #[Ae (some ⟨g,0,none⟩)] 83)).alloc (Ab zG 112)).alloc (Ab zG 112)) (w.heap.size+1+1) g S p zG):=D (by
  have m:=Ay w (Ab #[Ae (some ⟨g,0,none⟩)] 83) (Ab zG 112)
  have h1:=AP w (Ab #[Ae (some ⟨g,0,none⟩)] 83) (Ab zG 112)
  have o:=Aj ((w.alloc (Ab #[Ae (some ⟨g,0,none⟩)] 83)).alloc (Ab zG 112)) (Ab zG 112)
  refine⟨by simpa using o,CE ((Ext.refl _).alloc _) m,CE ((Ext.refl _).alloc _) h1,l.ext ((((Ext.refl w).alloc _).alloc _).alloc _),Gl ((((Ext.refl w).alloc _).alloc _).alloc _)⟩)
 clear l;go_enter func51,ntmps51;go_upto_region 9 with fail;obtain⟨X,B⟩:=JH (w.heap.size+1+1);have h3:g<X:=by omega
 have c:w.heap.size+1<X:=by omega
 rw [←B]at f ⊢;clear B;generalize(((w.alloc (Ab #[Ae (some ⟨g,0,none⟩)] 83)).alloc (Ab zG 112)).alloc (Ab zG 112))=v0 at*
 have h4:=bk f.b 0;go_wp2_with fail;refine(LU f.pw Q h1).mono ?_
 rintro e h5 ⟨rfl,C,E⟩;have t:=D (f.step c a E C);clear C E;have h6:=bk t.b 0;go_wp2_with fail;refine(TM t.pw m).mono ?_
 rintro e U ⟨rfl,F,G⟩;have d:=D (t.step c a G F);clear F G;have h7:=bk d.x 0;have h8:=JF d.x 0;have h9:=bk d.x 1;have ha:=JF d.x 1;have h:=D ((d.set c a 0 (V Ad 1)).set c a 1 (Aa (str s)));go_upto_region 11 with fail;generalize W:((U.setCell ⟨X,0,none⟩ (V Ad 1)).setCell ⟨X,1,none⟩ (Aa (str s)))=v3 at*
 clear W;have hb:=bk h.b 0;go_wp2_with fail;refine(Mh (h.pw.ext ((Ext.refl v3).alloc _)) o (b:=v3.heap.size) (Aj v3 _) (by have:=h.lt;omega)).mono ?_
 rintro e hc ⟨rfl,H,I⟩;have K:=(Gl ((Ext.refl v3).alloc _)).trans I;have u:=D (h.step c a K H);clear H I K;have hd:=bk u.b 0;go_wp2_with fail;refine(YZ u.pw R).mono ?_
 rintro e Z ⟨rfl,L,M⟩;have v:=D (u.step c a M L);clear L M;have he:=bk v.x 2;have hf:=JF v.x 2;have i:=D (v.set c a 2 (V Af k));go_upto_region 15 with fail;generalize h0:(Z.setCell ⟨X,2,none⟩ (V Af k))=v6 at*
 clear h0;have hg:=bk i.b 0;go_wp2_with fail;refine(Mh (i.pw.ext ((Ext.refl v6).alloc _)) T (b:=v6.heap.size) (Aj v6 _) (by have:=i.lt;omega)).mono ?_
 rintro e hh ⟨rfl,N,O⟩;have P:=(Gl ((Ext.refl v6).alloc _)).trans O;have j:=D (i.step c a P N);clear N O P;go_wp2_with (first|refine Qx rfl Bm rfl j.x Oe ?_|refine L8 rfl rfl rfl j.r Oe ?_ (h1:=(Np (rE _ _ _ _ _ _))));refine K3 Hd Bm Oe (PO j.r) ?_
 exact Xj (cs:=[V Ad 1,Aa (str s),V Af k,J none 0 0]) j c a ⟨_,rfl,Ju.nil _ _ _⟩
theorem ze8 {g:Nat}{S:ByteArray}{n:Nat}(L:n≤1000){w:Y}{p:PS}(j:PW w g S p)(hc:JZ [99,111,110,115,116] p=false)(E:JZ [118,97,114] p=true){p1 m q:PS}{s:Bs}(h1:Kh p=some p1)(k:M0 p1=some (s,m))(F:KD [59] m=some q):
 As prog 51 #[Ae (some ⟨g,0,none⟩)] w (o8 KG w g S q ⟨2,s,0,[]⟩):=by
 have a:=j.lt;have d:AA (WX 112 zG w (((w.alloc (Ab #[Ae (some ⟨g,0,none⟩)] 83)).alloc (Ab zG 112)).alloc (Ab zG 112)) (w.heap.size+1+1) g S p zG):=D (by
  have k:=Ay w (Ab #[Ae (some ⟨g,0,none⟩)] 83) (Ab zG 112)
  have h1:=AP w (Ab #[Ae (some ⟨g,0,none⟩)] 83) (Ab zG 112)
  have G:=Aj ((w.alloc (Ab #[Ae (some ⟨g,0,none⟩)] 83)).alloc (Ab zG 112)) (Ab zG 112)
  refine⟨by simpa using G,CE ((Ext.refl _).alloc _) k,CE ((Ext.refl _).alloc _) h1,j.ext ((((Ext.refl w).alloc _).alloc _).alloc _),Gl ((((Ext.refl w).alloc _).alloc _).alloc _)⟩)
 clear j;go_enter func51,ntmps51;go_upto_region 9 with fail;obtain⟨X,o⟩:=JH (w.heap.size+1+1);have M:g<X:=by omega
 have c:w.heap.size+1<X:=by omega
 rw [←o]at d ⊢;clear o;generalize(((w.alloc (Ab #[Ae (some ⟨g,0,none⟩)] 83)).alloc (Ab zG 112)).alloc (Ab zG 112))=v0 at*
 have N:=bk d.b 0;have t:=D (J8 d.pw hc);go_wp2_with fail;refine t.mono ?_
 rintro e O ⟨rfl,H⟩;subst H;clear t;go_wp2_with fail;refine(LU d.pw E h1).mono ?_
 rintro e P ⟨rfl,u,v⟩;have l:=D (d.step c a v u);clear u v;have Q:=bk l.b 0;go_wp2_with fail;refine(TM l.pw k).mono ?_
 rintro e I ⟨rfl,y,z⟩;have f:=D (l.step c a z y);clear y z;have R:=bk f.x 0;have T:=JF f.x 0;have U:=bk f.x 1;have W:=JF f.x 1;have h:=D ((f.set c a 0 (V Ad 2)).set c a 1 (Aa (str s)));go_upto_region 15 with fail;generalize K:((I.setCell ⟨X,0,none⟩ (V Ad 2)).setCell ⟨X,1,none⟩ (Aa (str s)))=v3 at*
 clear K;have Z:=bk h.b 0;go_wp2_with fail;refine(Mh (h.pw.ext ((Ext.refl v3).alloc _)) F (b:=v3.heap.size) (Aj v3 _) (by have:=h.lt;omega)).mono ?_
 rintro e h0 ⟨rfl,A,B⟩;have C:=(Gl ((Ext.refl v3).alloc _)).trans B;have i:=D (h.step c a C A);clear A B C;go_wp2_with (first|refine Qx rfl Bm rfl i.x Oe ?_|refine L8 rfl rfl rfl i.r Oe ?_ (h1:=(Np (rE _ _ _ _ _ _))));refine K3 Hd Bm Oe (PO i.r) ?_
 exact Xj (cs:=[V Ad 2,Aa (str s),V Af 0,J none 0 0]) i c a ⟨_,rfl,Ju.nil _ _ _⟩
theorem uf {g:Nat}{S:ByteArray}{n:Nat}(hv:n≤1000){w:Y}{p:PS}(j:PW w g S p)(hc:JZ [99,111,110,115,116] p=false)(hw:JZ [118,97,114] p=false){p1 Z h0 h2 o q:PS}{s:Bs}{k:Nat}(h1:KD [97,114,114,97,121] p=some p1)(K:M0 p1=some (s,Z))(L:KD [91] Z=some h0)(hx:QP h0=some (k,h2))(hy:KD [93] h2=some o){l:List Nat}(t:(JZ [61] o=false∧KD [59] o=some q∧l=[])∨∃ M N,JZ [61] o=true∧Kh o=some M∧Rh QP n [] M=some (l,N)∧KD [59] N=some q):
 As prog 51 #[Ae (some ⟨g,0,none⟩)] w (o8 KG w g S q ⟨3,s,k,l⟩):=by
 have a:=j.lt;have xf:=j.g13;have h:AA (WX 112 zG w (((w.alloc (Ab #[Ae (some ⟨g,0,none⟩)] 83)).alloc (Ab zG 112)).alloc (Ab zG 112)) (w.heap.size+1+1) g S p zG):=D (by
  have K:=Ay w (Ab #[Ae (some ⟨g,0,none⟩)] 83) (Ab zG 112)
  have h1:=AP w (Ab #[Ae (some ⟨g,0,none⟩)] 83) (Ab zG 112)
  have L:=Aj ((w.alloc (Ab #[Ae (some ⟨g,0,none⟩)] 83)).alloc (Ab zG 112)) (Ab zG 112)
  refine⟨by simpa using L,CE ((Ext.refl _).alloc _) K,CE ((Ext.refl _).alloc _) h1,j.ext ((((Ext.refl w).alloc _).alloc _).alloc _),Gl ((((Ext.refl w).alloc _).alloc _).alloc _)⟩)
 clear j;go_enter func51,ntmps51;go_upto_region 9 with fail;obtain⟨X,h3⟩:=JH (w.heap.size+1+1);have hz:g<X:=by omega
 have d:w.heap.size+1<X:=by omega
 rw [←h3]at h ⊢;clear h3;generalize(((w.alloc (Ab #[Ae (some ⟨g,0,none⟩)] 83)).alloc (Ab zG 112)).alloc (Ab zG 112))=v0 at*
 have xg:=bk h.b 0;have h4:=D (J8 h.pw hc);go_wp2_with fail;refine h4.mono ?_
 rintro e xh ⟨rfl,u⟩;subst u;clear h4;have h5:=D (J8 h.pw hw);go_wp2_with fail;refine h5.mono ?_
 rintro e B ⟨rfl,u⟩;subst u;clear h5;go_wp2_with fail;refine(Mh (h.pw.ext ((Ext.refl B).alloc _)) h1 (b:=B.heap.size) (Aj B _) (by have:=h.lt;omega)).mono ?_
 rintro e xi ⟨rfl,h6,h7⟩;have h8:=(Gl ((Ext.refl B).alloc _)).trans h7;have O:=D (h.step d a h8 h6);clear h6 h7 h8;have xj:=bk O.b 0;go_wp2_with fail;refine(TM O.pw K).mono ?_
 rintro e x0 ⟨rfl,h9,ha⟩;have m:=D (O.step d a ha h9);clear h9 ha;have x1:=bk m.b 0;have xk:=bk m.x 0;have xl:=JF m.x 0;have xm:=bk m.x 1;have xn:=JF m.x 1;have C:=D ((m.set d a 0 (V Ad 3)).set d a 1 (Aa (str s)));clear x1;go_upto_region 4 with fail;generalize x2:((x0.setCell ⟨X,0,none⟩ (V Ad 3)).setCell ⟨X,1,none⟩ (Aa (str s)))=v3 at*
 clear x2;have xo:=bk C.b 0;go_wp2_with fail;refine(Mh (C.pw.ext ((Ext.refl v3).alloc _)) L (b:=v3.heap.size) (Aj v3 _) (by have:=C.lt;omega)).mono ?_
 rintro e xp ⟨rfl,hb,hd⟩;have he:=(Gl ((Ext.refl v3).alloc _)).trans hd;have P:=D (C.step d a he hb);clear hb hd he;have xq:=bk P.b 0;go_wp2_with fail;refine(YZ P.pw hx).mono ?_
 rintro e x3 ⟨rfl,hf,hg⟩;have E:=D (P.step d a hg hf);clear hf hg;have x4:=bk E.b 0;have xr:=bk E.x 2;have xs:=JF E.x 2;have F:=D (E.set d a 2 (V Af k));clear x4;go_upto_region 6 with fail;generalize x5:(x3.setCell ⟨X,2,none⟩ (V Af k))=v6 at*
 clear x5;have xt:=bk F.b 0;go_wp2_with fail;refine(Mh (F.pw.ext ((Ext.refl v6).alloc _)) hy (b:=v6.heap.size) (Aj v6 _) (by have:=F.lt;omega)).mono ?_
 rintro e xu ⟨rfl,hh,hi⟩;have hj:=(Gl ((Ext.refl v6).alloc _)).trans hi;have i:=D (F.step d a hj hh);clear hh hi hj;have xv:=bk i.b 0;rcases t with⟨t,Q,rfl⟩|⟨M,N,t,x6,hk,Q⟩
 ·have hl:=D (J8 i.pw t);go_wp2_with fail;refine hl.mono ?_
  rintro e G ⟨rfl,u⟩;subst u;clear hl;go_wp2_with fail;refine(Mh (i.pw.ext ((Ext.refl G).alloc _)) Q (b:=G.heap.size) (Aj G _) (by have:=i.lt;omega)).mono ?_
  rintro e R ⟨rfl,y,z⟩;have hm:=(Gl ((Ext.refl G).alloc _)).trans z;have f:=D (i.step d a hm y);clear y z hm;have x7:=bk f.b 0;go_wp2_with (first|refine Qx rfl Bm rfl f.x Oe ?_|refine L8 rfl rfl rfl f.r Oe ?_ (h1:=(Np (rE _ _ _ _ _ _))));refine K3 Hd Bm Oe (PO f.r) ?_
  exact Xj (cs:=[V Ad 3,Aa (str s),V Af k,J none 0 0]) f d a ⟨_,rfl,Ju.nil _ _ _⟩
 ·go_wp2_with fail;refine(LU i.pw t x6).mono ?_
  rintro e R ⟨rfl,y,z⟩;have f:=D (i.step d a z y);clear y z;have x7:=bk f.b 0;have hn:=f.lt;have ho:AA (QW KU 24 112 R g w.heap.size X R.heap.size #[V Ad 3,Aa (str s),V Af k,J none 0 0] 3 [] (J none 0 0)):=D ⟨f.b,f.x,rfl,RowK.nil _ _ _ _,hn⟩;have hp:=D (qx rF a (by omega) (fun p x q acc c v W x8 x9 xa j xb=>yB2 a (by omega) x8 x9 xa j xb) hk hv f.pw ho (Aw _));clear hk ho hn;go_wp2_with fail;refine hp.mono ?_
  rintro e H ⟨rfl,xw,T,hq,hr⟩;have I:=D (f.list d a T hq hr);have hs:=D (aP T);obtain⟨xc,xd,rfl⟩:=JB hs;clear hp T hq hr;have xx:=bk I.b 0;go_wp2_with fail;refine(Mh (I.pw.ext ((Ext.refl H).alloc _)) Q (b:=H.heap.size) (Aj H _) (by have:=I.lt;omega)).mono ?_
  rintro e v10 ⟨rfl,ht,hu⟩;have U:=(Gl ((Ext.refl H).alloc _)).trans hu;have A:=D (I.step d a U ht);have xe:=D (OG hs hz U);clear ht hu U;have xy:=bk A.b 0;go_wp2_with (first|refine Qx rfl Bm rfl A.x Oe ?_|refine L8 rfl rfl rfl A.r Oe ?_ (h1:=(Np (rE _ _ _ _ _ _))));refine K3 Hd Bm Oe (PO A.r) ?_
  exact Xj (cs:=[V Ad 3,Aa (str s),V Af k,J xc l.length xd]) A d a ⟨_,rfl,xe⟩
theorem yY5 {g:Nat}{S:ByteArray}{n:Nat}(d:n≤1000){w:Y}{p q:PS}{x:KJ}(e:PW w g S p)(a:XR n p=some (x,q)):
 As prog 51 #[Ae (some ⟨g,0,none⟩)] w (o8 KG w g S q x):=by
 unfold XR at a;split at a
 ·rename_i i;split at a
  ·cases a
  rename_i p1 h1;split at a
  ·cases a
  rename_i s r b;split at a
  ·cases a
  rename_i t c;split at a
  ·cases a
  rename_i k v f;split at a
  ·cases a
  rename_i y h;cases a;exact zQ d e i h1 b c f h
 rename_i hc;have j:=AJ.2 hc;split at a
 ·rename_i i;split at a
  ·cases a
  rename_i p1 h1;split at a
  ·cases a
  rename_i s r b;split at a
  ·cases a
  rename_i t c;cases a;exact ze8 d e j i h1 b c
 rename_i z;have u:=AJ.2 z;split at a
 ·cases a
 rename_i p1 h1;split at a
 ·cases a
 rename_i s r b;split at a
 ·cases a
 rename_i t c;split at a
 ·cases a
 rename_i k v f;split at a
 ·cases a
 rename_i y h;split at a
 ·rename_i m;split at a
  ·cases a
  rename_i A o;split at a
  ·cases a
  rename_i l D B;split at a
  ·cases a
  rename_i E C;cases a;exact uf d e j u h1 b c f h (AB ⟨_,_,m,o,B,C⟩)
 ·rename_i m;split at a
  ·cases a
  rename_i A o;cases a;exact uf d e j u h1 b c f h (AO ⟨AJ.2 m,o,rfl⟩)
end Go.Proofs.YtmkomefmgcpnbaaGreatDoor

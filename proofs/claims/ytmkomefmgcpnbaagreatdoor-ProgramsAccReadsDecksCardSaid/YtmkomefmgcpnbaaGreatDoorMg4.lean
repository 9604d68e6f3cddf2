import Derived.Test.YtmkomefmgcpnbaaGreatDoorMg3
set_option linter.all false
set_option maxHeartbeats 12800000
set_option maxRecDepth 100000
namespace Go.Proofs.YtmkomefmgcpnbaaGreatDoor
open Tryz Pg Go Go.Proofs Go.RowKit
open _root_.Array renaming getElem?_eq_some_iff→Ag
open _root_.Bool renaming eq_false_iff→AJ,false_eq_true→BL
open Go renaming Calls→As,Value→h,World→Y,heap_alloc2_new→Ay,heap_alloc2_old→AP,heap_alloc_new→Aj,Act→CY,Exit→EY,Operand→CC,Oper→B5,Program→BR,TypeDesc→DK,TypeId→AK,execOp→CS,run_loadVar_row→DI,setRow_heap→Bo,setRow_other→C7,undef→Ca,yielded→BW,Addr→Bi,Ending→BX,maxLen→Bk
open Go.IntKind renaming i64→Ad,u32→Af
open Go.Lib renaming hid→D
open Go.Obj renaming cells→Ab
open Go.Proofs renaming intOf→AX
open Go.Proofs.Tryz renaming func223→E4,ntmps223→EE,results223→D0,underlying287→Ax,results174→IQ,underlying227→AV
open Go.Value renaming int→V,pointer→Ae,slice→J,string→Aa,agg→AN,tuple→AZ
open _root_.Nat renaming eq_of_beq_eq_true→Ap,beq→Az,blt_eq→Dm,blt→Be,le_refl→Aw,lt_of_lt_of_le→Ar,strongRecOn→D1
open Go.Act renaming put→Au
open Go.Instr renaming loadAt→Ir,sureAddr→GQ,build→D8
open Go.Next renaming value→F5
open Go.Op renaming load→IK
open Go.Oper renaming wp→Cb
open Go.Operand renaming tmp→Eh
open Go.Region renaming wanted→AQ
open Go.Result renaming andThen_ok→C3,ok→Ez
open Go.RowKit renaming Hid→AA
open Go.Sem renaming run_bind→Di,run_pure→D3
open Go.TypeDesc renaming array→DX,struct→DA
open _root_.Or renaming inl→AO,inr→AB
open Go.Ending renaming returned→Ak
open _root_.List renaming length_append→M,mem_cons→AH,not_mem_nil→Ba
open Go.RowKit.Below renaming heap_setCell→AY
theorem Yc {U:Nat→Prop}{W:Y}{k op num:Nat}{nm:Bs}{args:List Ex}{v:h}(a:Ju KE U W args v):OV U W (.mk k op num nm args) [V Ad k,V Ad op,V Af num,Aa (str nm),v]:=by
 rw [OZ];exact⟨v,rfl,a⟩
theorem arg_num {g:Nat}{S:ByteArray}{n:Nat}(A:Ps g S n)(B:TQ g S n){p:PS}{w:Y}(m:∀ j,1≤j→j≤3→dP p j=false)(a:PW w g S p){q:PS}(i:p.tok.kind=2)(o:Kh p=some q):
 As prog 223 #[Ae (some ⟨g,0,none⟩)] w (Su w g S q (.mk 1 0 p.tok.num [] [])):=by
 have C:=a.lt;have r:=D (fun(k:Nat) (W:Y) (e:Ext w W) (c:1≤k) (l:k≤3)=>VE k W (a.tab.ext e) c (by omega));have t:=D (fun(k:Nat) (W:Y) (e:Ext w W) (c:1≤k) (l:k≤3)=>J8 (a.ext e) (m k c l));have c1:w.cell? ⟨g,1,none⟩=some (V Ad p.tok.kind):=JA a.at_.b 1
 rw [i]at c1;have u:QP p=some (p.tok.num,q):=by unfold QP;rw [i,if_pos (by rfl),o]
 have E:=D (fun(W:Y) (e:Ext w W)=>YZ (a.ext e) u);clear o u;clear m a A B;go_enter E4,EE;go_wp2;go_loopw [3] (fun s wr=>∃ k:Nat,s=V Ad k∧1≤k∧k≤4∧Ext w wr∧wr.heap[w.heap.size]?= some (Ab zE 287 (0,0))) (fun s _=>4 - (AX s).toNat)
 case atStart=>exact⟨1,rfl,by omega,by omega,(Ext.refl w).alloc _,Aj w _⟩
 case round=>
  obtain⟨k,rfl,c,l,d,v⟩:=hrel;have f:=D d;have x:=D v;clear d v;by_cases y:k≤3
  ·have F:=D (r k wr f c y);have G:=D (t k (wr.alloc (Ab (Jw Pg.ops).toArray 9)) (f.alloc _) c y);have H:=D (f.alloc (Ab (Jw Pg.ops).toArray 9));have h:=D (CE ((Ext.refl wr).alloc (Ab (Jw Pg.ops).toArray 9)) x);generalize str (MM k)=sg at*
   generalize(Jw Pg.ops).toArray=cz at*
   clear c1;go_wp2_with fail;refine F.out.mono ?_
   rintro e N ⟨rfl,rfl⟩;go_wp2_with fail;refine G.out.mono ?_
   rintro e I ⟨rfl,rfl⟩;go_wp2_with fail;go_roundw
   case rel=>exact⟨k+1,by go_num,by omega,by omega,H,h⟩
   case measure=>simp [AX];omega
  ·have K:k=4:=by omega
   subst K;have O:=f.cell c1;clear c1 r t
   skip
   clear i;go_wp2_with fail;refine(E wr f).mono ?_
   rintro e I ⟨rfl,z,d⟩;have L:=D z;have M:=D ((Gl f).trans d);have h:=D (d.heap x (by show ¬w.heap.size=g;omega));clear z d;go_wp2_with (refine L8 rfl rfl rfl h Ki ?_);refine K3 D0 Ax Ki (PO h) ?_
   exact UG (cs:=[V Ad 1,V Ad 0,V Af p.tok.num,Aa ⟨#[]⟩,J none 0 0]) (M) (L) C (Yc (nm:=[]) (Ju.nil _ _ _))
theorem zb9 {g:Nat}{S:ByteArray}{n:Nat}(y:Ps g S n)(z:TQ g S n){p:PS}{w:Y}(m:∀ j,1≤j→j≤3→dP p j=false)(a:PW w g S p){q:PS}(A:p.tok.kind≠2)(h:JZ [103,101,116] p=true)(o:Kh p=some q):
 As prog 223 #[Ae (some ⟨g,0,none⟩)] w (Su w g S q (.mk 5 0 0 [] [])):=by
 have B:=a.lt;have r:=D (fun(k:Nat) (W:Y) (e:Ext w W) (c:1≤k) (l:k≤3)=>VE k W (a.tab.ext e) c (by omega));have t:=D (fun(k:Nat) (W:Y) (e:Ext w W) (c:1≤k) (l:k≤3)=>J8 (a.ext e) (m k c l));have c1:=JA a.at_.b 1
 have C:=D (fun(W:Y) (e:Ext w W)=>LU (a.ext e) h o);clear o;clear m a y z;go_enter E4,EE;go_wp2;go_loopw [3] (fun s wr=>∃ k:Nat,s=V Ad k∧1≤k∧k≤4∧Ext w wr∧wr.heap[w.heap.size]?= some (Ab zE 287 (0,0))) (fun s _=>4 - (AX s).toNat)
 case atStart=>exact⟨1,rfl,by omega,by omega,(Ext.refl w).alloc _,Aj w _⟩
 case round=>
  obtain⟨k,rfl,c,l,d,h⟩:=hrel;have f:=D d;have u:=D h;clear d h;by_cases v:k≤3
  ·have E:=D (r k wr f c v);have F:=D (t k (wr.alloc (Ab (Jw Pg.ops).toArray 9)) (f.alloc _) c v);have G:=D (f.alloc (Ab (Jw Pg.ops).toArray 9));have i:=D (CE ((Ext.refl wr).alloc (Ab (Jw Pg.ops).toArray 9)) u);generalize str (MM k)=sg at*
   generalize(Jw Pg.ops).toArray=cz at*
   clear c1;go_wp2_with fail;refine E.out.mono ?_
   rintro e M ⟨rfl,rfl⟩;go_wp2_with fail;refine F.out.mono ?_
   rintro e H ⟨rfl,rfl⟩;go_wp2_with fail;go_roundw
   case rel=>exact⟨k+1,by go_num,by omega,by omega,G,i⟩
   case measure=>simp [AX];omega
  ·have I:k=4:=by omega
   subst I;have N:wr.cell? ⟨g,1,none⟩=some (V Ad p.tok.kind):=f.cell c1;clear c1 r t;have O:((p.tok.kind:Int)==2)=false:=by simp;omega
   generalize p.tok.kind=kk at*
   clear A;go_wp2_with fail;refine(C wr f).mono ?_
   rintro e H ⟨rfl,x,d⟩;have K:=D x;have L:=D ((Gl f).trans d);have i:=D (d.heap u (by show ¬w.heap.size=g;omega));clear x d;go_wp2_with (refine L8 rfl rfl rfl i Ki ?_);refine K3 D0 Ax Ki (PO i) ?_
   exact UG (cs:=[V Ad 5,V Ad 0,V Af 0,Aa ⟨#[]⟩,J none 0 0]) (L) (K) B (Yc (nm:=[]) (Ju.nil _ _ _))
theorem zc0 {g:Nat}{S:ByteArray}{n:Nat}(A:Ps g S n)(h1:TQ g S n){p:PS}{w:Y}(B:∀ j,1≤j→j≤3→dP p j=false)(a:PW w g S p){q r t:PS}{x:Ex}(h2:p.tok.kind≠2)(h3:JZ [103,101,116] p=false)(m:JZ [40] p=true)(C:Kh p=some q)(l:M3 n 1 q=some (x,r))(E:KD [41] r=some t):
 As prog 223 #[Ae (some ⟨g,0,none⟩)] w (Su w g S t x):=by
 have h4:=a.lt;have F:=D (fun(k:Nat) (W:Y) (e:Ext w W) (h:1≤k) (u:k≤3)=>VE k W (a.tab.ext e) h (by omega));have H:=D (fun(k:Nat) (W:Y) (e:Ext w W) (h:1≤k) (u:k≤3)=>J8 (a.ext e) (B k h u));have c1:=JA a.at_.b 1
 have h5:=D (fun(W:Y) (e:Ext w W)=>J8 (a.ext e) h3);have h6:=D (fun(W:Y) (e:Ext w W)=>LU (a.ext e) m C);have h7:=D (fun(W:Y) (h8:PW W g S q)=>A 1 q x r W l h8);have h9:=D E;clear C l E;clear B a A h1;go_enter E4,EE;go_wp2;go_loopw [3] (fun s wr=>∃ k:Nat,s=V Ad k∧1≤k∧k≤4∧Ext w wr∧wr.heap[w.heap.size]?= some (Ab zE 287 (0,0))) (fun s _=>4 - (AX s).toNat)
 case atStart=>exact⟨1,rfl,by omega,by omega,(Ext.refl w).alloc _,Aj w _⟩
 case round=>
  obtain⟨k,rfl,h,u,l,m⟩:=hrel;have d:=D l;have v:=D m;clear l m;by_cases I:k≤3
  ·have ha:=D (F k wr d h I);have hb:=D (H k (wr.alloc (Ab (Jw Pg.ops).toArray 9)) (d.alloc _) h I);have hc:=D (d.alloc (Ab (Jw Pg.ops).toArray 9));have hd:=D (CE ((Ext.refl wr).alloc (Ab (Jw Pg.ops).toArray 9)) v);generalize str (MM k)=sg at*
   generalize(Jw Pg.ops).toArray=cz at*
   clear c1;go_wp2_with fail;refine ha.out.mono ?_
   rintro e ht ⟨rfl,rfl⟩;go_wp2_with fail;refine hb.out.mono ?_
   rintro e K ⟨rfl,rfl⟩;go_wp2_with fail;go_roundw
   case rel=>exact⟨k+1,by go_num,by omega,by omega,hc,hd⟩
   case measure=>simp [AX];omega
  ·have he:k=4:=by omega
   subst he;have hu:=(Ag.1 v).1;have hv:wr.cell? ⟨g,1,none⟩=some (V Ad p.tok.kind):=d.cell c1;clear c1 F H;have hw:((p.tok.kind:Int)==2)=false:=by simp;omega
   generalize p.tok.kind=kk at*
   clear h2;go_wp2_with fail;refine(h5 wr d).mono ?_
   rintro e K ⟨rfl,rfl⟩;go_wp2_with fail;refine(h6 K d).mono ?_
   rintro e hf ⟨rfl,L,y⟩;have hg:=D L;have hh:=D ((Gl d).trans y);have M:=D (y.heap v (by show ¬w.heap.size=g;omega));clear L y;go_wp2_with fail;refine(h7 hf hg).mono ?_
   rintro e f ⟨⟨cs,rfl,z⟩,N,o⟩;obtain⟨O,P,Q,R,T,U,X,rfl⟩:=Nq z;have hi:=D (hh.trans o);have hj:=D (o.heap M (by show ¬w.heap.size=g;omega));have hk:=D N;have hl:=D z;have hx:=(Ag.1 M).1;have hy:=o.size;clear z N o;go_wp2_with fail;have hm:=D (Ay f (Ab #[V Ad O,V Ad P,V Af Q,Aa (str R),J T U X] 287) (Ab #[Aa (str [41])] 9));have hn:=D (AP f (Ab #[V Ad O,V Ad P,V Af Q,Aa (str R),J T U X] 287) (Ab #[Aa (str [41])] 9));refine(Mh (hk.ext (((Ext.refl f).alloc _).alloc _)) h9 (b:=f.heap.size+1) hm (by omega)).mono ?_
   rintro e ho ⟨rfl,Z,i⟩;have hp:=D (((hi.alloc _).alloc _).trans i);have h0:=D (i.heap (CE (((Ext.refl f).alloc _).alloc _) hj) (by show ¬w.heap.size=g;omega));have hq:=D Z;have hr:=D (i.heap hn (by show ¬f.heap.size=g;omega));have hs:=D (KE.upd (KE.upd hl (Gl (G:=fun _=>False) (((Ext.refl f).alloc _).alloc _)) (fun _ _ q=>q) (fun k q=>q)) i (fun k q c=>by have hz:k=g:=c;omega) (U':=fun k=>w.heap.size<k∧k<ho.heap.size) (fun k q=>⟨by omega,by have:=i.size;have:=q.2;simp at*;omega⟩));clear Z i;go_wp2_with (first|refine Qx rfl Ax rfl hr Ki ?_|refine L8 rfl rfl rfl h0 Ki ?_);refine K3 D0 Ax Ki (PO h0) ?_
   exact UG hp hq h4 hs
theorem zP3 {g:Nat}{S:ByteArray}{n:Nat}(E:Ps g S n)(F:TQ g S n){p:PS}{w:Y}(u:∀ j,1≤j→j≤3→dP p j=false)(a:PW w g S p){q:PS}{s:Bs}(f:p.tok.kind≠2)(G:JZ [103,101,116] p=false)(H:JZ [40] p=false)(v:M0 p=some (s,q))(I:JZ [91] q=false)(h:JZ [40] q=false):
 As prog 223 #[Ae (some ⟨g,0,none⟩)] w (Su w g S q (.mk 2 0 0 s [])):=by
 have K:=a.lt;have x:=D (fun(k:Nat) (W:Y) (e:Ext w W) (d:1≤k) (m:k≤3)=>VE k W (a.tab.ext e) d (by omega));have y:=D (fun(k:Nat) (W:Y) (e:Ext w W) (d:1≤k) (m:k≤3)=>J8 (a.ext e) (u k d m));have c1:=JA a.at_.b 1
 have L:=D (fun(W:Y) (e:Ext w W)=>J8 (a.ext e) G);have M:=D (fun(W:Y) (e:Ext w W)=>J8 (a.ext e) H);have N:=D (fun(W:Y) (e:Ext w W)=>TM (a.ext e) v);have O:=D (fun(W:Y) (f:PW W g S q)=>J8 f I);have P:=D (fun(W:Y) (f:PW W g S q)=>J8 f h);clear v;clear u a E F;go_enter E4,EE;go_wp2;go_loopw [3] (fun s wr=>∃ k:Nat,s=V Ad k∧1≤k∧k≤4∧Ext w wr∧wr.heap[w.heap.size]?= some (Ab zE 287 (0,0))) (fun s _=>4 - (AX s).toNat)
 case atStart=>exact⟨1,rfl,by omega,by omega,(Ext.refl w).alloc _,Aj w _⟩
 case round=>
  obtain⟨k,rfl,d,m,z,h⟩:=hrel;have c:=D z;have o:=D h;clear z h;by_cases A:k≤3
  ·have Q:=D (x k wr c d A);have R:=D (y k (wr.alloc (Ab (Jw Pg.ops).toArray 9)) (c.alloc _) d A);have T:=D (c.alloc (Ab (Jw Pg.ops).toArray 9));have U:=D (CE ((Ext.refl wr).alloc (Ab (Jw Pg.ops).toArray 9)) o);generalize str (MM k)=sg at*
   generalize(Jw Pg.ops).toArray=cz at*
   clear c1;go_wp2_with fail;refine Q.out.mono ?_
   rintro e h0 ⟨rfl,rfl⟩;go_wp2_with fail;refine R.out.mono ?_
   rintro e i ⟨rfl,rfl⟩;go_wp2_with fail;go_roundw
   case rel=>exact⟨k+1,by go_num,by omega,by omega,T,U⟩
   case measure=>simp [AX];omega
  ·have X:k=4:=by omega
   subst X;have h1:=(Ag.1 o).1;have h2:wr.cell? ⟨g,1,none⟩=some (V Ad p.tok.kind):=c.cell c1;clear c1 x y;have h3:((p.tok.kind:Int)==2)=false:=by simp;omega
   generalize p.tok.kind=kk at*
   clear f;go_wp2_with fail;refine(L wr c).mono ?_
   rintro e i ⟨rfl,rfl⟩;go_wp2_with fail;refine(M i c).mono ?_
   rintro e i ⟨rfl,rfl⟩;go_wp2_with fail;refine(N i c).mono ?_
   rintro e l ⟨rfl,B,r⟩;have t:=D B;have Z:=D ((Gl c).trans r);have C:=D (r.heap o (by show ¬w.heap.size=g;omega));clear B r;go_wp2_with fail;refine(O l t).mono ?_
   rintro e l ⟨rfl,rfl⟩;go_wp2_with fail;refine(P l t).mono ?_
   rintro e l ⟨rfl,rfl⟩;go_wp2_with (refine L8 rfl rfl rfl C Ki ?_);refine K3 D0 Ax Ki (PO C) ?_
   exact UG (cs:=[V Ad 2,V Ad 0,V Af 0,Aa (str s),J none 0 0]) (Z) (t) K (Yc (Ju.nil _ _ _))
theorem zP4 {g:Nat}{S:ByteArray}{n:Nat}(Z:Ps g S n)(F:TQ g S n){p:PS}{w:Y}(H:∀ j,1≤j→j≤3→dP p j=false)(d:PW w g S p){q:PS}{s:Bs}(a:p.tok.kind≠2)(h0:JZ [103,101,116] p=false)(h1:JZ [40] p=false)(I:M0 p=some (s,q)){m t:PS}{l:List Ex}(h2:JZ [91] q=false)(o:JZ [40] q=true)(K:Kh q=some m)(i:Vl n m=some (l,t)):
 As prog 223 #[Ae (some ⟨g,0,none⟩)] w (Su w g S t (.mk 4 0 0 s l)):=by
 have h3:=d.lt;have L:=D (fun(k:Nat) (W:Y) (e:Ext w W) (h:1≤k) (u:k≤3)=>VE k W (d.tab.ext e) h (by omega));have M:=D (fun(k:Nat) (W:Y) (e:Ext w W) (h:1≤k) (u:k≤3)=>J8 (d.ext e) (H k h u));have c1:=JA d.at_.b 1
 have h4:=D (fun(W:Y) (e:Ext w W)=>J8 (d.ext e) h0);have h5:=D (fun(W:Y) (e:Ext w W)=>J8 (d.ext e) h1);have h6:=D (fun(W:Y) (e:Ext w W)=>TM (d.ext e) I);have h7:=D (fun(W:Y) (a:PW W g S q)=>J8 a h2);have h8:=D (fun(W:Y) (a:PW W g S q)=>LU a o K);have h9:=D (fun(W:Y) (a:PW W g S m)=>F m l t W i a);clear I K i;clear H d Z F;go_enter E4,EE;go_wp2;go_loopw [3] (fun s wr=>∃ k:Nat,s=V Ad k∧1≤k∧k≤4∧Ext w wr∧wr.heap[w.heap.size]?= some (Ab zE 287 (0,0))) (fun s _=>4 - (AX s).toNat)
 case atStart=>exact⟨1,rfl,by omega,by omega,(Ext.refl w).alloc _,Aj w _⟩
 case round=>
  obtain⟨k,rfl,h,u,i,o⟩:=hrel;have f:=D i;have x:=D o;clear i o;by_cases N:k≤3
  ·have ha:=D (L k wr f h N);have hb:=D (M k (wr.alloc (Ab (Jw Pg.ops).toArray 9)) (f.alloc _) h N);have hc:=D (f.alloc (Ab (Jw Pg.ops).toArray 9));have hd:=D (CE ((Ext.refl wr).alloc (Ab (Jw Pg.ops).toArray 9)) x);generalize str (MM k)=sg at*
   generalize(Jw Pg.ops).toArray=cz at*
   clear c1;go_wp2_with fail;refine ha.out.mono ?_
   rintro e hp ⟨rfl,rfl⟩;go_wp2_with fail;refine hb.out.mono ?_
   rintro e r ⟨rfl,rfl⟩;go_wp2_with fail;go_roundw
   case rel=>exact⟨k+1,by go_num,by omega,by omega,hc,hd⟩
   case measure=>simp [AX];omega
  ·have he:k=4:=by omega
   subst he;have hq:=(Ag.1 x).1;have hr:wr.cell? ⟨g,1,none⟩=some (V Ad p.tok.kind):=f.cell c1;clear c1 L M;have hs:((p.tok.kind:Int)==2)=false:=by simp;omega
   generalize p.tok.kind=kk at*
   clear a;go_wp2_with fail;refine(h4 wr f).mono ?_
   rintro e r ⟨rfl,rfl⟩;go_wp2_with fail;refine(h5 r f).mono ?_
   rintro e r ⟨rfl,rfl⟩;go_wp2_with fail;refine(h6 r f).mono ?_
   rintro e y ⟨rfl,O,z⟩;have P:=D O;have hf:=D ((Gl f).trans z);have hg:=D (z.heap x (by show ¬w.heap.size=g;omega));clear O z;go_wp2_with fail;refine(h7 y P).mono ?_
   rintro e y ⟨rfl,rfl⟩;go_wp2_with fail;refine(h8 y P).mono ?_
   rintro e hh ⟨rfl,Q,B⟩;have hi:=D (hf.trans B);have R:=D (B.heap hg (by show ¬w.heap.size=g;omega));have hj:=D Q;have ht:=(Ag.1 R).1;clear Q B;go_wp2_with fail;refine(h9 hh hj).mono ?_
   rintro e T ⟨⟨v,rfl,C⟩,U,E⟩;have hk:∃ A k c,v=J A k c:=by obtain⟨A,c,xs,a,_⟩:=C;exact⟨A,_,c,a⟩
   obtain⟨A,hl,c,rfl⟩:=hk;have hm:=D (C.upd (JK.refl (G:=fun _=>False) T) (fun _ _ q=>q) (U':=fun k=>w.heap.size<k∧k<T.heap.size) (fun k q=>⟨by omega,q.2⟩));have hn:=D (hi.trans E);have X:=D (E.heap R (by show ¬w.heap.size=g;omega));have ho:=D U;clear C U E;go_wp2_with (refine L8 rfl rfl rfl X Ki ?_);refine K3 D0 Ax Ki (PO X) ?_
   exact UG (cs:=[V Ad 4,V Ad 0,V Af 0,Aa (str s),J A hl c]) (hn) (ho) h3 (Yc hm)
theorem zc2 {g:Nat}{S:ByteArray}{n:Nat}(R:Ps g S n)(hc:TQ g S n){p:PS}{w:Y}(T:∀ j,1≤j→j≤3→dP p j=false)(d:PW w g S p){q:PS}{s:Bs}(m:p.tok.kind≠2)(hd:JZ [103,101,116] p=false)(he:JZ [40] p=false)(U:M0 p=some (s,q)){v t u:PS}{x:Ex}(y:JZ [91] q=true)(X:Kh q=some v)(o:M3 n 1 v=some (x,t))(Z:KD [93] t=some u):
 As prog 223 #[Ae (some ⟨g,0,none⟩)] w (Su w g S u (.mk 3 0 0 s [x])):=by
 have hf:=d.lt;have h0:=D (fun(k:Nat) (W:Y) (e:Ext w W) (l:1≤k) (L:k≤3)=>VE k W (d.tab.ext e) l (by omega));have h1:=D (fun(k:Nat) (W:Y) (e:Ext w W) (l:1≤k) (L:k≤3)=>J8 (d.ext e) (T k l L));have c1:=JA d.at_.b 1
 have hg:=D (fun(W:Y) (e:Ext w W)=>J8 (d.ext e) hd);have hh:=D (fun(W:Y) (e:Ext w W)=>J8 (d.ext e) he);have hi:=D (fun(W:Y) (e:Ext w W)=>TM (d.ext e) U);have hj:=D (fun(W:Y) (m:PW W g S q)=>LU m y X);have hk:=D (fun(W:Y) (m:PW W g S v)=>R 1 v x t W o m);have hl:=D Z;clear U X o Z;clear T d R hc;go_enter E4,EE;go_wp2;go_loopw [3] (fun s wr=>∃ k:Nat,s=V Ad k∧1≤k∧k≤4∧Ext w wr∧wr.heap[w.heap.size]?= some (Ab zE 287 (0,0))) (fun s _=>4 - (AX s).toNat)
 case atStart=>exact⟨1,rfl,by omega,by omega,(Ext.refl w).alloc _,Aj w _⟩
 case round=>
  obtain⟨k,rfl,l,L,o,y⟩:=hrel;have f:=D o;have M:=D y;clear o y;by_cases h2:k≤3
  ·have hm:=D (h0 k wr f l h2);have hn:=D (h1 k (wr.alloc (Ab (Jw Pg.ops).toArray 9)) (f.alloc _) l h2);have ho:=D (f.alloc (Ab (Jw Pg.ops).toArray 9));have hp:=D (CE ((Ext.refl wr).alloc (Ab (Jw Pg.ops).toArray 9)) M);generalize str (MM k)=sg at*
   generalize(Jw Pg.ops).toArray=cz at*
   clear c1;go_wp2_with fail;refine hm.out.mono ?_
   rintro e x8 ⟨rfl,rfl⟩;go_wp2_with fail;refine hn.out.mono ?_
   rintro e z ⟨rfl,rfl⟩;go_wp2_with fail;go_roundw
   case rel=>exact⟨k+1,by go_num,by omega,by omega,ho,hp⟩
   case measure=>simp [AX];omega
  ·have hq:k=4:=by omega
   subst hq;have x9:=(Ag.1 M).1;have xa:wr.cell? ⟨g,1,none⟩=some (V Ad p.tok.kind):=f.cell c1;clear c1 h0 h1;have xb:((p.tok.kind:Int)==2)=false:=by simp;omega
   generalize p.tok.kind=kk at*
   clear m;go_wp2_with fail;refine(hg wr f).mono ?_
   rintro e z ⟨rfl,rfl⟩;go_wp2_with fail;refine(hh z f).mono ?_
   rintro e z ⟨rfl,rfl⟩;go_wp2_with fail;refine(hi z f).mono ?_
   rintro e hr ⟨rfl,h3,N⟩;have hs:=D h3;have ht:=D ((Gl f).trans N);have hu:=D (N.heap M (by show ¬w.heap.size=g;omega));clear h3 N;go_wp2_with fail;refine(hj hr hs).mono ?_
   rintro e hv ⟨rfl,h4,O⟩;have hw:=D (ht.trans O);have h5:=D (O.heap hu (by show ¬w.heap.size=g;omega));have hx:=D h4;have xc:=(Ag.1 h5).1;clear h4 O;go_wp2_with fail;refine(hk hv hx).mono ?_
   rintro e a ⟨⟨cs,rfl,P⟩,h6,A⟩;obtain⟨B,C,E,F,H,I,K,rfl⟩:=Nq P;have hy:=D (hw.trans A);have hz:=D (A.heap h5 (by show ¬w.heap.size=g;omega));have x0:=D h6;have x1:=D P;have xd:=A.size;clear P h6 A;go_wp2_with fail;obtain⟨h,Q⟩:=JH ((a.alloc (Ab #[V Ad B,V Ad C,V Af E,Aa (str F),J H I K] 287)).alloc (Ab #[V Ad 3,V Ad 0,V Af 0,Aa (str s),J (some ⟨a.heap.size,0,none⟩) 1 1] 287));have h7:=D (AP a (Ab #[V Ad B,V Ad C,V Af E,Aa (str F),J H I K] 287) (Ab #[V Ad 3,V Ad 0,V Af 0,Aa (str s),J (some ⟨a.heap.size,0,none⟩) 1 1] 287));have h8:=D (Ay a (Ab #[V Ad B,V Ad C,V Af E,Aa (str F),J H I K] 287) (Ab #[V Ad 3,V Ad 0,V Af 0,Aa (str s),J (some ⟨a.heap.size,0,none⟩) 1 1] 287));have r:=D (((Ext.refl a).alloc (Ab #[V Ad B,V Ad C,V Af E,Aa (str F),J H I K] 287)).alloc (Ab #[V Ad 3,V Ad 0,V Af 0,Aa (str s),J (some ⟨a.heap.size,0,none⟩) 1 1] 287));rw [←Q]at h7 h8 r ⊢;have x2:h.heap.size=a.heap.size+2:=by rw [Q];simp
   clear Q;refine(Mh (x0.ext (r.trans ((Ext.refl h).alloc _))) hl (b:=a.heap.size+2) (by have:=Aj h (Ab #[Aa (str [93])] 9);rw [x2]at this;exact this) (by omega)).mono ?_
   rintro e h9 ⟨rfl,ha,i⟩;have x3:=D (((hy.trans (Gl r)).alloc _).trans i);have hb:=D (i.heap (CE ((Ext.refl h).alloc _) (CE r hz)) (by show ¬w.heap.size=g;omega));have x4:=D ha;have x5:=D (i.heap (CE ((Ext.refl h).alloc _) h8) (by show ¬a.heap.size+1=g;omega));have x6:=D (i.heap (CE ((Ext.refl h).alloc _) h7) (by show ¬a.heap.size=g;omega));have xe:a.heap.size+2<h9.heap.size:=by have:=i.size;simp at this;omega
   have x7:=D (KE.upd (KE.upd x1 (Gl (G:=fun _=>False) (r.trans ((Ext.refl h).alloc _))) (fun _ _ q=>q) (fun k q=>q)) i (fun k q c=>by have xf:k=g:=c;omega) (U':=fun k=>w.heap.size<k∧k<h9.heap.size) (fun k q=>⟨by omega,by have:=q.2;omega⟩));clear ha i;go_wp2_with (first|refine Qx rfl Ax rfl x5 Ki ?_|refine L8 rfl rfl rfl hb Ki ?_);refine K3 D0 Ax Ki (PO hb) ?_
   exact UG (cs:=[V Ad 3,V Ad 0,V Af 0,Aa (str s),J (some ⟨a.heap.size,0,none⟩) 1 1]) x3 x4 hf (Yc (Vr x6 x7 ⟨by omega,by omega⟩))
theorem yW4 {g:Nat}{S:ByteArray}{n:Nat}(O:∀ m,m<n→Ps g S m)(P:∀ m,m<n→je g S m)(Q:∀ m,m<n→TQ g S m):je g S n:=by
 intro p e q w a d;cases n with
 |zero=>cases a
 |succ n=>
  have F:∀ (op:Nat) (h1:1≤op) (G:op≤3) (b:∀ j,1≤j→j<op→dP p j=false) (L:dP p op=true),Zt n op p=some (e,q)→As prog 223 #[Ae (some ⟨g,0,none⟩)] w (Su w g S q e):=by
   intro op h1 G b L f;cases n with
   |zero=>cases f
   |succ n=>
    rw [Zt]at f;split at f
    ·cases f
    ·rename_i h i;split at f
     ·cases f
     ·rename_i x t y;cases f;exact z95 h1 G (P n (by omega)) b L i y d
  rw [XP]at a;by_cases k:JZ [33] p=true
  ·rw [if_pos k]at a;exact F 1 (by omega) (by omega) (fun j h1 M=>by omega) k a
  rw [if_neg k]at a;by_cases z:JZ [45] p=true
  ·rw [if_pos z]at a;have R:∀ j,1≤j→j<2→dP p j=false:=by
    intro j h1 M;obtain rfl:j=1:=by omega
    exact AJ.2 k
   exact F 2 (by omega) (by omega) R z a
  rw [if_neg z]at a;by_cases A:JZ [126] p=true
  ·rw [if_pos A]at a;have T:∀ j,1≤j→j<3→dP p j=false:=by
    intro j h1 M;have U:j=1∨j=2:=by omega
    rcases U with rfl|rfl
    ·exact AJ.2 k
    ·exact AJ.2 z
   exact F 3 (by omega) (by omega) T A a
  rw [if_neg A]at a;have b:∀ j,1≤j→j≤3→dP p j=false:=fun j h1 G=>by
   have:j=1∨j=2∨j=3:=by omega
   rcases this with rfl|rfl|rfl
   ·exact AJ.2 k
   ·exact AJ.2 z
   ·exact AJ.2 A
  have o:=O n (by omega);have r:=Q n (by omega);by_cases c:p.tok.kind=2
  ·rw [if_pos (by rw [c];rfl)]at a;split at a
   ·cases a
   ·rename_i h i;cases a;exact arg_num o r b d c i
  rw [if_neg (fun q=>c (Ap q))]at a;by_cases bg:JZ [103,101,116] p=true
  ·rw [if_pos bg]at a;split at a
   ·cases a
   ·rename_i h i;cases a;exact zb9 o r b d c bg i
  rw [if_neg bg]at a;have B:JZ [103,101,116] p=false:=by simpa using bg
  by_cases C:JZ [40] p=true
  ·rw [if_pos C]at a;split at a
   ·cases a
   ·rename_i h i;split at a
    ·cases a
    ·rename_i x t y;split at a
     ·cases a
     ·rename_i u W;cases a;exact zc0 o r b d c B C i y W
  rw [if_neg C]at a;have H:JZ [40] p=false:=by simpa using C
  split at a
  ·cases a
  ·rename_i s h I;by_cases D:JZ [91] h=true
   ·rw [if_pos D]at a;split at a
    ·cases a
    ·rename_i t K;split at a
     ·cases a
     ·rename_i x u y;split at a
      ·cases a
      ·rename_i v X;cases a;exact zc2 o r b d c B H I D K y X
   ·rw [if_neg D]at a;have N:JZ [91] h=false:=by simpa using D
    by_cases E:JZ [40] h=true
    ·rw [if_pos E]at a;split at a
     ·cases a
     ·rename_i t K;split at a
      ·cases a
      ·rename_i l u Y;cases a;exact zP4 o r b d c B H I N E K Y
    ·rw [if_neg E]at a;cases a;exact zP3 o r b d c B H I N (by simpa using E)
theorem R5 {P:BR}{w:Y}{o:B5}{a:CY}(b:AK)(x:CC)(e:o.op=IK b x)(g:Nat)(f:a.eval x=Ae (some ⟨g,0,none⟩))(t:AK)(cs:Array h)(c:Nat×Nat)(d:DK)
 (i:w.heap[g]?= some (Ab cs t c)) (j:P.underlying b=some d) (k:(match d with|DA _|DX _ _=>true|_=>false)=true) (l:(P.info? b).map (·.size)=some cs.size):(CS a.eval o).run P w=Ez (F5 (AN cs)) w:=by
 unfold CS;simp only [e,f,Ir,GQ,Di,D3,C3,DI w g t b cs c d i j k l]
theorem Ov {P:BR}{W:Y}{ops:Array B5}{o:B5}{a:CY}{K:CY→Y→Prop}{Q:EY→CY→Y→Prop}{d:Prop}(e:AQ o (BW ops a.tmps)=true)(b:AK)(x c:CC)(f:o.op=.store b x c)
 (g:Nat) (cells:Array h) (i:a.eval x=Ae (some ⟨g,0,none⟩)) (hy:a.eval c=AN cells) (t:AK) (old:Array h) (j:W.heap[g]?= some (Ab old t (0,0))) (k:(P.info? b).map (·.size)=some cells.size)
 (hold:old.size=cells.size) (h1:cells.all (·.oneCell')=true) (l:K (a.put o.dst Ca) (W.setRow g cells)):if AQ o (BW ops a.tmps)=true then Cb P o a W K Q else d:=by
 rw [if_pos e];exact wp_store_row b x c f g cells i hy t old j k hold h1 l
theorem PW.upd {w w':Y}{g:Nat}{S:ByteArray}{p:PS}{G:Nat→Prop}(a:PW w g S p)(u:JK G w w')(b:¬ G g)(c:∀ k,G k→13≤k):PW w' g S p:=⟨a.at_.upd u b,a.tab.upd u c,a.g13,a.hs⟩
theorem zc4 {w:Y}{X:Nat}{o:Obj}{cs:Array h}:JK (fun k=>k=X) w ((w.alloc o).setRow X cs):=((Gl ((Ext.refl w).alloc o)).setRow (G:=fun k=>k=X) (AB rfl) cs)
theorem wrap_small (n:Nat)(a:n≤1000):Ad.wrap ((n:Int)+1)=(n:Int)+1:=by
 simp [IntKind.wrap,IntKind.signed,IntKind.bits];omega
theorem z99 {g:Nat}{S:ByteArray}{n:Nat}(hk:∀ m,m<n→je g S m)(hl:∀ m,m<n→Ps g S m):Ps g S n:=by
 intro least p e q w B h7;cases n with
 |zero=>cases B
 |succ n=>
  rw [M3]at B;split at B
  ·cases B
  ·rename_i h8 hm hn;have ho:=h7.lt;have hp:=D B;have hq:=D (hk n (by omega) p h8 hm);have hr:=D h7;have hs:=D hl;have ht:=D hn;clear B hn h7 hl hk;go_enter func176,ntmps176;go_wp2_with fail;refine(hq.out _ ht.out (hr.out.ext ((Ext.refl w).alloc _))).mono ?_
   rintro y7 v ⟨⟨cs,rfl,C⟩,hu,Y⟩;obtain⟨d,f,i,xs,j,l,r,rfl⟩:=Nq C;have h9:=D hu;have hv:=D ((Gl ((Ext.refl w).alloc (Ab zE 287))).trans Y);have hw:=D (Y.heap (Aj w _) (by show ¬w.heap.size=g;omega));have y8:w.heap.size+1≤v.heap.size:=by have:=Y.size;simpa using this
   have hx:=D C;clear C hu Y;obtain⟨X,ha⟩:=JH v.heap.size;have hz:X≠g:=by omega
   have y9:w.heap.size<X:=by omega
   go_wp2_with fail;rw [←ha];refine(fV (h9.out.ext ((Ext.refl v).alloc _))).mono ?_
   rintro ya s ⟨rfl,t⟩;have Z:=D (h9.out.ext (((Ext.refl v).alloc _).trans t));have h0:=D (hv.out.trans (Gl (((Ext.refl v).alloc _).trans t)));have h2:=D (CE (((Ext.refl v).alloc _).trans t) hw.out);have x0:AA (s.heap[X]?= some (Ab #[V Ad d,V Ad f,V Af i,Aa (str xs),J j l r] 287 (0,0))):=D (by rw [ha];exact CE t (Aj v _));have yb:v.heap.size+1≤s.heap.size:=by have:=t.size;simpa using this
   have x1:AA (OV (fun k=>w.heap.size<k∧k≠X∧k<s.heap.size) s h8 [V Ad d,V Ad f,V Af i,Aa (str xs),J j l r]):=D (KE.upd hx.out (Gl (G:=fun _=>False) (((Ext.refl v).alloc _).trans t)) (fun _ _ q=>q) (by intro k q;have q2:w.heap.size+1≤k:=(by simpa using q.1);exact⟨by omega,by omega,by omega⟩));clear t ha hx hw hv h9 hq ht hr;go_wp2_with fail
   go_loopg [6] n (fun gf xf O=>∃ (m:Nat) (x:Ex) (z:PS) (cs:List h),m≤gf∧m≤n∧xf=V Ad (Po z:Nat)∧AA (YT m least x z=some (e,q))∧AA (PW O g S z)∧AA (PX g w O)∧AA (O.heap[w.heap.size]?= some (Ab zE 287 (0,0)))∧AA (O.heap[X]?= some (Ab cs.toArray 287 (0,0)))∧AA (OV (fun k=>w.heap.size<k∧k≠X∧k<O.heap.size) O x cs))
   case atStart=>exact⟨n,h8,hm,_,Aw _,Aw _,rfl,hp,Z,h0,h2,x0,x1⟩
   case round=>
    clear hp Z h0 h2 x0 x1;obtain⟨m,x,z,cs,B,yc,rfl,xg,hb,hc,T,hd,h3⟩:=hrel;obtain⟨d,f,i,xs,j,l,r,rfl⟩:=Nq h3.out;have b:=xg.out;have x2:=z88 z;cases m with
    |zero=>cases b
    |succ m=>
     rw [YT]at b;obtain⟨op,U⟩:=JH (Po z);rw [←U]at b x2;rw [←U];have h4:=D (fun W=>VF op W x2);have yd:J5 op≤5:=by unfold J5;(repeat' split)<;>omega
     by_cases x3:op=0
     ·subst x3;have he:(x,z)=(e,q):=by simpa using b
      cases he;clear b U h4;go_wp2_with (first|refine Qx rfl Ax rfl hd.out Ki ?_|refine L8 rfl rfl rfl T.out Ki ?_ (h1:=(VG _ _ _ _ _ _ _)));refine K3 results176 Ax Ki (PO T.out) ?_
      exact UG (cs:=[V Ad d,V Ad f,V Af i,Aa (str xs),J j l r]) hc.out hb.out ho (KE.upd h3.out (JK.refl (G:=fun _=>False) _) (fun _ _ q=>q) (fun k q=>⟨q.1,q.2.2⟩))
     ·have ye:((op:Int) != 0)=true:=by simp;omega
      have x4:Az op 0=false:=by rw [AJ];intro c;exact x3 (Ap c)
      by_cases x5:J5 op<least
      ·have he:(x,z)=(e,q):=by
        rw [x4,show Be (J5 op) least=true from by rw [Dm];exact x5]at b;simpa using b
       cases he;have xh:((J5 op:Nat):Int)<(least:Int):=by omega
       generalize J5 op=h5 at*
       clear b U;go_wp2_with (first|(go_at_call 225;refine(h4.out _).mono ?_;rintro xi xj ⟨rfl,rfl⟩)|refine Qx rfl Ax rfl hd.out Ki ?_|refine L8 rfl rfl rfl T.out Ki ?_ (h1:=(VG _ _ _ _ _ _ _)));refine K3 results176 Ax Ki (PO T.out) ?_
       exact UG (cs:=[V Ad d,V Ad f,V Af i,Aa (str xs),J j l r]) hc.out hb.out ho (KE.upd h3.out (JK.refl (G:=fun _=>False) _) (fun _ _ q=>q) (fun k q=>⟨q.1,q.2.2⟩))
      ·have xh:(least:Int)≤((J5 op:Nat):Int):=by omega
       rw [x4,show Be (J5 op) least=false from by rw [AJ];intro c;exact x5 (by rwa [Dm]at c)]at b;simp only [Bool.or_self,BL,if_false]at b;split at b
       ·cases b
       ·rename_i x6 x7;split at b
        ·cases b
        ·rename_i hf hg hy;have xk:=D b;have xl:=D (Uh hb.out x7);have xm:=D (fun W (xn:PW W g S x6)=>(show As prog 176 #[Ae (some ⟨g,0,none⟩),V Ad (((J5 op:Nat):Int)+1)] W (Su W g S hg hf)from by
          have xo:(((J5 op+1:Nat)):Int)=((J5 op:Nat):Int)+1:=by omega
          rw [←xo]
          exact hs.out m (by omega) (J5 op+1) x6 hf hg W hy xn))
         obtain⟨hh,rfl⟩:∃ hh,gk=hh+1:=⟨gk - 1,by omega⟩;clear b x7 hy U hs;generalize J5 op=h5 at*
         have yf:Ad.wrap ((h5:Int)+1)=(h5:Int)+1:=wrap_small h5 (by omega);go_wp2_with (go_at_call 225;refine(h4.out _).mono ?_;rintro xi xj ⟨rfl,rfl⟩);refine xl.out.mono ?_
         rintro yg s ⟨rfl,x8,t⟩;have Z:=D x8;have h0:=D (hc.out.trans t);have hi:=D (t.heap hd.out hz);have h2:=D (t.heap T.out (by show ¬w.heap.size=g;omega));have xp:=D (KE.upd h3.out t (fun k q c=>by have P:k=g:=c;omega) (U':=fun k=>w.heap.size<k∧k≠X∧k<s.heap.size) (fun k q=>⟨q.1,q.2.1,Ar q.2.2 t.size⟩));have yh:X<s.heap.size:=(Ag.1 hi.out).1;clear x8 t;go_upto_region 6 with(fail);refine JX.go (fun w'=>w'.heap[X]?= some (Ab #[V Ad d,V Ad f,V Af i,Aa (str xs),J j l r] 287 (0,0))) [9] hi.out (fun y=>?_);refine JC y ?_
         refine JC y ?_ (hy:=by(intro w xq;refine R5 287 (Eh 5) ?_ X ?_ 287 #[V Ad d,V Ad f,V Af i,Aa (str xs),J j l r] (0,0) _ xq Ax rfl Ki<;>rfl))
         iterate 2 refine JC y ?_
         try simp only [Au,pA,pB,pC]
         refine JM (fun K u=>?_);go_simp;refine(h4.out _).mono ?_
         rintro e v ⟨rfl,rfl⟩;refine u.out _ _ ?_ (fun y=>?_)
         ·exact y
         clear u K
         try simp only [Au,pA,pB,pC]
         refine JC y ?_
         try simp only [Au,pA,pB,pC]
         refine JM (fun K u=>?_);go_simp;(with_reducible refine(xm.out _ (Z.out.ext ((Ext.refl s).drew))).mono ?_)
         rintro e a ⟨⟨cs,rfl,C⟩,x9,Q⟩;obtain⟨E,F,H,I,L,M,N,rfl⟩:=Nq C;have xa:=D x9;have xr:=D (((h0.out).trans (Gl ((Ext.refl s).drew))).trans Q);have xb:=D (Q.heap (w:=s.drew) hi.out (by show ¬X=g;omega));have xc:=D (Q.heap (w:=s.drew) h2.out (by show ¬w.heap.size=g;omega));have yi:s.heap.size≤a.heap.size:=Q.size;have xt:=D C;have xu:=D (KE.upd xp.out ((Gl (G:=fun k=>k=g) ((Ext.refl s).drew)).trans Q) (fun k q c=>by have P:k=g:=c;omega) (U':=fun k=>w.heap.size<k∧k≠X∧k<a.heap.size) (fun k q=>⟨q.1,q.2.1,by omega⟩));clear C x9 Q;refine u.out _ _ ?_ (fun y=>?_)
         ·exact xb.out
         clear u K
         try simp only [Au,pA,pB,pC]
         refine JM (fun K u=>?_);go_simp;have hj:=D (CE ((Ext.refl a).alloc (Ab #[V Ad d,V Ad f,V Af i,Aa (str xs),J j l r,V Ad E,V Ad F,V Af H,Aa (str I),J L M N] 287)) xb.out);have yj:=D (CE ((Ext.refl a).alloc (Ab #[V Ad d,V Ad f,V Af i,Aa (str xs),J j l r,V Ad E,V Ad F,V Af H,Aa (str I),J L M N] 287)) xc.out);have xv:=D (Aj a (Ab #[V Ad d,V Ad f,V Af i,Aa (str xs),J j l r,V Ad E,V Ad F,V Af H,Aa (str I),J L M N] 287));refine u.out _ _ ?_ (fun y=>?_)
         ·exact hj.out
         clear u K
         try simp only [Au,pA,pB,pC]
         refine JC y ?_
         try simp only [Au,pA,pB,pC]
         refine JX.fn (fun K u=>?_);refine Ov rfl 287 _ _ rfl X #[V Ad 7,V Ad op,V Af 0,Aa ⟨#[]⟩,J (some ⟨a.heap.size,0,none⟩) 2 2] (by rfl) (by rfl) 287 #[V Ad d,V Ad f,V Af i,Aa (str xs),J j l r] hj.out Ki rfl (VG _ _ _ _ _ _ _) ?_
         refine u.out _ _ ?_
         clear u K
         try simp only [Au,pA,pB,pC]
         refine JV ?_
         go_wp2_with fail;have h6:=D (zc4 (w:=a) (X:=X) (o:=Ab #[V Ad d,V Ad f,V Af i,Aa (str xs),J j l r,V Ad E,V Ad F,V Af H,Aa (str I),J L M N] 287) (cs:= #[V Ad 7,V Ad op,V Af 0,Aa ⟨#[]⟩,J (some ⟨a.heap.size,0,none⟩) 2 2]));have xw:=D (Bo (a.alloc (Ab #[V Ad d,V Ad f,V Af i,Aa (str xs),J j l r,V Ad E,V Ad F,V Af H,Aa (str I),J L M N] 287)) X _ #[V Ad 7,V Ad op,V Af 0,Aa ⟨#[]⟩,J (some ⟨a.heap.size,0,none⟩) 2 2] _ _ hj.out);have xx:=D (h6.out.heap xc.out (by show ¬w.heap.size=X;omega));have xy:=D ((C7 _ X a.heap.size #[V Ad 7,V Ad op,V Af 0,Aa ⟨#[]⟩,J (some ⟨a.heap.size,0,none⟩) 2 2] (by omega)).trans xv.out);have xd:=D (xa.out.upd h6.out (fun c=>hz c.symm) (fun k c=>by have P:k=X:=c;have:=xa.out.g13;omega));have yk:a.heap.size<((a.alloc (Ab #[V Ad d,V Ad f,V Af i,Aa (str xs),J j l r,V Ad E,V Ad F,V Af H,Aa (str I),J L M N] 287)).setRow X #[V Ad 7,V Ad op,V Af 0,Aa ⟨#[]⟩,J (some ⟨a.heap.size,0,none⟩) 2 2]).heap.size:=by simp
         generalize((a.alloc (Ab #[V Ad d,V Ad f,V Af i,Aa (str xs),J j l r,V Ad E,V Ad F,V Af H,Aa (str I),J L M N] 287)).setRow X #[V Ad 7,V Ad op,V Af 0,Aa ⟨#[]⟩,J (some ⟨a.heap.size,0,none⟩) 2 2])=w4 at*
         refine(fV xd.out).mono ?_
         rintro yl R ⟨rfl,A⟩;have ym:=A.size;have xz:=D (xd.out.ext A);have y0:AA (PX g w R):=D ((((xr.out.mono (G':=fun k=>k=g∨k=X) (fun k _ c=>AO c)).trans (h6.out.mono (fun k _ c=>AB c))).mono (fun k yn c=>c.elim id (fun P=>by have yo:k=X:=P;omega))).trans (Gl A));have y1:=D (CE A xx.out);have y2:=D (CE A xw.out);have y3:=D (CE A xy.out);have xe:AA (JK (fun k=>k=X) a R):=D (h6.out.trans (Gl A));have y4:=D (KE.upd xu.out xe.out (fun k q c=>by have P:k=X:=c;omega) (U':=fun k=>w.heap.size<k∧k≠X∧k<R.heap.size) (fun k q=>⟨q.1,q.2.1,by omega⟩));have y5:=D (KE.upd xt.out xe.out (fun k q c=>by have P:k=X:=c;have q2:s.heap.size≤k:=q.1;omega) (U':=fun k=>w.heap.size<k∧k≠X∧k<R.heap.size) (fun k q=>by have q2:s.heap.size≤k:=q.1;exact⟨by omega,by omega,by have:=q.2;omega⟩));have y6:AA (OV (fun k=>w.heap.size<k∧k≠X∧k<R.heap.size) R (.mk 7 op 0 [] [x,hf]) [V Ad (7:Nat),V Ad op,V Af (0:Nat),Aa (str []),J (some ⟨a.heap.size,0,none⟩) 2 2]):=D (Yc (uO y3.out y4.out y5.out ⟨by omega,by omega,by omega⟩));clear A;go_wp2_with fail
         go_roundg hh
         case measure=>omega
         case rel=>exact⟨m,_,hg,_,by omega,by omega,rfl,xk,xz,y0,y1,y2,y6⟩
theorem oz (g:Nat)(S:ByteArray)(n:Nat):n≤1000→Ps g S n∧je g S n∧TQ g S n:=by
 induction n using D1 with
 |_ n b=>
  intro c;exact⟨z99 (fun m a=>(b m a (by omega)).2.1) (fun m a=>(b m a (by omega)).1),yW4 (fun m a=>(b m a (by omega)).1) (fun m a=>(b m a (by omega)).2.1) (fun m a=>(b m a (by omega)).2.2),z94 c (fun m a=>(b m a (by omega)).1)⟩
mutual
def Q5 (U:Nat→Prop)(w:Y):Sm→List h→Prop
 |.mk k name g body els,cs=>∃ d c a e L b f,cs=[V Ad k,Aa (str name),d,J c body.length a,J L els.length b]∧Ju KE U w g d∧
  (body.length≤a∧a≤Bk∧(c=none→a=0)∧mq U w c e∧VU U w body e)∧(els.length≤b∧b≤Bk∧(L=none→b=0)∧mq U w L f∧VU U w els f)
def VU (U:Nat→Prop)(w:Y):List Sm→List h→Prop
 |[],xs=>xs=[]
 |e::l,xs=>∃ x a,xs=x++a∧Q5 U w e x∧VU U w l a
end
mutual
theorem Vv {U U' G:Nat→Prop}{w w':Y}(u:JK G w w')(a:∀ k,U k→¬ G k)(b:∀ k,U k→U' k):∀ (e:Sm)(cs:List h),Q5 U w e cs→Q5 U' w' e cs
 |.mk k name z body els,cs,c=>by
  rw [Q5]at c ⊢;obtain⟨g,i,j,d,L,l,f,h1,m,⟨n,o,p,q,r⟩,⟨s,t,v,x,y⟩⟩:=c;exact⟨g,i,j,d,L,l,f,h1,m.upd u a b,⟨n,o,p,q.upd u a b,ZU u a b body d r⟩,⟨s,t,v,x.upd u a b,ZU u a b els f y⟩⟩
theorem ZU {U U' G:Nat→Prop}{w w':Y}(u:JK G w w')(b:∀ k,U k→¬ G k)(c:∀ k,U k→U' k):∀ (l:List Sm)(xs:List h),VU U w l xs→VU U' w' l xs
 |[],xs,a=>by rw [VU]at a ⊢;exact a
 |e::l,xs,a=>by
  rw [VU]at a ⊢;obtain⟨x,d,h1,f,g⟩:=a;exact⟨x,d,h1,Vv u b c e x f,ZU u b c l d g⟩
end
theorem JB {α:Type}{K:Kind α}{U:Nat→Prop}{w:Y}{l:List α}{v:h}(a:Ju K U w l v):∃ A c,v=J A l.length c:=by
 obtain⟨A,c,xs,a,_⟩:=a;exact⟨A,c,a⟩
def KS:Kind Sm where
 size:=5
 pos:=by omega
 rep:=Q5
 len:=by
  intro U w x cs a;cases x;rw [Q5]at a;obtain⟨d,e,f,g,L,h,i,rfl,_⟩:=a;rfl
 one:=by
  intro U w x cs a u b;cases x;rw [Q5]at a;obtain⟨d,e,f,g,L,h,i,rfl,j,_⟩:=a;obtain⟨A,c,rfl⟩:=JB j;simp only [AH,Ba,or_false]at b;rcases b with rfl|rfl|rfl|rfl|rfl<;>rfl
 upd:=fun a u k b=>Vv u k b _ _ a
theorem UW (U:Nat→Prop)(w:Y):∀ (l:List Sm)(xs:List h),VU U w l xs↔NF KS U w l xs
 |[],xs=>by rw [VU];exact Iff.rfl
 |e::l,xs=>by
  rw [VU];constructor
  ·rintro⟨x,a,h1,b,c⟩;exact⟨x,a,h1,b,(UW U w l a).1 c⟩
  ·rintro⟨x,a,h1,b,c⟩;exact⟨x,a,h1,b,(UW U w l a).2 c⟩
theorem Qk {U:Nat→Prop}{w:Y}{k:Nat}{name:Bs}{v:List Ex}{body els:List Sm}{cs:List h}:
 Q5 U w (.mk k name v body els) cs↔∃ a d e,cs=[V Ad k,Aa (str name),a,d,e]∧Ju KE U w v a∧Ju KS U w body d∧Ju KS U w els e:=by
 rw [Q5];constructor
 ·rintro⟨a,f,g,b,L,i,c,h1,j,⟨l,m,n,o,p⟩,⟨q,r,s,t,u⟩⟩;exact⟨a,_,_,h1,j,⟨f,g,b,rfl,l,m,n,o,(UW U w body b).1 p⟩,⟨L,i,c,rfl,q,r,s,t,(UW U w els c).1 u⟩⟩
 ·rintro⟨a,d,e,h1,j,⟨f,g,b,rfl,l,m,n,o,p⟩,⟨L,i,c,rfl,q,r,s,t,u⟩⟩;exact⟨a,f,g,b,L,i,c,h1,j,⟨l,m,n,o,(UW U w body b).2 p⟩,⟨q,r,s,t,(UW U w els c).2 u⟩⟩
theorem Vw {U:Nat→Prop}{w:Y}{e:Sm}{cs:List h}(a:Q5 U w e cs):∃ (k:Nat)(nm:Bs)(A:Option Bi)(n c:Nat)(b:Option Bi)(m d:Nat)(C:Option Bi)(p f:Nat),cs=[V Ad k,Aa (str nm),J A n c,J b m d,J C p f]:=by
 cases e;rw [Qk]at a;obtain⟨j,l,o,rfl,h1,g,i⟩:=a;obtain⟨A,c,rfl⟩:=JB h1;obtain⟨b,d,rfl⟩:=JB g;obtain⟨C,f,rfl⟩:=JB i;exact⟨_,_,_,_,_,_,_,_,_,_,_,rfl⟩
def Uk (w:Y)(g:Nat)(S:ByteArray)(q:PS)(x:Sm)(e:BX)(w':Y):Prop:=
 (∃cs:List h,e=Ak (AN cs.toArray)∧Q5 (fun k=>w.heap.size≤k∧k<w'.heap.size) w' x cs)∧PW w' g S q∧PX g w w'
def ql (g:Nat)(S:ByteArray)(n:Nat):Prop:=∀ (p:PS)(x:Sm)(q:PS)(w:Y),dJ n p=some (x,q)→PW w g S p→As prog 130 #[Ae (some ⟨g,0,none⟩)] w (Uk w g S q x)
def aH (g:Nat)(S:ByteArray)(n:Nat):Prop:=∀ (p:PS)(l:List Sm)(q:PS)(w:Y),Sg n [] p=some (l,q)→PW w g S p→As prog 92 #[Ae (some ⟨g,0,none⟩)] w (zb8 KS w g S q l)
def zS:Array h:= #[V Ad 0,Aa ⟨#[]⟩,J none 0 0,J none 0 0,J none 0 0]
theorem yW6:(prog.info? 227).map (fun i=>(i.zero,i.size,i.bytes))=some (some (AN zS),5,96):=by kernel_rfl
theorem MH:(prog.info? 227).map (·.size)=some 5:=by kernel_rfl
theorem VH (k:Int)(s:ByteArray)(A:Option Bi)(n c:Nat)(b:Option Bi)(m d:Nat)(C:Option Bi)(p f:Nat):∀ u∈([V Ad k,Aa s,J A n c,J b m d,J C p f]:List h),u.oneCell'=true:=by
 intro u a;simp only [AH,Ba,or_false]at a;rcases a with rfl|rfl|rfl|rfl|rfl<;>rfl
theorem yA2 {g:Nat}{S:ByteArray}{n:Nat}(h1:n≤1000)(h2:∀ m,m<n→ql g S m):aH g S n:=by
 intro p l q w h3 H;obtain⟨hn,h4,h5,h6,h7⟩:=info_parts yW6;have ho:=D h4;have hp:=D h5;have hq:=D h6;have hr:=D h7;have xd:=H.lt;have E:=D h3;have h8:=D H;have hs:=D h2;clear h4 h5 h6 h7 h3 H h2;go_enter func92,ntmps92;go_wp2
 go_loopg [3] n (fun gf I K=>∃ (m:Nat) (acc:List Sm) (r:PS) (v:h),v=I∧m≤gf∧acc.length+m≤n∧AA (Sg m acc r=some (l,q))∧AA (PW K g S r)∧AA (PX g w K)∧AA (RowK KS 227 w.heap.size K acc v))
 case atStart=>exact⟨n,[],p,_,rfl,Aw _,by simp,E,h8,D (JK.refl _),D (RowK.nil _ _ _ _)⟩
 case round=>
  clear E h8;obtain⟨m,acc,r,I,ht,xe,xf,E,L,N,O⟩:=hrel;subst ht;have b:=E.out;cases m with
  |zero=>cases b
  |succ m=>
   rw [Sg]at b;split at b
   ·rename_i s;split at b
    ·cases b
    ·rename_i P h9;cases b;have Q:=D (LU L s h9);clear h9 s;go_wp2_with fail;refine Q.mono ?_
     rintro e ha ⟨rfl,hb,R⟩;have hu:=D hb;have hv:=D (N.trans R);have hw:=D (O.upd R (fun k hx c=>by have d:k=g:=c;omega));clear hb R;go_wp2_with fail;go_ret;exact⟨⟨_,rfl,hw.sl⟩,hu,hv⟩
   ·rename_i s;split at b
    ·cases b
    ·rename_i x P hc;have hd:JZ [125] r=false:=by simpa using s
     have hy:=D b;have Q:=D (J8 L hd);have hz:=D (hs m (by omega) r x P wr hc L);obtain⟨T,rfl⟩:∃ T,gk=T+1:=⟨gk - 1,by omega⟩;clear b s hd hc;go_wp2_with fail;refine Q.mono ?_
     rintro e ha ⟨rfl,rfl⟩;go_wp2_with fail;refine hz.mono ?_
     rintro e f ⟨⟨cs,rfl,U⟩,he,F⟩;obtain⟨k,nm,A,t,u,y,z,B,C,c1,d,rfl⟩:=Vw U;have x0:=D (N.trans F);have hf:=D he;have xg:=N.size;have xh:=F.size;have x1:=D ((O.upd F (fun k hx c=>by have d:k=g:=c;omega)).upd (Gl (G:=fun _=>False) ((Ext.refl f).alloc (Ab #[V Ad k,Aa (str nm),J A t u,J y z B,J C c1 d] 227))) (fun _ _ q=>q));obtain⟨xi,hg⟩:=O.own;have x2:=D U;have hh:∀ j,I.ownBlock=some j→j<ha.heap.size:=fun j o=>(Kc hg o).2
     have x3:=D hh;clear U he F hg hh;obtain⟨xs,X,hi⟩:=x1;have x4:=D hi;have hj:=D X;obtain⟨Y,c0,x5, -⟩:=K7 X;subst x5;clear X hi;have x6:=D (RJ (W:=f) (e:=227) rfl [V Ad k,Aa (str nm),J A t u,J y z B,J C c1 d]);have x7:AA (acc.length+1≤Bk):=D (by unfold Bk;omega);have x8:AA ((acc.length+1)*96≤140737488355328):=D (by omega);have x9:AA (w.heap.size≤(f.alloc (Ab #[V Ad k,Aa (str nm),J A t u,J y z B,J C c1 d] 227)).heap.size):=D (by simp;omega);go_wp2_with (at_builtin;refine Lp rfl _ _ 107 rfl w.heap.size 227 hn (AN zS) 5 96 underlying107 ho hp hq hr rfl (by decide) (J Y acc.length c0) acc.length xs rfl hj (some ⟨f.heap.size,0,none⟩) 1 1 [V Ad k,Aa (str nm),J A t u,J y z B,J C c1 d] rfl x6 rfl (VH _ _ _ _ _ _ _ _ _ _ _) x7 x8 x9 ?_;intro xj hk hl i hm);have xa:=D (RowK.snoc (a:=x) x4 (KS.upd x2 (Gl (G:=fun _=>False) ((Ext.refl f).alloc (Ab #[V Ad k,Aa (str nm),J A t u,J y z B,J C c1 d] 227))) (fun _ _ q=>q) (fun j q=>⟨by have:=q.1;omega,by have:=q.2;simp;omega,fun c=>by have:=x3 j c;have:=q.1;omega⟩)) hl i hm);have Z:JK (fun j=>(J Y acc.length c0).ownBlock=some j) f hk:=(Gl ((Ext.refl f).alloc _)).trans ⟨i.os,i.tape,i.output,i.size,fun j o h1=>i.block j o (fun q=>h1 q.symm)⟩;have h0:∀ j,(J Y acc.length c0).ownBlock=some j→w.heap.size≤j:=fun j o=>(Kc hj o).1
     have xb:=D (hf.upd Z (fun c=>by have:=h0 g c;omega) (fun j c=>by have:=h0 j c;have:=hf.g13;omega));have xc:AA (PX g w hk):=D (((x0.mono (G':=fun j=>j=g∨w.heap.size≤j) (fun j _ c=>AO c)).trans (Z.mono (fun j _ c=>AB (h0 j c)))).mono (fun j o c=>c.elim id (fun d=>by omega)));clear hl i hm Z;go_wp2_with fail
     go_roundg T
     case measure=>omega
     case rel=>exact⟨m,_,P,_,rfl,by omega,by rw [M];simp;omega,hy,xb,xc,xa⟩
def zc7 (w:Y)(g X:Nat)(S:ByteArray)(q:PS)(d f lv:h)(x:Ex)(b:List Sm)(e:BX)(w':Y):Prop:=
 e=Ak (AZ #[])∧PW w' g S q∧JK (fun k=>k=g∨k=X) w w'∧∃ a c,w'.heap[X]?= some (Ab #[d,f,a,c,lv] 227 (0,0))∧
  Ju KE (fun k=>w.heap.size≤k∧k<w'.heap.size) w' [x] a∧Ju KS (fun k=>w.heap.size≤k∧k<w'.heap.size) w' b c
def aJ (g:Nat)(S:ByteArray)(n:Nat):Prop:=∀ (p:PS)(x:Ex)(b:List Sm)(q:PS)(w:Y)(X:Nat)(a c d e lv:h),Vm n p=some ((x,b),q)→PW w g S p→X≠g→13≤X→w.heap[X]?= some (Ab #[a,c,d,e,lv] 227 (0,0))→
 As prog 175 #[Ae (some ⟨g,0,none⟩),Ae (some ⟨X,0,none⟩)] w (zc7 w g X S q a c lv x b)
theorem yA4 {g:Nat}{S:ByteArray}{n:Nat}(P:∀ m,m<n→Ps g S m)(Q:∀ m,m<n→aH g S m):aJ g S n:=by
 intro p x b q w X hj hk xd hl lv d I t xe K;cases n with
 |zero=>cases d
 |succ n=>
  rw [Vm]at d;split at d
  ·cases d
  ·rename_i p1 h1;split at d
   ·cases d
   ·rename_i xf hm R;split at d
    ·cases d
    ·rename_i xg T;split at d
     ·cases d
     ·rename_i Y Z;split at d
      ·cases d
      ·rename_i xh xi h0;cases d;have xj:=I.lt;have xk:X<w.heap.size:=(Ag.1 K).1;have hn:=D K;have ho:=D I;have hp:=D (fun W (L:PW W g S p1)=>P n (by omega) 1 p1 x hm W R L);have hq:=D (fun W (L:PW W g S Y)=>Q n (by omega) Y b q W h0 L);have hr:=D h1;have hs:=D T;have ht:=D Z;clear h1 R T Z h0 P Q I K;go_enter func175,ntmps175;go_wp2_with fail;refine(Mh (ho.ext ((Ext.refl w).alloc _)) hr (b:=w.heap.size) (Aj w _) (by omega)).mono ?_
       rintro e h2 ⟨rfl,h3,h4⟩;have B:PX g w h2:=(Gl ((Ext.refl w).alloc _)).trans h4;have hu:=D B;have hv:=D h3;have hw:=D (B.heap hn t);have xl:=B.size;clear h3 h4 B;go_wp2_with fail;refine(hp h2 hv).mono ?_
       rintro e a ⟨⟨cs,rfl,M⟩,h5,C⟩;obtain⟨f,h,i,j,l,o,r,rfl⟩:=Nq M;have hx:=D (hu.trans C);have h6:=D h5;have xm:=C.size;have h7:=C.heap hw t;have E:=CE ((Ext.refl a).alloc (Ab #[V Ad f,V Ad h,V Af i,Aa (str j),J l o r] 287)) h7;have h8:=D E;have s:=bk E 2;have f2:=JF E 2;have hy:=D M;have h9:=D (Aj a (Ab #[V Ad f,V Ad h,V Af i,Aa (str j),J l o r] 287));have ha:=D ((Ext.refl a).alloc (Ab #[V Ad f,V Ad h,V Af i,Aa (str j),J l o r] 287));have hz:(a.alloc (Ab #[V Ad f,V Ad h,V Af i,Aa (str j),J l o r] 287)).heap.size=a.heap.size+1:=by simp
       clear h5 C h7 E M;go_upto_region 2 with fail;have F:JK (fun k=>k=X) a ((a.alloc (Ab #[V Ad f,V Ad h,V Af i,Aa (str j),J l o r] 287)).setCell ⟨X,2,none⟩ (J (some ⟨a.heap.size,0,none⟩) 1 1)):=(Gl ha).setCell (G:=fun k=>k=X) (p:=⟨X,2,none⟩) (AB rfl) _;have hb:((a.alloc (Ab #[V Ad f,V Ad h,V Af i,Aa (str j),J l o r] 287)).setCell ⟨X,2,none⟩ (J (some ⟨a.heap.size,0,none⟩) 1 1)).heap[X]?= some (Ab #[hj,hk,J (some ⟨a.heap.size,0,none⟩) 1 1,hl,lv] 227 (0,0)):=JJ h8 2 _
       have hc:((a.alloc (Ab #[V Ad f,V Ad h,V Af i,Aa (str j),J l o r] 287)).setCell ⟨X,2,none⟩ (J (some ⟨a.heap.size,0,none⟩) 1 1)).heap[a.heap.size]?= some (Ab #[V Ad f,V Ad h,V Af i,Aa (str j),J l o r] 287 (0,0)):=(AY _ _ _ _ (by show a.heap.size≠X;omega)).trans h9
       have x0:((a.alloc (Ab #[V Ad f,V Ad h,V Af i,Aa (str j),J l o r] 287)).setCell ⟨X,2,none⟩ (J (some ⟨a.heap.size,0,none⟩) 1 1)).heap.size=a.heap.size+1:=by simp
       clear s f2 h8 h9 ha hz;generalize((a.alloc (Ab #[V Ad f,V Ad h,V Af i,Aa (str j),J l o r] 287)).setCell ⟨X,2,none⟩ (J (some ⟨a.heap.size,0,none⟩) 1 1))=w4 at*
       have x1:=D (h6.upd F (fun c=>t c.symm) (fun k c=>by have s:k=X:=c;have:=h6.g13;omega));have hd:AA (JK (fun k=>k=g∨k=X) w w4):=D ((hx.mono (fun k _ c=>AO c)).trans (F.mono (fun k _ c=>AB c)));have x2:=D hb;have x3:=D (Vr (U:=fun k=>w.heap.size≤k∧k<w4.heap.size) hc (KE.upd hy F (fun k q c=>by have s:k=X:=c;have:=q.1;omega) (fun k q=>⟨by have:=q.1;omega,by have:=q.2;omega⟩)) ⟨by omega,by omega⟩);clear F hb hc x0;go_wp2_with fail;refine(aD (x1.ext ((Ext.refl w4).alloc _)) hs ht (b:=w4.heap.size) (Aj w4 _) (by have:=hd.size;omega)).mono ?_
       rintro e N ⟨rfl,he,hf⟩;have u:PX g w4 N:=(Gl ((Ext.refl w4).alloc _)).trans hf;have hg:=D (hd.trans (u.mono (fun k _ c=>AO c)));have x4:=D he;have x5:=D (u.heap x2 t);have x6:=D (x3.upd u (fun k q c=>by have s:k=g:=c;omega) (U':=fun k=>w.heap.size≤k∧k<N.heap.size) (fun k q=>⟨q.1,Ar q.2 u.size⟩));have xn:=u.size;clear he hf u;go_wp2_with fail;refine(hq N x4).mono ?_
       rintro e y ⟨⟨v,rfl,O⟩,hh,A⟩;obtain⟨x7,x8,rfl⟩:=JB O;have hi:=D hh;have x9:=D (hg.trans (A.mono (fun k _ c=>AO c)));have H:=A.heap x5 t;have xa:=D H;have xb:=D (x6.upd A (fun k q c=>by have s:k=g:=c;omega) (U':=fun k=>w.heap.size≤k∧k<y.heap.size) (fun k q=>⟨q.1,Ar q.2 A.size⟩));have xo:=hg.size;have xc:=D (O.upd (JK.refl (G:=fun _=>False) y) (fun _ _ q=>q) (U':=fun k=>w.heap.size≤k∧k<y.heap.size) (fun k q=>⟨by omega,q.2⟩));have xp:=bk H 3;have xq:=JF H 3;clear hh A H O;go_wp2_with fail;go_end0;have z:JK (fun k=>k=X) y (y.setCell ⟨X,3,none⟩ (J x7 b.length x8)):=(JK.refl y).setCell (G:=fun k=>k=X) (p:=⟨X,3,none⟩) (AB rfl) _;exact⟨rfl,hi.upd z (fun c=>t c.symm) (fun k c=>by have s:k=X:=c;have:=hi.g13;omega),x9.trans (z.mono (fun k _ c=>AB c)),_,_,JJ xa 3 _,
        xb.upd z (fun k q c=>by have s:k=X:=c;omega) (fun k q=>⟨q.1,Ar q.2 z.size⟩),xc.upd z (fun k q c=>by have s:k=X:=c;omega) (fun k q=>⟨q.1,Ar q.2 z.size⟩)⟩
theorem jD {w W:Y}{g:Nat}{S:ByteArray}{q:PS}{e:Sm}{cs:List h}(f:PX g w W)(a:PW W g S q)(j:g<w.heap.size)(i:Q5 (fun k=>w.heap.size<k∧k<W.heap.size) W e cs):
 Uk w g S q e (Ak (AN cs.toArray)) (W.setRow w.heap.size cs.toArray):=by
 have b:JK (fun k=>k=w.heap.size) W (W.setRow w.heap.size cs.toArray):=JK.setRow (G:=fun k=>k=w.heap.size) (JK.refl W) (AB rfl) _;refine⟨⟨cs,rfl,Vv b (fun k q c=>by have d:k=w.heap.size:=c;omega) (fun k q=>⟨by omega,Ar q.2 b.size⟩) e cs i⟩,?_,f.setRow (AO (Aw _)) _⟩;exact⟨a.at_.upd b (fun c=>by have d:g=w.heap.size:=c;omega),a.tab.upd b (fun k c=>by have d:k=w.heap.size:=c;have:=a.g13;omega),a.g13,a.hs⟩
theorem zI7 {U:Nat→Prop}{W:Y}{k:Nat}{nm:Bs}{d:List Ex}{body els:List Sm}{a b c:h}(h1:Ju KE U W d a)(e:Ju KS U W body b)(f:Ju KS U W els c):Q5 U W (.mk k nm d body els) [V Ad k,Aa (str nm),a,b,c]:=by
 rw [Qk];exact⟨a,b,c,rfl,h1,e,f⟩
theorem nG (k:Int)(w:Y):(D8 227 #[(0,V Ad k)]).run prog w=Ez (AN #[V Ad k,Aa ⟨#[]⟩,J none 0 0,J none 0 0,J none 0 0]) w:=by kernel_rfl
def uQ (g:Nat)(S:ByteArray)(n:Nat):Prop:=∀ (p:PS)(x:Sm)(q:PS)(w:Y),Zu n p=some (x,q)→PW w g S p→As prog 174 #[Ae (some ⟨g,0,none⟩)] w (Uk w g S q x)
structure Vx (w W:Y) (g:Nat) (S:ByteArray) (q:PS) (cs:Array h):Prop where
 x:W.heap[w.heap.size+1]?= some (Ab cs 227 (0,0))
 r:W.heap[w.heap.size]?= some (Ab zS 227 (0,0))
 pw:PW W g S q
 px:PX g w W
theorem Vx.step {w W a:Y}{g:Nat}{S:ByteArray}{p q:PS}{cs:Array h}(b:Vx w W g S p cs)(i:g<w.heap.size)(d:PX g W a)(e:PW a g S q):Vx w a g S q cs:=
 ⟨d.heap b.x (fun c=>by have f:w.heap.size+1=g:=c;omega),d.heap b.r (fun c=>by have f:w.heap.size=g:=c;omega),e,b.px.trans d⟩
theorem Vx.lt {w W:Y}{g:Nat}{S:ByteArray}{q:PS}{cs:Array h}(a:Vx w W g S q cs):w.heap.size+1<W.heap.size:=(Ag.1 a.x).1
theorem Vx.set {w W:Y}{g:Nat}{S:ByteArray}{q:PS}{cs:Array h}(a:Vx w W g S q cs)(e:g<w.heap.size)(i:Nat)(v:h):Vx w (W.setCell ⟨w.heap.size+1,i,none⟩ v) g S q (cs.setIfInBounds i v):=by
 have b:JK (fun k=>k=w.heap.size+1) W (W.setCell ⟨w.heap.size+1,i,none⟩ v):=(JK.refl W).setCell (G:=fun k=>k=w.heap.size+1) (p:=⟨w.heap.size+1,i,none⟩) (AB rfl) v;exact⟨JJ a.x i v,b.heap a.r (fun c=>by have d:w.heap.size=w.heap.size+1:=c;omega),a.pw.upd b (fun c=>by have d:g=w.heap.size+1:=c;omega) (fun k c=>by have d:k=w.heap.size+1:=c;have:=a.pw.g13;omega),a.px.setCell (p:=⟨w.heap.size+1,i,none⟩) (AO (by show w.heap.size≤w.heap.size+1;omega)) v⟩
theorem Vx.alloc {w W:Y}{g:Nat}{S:ByteArray}{q:PS}{cs:Array h}(b:Vx w W g S q cs)(c:g<w.heap.size)(o:Obj):Vx w (W.alloc o) g S q cs:=b.step c (Gl ((Ext.refl W).alloc o)) (b.pw.ext ((Ext.refl W).alloc o))
theorem zc8 {α:Type}{K:Kind α}{w W:Y}{l:List α}{v u:h}{i:Nat}{U:Nat→Prop}(a:Ju K U W l v)(b:∀ k,U k→w.heap.size+1<k):Ju K U (W.setCell ⟨w.heap.size+1,i,none⟩ u) l v:=
 a.upd ((JK.refl W).setCell (G:=fun k=>k=w.heap.size+1) (p:=⟨w.heap.size+1,i,none⟩) (AB rfl) u) (fun k q c=>by have:=b k q;have d:k=w.heap.size+1:=c;omega) (fun k q=>q)
abbrev UX (w W:Y):Nat→Prop:=fun k=>w.heap.size+1<k∧k<W.heap.size
theorem Qm {α:Type}{K:Kind α}{w W a:Y}{g:Nat}{l:List α}{v:h}(d:Ju K (UX w W) W l v)(e:g<w.heap.size)(b:PX g W a):Ju K (UX w a) a l v:=
 d.upd b (fun k q c=>by have f:k=g:=c;have:=q.1;omega) (fun k q=>⟨q.1,Ar q.2 b.size⟩)
theorem Rm {α:Type}{K:Kind α}{w W:Y}{l:List α}{v u:h}{i:Nat}(a:Ju K (UX w W) W l v):Ju K (UX w (W.setCell ⟨w.heap.size+1,i,none⟩ u)) (W.setCell ⟨w.heap.size+1,i,none⟩ u) l v:=
 (zc8 a (fun _ q=>q.1)).upd (JK.refl (G:=fun _=>False) _) (fun _ _ q=>q) (fun k q=>⟨q.1,by simpa using q.2⟩)
theorem aK {α:Type}{K:Kind α}{w W a:Y}{l:List α}{v:h}(b:Ju K (fun k=>a.heap.size≤k∧k<W.heap.size) W l v)(c:w.heap.size+1<a.heap.size):Ju K (UX w W) W l v:=
 b.upd (JK.refl (G:=fun _=>False) _) (fun _ _ q=>q) (fun k q=>⟨by omega,q.2⟩)
theorem dS {w W:Y}{g:Nat}{S:ByteArray}{q:PS}{k:Nat}{nm:Bs}{d:List Ex}{body els:List Sm}{a b c:h}(e:Vx w W g S q #[V Ad k,Aa (str nm),a,b,c])(f:g<w.heap.size)(h1:Ju KE (UX w W) W d a)(i:Ju KS (UX w W) W body b)(l:Ju KS (UX w W) W els c):
 Uk w g S q (.mk k nm d body els) (Ak (AN #[V Ad k,Aa (str nm),a,b,c])) (W.setRow w.heap.size #[V Ad k,Aa (str nm),a,b,c]):=
 jD (cs:=[V Ad k,Aa (str nm),a,b,c]) e.px e.pw f (Vv (JK.refl (G:=fun _=>False) W) (fun _ _ q=>q) (fun j q=>⟨by have:=q.1;omega,q.2⟩) _ _ (zI7 h1 i l))
theorem yq2 {g:Nat}{S:ByteArray}{n:Nat}(hk:∀ m,m<n→aJ g S m)(hl:∀ m,m<n→uQ g S m)(hm:∀ m,m<n→aH g S m):uQ g S n:=by
 intro p xt q w d Y;cases n with
 |zero=>cases d
 |succ n=>
  rw [Zu]at d;split at d
  ·cases d
  ·rename_i x b p1 h1;have a:=Y.lt;have xu:=Y.g13;have hn:=D Y;have xv:=fun W=>nG 3 W
   have ho:=D (fun W (M:PW W g S p) (x4:W.heap[w.heap.size+1]?= some (Ab #[V Ad 3,Aa ⟨#[]⟩,J none 0 0,J none 0 0,J none 0 0] 227 (0,0)))=>hk n (by omega) p x b p1 W (w.heap.size+1) _ _ _ _ _ h1 M (by omega) (by omega) x4);have x5:=D (hl n (by omega));have x6:=D (hm n (by omega));have hp:=D d;clear h1 Y hk hl hm d;go_enter func174,ntmps174;go_wp2_with fail;have hq:Vx w ((w.alloc (Ab zS 227)).alloc (Ab #[V Ad 3,Aa ⟨#[]⟩,J none 0 0,J none 0 0,J none 0 0] 227)) g S p #[V Ad 3,Aa ⟨#[]⟩,J none 0 0,J none 0 0,J none 0 0]:=
    ⟨Ay w _ _,AP w _ _,hn.ext (((Ext.refl w).alloc _).alloc _),Gl (((Ext.refl w).alloc _).alloc _)⟩
   have N:=D hq;clear hq;refine(ho _ N.pw N.x).mono ?_
   rintro e x7 ⟨rfl,hr,h6,xw,xx,hs,h7,h8⟩;obtain⟨x8,x9,rfl⟩:=JB h7;obtain⟨xa,xb,rfl⟩:=JB h8;have y:AA (Vx w x7 g S p1 #[V Ad 3,Aa ⟨#[]⟩,J x8 [x].length x9,J xa b.length xb,J none 0 0]):=D ⟨hs,h6.heap N.r (fun c=>by rcases c with c|c<;>omega),hr,(N.px.mono (G':=fun k=>k=g∨k=w.heap.size+1) (fun k _ c=>AO c)).trans h6 |>.mono (fun k xy c=>by rcases c with c|c;exact c;omega)⟩;have ht:=D (aK (w:=w) h7 (by simp));have hu:=D (aK (w:=w) h8 (by simp));clear hr h6 hs h7 h8 N ho hn;have d:=hp.out;clear hp;split at d
   ·rename_i O;split at d
    ·cases d
    ·rename_i xz hv;have h9:=D (LU y.pw O hv);clear O hv;go_wp2_with fail;refine h9.mono ?_
     rintro e xc ⟨rfl,hw,Z⟩;have z:=D (y.step a Z hw);have hx:=D (Qm ht a Z);have hy:=D (Qm hu a Z);clear hw Z;split at d
     ·rename_i P;split at d
      ·cases d
      ·rename_i Q R;split at d
       ·cases d
       ·rename_i xd xe T;cases d;have ha:=D (LU z.pw P R);have xf:=D (fun W (M:PW W g S Q)=>x5 Q xd q W T M);clear P R T;go_wp2_with fail;refine ha.mono ?_
        rintro e j ⟨rfl,hz,h0⟩;have hb:=D (z.step a h0 hz);have xg:=D (Qm hx a h0);have xh:=D (Qm hy a h0);clear hz h0;go_wp2_with fail;refine(xf j hb.pw).mono ?_
        rintro e f ⟨⟨cs,rfl,hc⟩,X,h⟩;obtain⟨k,nm,A,B,E,F,H,I,C,c1,L,rfl⟩:=Vw hc;have o:=D ((hb.step a h X).alloc a (Ab #[V Ad k,Aa (str nm),J A B E,J F H I,J C c1 L] 227));have hd:=D (Qm (Qm xg a h) a (Gl ((Ext.refl f).alloc (Ab #[V Ad k,Aa (str nm),J A B E,J F H I,J C c1 L] 227))));have he:=D (Qm (Qm xh a h) a (Gl ((Ext.refl f).alloc (Ab #[V Ad k,Aa (str nm),J A B E,J F H I,J C c1 L] 227))));have y0:=hb.lt;have y1:=h.size;have xi:=D (Vr (K:=KS) (U:=UX w (f.alloc (Ab #[V Ad k,Aa (str nm),J A B E,J F H I,J C c1 L] 227))) (Aj f (Ab #[V Ad k,Aa (str nm),J A B E,J F H I,J C c1 L] 227)) (KS.upd hc (Gl (G:=fun _=>False) ((Ext.refl f).alloc (Ab #[V Ad k,Aa (str nm),J A B E,J F H I,J C c1 L] 227))) (fun _ _ q=>q) (fun k q=>⟨by have:=q.1;omega,by have:=q.2;simp;omega⟩)) ⟨by omega,by simp⟩);have xj:=bk o.x 4;have xk:=JF o.x 4;have t:=D (o.set a 4 (J (some ⟨f.heap.size,0,none⟩) 1 1));have xl:=D t.x;have x0:=D t.r;have hf:=D (Rm (i:=4) (u:=J (some ⟨f.heap.size,0,none⟩) 1 1) hd);have hg:=D (Rm (i:=4) (u:=J (some ⟨f.heap.size,0,none⟩) 1 1) he);have hh:=D (Rm (i:=4) (u:=J (some ⟨f.heap.size,0,none⟩) 1 1) xi);clear X h hc;go_wp2_with (first|refine Qx rfl AV rfl xl MH ?_|refine L8 rfl rfl rfl x0 MH ?_ (h1:=(Np (VH _ _ _ _ _ _ _ _ _ _ _))));refine K3 IQ AV MH (PO x0) ?_
        exact dS (nm:=[]) t a hf hg hh
     ·rename_i P;split at d
      ·cases d
      ·rename_i Q R;split at d
       ·cases d
       ·rename_i l xe T;cases d;have ha:=D (J8 z.pw (s:=[105,102]) (by simpa using P));have xm:=D R;have xn:=D (fun W (M:PW W g S Q)=>x6 Q l q W T M);clear P R T;go_wp2_with fail;refine ha.mono ?_
        rintro e j ⟨rfl,rfl⟩;go_wp2_with fail;refine(Mh (z.pw.ext ((Ext.refl j).alloc _)) xm (b:=j.heap.size) (Aj j _) (by have:=z.lt;omega)).mono ?_
        rintro e f ⟨rfl,X,h⟩;have h2:PX g j f:=(Gl ((Ext.refl j).alloc _)).trans h;have o:=D (z.step a h2 X);have hd:=D (Qm hx a h2);have he:=D (Qm hy a h2);clear X h h2;go_wp2_with fail;refine(xn f o.pw).mono ?_
        rintro e y2 ⟨⟨v,rfl,hi⟩,x1,h3⟩;obtain⟨h4,h5,rfl⟩:=JB hi;have t:=D (o.step a h3 x1);have hf:=D (Qm hd a h3);have hg:=D (Qm he a h3);have hh:=D (aK (w:=w) hi o.lt);have xj:=bk t.x 4;have xk:=JF t.x 4;have hj:=D (t.set a 4 (J h4 l.length h5));have xo:=D hj.x;have x2:=D hj.r;have xp:=D (Rm (i:=4) (u:=J h4 l.length h5) hf);have xq:=D (Rm (i:=4) (u:=J h4 l.length h5) hg);have xr:=D (Rm (i:=4) (u:=J h4 l.length h5) hh);clear x1 h3 hi;go_wp2_with (first|refine Qx rfl AV rfl xo MH ?_|refine L8 rfl rfl rfl x2 MH ?_ (h1:=(Np (VH _ _ _ _ _ _ _ _ _ _ _))));refine K3 IQ AV MH (PO x2) ?_
        exact dS (nm:=[]) hj a xp xq xr
   ·rename_i O;cases d;have h9:=D (J8 y.pw (s:=[101,108,115,101]) (by simpa using O));have xs:=D y.x;have x3:=D y.r;clear O;go_wp2_with fail;refine h9.mono ?_
    rintro e xc ⟨rfl,rfl⟩;go_wp2_with (first|refine Qx rfl AV rfl xs MH ?_|refine L8 rfl rfl rfl x3 MH ?_);refine K3 IQ AV MH (PO x3) ?_
    exact dS (nm:=[]) y a ht hu (Ju.nil _ _ _)
end Go.Proofs.YtmkomefmgcpnbaaGreatDoor

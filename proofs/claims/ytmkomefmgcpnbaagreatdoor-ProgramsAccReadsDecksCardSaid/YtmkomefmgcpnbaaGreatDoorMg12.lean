import Derived.Test.YtmkomefmgcpnbaaGreatDoorMg11
set_option linter.all false
set_option maxHeartbeats 12800000
set_option maxRecDepth 100000
namespace Go.Proofs.YtmkomefmgcpnbaaGreatDoor
open Tryz Pg Go Go.Proofs Go.RowKit
open Go renaming Addr→Bi,Calls→As,Ending→BX,Value→h,World→Y,heap_alloc_new→Aj,maxLen→Bk
open Go.Ending renaming returned→Ak
open Go.IntKind renaming i64→Ad,u32→Af
open Go.IntWalk renaming i64_in→AU
open Go.Lib renaming hid→D
open Go.Obj renaming cells→Ab
open Go.Operand renaming tmp→Eh
open Go.Proofs.Tryz renaming func137→E6,ntmps137→EH,underlying287→Ax,func182→IE,ntmps182→H9,underlying227→AV,underlying34→Bu
open Go.RowKit renaming Hid→AA
open Go.Value renaming agg→AN,int→V,pointer→Ae,slice→J,string→Aa,tuple→AZ
open _root_.List renaming append_assoc→AG,length_append→M,length_cons→Am,length_nil→Av,replicate_succ→GB,append_nil→BP,cons_append→BS,getElem?_eq_getElem→Al,mem_cons→AH,mem_of_getElem?→AD,sizeOf_lt_of_mem→BQ,take_add_one→BB,take_append_drop→C6,take_length→BN,take_zero→Hg,isEmpty_iff→CL,length_map→AI,length_take→BD,map_append→Dv,map_take→EG,not_mem_nil→Ba,take_of_length_le→DN
open _root_.Nat renaming le_trans→AL,beq→Az,lt_of_lt_of_le→Ar,add_zero→Dp,eq_of_beq_eq_true→Ap,le_of_ble_eq_true→Ai,strongRecOn→D1,zero_mul→FG,mul_one→Ht
open _root_.Or renaming inl→AO,inr→AB
open _root_.Bool renaming and_eq_true→Ah
open Go.Proofs renaming intOf→AX
open _root_.SizeOf renaming sizeOf→Aq
open Go.Value.int renaming injEq→IW
open _root_.List.cons renaming injEq→Fg
open Go.World renaming ownsRow_nil→CQ
theorem yC5:dZ 177 2:=by unfold dZ;kernel_rfl
structure WW (w:Y) (b:Nat) (g:Option Nat) (l:Bs):Prop where
 eb:EB 177 b g l [] w
 tab:Mg w
 b13:13≤b
 g13:∀ k,g=some k→13≤k
abbrev BG (b:Nat)(g:Option Nat)(k:Nat):Prop:=k=b∨g=some k
def Wr (w:Y)(b:Nat)(g:Option Nat)(l:Bs)(e:BX)(w':Y):Prop:=e=Ak (AZ #[])∧∃ g',WW w' b g' l∧LW b g w g' w'
section
variable {w w' w'':Y}{b:Nat}{g g':Option Nat}{l:Bs}
theorem WW.ext (a:WW w b g l)(x:Ext w w'):WW w' b g l:=⟨a.eb.ext x,a.tab.ext x,a.b13,a.g13⟩
theorem WW.lt (c:WW w b g l){k:Nat}(a:BG b g k):k<w.heap.size:=by
 rcases a with rfl|a
 ·exact c.eb.lt
 ·exact c.eb.gt a
theorem WW.yO7 (c:WW w b g l){k:Nat}(a:BG b g k):13≤k:=by
 rcases a with rfl|a
 ·exact c.b13
 ·exact c.g13 k a
theorem WW.step {d:Bs}(a:WW w b g l)(e:EB 177 b g' d [] w')(f:LW b g w g' w'):WW w' b g' d:=by
 refine⟨e,a.tab.upd f.upd (fun k c=>a.yO7 c),a.b13,fun k c=>?_⟩;rcases f.new with q|⟨m,q,h⟩
 ·exact a.g13 k (q▸c)
 ·rw [c]at q;cases q;exact AL a.tab.lt h
theorem LW.bg (c:LW b g w g' w'){k:Nat}(d:k<w.heap.size)(a:¬ BG b g k):¬ BG b g' k:=by
 rintro(q|q)
 ·exact a (AO q)
 ·rcases c.new with e|⟨m,e,f⟩
  ·exact a (AB (e▸q))
  ·rw [q]at e;cases e;omega
theorem Wr.of {a:Bs}{e:BX}(c:Wr w' b g' a e w'')(d:LW b g w g' w'):Wr w b g a e w'':=by
 obtain⟨h1,f,h,i⟩:=c;exact⟨h1,f,h,d.trans i⟩
end
theorem Ns {w:Y}{b:Nat}{g:Option Nat}{l s:Bs}(a:WW w b g l)(d:l.length+s.length≤1000000){S:ByteArray}(f:S=str s):
 As prog 104 #[Ae (some ⟨b,0,none⟩),Aa S] w fun e w'=>(∃v,e=Ak v)∧∃ g',WW w' b g' (l++s)∧LW b g w g' w':=by
 subst f;refine(Xo yC5 a.eb d).mono ?_
 rintro e w' ⟨rfl,g',h1,c⟩;exact⟨⟨_,rfl⟩,g',a.step h1 c,c⟩
theorem uw (n:Nat):Lib.repeatL [32,32] n=Ky n:=by
 induction n with
 |zero=>rfl
 |succ n a=>
  rw [Lib.repeatL,a];unfold Ky;rw [show 2*(n+1)=2*n+1+1 by omega,GB,GB];rfl
theorem zR1 (n:Nat)(w:Y)(a:n≤100):As prog 179 #[Aa ⟨#[32,32]⟩,V Ad n] w (Mi w (Ky n)):=by
 have:=strings_Repeat ⟨#[32,32]⟩ n w (by omega) (by show 2*n≤_;omega);rw [show(⟨#[32,32]⟩:ByteArray).data.toList=[32,32]from rfl,uw]at this;exact this
theorem UY {w:Y}{b:Nat}{g:Option Nat}{l:Bs}{lv:Nat}(f:WW w b g l)(n:lv≤100)(h:l.length+(Ky lv).length≤1000000):
 As prog 135 #[Ae (some ⟨b,0,none⟩),V Ad lv] w (Wr w b g (l++Ky lv)):=by
 have o:=D (fun W=>zR1 lv W n);have p:=D f;have q:=D h;clear f h;go_enter func135,ntmps135;refine QT (BG b g) [] (fun c=>?_)
 iterate 4 refine JC c ?_
 refine JM (fun K a=>?_);go_simp;refine(o _).mono ?_
 rintro e u ⟨rfl,d⟩;have r:=D ((p.ext ((Ext.refl w).drew)).ext d);have i:=D (Ext.trans ((Ext.refl w).drew) d);clear d;refine a _ _ ?_ (fun c=>?_)
 ·exact Gl i
 clear a K;refine JM (fun K a=>?_);go_simp;refine(Ns r q rfl).mono ?_
 rintro e x ⟨⟨v,rfl⟩,s,j,k⟩;have t:=D j;have m:=D ((LW.ext i).trans k);clear j k;refine a _ _ ?_ (fun c=>?_)
 ·exact m.upd
 clear a K;refine JV ?_
 go_wp2_with fail;go_end0;exact⟨rfl,s,t,m⟩
theorem zJ4 {w:Y}{b:Nat}{g:Option Nat}{l s:Bs}{lv:Nat}(c:WW w b g l)(h:lv≤100)(a:l.length+(J9 lv s).length≤1000000):
 As prog 97 #[Ae (some ⟨b,0,none⟩),V Ad lv,Aa (str s)] w (Wr w b g (l++J9 lv s)):=by
 unfold J9 at a ⊢;simp only [M]at a;have i:=D (UY c h (by omega));have j:AA (s.length≤1000000):=D (by omega);have t:=j.out;have k:AA ((l++Ky lv).length+(s++[10]).length≤1000000):=D (by simp only [M];omega);clear c a;go_enter func97,ntmps97;go_wp2_with fail;refine i.mono ?_
 rintro e u ⟨rfl,x,d,f⟩;have m:=D d;have n:=D f;clear d f;go_wp2_with fail;refine(Ns m k (show _=str (s++[10])from(by first|rfl|((repeat rw [Lg]);first|rfl|simp)))).mono ?_
 rintro e y ⟨⟨v,rfl⟩,o,p,q⟩;have r:=D (n.trans q);go_wp2_with fail;go_end0;exact⟨rfl,o,by rw [←AG];exact p,r⟩
theorem zJ5 {w:Y}{b:Nat}{g:Option Nat}{l:Bs}{lv:Nat}{name:Bs}{t:Option Bi}{nb y:Nat}{z:Option Bi}{A B:Nat}{C E F:Nat}{G:Bs}{H:Option Bi}{I L:Nat}{i m c:Nat}{s:Bs}(n:WW w b g l)(M:AA (∀j u,([V Ad C,V Ad E,V Af F,Aa (str G),J H I L]:List h)[j]?= some u→w.cell? ⟨i,m+j,none⟩=some u))(Z:AA (¬BG b g i))(N:AA (∀W,Ext w W→As prog 181 #[AN #[V Ad C,V Ad E,V Af F,Aa (str G),J H I L]] W (Mi W s)))(h8:name.length≤1000000)(h9:s.length≤1000000)(O:l.length+(name++([32,61,32]++(s++[59]))).length≤1000000):
 As prog 137 #[Ae (some ⟨b,0,none⟩),AN #[V Ad 1,Aa (str name),J (some ⟨i,m,none⟩) 1 c,J t nb y,J z A B],V Ad lv] w (Wr w b g (l++(name++([32,61,32]++(s++[59]))))):=by
 have h0:=D O;obtain⟨P,Q,k,o⟩:=alw w (Ab #[V Ad 1,Aa (str name),J (some ⟨i,m,none⟩) 1 c,J t nb y,J z A B] 227);have R:AA (¬BG b g w.heap.size):=D (fun q=>by have:=n.lt q;omega);have ha:=JA o 0;have h1:=JA o 1;have h2:=JA o 2;have h3:=D (fun j u p=>k.cell (M j u p));have h4:=D (n.ext k);have hb:=(Ext.refl P).drew;have h5:=D (fun W (x:Ext P W)=>N W (k.trans x));clear N M;clear n O;go_enter E6,EH;go_upto_region 1 with fail
 try rw [Q]
 clear Q;go_upto_region 3 with fail;refine QT (BG b g) [] (fun a=>?_)
 iterate 4 refine JC a ?_
 refine JP a (fun w d=>JK.cell d h1 R) ?_
 refine Mq a ?_
 refine JC a ?_
 refine JP a (fun w d=>JK.cell d h2 R) ?_
 refine JC a ?_
 refine Te a Ax Ki (fun w d j u p=>JK.cell d (h3.out j u p) Z.out) ?_
 refine JM (fun K f=>?_);go_simp
 with_reducible refine(h5.out _ (by assumption)).mono ?_
 rintro e hc ⟨rfl,S⟩;have r:=Ext.trans (by assumption) S;clear S;refine f.out _ _ ?_ (fun a=>?_)
 ·exact Gl r
 clear f K
 iterate 2 refine Mq a ?_
 refine JM (fun K f=>?_);go_simp;refine(Ns (s:=name++([32,61,32]++(s++[59]))) (h4.ext r) h0 (show _=str (name++([32,61,32]++(s++[59])))from(by first|rfl|((repeat rw [Lg]);first|rfl|simp)))).mono ?_
 rintro e wF ⟨⟨v,rfl⟩,h6,T,U⟩;have h7:=D T;have X:=D ((LW.ext r).trans U);clear T U;refine f _ _ ?_ (fun a=>?_)
 ·exact X.upd
 clear f K;refine JV ?_
 go_wp2_with fail;go_end0;exact⟨rfl,h6,h7,(LW.ext k).trans X⟩
theorem rR {w:Y}{b:Nat}{g:Option Nat}{l:Bs}{lv:Nat}{name:Bs}{y:Option Bi}{nb z:Nat}{A:Option Bi}{B C:Nat}{E F G:Nat}{H:Bs}{I:Option Bi}{L M:Nat}{f m c:Nat}{s t:Bs}{k:Int}(h0:k=6∧t=[114,101,116,117,114,110,32]∨k=7∧t=[112,117,116,32]∨k=8∧t=[115,116,111,112,32])(n:WW w b g l)(N:AA (∀j u,([V Ad E,V Ad F,V Af G,Aa (str H),J I L M]:List h)[j]?= some u→w.cell? ⟨f,m+j,none⟩=some u))(h1:AA (¬BG b g f))(O:AA (∀W,Ext w W→As prog 181 #[AN #[V Ad E,V Ad F,V Af G,Aa (str H),J I L M]] W (Mi W s)))(ha:name.length≤1000000)(hb:s.length≤1000000)(P:l.length+(t++(s++[59])).length≤1000000):
 As prog 137 #[Ae (some ⟨b,0,none⟩),AN #[V Ad k,Aa (str name),J (some ⟨f,m,none⟩) 1 c,J y nb z,J A B C],V Ad lv] w (Wr w b g (l++(t++(s++[59])))):=by
 have h2:=D P;obtain⟨Q,R,i,S⟩:=alw w (Ab #[V Ad k,Aa (str name),J (some ⟨f,m,none⟩) 1 c,J y nb z,J A B C] 227);have h3:AA (¬BG b g w.heap.size):=D (fun q=>by have:=n.lt q;omega);have hc:=JA S 0;have h4:=JA S 2;have h5:=D (fun j u o=>i.cell (N j u o));have h6:=D (n.ext i);have hd:=(Ext.refl Q).drew;have h7:=D (fun W (x:Ext Q W)=>O W (i.trans x));clear O N;clear n P;rcases h0 with⟨rfl,rfl⟩|⟨rfl,rfl⟩|⟨rfl,rfl⟩
 all_goals
  go_enter E6,EH;go_upto_region 1 with fail
  try rw [R]
  clear R
 go_upto_region 20 with fail
 rotate_left
 go_upto_region 22 with fail
 rotate_left
 go_upto_region 24 with fail
 all_goals
  refine QT (BG b g) [] (fun a=>?_)
  iterate 4 refine JC a ?_
  refine JP a (fun w p=>JK.cell p h4 h3) ?_
  refine JC a ?_
  refine Te a Ax Ki (fun w p j u o=>JK.cell p (h5.out j u o) h1.out) ?_
  refine JM (fun K d=>?_);go_simp
  with_reducible refine(h7.out _ (by assumption)).mono ?_
  rintro e he ⟨rfl,T⟩;have r:=Ext.trans (by assumption) T;clear T;refine d.out _ _ ?_ (fun a=>?_)
  ·exact Gl r
  clear d K
  iterate 2 refine Mq a ?_
  refine JM (fun K d=>?_);go_simp;refine(Ns (h6.ext r) h2 (by first|rfl|((repeat rw [Lg]);first|rfl|simp))).mono ?_
  rintro e wF ⟨⟨v,rfl⟩,h8,U,X⟩;have h9:=D U;have Z:=D ((LW.ext r).trans X);clear U X;refine d _ _ ?_ (fun a=>?_)
  ·exact Z.upd
  clear d K;refine JV ?_
  go_wp2_with fail;go_end0;exact⟨rfl,h8,h9,(LW.ext i).trans Z⟩
theorem pQ {w:Y}{b:Nat}{g:Option Nat}{l:Bs}{lv:Nat}{name:Bs}{H:Option Bi}{nb I:Nat}{L:Option Bi}{M N:Nat}{O P Q:Nat}{R:Bs}{S:Option Bi}{T U:Nat}{k n c:Nat}{s:Bs}{o p fn:Nat}{r:Bs}{t:Option Bi}{y A:Nat}{z:Bs}(B:WW w b g l)(X:AA (∀j u,([V Ad O,V Ad P,V Af Q,Aa (str R),J S T U]:List h)[j]?= some u→w.cell? ⟨k,n+j,none⟩=some u))(Z:AA (¬BG b g k))(h0:AA (∀W,Ext w W→As prog 181 #[AN #[V Ad O,V Ad P,V Af Q,Aa (str R),J S T U]] W (Mi W s)))(h1:AA (∀j u,([V Ad o,V Ad p,V Af fn,Aa (str r),J t y A]:List h)[j]?= some u→w.cell? ⟨k,n+5+j,none⟩=some u))(h2:AA (∀W,Ext w W→As prog 181 #[AN #[V Ad o,V Ad p,V Af fn,Aa (str r),J t y A]] W (Mi W z)))(hl:name.length≤1000000)(hm:s.length≤1000000)(hn:z.length≤1000000)(h3:l.length+(name++([91]++(s++([93,32,61,32]++(z++[59]))))).length≤1000000):
 As prog 137 #[Ae (some ⟨b,0,none⟩),AN #[V Ad 2,Aa (str name),J (some ⟨k,n,none⟩) 2 c,J H nb I,J L M N],V Ad lv] w (Wr w b g (l++(name++([91]++(s++([93,32,61,32]++(z++[59]))))))):=by
 have hb:=D h3;obtain⟨C,h4,m,E⟩:=alw w (Ab #[V Ad 2,Aa (str name),J (some ⟨k,n,none⟩) 2 c,J H nb I,J L M N] 227);have F:AA (¬BG b g w.heap.size):=D (fun q=>by have:=B.lt q;omega);have ho:=JA E.out 0;have hc:=JA E.out 1;have h5:=JA E.out 2;have hd:=D (fun j u i=>m.out.cell (X.out j u i));have he:=D (fun j u i=>m.out.cell (h1.out j u i));have hf:=D (B.ext m.out);have hp:=(Ext.refl C).drew;have hg:=D (fun W (x:Ext C W)=>h0.out W (m.out.trans x));clear h0 X;have hh:=D (fun W (x:Ext C W)=>h2.out W (m.out.trans x));clear h2 h1;clear B h3;go_enter E6,EH;go_upto_region 1 with fail
 try rw [h4]
 clear h4;go_upto_region 5 with fail;refine QT (BG b g) [] (fun a=>?_)
 iterate 4 refine JC a ?_
 refine JP a (fun w d=>JK.cell d hc F.out) ?_
 refine Mq a ?_
 refine JC a ?_
 refine JP a (fun w d=>JK.cell d h5 F.out) ?_
 refine JC a ?_
 refine Te a Ax Ki (fun w d j u i=>JK.cell d (hd.out j u i) Z.out) ?_
 refine KM 13 a ?_
 refine QM 14 a (fun w d=>JK.cell d h5 F.out) ?_
 refine KM 15 a ?_
 refine KM 16 a ?_ (hy:=by(intro w d;refine Sz 287 (Eh 41) ?_ k (n+5) ?_ _ [V Ad o,V Ad p,V Af fn,Aa (str r),J t y A] (fun j u i=>JK.cell d (he.out j u i) Z.out) Ax rfl Ki<;>rfl))
 refine JX.rd 10 (fun K f=>?_);go_simp
 with_reducible refine(hg.out _ (by assumption)).mono ?_
 rintro e hq ⟨rfl,h6⟩;have hi:=Ext.trans (by assumption) h6;clear h6;refine f.out _ _ ?_ (fun a=>?_)
 ·exact Gl hi
 clear f K;refine TY 11 a ?_
 refine TY 12 a ?_
 refine JM (fun K f=>?_);go_simp
 with_reducible refine(hh.out _ (by assumption)).mono ?_
 rintro e hr ⟨rfl,h7⟩;have G:=Ext.trans (by assumption) h7;clear h7;refine f.out _ _ ?_ (fun a=>?_)
 ·exact Gl G
 clear f K
 iterate 2 refine Mq a ?_
 refine JM (fun K f=>?_);go_simp;refine(Ns (s:=name++([91]++(s++([93,32,61,32]++(z++[59]))))) (hf.out.ext G) hb.out (show _=str (name++([91]++(s++([93,32,61,32]++(z++[59])))))from(by first|rfl|((repeat rw [Lg]);first|rfl|simp)))).mono ?_
 rintro e wF ⟨⟨v,rfl⟩,hj,h8,h9⟩;have hk:=D h8;have ha:=D ((LW.ext G).trans h9);clear h8 h9;refine f.out _ _ ?_ (fun a=>?_)
 ·exact ha.out.upd
 clear f K;refine JV ?_
 go_wp2_with fail;go_end0;exact⟨rfl,hj,hk.out,(LW.ext m.out).trans ha.out⟩
theorem zJ6 {w:Y}{b:Nat}{g:Option Nat}{l:Bs}{lv:Nat}{name:Bs}{m:Option Bi}{nb o:Nat}{p:Option Bi}{r t:Nat}{A:Option Bi}{n c:Nat}{s:Bs}(f:WW w b g l)(u:AA (∀W,Ext w W→As prog 183 #[J A n c] W (Mi W s)))(R:name.length≤1000000)(S:s.length≤1000000)(y:l.length+(name++([40]++(s++[41,59]))).length≤1000000):
 As prog 137 #[Ae (some ⟨b,0,none⟩),AN #[V Ad 5,Aa (str name),J A n c,J m nb o,J p r t],V Ad lv] w (Wr w b g (l++(name++([40]++(s++[41,59]))))):=by
 have I:=D y;obtain⟨z,B,h,i⟩:=alw w (Ab #[V Ad 5,Aa (str name),J A n c,J m nb o,J p r t] 227);have C:AA (¬BG b g w.heap.size):=D (fun q=>by have:=f.lt q;omega);have T:=JA i 0;have L:=JA i 1;have M:=JA i 2;have N:=D (f.ext h);have U:=(Ext.refl z).drew;have O:=D (fun W (x:Ext z W)=>u W (h.trans x));clear u;clear f y;go_enter E6,EH;go_upto_region 1 with fail
 try rw [B]
 clear B;go_upto_region 18 with fail;refine QT (BG b g) [] (fun a=>?_)
 iterate 4 refine JC a ?_
 refine JP a (fun w j=>JK.cell j L C) ?_
 refine Mq a ?_
 refine JC a ?_
 refine JP a (fun w j=>JK.cell j M C.out) ?_
 refine JM (fun K d=>?_);go_simp
 with_reducible refine(O.out _ (by assumption)).mono ?_
 rintro e X ⟨rfl,E⟩;have k:=Ext.trans (by assumption) E;clear E;refine d.out _ _ ?_ (fun a=>?_)
 ·exact Gl k
 clear d K
 iterate 2 refine Mq a ?_
 refine JM (fun K d=>?_);go_simp;refine(Ns (s:=name++([40]++(s++[41,59]))) (N.ext k) I (show _=str (name++([40]++(s++[41,59])))from(by first|rfl|((repeat rw [Lg]);first|rfl|simp)))).mono ?_
 rintro e wF ⟨⟨v,rfl⟩,P,F,G⟩;have Q:=D F;have H:=D ((LW.ext k).trans G);clear F G;refine d _ _ ?_ (fun a=>?_)
 ·exact H.upd
 clear d K;refine JV ?_
 go_wp2_with fail;go_end0;exact⟨rfl,P,Q,(LW.ext h).trans H⟩
theorem zJ7 {w:Y}{b:Nat}{g:Option Nat}{l:Bs}{lv:Nat}{name:Bs}{a:Option Bi}{nb d:Nat}{f:Option Bi}{h i:Nat}{A:Option Bi}{n c:Nat}{t:Bs}{k:Int}(s:k=9∧t=[98,114,101,97,107,59]∨k=10∧t=[99,111,110,116,105,110,117,101,59])(j:WW w b g l)(m:l.length+t.length≤1000000):
 As prog 137 #[Ae (some ⟨b,0,none⟩),AN #[V Ad k,Aa (str name),J A n c,J a nb d,J f h i],V Ad lv] w (Wr w b g (l++t)):=by
 have u:=D m;obtain⟨E,o,p,x⟩:=alw w (Ab #[V Ad k,Aa (str name),J A n c,J a nb d,J f h i] 227);have F:=JA x 0;have y:=D (j.ext p);clear j m;rcases s with⟨rfl,rfl⟩|⟨rfl,rfl⟩
 all_goals
  go_enter E6,EH;go_upto_region 1 with fail
  try rw [o]
  clear o;go_wp2_with fail;refine(Ns y u rfl).mono ?_
  rintro e wF ⟨⟨v,rfl⟩,z,q,r⟩;have B:=D q;have C:=D r;clear q r;go_wp2_with fail;go_end0;exact⟨rfl,z,B,(LW.ext p).trans C⟩
theorem yt3 {w:Y}{b:Nat}{g:Option Nat}{l:Bs}{lv:Nat}{name:Bs}{n:Option Bi}{nb o:Nat}{E:Option Bi}{F G:Nat}{H I L:Nat}{N:Bs}{O:Option Bi}{P Q:Nat}{k p c:Nat}{s:Bs}{a:Bs}(r:WW w b g l)(R:AA (∀j u,([V Ad H,V Ad I,V Af L,Aa (str N),J O P Q]:List h)[j]?= some u→w.cell? ⟨k,p+j,none⟩=some u))(h9:AA (¬BG b g k))(S:AA (∀W,Ext w W→As prog 181 #[AN #[V Ad H,V Ad I,V Af L,Aa (str N),J O P Q]] W (Mi W s)))(hu:name.length≤1000000)(hv:s.length≤1000000)(hw:lv≤50)(ha:AA (∀(W:Y)(t:Option Nat)(y:Bs),LW b g w t W→WW W b t y→y.length+a.length≤1000000→As prog 101 #[Ae (some ⟨b,0,none⟩),J n nb o,V Ad ((lv:Int)+1)] W (Wr W b t (y++a))))(T:l.length+([119,104,105,108,101,32,40]++(s++([41,32,123,10]++(a++(Ky lv++[125]))))).length≤1000000):
 As prog 137 #[Ae (some ⟨b,0,none⟩),AN #[V Ad 4,Aa (str name),J (some ⟨k,p,none⟩) 1 c,J n nb o,J E F G],V Ad lv] w (Wr w b g (l++([119,104,105,108,101,32,40]++(s++([41,32,123,10]++(a++(Ky lv++[125]))))))):=by
 simp only [M,Am,Av]at T;have hb:AA (l.length+(([119,104,105,108,101,32,40]:Bs)++(s++[41,32,123,10])).length≤1000000):=D (by simp only [M,Am,Av];omega);have hc:AA ((l++(([119,104,105,108,101,32,40]:Bs)++(s++[41,32,123,10]))).length+a.length≤1000000):=D (by simp only [M,Am,Av];omega);have hd:AA ((l++(([119,104,105,108,101,32,40]:Bs)++(s++[41,32,123,10]))++a).length+(Ky lv).length≤1000000):=D (by simp only [M,Am,Av];omega);have he:AA ((l++(([119,104,105,108,101,32,40]:Bs)++(s++[41,32,123,10]))++a++Ky lv).length+([125]:Bs).length≤1000000):=D (by simp only [M,Am,Av];omega);obtain⟨U,X,f,z⟩:=alw w (Ab #[V Ad 4,Aa (str name),J (some ⟨k,p,none⟩) 1 c,J n nb o,J E F G] 227);have Z:AA (¬BG b g w.heap.size):=D (fun q=>by have:=r.lt q;omega);have hx:=JA z 0;have hf:=JA z 2;have hg:=JA z 3;have hh:=D (fun j u A=>f.cell (R j u A));have hi:=D (r.ext f);have hy:=(Ext.refl U).drew;have hj:=D (fun W (x:Ext U W)=>S W (f.trans x));clear S R;have hz:Ad.wrap ((lv:Int)+1)=(lv:Int)+1:=AU _ (by omega);clear r T;go_enter E6,EH;go_upto_region 1 with fail
 try rw [X]
 clear X;go_upto_region 13 with fail;refine QT (BG b g) [] (fun d=>?_)
 iterate 4 refine JC d ?_
 refine JP d (fun w B=>JK.cell B hf Z) ?_
 refine JC d ?_
 refine Te d Ax Ki (fun w B j u A=>JK.cell B (hh.out j u A) h9.out) ?_
 refine JM (fun K i=>?_);go_simp
 with_reducible refine(hj.out _ (by assumption)).mono ?_
 rintro e x0 ⟨rfl,h0⟩;have C:=Ext.trans (by assumption) h0;clear h0;refine i.out _ _ ?_ (fun d=>?_)
 ·exact Gl C
 clear i K
 iterate 2 refine Mq d ?_
 refine JM (fun K i=>?_);go_simp;refine(Ns (s:=([119,104,105,108,101,32,40]:Bs)++(s++[41,32,123,10])) (hi.ext C) hb (show _=str (([119,104,105,108,101,32,40]:Bs)++(s++[41,32,123,10]))from(by first|rfl|((repeat rw [Lg]);first|rfl|simp)))).mono ?_
 rintro e wF ⟨⟨v,rfl⟩,hk,h1,h2⟩;have hl:=D h1;have m:=D ((LW.ext C).trans h2);clear h1 h2;refine i _ _ ?_ (fun d=>?_)
 ·exact m.upd
 clear i K;refine JV ?_
 have hm:=m.upd.cell hg Z;go_wp2_with fail;refine(ha wF hk _ ((LW.ext f).trans m) hl hc).mono ?_
 rintro e x1 ⟨rfl,x2,h3,h4⟩;have hn:=D h3;have ho:=D (m.trans h4);clear h3 h4 hm;go_wp2_with fail;refine(UY hn (by omega) hd).mono ?_
 rintro e x3 ⟨rfl,x4,h5,h6⟩;have hp:=D h5;have hq:=D (ho.trans h6);clear h5 h6;go_wp2_with fail;refine(Ns hp he (show _=str [125]from rfl)).mono ?_
 rintro e x5 ⟨⟨v,rfl⟩,hr,h7,h8⟩;have hs:=D h7;have ht:=D (hq.trans h8);clear h7 h8;go_wp2_with fail;go_end0;exact⟨rfl,hr,by simpa [AG]using hs.out,(LW.ext f).trans ht⟩
theorem zJ8 {w:Y}{b:Nat}{g:Option Nat}{l:Bs}{lv:Nat}{name:Bs}{t:Option Bi}{nb y:Nat}{z:Option Bi}{A B:Nat}{N O P:Nat}{Q:Bs}{R:Option Bi}{S T:Nat}{o C c:Nat}{s:Bs}{a m:Bs}(E:WW w b g l)(U:AA (∀j u,([V Ad N,V Ad O,V Af P,Aa (str Q),J R S T]:List h)[j]?= some u→w.cell? ⟨o,C+j,none⟩=some u))(hb:AA (¬BG b g o))(X:AA (∀W,Ext w W→As prog 181 #[AN #[V Ad N,V Ad O,V Af P,Aa (str Q),J R S T]] W (Mi W s)))(x3:name.length≤1000000)(x4:s.length≤1000000)(x5:lv≤50)(hc:AA (∀(W:Y)(d:Option Nat)(f:Bs),LW b g w d W→WW W b d f→f.length+a.length≤1000000→As prog 101 #[Ae (some ⟨b,0,none⟩),J t nb y,V Ad ((lv:Int)+1)] W (Wr W b d (f++a))))(hd:AA (∀(W:Y)(d:Option Nat)(f:Bs),LW b g w d W→WW W b d f→f.length+m.length≤1000000→As prog 182 #[Ae (some ⟨b,0,none⟩),J z A B,V Ad lv] W (Wr W b d (f++m))))(Z:l.length+([105,102,32,40]++(s++([41,32,123,10]++(a++(Ky lv++([125]++m)))))).length≤1000000):
 As prog 137 #[Ae (some ⟨b,0,none⟩),AN #[V Ad 3,Aa (str name),J (some ⟨o,C,none⟩) 1 c,J t nb y,J z A B],V Ad lv] w (Wr w b g (l++([105,102,32,40]++(s++([41,32,123,10]++(a++(Ky lv++([125]++m)))))))):=by
 simp only [M,Am,Av]at Z;have he:AA (l.length+(([105,102,32,40]:Bs)++(s++[41,32,123,10])).length≤1000000):=D (by simp only [M,Am,Av];omega);have hf:AA ((l++(([105,102,32,40]:Bs)++(s++[41,32,123,10]))).length+a.length≤1000000):=D (by simp only [M,Am,Av];omega);have hg:AA ((l++(([105,102,32,40]:Bs)++(s++[41,32,123,10]))++a).length+(Ky lv).length≤1000000):=D (by simp only [M,Am,Av];omega);have hh:AA ((l++(([105,102,32,40]:Bs)++(s++[41,32,123,10]))++a++Ky lv).length+([125]:Bs).length≤1000000):=D (by simp only [M,Am,Av];omega);have hi:AA ((l++(([105,102,32,40]:Bs)++(s++[41,32,123,10]))++a++Ky lv++[125]).length+m.length≤1000000):=D (by simp only [M,Am,Av];omega);obtain⟨h0,h1,k,p⟩:=alw w (Ab #[V Ad 3,Aa (str name),J (some ⟨o,C,none⟩) 1 c,J t nb y,J z A B] 227);have F:AA (¬BG b g w.heap.size):=D (fun q=>by have:=E.lt q;omega);have x6:=JA p 0;have hj:=JA p 2;have hk:=JA p 3;have hl:=JA p 4;have hm:=D (fun j u G=>k.cell (U j u G));have hn:=D (E.ext k);have x7:=(Ext.refl h0).drew;have ho:=D (fun W (x:Ext h0 W)=>X W (k.trans x));clear X U;have x8:Ad.wrap ((lv:Int)+1)=(lv:Int)+1:=AU _ (by omega);clear E Z;go_enter E6,EH;go_upto_region 1 with fail
 try rw [h1]
 clear h1;go_upto_region 7 with fail;refine QT (BG b g) [] (fun i=>?_)
 iterate 4 refine JC i ?_
 refine JP i (fun w H=>JK.cell H hj F) ?_
 refine JC i ?_
 refine Te i Ax Ki (fun w H j u G=>JK.cell H (hm.out j u G) hb.out) ?_
 refine JM (fun K n=>?_);go_simp
 with_reducible refine(ho.out _ (by assumption)).mono ?_
 rintro e x9 ⟨rfl,h2⟩;have I:=Ext.trans (by assumption) h2;clear h2;refine n.out _ _ ?_ (fun i=>?_)
 ·exact Gl I
 clear n K
 iterate 2 refine Mq i ?_
 refine JM (fun K n=>?_);go_simp;refine(Ns (s:=([105,102,32,40]:Bs)++(s++[41,32,123,10])) (hn.ext I) he (show _=str (([105,102,32,40]:Bs)++(s++[41,32,123,10]))from(by first|rfl|((repeat rw [Lg]);first|rfl|simp)))).mono ?_
 rintro e wF ⟨⟨v,rfl⟩,hp,h3,h4⟩;have hq:=D h3;have r:=D ((LW.ext I).trans h4);clear h3 h4;refine n _ _ ?_ (fun i=>?_)
 ·exact r.upd
 clear n K;refine JV ?_
 have hr:=r.upd.cell hk F;go_wp2_with fail;refine(hc wF hp _ ((LW.ext k).trans r) hq hf).mono ?_
 rintro e xa ⟨rfl,xb,h5,h6⟩;have hs:=D h5;have ht:=D (r.trans h6);clear h5 h6 hr;go_wp2_with fail;refine(UY hs (by omega) hg).mono ?_
 rintro e xc ⟨rfl,xd,h7,h8⟩;have hu:=D h7;have hv:=D (ht.trans h8);clear h7 h8;go_wp2_with fail;refine(Ns hu hh (show _=str [125]from rfl)).mono ?_
 rintro e hw ⟨⟨v,rfl⟩,hx,h9,ha⟩;have hy:=D h9;have L:=D (hv.trans ha);clear h9 ha;have xe:=L.upd.cell hl F;go_wp2_with fail;refine(hd hw hx _ ((LW.ext k).trans L) hy hi).mono ?_
 rintro e xf ⟨rfl,hz,x0,x1⟩;have x2:=D (L.trans x1);go_wp2_with fail;go_end0;exact⟨rfl,hz,by simpa [AG]using x0,(LW.ext k).trans x2⟩
def Y1 (els:List Sm)(lv:Nat):Bs:=match els with
 |[]=>[]
 |x::l=>if Az x.kind 3&&l.isEmpty then([32,101,108,115,101,32]:Bs)++Mv x lv else([32,101,108,115,101,32,123,10]:Bs)++(KR els (lv+1)++(Ky lv++[125]))
theorem zf {w:Y}{b:Nat}{g:Option Nat}{l:Bs}{lv:Nat}{c:Option Bi}{d:Nat}(a:WW w b g l):
 As prog 182 #[Ae (some ⟨b,0,none⟩),J c 0 d,V Ad lv] w (Wr w b g l):=by
 have e:=D a;clear a;go_enter IE,H9;go_wp2_with fail;go_end0;exact⟨rfl,g,e,LW.refl _ _ _⟩
theorem zR3 {w:Y}{b:Nat}{g:Option Nat}{l:Bs}{lv:Nat}{E f i:Nat}{nm:Bs}{A:Option Bi}{n c:Nat}{o:Option Bi}{nb p:Nat}{C:Option Bi}{q r:Nat}{t:Bs}(s:WW w b g l)
 (x:AA (∀j u,([V Ad 3,Aa (str nm),J A n c,J o nb p,J C q r]:List h)[j]?= some u→w.cell? ⟨f,i+j,none⟩=some u)) (F:AA (¬BG b g f))
 (G:AA (∀(W:Y) (d:Option Nat) (k:Bs),LW b g w d W→WW W b d k→k.length+t.length≤1000000→As prog 137 #[Ae (some ⟨b,0,none⟩),AN #[V Ad 3,Aa (str nm),J A n c,J o nb p,J C q r],V Ad lv] W (Wr W b d (k++t))))
 (y:l.length+(([32,101,108,115,101,32]:Bs)++t).length≤1000000):
 As prog 182 #[Ae (some ⟨b,0,none⟩),J (some ⟨f,i,none⟩) 1 E,V Ad lv] w (Wr w b g (l++(([32,101,108,115,101,32]:Bs)++t))):=by
 simp only [M,Am,Av]at y;have H:AA (l.length+([32,101,108,115,101,32]:Bs).length≤1000000):=D (by simp only [Am,Av];omega);have I:AA ((l++[32,101,108,115,101,32]).length+t.length≤1000000):=D (by simp only [M,Am,Av];omega);have K:=D s;have U:w.cell? ⟨f,i,none⟩=some (V Ad 3):=x 0 _ rfl;clear s y;go_enter IE,H9;go_wp2_with fail;refine(Ns K H (show _=str [32,101,108,115,101,32]from rfl)).mono ?_
 rintro e L ⟨⟨v,rfl⟩,d,z,m⟩;have N:=D z;have B:=D m;have O:=D (fun j u P=>m.upd.cell (x j u P) F);clear z m;go_wp2_with (refine KV rfl AV rfl O MH ?_);refine(G L d _ B N I).mono ?_
 rintro e X ⟨rfl,Q,R,S⟩;have T:=D (B.trans S);go_wp2_with fail;go_end0;exact⟨rfl,Q,by simpa [AG]using R,T⟩
theorem vB {w:Y}{b:Nat}{g:Option Nat}{l:Bs}{lv a H:Nat}{o:Option Bi}{t:Bs}(I:WW w b g l)(h4:lv≤50)(K:a≠0)
 (p:a=1→∃ q r k,o=some ⟨q,r,none⟩∧w.cell? ⟨q,r,none⟩=some (V Ad ((k:Nat):Int))∧k≠3)
 (L:AA (∀(W:Y) (c:Option Nat) (s:Bs),LW b g w c W→WW W b c s→s.length+t.length≤1000000→As prog 101 #[Ae (some ⟨b,0,none⟩),J o a H,V Ad ((lv:Int)+1)] W (Wr W b c (s++t))))
 (N:l.length+(([32,101,108,115,101,32,123,10]:Bs)++(t++(Ky lv++[125]))).length≤1000000):
 As prog 182 #[Ae (some ⟨b,0,none⟩),J o a H,V Ad lv] w (Wr w b g (l++(([32,101,108,115,101,32,123,10]:Bs)++(t++(Ky lv++[125]))))):=by
 simp only [M,Am,Av]at N;have O:AA (l.length+([32,101,108,115,101,32,123,10]:Bs).length≤1000000):=D (by simp only [Am,Av];omega);have P:AA ((l++[32,101,108,115,101,32,123,10]).length+t.length≤1000000):=D (by simp only [M,Am,Av];omega);have Q:AA ((l++[32,101,108,115,101,32,123,10]++t).length+(Ky lv).length≤1000000):=D (by simp only [M,Am,Av];omega);have R:AA ((l++[32,101,108,115,101,32,123,10]++t++Ky lv).length+([125]:Bs).length≤1000000):=D (by simp only [M,Am,Av];omega);have S:=D I;have h5:Ad.wrap ((lv:Int)+1)=(lv:Int)+1:=AU _ (by omega);have T:((a:Int)==0)=false:=by simp;omega
 clear I N;by_cases h1:a=1
 ·obtain⟨q,r,k,rfl,h6,U⟩:=p h1;subst h1;have h7:((k:Int)==3)=false:=by simp;omega
  clear p K T U;go_enter IE,H9;go_wp2_with fail;refine(Ns S O (show _=str [32,101,108,115,101,32,123,10]from rfl)).mono ?_
  rintro e u ⟨⟨v,rfl⟩,c,d,f⟩;have x:=D d;have h:=D f;clear d f;go_wp2_with fail;refine(L u c _ h x P).mono ?_
  rintro e X ⟨rfl,Z,i,j⟩;have y:=D i;have z:=D (h.trans j);clear i j;go_wp2_with fail;refine(UY y (by omega) Q).mono ?_
  rintro e h0 ⟨rfl,h2,m,n⟩;have A:=D m;have B:=D (z.trans n);clear m n;go_wp2_with fail;refine(Ns A R (show _=str [125]from rfl)).mono ?_
  rintro e h3 ⟨⟨v,rfl⟩,C,E,F⟩;have G:=D (B.trans F);go_wp2_with fail;go_end0;exact⟨rfl,C,by simpa [AG]using E,G⟩
 ·have h8:((a:Int)==1)=false:=by simp;omega
  clear p K h1;go_enter IE,H9;go_wp2_with fail;refine(Ns S O (show _=str [32,101,108,115,101,32,123,10]from rfl)).mono ?_
  rintro e u ⟨⟨v,rfl⟩,c,d,f⟩;have x:=D d;have h:=D f;clear d f;go_wp2_with fail;refine(L u c _ h x P).mono ?_
  rintro e X ⟨rfl,Z,i,j⟩;have y:=D i;have z:=D (h.trans j);clear i j;go_wp2_with fail;refine(UY y (by omega) Q).mono ?_
  rintro e h0 ⟨rfl,h2,m,n⟩;have A:=D m;have B:=D (z.trans n);clear m n;go_wp2_with fail;refine(Ns A R (show _=str [125]from rfl)).mono ?_
  rintro e h3 ⟨⟨v,rfl⟩,C,E,F⟩;have G:=D (B.trans F);go_wp2_with fail;go_end0;exact⟨rfl,C,by simpa [AG]using E,G⟩
def vC (x:Sm):Prop:=∀ (U:Nat→Prop)(lv n m a:Nat)(cs:List h)(w:Y)(b:Nat)(g:Option Nat)(p:Bs),Q5 U w x cs→WW w b g p→(∀k,U k→k<w.heap.size∧¬ BG b g k)→Qy x lv n=some m→Yd x=true→a≤lv→p.length+(Mv x a).length≤1000000→
 As prog 137 #[Ae (some ⟨b,0,none⟩),AN cs.toArray,V Ad a] w (Wr w b g (p++Mv x a))
def SsT (l:List Sm):Prop:=∀ (U:Nat→Prop)(lv n m a:Nat)(v:h)(w:Y)(b:Nat)(g:Option Nat)(p:Bs),Ju KS U w l v→WW w b g p→(∀k,U k→k<w.heap.size∧¬ BG b g k)→K5 l lv n=some m→O7 l=true→a≤lv→lv≤17→p.length+(KR l a).length≤1000000→
 As prog 101 #[Ae (some ⟨b,0,none⟩),v,V Ad a] w (Wr w b g (p++KR l a))
theorem dn (lv:Nat):∀ a b:List Sm,KR (a++b) lv=KR a lv++KR b lv
 |[],b=>by rw [KR];rfl
 |x::a,b=>by rw [BS,KR,KR,dn lv a b];simp [AG]
theorem kF {lv:Nat}:∀ {l:List Sm}{n m:Nat},K5 l lv n=some m→∀ {x:Sm},x∈l→∃ a b,Qy x lv a=some b
 |[],_,_,_,_,c=>by cases c
 |f::l,n,m,c,x,d=>by
  obtain⟨q,h1,e⟩:=Xm c;rcases AH.1 d with rfl|d
  ·exact⟨_,_,h1⟩
  ·exact kF e d
theorem pR:∀ {l:List Sm},O7 l=true→∀ {x:Sm},x∈l→Yd x=true
 |[],_,_,a=>by cases a
 |c::l,a,x,b=>by
  rw [O7,Ah]at a;rcases AH.1 b with rfl|b
  ·exact a.1
  ·exact pR a.2 b
theorem kG (l:List Sm)(IH:∀ x∈l,vC x):SsT l:=by
 intro U lv n m d v w b g p z h2 r hc h3 h4 hl hlen;obtain⟨A,c,rfl⟩:=JB z;have Q:l.length≤c∧c≤Bk:=by
  obtain⟨xi,hm,xs,h1,h5,hn,_⟩:=z;cases h1;exact⟨h5,hn⟩
 have ho:AA (∀(i:Nat) (x:Sm),l[i]?= some x→KR (l.take (i+1)) d=KR (l.take i) d++(Ky d++(Mv x d++[10]))):=D (fun i x f=>by
  rw [BB,f,dn]
  show _++KR [x] d=_
  rw [KR,KR])
 have hp:AA (∀i,(KR (l.take i) d).length≤(KR l d).length):=D (fun i=>by
  have:=dn d (l.take i) (l.drop i)
  rw [C6]at this
  rw [this,M]
  omega)
 have hq:=D z;have R:=D r;have hr:=D hlen;have hs:AA (∀(i:Nat) (x:Sm),l[i]?= some x→∀ (cs:List h) (W:Y) (o:Option Nat) (t:Bs),LW b g w o W→Q5 U W x cs→WW W b o t→t.length+(Mv x d).length≤1000000→
  As prog 137 #[Ae (some ⟨b,0,none⟩),AN cs.toArray,V Ad d] W (Wr W b o (t++Mv x d))):=D (fun i x f cs W o t h6 u ht hu=>by
  have S:x∈l:=AD f
  obtain⟨a,hv,hw⟩:=kF hc S
  exact IH x S U lv a hv d cs W b o t u ht (fun k j=>⟨Ar (r k j).1 h6.upd.size,h6.bg (r k j).1 (r k j).2⟩) hw (pR h3 S) h4 hu)
 obtain⟨L,B⟩:=JH l.length;have hx:=D B;rw [←B]at Q ⊢;have xj:L≤9223372036854775807:=by unfold Bk at Q;omega
 have h7:AA (WW w b g (p++KR (l.take 0) d)):=D (by rw [Hg,KR,BP];exact h2);have hy:AA (KR (l.take L) d=KR l d):=D (by rw [B,BN]);have xk:d≤50:=by omega
 clear z r hc h3 hlen B IH h2 Q h4 hl;go_enter func101,ntmps101;go_wp2;go_loopw [10] (fun s h8=>∃ i:Nat,s=V Ad i∧i≤L∧∃ h9,AA (WW h8 b h9 (p++KR (l.take i) d))∧AA (LW b g w h9 h8)) (fun s _=>L - (AX s).toNat)
 case atStart=>exact⟨0,rfl,by omega,g,h7,D (LW.refl _ _ _)⟩
 case round=>
  clear h7;obtain⟨i,rfl,xl,T,C,y⟩:=hrel;by_cases hz:i<L
  ·obtain⟨x,f⟩:∃ x,l[i]?= some x:=⟨l[i]'(by rw [←hx];exact hz),Al _⟩
   obtain⟨xm,xn,hm,cs,x0, -,u,ha⟩:=(hq.upd y.upd (fun k j=>(R k j).2) (fun _ q=>q)).elem f;obtain⟨E,F,sA,G,H,I,sm,K,N,O,P,rfl⟩:=Vw u;cases x0;have x1:=D ha;have hb:=D (ho i x f);have hd:=D (hp (i+1));rw [hb]at hd;have he:=D ((Ext.refl wr).alloc (Ab #[V Ad E,Aa (str F),J sA G H,J I sm K,J N O P] 227));have x2:=D (Aj wr (Ab #[V Ad E,Aa (str F),J sA G H,J I sm K,J N O P] 227));have x3:AA (¬BG b T wr.heap.size):=D (fun q=>by have:=C.lt q;omega);have x4:=D (hs i x f [V Ad E,Aa (str F),J sA G H,J I sm K,J N O P]);have x5:=D u;have x6:((p++KR (l.take i) d).length)+((Ky d).length+((Mv x d).length+1))≤1000000:=by
    have h1:=hd.out;have h5:=hr.out;simp only [M,Am,Av]at h1 ⊢;omega
   have x7:AA ((p++KR (l.take i) d).length+(Ky d).length≤1000000):=D (by omega);have x8:AA ((p++KR (l.take i) d++Ky d).length+(Mv x d).length≤1000000):=D (by rw [M];omega);have x9:AA ((p++KR (l.take i) d++Ky d++Mv x d).length+([10]:Bs).length≤1000000):=D (by rw [M,M];simp only [Am,Av];omega);clear ha u f x6;go_wp2_with (refine KV rfl AV rfl x1 MH ?_);refine(UY (C.ext he) (by omega) x7).mono ?_
   rintro e hf ⟨rfl,o,X,Z⟩;have xo:=D X;have h0:=D ((LW.ext (g:=T) he).trans Z);have xa:AA (hf.heap[wr.heap.size]?= some (Ab #[V Ad E,Aa (str F),J sA G H,J I sm K,J N O P] 227 (0,0))):=D (Z.upd.heap x2 x3);have xb:=D (x4 hf o _ (y.trans h0) (KS.upd x5 h0.upd (fun k j=>(y.bg (R k j).1 (R k j).2)) (fun _ q=>q)) X x8);clear X Z;go_wp2_with (refine LH rfl AV rfl xa MH ?_);refine xb.mono ?_
   rintro e xp ⟨rfl,xq,hg,hh⟩;have xc:=D hg;have xd:=D (h0.trans hh);clear hg hh;go_wp2_with fail;refine(Ns xc x9 (show _=str [10]from rfl)).mono ?_
   rintro e xe ⟨⟨v,rfl⟩,hi,hj,hk⟩;have xf:AA (WW xe b hi (p++KR (l.take (i+1)) d)):=D (by rw [hb];simpa [AG]using hj);have xg:=D (y.trans (xd.trans hk));clear hj hk;go_wp2_with fail;go_roundw
   case rel=>exact⟨i+1,by go_num,by omega,hi,xf,xg⟩
   case measure=>simp [AX];omega
  ·have xh:i=L:=by omega
   subst xh;rw [hy]at C;go_wp2_with fail;go_end0;exact⟨rfl,T,C,y⟩
theorem kH {x:Sm}{k:Nat}{name:Bs}{c:List Ex}{body els:List Sm}(b:x∈body∨x∈els):Aq x<Aq (Sm.mk k name c body els):=by
 have d:Aq (Sm.mk k name c body els)=1+Aq k+Aq name+Aq c+Aq body+Aq els:=by simp
 rcases b with b|b
 ·have:=BQ b;omega
 ·have:=BQ b;omega
theorem ya2 {U:Nat→Prop}{w:Y}{b:Nat}{g:Option Nat}{d:List Ex}{v:h}{lv n a:Nat}(y:Ju KE U w d v)(F:∀ k,U k→k<w.heap.size∧¬ BG b g k)(G:Mg w)(hc:L9 d lv n=some a)(H:Q8 d=true){i:Nat}{x:Ex}(z:d[i]?= some x)(I:(Kt x).length≤1000000):
 ∃(t o c:Nat) (f l m:Nat) (p:Bs) (q:Option Bi) (r s:Nat),v=J (some ⟨t,o,none⟩) d.length c∧¬ BG b g t∧(∀j u,([V Ad f,V Ad l,V Af m,Aa (str p),J q r s]:List h)[j]?= some u→w.cell? ⟨t,o+i*5+j,none⟩=some u)∧
  ∀W,Ext w W→As prog 181 #[AN #[V Ad f,V Ad l,V Af m,Aa (str p),J q r s]] W (Mi W (Kt x)):=by
 obtain⟨B,o,c,cs,h1, -,C,K⟩:=y.elem z;obtain⟨f,l,m,p,q,r,s,rfl⟩:=Nq C;have D:x∈d:=AD z;obtain⟨N,O,L⟩:=Wi hc D;refine⟨B,o,c,f,l,m,p,q,r,s,h1,?_,K,fun W e=>zJ3 x U _ _ _ _ W (S9 C e) (G.ext e) L (Ye H D) I⟩;obtain⟨A,P,xs,E,_,_,_,M,_⟩:=y;rw [h1]at E;cases E;exact(F B (M.low _ rfl)).2
theorem nY {k:Nat}{name:Bs}{b nb c:Nat}(d:FSs k name b nb c):(Mt name=true∧(k=1∨k=2∨k=5))∨¬ (k=1∨k=2∨k=5):=by
 by_cases a:k=1∨k=2∨k=5
 ·left;have:=d.nm;rw [if_pos a]at this;exact⟨this,a⟩
 ·exact AB a
theorem zg (a:Sm)(b:List Sm)(lv:Nat):jN (a::b) lv=Mv a lv:=by rw [jN.eq_def]
theorem Zd (a:Sm)(b:List Sm)(lv:Nat):Y1 (a::b) lv=if(Az a.kind 3&&b.isEmpty)=true then([32,101,108,115,101,32]:Bs)++Mv a lv else([32,101,108,115,101,32,123,10]:Bs)++(KR (a::b) (lv+1)++(Ky lv++[125])):=rfl
theorem TR (k:Nat)(name:Bs)(a:List Ex)(body els:List Sm)(lv:Nat):Mv (.mk k name a body els) lv=
 if k=1 then name++32::61::32::(OO a 0++[59])
 else if k=2 then name++91::(OO a 0++93::32::61::32::(OO a 1++[59]))
 else if k=3 then([105,102,32,40]:Bs)++(OO a 0++(([41,32,123,10]:Bs)++(KR body (lv+1)++(Ky lv++(([125]:Bs)++Y1 els lv)))))
 else if k=4 then 119::104::105::108::101::32::40::(OO a 0++41::32::123::10::(KR body (lv+1)++(Ky lv++[125])))
 else if k=5 then name++40::(Jy (a.map Kt)++[41,59])
 else if k=6 then 114::101::116::117::114::110::32::(OO a 0++[59])
 else if k=7 then 112::117::116::32::(OO a 0++[59])
 else if k=8 then 115::116::111::112::32::(OO a 0++[59])
 else if k=9 then [98,114,101,97,107,59]
 else if k=10 then [99,111,110,116,105,110,117,101,59]
 else []:=by
 rw [Mv.eq_def];cases els with
 |nil=>rfl
 |cons b c=>
  simp only [Zd,zg]
theorem V6 (x:Ex):OO [x] 0=Kt x:=rfl
theorem vE (x a:Ex):OO [x,a] 0=Kt x∧OO [x,a] 1=Kt a:=⟨rfl,rfl⟩
theorem zJ9 {U:Nat→Prop}{w W:Y}{b:Nat}{g d:Option Nat}(a:∀ k,U k→k<w.heap.size∧¬ BG b g k)(e:LW b g w d W):∀ k,U k→k<W.heap.size∧¬ BG b d k:=fun k c=>⟨Ar (a k c).1 e.upd.size,e.bg (a k c).1 (a k c).2⟩
theorem Ju.bg {α:Type}{K:Kind α}{U:Nat→Prop}{w W:Y}{b:Nat}{g a:Option Nat}{l:List α}{v:h}(c:Ju K U w l v)(d:∀ k,U k→k<w.heap.size∧¬ BG b g k)(e:LW b g w a W):Ju K U W l v:=c.upd e.upd (fun k f=>(d k f).2) (fun _ q=>q)
theorem z5 {P:Nat→h→Prop}{o:Nat}{w:Y}{a:Nat}{l:List h}(b:∀ j u,l[j]?= some u→w.cell? ⟨a,o+0*5+j,none⟩=some u):∀ j u,l[j]?= some u→w.cell? ⟨a,o+j,none⟩=some u:=fun j u c=>by
 have:=b j u c;rw [FG,Dp]at this;exact this
theorem rT {body:List Sm}(IH:∀ x∈body,vC x){U:Nat→Prop}{w:Y}{b:Nat}{g:Option Nat}{e:h}{lv n m a:Nat}(j:Ju KS U w body e)(f:∀ k,U k→k<w.heap.size∧¬ BG b g k)(hc:K5 body (lv+1) n=some m)(l:O7 body=true)(q:a≤lv)(r:lv≤16):
 ∀(W:Y) (c:Option Nat) (d:Bs),LW b g w c W→WW W b c d→d.length+(KR body (a+1)).length≤1000000→As prog 101 #[Ae (some ⟨b,0,none⟩),e,V Ad ((a:Int)+1)] W (Wr W b c (d++KR body (a+1))):=fun W c d i o p=>
 kG body IH U (lv+1) n m (a+1) e W b c d (j.bg f i) o (zJ9 f i) hc l (by omega) (by omega) p
theorem vH {els:List Sm}(IH:∀ x∈els,vC x){U:Nat→Prop}{w:Y}{b:Nat}{g:Option Nat}{E:h}{lv n m a:Nat}{p:Bs}(j:Ju KS U w els E)(l:∀ k,U k→k<w.heap.size∧¬ BG b g k)(s:WW w b g p)(hc:K5 els (lv+1) n=some m)(t:O7 els=true)(H:a≤lv)(I:lv≤16)
 (o:p.length+(Y1 els a).length≤1000000):As prog 182 #[Ae (some ⟨b,0,none⟩),E,V Ad a] w (Wr w b g (p++Y1 els a)):=by
 cases els with
 |nil=>
  obtain⟨A,c,rfl⟩:=JB j;rw [show Y1 [] a=[]from rfl,BP];exact zf s
 |cons x d=>
  obtain⟨u,K,h2,cs,rfl, -,v,L⟩:=j.elem (i:=0) (x:=x) rfl;obtain⟨y,h3,sA,h4,h5,h6,sm,h7,h8,h9,ha,rfl⟩:=Vw v;have M:¬ BG b g u:=by
   obtain⟨A,hb,xs,N,_,_,_,O,_⟩:=j;cases N;exact(l u (O.low _ rfl)).2
  have B:x.kind=y:=by
   obtain⟨Q,hd,he,hf,hg⟩:=x;have:=v;rw [show KS.rep=Q5 from rfl,Qk]at this;obtain⟨hh,hi,hj,h1,_⟩:=this;simp only [Fg,IW,true_and]at h1;show Q=y
   have:=h1.1;omega
  have F:=z5 (P:=fun _ _=>True) L;by_cases r:(Az x.kind 3&&d.isEmpty)=true
  ·rw [Ah]at r;obtain⟨e,f⟩:=r;have e:=Ap e;have f:d=[]:=by simpa using f
   subst f;rw [B]at e;subst e;have C:Y1 [x] a=([32,101,108,115,101,32]:Bs)++Mv x a:=by
    rw [Zd,if_pos (by rw [B];rfl)]
   rw [C]at o ⊢;obtain⟨q,R,_⟩:=Xm hc;rw [O7,Ah]at t;exact zR3 s (D F) (D M) (D (fun W S T G X Z=>IH x (by simp) U (lv+1) n q a _ W b S T (KS.upd v G.upd (fun k h0=>(l k h0).2) (fun _ q=>q)) X (zJ9 l G) R t.1 (by omega) Z)) o
  ·have C:Y1 (x::d) a=([32,101,108,115,101,32,123,10]:Bs)++(KR (x::d) (a+1)++(Ky a++[125])):=by
    rw [Zd,if_neg r]
   rw [C]at o ⊢;refine vB s (by omega) (by simp) (fun h1=>⟨u,K,y,rfl,F 0 _ rfl,fun e=>r ?_⟩) (D (rT IH j l hc t H I)) o;have f:d=[]:=by
    cases d with
    |nil=>rfl
    |cons hk z=>simp at h1
   subst f;rw [B,e];rfl
theorem zh5 (x:Sm)(IH:∀ y,Aq y<Aq x→vC y):vC x:=by
 intro U lv n m f cs w b g p hk z R hc h7 h3 hlen;obtain⟨k,name,q,body,els⟩:=x;have h8:=hk;rw [Qk]at h8;obtain⟨hl,x0,hm,rfl,S,h4,h9⟩:=h8;obtain⟨h5,x1,hn,a,x2,ha,hb,ho⟩:=fw hc;have T:=aS hn;have x3:=T.k1;have x4:=T.k10;rw [Yd,Ah,Ah]at h7;obtain⟨⟨hd,he⟩,hp⟩:=h7;have hf:∀ y∈body,vC y:=fun y hy=>IH y (kH (AO hy))
 have hq:∀ y∈els,vC y:=fun y hy=>IH y (kH (AB hy))
 have F:=fun(i:Nat) (y:Ex) (hy:q[i]?= some y) hr=>ya2 S R z.tab ha hd hy hr
 obtain⟨x5,x6,B⟩:=JB h4;obtain⟨x7,x8,C⟩:=JB h9;have x9:name.length≤12∨¬ (k=1∨k=2∨k=5):=by
  rcases nY T with X|X
  ·exact AO (aY X.1)
  ·exact AB X
 have hg:f≤50:=by omega
 have l:=T.ex;have Z:¬ (k=1∨k=2∨k=5)→name=[]:=fun X=>by
  have:=T.nm;rw [if_neg X]at this;exact CL.1 this
 rcases(show k=1∨k=2∨k=3∨k=4∨k=5∨k=6∨k=7∨k=8∨k=9∨k=10 by omega)with rfl|rfl|rfl|rfl|rfl|rfl|rfl|rfl|rfl|rfl
 ·have r:q.length=1:=by rw [if_neg (by omega),if_neg (by omega),if_neg (by omega)]at l;exact Ap l
  obtain⟨d,rfl⟩:=Ro r;have h:Mv (.mk 1 name [d] body els) f=name++([32,61,32]++(Kt d++[59])):=by rw [TR,if_pos rfl,V6];rfl
  rw [h]at hlen ⊢;simp only [M,Am,Av]at hlen;obtain⟨G,o,c,H,I,K,L,N,O,Q,rfl,s,t,v⟩:=F 0 d rfl (by omega);subst B C;exact zJ5 z (D (z5 (P:=fun _ _=>True) t)) (D s) (D v) (by omega) (by omega) (by simp only [M,Am,Av];omega)
 ·have r:q.length=2:=by rw [if_pos rfl]at l;exact Ap l
  obtain⟨d,h0,rfl⟩:=pK r;have h:Mv (.mk 2 name [d,h0] body els) f=name++([91]++(Kt d++([93,32,61,32]++(Kt h0++[59])))):=by rw [TR,if_neg (by omega),if_pos rfl,(vE d h0).1,(vE d h0).2];rfl
  rw [h]at hlen ⊢;simp only [M,Am,Av]at hlen;obtain⟨G,o,c,H,I,K,L,N,O,Q,hh,s,t,v⟩:=F 0 d rfl (by omega);obtain⟨xa,xb,xc,xd,xe,fn,xf,xg,xh,xi,hi,xj,hs,ht⟩:=F 1 h0 rfl (by omega);rw [hh]at hi;cases hi;subst hh B C;exact pQ z (D (z5 (P:=fun _ _=>True) t)) (D s) (D v) (D (fun j u hu=>hs j u hu)) (D ht) (by omega) (by omega) (by omega) (by simp only [M,Am,Av];omega)
 ·have r:q.length=1:=by rw [if_neg (by omega),if_neg (by omega),if_neg (by omega)]at l;exact Ap l
  obtain⟨d,rfl⟩:=Ro r;have h:Mv (.mk 3 name [d] body els) f=[105,102,32,40]++(Kt d++([41,32,123,10]++(KR body (f+1)++(Ky f++([125]++Y1 els f))))):=by
   rw [TR,if_neg (by omega),if_neg (by omega),if_pos rfl,V6]
  rw [h]at hlen ⊢;simp only [M,Am,Av]at hlen;obtain⟨G,o,c,H,I,K,L,N,O,Q,rfl,s,t,v⟩:=F 0 d rfl (by omega);have h6:=rT hf h4 R hb he h3 h5;have hv:∀ (W:Y) (h1:Option Nat) (h2:Bs),LW b g w h1 W→WW W b h1 h2→h2.length+(Y1 els f).length≤1000000→As prog 182 #[Ae (some ⟨b,0,none⟩),hm,V Ad f] W (Wr W b h1 (h2++Y1 els f)):=fun W h1 h2 hj hw hx=>vH hq (h9.bg R hj) (zJ9 R hj) hw ho hp h3 h5 hx
  have E:=Z (by omega);subst B C E;exact zJ8 z (D (z5 (P:=fun _ _=>True) t)) (D s) (D v) (by simp) (by omega) hg (D h6) (D hv) (by simp only [M,Am,Av];omega)
 ·have r:q.length=1:=by rw [if_neg (by omega),if_neg (by omega),if_neg (by omega)]at l;exact Ap l
  obtain⟨d,rfl⟩:=Ro r;have h:Mv (.mk 4 name [d] body els) f=[119,104,105,108,101,32,40]++(Kt d++([41,32,123,10]++(KR body (f+1)++(Ky f++[125])))):=by
   rw [TR,if_neg (by omega),if_neg (by omega),if_neg (by omega),if_pos rfl,V6];rfl
  rw [h]at hlen ⊢;simp only [M,Am,Av]at hlen;obtain⟨G,o,c,H,I,K,L,N,O,Q,rfl,s,t,v⟩:=F 0 d rfl (by omega);have h6:=rT hf h4 R hb he h3 h5;have E:=Z (by omega);subst B C E;exact yt3 z (D (z5 (P:=fun _ _=>True) t)) (D s) (D v) (by simp) (by omega) hg (D h6) (by simp only [M,Am,Av];omega)
 ·have r:q.length≤6:=by rw [if_neg (by omega),if_pos rfl]at l;exact Ai l
  have h:Mv (.mk 5 name q body els) f=name++([40]++(Jy (NC q)++[41,59])):=by
   rw [TR,if_neg (by omega),if_neg (by omega),if_neg (by omega),if_neg (by omega),if_pos rfl,QC];rfl
  rw [h]at hlen ⊢;simp only [M,Am,Av]at hlen;have hz:=fun(W:Y) (e:Ext w W)=>rQ q U _ _ _ hl W (S.ext e) (z.tab.ext e) ha hd (by omega) (by omega)
  obtain⟨A,c,rfl⟩:=JB S;subst B C;exact zJ6 z (D hz) (by omega) (by omega) (by simp only [M,Am,Av];omega)
 ·have r:q.length=1:=by rw [if_neg (by omega),if_neg (by omega),if_neg (by omega)]at l;exact Ap l
  obtain⟨d,rfl⟩:=Ro r;have h:Mv (.mk 6 name [d] body els) f=[114,101,116,117,114,110,32]++(Kt d++[59]):=by
   rw [TR,if_neg (by omega),if_neg (by omega),if_neg (by omega),if_neg (by omega),if_neg (by omega),if_pos rfl,V6];rfl
  rw [h]at hlen ⊢;simp only [M,Am,Av]at hlen;obtain⟨G,o,c,H,I,K,L,N,O,Q,rfl,s,t,v⟩:=F 0 d rfl (by omega);have E:=Z (by omega);subst B C E;exact rR (AO ⟨rfl,rfl⟩) z (D (z5 (P:=fun _ _=>True) t)) (D s) (D v) (by simp) (by omega) (by simp only [M,Am,Av];omega)
 ·have r:q.length=1:=by rw [if_neg (by omega),if_neg (by omega),if_neg (by omega)]at l;exact Ap l
  obtain⟨d,rfl⟩:=Ro r;have h:Mv (.mk 7 name [d] body els) f=[112,117,116,32]++(Kt d++[59]):=by
   rw [TR,if_neg (by omega),if_neg (by omega),if_neg (by omega),if_neg (by omega),if_neg (by omega),if_neg (by omega),if_pos rfl,V6];rfl
  rw [h]at hlen ⊢;simp only [M,Am,Av]at hlen;obtain⟨G,o,c,H,I,K,L,N,O,Q,rfl,s,t,v⟩:=F 0 d rfl (by omega);have E:=Z (by omega);subst B C E;exact rR (AB (AO ⟨rfl,rfl⟩)) z (D (z5 (P:=fun _ _=>True) t)) (D s) (D v) (by simp) (by omega) (by simp only [M,Am,Av];omega)
 ·have r:q.length=1:=by rw [if_neg (by omega),if_neg (by omega),if_neg (by omega)]at l;exact Ap l
  obtain⟨d,rfl⟩:=Ro r;have h:Mv (.mk 8 name [d] body els) f=[115,116,111,112,32]++(Kt d++[59]):=by
   rw [TR,if_neg (by omega),if_neg (by omega),if_neg (by omega),if_neg (by omega),if_neg (by omega),if_neg (by omega),if_neg (by omega),if_pos rfl,V6];rfl
  rw [h]at hlen ⊢;simp only [M,Am,Av]at hlen;obtain⟨G,o,c,H,I,K,L,N,O,Q,rfl,s,t,v⟩:=F 0 d rfl (by omega);have E:=Z (by omega);subst B C E;exact rR (AB (AB ⟨rfl,rfl⟩)) z (D (z5 (P:=fun _ _=>True) t)) (D s) (D v) (by simp) (by omega) (by simp only [M,Am,Av];omega)
 ·have h:Mv (.mk 9 name q body els) f=[98,114,101,97,107,59]:=by
   rw [TR,if_neg (by omega),if_neg (by omega),if_neg (by omega),if_neg (by omega),if_neg (by omega),if_neg (by omega),if_neg (by omega),if_neg (by omega),if_pos rfl]
  rw [h]at hlen ⊢;obtain⟨A,c,rfl⟩:=JB S;subst B C;exact zJ7 (AO ⟨rfl,rfl⟩) z hlen
 ·have h:Mv (.mk 10 name q body els) f=[99,111,110,116,105,110,117,101,59]:=by
   rw [TR,if_neg (by omega),if_neg (by omega),if_neg (by omega),if_neg (by omega),if_neg (by omega),if_neg (by omega),if_neg (by omega),if_neg (by omega),if_neg (by omega),if_pos rfl]
  rw [h]at hlen ⊢;obtain⟨A,c,rfl⟩:=JB S;subst B C;exact zJ7 (AB ⟨rfl,rfl⟩) z hlen
theorem yC8 (x:Sm):vC x:=by
 obtain⟨n,c⟩:=JH (Aq x)
 induction n using D1 generalizing x with
 |_ n b=>exact zh5 x (fun a d=>b (Aq a) (by omega) a rfl)
theorem vJ (l:List Sm):SsT l:=kG l (fun x _=>yC8 x)
theorem zh (l:List Nat)(U:Nat→Prop)(v:h)(w:Y)(g:Ju KU U w l v)(I:Mg w)(K:∀ x∈l,x<4294967296)(hc:l.length≤1000)(hlen:(Jy (l.map KN)).length≤1000000):
 As prog 99 #[v] w (Mi w (Jy (l.map KN))):=by
 obtain⟨A,c,rfl⟩:=JB g;have hd:l.length≤c∧c≤Bk:=by
  obtain⟨x4,he,xs,h1,hf,hg,_⟩:=g;cases h1;exact⟨hf,hg⟩
 have hh:=D g;have hi:=D hlen;have M:=D (fun(W:Y) (N:Option Bi) (k:Nat) (hj:Ol W N (Jw (l.map KN))) (hk:l.length≤k)=>jF (l:=l.map KN) (A:=N) (c:=k) (w:=W) hj (by rw [AI];exact hk) (by rw [AI];omega) hlen);have hl:AA (∀(i:Nat) (x:Nat),l[i]?= some x→∀ (W:Y),Ext w W→As prog 98 #[V Af x] W (Mi W (KN x))):=D (fun i x a W e=>Za x W (K x (AD a)) (I.ext e));have f:AA ((l.map KN).length=l.length):=D (by rw [AI]);have O:AA (∀(i:Nat) (x:Nat),l[i]?= some x→(l.map KN).take (i+1)=(l.map KN).take i++[KN x]):=D (fun i x a=>by
  rw [←EG,←EG,BB,a,Dv];rfl)
 obtain⟨hm,r,Q,R,S⟩:=info_parts R6;have hn:=D r;have ho:=D Q;have hp:=D R;have hq:=D S;obtain⟨P,T⟩:=JH (l.map KN);rw [←T]at hi M f O ⊢;obtain⟨L,y⟩:=JH l.length;have X:=D y;rw [←y]at f hc hd ⊢;have x5:L≤9223372036854775807:=by omega
 clear r Q R S g I K hlen T y;go_enter func99,ntmps99;go_wp2;go_loopw [3,8] (fun z B hr=>∃ i:Nat,B=V Ad i∧i≤L∧PU w hr (P.take i) z) (fun _ B _=>L - (AX B).toNat)
 case atStart=>exact⟨0,rfl,by omega,⟨CQ _ _ _ _,Ext.refl _⟩⟩
 case round=>
  obtain⟨i,rfl,r,j⟩:=hrel;have n:=D j;have x6:=j.x.size;have C:(P.take i).length=i:=by rw [BD,f];omega
  have Z:=D C;have E:=j.own;rw [C]at E;obtain⟨p,F,rfl,hs,x7, -,h0⟩:=NQ E;have ht:=D h0;clear j h0 C E;by_cases hu:i<L
  ·obtain⟨x,a⟩:∃ x,l[i]?= some x:=⟨l[i]'(by rw [←X];exact hu),Al _⟩
   obtain⟨b,o,he,cs,hv, -,h2,h3⟩:=(hh.ext n.x).elem a;have hw:cs=[V Af x]:=h2;subst hw;cases hv;have x8:wr.cell? ⟨b,o+i,none⟩=some (V Af x):=by have:=h3 0 _ rfl;rw [show KU.size=1 from rfl,Ht,Dp]at this;exact this
   have h4:=D (hl i x a wr n.x);have h5:=D (O i x a);obtain⟨s,h6⟩:=JH (KN x);rw [←h6]at h5 h4;clear h3 h2 h6 a;go_wp2_with fail;refine h4.mono ?_
   rintro e d ⟨rfl,q⟩;have G:AA (PU w (d.alloc (Ab #[Aa (str s)] 9)) (P.take i) (J p i F)):=D ((n.ext q).ext ((Ext.refl d).alloc _));have hx:=D (aX (w:=d) (t:=9) (Aa (str s)));have h7:w.heap.size≤(d.alloc (Ab #[Aa (str s)] 9)).heap.size:=G.x.size;have hy:=D h7;have hz:AA ((d.alloc (Ab #[Aa (str s)] 9)).ownsRow w.heap.size 9 1 (J p i F) i (Jw (P.take i))):=D (by have:=G.own;rw [Z]at this;exact this);clear q h7;go_wp2_with (at_builtin;refine Lp rfl _ _ 34 rfl w.heap.size 9 hm (Aa ⟨#[]⟩) 1 16 Bu hn ho hp hq rfl (by decide) _ i (Jw (P.take i)) rfl hz (some ⟨d.heap.size,0,none⟩) 1 1 [Aa (str s)] rfl hx rfl (by intro u h8;simp only [AH,Ba,or_false]at h8;subst h8;rfl) (by unfold Bk;omega) (by omega) hy ?_;intro z x0 H h9 x1;have x2:AA (PU w x0 (P.take (i+1)) z):=D (by rw [h5];exact G.pF (m:=[s]) (by rw [Z];exact H) h9);obtain⟨x9,xa,rfl,_,_,_,_⟩:=NQ H;clear H h9 x1);go_roundw
   case rel=>exact⟨i+1,by go_num,by omega,x2⟩
   case measure=>simp [AX];omega
  ·have x3:i=L:=by omega
   subst x3;have ha:Ol wr p (Jw P):=by
    have:=ht.out;rw [DN (by rw [f];omega)]at this;exact this
   have hb:=D (M wr p F ha (by rw [←X];exact hs));rw [f]at hb;clear ha;go_wp2_with fail;refine hb.mono ?_
   rintro e d ⟨rfl,q⟩;go_wp2_with fail;go_ret;exact⟨rfl,n.x.trans q⟩
theorem V7 {w:Y}{b:Nat}{g:Option Nat}{l s:Bs}(a:WW w b g l)(c:l.length+(J9 0 s).length≤1000000){S:ByteArray}(d:S=str s):
 As prog 97 #[Ae (some ⟨b,0,none⟩),V Ad 0,Aa S] w (Wr w b g (l++J9 0 s)):=by
 subst d;exact zJ4 (lv:=0) a (by omega) c
theorem zh8 {w:Y}{b:Nat}{g:Option Nat}{l s:Bs}(a:WW w b g l)(c:l.length+(J9 1 s).length≤1000000){S:ByteArray}(d:S=str s):
 As prog 97 #[Ae (some ⟨b,0,none⟩),V Ad 1,Aa S] w (Wr w b g (l++J9 1 s)):=by
 subst d;exact zJ4 (lv:=1) a (by omega) c
end Go.Proofs.YtmkomefmgcpnbaaGreatDoor

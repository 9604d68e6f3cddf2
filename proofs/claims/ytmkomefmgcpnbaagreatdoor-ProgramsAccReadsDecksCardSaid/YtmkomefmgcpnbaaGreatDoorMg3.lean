import Derived.Test.YtmkomefmgcpnbaaGreatDoorMg2
import Derived.Deep.LoopGhost
import Derived.Deep.MidRow
set_option linter.all false
set_option maxHeartbeats 12800000
set_option maxRecDepth 100000
namespace Go.Proofs.YtmkomefmgcpnbaaGreatDoor
open Tryz Pg Go Go.Proofs Go.RowKit
open _root_.Array renaming getElem?_eq_some_iff→Ag,getElem?_eq_getElem→Bc,getElem?_toList→CP,all_eq_true_iff_forall_mem→FH
open _root_.Bool renaming and_eq_true→Ah,eq_iff_iff→Bl
open Go renaming Addr→Bi,Calls→As,Ending→BX,Value→h,World→Y,heap_alloc_new→Aj,callFunc→GS,maxLen→Bk,TypeId→AK,Act→CY,Exit→EY,Operand→CC,Oper→B5,Program→BR,undef→Ca,yielded→BW,heap_alloc2_new→Ay,heap_alloc2_old→AP
open Go.Act renaming put→Au
open Go.Ending renaming returned→Ak
open Go.IntKind renaming i64→Ad,u32→Af
open Go.Lib renaming hid→D,idxOfS→Iz
open Go.Obj renaming cells→Ab
open Go.Value renaming int→V,pointer→Ae,string→Aa,tuple→AZ,bool→AE,slice→J,func→ER,agg→AN,oneCell'→CT
open _root_.List renaming drop_drop→ET,drop→Jn,length_drop→Cr,drop_eq_getElem_cons→AR,drop_eq_nil_of_le→DM,getElem?_eq_getElem→Al,getElem?_eq_some_iff→Ao,getD_eq_getElem?_getD→B0,getElem?_drop→Fq,length_map→AI,append_assoc→AG,getElem?_append_left→Ce,getElem?_append_right→Cs,length_append→M,length_cons→Am,mem_append→Fi,mem_cons→AH,not_mem_nil→Ba,getElem?_eq_none→C5,getElem?_take→Dc,size_toArray→Bz
open _root_.Nat renaming add_assoc→H8,lt_or_ge→Dg,eq_of_beq_eq_true→Ap,zero_add→BF,add_comm→IA,le_refl→Aw,succ_mul→FD,zero_mul→FG,lt_of_lt_of_le→Ar,sub_self→GJ
open _root_.Or renaming inr→AB,inl→AO
open _root_.UInt8 renaming toNat_lt→Fw
open Go.Proofs renaming intOf→AX,enters_of→F8
open Go.RowKit renaming Hid→AA
open _root_.Option.some renaming inj→DJ
open Go.Addr renaming add→Fa
open Go.Next renaming enter→I8
open Go.Result renaming ok→Ez
open Go.Oper renaming wp→Cb
open Go.Region renaming wanted→AQ
open Go.Instr renaming build→D8
open Go.Proofs.Tryz renaming func223→E4,ntmps223→EE,results223→D0,underlying287→Ax
theorem uH:Pq true=fun c=>K4 c||OC c:=by funext c;simp [Pq]
theorem aC:Pq false=K4:=by funext c;simp [Pq]
theorem z19 (S:ByteArray)(at_:Nat)(w:Y)(e:at_≤S.size)(d:S.size≤100000)(f:Mg w)(t:Tk)(n:Nat)(a:Vk ((bs S).drop at_) at_=some (t,n)):
 As prog 47 #[Aa S,V Ad at_] w (ZO w t (at_+n)):=by
 obtain⟨L,b⟩:=JH ((bs S).drop at_);rw [←b]at a;unfold Vk at a;split at a
 ·cases a;have j:at_=S.size:=by
   rcases Dg at_ S.size with q|q
   ·rw [jP q]at b;cases b
   ·omega
  exact zO6 S at_ w j d
 ·rename_i c g;split at a
  ·rename_i hc;rw [←uH]at a;dsimp only at a;split at a
   ·rename_i k;cases a;exact yh S at_ w e d f c g b.symm hc _ rfl k
   ·cases a
  ·rename_i hc;split at a
   ·rename_i h;rw [←aC]at a;dsimp only at a;split at a
    ·rename_i v l;cases a;exact zO8 S at_ w e d f c g b.symm h _ rfl v l
    ·cases a
   ·rename_i h;split at a
    ·rename_i i;subst i;split at a
     ·rename_i x s m;split at a
      ·rename_i o;obtain⟨rfl,p,q2,q3,q4⟩:=o;cases a;exact uD S at_ w e d x m b.symm p q2 q3 q4
      ·cases a
     ·cases a
    ·rename_i i;split at a
     ·rename_i x r;cases a;exact yu S at_ w e d f c g b.symm (by simpa using hc) (by simpa using h) i x r
     ·cases a
theorem zP0 {l:Bs}{p:Nat}{t:Tk}{n:Nat}(d:Vk l p=some (t,n)):n≤l.length∧t.pos=p∧t.num<4294967296:=by
 unfold Vk at d;split at d
 ·cases d;exact⟨by simp,rfl,by simp⟩
 ·rename_i c g;split at d
  ·dsimp only at d;split at d
   ·cases d;exact⟨XX _ _,rfl,by simp⟩
   ·cases d
  ·split at d
   ·rename_i o;rw [←aC]at d;dsimp only at d;split at d
    ·rename_i v h;cases d;refine⟨XX _ _,rfl,?_⟩;exact(XY h (fun x e=>by have:=dN (Pq false) (c::g) x e;unfold Pq at this;simpa using this)).1
    ·cases d
   ·split at d
    ·split at d
     ·split at d
      ·rename_i x i q r;cases d;exact⟨by simp,rfl,by have:=Fw x;show x.toNat<_;omega⟩
      ·cases d
     ·cases d
    ·split at d
     ·rename_i x e;cases d;have j:=List.find?_some e;have k:∀ (a b:Bs),OW a b=true→a.length≤b.length:=by
       intro a
       induction a with
       |nil=>intro b _;simp
       |cons i a m=>
        intro b f;cases b with
        |nil=>simp [OW]at f
        |cons z b=>
         rw [OW,Ah]at f;have:=m b f.2
         simp;omega
      exact⟨k _ _ j,rfl,by simp⟩
     ·cases d
abbrev PX (g:Nat):Y→Y→Prop:=JK (fun k=>k=g)
def zI3 (w:Y)(g:Nat)(S:ByteArray)(q:PS)(e:BX)(w':Y):Prop:=e=Ak (AZ #[])∧jQ w' g S q∧PX g w w'
theorem zb4 {w a:Y}{g:Nat}{S:ByteArray}{p:PS}{t:Tk}{k n:Nat}(c:Ext w a)(d:a.heap[g]?= some (Ab (psC S p) 87 (0,0)))(e:p.rest=(bs S).drop p.off)(b:t.pos=p.off+k)(f:p.off+k+n≤S.size)(h:p.off+k≤S.size):
 zI3 w g S ⟨t,Jn n (Jn k p.rest),p.off+k+n⟩ (Ak (AZ #[])) (((((a.setCell ⟨g,1,none⟩ (V Ad t.kind)).setCell ⟨g,2,none⟩ (Aa (str t.text))).setCell ⟨g,3,none⟩ (V Af t.num)).setCell ⟨g,4,none⟩ (V Ad ((p.off:Int)+k))).setCell ⟨g,5,none⟩ (V Ad ((p.off:Int)+k+n))):=by
 refine⟨rfl,⟨?_,?_,f,by rw [b];exact h⟩,?_⟩
 ·rw [JJ (JJ (JJ (JJ (JJ d 1 _) 2 _) 3 _) 4 _) 5 _];simp [psC,b]
 ·show Jn n (Jn k p.rest)=Jn (p.off+k+n) (bs S)
  rw [e,ET,ET,H8]
 ·exact((((((Gl (G:=fun k=>k=g) c).setCell (p:=⟨g,1,none⟩) (AB rfl) _).setCell (p:=⟨g,2,none⟩) (AB rfl) _).setCell (p:=⟨g,3,none⟩) (AB rfl) _).setCell (p:=⟨g,4,none⟩) (AB rfl) _).setCell (p:=⟨g,5,none⟩) (AB rfl) _)
theorem yx (g:Nat)(S:ByteArray)(p q:PS)(w:Y)(d:jQ w g S p)(R:S.size≤12000)(y:Mg w)(i:Kh p=some q):
 As prog 32 #[Ae (some ⟨g,0,none⟩)] w (zI3 w g S q):=by
 have z:∀ (b:Bool) (l:Bs),KZ b l≤l.length:=by
  intro b l
  induction l generalizing b with
  |nil=>cases b<;>simp [KZ]
  |cons c l F=>
   cases b<;>simp only [KZ]
   all_goals (repeat' split)
   all_goals simp
   all_goals exact F _
 obtain⟨k,m⟩:=JH (KZ false p.rest);have A:=z false p.rest;rw [←m,d.r,Cr,VC]at A;have T:=d.o;unfold Kh at i;simp only [←m]at i;split at i
 ·rename_i t n s;cases i;rw [d.r,ET]at s;obtain⟨G,H,U⟩:=zP0 s;rw [Cr,VC]at G;have B:=D (fun W=>z16 S p.off W d.o (by omega));rw [←d.r,←m]at B;have v:=D (fun(W:Y) (x:Ext w W)=>z19 S (p.off+k) W (by omega) (by omega) (y.ext x) t n s);have c0:=bk d.b 0;have I:=bk d.b 5;have L:=D d.b;have M:=D d.r;have X:g<w.heap.size:=(Ag.1 d.b).1;unfold ZO qc at v;have Z:(p.off:Int)+k<100000:=by omega
  have N:((p.off+k:Nat):Int)=(p.off:Int)+k:=by omega
  rw [N]at v;have O:p.off+k≤S.size:=by omega
  have P:p.off+k+n≤S.size:=by omega
  clear m s A d z y;go_enter func32,ntmps32;have C:∀ {W:Y},Ext w W→W.cell? ⟨g,0,none⟩=some (Aa S)∧W.cell? ⟨g,5,none⟩=some (V Ad p.off):=fun x=>⟨Ext.cell x c0,Ext.cell x I⟩
  refine JX.go (fun W=>W.cell? ⟨g,0,none⟩=some (Aa S)∧W.cell? ⟨g,5,none⟩=some (V Ad p.off)) [24] (C (Ext.refl w).drew) (fun a=>?_)
  iterate 5 refine JC a ?_
  refine JP a (fun w j=>j.1) ?_
  iterate 3 refine JC a ?_
  refine JP a (fun w j=>j.1) ?_
  iterate 3 refine JC a ?_
  refine JP a (fun w j=>j.2) ?_
  try simp only [Au,pA,pB,pC]
  refine JM (fun K f=>?_);go_simp;(with_reducible refine(B.out _).mono ?_)
  rintro e h0 ⟨rfl,rfl⟩;refine f.out _ _ a (fun a=>?_);clear f
  try simp only [Au,pA,pB,pC]
  refine JM (fun K f=>?_);go_simp;(with_reducible refine(v.out _ (Ext.refl w).drew).mono ?_)
  rintro e h1 ⟨rfl,E⟩;have u:=(Ext.refl w).drew.trans E;refine f.out _ _ (C u) (fun a=>?_);clear f E
  iterate 5 refine JC a ?_
  have Q:=D u;have h:=D (CE u L.out);have h2:=bk h.out 1;have f1:=JF h.out 1;have h3:=bk h.out 2;have f2:=JF h.out 2;have h4:=bk h.out 3;have h5:=JF h.out 3;have h6:=bk h.out 4;have h7:=JF h.out 4;have h8:=bk h.out 5;have h9:=JF h.out 5;clear u a
  try simp only [Au,pA,pB,pC]
  refine JM (fun K f=>?_);go_simp;refine f.out _ _ ?_ (fun a=>?_)
  ·have d:=JJ (JJ (JJ (JJ h.out 1 (V Ad t.kind)) 2 (Aa (str t.text))) 3 (V Af t.num)) 4 (V Ad ((p.off:Int)+k));exact⟨JA d 0,JA d 5⟩
  clear f
  try simp only [Au,pA,pB,pC]
  refine JM (fun K f=>?_);go_simp;refine f.out _ _ a (fun a=>?_);clear f
  try simp only [Au,pA,pB,pC]
  refine JC a ?_
  try simp only [Au,pA,pB,pC]
  refine JX.fn (fun K f=>?_);go_simp;refine f.out _ _ ?_
  clear f
  try simp only [Au,pA,pB,pC]
  refine JV ?_
  go_wp2_with fail;go_end0;exact zb4 Q.out h.out M.out H P O
 ·cases i
structure PW (w:Y) (g:Nat) (S:ByteArray) (p:PS):Prop where
 at_:jQ w g S p
 tab:Mg w
 g13:13≤g
 hs:S.size≤12000
section
variable {w w' w'':Y}{g:Nat}{S:ByteArray}{p q:PS}
theorem PW.ext (a:PW w g S p)(e:Ext w w'):PW w' g S p:=⟨a.at_.ext e,a.tab.ext e,a.g13,a.hs⟩
theorem PW.step (b:PW w g S p)(x:PX g w w')(a:jQ w' g S q):PW w' g S q:=⟨a,b.tab.upd x (fun k c=>by rw [c];exact b.g13),b.g13,b.hs⟩
theorem PW.lt (a:PW w g S p):g<w.heap.size:=(Ag.1 a.at_.b).1
end
def fU (w:Y)(g:Nat)(S:ByteArray)(q:PS)(v:h)(e:BX)(w':Y):Prop:=e=Ak v∧PW w' g S q∧PX g w w'
theorem Uh {w:Y}{g:Nat}{S:ByteArray}{p q:PS}(a:PW w g S p)(c:Kh p=some q):As prog 32 #[Ae (some ⟨g,0,none⟩)] w (fU w g S q (AZ #[])):=
 (yx g S p q w a.at_ a.hs a.tab c).mono fun _ _ b=>⟨b.1,a.step b.2.2 b.2.1,b.2.2⟩
theorem J8 {w:Y}{g:Nat}{S:ByteArray}{p:PS}{s:Bs}(a:PW w g S p)(b:JZ s p=false):As prog 49 #[Ae (some ⟨g,0,none⟩),Aa (str s)] w (Ret (AE false) w):=by
 have c:=D (zI0 g S p s w a.at_);rw [b]at c;generalize str s=s1 at*
 clear a b;go_enter func49,ntmps49;go_wp2_with (go_at_call 86;refine c.mono ?_;rintro e w' ⟨rfl,rfl⟩);go_ret;exact⟨rfl,rfl⟩
theorem LU {w:Y}{g:Nat}{S:ByteArray}{p q:PS}{s:Bs}(a:PW w g S p)(b:JZ s p=true)(c:Kh p=some q):As prog 49 #[Ae (some ⟨g,0,none⟩),Aa (str s)] w (fU w g S q (AE true)):=by
 have d:=D (zI0 g S p s w a.at_);have f:=D (Uh a c);rw [b]at d;generalize str s=s1 at*
 clear a b c;go_enter func49,ntmps49;go_wp2_with (first|(go_at_call 86;refine d.mono ?_;rintro e w' ⟨rfl,rfl⟩)|(go_at_call 32;refine f.mono ?_;rintro e w' ⟨rfl,h,i⟩));go_ret;exact⟨rfl,h,i⟩
theorem uI {s:Bs}{p q:PS}{b:Bool}(a:QO s p=some (b,q)):(b=false∧q=p∧JZ s p=false)∨(b=true∧JZ s p=true∧Kh p=some q):=by
 unfold QO at a;split at a
 ·rename_i c;split at a
  ·rename_i e d;cases a;exact AB ⟨rfl,c,d⟩
  ·cases a
 ·rename_i c;cases a;exact AO ⟨rfl,rfl,by simpa using c⟩
theorem dO {w:Y}{g:Nat}{S:ByteArray}{p q:PS}{s:Bs}{b:Bool}(a:PW w g S p)(d:QO s p=some (b,q)):As prog 49 #[Ae (some ⟨g,0,none⟩),Aa (str s)] w (fU w g S q (AE b)):=by
 rcases uI d with⟨rfl,rfl,c⟩|⟨rfl,c,f⟩
 ·refine(J8 a c).mono ?_
  rintro e w' ⟨rfl,rfl⟩;exact⟨rfl,a,JK.refl _⟩
 ·exact LU a c f
theorem zP1 {s:Bs}{p q:PS}(a:KD s p=some q):QO s p=some (true,q):=by
 unfold KD at a;unfold QO;split at a
 ·rename_i b;rw [if_pos b,a]
 ·cases a
def WS:List Bs→PS→Option PS
 |[],p=>some p
 |s::l,p=>match KD s p with
  |none=>none
  |some q=>WS l q
theorem oq {w:Y}{g:Nat}{S:ByteArray}{p q:PS}{l:List Bs}(m:PW w g S p)(a:WS l p=some q)(b o c:Nat)(z:b≠g)(A:l.length≤10)(hc:∀ j s,l[j]?= some s→w.cell? ⟨b,o+j,none⟩=some (Aa (str s))):
 As prog 88 #[Ae (some ⟨g,0,none⟩),J (some ⟨b,o,none⟩) l.length c] w (fU w g S q (AZ #[])):=by
 have B:=D hc;have C:=D m;have E:=D a;obtain⟨n,h⟩:=JH l.length;have r:=D h;rw [←h]at A ⊢;clear hc m a h;go_enter func88,ntmps88;go_wp2;go_loopw [5,8] (fun _ s wr=>∃ (j:Nat) (d:PS),s=V Ad j∧j≤n∧PW wr g S d∧PX g w wr∧AA (WS (l.drop j) d=some q)) (fun _ s _=>n - (AX s).toNat)
 case atStart=>exact⟨0,p,rfl,by omega,C,JK.refl _,E⟩
 case round=>
  obtain⟨j,d,rfl,M,t,f,u⟩:=hrel;have v:=D t;have i:=D f;clear t f;by_cases F:j<n
  ·obtain⟨s,k⟩:∃ s,l[j]?= some s:=⟨l[j]'(by rw [←r];exact F),Al _⟩
   have N:=i.cell (B j s k) z;have x:l.drop j=s::l.drop (j+1):=by
    obtain⟨h1,G⟩:=Ao.1 k;rw [AR h1,G]
   have a:=u.out;rw [x,WS]at a;split at a
   ·cases a
   ·rename_i H y;have I:=D (dO v (zP1 y));have K:=D a;clear a x y k;generalize str s=s1 at*
    go_wp2_with (go_at_call 49;refine I.mono ?_;rintro e w' ⟨rfl,L,f⟩);go_roundw
    case rel=>exact⟨j+1,H,by go_num,by omega,L,i.trans f,K⟩
    case measure=>simp [AX];omega
  ·have a:d=q:=by
    have:=u.out;rw [DM (by rw [←r];omega)]at this;exact DJ this
   subst a;go_wp2;go_end0;exact⟨rfl,v,i⟩
theorem UT {w:Y}{g:Nat}{S:ByteArray}{p:PS}(a:PW w g S p):As prog 129 #[Ae (some ⟨g,0,none⟩)] w fun e w'=>e=Ak (AE (Nn p))∧Ext w w':=by
 have c1:w.cell? ⟨g,1,none⟩=some (V Ad p.tok.kind):=JA a.at_.b 1
 have f:w.cell? ⟨g,2,none⟩=some (Aa (str p.tok.text)):=JA a.at_.b 2
 have d:=D (fun(W:Y) (x:Ext w W)=>ZN p.tok.text W (a.tab.ext x));have c:AA (Nn p=(decide (p.tok.kind=1)&& !UE p.tok.text)):=D (by
  unfold Nn
  congr 1
  rw [Bl];simp)
 generalize str p.tok.text=T at*
 clear a;by_cases h1:p.tok.kind=1
 ·rw [h1]at c1;go_enter func129,ntmps129;go_wp2_with fail;refine(d _ (Ext.refl w)).mono ?_
  rintro e w' ⟨rfl,rfl⟩;go_wp2_with fail;go_ret;refine⟨?_,(Ext.refl w).alloc _⟩;rw [c];simp [h1]
 ·have h:((p.tok.kind:Int)==1)=false:=by simp;omega
  generalize p.tok.kind=k at*
  go_enter func129,ntmps129;go_wp2_with fail;go_ret;refine⟨?_,Ext.refl w⟩;rw [c];simp [h1]
theorem TM {w:Y}{g:Nat}{S:ByteArray}{p q:PS}{s:Bs}(c:PW w g S p)(a:M0 p=some (s,q)):As prog 87 #[Ae (some ⟨g,0,none⟩)] w (fU w g S q (Aa (str s))):=by
 unfold M0 at a;split at a
 ·rename_i h;split at a
  ·rename_i t i;cases a;have j:=D (UT c);rw [h]at j;have l:=D (fun(W:Y) (x:Ext w W)=>Uh (c.ext x) i);have d:∀ W:Y,Ext w W→W.cell? ⟨g,2,none⟩=some (Aa (str p.tok.text)):=fun W x=>JA (CE x c.at_.b) 2
   have m:=D d;clear h i c d;generalize str p.tok.text=T at*
   go_enter func87,ntmps87;go_wp2_with fail;refine j.mono ?_
   rintro e n ⟨rfl,f⟩;have d:=m n f;have k:=D f;clear f;go_wp2_with fail;refine(l _ k).mono ?_
   rintro e u ⟨rfl,o,r⟩;go_wp2_with fail;go_ret;exact⟨rfl,o,(Gl k).trans r⟩
  ·cases a
 ·cases a
theorem YZ {w:Y}{g:Nat}{S:ByteArray}{p q:PS}{n:Nat}(c:PW w g S p)(a:QP p=some (n,q)):As prog 93 #[Ae (some ⟨g,0,none⟩)] w (fU w g S q (V Af n)):=by
 unfold QP at a;split at a
 ·rename_i d;split at a
  ·rename_i l f;cases a;have h:p.tok.kind=2:=Ap d;have c1:w.cell? ⟨g,1,none⟩=some (V Ad p.tok.kind):=JA c.at_.b 1
   rw [h]at c1;have m:w.cell? ⟨g,3,none⟩=some (V Af p.tok.num):=JA c.at_.b 3
   have i:=D (Uh c f);clear d f c h;generalize p.tok.num=T at*
   go_enter func93,ntmps93;go_wp2_with (go_at_call 32;refine i.mono ?_;rintro e w' ⟨rfl,j,k⟩);go_ret;exact⟨rfl,j,k⟩
  ·cases a
 ·cases a
theorem VR (s:Bs):∀ (l:List Bs)(k d:Nat),LK s l (k+d)=(LK s l k).map (· +d)
 |[],_,_=>rfl
 |x::l,k,d=>by
  rw [LK,LK];split
  ·rfl
  ·rw [show k+d+1=(k+1)+d by omega,VR s l (k+1) d]
theorem ZQ (s:Bs):∀ (l:List Bs)(k i:Nat),LK s l k=some i→k≤i∧i<k+l.length
 |[],_,_,a=>by cases a
 |x::l,k,i,a=>by
  rw [LK]at a;split at a
  ·cases a;simp
  ·have:=ZQ s l (k+1) i a
   simp;omega
theorem z88 (p:PS):Po p≤21:=by
 unfold Po;split
 ·split
  ·rename_i i a;have:=(ZQ _ _ _ _ a).2;have e:(Pg.ops.drop 3).length=18:=rfl;omega
  ·omega
 ·omega
theorem fV {w:Y}{g:Nat}{S:ByteArray}{p:PS}(c:PW w g S p):As prog 224 #[Ae (some ⟨g,0,none⟩)] w fun e w'=>e=Ak (V Ad (Po p:Nat))∧Ext w w':=by
 have c1:w.cell? ⟨g,1,none⟩=some (V Ad p.tok.kind):=JA c.at_.b 1
 have F:w.cell? ⟨g,2,none⟩=some (Aa (str p.tok.text)):=JA c.at_.b 2
 by_cases f:p.tok.kind=3
 ·rw [f]at c1;have r:=D (fun(W:Y) (t:Ext w W) (y:W.cell? ⟨g,2,none⟩=some (Aa (str p.tok.text)))=>
   (YY qa Pg.ops W (c.tab.ext t) jW (by decide) (by decide)).mono (R':=fun e w'=>e=Ak (J (some ⟨W.heap.size,0,none⟩) 21 21)∧Ext w w'∧w'.cell? ⟨g,2,none⟩=some (Aa (str p.tok.text))∧∀ j s,Pg.ops[j]?= some s→w'.cell? ⟨W.heap.size,j,none⟩=some (Aa (str s)))
    (fun e w' q=>⟨q.1,by rw [q.2];exact t.alloc _,by rw [q.2];exact((Ext.refl W).alloc _).cell y,fun j s h=>by rw [q.2];exact WR (Aj W _) h⟩))
  obtain⟨a,l⟩:=JH (Iz ((Pg.ops.drop 3).map str) (str p.tok.text));have m:=D (fun(b:Nat) (W:Y) (q:∀ j s,Pg.ops[j]?= some s→W.cell? ⟨b,j,none⟩=some (Aa (str s)))=>
   slices_Index_string b 3 18 18 ((Pg.ops.drop 3).map str) (str p.tok.text) W (by decide) (by omega) (by
    intro j h
    rw [ZM]
    have G:j<18:=by rw [AI]at h;exact h
    have e:Pg.ops[3+j]?= some ((Pg.ops.drop 3).getD j []):=by
     rw [B0,Fq]
     rw [Al (show 3+j<Pg.ops.length by show 3+j<21;omega)]
     rfl
    exact q _ _ e))
  rw [show((Pg.ops.drop 3).map str).take 18=(Pg.ops.drop 3).map str from rfl,←l]at m;have u:(a= -1∧Po p=0)∨∃ i:Nat,a=i∧i<18∧Po p=i+4:=by
   unfold Po;rw [f,if_pos (by rfl)];have v:=VR p.tok.text (Pg.ops.drop 3) 0 4;rw [BF]at v;rw [v];cases d:LK p.tok.text (Pg.ops.drop 3) 0 with
   |none=>exact AO ⟨by rw [l];exact Z6 d,rfl⟩
   |some i=>exact AB ⟨i,by rw [l];exact Z7 d,by have:=(ZQ _ _ _ _ d).2;have e:(Pg.ops.drop 3).length=18:=rfl;omega,rfl⟩
  have x:=D u;generalize Po p=A at*
  generalize str p.tok.text=B at*
  clear c l u;have H:=Ext.refl w;have I: -1≤a∧a≤18:=by rcases x with⟨q,_⟩|⟨i,q,_,_⟩<;>omega
  go_enter func224,ntmps224;go_upto_region 3 with(fail)
  go_region_held3 (fun w'=>Ext w w'∧w'.cell? ⟨g,2,none⟩=some (Aa B)) (first|exact⟨by assumption,by assumption⟩|exact⟨Ext.drew (by assumption),by assumption⟩|go_keep) (first|(go_at_call 83;refine(r _ (by first|assumption|exact Ext.drew (by assumption)) (by assumption)).mono ?_;rintro e w' ⟨rfl,h1,K,f⟩)|(go_at_call 158;refine(m _ _ (by assumption)).mono ?_;rintro e w' ⟨rfl,rfl⟩))
  have d:Ext w w':=by assumption
  clear r m;go_wp2;go_ret;refine⟨?_,d⟩;have C:wrap64 (max (a+4) 0*min (a+1) 1)=(A:Int):=by
   rcases x with⟨rfl,rfl⟩|⟨i,rfl,L,rfl⟩
   ·have n:max ((-1:Int)+4) 0=3:=by omega
    have o:min ((-1:Int)+1) 1=0:=by omega
    rw [n,o,Int.mul_zero];unfold wrap64;omega
   ·have n:max ((i:Int)+4) 0=i+4:=by omega
    have o:min ((i:Int)+1) 1=1:=by omega
    rw [n,o,Int.mul_one];unfold wrap64;omega
  exact congrArg (fun z=>Ak (V Ad z)) C
 ·have M:((p.tok.kind:Int) != 3)=true:=by simp;omega
  have E:Po p=0:=by
   unfold Po;rw [if_neg];intro q;exact f (Ap q)
  rw [E];generalize p.tok.kind=k at*
  clear c;go_enter func224,ntmps224;go_wp2;go_ret;exact⟨rfl,Ext.refl _⟩
structure mq (U:Nat→Prop) (w:Y) (A:Option Bi) (xs:List h):Prop where
 cells:Ol w A xs
 low:∀ a,A=some a→U a.block
theorem mq.upd {U U':Nat→Prop}{w w':Y}{A:Option Bi}{xs:List h}{G:Nat→Prop}(c:mq U w A xs)(u:JK G w w')(d:∀ k,U k→¬ G k)(e:∀ k,U k→U' k):mq U' w' A xs:=by
 refine⟨fun i x f=>?_,fun a b=>e _ (c.low a b)⟩;obtain⟨a,b,hc⟩:=c.cells i x f;refine⟨a,b,u.cell hc ?_⟩;have g:(a.add i).block=a.block:=by unfold Fa;split<;>rfl
 rw [g];exact d _ (c.low a b)
theorem mq.nil (U:Nat→Prop)(w:Y):mq U w none []:=⟨Ol.nil w none,fun _ b=>by cases b⟩
structure Kind (α:Type) where
 size:Nat
 pos:0<size
 rep:(Nat→Prop)→Y→α→List h→Prop
 len:∀ {U w x cs},rep U w x cs→cs.length=size
 one:∀ {U w x cs},rep U w x cs→∀ u∈cs,u.oneCell'=true
 upd:∀ {U U' G:Nat→Prop} {w w' x cs},rep U w x cs→JK G w w'→(∀k,U k→¬ G k)→(∀k,U k→U' k)→rep U' w' x cs
def NF {α:Type}(K:Kind α)(U:Nat→Prop)(w:Y):List α→List h→Prop
 |[],xs=>xs=[]
 |e::l,xs=>∃ x a,xs=x++a∧K.rep U w e x∧NF K U w l a
section
variable {α:Type}{K:Kind α}{U U' G:Nat→Prop}{w w':Y}
theorem NF.upd (u:JK G w w')(a:∀ k,U k→¬ G k)(b:∀ k,U k→U' k):∀ {l:List α}{xs:List h},NF K U w l xs→NF K U' w' l xs
 |[],_,c=>c
 |_::_,_,⟨x,d,h1,e,f⟩=>⟨x,d,h1,K.upd e u a b,NF.upd u a b f⟩
theorem NF.len:∀ {l:List α}{xs:List h},NF K U w l xs→xs.length=l.length*K.size
 |[],_,a=>by rw [show _=_ from a];simp
 |_::l,_,⟨x,d,h1,b,c⟩=>by
  rw [h1,M,K.len b,NF.len c,Am,FD,IA]
theorem NF.one:∀ {l:List α}{xs:List h},NF K U w l xs→∀ u∈xs,u.oneCell'=true
 |[],_,b,u,a=>by rw [show _=_ from b]at a;cases a
 |_::l,_,⟨x,e,h1,c,d⟩,u,a=>by
  rw [h1]at a;rcases Fi.1 a with q|q
  ·exact K.one c u q
  ·exact NF.one d u q
theorem NF.snoc {e:α}{x:List h}(b:K.rep U w e x):∀ {l:List α}{xs:List h},NF K U w l xs→NF K U w (l++[e]) (xs++x)
 |[],_,c=>by
  rw [show _=_ from c];exact⟨x,[],by simp,b,rfl⟩
 |a::l,_,⟨d,f,h1,g,j⟩=>by
  rw [h1];exact⟨d,f++x,by rw [AG],g,NF.snoc b j⟩
theorem NF.get:∀ {l:List α}{xs:List h},NF K U w l xs→∀ (i:Nat)(e:α),l[i]?= some e→∃ cs,K.rep U w e cs∧∀ (j:Nat) u,cs[j]?= some u→xs[i*K.size+j]?= some u
 |[],_,_,i,e,b=>by simp at b
 |a::l,_,⟨f,k,h1,c,g⟩,0,e,b=>by
  have:a=e:=by simpa using b
  subst this;refine⟨f,c,fun j u d=>?_⟩;rw [h1,FG,BF,Ce (Ao.1 d).1];exact d
 |a::l,_,⟨f,k,h1,c,g⟩,i+1,e,b=>by
  obtain⟨cs,m,n⟩:=NF.get g i e (by simpa using b);refine⟨cs,m,fun j u d=>?_⟩;rw [h1,Cs (by rw [K.len c,FD];omega),K.len c,show(i+1)*K.size+j - K.size=i*K.size+j by rw [FD];omega];exact n j u d
end
def Ju {α:Type}(K:Kind α)(U:Nat→Prop)(w:Y)(l:List α)(v:h):Prop:=∃ A c xs,v=J A l.length c∧l.length≤c∧c≤Bk∧(A=none→c=0)∧mq U w A xs∧NF K U w l xs
theorem Ju.upd {α:Type}{K:Kind α}{U U' G:Nat→Prop}{w w':Y}{l:List α}{v:h}(d:Ju K U w l v)(u:JK G w w')(a:∀ k,U k→¬ G k)(b:∀ k,U k→U' k):Ju K U' w' l v:=by
 obtain⟨A,c,xs,h1,e,f,g,i,j⟩:=d;exact⟨A,c,xs,h1,e,f,g,i.upd u a b,j.upd u a b⟩
theorem Ju.nil {α:Type}(K:Kind α)(U:Nat→Prop)(w:Y):Ju K U w [] (J none 0 0):=⟨none,0,[],rfl,Aw _,by simp [Bk],fun _=>rfl,mq.nil U w,rfl⟩
mutual
def OV (U:Nat→Prop)(w:Y):Ex→List h→Prop
 |.mk k op num name args,cs=>∃ A c xs,cs=[V Ad k,V Ad op,V Af num,Aa (str name),J A args.length c]∧args.length≤c∧c≤Bk∧(A=none→c=0)∧mq U w A xs∧WT U w args xs
def WT (U:Nat→Prop)(w:Y):List Ex→List h→Prop
 |[],xs=>xs=[]
 |e::l,xs=>∃ x a,xs=x++a∧OV U w e x∧WT U w l a
end
mutual
theorem UU {U U' G:Nat→Prop}{w w':Y}(u:JK G w w')(a:∀ k,U k→¬ G k)(b:∀ k,U k→U' k):∀ (e:Ex)(cs:List h),OV U w e cs→OV U' w' e cs
 |.mk k op num name args,cs,d=>by
  rw [OV]at d ⊢;obtain⟨A,c,xs,h1,f,g,i,j,l⟩:=d;exact⟨A,c,xs,h1,f,g,i,j.upd u a b,jb u a b args xs l⟩
theorem jb {U U' G:Nat→Prop}{w w':Y}(u:JK G w w')(b:∀ k,U k→¬ G k)(c:∀ k,U k→U' k):∀ (l:List Ex)(xs:List h),WT U w l xs→WT U' w' l xs
 |[],xs,a=>by rw [WT]at a ⊢;exact a
 |e::l,xs,a=>by
  rw [WT]at a ⊢;obtain⟨x,d,h1,f,g⟩:=a;exact⟨x,d,h1,UU u b c e x f,jb u b c l d g⟩
end
def KE:Kind Ex where
 size:=5
 pos:=by omega
 rep:=OV
 len:=by
  intro U w x cs a;cases x;rw [OV]at a;obtain⟨A,c,xs,rfl,_⟩:=a;rfl
 one:=by
  intro U w x cs a u b;cases x;rw [OV]at a;obtain⟨A,c,xs,rfl,_⟩:=a;simp only [AH,Ba,or_false]at b;rcases b with rfl|rfl|rfl|rfl|rfl<;>rfl
 upd:=fun a u d b=>UU u d b _ _ a
theorem Ya (U:Nat→Prop)(w:Y):∀ (l:List Ex)(xs:List h),WT U w l xs↔NF KE U w l xs
 |[],xs=>by rw [WT];exact Iff.rfl
 |e::l,xs=>by
  rw [WT];constructor
  ·rintro⟨x,a,h1,b,c⟩;exact⟨x,a,h1,b,(Ya U w l a).1 c⟩
  ·rintro⟨x,a,h1,b,c⟩;exact⟨x,a,h1,b,(Ya U w l a).2 c⟩
theorem OZ {U:Nat→Prop}{w:Y}{k op num:Nat}{name:Bs}{args:List Ex}{cs:List h}:
 OV U w (.mk k op num name args) cs↔∃ v,cs=[V Ad k,V Ad op,V Af num,Aa (str name),v]∧Ju KE U w args v:=by
 rw [OV];constructor
 ·rintro⟨A,c,xs,h1,a,b,d,e,f⟩;exact⟨_,h1,A,c,xs,rfl,a,b,d,e,(Ya U w args xs).1 f⟩
 ·rintro⟨v,h1,A,c,xs,rfl,a,b,d,e,f⟩;exact⟨A,c,xs,h1,a,b,d,e,(Ya U w args xs).2 f⟩
def WU {α:Type}(elem:Nat→PS→Option (α×PS)):Nat→List α→PS→Option (List α×PS)
 |0,_,_=>none
 |n+1,acc,p=>match elem n p with
  |none=>none
  |some (x,q)=>match QO [44] q with
   |none=>none
   |some (true,a)=>WU elem n (acc++[x]) a
   |some (false,a)=>some (acc++[x],a)
theorem uJ {α:Type}(elem:PS→Option (α×PS)):∀ (n:Nat)(acc:List α)(p:PS),Rh elem n acc p=WU (fun _=>elem) n acc p
 |0,_,_=>rfl
 |n+1,acc,p=>by
  rw [Rh,WU];cases elem p with
  |none=>rfl
  |some x=>
   dsimp only;cases QO [44] x.2 with
   |none=>rfl
   |some a=>
    obtain⟨b,c⟩:=a;cases b
    ·rfl
    ·exact uJ elem n _ c
theorem ow:∀ (n:Nat)(acc:List Ex)(p:PS),WI n acc p=WU (fun m=>M3 m 1) n acc p
 |0,_,_=>rfl
 |n+1,acc,p=>by
  rw [WI,WU];cases M3 n 1 p with
  |none=>rfl
  |some x=>
   dsimp only;cases QO [44] x.2 with
   |none=>rfl
   |some a=>
    obtain⟨b,c⟩:=a;cases b
    ·rfl
    ·exact ow n _ c
def qg {α:Type}(elem:Nat→PS→Option (α×PS))(n:Nat)(acc:List α)(q:PS):Option (List α×PS):=match QO [44] q with
 |none=>none
 |some (true,a)=>WU elem n acc a
 |some (false,a)=>some (acc,a)
theorem fZ {α:Type}{elem:Nat→PS→Option (α×PS)}{n:Nat}{acc:List α}{p:PS}{res:List α×PS}(b:WU elem n acc p=some res):∃ m x q,n=m+1∧elem m p=some (x,q)∧qg elem m (acc++[x]) q=some res:=by
 cases n with
 |zero=>cases b
 |succ m=>
  rw [WU]at b;split at b
  ·cases b
  ·rename_i x q c;refine⟨m,x,q,rfl,c,?_⟩;unfold qg;exact b
theorem zI4 {α:Type}(elem:Nat→PS→Option (α×PS))(g:Nat)(S:ByteArray)(N:Nat)(f:Nat)(lb:Array h)(hg:∀ args w,(GS f args).run prog w=Ez (I8 f args) w)(G:Nat→Prop)(y:G g)(a:List α→Y→Prop)
 (z:∀ acc W n,a acc W→PX g W n→a acc n)
 (o:∀ m acc p x q W,acc.length+m<N→elem m p=some (x,q)→PW W g S p→a acc W→As prog f lb W fun e w'=>e=Ak (AZ #[])∧PW w' g S q∧a (acc++[x]) w'∧JK G W w')
 (p:PS) (l:List α) (q:PS) (w:Y) (A:WU elem N [] p=some (l,q)) (B:PW w g S p) (C:a [] w):
 As prog 89 #[Ae (some ⟨g,0,none⟩),ER (.func f) #[] lb] w fun e w'=>e=Ak (AZ #[])∧PW w' g S q∧a l w'∧JK G w w':=by
 obtain⟨r,h1,E,hh,F,H⟩:=fZ A;have h2:=D o;have I:=D z;have h3:=D (o r [] p h1 E w (by simp;omega) F B C);have h4:=D H;clear o z A F H B C;go_enter func89,ntmps89;go_wp2_with (go_at_fn f;refine h3.out.mono ?_;rintro e n ⟨rfl,d,K,L⟩);have h5:=D d;have h6:=D K;have h7:=D L;clear d K L
 go_loopg [] r (fun gf s=>∃ m acc t,m≤gf∧acc.length+m≤N∧AA (qg elem m acc t=some (l,q))∧PW s g S t∧AA (a acc s)∧AA (JK G w s))
 case atStart=>exact⟨r,_,E,Aw _,by simp;omega,h4,h5,h6,h7⟩
 case round=>
  obtain⟨m,acc,t,hi,hj,h8,d,O,P⟩:=hrel;have Q:=D d;clear d;have b:=h8.out;unfold qg at b;split at b
  ·cases b
  ·rename_i R i;have u:=D (dO Q i);obtain⟨T,x,U,hk,X,Z⟩:=fZ b;have h9:=D Z;have ha:=D X;obtain⟨v,rfl⟩:∃ v,gk=v+1:=⟨gk - 1,by omega⟩;clear b i Z X;go_wp2_with fail;refine u.mono ?_
   rintro e h0 ⟨rfl,j,c⟩;have hb:=D (h2 T acc R x U h0 (by omega) ha j (I acc _ _ O c));have hc:=D c;clear c j;go_wp2_with (go_at_fn f;refine hb.out.mono ?_;rintro e hl ⟨rfl,hd,he,hf⟩)
   go_roundg v
   case measure=>omega
   case rel=>exact⟨T,_,U,by omega,by rw [M];simp;omega,h9,hd,D he,D ((P.trans (hc.mono (fun k _ q=>by rw [q];exact y))).trans hf)⟩
  ·rename_i R i;have u:=D (dO Q i);cases b;clear i;go_wp2_with fail;refine u.mono ?_
   rintro e h0 ⟨rfl,j,c⟩;go_wp2_with fail;go_end0;exact⟨rfl,j,I _ _ _ O c,P.trans (c.mono (fun k _ q=>by rw [q];exact y))⟩
theorem Xa {g:Nat}{e:AK}:∀ (vs:List h)(o:Nat)(w:Y)(cur:Array h),w.heap[g]?= some (Ab cur e (0,0))→
 ∃a,(w.setCells g o vs).heap[g]?= some (Ab a e (0,0))∧a.size=cur.size∧∀ k,k<cur.size→a[k]?= if o≤k∧k<o+vs.length then vs[k - o]? else cur[k]?
 |[],o,w,cur,b=>⟨cur,b,rfl,fun k _=>by rw [if_neg (fun q=>by have:=q.2;simp at this;omega)]⟩
 |v::vs,o,w,cur,b=>by
  obtain⟨c,h1,d,f⟩:=Xa vs (o+1) (w.setCell ⟨g,o,none⟩ v) (cur.setIfInBounds o v) (JJ b o v);refine⟨c,h1,by rw [d];simp,fun k i=>?_⟩;rw [f k (by simpa using i),zN8];by_cases q:o=k
  ·subst q;rw [if_neg (by omega),if_pos rfl,if_pos (by omega),if_pos ⟨by omega,by simp⟩,GJ];rfl
  ·by_cases q2:o+1≤k∧k<o+1+vs.length
   ·rw [if_pos q2,if_pos ⟨by omega,by simp;omega⟩,show k - o=(k - (o+1))+1 by omega];rfl
   ·rw [if_neg q2,if_neg q,if_neg (by simp;omega)]
theorem VT {g:Nat}{G:Nat→Prop}(b:G g):∀ (vs:List h)(o:Nat)(w:Y),JK G w (w.setCells g o vs)
 |[],_,w=>JK.refl w
 |v::vs,o,w=>(JK.setCell (p:=⟨g,o,none⟩) (JK.refl w) (AB b) v).trans (VT b vs (o+1) _)
theorem zb5 {w:Y}{base size n:Nat}{e:AK}{v:h}{xs d vs:List h}(o:w.ownsRow base e size v (n+1) (xs++d))(a:xs.length=n*size)(f:vs.length=size)(y:0<size):
 ∃g cap,v=J (some ⟨g,0,none⟩) (n+1) cap∧base≤g∧w.there g (n*size) size∧(w.setCells g (n*size) vs).ownsRow base e size v (n+1) (xs++vs):=by
 rcases o.2 with⟨_,z⟩|⟨g,cap,cur,rfl,k,b,l,p,hc,q⟩
 ·omega
 have B:n*size+size≤cur.size:=by
  rw [hc,←FD];exact Nat.mul_le_mul_right size l
 refine⟨g,cap,rfl,k,fun j C=>⟨?_,JF b _⟩,?_⟩
 ·rw [JA b,Bc (by omega)];rfl
 ·obtain⟨r,s,t,u⟩:=Xa vs (n*size) w cur b;refine⟨by rw [M,a,f,FD],AB ⟨g,cap,r,rfl,k,s,l,p,by rw [t,hc],?_⟩⟩;have hlen:(n+1)*size=n*size+size:=FD n size;apply List.ext_getElem?;intro i;rw [Dc];by_cases c:i<(n+1)*size
  ·rw [if_pos c,CP,u i (by omega)];by_cases x:n*size≤i
   ·rw [if_pos ⟨x,by omega⟩,Cs (by omega),a]
   ·rw [if_neg (by omega),Ce (by omega)];have m:(cur.toList.take ((n+1)*size))[i]?= (xs++d)[i]? :=by rw [q]
    rw [Dc,if_pos c,CP,Ce (by omega)]at m;exact m
  ·rw [if_neg c,C5 (by rw [M,a,f];omega)]
def RowK {α:Type}(K:Kind α)(e:AK)(base:Nat)(w:Y)(l:List α)(v:h):Prop:=
 ∃xs,w.ownsRow base e K.size v l.length xs∧NF K (fun k=>base≤k∧k<w.heap.size∧v.ownBlock≠some k) w l xs
section
variable {α:Type}{K:Kind α}{e:AK}{base:Nat}{w w':Y}{l:List α}{v v':h}
theorem RowK.nil (K:Kind α)(e:AK)(base:Nat)(w:Y):RowK K e base w [] (J none 0 0):=⟨[],⟨by simp,AO ⟨rfl,rfl⟩⟩,rfl⟩
theorem RowK.upd {G:Nat→Prop}(c:RowK K e base w l v)(u:JK G w w')(b:∀ k,base≤k→¬ G k):RowK K e base w' l v:=by
 obtain⟨xs,h1,d⟩:=c;refine⟨xs,KX h1 (fun g q=>u.block g (Kc h1 q).2 (b g (Kc h1 q).1)),d.upd u (fun k q=>b k q.1) (fun k q=>⟨q.1,Ar q.2.1 u.size,q.2.2⟩)⟩
theorem RowK.sl (b:RowK K e base w l v):Ju K (fun k=>base≤k∧k<w.heap.size) w l v:=by
 obtain⟨xs,h1,d⟩:=b;obtain⟨A,c,rfl,f,g,h,i⟩:=K7 h1;refine⟨A,c,xs,rfl,f,g,h,⟨i,fun a j=>?_⟩,d.upd (JK.refl w) (fun _ _ q=>q) (fun k q=>⟨q.1,q.2.1⟩)⟩;subst j;exact Kc h1 rfl
theorem RowK.own (a:RowK K e base w l v):∃ xs,w.ownsRow base e K.size v l.length xs:=by
 obtain⟨xs,h1,_⟩:=a;exact⟨xs,h1⟩
theorem RowK.snoc {a:α}{xs cs:List h}(f:NF K (fun k=>base≤k∧k<w.heap.size∧v.ownBlock≠some k) w l xs)(g:K.rep (fun k=>base≤k∧k<w.heap.size∧v.ownBlock≠some k) w a cs)
 (i:w'.ownsRow base e K.size v' (l.length+1) (xs++cs)) (b:w.grownBy w' v.ownBlock) (j:v'.ownBlock=v.ownBlock∨v'.ownBlock=some w.heap.size):RowK K e base w' (l++[a]) v':=by
 have m:JK (fun k=>v.ownBlock=some k) w w':=⟨b.os,b.tape,b.output,b.size,fun k n o=>b.block k n (fun q=>o q.symm)⟩;refine⟨xs++cs,by rw [M];exact i,(NF.snoc g f).upd m (fun k q=>q.2.2) (fun k q=>⟨q.1,Ar q.2.1 b.size,?_⟩)⟩;rcases j with d|d
 ·rw [d];exact q.2.2
 ·rw [d];intro c;have:w.heap.size=k:=by injection c
  omega
theorem RowK.put {a:α}{xs j cs:List h}(d:NF K (fun k=>base≤k∧k<w'.heap.size∧v'.ownBlock≠some k) w' l xs)(b:K.rep (fun k=>base≤k∧k<w'.heap.size∧v'.ownBlock≠some k) w' a cs)
 (m:w'.ownsRow base e K.size v' (l.length+1) (xs++j)):∃ g cap,v'=J (some ⟨g,0,none⟩) (l.length+1) cap∧base≤g∧w'.there g (l.length*K.size) cs.length∧RowK K e base (w'.setCells g (l.length*K.size) cs) (l++[a]) v':=by
 obtain⟨g,cap,f,n,o,p⟩:=zb5 (vs:=cs) m d.len (K.len b) K.pos;refine⟨g,cap,f,n,by rw [K.len b];exact o,xs++cs,by rw [M];exact p,?_⟩;have i:JK (fun k=>k=g) w' (w'.setCells g (l.length*K.size) cs):=VT (G:=fun k=>k=g) rfl _ _ _;exact(NF.snoc b d).upd i (fun k q c=>q.2.2 (by rw [f,c];rfl)) (fun k q=>⟨q.1,Ar q.2.1 i.size,q.2.2⟩)
end
theorem Ou {P:BR}{W:Y}{ops:Array B5}{o:B5}{a:CY}{K:CY→Y→Prop}{Q:EY→CY→Y→Prop}{e:Prop}(g:AQ o (BW ops a.tmps)=true)(c:AK)(x d:CC)(i:o.op=.store c x d)
 (b f:Nat) (cells:Array h) (j:a.eval x=Ae (some ⟨b,f,none⟩)) (hy:a.eval d=AN cells)
 (k:W.there b f cells.size) (l:(P.info? c).map (·.size)=some cells.size) (h1:cells.all (·.oneCell')=true)
 (m:K (a.put o.dst Ca) (W.setCells b f cells.toList)):if AQ o (BW ops a.tmps)=true then Cb P o a W K Q else e:=by
 rw [if_pos g];exact wp_store_mid c x d i b f cells j hy k l h1 m
theorem Np {cs:List h}(a:∀ v∈cs,v.oneCell'=true):cs.toArray.all (·.oneCell')=true:=FH.2 (fun v b=>a v (by simpa using b))
def zE:Array h:= #[V Ad 0,V Ad 0,V Af 0,Aa ⟨#[]⟩,J none 0 0]
theorem zI5:∀ u∈zE.toList,u.oneCell'=true:=by
 intro u a;simp only [zE,AH,Ba,or_false]at a;rcases a with rfl|rfl|rfl|rfl|rfl<;>rfl
theorem yV8:(prog.info? 287).map (fun i=>(i.zero,i.size,i.bytes))=some (some (AN zE),5,64):=by kernel_rfl
theorem Ki:(prog.info? 287).map (·.size)=some 5:=by kernel_rfl
def Su (w:Y)(g:Nat)(S:ByteArray)(q:PS)(x:Ex)(e:BX)(w':Y):Prop:=
 (∃cs:List h,e=Ak (AN cs.toArray)∧OV (fun k=>w.heap.size≤k∧k<w'.heap.size) w' x cs)∧PW w' g S q∧PX g w w'
structure TP (W:Y) (g b o:Nat) (acc:List Ex) (u v:h):Prop where
 bx:W.heap[b]?= some (Ab #[Ae (some ⟨g,0,none⟩)] 83 (0,0))
 out:W.heap[o]?= some (Ab #[u] 225 (0,0))
 row:RowK KE 287 (o+1) W acc v
structure Rdy (w W:Y) (g b o:Nat) (S:ByteArray) (q:PS) (acc:List Ex) (x:Ex) (v:h) (cs:List h) (z:Nat):Prop where
 row:∃ xs,W.ownsRow (o+1) 287 5 v acc.length xs∧NF KE (fun k=>o+1≤k∧k<W.heap.size∧v.ownBlock≠some k) W acc xs
 rep:KE.rep (fun k=>o+1≤k∧k<W.heap.size∧v.ownBlock≠some k) W x cs
 zero:Ol W (some ⟨z,0,none⟩) zE.toList
 pw:PW W g S q
 bx:W.heap[b]?= some (Ab #[Ae (some ⟨g,0,none⟩)] 83 (0,0))
 out:W.heap[o]?= some (Ab #[v] 225 (0,0))
 up:JK (fun k=>k=g∨o≤k) w W
 base:o+1≤W.heap.size
section
variable {w w1 W:Y}{g b o:Nat}{S:ByteArray}{q:PS}{acc:List Ex}{x:Ex}{v:h}{cs:List h}
theorem zI6 (l:g<b)(m:b<o)(a:TP w g b o acc v v)(d:PX g w W){lo:Nat}(n:w.heap.size≤lo)(e:PW W g S q)(f:OV (fun k=>lo≤k∧k<W.heap.size) W x cs)(z:Nat)(h:Ol W (some ⟨z,0,none⟩) zE.toList):Rdy w W g b o S q acc x v cs z:=by
 have p:=(Ag.1 a.out).1;have i:=a.row.upd d (fun k r q2=>by have q3:k=g:=q2;omega);obtain⟨s,j⟩:=a.row.own;refine⟨i,UU (JK.refl (G:=fun _=>False) W) (fun _ _ q=>q) (fun k q=>⟨by omega,q.2,fun c=>?_⟩) x cs f,h,e,d.heap a.bx (fun q=>by have q3:b=g:=q;omega),d.heap a.out (fun q=>by have q3:o=g:=q;omega),d.mono (fun k _ q=>AO q),by have:=d.size;omega⟩;have:=(Kc j c).2;omega
theorem uK (W:Y)(e:AK):Ol (W.alloc (Ab zE e)) (some ⟨W.heap.size,0,none⟩) zE.toList:=by
 intro i u a;refine⟨_,rfl,?_⟩;rw [MW,BF,JA (Aj W _)];simpa using a
theorem yo7 (a:g<b)(c:b<o)(d:TP w g b o acc v v)(f:PW w1 g S q)(h:PX g w.drew w1)(i:OV (fun k=>w.drew.heap.size≤k∧k<w1.heap.size) w1 x cs)(e:AK):Rdy w (w1.alloc (Ab zE e)) g b o S q acc x v cs w1.heap.size:=by
 have j:=(Gl ((Ext.refl w).drew)).trans h;refine zI6 a c d (j.alloc _) (Aw _) (f.ext ((Ext.refl w1).alloc _)) ?_ _ (uK w1 e)
 exact UU (Gl (G:=fun _=>False) ((Ext.refl w1).alloc _)) (fun _ _ q=>q) (fun k q=>⟨q.1,by have:=q.2;simp;omega⟩) x cs i
theorem yo8 (h:g<b)(j:b<o)(c:TP w g b o acc v v)(e:AK)(l:PW w1 g S q)(d:PX g (w.alloc (Ab zE e)).drew w1)(m:OV (fun k=>(w.alloc (Ab zE e)).drew.heap.size≤k∧k<w1.heap.size) w1 x cs):Rdy w w1 g b o S q acc x v cs w.heap.size:=by
 have n:=(Gl (((Ext.refl w).alloc _).drew)).trans d;have r:=(Ag.1 c.out).1;refine zI6 h j c n (lo:=(w.alloc (Ab zE e)).drew.heap.size) (by show w.heap.size≤(w.alloc (Ab zE e)).heap.size;simp) l m _ ?_
 intro i u p;obtain⟨a,f,hc⟩:=uK w e i u p;refine⟨a,f,d.cell (w:=(w.alloc (Ab zE e)).drew) hc (fun q=>?_)⟩;have s:(a.add i).block=a.block:=by unfold Fa;split<;>rfl
 have t:a.block=w.heap.size:=by cases f;rfl
 omega
end
structure Pt (w W:Y) (g b o:Nat) (S:ByteArray) (q:PS) (acc:List Ex) (x:Ex) (u v':h) (cs xs:List h):Prop where
 own:W.ownsRow (o+1) 287 5 v' (acc.length+1) (xs++zE.toList)
 yN1:NF KE (fun k=>o+1≤k∧k<W.heap.size∧v'.ownBlock≠some k) W acc xs
 rep:KE.rep (fun k=>o+1≤k∧k<W.heap.size∧v'.ownBlock≠some k) W x cs
 pw:PW W g S q
 bx:W.heap[b]?= some (Ab #[Ae (some ⟨g,0,none⟩)] 83 (0,0))
 out:W.heap[o]?= some (Ab #[u] 225 (0,0))
 up:JK (fun k=>k=g∨o≤k) w W
structure uL (w W:Y) (g b o:Nat) (S:ByteArray) (q:PS) (acc:List Ex) (u v':h):Prop where
 box:TP W g b o acc u v'
 pw:PW W g S q
 up:JK (fun k=>k=g∨o≤k) w W
section
variable {w W w2:Y}{g b o:Nat}{S:ByteArray}{q:PS}{acc:List Ex}{x:Ex}{u v v':h}{cs xs:List h}{z:Nat}
theorem zb6 (y:g<b)(A:b<o)(e:Rdy w W g b o S q acc x v cs z)(n:NF KE (fun k=>o+1≤k∧k<W.heap.size∧v.ownBlock≠some k) W acc xs)(p:W.ownsRow (o+1) 287 5 v acc.length xs)
 (r:w2.ownsRow (o+1) 287 5 v' (acc.length+1) (xs++zE.toList)) (d:W.grownBy w2 v.ownBlock) (s:v'.ownBlock=v.ownBlock∨v'.ownBlock=some W.heap.size):Pt w w2 g b o S q acc x v v' cs xs:=by
 have a:JK (fun k=>v.ownBlock=some k) W w2:=⟨d.os,d.tape,d.output,d.size,fun k l t=>d.block k l (fun q=>t q.symm)⟩;have m:∀ k,(o+1≤k∧k<W.heap.size∧v.ownBlock≠some k)→o+1≤k∧k<w2.heap.size∧v'.ownBlock≠some k:=fun k q=>by
  refine⟨q.1,Ar q.2.1 d.size,?_⟩;rcases s with h|h
  ·rw [h];exact q.2.2
  ·rw [h];intro c;have:W.heap.size=k:=by injection c
   omega
 have i:∀ k,v.ownBlock=some k→o+1≤k:=fun k q=>(Kc p q).1
 have j:∀ k,k≤o→v.ownBlock≠some k:=fun k l q=>by have:=i k q;omega
 refine⟨r,n.upd a (fun k q=>q.2.2) m,KE.upd e.rep a (fun k q=>q.2.2) m,?_,a.heap e.bx (j b (by omega)),a.heap e.out (j o (Aw _)),e.up.trans (a.mono (fun k _ q=>AB (by have:=i k q;omega)))⟩;have f:=e.pw;have u:g≤o:=by omega
 exact⟨f.at_.upd a (j g u),f.tab.upd a (fun k q=>by have:=i k q;have:=f.g13;omega),f.g13,f.hs⟩
theorem Pt.box (h:g<b)(i:b<o)(a:Pt w W g b o S q acc x u v' cs xs):Pt w (W.setCell ⟨o,0,none⟩ v') g b o S q acc x v' v' cs xs:=by
 have d:=JK.setCell (G:=fun k=>k=o) (p:=⟨o,0,none⟩) (JK.refl W) (AB rfl) v';refine⟨KX a.own (fun k f=>d.block k (Kc a.own f).2 (fun c=>by have:=(Kc a.own f).1;have e:k=o:=c;omega)),a.yN1.upd d (fun k q c=>by have e:k=o:=c;omega) (fun k q=>⟨q.1,Ar q.2.1 d.size,q.2.2⟩),KE.upd a.rep d (fun k q c=>by have e:k=o:=c;omega) (fun k q=>⟨q.1,Ar q.2.1 d.size,q.2.2⟩),?_,d.heap a.bx (fun c=>by have e:b=o:=c;omega),JJ a.out 0 v',a.up.trans (d.mono (fun k _ c=>AB (by have e:k=o:=c;omega)))⟩;exact⟨a.pw.at_.upd d (fun c=>by have e:g=o:=c;omega),a.pw.tab.upd d (fun k c=>by have e:k=o:=c;have:=a.pw.g13;omega),a.pw.g13,a.pw.hs⟩
theorem Pt.put (l:g<b)(m:b<o)(d:Pt w W g b o S q acc x u v' cs xs):∃ a cap,v'=J (some ⟨a,0,none⟩) (acc.length+1) cap∧o<a∧a<W.heap.size∧W.there a (acc.length*5) cs.length∧uL w (W.setCells a (acc.length*5) cs) g b o S q (acc++[x]) u v':=by
 obtain⟨a,cap,h1,n,h,i⟩:=RowK.put d.yN1 d.rep d.own;have e:JK (fun k=>k=a) W (W.setCells a (acc.length*5) cs):=VT (G:=fun k=>k=a) rfl _ _ _;have j:=(Kc d.own (g:=a) (by rw [h1];rfl)).2;refine⟨a,cap,h1,by omega,j,h,⟨e.heap d.bx (fun c=>by have f:b=a:=c;omega),e.heap d.out (fun c=>by have f:o=a:=c;omega),i⟩,?_,d.up.trans (e.mono (fun k _ c=>AB (by have f:k=a:=c;omega)))⟩;exact⟨d.pw.at_.upd e (fun c=>by have f:g=a:=c;omega),d.pw.tab.upd e (fun k c=>by have f:k=a:=c;have:=d.pw.g13;omega),d.pw.g13,d.pw.hs⟩
theorem uL.Yb (f:g<b)(h:b<o)(a:uL w W g b o S q acc u v'):uL w (W.setCell ⟨o,0,none⟩ v') g b o S q acc v' v':=by
 have d:=JK.setCell (G:=fun k=>k=o) (p:=⟨o,0,none⟩) (JK.refl W) (AB rfl) v';refine⟨⟨d.heap a.box.bx (fun c=>by have e:b=o:=c;omega),JJ a.box.out 0 v',a.box.row.upd d (fun k q c=>by have e:k=o:=c;omega)⟩,?_,a.up.trans (d.mono (fun k _ c=>AB (by have e:k=o:=c;omega)))⟩;exact⟨a.pw.at_.upd d (fun c=>by have e:g=o:=c;omega),a.pw.tab.upd d (fun k c=>by have e:k=o:=c;have:=a.pw.g13;omega),a.pw.g13,a.pw.hs⟩
end
def z92 (w:Y)(g b o:Nat)(S:ByteArray)(q:PS)(acc:List Ex)(e:BX)(w':Y):Prop:=e=Ak (AZ #[])∧∃ v,uL w w' g b o S q acc v v
theorem zb7 {g b o:Nat}{S:ByteArray}{p q:PS}{x:Ex}{acc:List Ex}{v:h}{w:Y}(f:g<b)(i:b<o)(hz:acc.length≤1000)
 (h6:∀ W,PW W g S p→As prog 176 #[Ae (some ⟨g,0,none⟩),V Ad 1] W (Su W g S q x)) (h7:PW w g S p) (H:TP w g b o acc v v):
 As prog 252 #[Ae (some ⟨o,0,none⟩),Ae (some ⟨b,0,none⟩)] w (z92 w g b o S q (acc++[x])):=by
 obtain⟨h8,h9,ha,hb,hc⟩:=info_parts yV8;have hd:=D h9;have he:=D ha;have hf:=D hb;have hg:=D hc;have hh:=D h6;have hi:=D h7;have hj:=D H;have hn:=D (JA H.out 0);have ho:=D (JA H.bx 0);have hk:AA (acc.length+1≤Bk):=D (by unfold Bk;omega);have hl:AA ((acc.length+1)*64≤140737488355328):=D (by omega);obtain⟨x0,hm⟩:=H.row.own;have hp:∃ A c,v=J A acc.length c:=by obtain⟨A,c,d,_⟩:=K7 hm;exact⟨A,c,d⟩
 obtain⟨h0,c0,hq⟩:=hp;have x1:(acc.length:Int)<(acc.length:Int)+1:=by omega
 clear h9 ha hb hc h6 h7 H hm;subst hq;go_enter func252,ntmps252;refine JX.go (fun w'=>w'.cell? ⟨o,0,none⟩=some (J h0 acc.length c0)∧w'.cell? ⟨b,0,none⟩=some (Ae (some ⟨g,0,none⟩))) [5,6,7,8] (⟨hn.out,ho.out⟩) (fun j=>?_)
 iterate 2 refine JC j ?_
 refine KM 3 j ?_
 refine Nl (rs:=[2,4]) (by kernel_rfl) (by simp) ?_
 refine(Lm.cons (o:={dst:=some 4,op:=_,type:=_,pos:=_,after:=_,guard:=_}) rfl (fun K a=>?_) (Lm.cons (o:={dst:=some 6,op:=_,type:=_,pos:=_,after:=_,guard:=_}) rfl (fun K a=>?_) Lm.nil))
 ·go_simp;(with_reducible refine(hh.out _ (hi.out.ext ((Ext.refl w).drew))).mono ?_)
  rintro e w1 ⟨⟨cs,rfl,I⟩,L,F⟩;have G:=D F;have hr:=D I;have hs:=D L;clear I L F;refine a.out _ _ (fun _=>?_) (fun M=>?_)
  ·exact⟨G.out.cell j.1 (by show ¬o=g;omega),G.out.cell j.2 (by show ¬b=g;omega)⟩
  have j:=M (by simp);clear a K M;refine JX.rd 4 (fun K a=>?_);go_simp;have m:=D (yo7 f i hj.out hs.out G.out hr.out 287);refine a.out _ _ ?_ (fun j=>?_)
  ·exact⟨((Ext.refl _).alloc _).cell j.1,((Ext.refl _).alloc _).cell j.2⟩
  clear a K;refine QN 5 (fun K a=>?_);obtain⟨xs,s,N⟩:=m.out.row;refine MI rfl _ _ 225 rfl (o+1) 287 h8 (AN zE) 5 64 underlying225 hd.out he.out hf.out hg.out rfl (by decide) (J h0 acc.length c0) acc.length xs (by rfl) s (some ⟨_,0,none⟩) 1 1 zE.toList (by rfl) m.out.zero rfl zI5 hk.out hl.out (m.out.base) ?_
  intro v' w2 O P Q;have k:=D (zb6 f i m.out N s O P Q);clear s N O P Q;obtain⟨h1,cap,t,ht,hu,R,T⟩:=k.out.put f i;have h2:=D R;have l:=D T;obtain⟨n,h3,r,_,_,u,y⟩:=(k.out.box f i).put f i;rw [t]at r;have h4:n=h1:=by injection r with U;injection U with X;injection X with z;exact z.symm
  have h5:h3=cap:=by injection r with U X z;exact z.symm
  subst h4 h5;rw [t]at u y;have Z:=D u;have B:=D y;have hv:=JF k.out.out 0;have hw:=bk k.out.out 0;have hx:=JF l.out.box.out 0;have hy:=bk l.out.box.out 0;have C:=D (KE.len k.out.rep);have E:=D (Np (KE.one k.out.rep));subst t;clear R T u y r;refine a.out _ _ ?_
  clear a K;refine Nl (rs:=[6,8]) (by kernel_rfl) (by simp) ?_
  refine(Lm.cons (o:={dst:=some 8,op:=_,type:=_,pos:=_,after:=_,guard:=_}) rfl (fun K a=>?_) (Lm.cons (o:={dst:=none,op:=_,type:=_,pos:=_,after:=_,guard:=_}) rfl (fun K a=>?_) Lm.nil))
  ·go_simp;refine a.out _ _ (fun d=>absurd d (by simp)) (fun _=>?_);clear a K;refine Nl (rs:=[7,8]) (by kernel_rfl) (by simp) ?_
   refine(Lm.cons (o:={dst:=none,op:=_,type:=_,pos:=_,after:=_,guard:=_}) rfl (fun K a=>?_) (Lm.cons (o:={dst:=none,op:=_,type:=_,pos:=_,after:=_,guard:=_}) rfl (fun K a=>?_) Lm.nil))
   ·refine Ou rfl 287 _ _ rfl n (acc.length*5) cs.toArray (by rfl) (by rfl) (by rw [Bz];exact h2.out) (by rw [Bz,C.out];exact Ki) E.out ?_
    refine a.out _ _ (fun d=>absurd d (by simp)) (fun _=>?_);clear a K;refine QN 8 (fun K a=>?_);go_simp;refine a.out _ _ ?_
    clear a K;refine JV ?_
    go_end0
    first
     |exact⟨rfl,_,l.out.Yb f i⟩
     |exact⟨rfl,_,B.out⟩
   ·go_simp;refine a.out _ _ (fun d=>absurd d (by simp)) (fun _=>?_);clear a K;refine QN 7 (fun K a=>?_);refine Ou rfl 287 _ _ rfl n (acc.length*5) cs.toArray (by rfl) (by rfl) (by rw [Bz];exact Z.out) (by rw [Bz,C.out];exact Ki) E.out ?_
    refine a.out _ _ ?_
    clear a K;refine JV ?_
    go_end0
    first
     |exact⟨rfl,_,l.out.Yb f i⟩
     |exact⟨rfl,_,B.out⟩
  ·go_simp;refine a.out _ _ (fun d=>absurd d (by simp)) (fun _=>?_);clear a K;refine QN 6 (fun K a=>?_);go_simp;refine a.out _ _ ?_
   clear a K;refine QN 7 (fun K a=>?_);refine Ou rfl 287 _ _ rfl n (acc.length*5) cs.toArray (by rfl) (by rfl) (by rw [Bz];exact Z.out) (by rw [Bz,C.out];exact Ki) E.out ?_
   refine a.out _ _ ?_
   clear a K;refine JV ?_
   go_end0
   first
    |exact⟨rfl,_,l.out.Yb f i⟩
    |exact⟨rfl,_,B.out⟩
 ·go_simp;refine a.out _ _ (fun _=>?_) (fun M=>?_)
  ·exact⟨((Ext.refl _).alloc _).cell j.1,((Ext.refl _).alloc _).cell j.2⟩
  have j:=M (by simp);clear a K M;refine JX.rd 2 (fun K a=>?_);go_simp;(with_reducible refine(hh.out _ (hi.out.ext (((Ext.refl w).alloc _).drew))).mono ?_)
  rintro e w1 ⟨⟨cs,rfl,I⟩,L,F⟩;have G:=D F;have m:=D (yo8 f i hj.out _ L F I);clear I L F;refine a.out _ _ ?_ (fun j=>?_)
  ·exact⟨G.out.cell j.1 (by show ¬o=g;omega),G.out.cell j.2 (by show ¬b=g;omega)⟩
  clear a K;refine QN 5 (fun K a=>?_);obtain⟨xs,s,N⟩:=m.out.row;refine MI rfl _ _ 225 rfl (o+1) 287 h8 (AN zE) 5 64 underlying225 hd.out he.out hf.out hg.out rfl (by decide) (J h0 acc.length c0) acc.length xs (by rfl) s (some ⟨_,0,none⟩) 1 1 zE.toList (by rfl) m.out.zero rfl zI5 hk.out hl.out (m.out.base) ?_
  intro v' w2 O P Q;have k:=D (zb6 f i m.out N s O P Q);clear s N O P Q;obtain⟨h1,cap,t,ht,hu,R,T⟩:=k.out.put f i;have h2:=D R;have l:=D T;obtain⟨n,h3,r,_,_,u,y⟩:=(k.out.box f i).put f i;rw [t]at r;have h4:n=h1:=by injection r with U;injection U with X;injection X with z;exact z.symm
  have h5:h3=cap:=by injection r with U X z;exact z.symm
  subst h4 h5;rw [t]at u y;have Z:=D u;have B:=D y;have hv:=JF k.out.out 0;have hw:=bk k.out.out 0;have hx:=JF l.out.box.out 0;have hy:=bk l.out.box.out 0;have C:=D (KE.len k.out.rep);have E:=D (Np (KE.one k.out.rep));subst t;clear R T u y r;refine a.out _ _ ?_
  clear a K;refine Nl (rs:=[6,8]) (by kernel_rfl) (by simp) ?_
  refine(Lm.cons (o:={dst:=some 8,op:=_,type:=_,pos:=_,after:=_,guard:=_}) rfl (fun K a=>?_) (Lm.cons (o:={dst:=none,op:=_,type:=_,pos:=_,after:=_,guard:=_}) rfl (fun K a=>?_) Lm.nil))
  ·go_simp;refine a.out _ _ (fun d=>absurd d (by simp)) (fun _=>?_);clear a K;refine Nl (rs:=[7,8]) (by kernel_rfl) (by simp) ?_
   refine(Lm.cons (o:={dst:=none,op:=_,type:=_,pos:=_,after:=_,guard:=_}) rfl (fun K a=>?_) (Lm.cons (o:={dst:=none,op:=_,type:=_,pos:=_,after:=_,guard:=_}) rfl (fun K a=>?_) Lm.nil))
   ·refine Ou rfl 287 _ _ rfl n (acc.length*5) cs.toArray (by rfl) (by rfl) (by rw [Bz];exact h2.out) (by rw [Bz,C.out];exact Ki) E.out ?_
    refine a.out _ _ (fun d=>absurd d (by simp)) (fun _=>?_);clear a K;refine QN 8 (fun K a=>?_);go_simp;refine a.out _ _ ?_
    clear a K;refine JV ?_
    go_end0
    first
     |exact⟨rfl,_,l.out.Yb f i⟩
     |exact⟨rfl,_,B.out⟩
   ·go_simp;refine a.out _ _ (fun d=>absurd d (by simp)) (fun _=>?_);clear a K;refine QN 7 (fun K a=>?_);refine Ou rfl 287 _ _ rfl n (acc.length*5) cs.toArray (by rfl) (by rfl) (by rw [Bz];exact Z.out) (by rw [Bz,C.out];exact Ki) E.out ?_
    refine a.out _ _ ?_
    clear a K;refine JV ?_
    go_end0
    first
     |exact⟨rfl,_,l.out.Yb f i⟩
     |exact⟨rfl,_,B.out⟩
  ·go_simp;refine a.out _ _ (fun d=>absurd d (by simp)) (fun _=>?_);clear a K;refine QN 6 (fun K a=>?_);go_simp;refine a.out _ _ ?_
   clear a K;refine QN 7 (fun K a=>?_);refine Ou rfl 287 _ _ rfl n (acc.length*5) cs.toArray (by rfl) (by rfl) (by rw [Bz];exact Z.out) (by rw [Bz,C.out];exact Ki) E.out ?_
   refine a.out _ _ ?_
   clear a K;refine JV ?_
   go_end0
   first
    |exact⟨rfl,_,l.out.Yb f i⟩
    |exact⟨rfl,_,B.out⟩
def Ps (g:Nat)(S:ByteArray)(n:Nat):Prop:=∀ (least:Nat)(p:PS)(e:Ex)(q:PS)(w:Y),M3 n least p=some (e,q)→PW w g S p→As prog 176 #[Ae (some ⟨g,0,none⟩),V Ad least] w (Su w g S q e)
def je (g:Nat)(S:ByteArray)(n:Nat):Prop:=∀ (p:PS)(e:Ex)(q:PS)(w:Y),XP n p=some (e,q)→PW w g S p→As prog 223 #[Ae (some ⟨g,0,none⟩)] w (Su w g S q e)
def zb8 {α:Type}(K:Kind α)(w:Y)(g:Nat)(S:ByteArray)(q:PS)(l:List α)(e:BX)(w':Y):Prop:=
 (∃v,e=Ak v∧Ju K (fun k=>w.heap.size≤k∧k<w'.heap.size) w' l v)∧PW w' g S q∧PX g w w'
def TQ (g:Nat)(S:ByteArray)(n:Nat):Prop:=∀ (p:PS)(l:List Ex)(q:PS)(w:Y),Vl n p=some (l,q)→PW w g S p→As prog 222 #[Ae (some ⟨g,0,none⟩)] w (zb8 KE w g S q l)
theorem Mh {w:Y}{g:Nat}{S:ByteArray}{p q:PS}{s:Bs}(c:PW w g S p)(d:KD s p=some q){b:Nat}(e:w.heap[b]?= some (Ab #[Aa (str s)] 9 (0,0)))(f:b≠g):
 As prog 88 #[Ae (some ⟨g,0,none⟩),J (some ⟨b,0,none⟩) 1 1] w (fU w g S q (AZ #[])):=by
 refine oq (l:=[s]) c (by unfold WS WS;rw [d]) b 0 1 f (by simp) (fun j t a=>?_);rw [JA e];cases j with
 |zero=>cases a;rfl
 |succ j=>simp at a
theorem aD {w:Y}{g:Nat}{S:ByteArray}{p q c:PS}{s t:Bs}(d:PW w g S p)(e:KD s p=some q)(f:KD t q=some c){b:Nat}(h:w.heap[b]?= some (Ab #[Aa (str s),Aa (str t)] 9 (0,0)))(i:b≠g):
 As prog 88 #[Ae (some ⟨g,0,none⟩),J (some ⟨b,0,none⟩) 2 2] w (fU w g S c (AZ #[])):=by
 refine oq (l:=[s,t]) d (by unfold WS;rw [e];dsimp only;unfold WS WS;rw [f]) b 0 2 i (by simp) (fun j u a=>?_);rw [JA h];cases j with
 |zero=>cases a;rfl
 |succ j=>
  cases j with
  |zero=>cases a;rfl
  |succ j=>simp at a
theorem TP.upd {W c:Y}{g b o:Nat}{acc:List Ex}{v:h}{G:Nat→Prop}(a:TP W g b o acc v v)(u:JK G W c)(e:¬ G b)(d:∀ k,o≤k→¬ G k):TP c g b o acc v v:=
 ⟨u.heap a.bx e,u.heap a.out (d o (Aw _)),a.row.upd u (fun k f=>d k (by omega))⟩
theorem z94 {g:Nat}{S:ByteArray}{n:Nat}(hb:n≤1000)(j:∀ m,m<n→Ps g S m):TQ g S n:=by
 intro p l q w a i;cases n with
 |zero=>cases a
 |succ n=>
  rw [Vl]at a;have N:=i.lt;have r:=D (fun(W:Y) (x:Ext w W)=>zI0 g S p [41] W (i.ext x).at_);have O:=D i;split at a
  ·rename_i f;rw [f]at r;split at a
   ·cases a
   ·rename_i P c;cases a;have Q:=D (fun(W:Y) (x:Ext w W) (b:Nat) (f:W.heap[b]?= some (Ab #[Aa (str [41])] 9 (0,0))) (R:b≠g)=>Mh (i.ext x) (show KD [41] p=some q by unfold KD;rw [if_pos (by assumption)];exact c) f R);clear c f i j;go_enter func222,ntmps222;go_wp2_with fail;refine(r _ (((Ext.refl w).alloc _).alloc _)).mono ?_
    rintro e T ⟨rfl,rfl⟩;go_wp2_with fail;refine(Q _ ((((Ext.refl w).alloc _).alloc _).alloc _) _ (by have:=Aj ((w.alloc (Ab #[Ae (some ⟨g,0,none⟩)] 83)).alloc (Ab #[J none 0 0] 225)) (Ab #[Aa (str [41])] 9);simpa using this) (by omega)).mono ?_
    rintro e d ⟨rfl,s,h⟩;have U:d.cell? ⟨w.heap.size+1,0,none⟩=some (J none 0 0):=h.cell (((Ext.refl _).alloc _).cell (JA (Ay w _ _) 0)) (by show ¬w.heap.size+1=g;omega);have X:=D s;have j:=D ((Gl ((((Ext.refl w).alloc _).alloc _).alloc _)).trans h);clear s h;go_wp2_with fail;go_ret;exact⟨⟨_,rfl,Ju.nil _ _ _⟩,X,j⟩
  ·rename_i f;have o:JZ [41] p=false:=by simpa using f
   rw [o]at r;split at a
   ·cases a
   ·rename_i hc t u;split at a
    ·cases a
    ·rename_i P c;cases a;rw [ow]at u;have Z:=D u;have h0:=D c;clear c f o u;have h1:=D j;clear j i;go_enter func222,ntmps222;go_wp2_with fail;refine(r _ (((Ext.refl w).alloc _).alloc _)).mono ?_
     rintro e T ⟨rfl,rfl⟩;have h2:AA (TP ((w.alloc (Ab #[Ae (some ⟨g,0,none⟩)] 83)).alloc (Ab #[J none 0 0] 225)) g w.heap.size (w.heap.size+1) [] (J none 0 0) (J none 0 0)):=D ⟨AP w _ _,Ay w _ _,RowK.nil _ _ _ _⟩;have h3:=D (O.ext ((((Ext.refl w).alloc (Ab #[Ae (some ⟨g,0,none⟩)] 83))).alloc (Ab #[J none 0 0] 225)));have h4:=D (zI4 (fun m=>M3 m 1) g S n 252 #[Ae (some ⟨w.heap.size+1,0,none⟩),Ae (some ⟨w.heap.size,0,none⟩)] (F8 func252 (by kernel_rfl) rfl) (fun k=>k=g∨w.heap.size+1≤k) (AO rfl)
      (fun acc W=>∃ v,TP W g w.heap.size (w.heap.size+1) acc v v)
      (fun acc W hd ⟨v,y⟩ h=>⟨v,y.upd h (fun q=>by have q2:w.heap.size=g:=q;omega) (fun k z q=>by have q2:k=g:=q;omega)⟩)
      (fun m acc p1 x t W a h s ⟨v,y⟩=>(zb7 N (by omega) (by omega) (fun h5 h6=>h1 m (by omega) 1 p1 x t h5 h h6) s y).mono (fun e w' c=>⟨c.1,by obtain⟨E,A⟩:=c.2;exact⟨A.pw,⟨E,A.box⟩,A.up⟩⟩))
      p l t _ Z h3 ⟨_,h2⟩)
     go_wp2_with fail;refine h4.mono ?_
     rintro e d ⟨rfl,F,⟨E,o⟩,B⟩;have h7:=D F;have H:=D o;have h8:=D B;have he:w.heap.size+2≤d.heap.size:=by have:=B.size;simpa using this
     have hf:=bk H.bx 0;clear F o B;go_wp2_with fail;refine(Mh (h7.ext ((Ext.refl d).alloc _)) h0 (b:=d.heap.size) (Aj d _) (by omega)).mono ?_
     rintro e I ⟨rfl,K,L⟩;have h9:=D K;have C:PX g d I:=(Gl ((Ext.refl d).alloc _)).trans L;have M:=D (H.upd C (fun q=>by have q2:w.heap.size=g:=q;omega) (fun k z q=>by have q2:k=g:=q;omega));have ha:AA (PX g w I):=D (((Gl (((Ext.refl w).alloc _).alloc _)).trans ((h8.mono (fun k z q=>q)).trans (C.mono (fun k _ q=>AO q)))).mono (fun k z q=>by
      rcases q with q|q
      ·exact q
      ·omega))
     have U:=bk M.out.out 0;clear K L C;go_wp2_with fail;go_ret;exact⟨⟨_,rfl,(M.row.sl).upd (JK.refl (G:=fun _=>False) _) (fun _ _ q=>q) (fun k q=>⟨by omega,q.2⟩)⟩,h9,ha⟩
theorem VF (op:Nat)(w:Y)(a:op≤21):As prog 225 #[V Ad op] w (Ret (V Ad (J5 op:Nat)) w):=by
 have hc:op=0∨op=1∨op=2∨op=3∨op=4∨op=5∨op=6∨op=7∨op=8∨op=9∨op=10∨op=11∨op=12∨op=13∨op=14∨op=15∨op=16∨op=17∨op=18∨op=19∨op=20∨op=21:=by omega
 rcases hc with rfl|rfl|rfl|rfl|rfl|rfl|rfl|rfl|rfl|rfl|rfl|rfl|rfl|rfl|rfl|rfl|rfl|rfl|rfl|rfl|rfl|rfl
 all_goals
  go_enter func225,ntmps225;go_wp2;go_ret;exact⟨rfl,rfl⟩
theorem Nq {U:Nat→Prop}{w:Y}{e:Ex}{cs:List h}(b:OV U w e cs):∃ (k op num:Nat)(nm:Bs)(A:Option Bi)(n c:Nat),cs=[V Ad k,V Ad op,V Af num,Aa (str nm),J A n c]:=by
 cases e;rw [OZ]at b;obtain⟨v,rfl,A,c,xs,rfl,_⟩:=b;exact⟨_,_,_,_,_,_,_,rfl⟩
theorem Vr {α:Type}{K:Kind α}{U:Nat→Prop}{w:Y}{x:α}{cs:List h}{z:Nat}{e:AK}(b:w.heap[z]?= some (Ab cs.toArray e (0,0)))(c:K.rep U w x cs)(d:U z):Ju K U w [x] (J (some ⟨z,0,none⟩) 1 1):=by
 refine⟨_,1,cs,rfl,by simp,by simp [Bk],(fun q=>by cases q),⟨?_,fun a f=>by cases f;exact d⟩,cs,[],by simp,c,rfl⟩;intro i u g;refine⟨_,rfl,?_⟩;rw [MW,BF,JA b];simpa using g
theorem uO {α:Type}{K:Kind α}{U:Nat→Prop}{w:Y}{x b:α}{cs ds:List h}{z:Nat}{e:AK}(c:w.heap[z]?= some (Ab (cs++ds).toArray e (0,0)))(d:K.rep U w x cs)(f:K.rep U w b ds)(g:U z):Ju K U w [x,b] (J (some ⟨z,0,none⟩) 2 2):=by
 refine⟨_,2,cs++ds,rfl,by simp,by simp [Bk],(fun q=>by cases q),⟨?_,fun a j=>by cases j;exact g⟩,cs,ds,rfl,d,ds,[],by simp,f,rfl⟩;intro i u k;refine⟨_,rfl,?_⟩;rw [MW,BF,JA c];simpa using k
theorem UG {w W:Y}{g:Nat}{S:ByteArray}{q:PS}{e:Ex}{cs:List h}(f:PX g w W)(a:PW W g S q)(j:g<w.heap.size)(i:OV (fun k=>w.heap.size<k∧k<W.heap.size) W e cs):
 Su w g S q e (Ak (AN cs.toArray)) (W.setRow w.heap.size cs.toArray):=by
 have b:JK (fun k=>k=w.heap.size) W (W.setRow w.heap.size cs.toArray):=JK.setRow (G:=fun k=>k=w.heap.size) (JK.refl W) (AB rfl) _;refine⟨⟨cs,rfl,UU b (fun k q c=>by have d:k=w.heap.size:=c;omega) (fun k q=>⟨by omega,Ar q.2 b.size⟩) e cs i⟩,?_,f.setRow (AO (Aw _)) _⟩;exact⟨a.at_.upd b (fun c=>by have d:g=w.heap.size:=c;omega),a.tab.upd b (fun k c=>by have d:k=w.heap.size:=c;have:=a.g13;omega),a.g13,a.hs⟩
theorem nD (k op:Int)(A:Option Bi)(n c:Nat)(w:Y):(D8 287 #[(0,V Ad k),(1,V Ad op),(4,J A n c)]).run prog w=Ez (AN #[V Ad k,V Ad op,V Af 0,Aa ⟨#[]⟩,J A n c]) w:=by kernel_rfl
theorem VG (k op num:Int)(s:ByteArray)(A:Option Bi)(n c:Nat):(#[V Ad k,V Ad op,V Af num,Aa s,J A n c]:Array h).all (·.oneCell')=true:=by simp [CT]
def dP (p:PS)(k:Nat):Bool:=JZ (MM k) p
theorem z95 {g:Nat}{S:ByteArray}{n op:Nat}(h1:1≤op)(he:op≤3)(A:je g S n){p q l:PS}{x:Ex}{w:Y}(B:∀ j,1≤j→j<op→dP p j=false)(d:dP p op=true)(C:Kh p=some q)(f:XP n q=some (x,l))(h:PW w g S p):
 As prog 223 #[Ae (some ⟨g,0,none⟩)] w (Su w g S l (.mk 6 op 0 [] [x])):=by
 have N:=h.lt;have E:=D (fun(k:Nat) (W:Y) (e:Ext w W) (a:1≤k) (m:k≤3)=>VE k W (h.tab.ext e) a (by omega));have O:=D (fun(k:Nat) (W:Y) (e:Ext w W) (a:1≤k) (m:k<op)=>J8 (h.ext e) (B k a m));have P:=D (fun(W:Y) (e:Ext w W)=>LU (h.ext e) d C);have Q:=D (fun(W:Y) (R:PW W g S q)=>A q x l W f R);clear B d C f h A;go_enter E4,EE;go_wp2;go_loopw [3] (fun s wr=>∃ k:Nat,s=V Ad k∧1≤k∧k≤op∧Ext w wr∧wr.heap[w.heap.size]?= some (Ab zE 287 (0,0))) (fun s _=>4 - (AX s).toNat)
 case atStart=>exact⟨1,rfl,by omega,h1,(Ext.refl w).alloc _,Aj w _⟩
 case round=>
  obtain⟨k,rfl,a,m,f,d⟩:=hrel;have c:=D f;have F:=D d;clear f d;have H:k≤3:=by omega
  by_cases T:k<op
  ·have o:=D (E k wr c a H);have r:=D (O k (wr.alloc (Ab (Jw Pg.ops).toArray 9)) (c.alloc _) a T);have t:=D (c.alloc (Ab (Jw Pg.ops).toArray 9));have u:=D (CE ((Ext.refl wr).alloc (Ab (Jw Pg.ops).toArray 9)) F);generalize str (MM k)=sg at*
   generalize(Jw Pg.ops).toArray=cz at*
   go_wp2_with fail;refine o.out.mono ?_
   rintro e U ⟨rfl,rfl⟩;go_wp2_with fail;refine r.out.mono ?_
   rintro e v ⟨rfl,rfl⟩;go_wp2_with fail;go_roundw
   case rel=>exact⟨k+1,by go_num,by omega,by omega,t,u⟩
   case measure=>simp [AX];omega
  ·have X:k=op:=by omega
   subst X;have o:=D (E k wr c a H);have r:=D (P (wr.alloc (Ab (Jw Pg.ops).toArray 9)) (c.alloc _));have t:=D (c.alloc (Ab (Jw Pg.ops).toArray 9));have u:=D (CE ((Ext.refl wr).alloc (Ab (Jw Pg.ops).toArray 9)) F);generalize Z:str (MM k)=sg at*
   generalize(Jw Pg.ops).toArray=cz at*
   clear Z;go_wp2_with fail;refine o.out.mono ?_
   rintro e U ⟨rfl,rfl⟩;go_wp2_with fail;refine r.out.mono ?_
   rintro e v ⟨rfl,I,y⟩;have h0:=D ((Gl t).trans y);have K:=D (y.heap u (by show ¬w.heap.size=g;omega));have h2:=D I;clear I y;go_wp2_with fail;refine(Q _ h2).mono ?_
   rintro e b ⟨⟨cs,rfl,z⟩,L,i⟩;obtain⟨h3,h4,h5,h6,h7,h8,h9,rfl⟩:=Nq z;have ha:=D (h0.trans i);have hb:=D (i.heap K (by show ¬w.heap.size=g;omega));have hc:=D L;have hd:=D z;have hf:w.heap.size<v.heap.size:=(Ag.1 K).1;have hg:v.heap.size≤b.heap.size:=i.size;clear z L i;have hh:=fun W=>nD 6 k (some ⟨b.heap.size,0,none⟩) 1 1 W
   have M:=D (CE ((Ext.refl b).alloc (Ab #[V Ad h3,V Ad h4,V Af h5,Aa (str h6),J h7 h8 h9] 287)) hb);go_wp2_with (refine L8 rfl rfl rfl M Ki ?_ (h1:=(VG _ _ _ _ _ _ _)));refine K3 D0 Ax Ki (PO M) ?_
   refine UG (cs:=[V Ad 6,V Ad k,V Af 0,Aa ⟨#[]⟩,J (some ⟨b.heap.size,0,none⟩) 1 1]) (ha.alloc _) (hc.ext ((Ext.refl b).alloc _)) N ?_
   rw [OZ];exact⟨_,rfl,Vr (Aj b _) (KE.upd hd (Gl (G:=fun _=>False) ((Ext.refl b).alloc _)) (fun _ _ q=>q) (fun k q=>⟨by omega,by have:=q.2;simp;omega⟩)) ⟨by omega,by simp⟩⟩
end Go.Proofs.YtmkomefmgcpnbaaGreatDoor

import Derived.Test.YtmkomefmgcpnbaaGreatDoorMg9
import Derived.Lib.AppendZerosOnto
import Derived.Lib.SliceRun
import Derived.Lib.Builder
import Derived.Lib.UnsafeStr
set_option linter.all false
set_option maxHeartbeats 12800000
set_option maxRecDepth 100000
namespace Go.Proofs.YtmkomefmgcpnbaaGreatDoor
open Tryz Pg Go Go.Proofs Go.RowKit
open _root_.Array renaming getElem?_eq_some_iff→Ag
open _root_.Bool renaming eq_false_iff→AJ,and_eq_true→Ah
open Go renaming Addr→Bi,Calls→As,TypeId→AK,Value→h,World→Y,heap_alloc2_new→Ay,heap_alloc2_old→AP,maxLen→Bk,Ending→BX,heap_alloc_new→Aj,Program→BR,bodyPost_ret→B1,results→El,undef→Ca,Act→CY,Exit→EY,IntKind→Fv,Operand→CC,Oper→B5,TypeInfo→Ij,execOp→CS,grownCap→Gn,run_underlying→Cq,typeInfo→Ih,wpList_plain→Em,wpList→Dh
open Go.Act renaming put→Au
open Go.Ending renaming returned→Ak
open Go.IntKind renaming i64→Ad,u32→Af,wrap_i64→Im,u8→BJ
open Go.Lib renaming hid→D,strCells→IB
open Go.Obj renaming cells→Ab
open Go.Proofs.Tryz renaming underlying56→Cw,underlying287→Ax,underlying227→AV,underlying34→Bu,underlying3→Bq,func144→IC,underlying124→Et,underlying187→Fo,underlying23→B8,underlying306→Fs,underlying9→A8
open Go.RowKit renaming Hid→AA
open Go.Value renaming agg→AN,int→V,pointer→Ae,slice→J,string→Aa,bool→AE,tuple→AZ
open _root_.List renaming length_append→M,mem_cons→AH,not_mem_nil→Ba,drop_eq_getElem_cons→AR,drop_eq_nil_of_le→DM,getElem?_eq_getElem→Al,getElem?_eq_some_iff→Ao,isEmpty_iff→CL,mem_of_getElem?→AD,sizeOf_lt_of_mem→BQ,all_eq_true→A7,length_map→AI,map_append→Dv,map_cons→B7,map_nil→D2,map_toArray→EZ,mem_map→D4
open _root_.Nat renaming eq_of_beq_eq_true→Ap,le_refl→Aw,lt_of_lt_of_le→Ar,add_assoc→H8,beq→Az,ble→A6,le_of_ble_eq_true→Ai,le_trans→AL,strongRecOn→D1,lt_or_ge→Dg,mul_one→Ht,zero_le→Dd
open _root_.Or renaming inl→AO,inr→AB
open _root_.And renaming intro→Ct
open Go.Proofs renaming intOf→AX
open _root_.SizeOf renaming sizeOf→Aq
open Go.Result renaming ok→Ez,andThen_ok→C3,andThen→BM
open Go.ResultVar renaming tmp→Jt
open Go.Addr renaming add→Fa
open Go.Builtin renaming append_→C8,append→Iq,zeroCells→B3
open Go.Callee renaming builtin→GU
open Go.Instr renaming slice→Hs
open Go.IntWalk renaming i64_in→AU
open Go.Op renaming call→Gy
open Go.Oper renaming wp→Cb,upon_value→IV
open Go.RowKit.Below renaming grown→Hu,heap_setCell→AY
open Go.Sem renaming run_bind→Di,run_pure→D3
open Go.World renaming ownsRow_nil→CQ
open Go.Departure renaming mixedOrders→Fu
open _root_.Option renaming map_eq_some_iff→DP
abbrev Dj (base:Nat)(W:Y)(v1 v2:h):Nat→Prop:=fun k=>base≤k∧k<W.heap.size∧v1.ownBlock≠some k∧v2.ownBlock≠some k
structure Two {α β:Type} (K1:Kind α) (K2:Kind β) (e1 e2:AK) (base:Nat) (W:Y) (l1:List α) (v1:h) (l2:List β) (v2:h):Prop where
 r1:∃ xs,W.ownsRow base e1 K1.size v1 l1.length xs∧NF K1 (Dj base W v1 v2) W l1 xs
 r2:∃ xs,W.ownsRow base e2 K2.size v2 l2.length xs∧NF K2 (Dj base W v1 v2) W l2 xs
 ne:∀ k,v1.ownBlock=some k→v2.ownBlock≠some k
section
variable {α β:Type}{K1:Kind α}{K2:Kind β}{e1 e2:AK}{base:Nat}{W W' w2:Y}{l1:List α}{v1:h}{l2:List β}{v2 v':h}
theorem Two.swap (a:Two K1 K2 e1 e2 base W l1 v1 l2 v2):Two K2 K1 e2 e1 base W l2 v2 l1 v1:=by
 obtain⟨⟨xs,b,d⟩,⟨e,f,g⟩,h⟩:=a;exact⟨⟨e,f,g.upd (JK.refl (G:=fun _=>False) W) (fun _ _ q=>q) (fun k q=>⟨q.1,q.2.1,q.2.2.2,q.2.2.1⟩)⟩,⟨xs,b,d.upd (JK.refl (G:=fun _=>False) W) (fun _ _ q=>q) (fun k q=>⟨q.1,q.2.1,q.2.2.2,q.2.2.1⟩)⟩,fun k q c=>h k c q⟩
theorem Two.upd {G:Nat→Prop}(d:Two K1 K2 e1 e2 base W l1 v1 l2 v2)(u:JK G W W')(a:∀ k,base≤k→¬ G k):Two K1 K2 e1 e2 base W' l1 v1 l2 v2:=by
 obtain⟨⟨xs,b,e⟩,⟨f,c,h⟩,i⟩:=d;exact⟨⟨xs,KX b (fun g q=>u.block g (Kc b q).2 (a g (Kc b q).1)),e.upd u (fun k q=>a k q.1) (fun k q=>⟨q.1,Ar q.2.1 u.size,q.2.2⟩)⟩,
  ⟨f,KX c (fun g q=>u.block g (Kc c q).2 (a g (Kc c q).1)),h.upd u (fun k q=>a k q.1) (fun k q=>⟨q.1,Ar q.2.1 u.size,q.2.2⟩)⟩,i⟩
theorem Two.snoc {x:β}{xs cs:List h}(l:Two K1 K2 e1 e2 base W l1 v1 l2 v2)(u:W.ownsRow base e2 K2.size v2 l2.length xs)(m:NF K2 (Dj base W v1 v2) W l2 xs)(n:K2.rep (Dj base W v1 v2) W x cs)
 (o:w2.ownsRow base e2 K2.size v' (l2.length+1) (xs++cs)) (a:W.grownBy w2 v2.ownBlock) (f:v'.ownBlock=v2.ownBlock∨v'.ownBlock=some W.heap.size):Two K1 K2 e1 e2 base w2 l1 v1 (l2++[x]) v':=by
 have b:JK (fun k=>v2.ownBlock=some k) W w2:=⟨a.os,a.tape,a.output,a.size,fun k p r=>a.block k p (fun q=>r q.symm)⟩;have i:∀ k,Dj base W v1 v2 k→Dj base w2 v1 v' k:=fun k q=>⟨q.1,Ar q.2.1 a.size,q.2.2.1,by
  rcases f with c|c
  ·rw [c];exact q.2.2.2
  ·rw [c]
   intro d
   have:W.heap.size=k:=by injection d
   have:=q.2.1
   omega⟩
 obtain⟨⟨s,e,t⟩,_,j⟩:=l;refine⟨⟨s,KX e (fun g q=>b.block g (Kc e q).2 (j g q)),t.upd b (fun k q=>q.2.2.2) i⟩,⟨xs++cs,by rw [M];exact o,(NF.snoc n m).upd b (fun k q=>q.2.2.2) i⟩,fun k q c=>?_⟩;rcases f with d|d
 ·exact j k q (d▸c)
 ·have h1:=(Kc e q).2;rw [d]at c;have:W.heap.size=k:=by injection c
  omega
theorem Two.lo1 (a:Two K1 K2 e1 e2 base W l1 v1 l2 v2):∀ k,v1.ownBlock=some k→base≤k∧k<W.heap.size:=fun k q=>by
 obtain⟨xs,b,_⟩:=a.r1;exact Kc b q
theorem Two.lo2 (a:Two K1 K2 e1 e2 base W l1 v1 l2 v2):∀ k,v2.ownBlock=some k→base≤k∧k<W.heap.size:=fun k q=>by
 obtain⟨xs,b,_⟩:=a.r2;exact Kc b q
theorem Two.sl1 (a:Two K1 K2 e1 e2 base W l1 v1 l2 v2):Ju K1 (fun k=>base≤k∧k<W.heap.size) W l1 v1:=by
 obtain⟨xs,b,c⟩:=a.r1;exact RowK.sl ⟨xs,b,c.upd (JK.refl (G:=fun _=>False) W) (fun _ _ q=>q) (fun k q=>⟨q.1,q.2.1,q.2.2.1⟩)⟩
theorem Two.sl2 (a:Two K1 K2 e1 e2 base W l1 v1 l2 v2):Ju K2 (fun k=>base≤k∧k<W.heap.size) W l2 v2:=a.swap.sl1
end
abbrev zP:Array h:= #[J none 0 0,J none 0 0]
theorem Sy:(prog.info? 56).map (·.size)=some 2:=by kernel_rfl
def KP:Kind JQ where
 size:=2
 pos:=by omega
 rep:=fun U w x cs=>∃ G F,cs=[G,F]∧Ju KG U w x.globals G∧Ju KF U w x.JY F
 len:=by intro U w x cs a;obtain⟨G,F,rfl,_⟩:=a;rfl
 one:=by
  intro U w x cs a u b;obtain⟨G,F,rfl,h1,e⟩:=a;obtain⟨A,c,rfl⟩:=JB h1;obtain⟨h,d,rfl⟩:=JB e;simp only [AH,Ba,or_false]at b;rcases b with rfl|rfl<;>rfl
 upd:=fun a u f b=>by
  obtain⟨G,F,h1,e,g⟩:=a;exact⟨G,F,h1,e.upd u f b,g.upd u f b⟩
structure V4 (w W:Y) (g:Nat) (S:ByteArray) (q:PS) (gs:List KJ) (fs:List Pg.Fn) (vG vF:h):Prop where
 x:W.heap[w.heap.size+1]?= some (Ab #[vG,vF] 56 (0,0))
 r:W.heap[w.heap.size]?= some (Ab zP 56 (0,0))
 pw:PW W g S q
 px:PX g w W
 two:Two KG KF 112 109 (w.heap.size+2) W gs vG fs vF
section
variable {w W W' w2:Y}{g:Nat}{S:ByteArray}{p q:PS}{gs:List KJ}{fs:List Pg.Fn}{vG vF v':h}{xs cs:List h}
theorem V4.lt (a:V4 w W g S q gs fs vG vF):w.heap.size+1<W.heap.size:=(Ag.1 a.x).1
theorem V4.step (b:V4 w W g S p gs fs vG vF)(h:g<w.heap.size)(d:PX g W W')(f:PW W' g S q):V4 w W' g S q gs fs vG vF:=
 ⟨d.heap b.x (fun c=>by have e:w.heap.size+1=g:=c;omega),d.heap b.r (fun c=>by have e:w.heap.size=g:=c;omega),f,b.px.trans d,b.two.upd d (fun k i c=>by have e:k=g:=c;omega)⟩
theorem V4.grow {v:h}(a:V4 w W g S q gs fs vG vF)(j:g<w.heap.size)(b:∀ k,v.ownBlock=some k→w.heap.size+2≤k∧k<W.heap.size)(d:W.grownBy w2 v.ownBlock):w2.heap[w.heap.size+1]?= some (Ab #[vG,vF] 56 (0,0))∧w2.heap[w.heap.size]?= some (Ab zP 56 (0,0))∧PW w2 g S q∧PX g w w2:=by
 have e:JK (fun k=>v.ownBlock=some k) W w2:=⟨d.os,d.tape,d.output,d.size,fun k f i=>d.block k f (fun q=>i q.symm)⟩;refine⟨e.heap a.x (fun c=>by have:=b _ c;omega),e.heap a.r (fun c=>by have:=b _ c;omega),⟨a.pw.at_.upd e (fun c=>by have:=b _ c;omega),a.pw.tab.upd e (fun k c=>by have:=b _ c;have:=a.pw.g13;omega),a.pw.g13,a.pw.hs⟩,?_⟩;exact((a.px.mono (G':=fun k=>k=g∨w.heap.size≤k) (fun k _ c=>AO c)).trans (e.mono (fun k _ c=>AB (by have:=b _ c;omega)))).mono (fun k f c=>by rcases c with c|c;exact c;omega)
theorem V4.put (s:g<w.heap.size)(h1:w2.heap[w.heap.size+1]?= some (Ab #[vG,vF] 56 (0,0)))(m:w2.heap[w.heap.size]?= some (Ab zP 56 (0,0)))(a:PW w2 g S q)(n:PX g w w2){j:List KJ}{l:List Pg.Fn}{d e u:h}(i:Nat)(o:(#[vG,vF]:Array h).setIfInBounds i u= #[d,e])
 (r:Two KG KF 112 109 (w.heap.size+2) w2 j d l e):V4 w (w2.setCell ⟨w.heap.size+1,i,none⟩ u) g S q j l d e:=by
 have b:=JK.setCell (G:=fun k=>k=w.heap.size+1) (p:=⟨w.heap.size+1,i,none⟩) (JK.refl w2) (AB rfl) u;refine⟨by rw [←o];exact JJ h1 i u,b.heap m (fun c=>by have f:w.heap.size=w.heap.size+1:=c;omega),?_,n.setCell (p:=⟨w.heap.size+1,i,none⟩) (AO (by show w.heap.size≤w.heap.size+1;omega)) u,r.upd b (fun k t c=>by have f:k=w.heap.size+1:=c;omega)⟩;exact⟨a.at_.upd b (fun c=>by have f:g=w.heap.size+1:=c;omega),a.tab.upd b (fun k c=>by have f:k=w.heap.size+1:=c;have:=a.g13;omega),a.g13,a.hs⟩
end
theorem zf1 {U:Nat→Prop}{w:Y}{x:Pg.Fn}{cs:List h}(b:KF.rep U w x cs):∃ (s:ByteArray)(A:Option Bi)(n c:Nat)(a:Option Bi)(m d:Nat)(C:Option Bi)(p f:Nat),cs=[Aa s,J A n c,J a m d,J C p f]:=by
 obtain⟨P,L,a,rfl,h1,e,g⟩:=b;obtain⟨A,c,rfl⟩:=JB h1;obtain⟨i,j,rfl⟩:=JB e;obtain⟨k,l,rfl⟩:=JB g;exact⟨_,_,_,_,_,_,_,_,_,_,rfl⟩
theorem zf2 {U:Nat→Prop}{w:Y}{x:KJ}{cs:List h}(a:KG.rep U w x cs):∃ (k:Int)(s:ByteArray)(m:Int)(A:Option Bi)(n c:Nat),cs=[V Ad k,Aa s,V Af m,J A n c]:=by
 obtain⟨v,rfl,h1⟩:=a;obtain⟨A,c,rfl⟩:=JB h1;exact⟨_,_,_,_,_,_,rfl⟩
theorem zR {g:Nat}{S:ByteArray}{n:Nat}(xw:n≤1000){p:PS}{x:JQ}(ht:UR n [] [] p=some x){w:Y}(hd:PW w g S p):
 As prog 33 #[Ae (some ⟨g,0,none⟩)] w fun e w'=>(∃cs:List h,e=Ak (AN cs.toArray)∧KP.rep (fun k=>w.heap.size≤k∧k<w'.heap.size) w' x cs)∧(∃q,PW w' g S q)∧PX g w w':=by
 obtain⟨x9,hu,hv,hw,hx⟩:=info_parts yB3;obtain⟨xa,hy,hz,x0,x1⟩:=info_parts yY1;have xb:=D hu;have xc:=D hv;have xd:=D hw;have xe:=D hx;have xf:=D hy;have xg:=D hz;have xh:=D x0;have xi:=D x1;have C:=hd.lt;have xx:=hd.g13;have he:=D ht;have x2:AA (V4 w ((w.alloc (Ab zP 56)).alloc (Ab zP 56)) g S p [] [] (J none 0 0) (J none 0 0)):=D ⟨Ay w _ _,AP w _ _,hd.ext (((Ext.refl w).alloc _).alloc _),Gl (((Ext.refl w).alloc _).alloc _),
  ⟨⟨[],⟨by simp,AO ⟨rfl,rfl⟩⟩,rfl⟩,⟨[],⟨by simp,AO ⟨rfl,rfl⟩⟩,rfl⟩,fun k c=>by cases c⟩⟩
 clear hu hv hw hx hy hz x0 x1 ht hd;go_enter func33,ntmps33;go_wp2
 go_loopg [] n (fun gf xj=>∃ (m:Nat) (gs:List KJ) (fs:List Pg.Fn) (z:PS) (vG vF:h),m≤gf∧gs.length+fs.length+m≤n∧AA (UR m gs fs z=some x)∧AA (V4 w xj g S z gs fs vG vF))
 case atStart=>exact⟨n,[],[],p,_,_,Aw _,by simp,he,x2⟩
 case round=>
  clear he x2;obtain⟨m,gs,fs,z,vG,vF,xy,xz,he,d⟩:=hrel;have f:=he.out;obtain⟨F,H,xk⟩:=JB d.out.two.sl1;obtain⟨Q,R,xl⟩:=JB d.out.two.sl2;subst xk xl;cases m with
  |zero=>cases f
  |succ m=>
   rw [UR]at f;have c1:wr.cell? ⟨g,1,none⟩=some (V Ad z.tok.kind):=JA d.out.pw.at_.b 1
   split at f
   ·rename_i h3;have T:z.tok.kind=0:=Ap h3;rw [T]at c1;cases f;clear h3 T;have y0:=bk d.out.r 0;have y1:=bk d.out.r 1;have y2:=JF d.out.r 0;have f1:=JF d.out.r 1;have y3:=bk d.out.x 0;have y4:=bk d.out.x 1;go_wp2_with fail;refine K3 results33 Cw Sy (JJ (JJ d.out.r 0 _) 1 _) ?_
    have xm:JK (fun k=>k=w.heap.size) wr (wr.setCell ⟨w.heap.size,0,none⟩ (J F gs.length H)):=JK.setCell (G:=fun k=>k=w.heap.size) (p:=⟨w.heap.size,0,none⟩) (JK.refl wr) (AB rfl) _;have h4:JK (fun k=>k=w.heap.size) wr ((wr.setCell ⟨w.heap.size,0,none⟩ (J F gs.length H)).setCell ⟨w.heap.size,1,none⟩ (J Q fs.length R)):=JK.setCell (G:=fun k=>k=w.heap.size) (p:=⟨w.heap.size,1,none⟩) xm (AB rfl) _;have x3:=h4.size;have A:=d.out.pw;refine⟨⟨[J F gs.length H,J Q fs.length R],rfl,_,_,rfl,d.out.two.sl1.upd h4 (fun k q c=>by have hg:k=w.heap.size:=c;have:=q.1;omega) (fun k q=>⟨by have:=q.1;omega,Ar q.2 x3⟩),d.out.two.sl2.upd h4 (fun k q c=>by have hg:k=w.heap.size:=c;have:=q.1;omega) (fun k q=>⟨by have:=q.1;omega,Ar q.2 x3⟩)⟩,⟨z,A.at_.upd h4 (fun c=>by have hg:g=w.heap.size:=c;omega),A.tab.upd h4 (fun k c=>by have hg:k=w.heap.size:=c;omega),A.g13,A.hs⟩,(d.out.px.setCell (p:=⟨w.heap.size,0,none⟩) (AO (Aw _)) _).setCell (p:=⟨w.heap.size,1,none⟩) (AO (Aw _)) _⟩
   ·rename_i h3;have T:((z.tok.kind:Int)==0)=false:=by
     have:z.tok.kind≠0:=fun c=>h3 (by rw [c];rfl)
     simp;omega
    obtain⟨hf,rfl⟩:∃ hf,gk=hf+1:=⟨gk - 1,by omega⟩;obtain⟨y5,x4⟩:=JH z.tok.kind;rw [←x4]at c1 T;clear x4 h3;split at f
    ·rename_i h5;split at f
     ·cases f
     rename_i xn x5;split at f
     ·cases f
     rename_i xo hh A;have hi:=D f;have h6:=D (LU d.out.pw h5 x5);have hj:=D (fun(W:Y) (hk:PW W g S xn)=>yX3 (n:=m) (by omega) (zQ2 g S m (by omega)).2.1 A hk);clear f h5 x5 A;go_wp2_with fail;refine h6.out.mono ?_
     rintro e B ⟨rfl,x6,x7⟩;have j:=D (d.out.step C x7 x6);clear x6 x7 h6 c1 T;have hl:=bk j.out.x 1;go_upto_region 4 with fail;refine JX.go (fun w'=>w'.cell? ⟨w.heap.size+1,1,none⟩=some (J Q fs.length R)) [7] hl (fun i=>?_)
     iterate 3 refine JC i ?_
     refine JM (fun K a=>?_);go_simp;(with_reducible refine(hj.out _ (j.out.pw.ext ((Ext.refl B).drew))).mono ?_)
     rintro e w2 ⟨⟨cs,rfl,I⟩,h7,L⟩;obtain⟨l,o,s,t,U,v,X,Z,h0,h1,rfl⟩:=zf1 I;have N:=D (j.out.step C ((Gl ((Ext.refl B).drew)).trans L) h7);refine a.out _ _ ?_ (fun i=>?_)
     ·exact L.cell i (by show ¬w.heap.size+1=g;omega)
     clear a K;refine JM (fun K a=>?_);go_simp;have E:=D (N.out.step C (Gl ((Ext.refl w2).alloc (Ab #[Aa l,J o s t,J U v X,J Z h0 h1] 109))) (N.out.pw.ext ((Ext.refl w2).alloc _)));have hm:=D (RJ (W:=w2) (e:=109) rfl [Aa l,J o s t,J U v X,J Z h0 h1]);have xp:=j.out.lt;have xq:B.heap.size≤w2.heap.size:=L.size;have h8:=D (KF.upd (U':=Dj (w.heap.size+2) (w2.alloc (Ab #[Aa l,J o s t,J U v X,J Z h0 h1] 109)) (J F gs.length H) (J Q fs.length R)) I (Gl (G:=fun _=>False) ((Ext.refl w2).alloc (Ab #[Aa l,J o s t,J U v X,J Z h0 h1] 109))) (fun _ _ q=>q) (fun k q=>by
      have xr:B.heap.size≤k:=q.1
      refine⟨by omega,by have:=q.2;simp;omega,fun c=>?_,fun c=>?_⟩
      ·have:=(j.out.two.lo1 k c).2;omega
      ·have:=(j.out.two.lo2 k c).2;omega))
     have hn:AA (w.heap.size+2≤(w2.alloc (Ab #[Aa l,J o s t,J U v X,J Z h0 h1] 109)).heap.size):=D (by simp;omega);refine a.out _ _ ?_ (fun i=>?_)
     ·exact((Ext.refl _).alloc _).cell i
     clear a K
     try simp only [Au,pA,pB,pC]
     refine JM (fun K a=>?_);obtain⟨xs,h9,ha⟩:=E.out.two.r2;have hb:=D h9;have ho:=D ha;clear h9 ha;refine MI rfl _ _ 54 rfl (w.heap.size+2) 109 x9 (AN #[Aa ⟨#[]⟩,J none 0 0,J none 0 0,J none 0 0]) 4 88 underlying54 xb.out xc.out xd.out xe.out rfl (by decide) (J Q fs.length R) fs.length xs (by rfl) hb.out (some ⟨w2.heap.size,0,none⟩) 1 1 [Aa l,J o s t,J U v X,J Z h0 h1] (by rfl) hm.out rfl (KF.one h8.out) (by unfold Bk;omega) (by omega) hn.out ?_
     intro v' xt O P hc;obtain⟨hp,c1,hq, -⟩:=K7 O;subst hq;have y:=D (E.out.grow C E.out.two.lo2 P);have hr:=D (V4.put C y.out.1 y.out.2.1 y.out.2.2.1 y.out.2.2.2 (u:=J hp (fs.length+1) c1) 1 rfl (E.out.two.snoc hb.out ho.out h8.out O P hc));have xu:=JF y.out.1 1;clear O P hc I h7 N;refine a.out _ _ ?_ (fun i=>?_)
     ·exact JA y.out.1 1
     clear a K
     try simp only [Au,pA,pB,pC]
     refine JC i ?_
     try simp only [Au,pA,pB,pC]
     refine JX.fn (fun K a=>?_);go_simp;refine a.out _ _ ?_
     clear a K
     try simp only [Au,pA,pB,pC]
     refine JV ?_
     go_wp2_with fail
     go_roundg hf
     case measure=>omega
     case rel=>exact⟨m,gs,_,hh,_,_,by omega,by rw [M];simp;omega,hi,hr⟩
    ·rename_i h5;have x8:=AJ.2 h5;split at f
     ·cases f
     rename_i xo hh A;have hi:=D f;have h6:=D (J8 d.out.pw x8);have hj:=D (fun(W:Y) (hk:PW W g S z)=>yY5 (n:=m) (by omega) hk A);clear f h5 x8 A;go_wp2_with fail;refine h6.out.mono ?_
     rintro e B ⟨rfl,xv⟩;subst xv;have j:=D d.out;have y6:=Aw B.heap.size;clear h6 c1 T;have hl:=bk j.out.x 0;go_upto_region 5 with fail;refine JX.go (fun w'=>w'.cell? ⟨w.heap.size+1,0,none⟩=some (J F gs.length H)) [7] hl (fun i=>?_)
     iterate 3 refine JC i ?_
     try simp only [Au,pA,pB,pC]
     refine JM (fun K a=>?_);go_simp;(with_reducible refine(hj.out _ (j.out.pw.ext ((Ext.refl B).drew))).mono ?_)
     rintro e w2 ⟨⟨cs,rfl,I⟩,h7,L⟩;obtain⟨h2,l,v,o,s,t,rfl⟩:=zf2 I;have N:=D (j.out.step C ((Gl ((Ext.refl B).drew)).trans L) h7);refine a.out _ _ ?_ (fun i=>?_)
     ·exact L.cell i (by show ¬w.heap.size+1=g;omega)
     clear a K
     try simp only [Au,pA,pB,pC]
     refine JM (fun K a=>?_);go_simp;have E:=D (N.out.step C (Gl ((Ext.refl w2).alloc (Ab #[V Ad h2,Aa l,V Af v,J o s t] 112))) (N.out.pw.ext ((Ext.refl w2).alloc _)));have hm:=D (RJ (W:=w2) (e:=112) rfl [V Ad h2,Aa l,V Af v,J o s t]);have xp:=j.out.lt;have xq:B.heap.size≤w2.heap.size:=L.size;have h8:=D (KG.upd (U':=Dj (w.heap.size+2) (w2.alloc (Ab #[V Ad h2,Aa l,V Af v,J o s t] 112)) (J F gs.length H) (J Q fs.length R)) I (Gl (G:=fun _=>False) ((Ext.refl w2).alloc (Ab #[V Ad h2,Aa l,V Af v,J o s t] 112))) (fun _ _ q=>q) (fun k q=>by
      have xr:B.heap.size≤k:=q.1
      refine⟨by omega,by have:=q.2;simp;omega,fun c=>?_,fun c=>?_⟩
      ·have:=(j.out.two.lo1 k c).2;omega
      ·have:=(j.out.two.lo2 k c).2;omega))
     have hn:AA (w.heap.size+2≤(w2.alloc (Ab #[V Ad h2,Aa l,V Af v,J o s t] 112)).heap.size):=D (by simp;omega);refine a.out _ _ ?_ (fun i=>?_)
     ·exact((Ext.refl _).alloc _).cell i
     clear a K
     try simp only [Au,pA,pB,pC]
     refine JM (fun K a=>?_);obtain⟨xs,h9,ha⟩:=E.out.two.r1;have hb:=D h9;have ho:=D ha;clear h9 ha;refine MI rfl _ _ 53 rfl (w.heap.size+2) 112 xa (AN zG) 4 56 underlying53 xf.out xg.out xh.out xi.out rfl (by decide) (J F gs.length H) gs.length xs (by rfl) hb.out (some ⟨w2.heap.size,0,none⟩) 1 1 [V Ad h2,Aa l,V Af v,J o s t] (by rfl) hm.out rfl (KG.one h8.out) (by unfold Bk;omega) (by omega) hn.out ?_
     intro v' xt O P hc;obtain⟨hp,c1,hq, -⟩:=K7 O;subst hq;have y:=D (E.out.grow C E.out.two.lo1 P);have hr:=D (V4.put C y.out.1 y.out.2.1 y.out.2.2.1 y.out.2.2.2 (u:=J hp (gs.length+1) c1) 0 rfl (E.out.two.swap.snoc hb.out (ho.out.upd (JK.refl (G:=fun _=>False) _) (fun _ _ q=>q) (fun k q=>⟨q.1,q.2.1,q.2.2.2,q.2.2.1⟩)) (KG.upd h8.out (JK.refl (G:=fun _=>False) _) (fun _ _ q=>q) (fun k q=>⟨q.1,q.2.1,q.2.2.2,q.2.2.1⟩)) O P hc).swap);have xu:=JF y.out.1 0;clear O P hc I h7 N;refine a.out _ _ ?_ (fun i=>?_)
     ·exact JA y.out.1 0
     clear a K
     try simp only [Au,pA,pB,pC]
     refine JC i ?_
     try simp only [Au,pA,pB,pC]
     refine JX.fn (fun K a=>?_);go_simp;refine a.out _ _ ?_
     clear a K
     try simp only [Au,pA,pB,pC]
     refine JV ?_
     go_wp2_with fail
     go_roundg hf
     case measure=>omega
     case rel=>exact⟨m,_,fs,hh,_,_,by omega,by rw [M];simp;omega,hi,hr⟩
theorem Ju.elem {α:Type}{K:Kind α}{U:Nat→Prop}{w:Y}{l:List α}{v:h}(g:Ju K U w l v){i:Nat}{x:α}(d:l[i]?= some x):∃ b o c cs,v=J (some ⟨b,o,none⟩) l.length c∧l.length≤Bk∧K.rep U w x cs∧∀ j u,cs[j]?= some u→w.cell? ⟨b,o+i*K.size+j,none⟩=some u:=by
 obtain⟨A,c,xs,h1,k,m,y,e,f⟩:=g;obtain⟨cs,n,p⟩:=f.get i x d;have hlen:=f.len;have z:=(Ao.1 d).1;have q:0<xs.length:=by rw [hlen];exact Nat.mul_pos (by omega) K.pos
 obtain⟨b,o,r⟩:=e.cells.base q;subst r;refine⟨b,o,c,cs,h1,AL k m,n,fun j u s=>?_⟩;obtain⟨a,t,hc⟩:=e.cells _ _ (p j u s);cases t;rw [MW]at hc;rw [H8];exact hc
abbrev XG (W:Y)(c n:Nat):Prop:=W.heap[c]?= some (Ab #[V Ad n] 117 (0,0))
abbrev CX (c:Nat)(w w':Y):Prop:=JK (fun k=>k=c) w w'
theorem uj (c n lv:Nat)(w:Y)(a:XG w c n)(h:n+1≤2000)(i:lv≤16):As prog 132 #[Ae (some ⟨c,0,none⟩),V Ad lv] w fun e w'=>e=Ak (AE true)∧XG w' c (n+1)∧CX c w w':=by
 have c0:=bk a 0;have j:=JF a 0;have b:AA (XG (w.setCell ⟨c,0,none⟩ (V Ad (n+1:Nat))) c (n+1)):=D (JJ a 0 _);have d:AA (CX c w (w.setCell ⟨c,0,none⟩ (V Ad (n+1:Nat)))):=D (JK.setCell (G:=fun k=>k=c) (p:=⟨c,0,none⟩) (JK.refl w) (AB rfl) _);have f:(n:Int)+1≤2000:=by omega
 have g:(lv:Int)≤16:=by omega
 have l:Ad.wrap ((n:Int)+1)=(n:Int)+1:=by
  simp [IntKind.wrap,IntKind.signed,IntKind.bits];omega
 clear a;go_enter func132,ntmps132;go_wp2_with fail;go_ret;exact⟨by simp [g,f],b,d⟩
def exF (k:Nat):Nat×Nat:=if k=3∨k=6 then(1,1)else if k=7 then(2,2)else if k=4 then(0,6)else(0,0)
theorem uk (k:Nat)(w:Y)(h1:1≤k)(a:k≤7):As prog 178 #[V Ad k] w fun e w'=>e=Ak (AZ #[V Ad (exF k).1,V Ad (exF k).2])∧w=w':=by
 rcases(show k=1∨k=2∨k=3∨k=4∨k=5∨k=6∨k=7 by omega)with rfl|rfl|rfl|rfl|rfl|rfl|rfl
 all_goals
  go_enter func178,ntmps178;go_wp2
  go_ret2
  exact⟨rfl,rfl⟩
theorem nN (k op n:Nat)(num:Int)(s:ByteArray)(A:Option Bi)(c:Nat)(w:Y)(a:(if k=6 then A6 1 op&&A6 op 3 else if k=7 then A6 4 op&&A6 op 21 else Az op 0)=true):
 As prog 177 #[AN #[V Ad k,V Ad op,V Af num,Aa s,J A n c]] w fun e w'=>e=Ak (AE true)∧Ext w w':=by
 by_cases b:k=6
 ·subst b;rw [if_pos rfl,Ah]at a;have h:1≤op:=Ai a.1;have i:op≤3:=Ai a.2;have d:(1:Int)≤op:=by omega
  have f:(op:Int)≤3:=by omega
  clear a;go_enter func177,ntmps177;go_wp2;go_ret;exact⟨by simp [d,f],(Ext.refl w).alloc _⟩
 ·rw [if_neg b]at a;have j:((k:Int)==6)=false:=by simp;omega
  by_cases g:k=7
  ·subst g;rw [if_pos rfl,Ah]at a;have h:4≤op:=Ai a.1;have i:op≤21:=Ai a.2;have d:(4:Int)≤op:=by omega
   have f:(op:Int)≤21:=by omega
   clear a j b;go_enter func177,ntmps177;go_wp2;go_ret;exact⟨by simp [d,f],(Ext.refl w).alloc _⟩
  ·have l:((k:Int)==7)=false:=by simp;omega
   clear a b g;go_enter func177,ntmps177;go_wp2;go_ret;exact⟨rfl,(Ext.refl w).alloc _⟩
def zf3 (w:Y)(c m:Nat)(e:BX)(w':Y):Prop:=e=Ak (V Ad 0)∧XG w' c m∧CX c w w'
def zT (l:List Ex):Prop:=∀ (c lv n m:Nat)(U:Nat→Prop)(v:h)(w:Y),L9 l lv n=some m→XG w c n→Ju KE U w l v→¬ U c→13≤c→Mg w→lv≤17→
 As prog 134 #[Ae (some ⟨c,0,none⟩),v,V Ad lv] w (zf3 w c m)
theorem fu {x:Ex}{l:List Ex}{lv n m:Nat}(a:L9 (x::l) lv n=some m):∃ q,P6 x lv n=some q∧L9 l lv q=some m:=by
 rw [L9]at a;split at a
 ·cases a
 ·rename_i q b;exact⟨q,b,a⟩
theorem Xk {k op num:Nat}{name:Bs}{args:List Ex}{lv n m:Nat}(a:P6 (.mk k op num name args) lv n=some m):lv≤16∧n+1≤2000∧Sj k op num name args.length=true∧L9 args (lv+1) (n+1)=some m:=by
 rw [P6]at a;split at a
 ·rename_i hc;rw [Ah,Ah]at hc;exact⟨Ai hc.1.1,Ai hc.1.2,hc.2,a⟩
 ·cases a
structure FE (k op num:Nat) (name:Bs) (n:Nat):Prop where
 k1:1≤k
 k7:k≤7
 op:(if k=6 then A6 1 op&&A6 op 3 else if k=7 then A6 4 op&&A6 op 21 else Az op 0)=true
 nm:(if k=2∨k=3∨k=4 then Mt name else name.isEmpty)=true
 nu:(if k=1 then true else Az num 0)=true
 ar:(if k=3∨k=6 then Az n 1 else if k=7 then Az n 2 else if k=4 then A6 n 6 else Az n 0)=true
theorem We {k op num:Nat}{name:Bs}{n:Nat}(g:Sj k op num name n=true):FE k op num name n:=by
 unfold Sj at g;rw [Ah,Ah,Ah,Ah,Ah]at g;obtain⟨⟨⟨⟨⟨a,b⟩,c⟩,d⟩,e⟩,f⟩:=g;exact⟨Ai a,Ai b,c,d,e,f⟩
theorem yY7 (l:List Ex)(IH:∀ ha,Aq ha<Aq l→zT ha):zT l:=by
 intro c lv n m U v w hb hc Y Z x4 hd y6;have x5:=Y;obtain⟨A,y7,xs,rfl,x6,he, -⟩:=x5;have x7:l.length≤9223372036854775807:=by unfold Bk at he;omega
 have x8:c<w.heap.size:=(Ag.1 hc).1;obtain⟨L,h0⟩:=JH l.length;have y:=D hb;have B:=D hc;have x9:=D Y;have xa:=D hd;have h2:=D h0;have xb:=D IH;rw [←h0]at x7 ⊢;clear hb hc Y hd h0 IH x6 he xs;go_enter func134,ntmps134;go_wp2;go_loopw [16] (fun s hf=>∃ (i d:Nat),s=V Ad i∧i≤L∧AA (XG hf c d)∧AA (L9 (l.drop i) lv d=some m)∧AA (CX c w hf)) (fun s _=>L - (AX s).toNat)
 case atStart=>exact⟨0,n,rfl,by omega,B,y,D (JK.refl _)⟩
 case round=>
  clear y B;obtain⟨i,d,rfl,y8,B,y,C⟩:=hrel;by_cases xc:i<L
  ·obtain⟨x,K⟩:∃ x,l[i]?= some x:=⟨l[i]'(by rw [←h2];exact xc),Al _⟩
   have hg:l.drop i=x::l.drop (i+1):=by
    obtain⟨h1,M⟩:=Ao.1 K;rw [AR h1,M]
   have h3:=y.out;rw [hg]at h3;obtain⟨q,hh,hi⟩:=fu h3;obtain⟨k,op,num,name,args⟩:=x;obtain⟨xd,xe,hj,hk⟩:=Xk hh;have f:=D (We hj);have xf:=D (x9.upd C (fun k q a=>by have r:k=c:=a;subst r;exact Z q) (fun _ q=>q));obtain⟨b,o,a,cs,hl, -,hm,hn⟩:=xf.elem K;have ho:Aq args<Aq l:=by
    have h1:Ex.mk k op num name args∈l:=AD K;have M:=BQ h1;have y9:Aq (Ex.mk k op num name args)=1+Aq k+Aq op+Aq num+Aq name+Aq args:=by simp
    omega
   have xg:=D (xb args ho c (lv+1) (d+1) q U);have hp:=hm;rw [show KE.rep=OV from rfl,OZ]at hp;obtain⟨ya,rfl,h4⟩:=hp;obtain⟨N,O,rfl⟩:=JB h4;have h5:=D h4;have hq:=D hn;have xh:=D hk;have xi:=D hi;rw [←h2]at hl;injection hl with xj yb xk
   subst xj xk;have xl:=D (fun W (E:XG W c d)=>uj c d lv W E xe xd);have xm:=D (xa.upd C (fun k a=>by have r:k=c:=a;omega));have yc:c<wr.heap.size:=Ar x8 C.size;obtain⟨h,h6⟩:=JH args.length;have hr:=D h6;rw [←h6]at f hq h5;have xn:=f.k1;have xo:=f.k7;have t:=f.op;have j:=f.nm;have F:=f.nu;have g:=f.ar;have xp:=D (fun W=>nN k op h num (str name) N O W t);have xq:=D (fun W=>uk k W xn xo);have xr:=D (fun(E:k=2∨k=3∨k=4) W (M:Mg W)=>Ot name W M (by rw [if_pos E]at j;exact j));have xt:decide ((k:Int)<1)=false:=by simp;omega
   have xu:decide ((7:Int)<k)=false:=by simp;omega
   have hs:=D (Aj wr (Ab #[V Ad k,V Ad op,V Af num,Aa (str name),J N h O] 287));have h7:=D ((Ext.refl wr).alloc (Ab #[V Ad k,V Ad op,V Af num,Aa (str name),J N h O] 287));have ht:=D (show k=1∨k=2∨k=3∨k=4∨k=5∨k=6∨k=7 by omega);have KF:=D (Ct t (Ct j (Ct F g)));obtain⟨X,h8⟩:=JH wr.heap.size;clear h3 hh hj hk hg hn h4 hm K hi ho h6 f t j F g;go_wp2_with (refine KV rfl Ax rfl hq Ki ?_);refine(xl _ (CE h7 B)).mono ?_
   rintro e hu ⟨rfl,hv,h9⟩;have hw:=D ((Gl (G:=fun k=>k=c) h7).trans h9);have hx:=D hv;have P:AA (hu.heap[X]?= some (Ab #[V Ad k,V Ad op,V Af num,Aa (str name),J N h O] 287 (0,0))):=D (by rw [h8];exact h9.heap hs (fun a=>by have r:wr.heap.size=c:=a;omega));clear hv h9 hs h7;rw [←h8];clear h8;have Q:=bk P 0;go_wp2_with (refine LH rfl Ax rfl P Ki ?_);refine(xp hu).mono ?_
   rintro e hy ⟨rfl,R⟩;have u:=D (hw.trans (Gl R));have S:AA (XG hy c (d+1)):=D (CE R hx);have p:=D (CE R P);clear R hx P hw Q;obtain⟨t,j,F,g⟩:=KF.out;have xv:=ht.out;clear KF ht xt xu;rcases xv with rfl|rfl|rfl|rfl|rfl|rfl|rfl
   all_goals
    try (have z:op=0:=Ap t;subst z)
    try (have z:name=[]:=CL.1 j;subst z)
    try (have z:num=0:=Ap F;subst z)
    first|(have z:h=0:=Ap g;subst z)|(have z:h=1:=Ap g;subst z)|(have z:h=2:=Ap g;subst z)|(have z:=Ai g)
    clear t F g j;have Q:=JA p 0;have hz:=JA p 1;have x0:=JA p 2;have xw:=JA p 3;have x1:=JA p 4;go_wp2_with fail;refine(xq hy).mono ?_
    rintro e yd ⟨rfl,xx⟩;subst xx
    try simp only [exF]
    have H:=D (xm.upd u (fun k a=>by have r:k=c:=a;omega))
    try
     have xy:=D (xr (by decide));go_wp2_with fail;refine(xy _ H).mono ?_
     rintro e xz ⟨rfl,I⟩;have y0:=D (u.trans (Gl I));have y1:AA (XG xz c (d+1)):=D (CE I S);have T:=D (CE I p);have y2:=D (H.upd (Gl (G:=fun _=>False) I) (fun _ E=>E.elim));clear I u S p H Q hz x0 xw x1;have u:=y0;have S:=y1;have H:=y2;have Q:=JA T 0;have hz:=JA T 1;have x0:=JA T 2;have x1:=JA T 4
    go_wp2_with fail;have x2:=D (xg _ _ xh S (by rw [hr]at h5;exact h5.upd u (fun k q a=>by have r:k=c:=a;subst r;exact Z q) (fun _ q=>q)) Z x4 H (by omega));rw [←hr]at x2;refine x2.mono ?_
    rintro e ye ⟨rfl,y3,y4⟩;go_wp2_with fail;go_roundw
    case rel=>exact⟨i+1,q,by go_num,by omega,D y3,xi,D ((C.trans u).trans y4)⟩
    case measure=>simp [AX];omega
  ·have y5:i=L:=by omega
   subst y5;have x3:=y.out;rw [DM (by rw [←h2];omega),L9]at x3;cases x3;go_wp2_with fail;go_ret;exact⟨rfl,B,C⟩
theorem zf4 (l:List Ex):zT l:=by
 obtain⟨n,c⟩:=JH (Aq l)
 induction n using D1 generalizing l with
 |_ n b=>exact yY7 l (fun a d=>b (Aq a) (by omega) a rfl)
theorem nO {fn:Func}{a b c d e:Tmp}(f:fn.results= #[Jt a,Jt b,Jt c,Jt d,Jt e])(tmps:Array h)(P:BR)(w:Y):
 (El fn tmps).run P w=Ez (AZ #[tmps.getD a Ca,tmps.getD b Ca,tmps.getD c Ca,tmps.getD d Ca,tmps.getD e Ca]) w:=by simp [El,f]
def stF (k:Nat):Nat×Nat×Bool×Bool×Bool:=if k=1 then(1,1,true,false,false)else if k=2 then(2,2,true,false,false)else if k=3 then(1,1,false,true,true)else if k=4 then(1,1,false,true,false)else if k=5 then(0,6,true,false,false)else if k=9∨k=10 then(0,0,false,false,false)else(1,1,false,false,false)
theorem dX (k:Nat)(w:Y)(h1:1≤k)(a:k≤10):As prog 133 #[V Ad k] w fun e w'=>e=Ak (AZ #[V Ad (stF k).1,V Ad (stF k).2.1,AE (stF k).2.2.1,AE (stF k).2.2.2.1,AE (stF k).2.2.2.2])∧w=w':=by
 rcases(show k=1∨k=2∨k=3∨k=4∨k=5∨k=6∨k=7∨k=8∨k=9∨k=10 by omega)with rfl|rfl|rfl|rfl|rfl|rfl|rfl|rfl|rfl|rfl
 all_goals
  go_enter func133,ntmps133;go_wp2;(try simp only [Exit.inBlock,Exit.then])
  refine B1 (nO rfl _ _ _) rfl ?_
  exact⟨rfl,rfl⟩
def zf5 (l:List Sm):Prop:=∀ (c lv n m:Nat)(U:Nat→Prop)(v:h)(w:Y),K5 l lv n=some m→XG w c n→Ju KS U w l v→¬ U c→13≤c→Mg w→lv≤17→
 As prog 96 #[Ae (some ⟨c,0,none⟩),v,V Ad lv] w (zf3 w c m)
theorem Xm {x:Sm}{l:List Sm}{lv n m:Nat}(a:K5 (x::l) lv n=some m):∃ q,Qy x lv n=some q∧K5 l lv q=some m:=by
 rw [K5]at a;split at a
 ·cases a
 ·rename_i q b;exact⟨q,b,a⟩
theorem fw {k:Nat}{name:Bs}{d:List Ex}{body els:List Sm}{lv n m:Nat}(c:Qy (.mk k name d body els) lv n=some m):lv≤16∧n+1≤2000∧Sk k name d.length body.length els.length=true∧∃ a b,L9 d 1 (n+1)=some a∧K5 body (lv+1) a=some b∧K5 els (lv+1) b=some m:=by
 rw [Qy]at c;split at c
 ·rename_i hc;rw [Ah,Ah]at hc;split at c
  ·cases c
  rename_i a e;split at c
  ·cases c
  rename_i b f;exact⟨Ai hc.1.1,Ai hc.1.2,hc.2,a,b,e,f,c⟩
 ·cases c
structure FSs (k:Nat) (name:Bs) (ne nb nl:Nat):Prop where
 k1:1≤k
 k10:k≤10
 nm:(if k=1∨k=2∨k=5 then Mt name else name.isEmpty)=true
 bo:(if k=3∨k=4 then true else Az nb 0)=true
 ot:(if k=3 then true else Az nl 0)=true
 ex:(if k=2 then Az ne 2 else if k=5 then A6 ne 6 else if k=9∨k=10 then Az ne 0 else Az ne 1)=true
theorem aS {k:Nat}{name:Bs}{h nb i:Nat}(g:Sk k name h nb i=true):FSs k name h nb i:=by
 unfold Sk at g;rw [Ah,Ah,Ah,Ah,Ah]at g;obtain⟨⟨⟨⟨⟨a,b⟩,c⟩,d⟩,e⟩,f⟩:=g;exact⟨Ai a,Ai b,c,d,e,f⟩
theorem yY9 {k:Nat}{name:Bs}{a nb d:Nat}(b:FSs k name a nb d):∃ (s1 f:Nat)(c g h:Bool),(∀W,As prog 133 #[V Ad k] W fun e w'=>e=Ak (AZ #[V Ad s1,V Ad f,AE c,AE g,AE h])∧W=w')∧s1≤a∧a≤f∧(c=true→Mt name=true)∧(c=false→name=[])∧(g=false→nb=0)∧(h=false→d=0):=by
 refine⟨_,_,_,_,_,fun W=>dX k W b.k1 b.k10,?_⟩;obtain⟨h1,i,nm,j,l,m⟩:=b;rcases(show k=1∨k=2∨k=3∨k=4∨k=5∨k=6∨k=7∨k=8∨k=9∨k=10 by omega)with rfl|rfl|rfl|rfl|rfl|rfl|rfl|rfl|rfl|rfl<;>simp_all [stF]
theorem yr8 (l:List Sm)(IH:∀ hy,Aq hy<Aq l→zf5 hy):zf5 l:=by
 intro c lv n m U v w hz hc h7 g h8 x0 za;have y6:=h7;obtain⟨A,zb,xs,rfl,y7,x1, -⟩:=y6;have y8:l.length≤9223372036854775807:=by unfold Bk at x1;omega
 have y9:c<w.heap.size:=(Ag.1 hc).1;obtain⟨L,h9⟩:=JH l.length;have H:=D hz;have I:=D hc;have ya:=D h7;have yb:=D x0;have ha:=D h9;have x2:=D IH;rw [←h9]at y8 ⊢;clear hz hc h7 x0 h9 IH y7 x1 xs;go_enter func96,ntmps96;go_wp2;go_loopw [20] (fun s K=>∃ (i r:Nat),s=V Ad i∧i≤L∧AA (XG K c r)∧AA (K5 (l.drop i) lv r=some m)∧AA (CX c w K)) (fun s _=>L - (AX s).toNat)
 case atStart=>exact⟨0,n,rfl,by omega,I,H,D (JK.refl _)⟩
 case round=>
  clear H I;obtain⟨i,r,rfl,zc,I,H,M⟩:=hrel;by_cases yc:i<L
  ·obtain⟨x,Y⟩:∃ x,l[i]?= some x:=⟨l[i]'(by rw [←ha];exact yc),Al _⟩
   have x3:l.drop i=x::l.drop (i+1):=by
    obtain⟨h1,Z⟩:=Ao.1 Y;rw [AR h1,Z]
   have hb:=H.out;rw [x3]at hb;obtain⟨q,x4,x5⟩:=Xm hb;obtain⟨k,name,N,body,els⟩:=x;obtain⟨yd,ye,x6,O,h0,x7,x8,x9⟩:=fw x4;have P:=D (aS x6);have yf:=D (ya.upd M (fun k q a=>by have d:k=c:=a;subst d;exact g q) (fun _ q=>q));obtain⟨b,o,a,cs,xa, -,xb,xc⟩:=yf.elem Y;have hd:Aq body<Aq l∧Aq els<Aq l:=by
    have h1:Sm.mk k name N body els∈l:=AD Y;have Z:=BQ h1;have zd:Aq (Sm.mk k name N body els)=1+Aq k+Aq name+Aq N+Aq body+Aq els:=by simp
    omega
   have yg:=D (zf4 N c 1 (r+1) O U);have yh:=D (x2 body hd.1 c (lv+1) O h0 U);have yi:=D (x2 els hd.2 c (lv+1) h0 q U);have xd:=xb;rw [show KS.rep=Q5 from rfl,Qk]at xd;obtain⟨ze,zf,zg,rfl,he,hf,hg⟩:=xd;obtain⟨hh,hi,rfl⟩:=JB he;obtain⟨t,u,rfl⟩:=JB hf;obtain⟨y,z,rfl⟩:=JB hg;have hj:=D he;have hk:=D hf;have hl:=D hg;have xe:=D xc;have yj:=D x7;have yk:=D x8;have yl:=D x9;have ym:=D x5;rw [←ha]at xa;injection xa with yn zh yo
   subst yn yo;have yp:=D (fun W (Q:XG W c r)=>uj c r lv W Q ye yd);have xf:=D (yb.upd M (fun k a=>by have d:k=c:=a;omega));have zi:c<wr.heap.size:=Ar y9 M.size;obtain⟨R,h2⟩:=JH N.length;obtain⟨nb,h3⟩:=JH body.length;obtain⟨p,h4⟩:=JH els.length;have xg:=D h2;have xh:=D h3;have xi:=D h4;rw [←h2,←h3,←h4]at P xe;rw [←h2]at hj;rw [←h3]at hk;rw [←h4]at hl;obtain⟨s1,yq,xj,yr,ys,xk,yt,yu,xl,xm,xn,xo⟩:=yY9 P;have yv:=D xk;have yw:=D (fun(Q:xj=true) W (Z:Mg W)=>Ot name W Z (xl Q));have zj:¬ R<s1:=by omega
   have zk:¬ yq<R:=by omega
   have zl:decide ((k:Int)<1)=false:=by have:=P.k1;simp;omega
   have zm:decide ((10:Int)<k)=false:=by have:=P.k10;simp;omega
   clear hb x4 x6 x7 x8 x9 x3 xc he hf hg xb Y x5 hd h2 h3 h4 P xk xl yt yu;have xp:=D (Aj wr (Ab #[V Ad k,Aa (str name),J hh R hi,J t nb u,J y p z] 227));have hm:=D ((Ext.refl wr).alloc (Ab #[V Ad k,Aa (str name),J hh R hi,J t nb u,J y p z] 227));obtain⟨X,hn⟩:=JH wr.heap.size;have zn:X≠c:=by omega
   go_wp2_with (refine KV rfl AV rfl xe MH ?_);refine(yp _ (CE hm I)).mono ?_
   rintro e xq ⟨rfl,xr,ho⟩;have E:=D ((Gl (G:=fun k=>k=c) hm).trans ho);have h5:=D xr;have f:AA (xq.heap[X]?= some (Ab #[V Ad k,Aa (str name),J hh R hi,J t nb u,J y p z] 227 (0,0))):=D (by rw [hn];exact ho.heap xp (fun a=>by have d:wr.heap.size=c:=a;omega));clear xr ho xp hm;rw [←hn];clear hn;have xt:=bk f 0;go_wp2_with fail;refine(yv xq).mono ?_
   rintro e zo ⟨rfl,rfl⟩;have S:=D (xf.upd E (fun k a=>by have d:k=c:=a;omega));cases xj<;>cases yr<;>cases ys
   all_goals
    try (have z1:=xm rfl;subst z1)
    try (have z2:¬ 0<nb:=by have:=xn rfl;omega)
    try (have zp:¬ 0<p:=by have:=xo rfl;omega)
    clear xm xn xo;have xu:=JA f 1;have hp:=JA f 2;have hq:=JA f 3;have hr:=JA f 4
    try
     have yx:=D (yw rfl);go_wp2_with fail;refine(yx _ S).mono ?_
     rintro e yy ⟨rfl,T⟩;have xv:=D (E.trans (Gl T));have xw:AA (XG yy c (r+1)):=D (CE T h5);have xx:=D (CE T f);have xy:=D (S.upd (Gl (G:=fun _=>False) T) (fun _ Q=>Q.elim));clear T E h5 f S xt xu hp hq hr;have E:=xv;have h5:=xw;have f:=xx;have S:=xy;have hp:=JA f 2;have hq:=JA f 3;have hr:=JA f 4;clear xv xw xx xy
    go_wp2_with fail;have h:=D (yg _ _ yj h5 (by rw [xg]at hj;exact hj.upd E (fun k q a=>by have d:k=c:=a;subst d;exact g q) (fun _ q=>q)) g h8 S (by omega));rw [←xg]at h;refine h.mono ?_
    rintro e B ⟨rfl,xz,hs⟩;have ht:=D xz;have y0:=D (E.trans hs);have hu:=D (hs.heap f (fun a=>by have d:X=c:=a;omega));clear xz hs h;have yz:=JA hu 3;have z0:=JA hu 4;have y1:=D (Aj B (Ab #[J t nb u,J y p z] 107));have z3:AA (XG (B.alloc (Ab #[J t nb u,J y p z] 107)) c O):=D (CE ((Ext.refl B).alloc _) ht);have h6:=D (y0.trans (Gl ((Ext.refl B).alloc (Ab #[J t nb u,J y p z] 107))));have z4:c≠B.heap.size:=by have:=(Ag.1 ht).1;omega
    clear hp hq hr
    try clear xt xu
    go_upto_region 21 with fail;obtain⟨z5,y2⟩:=JH B.heap.size;rw [←y2]at y1 z4 ⊢;clear y2 yz z0 ht y0 hu;generalize(B.alloc (Ab #[J t nb u,J y p z] 107))=w7 at*
    go_loopw [100] (fun s K=>∃ (j F:Nat),s=V Ad j∧AA ((j=0∧F=O)∨(j=1∧F=h0)∨(j=2∧F=q))∧AA (XG K c F)∧AA (CX c w7 K)) (fun s _=>2 - (AX s).toNat)
    case atStart=>exact⟨0,O,rfl,D (AO ⟨rfl,rfl⟩),z3,D (JK.refl _)⟩
    case round=>
     rename_i zq _ _;obtain⟨j,F,rfl,z6,hv,C⟩:=hrel;have y3:=D ((xf.upd h6 (fun k a=>by have d:k=c:=a;omega)).upd C (fun k a=>by have d:k=c:=a;omega));have y4:=D (C.heap y1 (fun a=>by have d:z5=c:=a;omega));rcases z6 with⟨rfl,rfl⟩|⟨rfl,rfl⟩|⟨rfl,rfl⟩
     ·have z7:=JA y4 0;have h:=D (yh _ _ yk hv (by rw [xh]at hk;exact(hk.upd h6 (fun k q a=>by have d:k=c:=a;subst d;exact g q) (fun _ q=>q)).upd C (fun k q a=>by have d:k=c:=a;subst d;exact g q) (fun _ q=>q)) g h8 y3 (by omega));rw [←xh]at h;go_wp2_with fail;refine h.mono ?_
      rintro e z8 ⟨rfl,hw,hx⟩;go_wp2_with fail;go_roundw
      case rel=>exact⟨1,h0,by go_num,D (AB (AO ⟨rfl,rfl⟩)),D hw,D (C.trans hx)⟩
      case measure=>simp [AX]
     ·have z7:=JA y4 1;have h:=D (yi _ _ yl hv (by rw [xi]at hl;exact(hl.upd h6 (fun k q a=>by have d:k=c:=a;subst d;exact g q) (fun _ q=>q)).upd C (fun k q a=>by have d:k=c:=a;subst d;exact g q) (fun _ q=>q)) g h8 y3 (by omega));rw [←xi]at h;go_wp2_with fail;refine h.mono ?_
      rintro e z8 ⟨rfl,hw,hx⟩;go_wp2_with fail;go_roundw
      case rel=>exact⟨2,q,by go_num,D (AB (AB ⟨rfl,rfl⟩)),D hw,D (C.trans hx)⟩
      case measure=>simp [AX]
     ·go_wp2_with fail;go_roundw
      case rel=>exact⟨i+1,F,by go_num,by omega,hv,ym,D ((M.trans h6).trans C)⟩
      case measure=>simp [AX];omega
  ·have z9:i=L:=by omega
   subst z9;have y5:=H.out;rw [DM (by rw [←ha];omega),K5]at y5;cases y5;go_wp2_with fail;go_ret;exact⟨rfl,I,M⟩
theorem yB7 (l:List Sm):zf5 l:=by
 obtain⟨n,c⟩:=JH (Aq l)
 induction n using D1 generalizing l with
 |_ n b=>exact yr8 l (fun a d=>b (Aq a) (by omega) a rfl)
theorem o9 {l:List Bs}:∀ u∈Jw l,u.oneCell'=true:=by
 intro u a;obtain⟨s,_,rfl⟩:=D4.1 a;rfl
theorem pE {U:Nat→Prop}{w:Y}:∀ {l:List Bs}{xs:List h},NF Qs U w l xs→xs=Jw l
 |[],_,a=>a
 |_::_,_,⟨x,d,h1,b,c⟩=>by rw [h1,pE c,show x=_ from b];rfl
theorem Q7 {U:Nat→Prop}{w:Y}{l:List Bs}{A:Option Bi}{n c:Nat}(a:Ju Qs U w l (J A n c)):Ol w A (Jw l):=by
 obtain⟨e,f,xs,h1,_,_,_,b,d⟩:=a;rw [←pE d];cases h1;exact b.cells
theorem VX {P:BR}(w:Y)(t e:AK)(i:Ij)(b:P.underlying t=some (.slice e))(d:P.info? e=some i)(A:Option Bi)(n c m:Nat)(k:Fv)(f:m≤c):
 (Hs t (J A n c) none (some (V k (m:Int))) none).run P w=Ez (J A m c) w:=by
 have h1:(0:Int)≤m∧(m:Int)≤c:=by omega
 have g:A.map (fun a=>a.add 0)=A:=by cases A<;>simp [Fa]
 simp [Hs,Instr.sliceBounds,Instr.sliceBound,Cq b,asIntOf,sizeOf,Ih,d,h1,g,f]
structure PU (w wr:Y) (l:List Bs) (v:h):Prop where
 own:wr.ownsRow w.heap.size 9 1 v l.length (Jw l)
 x:Ext w wr
theorem zQ4 {w a b:Y}{e:AK}{v:h}{n:Nat}{xs:List h}(c:Ext w a)(d:a.ownsRow w.heap.size e 1 v n xs)(f:a.grownBy b v.ownBlock):Ext w b:=
 Hu c f c.size fun _ g=>(Kc d g).1
def zJ0 (w:Y)(l:List Bs)(e:BX)(w':Y):Prop:=∃ v,e=Ak v∧w'.ownsRow w.heap.size 9 1 v l.length (Jw l)∧Ext w w'
theorem XA (n:Nat):(B3 (Aa ⟨#[]⟩).cells n).size=n:=by simp [B3,Value.cells]
theorem wpList_append_run {P:BR}{w w':Y}{ops:Array B5}{rest:List B5}{o:B5}{a:CY}{Q:EY→CY→Y→Prop}(f:o.guard=none)(s x:CC)(t b:AK)
 (g:o.op=Gy {callee:=GU Iq,args:= #[s,x],argTypes:= #[t,b]}) (c d e:h) (i:a.eval s=c) (j:a.eval x=d) (k:(C8 #[t,b] o.type #[c,d]).run P w=Ez e w')
 (l:Dh P ops Q rest (a.put o.dst e) w'):Dh P ops Q (o::rest) a w:=by
 refine Em f fun K m=>?_
 unfold Cb CS;simp only [g,resolve,invoke,builtin,Di,D3,C3,EZ,B7,D2,i,j,k];exact m _ _ l
theorem yB8 (n:Nat)(w:Y)(o:n≤1000):As prog 131 #[J none 0 0,V Ad (n:Int)] w (zJ0 w []):=by
 obtain⟨a,b,f,i,d⟩:=info_parts R6;by_cases j:n=0
 ·subst j;go_enter func131,ntmps131;go_wp2;go_ret;exact⟨_,rfl,CQ _ _ _ _,Ext.refl _⟩
 ·have g:∀ e,(C8 #[34,3] e #[J none 0 0,V Ad (n:Int)]).run prog w=Ez (J (some ⟨w.heap.size,0,none⟩) n (Gn w n 0 9)) (w.drew.alloc (Ab (B3 (Aa ⟨#[]⟩).cells n++B3 (Aa ⟨#[]⟩).cells (Gn w n 0 9 - n)) 9)):=by
   intro e;have:=Lib.run_append_grow_zeros (P:=prog) w 34 3 e 9 a (Aa ⟨#[]⟩) Ad Ad Bu Bq b f none 0 0 [] (run_firstCells_none w.drew a.size 0 0 0) n (by omega) (by omega) (by omega) (by omega) (by rw [d];omega) (by rw [d];unfold Builtin.nextslicecap;simp;split<;>omega);simpa using this
  have p:=grownCap_ge w n 0 9;have hle:=grownCap_le_maxLen w n 0 9 (by unfold Bk;omega);have q:∀ (w':Y) (A:Option Bi) (n c:Nat),(Hs 34 (J A n c) none (some (V Ad 0)) none).run prog w'=Ez (J A 0 c) w':=fun w' A n c=>VX (P:=prog) w' 34 9 a Bu b A n c 0 Ad (by omega)
  have h:=Aj w.drew (Ab (B3 (Aa ⟨#[]⟩).cells n++B3 (Aa ⟨#[]⟩).cells (Gn w n 0 9 - n)) 9);have k:AA ((w.drew.alloc (Ab (B3 (Aa ⟨#[]⟩).cells n++B3 (Aa ⟨#[]⟩).cells (Gn w n 0 9 - n)) 9)).ownsRow w.heap.size 9 1 (J (some ⟨w.heap.size,0,none⟩) 0 (Gn w n 0 9)) 0 []):=by
   refine⟨rfl,AB ⟨w.heap.size,Gn w n 0 9,_,rfl,Aw _,h,Dd _,hle,?_,rfl⟩⟩;rw [Array.size_append,XA,XA];omega
  have l:=D ((Ext.refl w).drew.alloc (Ab (B3 (Aa ⟨#[]⟩).cells n++B3 (Aa ⟨#[]⟩).cells (Gn w n 0 9 - n)) 9));generalize w.drew.alloc (Ab (B3 (Aa ⟨#[]⟩).cells n++B3 (Aa ⟨#[]⟩).cells (Gn w n 0 9 - n)) 9)=W at*
  generalize Gn w n 0 9=gc at*
  have r:((n:Int)>0):=by omega
  clear h b f i d;have m:=D g;clear g;go_enter func131,ntmps131;go_wp2_with (at_builtin;refine wpList_append_run rfl _ _ 34 3 rfl (J none 0 0) (V Ad (n:Int)) _ rfl rfl (m _) ?_);go_ret;exact⟨_,rfl,k,l⟩
theorem PU.pF {w b a:Y}{l m:List Bs}{v c:h}(d:PU w b l v)(e:a.ownsRow w.heap.size 9 1 c (l.length+m.length) (Jw l++Jw m))(f:b.grownBy a v.ownBlock):PU w a (l++m) c:=
 ⟨by rw [M,Jw,Dv];exact e,zQ4 d.x d.own f⟩
theorem pG (R C:Option Bi)(a b:List Bs)(c1 E:Nat)(g:Nat)(w:Y)(F:a.length≤100)(h5:b.length≤100)(h1:Ol w R (Jw a))(G:Ol w C (Jw b))(j:w.heap[g]?= some (Ab #[J R a.length c1,J C b.length E] 34 (0,0))):
 As prog 95 #[J (some ⟨g,0,none⟩) 2 2] w (zJ0 w (a++b)):=by
 have h6:=D (fun n w' h7=>yB8 n w' h7);have h8:=D h1;have h9:=D G;have hi:=D j;obtain⟨H,I,K,L,M⟩:=info_parts R6;have N:=D I;have O:=D K;have P:=D L;have Q:=D M;have S:=bk j 0;have T:=bk j 1;obtain⟨f,o⟩:=JH a.length;obtain⟨nb,p⟩:=JH b.length;have r:=D o;have U:=D p;rw [←o]at F S;rw [←p]at h5 T;clear I K L M j h1 G o p;go_enter func95,ntmps95;go_wp2;go_loopw [3,11] (fun s v11 wr=>∃ k:Nat,k≤2∧v11=V Ad k∧s=V Ad ((if k=0 then 0 else if k=1 then f else f+nb:Nat):Int)∧wr=w) (fun _ v11 _=>2 - (AX v11).toNat)
 case atStart=>exact⟨0,by omega,rfl,rfl,rfl⟩
 case round=>
  obtain⟨k,ha,rfl,rfl,rfl⟩:=hrel;rcases Dg k 1 with q|q
  ·have t:k=0:=by omega
   subst t;simp only [if_true];go_wp2;exact⟨⟨1,by omega,by go_num,by simp,trivial⟩,by simp [AX]⟩
  ·rcases Dg k 2 with q2|q2
   ·have u:k=1:=by omega
    subst u;simp only [Nat.one_ne_zero,if_true,if_false];have hj:Ad.wrap ((f:Int)+(nb:Int))=((f+nb:Nat):Int):=by rw [AU _ (by omega)];omega
    go_wp2;exact⟨⟨2,by omega,by go_num,by simp,trivial⟩,by simp [AX]⟩
   ·have v:k=2:=by omega
    subst v;simp only [show ¬(2:Nat)=0 by omega,show ¬(2:Nat)=1 by omega,if_false];have W:=D (h6 (f+nb) wr (by omega));obtain⟨l,rfl⟩:=JH wr;go_wp2_with (go_at_call 131;refine W.mono ?_;rintro e hb ⟨hc,rfl,X,Z⟩;have h0:AA (PU l hb [] hc):=⟨X,Z⟩;clear X Z);go_loopw [6,27] (fun hd y he=>∃ k:Nat,k≤2∧y=V Ad k∧PU l he (if k=0 then []else if k=1 then a else a++b) hd) (fun _ y _=>2 - (AX y).toNat)
    case atStart=>exact⟨0,by omega,rfl,h0⟩
    case round=>
     clear h0 W;obtain⟨k,ha,rfl,h⟩:=hrel;have hk:=h.x.cell S;have f1:=h.x.cell T;have c:=D h;have h2:=h.x.size;clear h;rcases Dg k 1 with q|q
     ·have t:k=0:=by omega
      subst t;simp only [if_true]at c;obtain⟨h3,h4,rfl,_,_,_,_⟩:=NQ c.out.own;go_wp2_with (at_builtin;refine Lp rfl _ _ 34 rfl l.heap.size 9 H (Aa ⟨#[]⟩) 1 16 Bu N.out O.out P.out Q.out rfl (by decide) _ 0 [] rfl c.out.own R f c1 (Jw a) rfl (h8.out.ext c.out.x) (by rw [Jw,AI,r.out,Ht]) o9 (by unfold Bk;omega) (by omega) h2 ?_;intro s hf d i z;have B:=D (c.out.pF (m:=a) (by rw [←r.out];exact d) i);obtain⟨hg,hh,rfl,_,_,_,_⟩:=NQ d;clear d i z);exact⟨⟨1,by omega,by go_num,by simpa using B.out⟩,by simp [AX]⟩
     ·rcases Dg k 2 with q2|q2
      ·have u:k=1:=by omega
       subst u;simp only [Nat.one_ne_zero,if_true,if_false]at c;obtain⟨h3,h4,rfl,_,_,_,_⟩:=NQ c.out.own;have hl:a.length≤100:=by rw [←r.out];exact F
       go_wp2_with (at_builtin;refine Lp rfl _ _ 34 rfl l.heap.size 9 H (Aa ⟨#[]⟩) 1 16 Bu N.out O.out P.out Q.out rfl (by decide) _ a.length (Jw a) rfl c.out.own C nb E (Jw b) rfl (h9.out.ext c.out.x) (by rw [Jw,AI,U.out,Ht]) o9 (by unfold Bk;omega) (by omega) h2 ?_;intro s hf d i z;have B:=D (c.out.pF (m:=b) (by rw [←U.out];exact d) i);obtain⟨hg,hh,rfl,_,_,_,_⟩:=NQ d;clear d i z);exact⟨⟨2,by omega,by go_num,by simpa using B.out⟩,by simp [AX]⟩
      ·have v:k=2:=by omega
       subst v;simp only [show ¬(2:Nat)=0 by omega,show ¬(2:Nat)=1 by omega,if_false]at c;obtain⟨h3,h4,rfl,_,_,_,_⟩:=NQ c.own;go_wp2;go_ret;exact⟨_,rfl,c.own,c.x⟩
theorem yB9 (f:Pg.Fn)(c n m:Nat)(U:Nat→Prop)(P L h4:h)(w:Y)(K:Rz f=true)(h5:K5 f.body 1 n=some m)(hc:XG w c n)(t:Ju Qs U w f.params P)(u:Ju Qs U w f.JE L)(v:Ju KS U w f.body h4)(hh:¬ U c)(x2:∀ k,U k→k<w.heap.size)(hi:13≤c)(y:Mg w):
 As prog 53 #[Ae (some ⟨c,0,none⟩),AN #[Aa (str f.name),P,L,h4]] w (zf3 w c m):=by
 unfold Rz at K;rw [Ah,Ah,Ah]at K;obtain⟨⟨⟨h6,O⟩,Q⟩,h7⟩:=K;have O:=Ai O;have Q:=Ai Q;obtain⟨pA,j,rfl⟩:=JB t;obtain⟨l,p,rfl⟩:=JB u;obtain⟨z,A,rfl⟩:=JB v;have x3:=D (Q7 t);have x4:=D (Q7 u);have x5:=D v;have hj:=D y;have x6:=D hc;have hk:=D (fun(W:Y) (x:Ext w W)=>Ot f.name W (y.ext x) h6);have hl:AA (∀i s,(f.params++f.JE)[i]?= some s→Mt s=true):=D (fun i s h8=>A7.1 h7 s (AD h8));have h9:=D (fun W (x:Ext w W)=>yB7 f.body c 1 n m U (J z f.body.length A) W h5 (CE x hc) (v.upd (Gl (G:=fun _=>False) x) (fun _ _ q=>q) (fun _ q=>q)) hh hi (y.ext x) (by omega));have B:=D (fun g W (x:Ext w W) hm=>pG pA l f.params f.JE j p g W (by omega) (by omega) ((Q7 t).ext x) ((Q7 u).ext x) hm);obtain⟨np,C⟩:=JH f.params.length;obtain⟨r,E⟩:=JH f.JE.length;obtain⟨nb,R⟩:=JH f.body.length;have hn:=D C;have ho:=D E;rw [←C]at O B;rw [←E]at Q B;rw [←R]at h9;rw [←C,←E,←R];have x7:¬ ((6:Int)<(np:Int)):=by omega
 have x8:¬ ((12:Int)<(r:Int)):=by omega
 have ha:AA ((w.alloc (Ab #[Aa (str f.name),J pA np j,J l r p,J z nb A] 109)).heap[w.heap.size]?= some (Ab #[Aa (str f.name),J pA np j,J l r p,J z nb A] 109 (0,0))):=D (Aj w _);have S:=D ((Ext.refl w).alloc (Ab #[Aa (str f.name),J pA np j,J l r p,J z nb A] 109));clear h6 h7 h5 hc t u v y C E R;go_enter func53,ntmps53;go_wp2_with fail;refine(hk _ S).mono ?_
 rintro e F ⟨rfl,T⟩;have H:=D (CE T ha);have X:=D (S.trans T);clear T ha S;have hp:=bk H 1;have hq:=bk H 2;have hb:=D (B F.heap.size (F.alloc (Ab #[J pA np j,J l r p] 34)) (X.alloc _) (Aj F _));go_wp2_with fail;refine hb.mono ?_
 rintro e hr ⟨x9,rfl,hd,Z⟩;obtain⟨xa,xb,rfl, -, -, -,he⟩:=K7 hd;have hf:=D he;have h0:=D ((X.alloc _).trans Z);have hs:=D (CE (((Ext.refl F).alloc _).trans Z) H);clear hd he Z hp hq hb B H X;obtain⟨N,I⟩:=JH ((f.params++f.JE).length);have ht:=D I;have xc:N≤20:=by rw [I,M,←hn,←ho];omega
 rw [←I];clear I;go_wp2_with fail;go_loopw [30] (fun s hu=>∃ i:Nat,s=V Ad i∧i≤N∧AA (Ext hr hu)) (fun s _=>N - (AX s).toNat)
 case atStart=>exact⟨0,rfl,by omega,D (Ext.refl _)⟩
 case round=>
  obtain⟨i,rfl,h8,d⟩:=hrel;by_cases hv:i<N
  ·have hg:i<(f.params++f.JE).length:=by rw [←ht];exact hv
   obtain⟨s,h1⟩:∃ s,(f.params++f.JE)[i]?= some s:=⟨_,Al hg⟩
   obtain⟨b,o,rfl⟩:=Ol.base hf (by rw [Jw,AI];omega);obtain⟨a,hw,h2⟩:=hf i (Aa (str s)) (RV h1);cases hw;rw [MW]at h2;have xd:=d.cell h2;have hx:=D (Ot s wr ((hj.ext h0).ext d) (hl i s h1));clear hg h1 h2;generalize str s=ss at*
   go_wp2_with fail;refine hx.mono ?_
   rintro e hy ⟨rfl,h3⟩;go_wp2_with fail;go_roundw
   case rel=>exact⟨i+1,by go_num,by omega,D (d.trans h3)⟩
   case measure=>simp [AX];omega
  ·have hz:i=N:=by omega
   subst hz;have xe:=bk (CE d hs) 3;have x0:=D (h9 wr (h0.trans d));go_wp2_with fail;refine x0.mono ?_
   rintro e hy ⟨rfl,x1,h3⟩;go_wp2_with fail;go_ret;exact⟨rfl,x1,(Gl (h0.trans d)).trans h3⟩
theorem jy (g:KJ)(A:Option Bi)(c:Nat)(w:Y)(y:Mg w)(p:VB g=true):
 As prog 52 #[AN #[V Ad g.kind,Aa (str g.name),V Af g.num,J A g.init.length c]] w fun e w'=>e=Ak (V Ad 0)∧Ext w w':=by
 obtain⟨k,name,num,init⟩:=g;unfold VB at p;dsimp only at p ⊢;rw [Ah,Ah,Ah,Ah,Ah]at p;obtain⟨⟨⟨⟨⟨h,i⟩,z⟩,s⟩,t⟩,j⟩:=p;have h:=Ai h;have i:=Ai i;obtain⟨l,q⟩:=JH init.length;have u:=D (fun(W:Y) (x:Ext w W)=>Ot name W (y.ext x) z);have m:k≠3→l=0:=fun n=>by
  have G:Az k 3=false:=by
   cases H:Az k 3
   ·rfl
   ·exact absurd (Ap H) n
  rw [G,Bool.false_or]at s;rw [q,CL.1 s];rfl
 have hzero:k=2→num=0:=fun n=>by
  subst n;simp at t;exact t
 have r:k=3→1≤num∧num≤40000∧l≤num:=fun n=>by
  subst n;simp at j;rw [q];exact⟨j.1.1,j.1.2,j.2⟩
 rw [←q];clear z s t j q y;rcases(show k=1∨k=2∨k=3 by omega)with rfl|rfl|rfl
 ·have v:=m (by omega);subst v;clear m hzero r h i;have f:=D (Aj w (Ab #[V Ad 1,Aa (str name),V Af num,J A 0 c] 112));have a:=D ((Ext.refl w).alloc (Ab #[V Ad 1,Aa (str name),V Af num,J A 0 c] 112));go_enter func52,ntmps52;go_wp2_with fail;refine(u _ a).mono ?_
  rintro e B ⟨rfl,b⟩;have d:=D (CE b f);have o:=D (a.trans b);clear b f a;have C:=bk d 0;have E:=bk d 2;have F:=bk d 3;go_wp2_with fail;go_ret;exact⟨rfl,o⟩
 ·have v:=m (by omega);have h1:=hzero rfl;subst v h1;clear m hzero r h i;have f:=D (Aj w (Ab #[V Ad 2,Aa (str name),V Af 0,J A 0 c] 112));have a:=D ((Ext.refl w).alloc (Ab #[V Ad 2,Aa (str name),V Af 0,J A 0 c] 112));go_enter func52,ntmps52;go_wp2_with fail;refine(u _ a).mono ?_
  rintro e B ⟨rfl,b⟩;have d:=D (CE b f);have o:=D (a.trans b);clear b f a;have C:=bk d 0;have E:=bk d 2;have F:=bk d 3;go_wp2_with fail;go_ret;exact⟨rfl,o⟩
 ·obtain⟨c1,I,K⟩:=r rfl;have L:¬ ((num:Int)<1):=by omega
  have M:¬ ((40000:Int)<(num:Int)):=by omega
  have N:¬ ((num:Int)<(l:Int)):=by omega
  have O:Ad.wrap (num:Int)=(num:Int):=by rw [Im];omega
  clear m hzero r h i;have f:=D (Aj w (Ab #[V Ad 3,Aa (str name),V Af num,J A l c] 112));have a:=D ((Ext.refl w).alloc (Ab #[V Ad 3,Aa (str name),V Af num,J A l c] 112));go_enter func52,ntmps52;go_wp2_with fail;refine(u _ a).mono ?_
  rintro e B ⟨rfl,b⟩;have d:=D (CE b f);have o:=D (a.trans b);clear b f a;have C:=bk d 0;have E:=bk d 2;have F:=bk d 3;go_wp2_with fail;go_ret;exact⟨rfl,o⟩
theorem iV {P:BR}(w:Y)(base:Nat)(t u b e:AK)(i:Ij)(d:P.underlying t=some (.slice e))(f:P.underlying u=some .string)(j:P.info? e=some i)(o:i.zero=some (V BJ 0))(p:i.size=1)(q:i.bytes=1)
 (v:h) (n:Nat) (xs:List h) (k:w.ownsRow base e 1 v n xs) (s:ByteArray) (r:n+s.size≤Bk) (y:n+s.size≤140737488355328) (z:base≤w.heap.size):
 ∃l w',(C8 #[t,u] b #[v,Aa s]).run P w=Ez l w'∧za6 w w' base e v l (n+s.size) (xs++IB s):=by
 obtain⟨l,w',m,h1,A,B⟩:=Lib.run_append_own_string (P:=P) w base t u b e i d f j o p q v n xs k s r y z;refine⟨l,w',m,h1,A,?_⟩;have H:n+s.size≤9223372036854775807:=by simp only [Bk]at r;omega
 rcases k.2 with⟨rfl,rfl⟩|⟨g,cap,cur,rfl,I,C,K,L,D,M⟩
 ·by_cases E:s.size=0
  ·left;rw [(B.2 ⟨rfl,E⟩)]
  ·right;have a:=run_append_nil_string (P:=P) w t u b e i (V BJ 0) d f j o s (by omega) (by omega) (by rw [q];omega);rw [m]at a;injection a with c x
   exact⟨w.heap.size,by rw [c];rfl,Aw _⟩
 ·by_cases F:n+s.size≤cap
  ·left;have N:cur.size=cap:=by simpa using D
   have a:=Lib.run_append_room_string (P:=P) w t u b e i d f j p g n cap cur C s F (by omega);rw [m]at a;injection a with c x
   rw [c];rfl
  ·right;have G:xs.length=n:=by simpa using k.1
   have a:=Lib.run_append_grow_string (P:=P) w t u b e i (V BJ 0) d f j o ⟨g,0,none⟩ n cap xs (by rw [p];simpa using G) (k.cells (g:=g) rfl) s (by omega) (by omega) (by rw [q];exact growslice_fits (by omega) (by omega));rw [m]at a;injection a with c x
   exact⟨w.heap.size,by rw [c];rfl,Aw _⟩
theorem Ul {P:BR}{w:Y}{ops:Array B5}{rest:List B5}{o:B5}{a:CY}{Q:EY→CY→Y→Prop}(c:o.guard=none)(sl x:CC)(t u:AK)
 (d:o.op=Gy {callee:=GU Iq,args:= #[sl,x],argTypes:= #[t,u]})
 (base:Nat) (e:AK) (i:Ij) (f:P.underlying t=some (.slice e)) (g:P.underlying u=some .string) (j:P.info? e=some i) (k:i.zero=some (V BJ 0)) (l:i.size=1) (m:i.bytes=1)
 (v:h) (n:Nat) (xs:List h) (p:a.eval sl=v) (q:w.ownsRow base e 1 v n xs) (s:ByteArray) (r:a.eval x=Aa s)
 (y:n+s.size≤Bk) (z:n+s.size≤140737488355328) (A:base≤w.heap.size)
 (B:∀ b w',za6 w w' base e v b (n+s.size) (xs++IB s)→Dh P ops Q rest (a.put o.dst b) w'):Dh P ops Q (o::rest) a w:=by
 refine Em c fun K C=>?_
 obtain⟨b,w',D,E⟩:=iV (P:=P) w base t u o.type e i f g j k l m v n xs q s y z A;unfold Cb CS;simp only [d,resolve,invoke,builtin,Di,D3,C3,EZ,B7,D2,p,r,D];exact C _ _ (B _ _ E)
abbrev byC (l:Bs):List h:=Lib.byteCells l
structure EB (T:AK) (b:Nat) (g:Option Nat) (l:Bs) (xs:List h) (w:Y):Prop where
 ex:∃ p v,(p=Ae none∨p=Ae (some ⟨b,0,none⟩))∧w.heap[b]?= some (Ab (p::v::xs).toArray T (0,0))∧w.ownsRow 0 5 1 v l.length (byC l)∧v.ownBlock=g
 ne:g≠some b
structure LW (b:Nat) (g:Option Nat) (w:Y) (g':Option Nat) (w':Y):Prop where
 upd:JK (fun k=>k=b∨g=some k) w w'
 new:g'=g∨∃ k,g'=some k∧w.heap.size≤k
theorem LW.refl (b:Nat)(g:Option Nat)(w:Y):LW b g w g w:=⟨JK.refl w,AO rfl⟩
theorem LW.trans {b:Nat}{g d f:Option Nat}{w h i:Y}(a:LW b g w d h)(k:LW b d h f i):LW b g w f i:=by
 have l:=a.upd.size;refine⟨⟨k.upd.os.trans a.upd.os,k.upd.tape.trans a.upd.tape,k.upd.output.trans a.upd.output,AL l k.upd.size,fun j n c=>?_⟩,?_⟩
 ·rw [k.upd.block j (Ar n l) (fun q=>?_),a.upd.block j n c];rcases q with q|q
  ·exact c (AO q)
  ·rcases a.new with e|⟨m,e,o⟩
   ·exact c (AB (e▸q))
   ·rw [e]at q;cases q;omega
 ·rcases k.new with e|⟨m,e,o⟩
  ·rw [e];exact a.new
  ·exact AB ⟨m,e,by omega⟩
theorem LW.ext {b:Nat}{g:Option Nat}{w a:Y}(c:Ext w a):LW b g w g a:=⟨Gl c,AO rfl⟩
theorem EB.lt {a:AK}{b:Nat}{g:Option Nat}{l:Bs}{xs:List h}{w:Y}(c:EB a b g l xs w):b<w.heap.size:=by
 obtain⟨p,v,_,h1,_⟩:=c.ex;exact(Ag.1 h1).1
theorem EB.gt {a:AK}{b:Nat}{g:Option Nat}{l:Bs}{xs:List h}{w:Y}(c:EB a b g l xs w){k:Nat}(d:g=some k):k<w.heap.size:=by
 obtain⟨p,v,_,_,e,f⟩:=c.ex;exact(Kc e (f.trans d)).2
theorem EB.upd {a:AK}{b:Nat}{g:Option Nat}{l:Bs}{xs:List h}{w w':Y}{G:Nat→Prop}(c:EB a b g l xs w)(u:JK G w w')(i:¬ G b)(j:∀ k,g=some k→¬ G k):EB a b g l xs w':=by
 obtain⟨p,v,m,h1,d,e⟩:=c.ex;exact⟨⟨p,v,m,u.heap h1 i,KX d (fun k f=>u.block k (Kc d f).2 (j k (e▸f))),e⟩,c.ne⟩
theorem EB.ext {a:AK}{b:Nat}{g:Option Nat}{l:Bs}{xs:List h}{w w':Y}(c:EB a b g l xs w)(u:Ext w w'):EB a b g l xs w':=c.upd (Gl (G:=fun _=>False) u) (fun q=>q) (fun _ _ q=>q)
theorem yZ4:(prog.info? 126).map (·.size)=some 2:=by kernel_rfl
theorem jE:(prog.info? 5).map (fun i=>(i.zero,i.size,i.bytes))=some (some (V BJ 0),1,1):=by kernel_rfl
def dZ (a:AK)(n:Nat):Prop:=liesAt prog prog.depth a (n /prog.cellsOf a) 0 126 1=true
theorem rO {a:AK}{b:Nat}{g:Option Nat}{l:Bs}{xs:List h}{w:Y}(n:dZ a (xs.length+2))(c:EB a b g l xs w):
 As prog 144 #[Ae (some ⟨b,0,none⟩)] w fun e w'=>e=Ak (AZ #[])∧(∃v,w'.heap[b]?= some (Ab (Ae (some ⟨b,0,none⟩)::v::xs).toArray a (0,0))∧w'.ownsRow 0 5 1 v l.length (byC l)∧v.ownBlock=g)∧JK (fun k=>k=b) w w':=by
 obtain⟨p,v,o,h1,d,f⟩:=c.ex;obtain⟨j,i,r⟩:=DP.1 yZ4;have s:=c.ne;have m:w.shape? b=some (a,xs.length+2):=by simp [World.shape?,h1]
 have c0:=bk h1 0;have z:=JF h1 0;rcases o with rfl|rfl
 ·have t:=D (JK.setCell (G:=fun k=>k=b) (p:=⟨b,0,none⟩) (JK.refl w) (AB rfl) (Ae (some ⟨b,0,none⟩)));have u:AA ((w.setCell ⟨b,0,none⟩ (Ae (some ⟨b,0,none⟩))).heap[b]?= some (Ab (Ae (some ⟨b,0,none⟩)::v::xs).toArray a (0,0))):=D (by
   have:=JJ h1 0 (Ae (some ⟨b,0,none⟩))
   simpa using this)
  have x:AA ((w.setCell ⟨b,0,none⟩ (Ae (some ⟨b,0,none⟩))).ownsRow 0 5 1 v l.length (byC l)):=D (KX d (fun k y=>AY _ _ _ _ (fun q=>s (by rw [←f,y];exact congrArg some q))));clear c h1 d;go_enter IC,ntmps144;go_wp2;rw [Lib.run_to_unsafe w ⟨b,0,none⟩ Et Fs i (by rw [r];decide) m (Nat.zero_lt_succ _)];simp only [BM];rw [IV];go_wp2;rw [run_callFunc_extern func190 (by kernel_rfl) (by kernel_rfl) (by kernel_rfl) (e:=Extern.AbiNoEscape.same) (by kernel_rfl)];rw [Lib.run_noEscape];simp only [BM];rw [IV];go_wp2;rw [Lib.run_from_unsafe w ⟨b,0,none⟩ Fs Et i m n];simp only [BM];rw [IV];go_wp2;go_end0;exact⟨rfl,⟨v,u,x,f⟩,t⟩
 ·clear c;go_enter IC,ntmps144;go_wp2;rw [Lib.run_neq_ptr_same w _ Et i];go_wp2;go_end0;exact⟨rfl,⟨v,h1,d,f⟩,JK.refl w⟩
theorem ys5 (s:Bs):IB (str s)=byC s:=by rw [Lib.strCells_eq,show(str s).data.toList=s from L6 s]
def yZ5 (c:AK)(b:Nat)(g:Option Nat)(l:Bs)(xs:List h)(w:Y)(w':Y):Prop:=∃ a,EB c b a l xs w'∧LW b g w a w'
theorem Xo {f:AK}{b:Nat}{g:Option Nat}{l s:Bs}{xs:List h}{w:Y}(G:dZ f (xs.length+2))(j:EB f b g l xs w)(U:l.length+s.length≤1000000):
 As prog 104 #[Ae (some ⟨b,0,none⟩),Aa (str s)] w fun e w'=>e=Ak (AZ #[V Ad s.length,.nilIface])∧yZ5 f b g (l++s) xs w w':=by
 obtain⟨H,I,K,L,N⟩:=info_parts jE;have O:=D (rO G j);have x:=j.ne;have y:=D (KO s);have P:=D (ys5 s);have W:=D (fun k i=>j.gt (k:=k) i);clear j;go_enter func104,ntmps104;go_wp2_with fail;refine O.mono ?_
 rintro e X ⟨rfl,⟨v,n,z,A⟩,B⟩;have c0:=bk n 0;have c1:=bk n 1;have u:=D n;have Q:=D z;have C:=D B;have o:=D A;clear n z B A;go_wp2_with (at_builtin;refine Ul rfl _ _ 23 9 rfl 0 5 H B8 A8 I K L N _ _ _ rfl Q (str s) rfl ?c3 ?c4 (Dd _) ?_)
 case c3=>rw [y.out];unfold Bk;omega
 case c4=>rw [y.out];omega
 intro Z r d;have t:r.heap[b]?= some (Ab (Ae (some ⟨b,0,none⟩)::v::xs).toArray f (0,0)):=by
  rw [d.grown.block b (Ag.1 u).1 (fun e=>x (by rw [←o];exact e.symm))];exact u
 have h0:=bk t 1;have f1:=JF t 1;obtain⟨a,c,rfl, -⟩:=NQ d.own;have R:AA ((r.setCell ⟨b,1,none⟩ (J a (l.length+s.length) c)).heap[b]?= some (Ab (Ae (some ⟨b,0,none⟩)::J a (l.length+s.length) c::xs).toArray f (0,0))):=D (by
  have:=JJ t 1 (J a (l.length+s.length) c)
  simpa using this)
 have E:(J a (l.length+s.length) c).ownBlock≠some b:=by
  rcases d.at_ with e|⟨m,e,F⟩
  ·rw [e,o];exact x
  ·rw [e];intro q;cases q;have:=(Ag.1 u).1;omega
 have S:AA ((r.setCell ⟨b,1,none⟩ (J a (l.length+s.length) c)).ownsRow 0 5 1 (J a (l.length+s.length) c) (l.length+s.length) (byC l++IB (str s))):=D (KX d.own (fun k i=>AY _ _ _ _ (fun q=>E (by rw [i];exact congrArg some q))));have T:AA (LW b g w (J a (l.length+s.length) c).ownBlock (r.setCell ⟨b,1,none⟩ (J a (l.length+s.length) c))):=D (by
  refine⟨((C.mono (G':=fun k=>k=b∨g=some k) (fun k _ q=>AO q)).grown d.grown (fun k i=>AB (AB (by rw [←o];exact i)))).setCell (p:=⟨b,1,none⟩) (AB (AO rfl)) _,?_⟩
  rcases d.at_ with e|⟨m,e,F⟩
  ·rw [e,o];exact AO rfl
  ·exact AB ⟨m,e,AL C.size F⟩)
 clear d t;go_wp2
 go_ret2
 refine⟨rfl,_,⟨⟨_,_,AB rfl,R,?_,rfl⟩,E⟩,T⟩;have:=S.out;rw [P.out,←Lib.byteCells_append]at this;rw [M];exact this
theorem zf8:prog.cellsOf 5=1:=by kernel_rfl
theorem pI {t:AK}{b:Nat}{g:Option Nat}{l:Bs}{xs:List h}{w0 w:Y}(i:EB t b g l xs w)(c:l≠[])(hlen:l.length≤1000000)(d:Ext w0 w)(u:∀ k,g=some k→w0.heap.size≤k):
 As prog 63 #[Ae (some ⟨b,0,none⟩)] w fun e w'=>e=Ak (Aa (str l))∧Ext w0 w':=by
 obtain⟨p,v,_,m,f,y⟩:=i.ex;have o:l.length≠0:=by simpa using c
 obtain⟨a,cap,cur,rfl,_,q,z,A,L,B⟩:∃ a cap cur,v=J (some ⟨a,0,none⟩) l.length cap∧0≤a∧w.heap[a]?= some (Ab cur 5 (0,0))∧l.length≤cap∧cap≤Bk∧cur.size=cap*1∧cur.toList.take (l.length*1)=byC l:=by
  rcases f.2 with⟨_,C⟩|⟨g,cap,cur,E,F⟩
  ·exact absurd C o
  ·exact⟨g,cap,cur,E,F⟩
 have G:w0.heap.size≤a:=u a (y.symm);have mixed:prog.follows Fu=true:=by kernel_rfl
 have c1:=bk (w:=w.drew) m 1;have H:(Builtin.unsafeSliceData_ #[23] 187 #[J (some ⟨a,0,none⟩) l.length cap]).run prog w.drew=Ez (Ae (some ⟨a,0,none⟩)) w.drew:=
  Lib.run_unsafeSliceData_row _ _ _ _ _ _ (by omega)
 have I:(Builtin.unsafeString_ #[187,3] 9 #[Ae (some ⟨a,0,none⟩),V Ad l.length]).run prog w.drew=Ez (Aa ⟨l.toArray⟩) (w.drew.freeze ⟨a,0,none⟩ l.length):=by
  refine Lib.run_unsafeString_row w.drew 187 3 9 5 Fo zf8 a cur.size (by have K:w.drew.heap[a]?= some (Ab cur 5 (0,0)):=q;simp [World.shape?,K]) l c (by omega) (by unfold Bk at A;omega) ?_
  intro j x d;have:=f.cells (g:=a) rfl j (V BJ x.toNat) (by simp [Lib.byteCells,d]);exact this
 have r:AA (Ext w0 (w.drew.freeze ⟨a,0,none⟩ l.length)):=D (Lib.below_freeze (Ext.drew d) (p:=⟨a,0,none⟩) G _);clear i m f q B;obtain⟨n,s⟩:=JH l.length;rw [←s]at I H c1 r z hlen;clear s o c;go_enter func63,ntmps63;go_wp2
 go_region_o
 all_goals (go_wp2;go_ret;exact⟨rfl,r⟩)
end Go.Proofs.YtmkomefmgcpnbaaGreatDoor

import Derived.Test.YtmkomefmgcpnbaaGreatDoorMg18
set_option linter.all false
set_option maxHeartbeats 12800000
set_option maxRecDepth 100000
namespace Go.Proofs.YtmkomefmgcpnbaaGreatDoor
open Tryz Pg Go Go.Proofs Go.RowKit
open Pm (Tm Ac In)
open _root_.And renaming intro→Ct
open _root_.Array renaming getElem?_eq_some_iff→Ag,length_toList→Ed,toList_inj→F9
open _root_.Bool renaming and_eq_true→Ah,eq_false_iff→AJ,false_eq_true→BL,eq_iff_iff→Bl
open Go renaming Act→CY,Calls→As,Exit→EY,Operand→CC,Oper→B5,TypeId→AK,Value→h,World→Y,execOp→CS,heap_alloc_new→Aj,run_makeMap_plain→DF,undef→Ca,yielded→BW,Addr→Bi,maxLen→Bk,run_underlying→Cq,setRow_heap→Bo,setRow_other→C7,typeInfo→Ih,heap_alloc2_new→Ay,heap_alloc2_old→AP
open Go.Act renaming put→Au
open Go.Ending renaming returned→Ak
open Go.IntKind renaming i64→Ad,u32→Af,wrap_i64→Im
open Go.IntWalk renaming i64_in→AU
open Go.Lib renaming hid→D
open Go.Obj renaming cells→Ab,map→Eu
open Go.Oper renaming wp→Cb
open Go.Proofs renaming intOf→AX
open Go.Region renaming wanted→AQ
open Go.Result renaming andThen→BM,ok→Ez,andThen_ok→C3
open Go.RowKit renaming Hid→AA
open Go.Value renaming agg→AN,int→V,map→Bj,pointer→Ae,slice→J,string→Aa,tuple→AZ,ownBlock→CF,bool→AE,func→ER,oneCell'→CT
open Go.World renaming drew→Ga
open _root_.List renaming append_assoc→AG,append_nil→BP,cons_append→BS,eq_nil_of_length_eq_zero→BZ,flatMap_append→CO,getElem?_eq_getElem→Al,getElem?_eq_some_iff→Ao,isEmpty_iff→CL,length_append→M,length_nil→Av,length_take→BD,mem_cons_of_mem→DE,mem_cons_self→Bb,nil_append→B9,take_add_one→BB,take_append_drop→C6,take_length→BN,length_drop→Cr,length_replicate→FY,replicate→BK,size_toArray→Bz,drop_eq_getElem_cons→AR,map_cons→B7,map_nil→D2,map_toArray→EZ,mem_cons→AH,not_mem_nil→Ba
open _root_.Nat renaming le_of_lt→Ev,le_refl→Aw,le_succ→CA,le_trans→AL,lt_of_lt_of_le→Ar,min_eq_left→CJ,ne_of_lt→II,add_zero→Dp,mul_one→Ht,zero_add→BF
open _root_.Option renaming map_eq_some_iff→DP,map→Js
open _root_.Or renaming inl→AO,inr→AB
open Go.Builtin renaming append_→C8,firstCells→GR,zeroCells→B3,append→Iq
open Go.Proofs.Tryz renaming underlying24→Ch,underlying37→Dn,underlying72→Cj
open Go.RowKit.Below renaming heap_setCell→AY
open _root_.ByteArray renaming ext→DS
open Go.ByteArray renaming toList_eq→Br
open Go.Callee renaming builtin→GU
open Go.Op renaming call→Gy
open Go.Sem renaming run_bind→Di,run_pure→D3
theorem qK (s x:Bs):∀ (l:List Bs),MG s (l++[x])=match MG s l with|some k=>some k|none=>if x=s then some l.length else none
 |[]=>by
  unfold MG;rw [B9,R9];by_cases q:x=s
  ·rw [if_pos q,if_pos ((Ko _ _).2 q)];rfl
  ·rw [if_neg q,if_neg (fun a=>q ((Ko _ _).1 a))];rfl
 |b::l=>by
  have c:=qK s x l;unfold MG at c ⊢;rw [BS,R9,R9,c];by_cases q:b=s
  ·have e:LJ b s=true:=(Ko _ _).2 q;rw [e];rfl
  ·have e:LJ b s=false:=by rw [AJ];exact fun a=>q ((Ko _ _).1 a)
   rw [e];cases d:LK s l 0 with
   |some k=>rfl
   |none=>
    by_cases a:x=s
    ·simp [a]
    ·simp [a]
theorem xB {s:Bs}:∀ {l:List Bs}{k:Nat},MG s l=some k→s∈l
 |[],k,a=>by simp [MG,LK]at a
 |c::l,k,a=>by
  unfold MG at a;rw [R9]at a;split at a
  ·rename_i q;rw [←(Ko _ _).1 q];exact Bb
  ·obtain⟨j,b, -⟩:=DP.1 a;exact DE _ (xB (l:=l) b)
theorem eU {l:List Bs}(b:M4 l=true)(s:Bs):∀ i,JR s (l.take i)=MG s (l.take i)
 |0=>rfl
 |i+1=>by
  have a:=eU b s i;rw [BB];cases d:l[i]? with
  |none=>simpa using a
  |some x=>
   show JR s (l.take i++[x])=MG s (l.take i++[x])
   rw [PI,qK,←a];have e:=gL b d;by_cases q:x=s
   ·rw [if_pos q,if_pos q];cases c:JR s (l.take i)with
    |none=>rfl
    |some k=>
     rw [a]at c;have:=(Rl _ _).2 (xB c);rw [←q,e]at this;cases this
   ·rw [if_neg q,if_neg q];cases JR s (l.take i)<;>rfl
theorem gP:∀ (a b:List Bs),M4 (a++b)=true→M4 b=true
 |[],b,c=>c
 |d::a,b,c=>by
  rw [BS,M4,Ah]at c;exact gP a b c.2
def YF (f:Pg.Fn)(i j:Nat)(z:ByteArray):Option h:=match JR (bs z) (f.params.take j)with
 |some k=>some (V Ad (k:Nat))
 |none=>(JR (bs z) (f.JE.take i)).map fun k=>V Ad ((f.params.length+1+k:Nat))
theorem zo7 {f:Pg.Fn}{i:Nat}{x:Bs}(a:f.JE[i]?= some x)(z:ByteArray):(if z=str x then some (V Ad ((f.params.length+1+i:Nat)))else YF f i 0 z)=YF f (i+1) 0 z:=by
 have d:=(Ao.1 a).1;have b:∀ k,YF f k 0 z=(JR (bs z) (f.JE.take k)).map fun k=>V Ad ((f.params.length+1+k:Nat)):=fun _=>rfl
 rw [b,b,BB (i:=i),a];show _=Js _ (JR (bs z) (f.JE.take i++[x]))
 rw [PI];by_cases q:z=str x
 ·rw [if_pos q,if_pos (by rw [q,L6]),BD,CJ (by omega)];rfl
 ·rw [if_neg q,if_neg (fun c=>q (by rw [c,VD]))]
theorem zo8 {f:Pg.Fn}{i j:Nat}{x:Bs}(a:f.params[j]?= some x)(z:ByteArray):(if z=str x then some (V Ad (j:Nat))else YF f i j z)=YF f i (j+1) z:=by
 have c:=(Ao.1 a).1;unfold YF;rw [BB (i:=j),a];show _=match JR (bs z) (f.params.take j++[x])with|some k=>_|none=>_
 rw [PI];by_cases q:z=str x
 ·rw [if_pos q,if_pos (by rw [q,L6]),BD,CJ (by omega)]
 ·rw [if_neg q,if_neg (fun b=>q (by rw [b,VD]))]
theorem zo9 {p:JQ}{f:Pg.Fn}(c:M4 (f.params++f.JE)=true):YF f f.JE.length f.params.length=vS (JI p f):=by
 funext z;have h1:=(Zh _ _ c).1;have d:=gP _ _ c;have a:=eU h1 (bs z) f.params.length;have b:=eU d (bs z) f.JE.length;rw [BN]at a b;unfold YF vS Ke.slot;rw [BN,BN,a,b];cases MG (bs z) f.params with
 |some k=>rfl
 |none=>
  show _=Js _ (Js _ (MG (bs z) f.JE))
  rw [Option.map_map];rfl
theorem zU8 {b sB:Nat}{g:Option Nat}{lv:h}{w W f:Y}(c:K9 b g lv w g lv W)(d:W.grownBy f (some sB))(l:w.heap.size≤sB):K9 b g lv w g lv f:=
 ⟨⟨d.os.trans c.upd.os,d.tape.trans c.upd.tape,d.output.trans c.upd.output,AL c.upd.size d.size,fun k i j=>by
  rw [d.block k (Ar i c.upd.size) (fun e=>by injection e with e;omega)]
  exact c.upd.block k i j⟩,AO rfl,AO rfl⟩
structure FL (c:Cn) (g:Option Nat) (lv:h) (l:Bs) (lb b0 sB:Nat) (fv:Array h) (w0:Y) (val:ByteArray→Option h) (w:Y):Prop where
 cw:CW c g l lb 0 [] lv w
 rl:K9 c.b g lv w0 g lv w
 bx:w.heap[b0]?= some (Ab fv 109 (0,0))
 sm:c.sm=Bj (some sB)
 mp:MapAt KQ w sB val
 h0:w0.heap.size≤b0
 hs:w0.heap.size≤sB
 ne:b0≠sB
 cg:∀ k,CG c.b g lv k→k<w0.heap.size
section
variable {c c':Cn}{g:Option Nat}{lv:h}{l:Bs}{lb b0 sB:Nat}{fv:Array h}{w0 w w':Y}{val:ByteArray→Option h}
theorem FL.nb (a:FL c g lv l lb b0 sB fv w0 val w):¬ CG c.b g lv b0∧¬ CG c.b g lv sB:=⟨fun q=>by have:=a.cg _ q;have:=a.h0;omega,fun q=>by have:=a.cg _ q;have:=a.hs;omega⟩
theorem FL.ext (a:FL c g lv l lb b0 sB fv w0 val w)(x:Ext w w'):FL c g lv l lb b0 sB fv w0 val w':=
 ⟨a.cw.ext x,a.rl.trans (K9.ext x),CE x a.bx,a.sm,MapAt.keep KQ a.mp (x.block _ (MapAt.lt KQ a.mp)),a.h0,a.hs,a.ne,a.cg⟩
theorem FL.map {d:ByteArray}{v:h}{f:ByteArray→Option h}(a:FL c g lv l lb b0 sB fv w0 val w)(m:Ur KQ w w' sB val d v)(i:∀ z,(if z=d then some v else val z)=f z):FL c g lv l lb b0 sB fv w0 f w':=
 ⟨a.cw.upd (G:=fun k=>k=sB) ⟨m.grown.os,m.grown.tape,m.grown.output,m.grown.size,fun k b j=>m.grown.block k b (fun e=>j (by injection e with e))⟩ (fun k b=>by subst b;have:=a.cw.tab.lt;have:=a.hs;exact AL (AL a.cw.b13 (Ev (a.cg _ (AO rfl)))) a.hs) (fun k b e=>by subst e;exact a.nb.2 b),zU8 a.rl m.grown a.hs,
  by rw [m.grown.block b0 (Ag.1 a.bx).1 (fun e=>a.ne (by injection e))];exact a.bx,a.sm,by
   obtain⟨n,k,h1,o⟩:=m.at_
   exact⟨n,k,h1,fun z=>by rw [o];exact i z⟩,a.h0,a.hs,a.ne,a.cg⟩
theorem FL.Xr {lb':Nat}(a:FL c g lv l lb b0 sB fv w0 val w)(d:c'.b=c.b)(f:c'.sm=c.sm)(i:Nat)(v:h)(j:(c.xs lb 0 lv).set i v=c'.xs lb' 0 lv):FL c' g lv l lb' b0 sB fv w0 val (w.setCell ⟨c.b,i+2,none⟩ v):=by
 obtain⟨h1,e⟩:=a.cw.Xr d i v j;refine⟨h1,by rw [d];exact a.rl.trans e,?_,f.trans a.sm,MapAt.keep KQ a.mp (e.upd.block _ (MapAt.lt KQ a.mp) a.nb.2),a.h0,a.hs,a.ne,by rw [d];exact a.cg⟩;rw [e.upd.block b0 (Ag.1 a.bx).1 a.nb.1];exact a.bx
end
theorem FL.env {p:JQ}{f:Pg.Fn}{c:Cn}{U:Nat→Prop}{g:Option Nat}{lv:h}{l:Bs}{lb b0 sB:Nat}{fv:Array h}{w0 W:Y}{val:ByteArray→Option h}(d:FL c g lv l lb b0 sB fv w0 val W)(o:val=vS (JI p f))(r:Ju KG U w0 p.globals (J c.GA c.ng c.gc))(nu:∀ k,U k→¬ CG c.b g lv k)(lt:∀ k,U k→k<w0.heap.size)
 (gm:∃ a,c.gm=Bj (some a)∧MapAt KQ w0 a (vI (p.globals.map KJ.name))∧¬ CG c.b g lv a)
 (fm:∃ i,c.fm=Bj (some i)∧MapAt KQ w0 i (vI (p.JY.map Pg.Fn.name))∧¬ CG c.b g lv i) (s:c.sz=f.params.length+1+f.JE.length) (t:c.lo=f.JE.length):Lc (JI p f) c U g lv W:=by
 have j:∀ {val:ByteArray→Option h} {v:h},(∃a,v=Bj (some a)∧MapAt KQ w0 a val∧¬ CG c.b g lv a)→∃ a,v=Bj (some a)∧MapAt KQ W a val∧¬ CG c.b g lv a:=by
  rintro val v ⟨a,e,m,n⟩;exact⟨a,e,MapAt.keep KQ m (d.rl.upd.block a (MapAt.lt KQ m) n),n⟩
 subst o;exact⟨r.upd d.rl.upd nu (fun _ q=>q),nu,fun k u=>Ar (lt k u) d.rl.upd.size,j gm,j fm,⟨sB,d.sm,d.mp,d.nb.2⟩,s,t⟩
theorem RN {b:Type} [DecidableEq b] {K:Wm b}{g i j:AK}{z:h}(k:MT K g i j z){w:Y}{ops:Array B5}{o:B5}{a:CY}{d:CY→Y→Prop}{Q:EY→CY→Y→Prop}(l:o.guard=none)(m x u:CC)(n:o.op=.mapUpdate g m x u)(e:Nat)(val:b→Option h)(p:MapAt K w e val)
 (q:a.eval m=Bj (some e)) (f:b) (r:a.eval x=K.enc f) (v:h) (s:a.eval u=v) (t:∀ c,Ur K w c e val f v→d (a.put o.dst Ca) c):if AQ o (BW ops a.tmps)=true then Cb prog o a w d Q else d (a.put o.dst Ca) w:=by
 have y:AQ o (BW ops a.tmps)=true:=by unfold AQ;rw [l]
 rw [if_pos y];obtain⟨c,A,B⟩:=TU k p f v;unfold Cb;simp [CS,n,q,r,s,A,BM];exact t c B
theorem zp0 {p:JQ}{f:Pg.Fn}{b lb n:Nat}(a:n+(Oy p b f lb).1.length≤1000000):n+(JU (Mc b)).length+(if f.JE.isEmpty then []else JS Kz 0:Bs).length+(f.JE.flatMap fun _=>JD [KL]).length+(KY (JI p f) f.body ([],[]) lb).1.length+(JS Kz 0).length+(JS Od (f.JE.length+1)).length≤1000000:=by
 unfold Oy at a;dsimp only at a;rw [show(⟨p,f.params,f.JE⟩:Ke)=JI p f from rfl]at a;simp only [M]at a;omega
theorem xC (p:JQ)(yd:iX p)(f:Pg.Fn)(A:Nat)(ye:f∈p.JY)(zc:A≤64)(xk:∀ (c:Cn)(U:Nat→Prop)(g:Option Nat)(lv:h)(w:Y)(l:Bs)(lb:Nat)(v:h),
 CW c g l lb 0 [] lv w→Lc (JI p f) c U g lv w→Ju KS U w f.body v→lb+2*Jv f.body≤80000→l.length+(KY (JI p f) f.body ([],[]) lb).1.length≤1000000→
 As prog 106 #[Ae (some ⟨c.b,0,none⟩),v] w (MB c g lv w (l++(KY (JI p f) f.body ([],[]) lb).1) (KY (JI p f) f.body ([],[]) lb).2 0 []))
 (xl:M4 (f.params++f.JE)=true) (yf:f.params.length≤1000) (yg:f.JE.length≤1000) (c:Cn) (U:Nat→Prop) (g:Option Nat) (lv:h) (w:Y) (l:Bs) (lb:Nat) (cs:List h)
 (T:CW c g l lb 0 [] lv w) (xm:Ju KG U w p.globals (J c.GA c.ng c.gc)) (nu:∀ k,U k→¬ CG c.b g lv k) (lt:∀ k,U k→k<w.heap.size)
 (gm:∃ hs,c.gm=Bj (some hs)∧MapAt KQ w hs (vI (p.globals.map KJ.name))∧¬ CG c.b g lv hs)
 (fm:∃ ht,c.fm=Bj (some ht)∧MapAt KQ w ht (vI (p.JY.map Pg.Fn.name))∧¬ CG c.b g lv ht)
 (yh:KF.rep U w f cs) (xn:lb+2*Jv f.body≤80000) (xo:l.length+(Oy p A f lb).1.length≤1000000):
 As prog 60 #[Ae (some ⟨c.b,0,none⟩),V Ad A,AN cs.toArray] w fun e w'=>e=Ak (AZ #[])∧∃ sm sz lo xp xq,CW {c with sm:=sm,sz:=sz,lo:=lo} xp (l++(Oy p A f lb).1) (Oy p A f lb).2 0 [] xq w'∧K9 c.b g lv w xp xq w':=by
 obtain⟨zd,ze,zf,rfl,hk,hl,hm⟩:=yh;obtain⟨PA,O,rfl⟩:=JB hk;obtain⟨E,C,rfl⟩:=JB hl;obtain⟨G,H,rfl⟩:=JB hm;obtain⟨t,hu⟩:=JH f.params.length;obtain⟨u,hv⟩:=JH f.JE.length;obtain⟨I,xr⟩:=JH f.body.length;have h8:=D hu;have B:=D hv;rw [←hu]at hk yf ⊢;rw [←hv]at hl yg ⊢;rw [←xr]at hm ⊢
 let fv:Array h:= #[Aa (str f.name),J PA t O,J E u C,J G I H]
 have xt:∀ (r:Y),Ext w r→r.heap.size=w.heap.size+1→r.heap[w.heap.size]?= some (Ab #[Aa (str f.name),J PA t O,J E u C,J G I H] 109 (0,0))→AA (FL {c with sm:=Bj (some (w.heap.size+1)),lo:=u} g lv l lb w.heap.size (w.heap.size+1) #[Aa (str f.name),J PA t O,J E u C,J G I H] w (YF f 0 0) (((r.setCell ⟨c.b,7,none⟩ (Bj (some (w.heap.size+1)))).setCell ⟨c.b,9,none⟩ (V Ad u)).alloc (Eu #[] 0))):=fun r X yi yj=>D (by
  have yk:FL {c with sm:=Bj (some (w.heap.size+1))} g lv l lb w.heap.size (w.heap.size+1) #[Aa (str f.name),J PA t O,J E u C,J G I H] w (YF f 0 0) ((r.alloc (Eu #[] 0)).setCell ⟨c.b,7,none⟩ (Bj (some (w.heap.size+1)))):=by
   have xu:Ext w (r.alloc (Eu #[] 0)):=X.alloc _
   obtain⟨Z,q2⟩:=(T.ext xu).Xr (c':={c with sm:=Bj (some (w.heap.size+1))}) (lb':=lb) (Wn:=0) rfl 5 (Bj (some (w.heap.size+1))) (by simp [Cn.xs])
   have hw:∀ k,CG c.b g lv k→k<w.heap.size:=fun k hx=>T.lt hx
   refine⟨Z,(K9.ext xu).trans q2,?_,rfl,?_,Aw _,CA _,by omega,hw⟩
   ·rw [q2.upd.block w.heap.size (by simp;omega) (fun q=>by have:=hw _ q;omega)]
    exact CE ((Ext.refl r).alloc _) yj
   ·have xv:=Ti (K:=KQ) r
    rw [yi]at xv
    have xw:=xv
    exact MapAt.keep KQ xw (q2.upd.block _ (MapAt.lt KQ xw) (fun q=>by have:=hw _ q;omega))
  have hz:=T.eb.lt
  rw [←World.setCell_alloc_past _ _ _ _ (by simp;omega),←World.setCell_alloc_past _ _ _ _ (by omega)]
  exact yk.Xr (c':={c with sm:=Bj (some (w.heap.size+1)),lo:=u}) (lb':=lb) rfl rfl 7 (V Ad u) (by simp [Cn.xs]))
 have xx:=T.Kv (i:=5) rfl;have xy:=T.Kv (i:=7) rfl;have hz:=T.eb.lt;have xz:=D T;have P:=D (Ct xm (Ct nu (Ct lt (Ct gm fm))));have yl:=D hk;have ym:=D hl;have yn:=D hm;have yo:=D xo;have y0:=D xn;have y1:=D xk;have yp:=D xl;clear hk hl hm xo xn xk xm nu lt gm fm ye yd hu hv xr xl T;go_enter func60,ntmps60;have yq:= @DF prog;go_upto_region 2 with fail;refine Yy (S:=fun W=>W.cell? ⟨w.heap.size,2,none⟩=some (J E u C)) (F:=[]) (by kernel_rfl) ?_
 generalize hn:Ga (w.alloc (Ab #[Aa (str f.name),J PA t O,J E u C,J G I H] 109))=r;have X:Ext w r:=by rw [←hn];exact((Ext.refl w).alloc _).drew
 have s1:r.heap.size=w.heap.size+1:=by rw [←hn];simp [Ga]
 have x0:r.heap[w.heap.size]?= some (Ab #[Aa (str f.name),J PA t O,J E u C,J G I H] 109 (0,0)):=by rw [←hn];exact CE ((Ext.refl _).drew) (Aj w _)
 have Z:=JA x0 2;clear hn;have m:=Z
 iterate 2 refine JC m ?_
 refine KM 3 m ?_
 refine QM 4 m (fun w L=>L) ?_
 refine KM 5 m ?_
 refine JX.rd 2 (fun K n=>?_);go_simp;refine n _ _ ?_ (fun m=>?_)
 ·exact Ext.cell ((Ext.refl _).alloc _) m
 clear n K
 iterate 2 refine JC m ?_
 refine JM (fun K n=>?_);have h9:(r.alloc (Eu #[] 0)).cell? ⟨c.b,7,none⟩=some c.sm:=Ext.cell (X.alloc _) xx;have x1:(r.alloc (Eu #[] 0)).frozen? ⟨c.b,7,none⟩=false:=(xz.ext (X.alloc _)).QX 7;go_simp;refine n _ _ ?_ (fun m=>?_)
 ·first|exact m|(refine Ext.cell ((Ext.refl _).alloc _) ?_;(repeat rw [World.cell?_setCell_far _ _ _ _ (II hz)]);exact Z)
 clear n K
 try simp only [Au,pA,pB,pC]
 iterate 2 refine JC m ?_
 try simp only [Au,pA,pB,pC]
 refine JM (fun K n=>?_);have y2:(r.setCell ⟨c.b,7,none⟩ (Bj (some (w.heap.size+1)))).cell? ⟨c.b,9,none⟩=some (V Ad c.lo):=by
  rw [World.cell?_setCell_other _ _ _ _ (by simp)];exact Ext.cell X xy
 have yr:((r.setCell ⟨c.b,7,none⟩ (Bj (some (w.heap.size+1)))).alloc (Eu #[] 0)).cell? ⟨c.b,9,none⟩=some (V Ad c.lo):=Ext.cell ((Ext.refl _).alloc _) y2;have x2:((r.setCell ⟨c.b,7,none⟩ (Bj (some (w.heap.size+1)))).alloc (Eu #[] 0)).frozen? ⟨c.b,9,none⟩=false:=by
  rw [World.frozen?_of_block (((Ext.refl (r.setCell ⟨c.b,7,none⟩ (Bj (some (w.heap.size+1))))).alloc (Eu #[] 0)).block c.b (by simp [s1];omega)),World.frozen?_setCell];exact(xz.ext X).QX 9
 go_simp;refine n _ _ ?_ (fun m=>?_)
 ·first|exact m|(refine Ext.cell ((Ext.refl _).alloc _) ?_;(repeat rw [World.cell?_setCell_far _ _ _ _ (II hz)]);exact Z)
 clear n K
 try simp only [Au,pA,pB,pC]
 refine JV ?_
 have o:=xt r X s1 x0;clear xt m yr x2 y2 h9 x1 xx xy Z yq;generalize(((r.setCell ⟨c.b,7,none⟩ (Bj (some (w.heap.size+1)))).setCell ⟨c.b,9,none⟩ (V Ad u)).alloc (Eu #[] 0))=W2 at o ⊢;have ha:=bk o.bx 2;clear x0 s1 X;obtain⟨sB,y3⟩:=JH (w.heap.size+1);rw [←y3]at o ⊢;obtain⟨b0,y4⟩:=JH w.heap.size;rw [←y4]at o ha ⊢;clear y3 y4;go_wp2;go_loopw [23] (fun s h0=>∃ i:Nat,s=V Ad i∧i≤u∧AA (FL {c with sm:=Bj (some sB),lo:=u} g lv l lb b0 sB #[Aa (str f.name),J PA t O,J E u C,J G I H] w (YF f i 0) h0)) (fun s _=>u - (AX s).toNat)
 case atStart=>exact⟨0,rfl,by omega,o⟩
 case round=>
  clear o ha;obtain⟨i,rfl,zg,o⟩:=hrel;have z1:=bk o.bx 1;have h9:wr.cell? ⟨c.b,7,none⟩=some (Bj (some sB)):=o.cw.Kv (i:=5) rfl;by_cases ys:i<u
  ·obtain⟨x,h1⟩:∃ x,f.JE[i]?= some x:=⟨_,Al (show i<f.JE.length by rw [←B];exact ys)⟩
   obtain⟨ho,N,yt,x3,hb, -,hc,hd⟩:=(ym.upd o.rl.upd P.2.1 (fun _ q=>q)).elem h1;have x4:x3=[Aa (str x)]:=hc;subst x4;rw [←B]at hb;injection hb with x5 yu x6
   subst x5 x6;have Z:wr.cell? ⟨ho,N+i,none⟩=some (Aa (str x)):=by have:=hd 0 (Aa (str x)) rfl;rwa [show N+i*Qs.size+0=N+i from by show N+i*1+0=N+i;omega]at this
   have he:=D (zo7 h1);rw [←h8]at he;have h4:((t+1+i:Nat):Int)=(t:Int)+1+i:=by omega
   rw [h4]at he;have x7:AA (Ad.wrap (Ad.wrap ((t:Int)+1)+(i:Int))=(t:Int)+1+i):=D (by rw [AU ((t:Int)+1) (by omega),AU _ (by omega)]);clear hc hd h1 h4;go_wp2;refine JX.go (FL {c with sm:=Bj (some sB),lo:=u} g lv l lb b0 sB #[Aa (str f.name),J PA t O,J (some ⟨ho,N,none⟩) u C,J G I H] w (YF f i 0)) [11] (o.ext ((Ext.refl _).drew)) (fun m=>?_)
   iterate 3 refine JC m ?_
   refine JP m (fun w L=>L.cw.Kv (i:=5) rfl) ?_
   iterate 2 refine JC m ?_
   refine JP m (fun w L=>JA L.bx 1) ?_
   iterate 4 refine JC m ?_
   try simp only [Au,pA,pB,pC]
   refine JX.fn (fun K n=>?_);refine RN Yu (by rfl) _ _ _ (by rfl) sB _ m.mp (by rfl) (str x) (by rfl) (V Ad ((t:Int)+1+i)) (by show V Ad (Ad.wrap (Ad.wrap ((t:Int)+1)+(i:Int)))=_;rw [x7]) ?_
   intro yv x8;refine n _ _ ?_
   clear n K
   try simp only [Au,pA,pB,pC]
   refine JV ?_
   go_wp2_with fail;go_roundw
   case rel=>exact⟨i+1,by go_num,by omega,D ((o.ext ((Ext.refl _).drew)).map x8 he)⟩
   case measure=>simp [AX];omega
  ·have yw:i=u:=by omega
   subst yw;go_wp2;go_loopw [43] (fun s h0=>∃ j:Nat,s=V Ad j∧j≤t∧AA (FL {c with sm:=Bj (some sB),lo:=i} g lv l lb b0 sB #[Aa (str f.name),J PA t O,J E i C,J G I H] w (YF f i j) h0)) (fun s _=>t - (AX s).toNat)
   case atStart=>exact⟨0,rfl,by omega,o⟩
   case round=>
    clear o z1 h9;obtain⟨j,rfl,zh,o⟩:=hrel;have h9:wr.cell? ⟨c.b,7,none⟩=some (Bj (some sB)):=o.cw.Kv (i:=5) rfl;by_cases yx:j<t
    ·obtain⟨x,h1⟩:∃ x,f.params[j]?= some x:=⟨_,Al (show j<f.params.length by rw [←h8];exact yx)⟩
     obtain⟨ho,N,yt,x3,hb, -,hc,hd⟩:=(yl.upd o.rl.upd P.2.1 (fun _ q=>q)).elem h1;have x4:x3=[Aa (str x)]:=hc;subst x4;rw [←h8]at hb;injection hb with x5 yu x6
     subst x5 x6;have Z:wr.cell? ⟨ho,N+j,none⟩=some (Aa (str x)):=by have:=hd 0 (Aa (str x)) rfl;rwa [show N+j*Qs.size+0=N+j from by show N+j*1+0=N+j;omega]at this
     have he:AA (∀z,(if z=str x then some (V Ad (j:Nat))else YF f i j z)=YF f i (j+1) z):=D (zo8 h1);clear hc hd h1;go_wp2_with (refine TA Yu rfl _ _ _ rfl sB _ o.mp rfl (str x) rfl _ rfl ?_;intro yv x8);go_roundw
     case rel=>exact⟨j+1,by go_num,by omega,D (o.map x8 he)⟩
     case measure=>simp [AX];omega
    ·have yy:j=t:=by omega
     subst yy;have x7:AA (Ad.wrap (Ad.wrap ((j:Int)+1)+(i:Int))=((j+1+i:Nat):Int)):=D (by rw [AU ((j:Int)+1) (by omega),AU _ (by omega)];omega);clear h9;go_wp2;refine JX.go (FL {c with sm:=Bj (some sB),lo:=i} g lv l lb b0 sB #[Aa (str f.name),J PA j O,J E i C,J G I H] w (YF f i j)) [12] (o.ext ((Ext.refl _).drew)) (fun m=>?_)
     iterate 2 refine JC m ?_
     refine JP m (fun w L=>JA L.bx 1) ?_
     iterate 5 refine JC m ?_
     refine JP m (fun w L=>L.cw.Kv (i:=7) rfl) ?_
     refine JC m ?_
     try simp only [Au,pA,pB,pC]
     refine JM (fun K n=>?_);go_simp;refine n _ _ ?_ (fun m=>?_)
     ·exact m
     clear n K
     try simp only [Au,pA,pB,pC]
     refine JC m ?_
     try simp only [Au,pA,pB,pC]
     refine JX.fn (fun K n=>?_);have zi:(Ga wr).cell? ⟨c.b,8,none⟩=some (V Ad c.sz):=m.cw.Kv (i:=6) rfl;have y5:(Ga wr).frozen? ⟨c.b,8,none⟩=false:=m.cw.QX 8;go_simp;refine n _ _ ?_
     clear n K
     try simp only [Au,pA,pB,pC]
     refine JV ?_
     have Q:AA (FL ({c with sm:=Bj (some sB),lo:=i,sz:=j+1+i}:Cn) g lv l lb b0 sB #[Aa (str f.name),J PA j O,J E i C,J G I H] w (YF f i j) (Ga (wr.setCell ⟨c.b,8,none⟩ (V Ad (Ad.wrap (Ad.wrap ((j:Int)+1)+(i:Int))))))):=D ((o.Xr (c':=({c with sm:=Bj (some sB),lo:=i,sz:=j+1+i}:Cn)) (lb':=lb) rfl rfl 6 _ (by simp [Cn.xs,x7.out])).ext ((Ext.refl _).drew));clear o;generalize(Ga (wr.setCell ⟨c.b,8,none⟩ (V Ad (Ad.wrap (Ad.wrap ((j:Int)+1)+(i:Int))))))=W5 at Q ⊢;have x9:AA (Lc (JI p f) ({c with sm:=Bj (some sB),lo:=i,sz:=j+1+i}:Cn) U g lv W5):=D (Q.env (by rw [B,h8];exact zo9 yp) P.1 P.2.1 P.2.2.1 P.2.2.2.1 P.2.2.2.2 (by rw [←B,←h8]) (by rw [←B]));have y6:=D (yn.upd Q.rl.upd P.2.1 (fun _ q=>q));have xa:AA (K9 c.b g lv w g lv W5):=D Q.rl;have y7:=bk Q.bx 3;have ha:=bk Q.bx 2;have hf:AA (¬CG c.b g lv b0):=D Q.nb.1;have y:=D (SS.start Q.cw x9);have y8:=D x9.nu;have y9:AA (∃sm sz lo,({c with sm:=Bj (some sB),lo:=i,sz:=j+1+i}:Cn)={c with sm:=sm,sz:=sz,lo:=lo}):=D ⟨_,_,_,rfl⟩;have zj:AA (({c with sm:=Bj (some sB),lo:=i,sz:=j+1+i}:Cn).lo=i):=D rfl;have xb:AA (({c with sm:=Bj (some sB),lo:=i,sz:=j+1+i}:Cn).b=c.b):=D rfl;have h5:AA (∀a b d,(({c with sm:=Bj (some sB),lo:=i,sz:=j+1+i}:Cn).xs a b d)[7]?= some (V Ad i)):=D (fun a b d=>rfl);clear Q x9 P;generalize({c with sm:=Bj (some sB),lo:=i,sz:=j+1+i}:Cn)=hp at*
     rw [←xb]at hf xa ⊢;have yz:A≤9223372036854775807:=by omega
     have hg:=D (zp0 yo);go_wp2;refine M5 [] y (fun m=>?_)
     iterate 4 refine JC m ?_
     try simp only [Au,pA,pB,pC]
     refine JM (fun K n=>?_);go_simp;refine(rZ A _ yz (y.cw.tab.ext ((Ext.refl W5).drew))).mono ?_
     rintro e zk ⟨rfl,ya⟩;have xc:=D ((y.ext ((Ext.refl W5).drew)).ext ya);clear ya;refine n _ _ ?_ (fun m=>?_)
     ·exact SX.of xc
     clear n K
     try simp only [Au,pA,pB,pC]
     refine JM (fun K n=>?_);go_simp;refine(VK xc (Mc A) (by have:=hg.out;omega) rfl).mono ?_
     rintro e z0 ⟨rfl,z2,h6⟩;refine n _ _ ?_ (fun m=>?_)
     ·exact SX.of h6
     clear n K
     try simp only [Au,pA,pB,pC]
     refine JV ?_
     have zl:=h6.cw.Kv (i:=7) (h5 _ _ _);have q2:z0.cell? ⟨b0,2,none⟩=some (J E i C):=h6.cell ha hf;clear y xc;by_cases hq:i=0
     ·have z3:¬ (0<(i:Int)):=by omega
      have hr:=D hq;clear hq;go_wp2;have h7:AA (f.JE.isEmpty=true):=D (by rw [CL];exact BZ (B.symm.trans hr));have hh:AA (f.JE.take i=f.JE):=D (by rw [B,BN]);have xd:AA (Ad.wrap ((i:Int)+1)=((i+1:Nat):Int)):=D (by rw [AU _ (by omega)];omega);go_loopw [85] (fun s h0=>∃ (k:Nat) (h2:Option Nat),s=V Ad k∧k≤i∧AA (SS (JI p f) hp U g lv W5 h2 lv ((l++JU (Mc A))++(f.JE.take k).flatMap fun _=>JD [KL]) lb 0 [] h0)) (fun s _=>i - (AX s).toNat)
      case atStart=>exact⟨0,z2,rfl,by omega,D (by have:=h6.out;simpa using this)⟩
      case round=>
       clear h6;obtain⟨k,h2,rfl,hx,y⟩:=hrel;by_cases xe:k<i
       ·exact absurd xe (by have:=hr.out;omega)
       ·have xf:k=i:=by omega
        subst xf;have R:AA (((l++JU (Mc A))++(f.JE.take k).flatMap fun _=>JD [KL]).length+(KY (JI p f) f.body ([],[]) lb).1.length+(JS Kz 0).length+(JS Od (k+1)).length≤1000000):=D (by have:=hg.out;rw [h7.out,←B.out]at this;rw [hh.out];simp only [M,if_true,BL,if_false,reduceIte,Av]at this ⊢;omega);have q3:wr.cell? ⟨b0,3,none⟩=some (J G I H):=y.out.cell y7 hf.out;go_wp2_with (first|(go_at_call 106;refine(((y1.out hp U h2 lv wr _ lb _ y.out.cw y.out.env (y6.out.upd y.out.rl.upd y8.out (fun _ q=>q)) y0.out (by have:=R.out;omega))).mono fun e w' xg=>y.out.sr xg).mono ?_;rintro e z4 ⟨rfl,x1,z5,hi⟩;have z6:=hi.out.cw.Kv (i:=7) (h5.out _ _ _))|(go_at_call 59;refine(Us hi.out Kz 0 (by have:=R.out;rw [M];omega) (by omega) rfl rfl).mono ?_;rintro e xh ⟨rfl,y5,hj⟩));refine M5 [] hj (fun m=>?_)
        iterate 6 refine JC m ?_
        refine JP m (fun w L=>L.Kv (i:=7) (h5 _ _ _)) ?_
        refine JC m ?_
        try simp only [Au,pA,pB,pC]
        refine JM (fun K n=>?_);go_simp;refine(Us (hj.ext ((Ext.refl xh).drew)) Od (k+1) (by have:=R.out;simp only [M]at this ⊢;omega) (by omega) rfl (by rw [xd])).mono ?_
        rintro e z7 ⟨rfl,x2,h3⟩;refine n _ _ ?_ (fun m=>?_)
        ·exact SX.of h3
        clear n K
        try simp only [Au,pA,pB,pC]
        refine JV ?_
        go_wp2_with fail;go_end0;obtain⟨sm,sz,lo,xi⟩:=y9;refine⟨rfl,sm,sz,lo,_,_,?_,by rw [←xb];exact xa.trans h3.rl⟩;have h4:l++(Oy p A f lb).1=(((l++JU (Mc A))++(f.JE.take k).flatMap fun _=>JD [KL])++(KY (JI p f) f.body ([],[]) lb).1++JS Kz 0)++JS Od (k+1):=by
         unfold Oy;dsimp only;rw [show(⟨p,f.params,f.JE⟩:Ke)=JI p f from rfl,h7,←B,hh];simp only [AG,B9,if_true,BL,if_false,reduceIte]
        rw [←xi,h4];exact h3.cw
     ·have z3:0<(i:Int):=by omega
      go_wp2_with (go_at_call 59;refine(Us h6 Kz 0 (by have:=hg.out;rw [show f.JE.isEmpty=false from by rw [AJ];intro q;rw [CL]at q;exact hq (by rw [B,q];rfl)]at this;simp only [M,BL,if_false,reduceIte]at this ⊢;omega) (by omega) rfl rfl).mono ?_;rintro e z8 ⟨rfl,z9,xj⟩;have q4:z8.cell? ⟨b0,2,none⟩=some (J E i C):=xj.cell ha hf);have hr:=D hq;have h7:AA (f.JE.isEmpty=false):=D (by rw [AJ];intro q;rw [CL]at q;exact hr (by rw [B,q];rfl));have hh:AA (f.JE.take i=f.JE):=D (by rw [B,BN]);have xd:AA (Ad.wrap ((i:Int)+1)=((i+1:Nat):Int)):=D (by rw [AU _ (by omega)];omega);go_loopw [85] (fun s h0=>∃ (k:Nat) (h2:Option Nat),s=V Ad k∧k≤i∧AA (SS (JI p f) hp U g lv W5 h2 lv ((l++JU (Mc A)++JS Kz 0)++(f.JE.take k).flatMap fun _=>JD [KL]) lb 0 [] h0)) (fun s _=>i - (AX s).toNat)
      case atStart=>exact⟨0,z9,rfl,by omega,D (by have:=xj.out;simpa using this)⟩
      case round=>
       clear xj;obtain⟨k,h2,rfl,hx,y⟩:=hrel;by_cases xe:k<i
       ·have yb:AA ((f.JE.take (k+1)).flatMap (fun _=>JD [KL])=(f.JE.take k).flatMap (fun _=>JD [KL])++JD [KL]):=D (by
         obtain⟨yc,hy⟩:∃ yc,f.JE[k]?= some yc:=⟨_,Al (show k<f.JE.length by rw [←B];exact xe)⟩
         rw [BB,hy,CO]
         show _++(JD [KL]++[])=_
         rw [BP])
        have hle:((f.JE.take (k+1)).flatMap (fun _=>JD [KL])).length≤(f.JE.flatMap (fun _=>JD [KL])).length:=by
         conv=>rhs;rw [←C6 (k+1) f.JE,CO,M]
         omega
        rw [yb.out,M]at hle;have R:AA (((l++JU (Mc A)++JS Kz 0)++(f.JE.take k).flatMap fun _=>JD [KL]).length+(JD [KL]).length≤1000000):=D (by have:=hg.out;rw [h7.out]at this;simp only [M,if_true,BL,if_false,reduceIte,Av]at this ⊢;omega);clear hle;have zm:=y.out.cw.Kv (i:=7) (h5.out _ _ _);go_wp2_with (go_at_call 57;refine(TD y.out [KL] R.out (by simp) (by simp) rfl rfl).mono ?_;rintro e zn ⟨rfl,za,zb⟩);go_roundw
        case rel=>exact⟨k+1,za,by go_num,by omega,D (by rw [yb,←AG];exact zb)⟩
        case measure=>simp [AX];omega
       ·have xf:k=i:=by omega
        subst xf;have R:AA (((l++JU (Mc A)++JS Kz 0)++(f.JE.take k).flatMap fun _=>JD [KL]).length+(KY (JI p f) f.body ([],[]) lb).1.length+(JS Kz 0).length+(JS Od (k+1)).length≤1000000):=D (by have:=hg.out;rw [h7.out,←B.out]at this;rw [hh.out];simp only [M,if_true,BL,if_false,reduceIte,Av]at this ⊢;omega);have q3:wr.cell? ⟨b0,3,none⟩=some (J G I H):=y.out.cell y7 hf.out;go_wp2_with (first|(go_at_call 106;refine(((y1.out hp U h2 lv wr _ lb _ y.out.cw y.out.env (y6.out.upd y.out.rl.upd y8.out (fun _ q=>q)) y0.out (by have:=R.out;omega))).mono fun e w' xg=>y.out.sr xg).mono ?_;rintro e z4 ⟨rfl,x1,z5,hi⟩;have z6:=hi.out.cw.Kv (i:=7) (h5.out _ _ _))|(go_at_call 59;refine(Us hi.out Kz 0 (by have:=R.out;rw [M];omega) (by omega) rfl rfl).mono ?_;rintro e xh ⟨rfl,y5,hj⟩));refine M5 [] hj (fun m=>?_)
        iterate 6 refine JC m ?_
        refine JP m (fun w L=>L.Kv (i:=7) (h5 _ _ _)) ?_
        refine JC m ?_
        try simp only [Au,pA,pB,pC]
        refine JM (fun K n=>?_);go_simp;refine(Us (hj.ext ((Ext.refl xh).drew)) Od (k+1) (by have:=R.out;simp only [M]at this ⊢;omega) (by omega) rfl (by rw [xd])).mono ?_
        rintro e z7 ⟨rfl,x2,h3⟩;refine n _ _ ?_ (fun m=>?_)
        ·exact SX.of h3
        clear n K
        try simp only [Au,pA,pB,pC]
        refine JV ?_
        go_wp2_with fail;go_end0;obtain⟨sm,sz,lo,xi⟩:=y9;refine⟨rfl,sm,sz,lo,_,_,?_,by rw [←xb];exact xa.trans h3.rl⟩;have h4:l++(Oy p A f lb).1=(((l++JU (Mc A)++JS Kz 0)++(f.JE.take k).flatMap fun _=>JD [KL])++(KY (JI p f) f.body ([],[]) lb).1++JS Kz 0)++JS Od (k+1):=by
         unfold Oy;dsimp only;rw [show(⟨p,f.params,f.JE⟩:Ke)=JI p f from rfl,h7,←B,hh];simp only [AG,B9,if_true,BL,if_false,reduceIte]
        rw [←xi,h4];exact h3.cw
theorem lH (u:h)(n:Nat):(B3 #[u] n).toList=BK n u:=by
 apply List.ext_getElem
 ·rw [Ed,size_zeroCells];simp
 ·intro i h1 a;simp [B3,Nat.mod_one]
theorem lI (w:Y):(zeroValue 24).run prog w=Ez (V Af 0) w:=by
 obtain⟨i,b,c, -, -⟩:=info_parts qw;simp [zeroValue,Ih,b,c]
theorem bT {w:Y}{base:Nat}{v:h}{n:Nat}{xs:List h}(l:w.ownsRow base 24 1 v n xs)(k:Nat)(x:n+k≤100000)(I:base≤w.heap.size)(m:AK):
 ∃v' w',(C8 #[37,24] m #[v,V Af k]).run prog w=Ez v' w'∧w'.ownsRow base 24 1 v' (n+k) (xs++BK k (V Af 0))∧w.grownBy w' v.ownBlock∧(v'.ownBlock=v.ownBlock∨v'.ownBlock=some w.heap.size):=by
 obtain⟨i,o,K,p,a⟩:=info_parts qw;have L:¬ ((k:Int)<0):=by omega
 have N:Ad.wrap 0=0:=by rw [Im];rfl
 have O:Ad.wrap (k:Int)=k:=by rw [Im];omega
 have Q:¬ (281474976710656<(k:Int)*4):=by omega
 by_cases y:k=0
 ·subst y;obtain⟨A,c,rfl,R,h4,h5,h6⟩:=K7 l;refine⟨J A n c,w,?_,by simpa using l,⟨rfl,rfl,rfl,Aw _,fun _ _ _=>rfl⟩,AO rfl⟩;cases A<;>simp [C8,Cq Dn,Cq Ch,sizeOf,Ih,o,p,a,asInt,asIntOf,N,R,storeCells]
 ·have S:0<k:=by omega
  obtain⟨z,T⟩:=l;have B:xs.length=n:=by omega
  have hlen:(xs++BK k (V Af 0)).length=(n+k)*1:=by simp;omega
  have grow:∀ (d:Option Bi) (c:Nat),c<n+k→(GR i.size n (J d n c)).run prog w.drew=Ez xs.toArray w.drew→
   ∃f w',(C8 #[37,24] m #[J d n c,V Af k]).run prog w=Ez (J (some ⟨w.heap.size,0,none⟩) (n+k) f) w'∧w'.ownsRow base 24 1 (J (some ⟨w.heap.size,0,none⟩) (n+k) f) (n+k) (xs++BK k (V Af 0))∧∀ b,w.grownBy w' b:=by
   intro d c hc U;have C:=nextslicecap_le hc;have W:=grownCap_ge w (n+k) c 24;have X:=Lib.run_append_grow_zeros (P:=prog) w 37 24 m 24 i (V Af 0) Af Af Dn Ch o K d n c xs U k S (by omega) hc (by omega) (by rw [a];omega) (by rw [a];omega);refine⟨_,_,X,⟨hlen,AB ⟨w.heap.size,_,_,rfl,I,Aj w.drew _,W,grownCap_le_maxLen _ _ _ _ (by unfold Bk;omega),?_,?_⟩⟩,fun b=>⟨rfl,rfl,rfl,by simp,fun j Z _=>heap_alloc_old w.drew _ Z⟩⟩
   ·simp only [Array.size_append,size_zeroCells,Bz,B];show n+k*1+(_ - (n+k))*1=_*1
    omega
   ·rw [Array.toList_append,Array.toList_append,show(V Af 0).cells= #[V Af 0]from rfl,lH,lH,←hlen];exact List.take_left
  rcases T with⟨rfl,rfl⟩|⟨g,cap,cur,rfl,D,q,C,E,h0,F⟩
  ·have h1:xs=[]:=BZ B;subst h1;obtain⟨f,w',r,s,t⟩:=grow none 0 (by omega) (run_firstCells_none _ _ _ _ _);exact⟨_,w',r,s,t _,AB rfl⟩
  ·by_cases G:n+k≤cap
   ·have H:=run_storeCells_at (P:=prog) g (n*1) 24 (BK k (V Af 0)) 0 cur w q (by simp;omega) (by intro u h2;rw [(List.mem_replicate.1 h2).2];rfl);simp only [Dp,Ht,FY]at H;refine⟨J (some ⟨g,0,none⟩) (n+k) cap,_,?_,⟨hlen,AB ⟨g,cap,_,rfl,D,Bo w g cur (cur.toList.take n++BK k (V Af 0)++cur.toList.drop (n+k)).toArray 24 _ q,G,E,?_,?_⟩⟩,⟨rfl,rfl,rfl,by simp,fun k _ x=>C7 w g k _ (fun e=>x (by simp [CF,e]))⟩,AO rfl⟩
    ·simp [C8,Cq Dn,Cq Ch,sizeOf,Ih,o,p,a,asInt,asIntOf,O,L,Q,G,y,lI,show(V Af 0).cells= #[V Af 0]from rfl,lH,Addr.add_lit,H]
    ·simp only [Bz,M,BD,Cr,Ed,FY];omega
    ·have h3:cur.toList.take n=xs:=by rw [←F,Ht]
     rw [h3,←hlen];exact List.take_left
   ·have holds:∀ j u,xs[j]?= some u→w.cell? ((⟨g,0,none⟩:Bi).add j)=some u:=World.ownsRow.cells (g:=g) ⟨z,AB ⟨g,cap,cur,rfl,D,q,C,E,h0,F⟩⟩ rfl
    obtain⟨f,w',r,s,t⟩:=grow (some ⟨g,0,none⟩) cap (by omega) (run_firstCells_some _ _ _ _ _ _ xs (by rw [p];exact z) holds);exact⟨_,w',r,s,t _,AB rfl⟩
def XB (a:Nat×Nat×Bs):List h:=[V Ad a.1,V Ad a.2.1,Aa (str a.2.2),V Af 0]
def WC (J2:List (Bs×Nat))(z:ByteArray):Option h:=(Ml (bs z) J2).map fun k=>V Af k
structure AW (w0:Y) (I:h) (b mB:Nat) (wv lv rv:h) (ws:List Nat) (J2:List (Bs×Nat)) (rs:List (Nat×Nat×Bs)) (w:Y):Prop where
 x:JK (fun k=>k=b∨k=mB) w0 w
 hb:w.heap[b]?= some (Ab #[V Ad 65536,I,wv,lv,Bj (some mB),rv] 143)
 wr:w.ownsRow w0.heap.size 24 1 wv ws.length (ws.map fun n:Nat=>V Af n)
 lr:∃ n xs,w.ownsRow w0.heap.size 257 2 lv n xs∧n≤J2.length
 rr:w.ownsRow w0.heap.size 193 4 rv rs.length (rs.flatMap XB)
 mp:MapAt KQ w mB (WC J2)
 bm:b≠mB
 nb:wv.ownBlock≠some b∧lv.ownBlock≠some b∧rv.ownBlock≠some b
 nm:wv.ownBlock≠some mB∧lv.ownBlock≠some mB∧rv.ownBlock≠some mB
 nw:∀ k,wv.ownBlock=some k→lv.ownBlock≠some k∧rv.ownBlock≠some k
 nl:∀ k,lv.ownBlock=some k→rv.ownBlock≠some k
section
variable {w0 w w2:Y}{I:h}{b mB:Nat}{wv lv rv v':h}{ws ws':List Nat}{J2 sN:List (Bs×Nat)}{rs rs':List (Nat×Nat×Bs)}
theorem AW.blt (a:AW w0 I b mB wv lv rv ws J2 rs w):b<w.heap.size∧mB<w.heap.size∧(∀k,wv.ownBlock=some k→k<w.heap.size)∧(∀k,lv.ownBlock=some k→k<w.heap.size)∧∀ k,rv.ownBlock=some k→k<w.heap.size:=by
 obtain⟨d,xs,c,e⟩:=a.lr;exact⟨(Ag.1 a.hb).1,MapAt.lt KQ a.mp,fun k q=>(Kc a.wr q).2,fun k q=>(Kc c q).2,fun k q=>(Kc a.rr q).2⟩
theorem AW.ext (a:AW w0 I b mB wv lv rv ws J2 rs w)(c:Ext w w2):AW w0 I b mB wv lv rv ws J2 rs w2:=by
 obtain⟨l,d,e,f,g⟩:=a.blt;obtain⟨h,xs,i,j⟩:=a.lr;exact⟨a.x.trans (Gl c),CE c a.hb,KX a.wr (fun k q=>c.block k (e k q)),⟨h,xs,KX i (fun k q=>c.block k (f k q)),j⟩,KX a.rr (fun k q=>c.block k (g k q)),MapAt.keep KQ a.mp (c.block mB d),a.bm,a.nb,a.nm,a.nw,a.nl⟩
theorem Og {k:Nat}{o a:Option Nat}(b:a=o∨a=some w.heap.size)(d:k<w.heap.size)(c:o≠some k):a≠some k:=by
 rcases b with e|e
 ·rw [e];exact c
 ·rw [e];intro q;injection q with q;omega
theorem AW.words (f:AW w0 I b mB wv lv rv ws J2 rs w)(h:w.grownBy w2 wv.ownBlock)(p:w2.ownsRow w0.heap.size 24 1 v' ws'.length (ws'.map fun n:Nat=>V Af n))(g:v'.ownBlock=wv.ownBlock∨v'.ownBlock=some w.heap.size):
 AW w0 I b mB v' lv rv ws' J2 rs (w2.setCell ⟨b,2,none⟩ v'):=by
 obtain⟨i,l,y,m,o⟩:=f.blt;obtain⟨r,xs,s,t⟩:=f.lr;have u:=(h.block b i (fun q=>f.nb.1 q.symm)).trans f.hb;have v:=f.x.grown h (fun k q=>AO (Kc f.wr q).1);have set:∀ k,k≠b→(w2.setCell ⟨b,2,none⟩ v').heap[k]?= w2.heap[k]? :=fun k q=>AY _ _ _ _ q
 have j:∀ k,k<w.heap.size→k≠b→wv.ownBlock≠some k→(w2.setCell ⟨b,2,none⟩ v').heap[k]?= w.heap[k]? :=fun k a c d=>(set k c).trans (h.block k a (fun q=>d q.symm))
 refine⟨v.setCell (AB (AO rfl)) _,JJ u 2 v',KX p (fun k q=>set k (fun e=>Og g i f.nb.1 (e▸q))),⟨r,xs,KX s (fun k q=>j k (m k q) (fun e=>f.nb.2.1 (e▸q)) (fun e=>(f.nw k e).1 q)),t⟩,KX f.rr (fun k q=>j k (o k q) (fun e=>f.nb.2.2 (e▸q)) (fun e=>(f.nw k e).2 q)),MapAt.keep KQ f.mp (j mB l (fun e=>f.bm e.symm) f.nm.1),f.bm,⟨Og g i f.nb.1,f.nb.2⟩,⟨Og g l f.nm.1,f.nm.2⟩,fun k q=>⟨fun e=>?_,fun e=>?_⟩,f.nl⟩
 ·exact Og g (m k e) (fun c=>(f.nw k c).1 e) q
 ·exact Og g (o k e) (fun c=>(f.nw k c).2 e) q
theorem AW.refs (f:AW w0 I b mB wv lv rv ws J2 rs w)(h:w.grownBy w2 rv.ownBlock)(o:w2.ownsRow w0.heap.size 193 4 v' rs'.length (rs'.flatMap XB))(g:v'.ownBlock=rv.ownBlock∨v'.ownBlock=some w.heap.size):
 AW w0 I b mB wv lv v' ws J2 rs' (w2.setCell ⟨b,5,none⟩ v'):=by
 obtain⟨i,l,m,n,v⟩:=f.blt;obtain⟨p,xs,r,s⟩:=f.lr;have t:=(h.block b i (fun q=>f.nb.2.2 q.symm)).trans f.hb;have u:=f.x.grown h (fun k q=>AO (Kc f.rr q).1);have set:∀ k,k≠b→(w2.setCell ⟨b,5,none⟩ v').heap[k]?= w2.heap[k]? :=fun k q=>AY _ _ _ _ q
 have j:∀ k,k<w.heap.size→k≠b→rv.ownBlock≠some k→(w2.setCell ⟨b,5,none⟩ v').heap[k]?= w.heap[k]? :=fun k a c d=>(set k c).trans (h.block k a (fun q=>d q.symm))
 refine⟨u.setCell (AB (AO rfl)) _,JJ t 5 v',KX f.wr (fun k q=>j k (m k q) (fun e=>f.nb.1 (e▸q)) (f.nw k q).2),⟨p,xs,KX r (fun k q=>j k (n k q) (fun e=>f.nb.2.1 (e▸q)) (f.nl k q)),s⟩,KX o (fun k q=>set k (fun e=>Og g i f.nb.2.2 (e▸q))),MapAt.keep KQ f.mp (j mB l (fun e=>f.bm e.symm) f.nm.2.2),f.bm,⟨f.nb.1,f.nb.2.1,Og g i f.nb.2.2⟩,⟨f.nm.1,f.nm.2.1,Og g l f.nm.2.2⟩,fun k q=>⟨(f.nw k q).1,Og g (m k q) (f.nw k q).2⟩,fun k q=>Og g (n k q) (f.nl k q)⟩
theorem AW.yh6 (f:AW w0 I b mB wv lv rv ws J2 rs w)(i:w.grownBy w2 lv.ownBlock){j:Nat}{n:List h}(s:w2.ownsRow w0.heap.size 257 2 v' j n)(t:j≤J2.length)(g:v'.ownBlock=lv.ownBlock∨v'.ownBlock=some w.heap.size):
 AW w0 I b mB wv v' rv ws J2 rs (w2.setCell ⟨b,3,none⟩ v'):=by
 obtain⟨l,o,p,z,r⟩:=f.blt;obtain⟨A,xs,u,B⟩:=f.lr;have v:=(i.block b l (fun q=>f.nb.2.1 q.symm)).trans f.hb;have y:=f.x.grown i (fun k q=>AO (Kc u q).1);have set:∀ k,k≠b→(w2.setCell ⟨b,3,none⟩ v').heap[k]?= w2.heap[k]? :=fun k q=>AY _ _ _ _ q
 have m:∀ k,k<w.heap.size→k≠b→lv.ownBlock≠some k→(w2.setCell ⟨b,3,none⟩ v').heap[k]?= w.heap[k]? :=fun k a c d=>(set k c).trans (i.block k a (fun q=>d q.symm))
 refine⟨y.setCell (AB (AO rfl)) _,JJ v 3 v',KX f.wr (fun k q=>m k (p k q) (fun e=>f.nb.1 (e▸q)) (f.nw k q).1),⟨j,n,KX s (fun k q=>set k (fun e=>Og g l f.nb.2.1 (e▸q))),t⟩,KX f.rr (fun k q=>m k (r k q) (fun e=>f.nb.2.2 (e▸q)) (fun e=>f.nl k e q)),MapAt.keep KQ f.mp (m mB o (fun e=>f.bm e.symm) f.nm.2.1),f.bm,⟨f.nb.1,Og g l f.nb.2.1,f.nb.2.2⟩,⟨f.nm.1,Og g o f.nm.2.1,f.nm.2.2⟩,fun k q=>⟨Og g (p k q) (f.nw k q).1,(f.nw k q).2⟩,fun k q e=>?_⟩;exact Og g (r k e) (fun c=>f.nl k c e) q
theorem AW.yy6 (d:AW w0 I b mB wv lv rv ws J2 rs w){g:ByteArray}{v:h}(B:J2.length<sN.length)(m:Ur KQ w w2 mB (WC J2) g v)(l:∀ z,(if z=g then some v else WC J2 z)=WC sN z):AW w0 I b mB wv lv rv ws sN rs w2∧∃ n xs,w2.ownsRow w0.heap.size 257 2 lv n xs∧n<sN.length:=by
 obtain⟨o,C,p,r,s⟩:=d.blt;obtain⟨i,xs,t,D⟩:=d.lr;have f:∀ k,k<w.heap.size→k≠mB→w2.heap[k]?= w.heap[k]? :=fun k a c=>m.grown.block k a (fun q=>c (by injection q))
 have j:=KX t (fun k q=>f k (r k q) (fun e=>d.nm.2.1 (e▸q)));refine⟨⟨d.x.grown m.grown (fun k q=>by cases q;exact AB (AB rfl)),(f b o d.bm).trans d.hb,KX d.wr (fun k q=>f k (p k q) (fun e=>d.nm.1 (e▸q))),⟨i,xs,j,by omega⟩,KX d.rr (fun k q=>f k (s k q) (fun e=>d.nm.2.2 (e▸q))),?_,d.bm,d.nb,d.nm,d.nw,d.nl⟩,i,xs,j,by omega⟩;obtain⟨u,c,y,A⟩:=m.at_
 exact⟨u,c,y,fun z=>(A z).trans (l z)⟩
end
def J3:List (In×Nat):=Pm.Lh.zipIdx 1
theorem lJ:Qg=J3.map fun x=>(x.1.name,x.1.operand):=by rfl
def SH (s:Bs):List (In×Nat)→Nat→Int
 |[],_=> -1
 |x::l,i=>if LJ x.1.name s then i else SH s l (i+1)
theorem Zi (s:Bs):∀ (l:List (In×Nat))(i:Nat),(∀k x,l[k]?= some x→x.2=i+k)→(match Oq s (l.map fun x=>(x.1.name,x.1.operand)) i with
 |none=>SH s l (i - 1)= -1∨i=0
 |some (c,o)=>i=0∨∃ k x,l[k]?= some x∧c=i+k∧x.2=c∧x.1.operand=o∧x.1.name=s∧SH s l (i - 1)=((i - 1+k:Nat):Int))
 |[],i,_=>by simp [Oq,SH]
 |x::l,i,d=>by
  rw [B7,Oq,SH];cases f:LJ x.1.name s with
  |true=>
   simp only [if_true];exact AB ⟨0,x,rfl,rfl,(d 0 x rfl),rfl,(Ko _ _).1 f,rfl⟩
  |false=>
   simp only [BL,if_false];have a:=Zi s l (i+1) (fun k b g=>by have:=d (k+1) b (by simpa using g);omega);by_cases h:i=0
   ·subst h;split<;>simp
   have e:i+1 - 1=i - 1+1:=by omega
   rw [e]at a;split at a
   ·rename_i r;rcases a with q|q
    ·exact AO q
    ·omega
   ·rename_i c o t;rcases a with q|⟨k,b,h1,u,j,m,n,p⟩
    ·omega
    ·exact AB ⟨k+1,b,by simpa using h1,by omega,j,m,n,by rw [p];omega⟩
theorem zp4 (x:In×Nat)(s:Bs)(nb:Nat)(v:h)(w:Y)(a:w.heap[nb]?= some (Ab #[Aa (str s)] 9)):
 As prog 204 #[AN #[Aa (str x.1.name),V Af x.2,AE x.1.operand,v],Ae (some ⟨nb,0,none⟩)] w fun e w'=>e=Ak (AE (LJ x.1.name s))∧Ext w w':=by
 have b:=CE ((Ext.refl w).alloc (Ab #[Aa (str x.1.name),V Af x.2,AE x.1.operand,v] 72)) a;have c:=JA b 0;go_enter func204,ntmps204;go_wp2;go_ret;refine⟨?_,(Ext.refl w).alloc _⟩;show Ak (AE (x.1.name==s))=_
 have:(x.1.name==s)=LJ x.1.name s:=by rw [Bl,Ko];simp
 rw [this]
theorem zC6 {s:Bs}:∀ {l:List (In×Nat)}{i j:Nat}{x:In×Nat},l[j]?= some x→SH s (l.drop j) (i+j)=if LJ x.1.name s then((i+j:Nat):Int)else SH s (l.drop (j+1)) (i+(j+1)):=by
 intro l i j x a;obtain⟨h1,b⟩:=Ao.1 a;rw [AR h1,b,SH];rfl
theorem NT:(prog.info? 72).map (·.size)=some 4:=by kernel_rfl
theorem lK (t:h)(U:Nat→Prop)(s:Bs)(nb:Nat)(w:Y)(n:Ju KI U w J3 t)(u:w.heap[nb]?= some (Ab #[Aa (str s)] 9)):
 As prog 113 #[t,ER (.func 204) #[] #[Ae (some ⟨nb,0,none⟩)]] w fun e w'=>e=Ak (V Ad (SH s J3 0))∧Ext w w':=by
 have F:=D n;have G:=D u;obtain⟨A,c,rfl⟩:=JB n;rw [show J3.length=32 from rfl];clear n u;go_enter func113,ntmps113;go_wp2;go_loopw [8] (fun p H=>∃ i:Nat,p=V Ad i∧i≤32∧AA (SH s J3 0=SH s (J3.drop i) (0+i))∧AA (Ext w H)) (fun p _=>32 - (AX p).toNat)
 case atStart=>exact⟨0,rfl,by omega,D rfl,D (Ext.refl w)⟩
 case round=>
  obtain⟨i,rfl,P,f,g⟩:=hrel;by_cases I:i<32
  ·obtain⟨x,l⟩:∃ x,J3[i]?= some x:=⟨_,Al (show i<J3.length by exact I)⟩
   obtain⟨b,o,Q,cs,y, -,⟨v,rfl,K⟩,z⟩:=(F.ext g).elem l;rw [show J3.length=32 from rfl]at y;injection y with L R M
   subst L M;have q:=D z;have j:=D (zp4 x s nb v wr (CE g G));have d:=D (zC6 (s:=s) (i:=0) l);clear z K;obtain⟨S,B⟩:=JH (str x.1.name);obtain⟨T,C⟩:=JH ((x.2:Int));obtain⟨W,E⟩:=JH x.1.operand;rw [←B,←C,←E]at j q;clear B C E;cases m:LJ x.1.name s with
   |true=>
    rw [m]at j d;have k:AA (SH s J3 0=(i:Int)):=D (by rw [f,d];simp);clear m l f d;go_wp2_with (first|(refine KV rfl Cj rfl q NT ?_)|(go_at_call 204;refine j.mono ?_;rintro e N ⟨rfl,r⟩));go_ret;exact⟨by rw [k];rfl,g.trans r⟩
   |false=>
    rw [m]at j d;have k:AA (SH s J3 0=SH s (J3.drop (i+1)) (0+(i+1))):=D (by rw [f,d];simp);clear m l f d;go_wp2_with (first|(refine KV rfl Cj rfl q NT ?_)|(go_at_call 204;refine j.mono ?_;rintro e N ⟨rfl,r⟩));go_roundw
    case rel=>exact⟨i+1,by go_num,by omega,k,D (g.trans r)⟩
    case measure=>simp [AX];omega
  ·have O:i=32:=by omega
   subst O;have k:AA (SH s J3 0= -1):=D (by rw [f];rfl);go_wp2;go_ret;exact⟨by rw [k];rfl,g⟩
def inA (x:In×Nat)(v:h):Array h:= #[Aa (str x.1.name),V Af x.2,AE x.1.operand,v]
theorem zp5:Qa.all (·.oneCell')=true:=by simp [CT]
theorem xE (a:h)(U:Nat→Prop)(s:Bs)(b:Nat)(l m n o:h)(w:Y)(d:Ju KI U w J3 a)(f:w.heap[b]?= some (Ab #[V Ad 65536,a,l,m,n,o] 143))(g:SH s J3 0= -1):
 As prog 149 #[Ae (some ⟨b,0,none⟩),Aa (str s)] w fun e w'=>e=Ak (AZ #[AN Qa,AE false])∧Ext w w':=by
 have c:=D (((Ext.refl w).alloc (Ab #[Aa (str s)] 9)).alloc (Ab Qa 72));have p:=D (AP w (Ab #[Aa (str s)] 9) (Ab Qa 72));have q:=D (Ay w (Ab #[Aa (str s)] 9) (Ab Qa 72));have r:=JA (CE c f) 1;have i:=D (lK a U s w.heap.size ((w.alloc (Ab #[Aa (str s)] 9)).alloc (Ab Qa 72)) (d.ext c) p);rw [g]at i;clear d f g;go_enter func149,ntmps149;go_upto_region 2 with(go_at_call 113;refine i.mono ?_;rintro e t ⟨rfl,j⟩);have k:=D (CE j q);go_wp2_with (refine L8 rfl rfl rfl k NT ?_ (h1:=zp5));refine Ow results149 Cj NT (PO k) ?_
 exact⟨rfl,(c.trans j).setRow (CA _) _⟩
def xH (b:h)(i:Nat)(x:In×Nat)(v:h)(w:Y):Prop:=∃ a o c,b=J (some ⟨a,o,none⟩) 32 c∧(∀(j:Nat) u,[Aa (str x.1.name),V Af x.2,AE x.1.operand,v][j]?= some u→w.cell? ⟨a,o+i*4+j,none⟩=some u)∧∃ A n k,v=J A n k
theorem xH.ext {a:h}{i:Nat}{x:In×Nat}{v:h}{w w':Y}(b:xH a i x v w)(d:Ext w w'):xH a i x v w':=by
 obtain⟨e,o,c,h1,f,g⟩:=b;exact⟨e,o,c,h1,fun j u q=>d.cell (f j u q),g⟩
theorem zp6 {b:h}{U:Nat→Prop}{w:Y}(f:Ju KI U w J3 b){i:Nat}{x:In×Nat}(g:J3[i]?= some x):∃ v,xH b i x v w∧Ju KA U w x.1.acts v:=by
 obtain⟨j,o,c,cs,h1, -,⟨v,rfl,d⟩,l⟩:=f.elem g;obtain⟨A,k,e⟩:=JB d;exact⟨v,⟨j,o,c,h1,l,A,_,k,e⟩,d⟩
theorem zV1 (a:h)(U:Nat→Prop)(s:Bs)(b:Nat)(E F G H:h)(w:Y)(k:Ju KI U w J3 a)(l:w.heap[b]?= some (Ab #[V Ad 65536,a,E,F,G,H] 143))(i:Nat)(x:In×Nat)(m:SH s J3 0=(i:Int))(n:J3[i]?= some x)(v:h)(I:xH a i x v w):
 As prog 149 #[Ae (some ⟨b,0,none⟩),Aa (str s)] w fun e w'=>e=Ak (AZ #[AN (inA x v),AE true])∧Ext w w':=by
 have d:=D (((Ext.refl w).alloc (Ab #[Aa (str s)] 9)).alloc (Ab Qa 72));have K:=D (AP w (Ab #[Aa (str s)] 9) (Ab Qa 72));have L:=D (Ay w (Ab #[Aa (str s)] 9) (Ab Qa 72));have f:=CE d l;have O:=JA f 1;have M:=D f;have p:=D (lK a U s w.heap.size ((w.alloc (Ab #[Aa (str s)] 9)).alloc (Ab Qa 72)) (k.ext d) K);rw [m]at p;obtain⟨P,o,c,rfl,r,Q,R,S,rfl⟩:=I;have t:=D r;have T:i<32:=(Ao.1 n).1;unfold inA;obtain⟨W,y⟩:=JH (str x.1.name);obtain⟨X,z⟩:=JH ((x.2:Int));obtain⟨Z,A⟩:=JH x.1.operand;rw [←y,←z,←A]at t ⊢;clear k l m n r f y z A;go_enter func149,ntmps149;go_upto_region 2 with(go_at_call 113;refine p.mono ?_;rintro e h0 ⟨rfl,g⟩);have B:=D (CE g L);have h1:=JA (CE g M) 1;have C:=D (d.trans g);have N:=D (fun j u q=>C.cell (t j u q));go_wp2_with (first|(refine KV rfl Cj rfl N NT ?_)|(refine L8 rfl rfl rfl B NT ?_));refine Ow results149 Cj NT (PO B) ?_
 exact⟨rfl,C.setRow (CA _) _⟩
abbrev zRf:Array h:= #[V Ad 0,V Ad 0,Aa ⟨#[]⟩,V Af 0]
theorem yG8:(prog.info? 193).map (fun i=>(i.zero,i.size,i.bytes))=some (some (AN zRf),4,40):=by kernel_rfl
def Kept (w w':Y)(b:Nat)(v a:h):Prop:=(∀j o,w.heap[j]?= some o→j≠b→v.ownBlock≠some j→w'.heap[j]?= some o)∧(a.ownBlock=v.ownBlock∨∃ k,a.ownBlock=some k∧w.heap.size≤k)∧w.heap.size≤w'.heap.size
theorem bU {w c:Y}{b i:Nat}{v a:h}(d:w.grownBy c v.ownBlock)(g:a.ownBlock=v.ownBlock∨a.ownBlock=some w.heap.size):Kept w (c.setCell ⟨b,i,none⟩ a) b v a:=by
 refine⟨fun j o f k l=>?_,g.imp id (fun e=>⟨_,e,Aw _⟩),by have:=d.size;simpa using this⟩;rw [AY _ _ _ _ k,d.block j (Ag.1 f).1 (fun q=>l q.symm),f]
section
variable {w0 w:Y}{I:h}{b mB:Nat}{wv lv rv:h}{ws:List Nat}{J2:List (Bs×Nat)}{rs:List (Nat×Nat×Bs)}{ops:Array B5}{o:B5}{a:CY}{K:CY→Y→Prop}{Q:EY→CY→Y→Prop}{E:Prop}
theorem AW.base (a:AW w0 I b mB wv lv rv ws J2 rs w):w0.heap.size≤w.heap.size:=a.x.size
theorem AW.bV (a:AW w0 I b mB wv lv rv ws J2 rs w){c:Y}{v:h}(d:v=wv∨v=rv∨v=lv)(e:w.grownBy c v.ownBlock):c.heap[b]?= some (Ab #[V Ad 65536,I,wv,lv,Bj (some mB),rv] 143):=by
 refine(e.block b a.blt.1 (fun q=>?_)).trans a.hb;rcases d with rfl|rfl|rfl
 ·exact a.nb.1 q.symm
 ·exact a.nb.2.2 q.symm
 ·exact a.nb.2.1 q.symm
theorem lM (d:AW w0 I b mB wv lv rv ws J2 rs w)(r:o.guard=none)(s x:CC)(t:o.op=Gy {callee:=GU Iq,args:= #[s,x],argTypes:= #[37,37]})(y:a.eval s=wv)(g:Nat)(z:a.eval x=J (some ⟨g,0,none⟩) 1 1)(v:Int)(n L:Nat)(k:v=n)(B:w.heap[g]?= some (Ab #[V Af v] 24))(C:L=ws.length)(P:L≤70000)
 (D:∀ A c w',w'.heap[b]?= some (Ab #[V Ad 65536,I,wv,lv,Bj (some mB),rv] 143)→AW w0 I b mB (J A (L+1) c) lv rv (ws++[n]) J2 rs (w'.setCell ⟨b,2,none⟩ (J A (L+1) c))→Kept w (w'.setCell ⟨b,2,none⟩ (J A (L+1) c)) b wv (J A (L+1) c)→(∀j o,w.heap[j]?= some o→wv.ownBlock≠some j→w'.heap[j]?= some o)→K (a.put o.dst (J A (L+1) c)) w'):
 if AQ o (BW ops a.tmps)=true then Cb prog o a w K Q else E:=by
 subst C k;obtain⟨F,G,H,N,O⟩:=info_parts qw;refine MI r s x 37 t w0.heap.size 24 F (V Af 0) 1 4 Dn G H N O rfl (by decide) wv ws.length _ y d.wr (some ⟨g,0,none⟩) 1 1 [V Af n] z ?_ rfl (by intro u f;simp at f;subst f;rfl) (by unfold Bk;omega) (by omega) d.base ?_
 ·intro i u f;refine⟨_,rfl,?_⟩;rw [MW,BF,JA B];simpa using f
 ·intro R w' l h m;have e:(ws.map fun n:Nat=>V Af n)++[V Af n]=(ws++[n]).map fun n:Nat=>V Af n:=by simp
  rw [e]at l;obtain⟨A,c,rfl, -⟩:=K7 l;exact D A c w' (d.bV (AO rfl) h) (d.words h (by rw [M];exact l) m) (bU h m) (fun j o p k=>by rw [h.block j (Ag.1 p).1 (fun q=>k q.symm)];exact p)
theorem zV3 (f:AW w0 I b mB wv lv rv ws J2 rs w)(r:o.guard=none)(s x:CC)(t:o.op=Gy {callee:=GU Iq,args:= #[s,x],argTypes:= #[141,141]})(v:a.eval s=rv)(g:Nat)(y:a.eval x=J (some ⟨g,0,none⟩) 1 1)(d:Nat×Nat×Bs)(cs:Array h)(hc:cs.toList=XB d)(z:w.heap[g]?= some (Ab cs 193))(R:Nat)(B:R=rs.length)(O:R≤70000)
 (C:∀ A c w',w'.heap[b]?= some (Ab #[V Ad 65536,I,wv,lv,Bj (some mB),rv] 143)→AW w0 I b mB wv lv (J A (R+1) c) ws J2 (rs++[d]) (w'.setCell ⟨b,5,none⟩ (J A (R+1) c))→Kept w (w'.setCell ⟨b,5,none⟩ (J A (R+1) c)) b rv (J A (R+1) c)→(∀j o,w.heap[j]?= some o→rv.ownBlock≠some j→w'.heap[j]?= some o)→K (a.put o.dst (J A (R+1) c)) w'):
 if AQ o (BW ops a.tmps)=true then Cb prog o a w K Q else E:=by
 subst B;obtain⟨D,F,G,H,L⟩:=info_parts yG8;refine MI r s x 141 t w0.heap.size 193 D (AN zRf) 4 40 underlying141 F G H L rfl (by decide) rv rs.length _ v f.rr (some ⟨g,0,none⟩) 1 1 (XB d) y ?_ rfl (by intro u k;simp only [XB,AH,Ba,or_false]at k;rcases k with rfl|rfl|rfl|rfl<;>rfl) (by unfold Bk;omega) (by omega) f.base ?_
 ·intro i u k;refine⟨_,rfl,?_⟩;rw [MW,BF,JA z,←k,←hc];simp
 ·intro P w' m l n;have e:rs.flatMap XB++XB d=(rs++[d]).flatMap XB:=by simp
  rw [e]at m;obtain⟨A,c,rfl, -⟩:=K7 m;exact C A c w' (f.bV (AB (AO rfl)) l) (f.refs l (by rw [M];exact m) n) (bU l n) (fun j o p N=>by rw [l.block j (Ag.1 p).1 (fun q=>N q.symm)];exact p)
theorem xI (d:AW w0 I b mB wv lv rv ws J2 rs w)(m:o.guard=none)(s x:CC)(p:o.op=Gy {callee:=GU Iq,args:= #[s,x],argTypes:= #[37,24]})(r:a.eval s=wv)(v:Int)(k L:Nat)(g:v=k)(t:a.eval x=V Af v)(u:L=ws.length)(y:L+k≤100000)
 (z:∀ A c w',w'.heap[b]?= some (Ab #[V Ad 65536,I,wv,lv,Bj (some mB),rv] 143)→AW w0 I b mB (J A (L+k) c) lv rv (ws++BK k 0) J2 rs (w'.setCell ⟨b,2,none⟩ (J A (L+k) c))→Kept w (w'.setCell ⟨b,2,none⟩ (J A (L+k) c)) b wv (J A (L+k) c)→(∀j o,w.heap[j]?= some o→wv.ownBlock≠some j→w'.heap[j]?= some o)→K (a.put o.dst (J A (L+k) c)) w'):
 if AQ o (BW ops a.tmps)=true then Cb prog o a w K Q else E:=by
 subst u g;have B:AQ o (BW ops a.tmps)=true:=by simp [AQ,m]
 rw [if_pos B];obtain⟨D,w',C,h,f,i⟩:=bT d.wr k y d.base o.type;have e:(ws.map fun n:Nat=>V Af n)++BK k (V Af 0)=(ws++BK k 0).map fun n:Nat=>V Af n:=by simp
 rw [e]at h;obtain⟨A,c,rfl, -⟩:=K7 h;unfold Cb CS;simp only [p,resolve,invoke,builtin,Di,D3,C3,EZ,B7,D2,r,t,C];exact z A c w' (d.bV (AO rfl) f) (d.words f (by rw [M,FY];exact h) i) (bU f i) (fun j o l g=>by rw [f.block j (Ag.1 l).1 (fun q=>g q.symm)];exact l)
end
end Go.Proofs.YtmkomefmgcpnbaaGreatDoor

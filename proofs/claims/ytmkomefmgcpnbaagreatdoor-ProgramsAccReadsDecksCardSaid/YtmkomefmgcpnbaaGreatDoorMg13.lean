import Derived.Test.YtmkomefmgcpnbaaGreatDoorMg12
import Derived.Defers
import Derived.Recover
import Derived.RangeFuncNested
import Derived.RangeFuncBound
import Derived.RangeFuncCalls
import Derived.RangeFuncLeaves
import Derived.Shelf.Abstract
import Derived.Shelf.RegionOpen
import Derived.OwnWalkIn
import Derived.TacticsInMore
import Derived.LoopNIn
import Derived.LoopIn
set_option linter.all false
set_option maxHeartbeats 12800000
set_option maxRecDepth 100000
namespace Go.Proofs.YtmkomefmgcpnbaaGreatDoor
open Tryz Pg Go Go.Proofs Go.RowKit Go.Shelf
open _root_.Bool renaming and_eq_true→Ah,false_eq_true→BL
open _root_.ByteArray renaming ext→DS
open Go renaming Addr→Bi,Calls→As,Value→h,World→Y,heap_alloc2_new→Ay,heap_alloc2_old→AP,maxLen→Bk,heap_alloc_new→Aj,Ending→BX,Program→BR,TypeDesc→DK,TypeId→AK,results→El,run_loadVar_row→DI,setRow_heap→Bo,setRow_other→C7,undef→Ca,Fence→IX
open Go.Act renaming put→Au
open Go.IntKind renaming i64→Ad,u32→Af
open Go.Lib renaming hid→D
open Go.Obj renaming cells→Ab
open Go.Proofs renaming intOf→AX
open Go.Proofs.Tryz renaming underlying109→Bg,underlying112→Bm,underlying26→Bd,underlying56→Cw
open Go.RowKit renaming Hid→AA
open Go.Value renaming agg→AN,int→V,pointer→Ae,slice→J,string→Aa,func→ER,tuple→AZ,bool→AE
open Go.World renaming ownsRow_nil→CQ
open _root_.List renaming append_assoc→AG,append_nil→BP,eq_nil_of_length_eq_zero→BZ,flatMap_append→CO,getElem?_eq_getElem→Al,length_append→M,length_cons→Am,length_map→AI,mem_map→D4,mem_of_getElem?→AD,take_add_one→BB,take_append_drop→C6,take_length→BN,drop_eq_getElem_cons→AR,drop_zero→FI,foldl_append→FB,getElem?_eq_some_iff→Ao,append_toArray→E9,cons_append→BS,length_nil→Av,mem_cons→AH,nil_append→B9,push_toArray→FJ,sizeOf_lt_of_mem→BQ,size_toArray→Bz
open _root_.Nat renaming le_of_ble_eq_true→Ai,le_refl→Aw,le_trans→AL,lt_of_lt_of_le→Ar,le_succ→CA,zero_le→Dd,lt_succ_self→Dy,reduceAdd→Ff,reduceSub→Ia
open _root_.Or renaming inl→AO,inr→AB
open _root_.UInt8 renaming ofNat→I9
open Go.IntWalk renaming i64_in→AU
open _root_.Array renaming replicate→CD,replicate_succ→EW,replicate_zero→EX
open Go.Ending renaming returned→Ak
open Go.Instr renaming makeFunc→Hh
open Go.Result renaming ok→Ez
open Go.TypeDesc renaming array→DX,struct→DA
open _root_.And renaming intro→Ct
open Go.Oper renaming semAt_some→Gu
open _root_.SizeOf renaming sizeOf→Aq
theorem aa {α:Type}{K:Kind α}{U:Nat→Prop}{w:Y}{l:List α}{A:Option Bi}{n c:Nat}(a:Ju K U w l (J A n c)):n=l.length∧n≤c∧c≤Bk:=by
 obtain⟨e,f,xs,h1,b,d,_⟩:=a;cases h1;exact⟨rfl,b,d⟩
theorem kI {α:Type}(f:α→Bs){l:List α}{i:Nat}{x:α}(a:l[i]?= some x):(l.take (i+1)).flatMap f=(l.take i).flatMap f++f x:=by
 rw [BB,a,CO];simp
theorem vK {α:Type}(f:α→Bs)(l:List α)(i:Nat):((l.take i).flatMap f).length≤(l.flatMap f).length:=by
 have:l.flatMap f=(l.take i).flatMap f++(l.drop i).flatMap f:=by rw [←CO,C6]
 rw [this,M];omega
theorem dw:∀ (f n:Nat)(acc:Bs),(Ue f n acc).length≤f+acc.length
 |0,_,acc=>by rw [Ue];omega
 |f+1,n,acc=>by
  rw [Ue];split
  ·simp only [Am];omega
  ·have:=dw f (n /10) (I9 (48+n %10)::acc);simp only [Am]at this;omega
theorem zh9 (n:Nat):(KN n).length≤20:=by have:=dw 20 n [];exact this
theorem zi0 (n:Nat):(KN n).length≤1000000:=by have:=zh9 n;omega
theorem pV:∀ (l:List Bs),(∀s∈l,s.length≤20)→(Jy l).length≤22*l.length
 |[],_=>by simp [Jy]
 |[x],a=>by have:=a x (by simp);simp [Jy];omega
 |x::b::l,a=>by
  have h1:=a x (by simp);have c:=pV (b::l) (fun s d=>a s (by simp [d]));rw [Jy]
  ·simp only [M,Am]at c ⊢;omega
  ·simp
theorem zi {l:List Nat}(b:l.length≤1000):(Jy (l.map KN)).length≤1000000:=by
 have:=pV (l.map KN) (fun s a=>by obtain⟨n,_,rfl⟩:=D4.1 a;exact zh9 n);rw [AI]at this;omega
theorem zk:(prog.info? 109).map (·.size)=some 4:=by kernel_rfl
structure yP0 (p:JQ):Prop where
 g:∀ x∈p.globals,VB x=true
 gn:∀ x∈p.globals,x.num<4294967296∧x.init.length≤1000∧∀ n∈x.init,n<4294967296
 f:∀ x∈p.JY,Rz x=true∧O7 x.body=true∧∃ n m,K5 x.body 1 n=some m
 len:(QH p).length≤1000000
 ne:QH p≠[]
theorem yu0 (name:Bs)(num:Nat)(init:List Nat):OD ⟨1,name,num,init⟩=J9 0 (([99,111,110,115,116,32]:Bs)++(name++([32,61,32]++(KN num++[59])))):=by unfold OD;rw [if_pos rfl];rfl
theorem yu1 (name:Bs)(num:Nat)(init:List Nat):OD ⟨2,name,num,init⟩=J9 0 (([118,97,114,32]:Bs)++(name++[59])):=by unfold OD;rw [if_neg (by show ¬(2:Nat)=1;omega),if_pos rfl];rfl
theorem ya4 (name:Bs)(num:Nat):OD ⟨3,name,num,[]⟩=J9 0 (([97,114,114,97,121,32]:Bs)++(name++([91]++(KN num++[93,59])))):=by unfold OD;rw [if_neg (by show ¬(3:Nat)=1;omega),if_neg (by show ¬(3:Nat)=2;omega),if_pos (show List.isEmpty ([]:List Nat)=true from rfl)];rfl
theorem yu2 (name:Bs)(num:Nat)(init:List Nat)(a:init≠[]):OD ⟨3,name,num,init⟩=J9 0 (([97,114,114,97,121,32]:Bs)++(name++([91]++(KN num++([93,32,61,32]++(Jy (init.map KN)++[59])))))):=by unfold OD;rw [if_neg (by show ¬(3:Nat)=1;omega),if_neg (by show ¬(3:Nat)=2;omega),if_neg (by simpa using a)];rfl
theorem yC9 (name:Bs)(params a:List Bs)(body:List Sm):Ox ⟨name,params,a,body⟩=J9 0 (([102,117,110,99,32]:Bs)++(name++([40]++(Jy params++[41,32,123]))))++((if a.isEmpty then([]:Bs)else J9 1 (([118,97,114,32]:Bs)++(Jy a++[59])))++(KR body 1++J9 0 [125])):=rfl
theorem yD0 (p:JQ)(U:Nat→Prop)(G F:h)(w:Y)(hr:Ju KG U w p.globals G)(hs:Ju KF U w p.JY F)(xd:Mg w)(yh:∀ k,U k→k<w.heap.size)(X:yP0 p):
 As prog 54 #[AN #[G,F]] w (Mi w (QH p)):=by
 obtain⟨ht,hu,rfl⟩:=JB hr;obtain⟨hv,hw,rfl⟩:=JB hs;have yi:=(aa hr).2;have yj:=(aa hs).2;obtain⟨N,xe⟩:=JH p.globals.length;obtain⟨O,xf⟩:=JH p.JY.length;have yk:=D xe;have yl:=D xf;rw [←xe]at yi ⊢;rw [←xf]at yj ⊢;have uw:N≤9223372036854775807:=by unfold Bk at yi;omega
 have ux:O≤9223372036854775807:=by unfold Bk at yj;omega
 have zq:AA (∀(i:Nat) (x:KJ),p.globals[i]?= some x→VB x=true∧x.num<4294967296∧x.init.length≤1000∧∀ n∈x.init,n<4294967296):=D (fun i x t=>⟨X.g x (AD t),X.gn x (AD t)⟩);have zr:AA (∀(i:Nat) (x:Pg.Fn),p.JY[i]?= some x→Rz x=true∧O7 x.body=true∧∃ n m,K5 x.body 1 n=some m):=D (fun i x t=>X.f x (AD t));have zs:=D (fun i=>vK OD p.globals i);have zt:=D (fun i=>vK Ox p.JY i);have zu:AA ((p.globals.flatMap OD).length≤1000000):=D (by have:=X.len;unfold QH at this;rw [M]at this;omega);have ym:AA ((p.globals.flatMap OD).length+(p.JY.flatMap Ox).length≤1000000):=D (by have:=X.len;unfold QH at this;rwa [M]at this);have zv:=D X.ne;have zw:=D X.len;have h4:AA (Ext w ((w.alloc (Ab #[J ht N hu,J hv O hw] 56)).alloc (Ab #[Ae none,J none 0 0] 177))):=D (((Ext.refl w).alloc _).alloc _);have xg:=D (AP w (Ab #[J ht N hu,J hv O hw] 56) (Ab #[Ae none,J none 0 0] 177));have xh:=D (Ay w (Ab #[J ht N hu,J hv O hw] 56) (Ab #[Ae none,J none 0 0] 177));obtain⟨b,xi⟩:=JH (w.heap.size+1);have uy:=xd.lt;have yn:=D xd;have xj:=D yh;have yo:=D hr;have yp:=D hs;clear xe xf X xd yh hr hs;go_enter func54,ntmps54;go_upto_region 2 with fail;generalize zx:(w.alloc (Ab #[J ht N hu,J hv O hw] 56)).alloc (Ab #[Ae none,J none 0 0] 177)=W1 at h4 xg xh ⊢;rw [←xi]at xh ⊢;have hb:AA (WW W1 b none ((p.globals.take 0).flatMap OD)):=D ⟨⟨⟨Ae none,J none 0 0,AO rfl,xh,CQ _ _ _ _,rfl⟩,by simp⟩,yn.ext h4,by omega,fun k o=>by cases o⟩;have h5:AA (∀k,U k→k<W1.heap.size∧¬ BG b none k):=D (fun k o=>⟨Ar (xj k o) h4.size,fun q=>by
  rcases q with q|q
  ·have:=xj k o;omega
  ·cases q⟩)
 have zy:=D (yo.ext h4);have zz:=D (yp.ext h4);have u0:AA (¬BG b none w.heap.size):=D (fun q=>by
  rcases q with q|q
  ·omega
  ·cases q)
 have uz:=JA xg 0;have u1:=D (JA xg 1);have u2:=D xi;clear zx yn yo yp xj xi;go_wp2;go_loopw [13] (fun s hc=>∃ i:Nat,s=V Ad i∧i≤N∧∃ A,AA (WW hc b A ((p.globals.take i).flatMap OD))∧AA (LW b none W1 A hc)) (fun s _=>N - (AX s).toNat)
 case atStart=>exact⟨0,rfl,by omega,none,hb,D (LW.refl _ _ _)⟩
 case round=>
  clear hb;obtain⟨i,rfl,u3,A,y,u⟩:=hrel;by_cases hx:i<N
  ·obtain⟨x,t⟩:∃ x,p.globals[i]?= some x:=⟨p.globals[i]'(by rw [←yk];exact hx),Al _⟩
   obtain⟨u4,u5,u6,cs,xk, -,xl,Q⟩:=(zy.bg h5 u).elem t;obtain⟨kind,name,num,init⟩:=x;obtain⟨v0,rfl,xm⟩:=xl;obtain⟨xn,xo,rfl⟩:=JB xm;cases xk;have h9:=D Q;have yq:=D xm;have hd:=D (kI OD t);obtain⟨xp,yr,ys,yt⟩:=zq i _ t;have xq:=D ys;have yu:=D yt;unfold VB at xp;simp only [Ah]at xp;obtain⟨⟨⟨⟨⟨hy,hz⟩,hid⟩, -⟩, -⟩, -⟩:=xp;have hy:=Ai hy;have hz:=Ai hz;have xr:=aY hid;obtain⟨he,yv⟩:=JH init.length;have x0:=D yv.symm;have u7:=zi0 num;dsimp only at h9 yq hd xq yu yr xr hid hy hz;rw [x0]at h9;clear Q xm t ys yt hid yv;obtain⟨ha,hf⟩:=JH (kind:Int);rw [←hf]at h9;obtain⟨d,xs,B,R⟩:=alw wr (Ab #[V Ad ha,Aa (str name),V Af num,J xn he xo] 112);have z:AA (¬BG b A wr.heap.size):=D (fun q=>by have:=y.lt q;omega);have xt:=D (u.trans (LW.ext B.out));have xu:=D (fun s (u8:OD ⟨kind,name,num,init⟩=J9 0 s)=>(show((p.globals.take i).flatMap OD).length+(J9 0 s).length≤1000000 by
    have h1:=zs (i+1)
    rw [hd,u8,M]at h1
    exact AL h1 zu))
   have yw:=D hf;clear hf;go_upto_region 6 with(refine KV rfl Bm rfl h9 Oe ?_)
   try rw [xs]
   have u9:Ext d d.drew:=(Ext.refl d).drew;have yx:Ext d d:=Ext.refl d;have h6:=D (y.ext B);have yy:d.cell? ⟨wr.heap.size,0,none⟩=some (V Ad ha):=JA R 0;have x1:d.cell? ⟨wr.heap.size,1,none⟩=some (Aa (str name)):=JA R 1;have hg:d.cell? ⟨wr.heap.size,2,none⟩=some (V Af num):=JA R 2;have x2:d.cell? ⟨wr.heap.size,3,none⟩=some (J xn he xo):=JA R 3;have yz:=D (fun W (x:Ext d W)=>Za num W yr ((h6.ext x).tab));have hf:=yw.out;clear yw;rcases(show kind=2∧ha=2∨kind=3∧ha=3∧he≠0∨kind=1∧ha=1∨kind=3∧ha=3∧he=0 by omega)with⟨rfl,rfl⟩|⟨rfl,rfl,h7⟩|⟨rfl,rfl⟩|⟨rfl,rfl,rfl⟩
   all_goals clear hy hz hf
   ·have S:=D (yu1 name num init);go_upto_region 9 with fail;go_wp2_with fail;refine(V7 (h6.ext yx) (xu _ S) (by first|(apply DS;simp [str];done)|rfl)).mono ?_
    rintro e wF ⟨rfl,Z,C,E⟩;have h0:=D C;have r:=D ((LW.ext (g:=A) yx).trans E);clear C E;go_wp2_with fail;go_roundw
    case rel=>exact⟨i+1,by go_num,by omega,Z,D (by rw [hd,S];exact h0),D (xt.trans r)⟩
    case measure=>simp [AX];omega
   ·have h2:init≠[]:=fun q=>h7 (by rw [←x0,q];rfl)
    have S:=D (yu2 name num init h2);have v1:((he:Int)==0)=false:=by simp;omega
    have ua:(Jy (init.map KN)).length≤1000000:=zi xq;clear h2 h7;have z0:=D (fun W (x:Ext d W)=>zh init U (J xn init.length xo) W ((yq.ext B).ext x) (h6.ext x).tab yu xq ua);rw [x0]at z0;go_upto_region 5 with fail;refine QT (BG b A) [] (fun a=>?_)
    iterate 2 refine JC a ?_
    refine JP a (fun w v=>JK.cell v x1 z) ?_
    iterate 2 refine Mq a ?_
    refine JC a ?_
    refine JP a (fun w v=>JK.cell v hg z) ?_
    refine KM 10 a ?_
    refine QM 11 a (fun w v=>JK.cell v x2 z) ?_
    try simp only [Au,pA,pB,pC]
    refine JX.rd 7 (fun K l=>?_);go_simp
    with_reducible refine(yz.out _ (by assumption)).mono ?_
    rintro e hh ⟨rfl,h3⟩;have T:Ext d hh:=Ext.trans (by assumption) h3;clear h3;refine l _ _ ?_ (fun a=>?_)
    ·exact Gl T
    clear l K
    try simp only [Au,pA,pB,pC]
    refine TY 8 a ?_
    refine TY 9 a ?_
    try simp only [Au,pA,pB,pC]
    refine JM (fun K l=>?_);go_simp
    with_reducible refine(z0.out _ (by assumption)).mono ?_
    rintro e z1 ⟨rfl,x3⟩;have xv:Ext d z1:=Ext.trans (by assumption) x3;clear x3;refine l _ _ ?_ (fun a=>?_)
    ·exact Gl xv
    clear l K
    try simp only [Au,pA,pB,pC]
    iterate 2 refine Mq a ?_
    try simp only [Au,pA,pB,pC]
    refine JM (fun K l=>?_);go_simp;refine(V7 (h6.ext xv) (xu _ S) (by first|(apply DS;simp [str];done)|rfl)).mono ?_
    rintro e wF ⟨rfl,Z,C,E⟩;have h0:=D C;have r:=D ((LW.ext (g:=A) xv).trans E);clear C E;refine l _ _ ?_ (fun a=>?_)
    ·exact r.upd
    clear l K
    try simp only [Au,pA,pB,pC]
    refine JV ?_
    go_wp2_with fail;go_roundw
    case rel=>exact⟨i+1,by go_num,by omega,Z,D (by rw [hd,S];exact h0),D (xt.trans r)⟩
    case measure=>simp [AX];omega
   have S:=D (yu0 name num init);go_upto_region 7 with fail
   rotate_left
   obtain rfl:init=[]:=BZ x0;have S:=D (ya4 name num);go_upto_region 11 with fail
   all_goals
    refine QT (BG b A) [] (fun a=>?_)
    iterate 2 refine JC a ?_
    refine JP a (fun w v=>JK.cell v x1 z) ?_
    iterate 2 refine Mq a ?_
    refine JC a ?_
    refine JP a (fun w v=>JK.cell v hg z) ?_
    try simp only [Au,pA,pB,pC]
    refine JM (fun K l=>?_);go_simp
    with_reducible refine(yz.out _ (by assumption)).mono ?_
    rintro e hh ⟨rfl,h3⟩;have T:Ext d hh:=Ext.trans (by assumption) h3;clear h3;refine l _ _ ?_ (fun a=>?_)
    ·exact Gl T
    clear l K
    try simp only [Au,pA,pB,pC]
    iterate 2 refine Mq a ?_
    try simp only [Au,pA,pB,pC]
    refine JM (fun K l=>?_);go_simp;refine(V7 (h6.ext T) (xu _ S) (by first|(apply DS;simp [str];done)|rfl)).mono ?_
    rintro e wF ⟨rfl,Z,C,E⟩;have h0:=D C;have r:=D ((LW.ext (g:=A) T).trans E);clear C E;refine l _ _ ?_ (fun a=>?_)
    ·exact r.upd
    clear l K
    try simp only [Au,pA,pB,pC]
    refine JV ?_
    go_wp2_with fail;go_roundw
    case rel=>exact⟨i+1,by go_num,by omega,Z,D (by rw [hd,S];exact h0),D (xt.trans r)⟩
    case measure=>simp [AX];omega
  ·have ub:i=N:=by omega
   subst ub;have z2:AA ((p.globals.take i).flatMap OD=p.globals.flatMap OD):=D (by rw [yk,BN]);rw [z2]at y;obtain⟨H,xw⟩:=JH (p.globals.flatMap OD);have uc:=D xw;rw [←xw]at y ym;have hb:AA (WW wr b A (H++(p.JY.take 0).flatMap Ox)):=D (by simpa using y.out);have v2:=u.upd.cell u1 u0;have z3:=D u;clear xw u3 hx z2 y;go_wp2;go_loopw [78] (fun s hc=>∃ j:Nat,s=V Ad j∧j≤O∧∃ I,AA (WW hc b I (H++(p.JY.take j).flatMap Ox))∧AA (LW b none W1 I hc)) (fun s _=>O - (AX s).toNat)
   case atStart=>exact⟨0,rfl,by omega,A,hb,z3⟩
   case round=>
    clear hb z3 u;obtain⟨j,rfl,v3,I,y,u⟩:=hrel;by_cases hx:j<O
    ·obtain⟨x,t⟩:∃ x,p.JY[j]?= some x:=⟨p.JY[j]'(by rw [←yl];exact hx),Al _⟩
     obtain⟨u4,u5,u6,cs,xk, -,xl,Q⟩:=(zz.bg h5 u).elem t;obtain⟨name,params,c,body⟩:=x;obtain⟨P,L,v4,rfl,hi,hj,x4⟩:=xl
     try dsimp only at hi hj x4 Q
     obtain⟨xx,xy,rfl⟩:=JB hi;obtain⟨x5,xz,rfl⟩:=JB hj;obtain⟨y0,y1,rfl⟩:=JB x4;cases xk;have z4:=D (kI Ox t);obtain⟨y2,y3,ud,ue,y4⟩:=zr j _ t
     try dsimp only at y3 y4
     unfold Rz at y2;simp only [Ah]at y2;obtain⟨⟨⟨hid,x6⟩,x7⟩, -⟩:=y2;have xr:=aY hid;have x6:=Ai x6;have x7:=Ai x7
     try dsimp only at xr x6 x7
     have z5:=(aa hi).2.1;have z6:=(aa hj).2.1;have z7:=D (yC9 name params c body);have y5:(H++(p.JY.take j).flatMap Ox).length+(Ox ⟨name,params,c,body⟩).length≤1000000:=by
      have h1:=zt (j+1);rw [z4,M]at h1;have v5:=ym.out;rw [M];omega
     rw [z7]at y5;simp only [M]at y5;have y6:(Jy params).length≤1000000:=by
      have:(Jy params).length≤(J9 0 (([102,117,110,99,32]:Bs)++(name++([40]++(Jy params++[41,32,123]))))).length:=by unfold J9;simp only [M];omega
      omega
     have z8:AA ((H++(p.JY.take j).flatMap Ox).length+(J9 0 (([102,117,110,99,32]:Bs)++(name++([40]++(Jy params++[41,32,123]))))).length≤1000000):=D (by simp only [M];omega);have hk:AA ((H++(p.JY.take j).flatMap Ox++J9 0 (([102,117,110,99,32]:Bs)++(name++([40]++(Jy params++[41,32,123]))))).length+(if c.isEmpty then([]:Bs)else J9 1 (([118,97,114,32]:Bs)++(Jy c++[59]))).length≤1000000):=D (by simp only [M];omega);have x8:AA ((H++(p.JY.take j).flatMap Ox++J9 0 (([102,117,110,99,32]:Bs)++(name++([40]++(Jy params++[41,32,123]))))++(if c.isEmpty then([]:Bs)else J9 1 (([118,97,114,32]:Bs)++(Jy c++[59])))).length+(KR body 1).length≤1000000):=D (by simp only [M];omega);have x9:AA ((H++(p.JY.take j).flatMap Ox++J9 0 (([102,117,110,99,32]:Bs)++(name++([40]++(Jy params++[41,32,123]))))++(if c.isEmpty then([]:Bs)else J9 1 (([118,97,114,32]:Bs)++(Jy c++[59])))++KR body 1).length+(J9 0 [125]).length≤1000000):=D (by simp only [M];omega);have xa:AA (H++(p.JY.take (j+1)).flatMap Ox=H++(p.JY.take j).flatMap Ox++J9 0 (([102,117,110,99,32]:Bs)++(name++([40]++(Jy params++[41,32,123]))))++(if c.isEmpty then([]:Bs)else J9 1 (([118,97,114,32]:Bs)++(Jy c++[59])))++KR body 1++J9 0 [125]):=D (by rw [z4,z7];simp only [AG]);obtain⟨v6,z9⟩:=JH (H++(p.JY.take j).flatMap Ox);rw [←z9]at z8 hk x8 x9 xa y;have za:AA (∀W,Ext wr W→As prog 100 #[J xx params.length xy,Aa ⟨#[44,32]⟩] W (Mi W (Jy params))):=D (fun W e=>jF ((Q7 hi).ext e) z5 (by omega) y6);have zb:AA (c≠[]→∀ W,LW b I wr I W∨True→(Ol W x5 (Jw c))→As prog 100 #[J x5 c.length xz,Aa ⟨#[44,32]⟩] W (Mi W (Jy c))):=D (fun h2 W _ e=>jF e z6 (by omega) (by
      have h1:=hk.out
      rw [if_neg (by simpa using h2)]at h1
      have:(Jy c).length≤(J9 1 (([118,97,114,32]:Bs)++(Jy c++[59]))).length:=by unfold J9;simp only [M];omega
      omega))
     have uf:=D (fun(W:Y) (h8:Option Nat) (xb:LW b I wr h8 W)=>Q7 (hj.upd xb.upd (fun k o=>u.bg (h5 k o).1 (h5 k o).2) (fun _ q=>q)));have y7:AA (∀(W:Y) (h8:Option Nat) (hl:Bs),LW b I wr h8 W→WW W b h8 hl→hl.length+(KR body 1).length≤1000000→As prog 101 #[Ae (some ⟨b,0,none⟩),J y0 body.length y1,V Ad 1] W (Wr W b h8 (hl++KR body 1))):=D (fun W h8 hl xb ug uh=>vJ body U 1 ud ue 1 _ W b h8 hl (x4.upd xb.upd (fun k o=>u.bg (h5 k o).1 (h5 k o).2) (fun _ q=>q)) ug (zJ9 h5 (u.trans xb)) y4 y3 (Aw _) (by omega) uh);obtain⟨np,zc⟩:=JH params.length;obtain⟨hm,y8⟩:=JH c.length;obtain⟨nb,zd⟩:=JH body.length;have ze:=D y8;rw [←zc]at za Q;rw [←y8]at zb Q x7;rw [←zd]at y7 Q;have h9:=D Q;have v7:(Jy params).length≤1000000:=y6;obtain⟨d,xs,B,R⟩:=alw wr (Ab #[Aa (str name),J xx np xy,J x5 hm xz,J y0 nb y1] 109);have z:AA (¬BG b I wr.heap.size):=D (fun q=>by have:=y.lt q;omega);clear Q hi hj x4 t y3 y4 hid x6 z5 z6 y5 y6 z9 zc y8 zd;go_upto_region 16 with(refine KV rfl Bg rfl h9 zk ?_)
     try rw [xs]
     have u9:Ext d d.drew:=(Ext.refl d).drew;have h6:=D (y.ext B);have yy:d.cell? ⟨wr.heap.size,0,none⟩=some (Aa (str name)):=JA R 0;have x1:d.cell? ⟨wr.heap.size,1,none⟩=some (J xx np xy):=JA R 1;have hg:d.cell? ⟨wr.heap.size,2,none⟩=some (J x5 hm xz):=JA R 2;have x2:d.cell? ⟨wr.heap.size,3,none⟩=some (J y0 nb y1):=JA R 3;have ui:=D (fun W (x:Ext d W)=>za W (B.trans x));refine QT (BG b I) [] (fun a=>?_)
     iterate 2 refine JC a ?_
     refine JP a (fun w v=>JK.cell v yy z) ?_
     iterate 2 refine Mq a ?_
     refine JC a ?_
     refine JP a (fun w v=>JK.cell v x1 z) ?_
     try simp only [Au,pA,pB,pC]
     refine JM (fun K l=>?_);go_simp
     with_reducible refine(ui.out _ (by assumption)).mono ?_
     rintro e hh ⟨rfl,h3⟩;have T:Ext d hh:=Ext.trans (by assumption) h3;clear h3;refine l _ _ ?_ (fun a=>?_)
     ·exact Gl T
     clear l K
     try simp only [Au,pA,pB,pC]
     iterate 2 refine Mq a ?_
     try simp only [Au,pA,pB,pC]
     refine JM (fun K l=>?_);go_simp;refine(V7 (s:=([102,117,110,99,32]:Bs)++(name++([40]++(Jy params++[41,32,123])))) (h6.ext T) z8 (show _=str (([102,117,110,99,32]:Bs)++(name++([40]++(Jy params++[41,32,123]))))from(by first|(apply DS;simp [str];done)|rfl))).mono ?_
     rintro e wF ⟨rfl,Z,C,E⟩;have h0:=D C;have r:=D ((LW.ext (g:=I) T).trans E);clear C E;refine l _ _ ?_ (fun a=>?_)
     ·exact r.upd
     clear l K
     try simp only [Au,pA,pB,pC]
     refine JV ?_
     by_cases h7:hm=0
     ·have zf:c=[]:=BZ (by rw [←ze];exact h7);have xc:AA ((if c.isEmpty then([]:Bs)else J9 1 (([118,97,114,32]:Bs)++(Jy c++[59])))=[]):=D (by rw [zf];rfl);have zg:=r.upd.cell hg z;subst h7;have zj:=x8;have zl:=x9;rw [xc,BP]at zj zl;clear zf;have y9:=r.upd.cell x2 z;go_upto_region 19 with fail;go_wp2_with fail;refine(y7 wF Z _ ((LW.ext B).trans r) h0 zj).mono ?_
      rintro e uj ⟨rfl,uk,hn,ho⟩;have ya:=D hn;have yb:=D (r.trans ho);clear hn ho y9;go_wp2_with fail;refine(V7 ya zl (show _=str [125]from rfl)).mono ?_
      rintro e ul ⟨rfl,yc,hp,hq⟩;have yd:=D hp;have ye:=D (yb.trans hq);clear hp hq;go_wp2_with fail;go_roundw
      case rel=>exact⟨j+1,by go_num,by omega,yc,D (by rw [xa];rw [xc,BP];exact yd),D (u.trans ((LW.ext B).trans ye))⟩
      case measure=>simp [AX];omega
     ·have h2:c≠[]:=fun q=>h7 (by rw [ze,q];rfl)
      have xc:AA ((if c.isEmpty then([]:Bs)else J9 1 (([118,97,114,32]:Bs)++(Jy c++[59])))=J9 1 (([118,97,114,32]:Bs)++(Jy c++[59]))):=D (by rw [if_neg (by simpa using h2)]);rw [xc]at hk x8 x9 xa;have zg:=r.upd.cell hg z;have v8:((hm:Int)>0):=by omega
      have u7:decide (0<hm)=true:=by simp;omega
      have um:=D (zb h2 wF (AB trivial) (uf wF Z ((LW.ext B).trans r)));have v9:(Jy c).length≤1000000:=by
       have h1:=hk.out;have:(Jy c).length≤(J9 1 (([118,97,114,32]:Bs)++(Jy c++[59]))).length:=by unfold J9;simp only [M];omega
       omega
      clear h2 h7;go_upto_region 18 with fail;go_wp2_with fail;refine um.mono ?_
      rintro e va ⟨rfl,yf⟩;have un:=D (h0.ext yf);have uo:=D (r.trans (LW.ext yf));clear yf zg;go_wp2_with fail;refine(zh8 un hk (show _=str (([118,97,114,32]:Bs)++(Jy c++[59]))from(by first|(apply DS;simp [str];done)|rfl))).mono ?_
      rintro e up ⟨rfl,uq,zm,zn⟩;have ur:=D zm;have yg:=D (uo.trans zn);clear zm zn;have y9:=yg.upd.cell x2 z;go_upto_region 19 with fail;go_wp2_with fail;refine(y7 up uq _ ((LW.ext B).trans yg) ur x8).mono ?_
      rintro e uj ⟨rfl,uk,hn,ho⟩;have ya:=D hn;have yb:=D (yg.trans ho);clear hn ho y9;go_wp2_with fail;refine(V7 ya x9 (show _=str [125]from rfl)).mono ?_
      rintro e ul ⟨rfl,yc,hp,hq⟩;have yd:=D hp;have ye:=D (yb.trans hq);clear hp hq;go_wp2_with fail;go_roundw
      case rel=>exact⟨j+1,by go_num,by omega,yc,D (by rw [xa];exact yd),D (u.trans ((LW.ext B).trans ye))⟩
      case measure=>simp [AX];omega
    ·have us:j=O:=by omega
     subst us;have ut:AA (H++(p.JY.take j).flatMap Ox=QH p):=D (by rw [yl,BN,uc];rfl);rw [ut]at y;have zo:Ext w wr:=((Gl (G:=BG b none) h4).trans u.upd).ext (fun k o q=>by
      rcases q with q|q
      ·have:=u2.out;omega
      ·cases q)
     have zp:∀ k,I=some k→w.heap.size≤k:=fun k o=>by
      rcases u.new with q|⟨m,q,uu⟩
      ·rw [q]at o;cases o
      ·rw [q]at o;cases o;exact AL h4.size uu
     have uv:=D (pI y.eb zv zw zo zp);clear zo zp;go_wp2_with fail;refine uv.mono ?_
     rintro e z1 ⟨rfl,x3⟩;go_wp2_with fail;go_ret;exact⟨rfl,x3⟩
structure iX (p:JQ):Prop where
 ng:p.globals.length≤64
 nf:p.JY.length≤64
 tx:yP0 p
 ini:p.globals.foldl (fun n g=>n+g.init.length) 0≤1000
 cnt:∃ m,QA p.JY 0=some m
 len:(QH p).length≤12000
def Tg (l:List KJ)(n:Nat):Nat:=l.foldl (fun n g=>n+g.init.length) n
theorem vN:∀ (l:List KJ)(n:Nat),n≤Tg l n
 |[],n=>Aw _
 |x::l,n=>AL (Nat.le_add_right n x.init.length) (vN l (n+x.init.length))
theorem kJ {l:List KJ}{i:Nat}{x:KJ}(a:l[i]?= some x):Tg (l.take (i+1)) 0=Tg (l.take i) 0+x.init.length:=by
 unfold Tg;rw [BB,a,FB];rfl
theorem kK (l:List KJ)(i:Nat):Tg (l.take i) 0≤Tg l 0:=by
 have a:Tg l 0=Tg (l.drop i) (Tg (l.take i) 0):=by
  unfold Tg;rw [←FB,C6]
 rw [a];exact vN _ _
theorem gH {f:Pg.Fn}{l:List Pg.Fn}{n m:Nat}(a:QA (f::l) n=some m):∃ q,Rz f=true∧K5 f.body 1 n=some q∧QA l q=some m:=by
 rw [QA]at a;split at a
 ·rename_i b;split at a
  ·cases a
  ·rename_i q c;exact⟨q,b,c,a⟩
 ·cases a
theorem gI (p:JQ)(U:Nat→Prop)(G F:h)(w:Y)(K:Ju KG U w p.globals G)(M:Ju KF U w p.JY F)(N:Mg w)(h2:∀ k,U k→k<w.heap.size)(f:iX p):
 As prog 34 #[AN #[G,F]] w (oZ w (0,0)):=by
 obtain⟨u,v,rfl⟩:=JB K;obtain⟨y,z,rfl⟩:=JB M;obtain⟨a,h3⟩:=JH p.globals.length;obtain⟨b,h4⟩:=JH p.JY.length;have x7:=D h3;have x8:=D h4;have x9:=f.ng;have xa:=f.nf;obtain⟨xb,hk⟩:=f.cnt;have xc:=D hk;have hl:=D f.ini;have xd:=D f.len;have h5:=D (fun(W:Y) (x:Ext w W)=>yD0 p U _ _ W (K.ext x) (M.ext x) (N.ext x) (fun k m=>Ar (h2 k m) x.size) f.tx);rw [←h3]at x9 h5 ⊢;rw [←h4]at xa h5 ⊢;have xe:AA (∀(i:Nat) (x:KJ),p.globals[i]?= some x→VB x=true):=D (fun i x c=>f.tx.g x (AD c));have hm:=D N;have hn:=D h2;have ho:=D K;have hp:=D M;have yh:=N.lt;have d:AA (Ext w ((w.alloc (Ab #[J u a v,J y b z] 56)).alloc (Ab #[V Ad 0,V Ad 0] 26))):=D (((Ext.refl w).alloc _).alloc _);have O:=D (AP w (Ab #[J u a v,J y b z] 56) (Ab #[V Ad 0,V Ad 0] 26));have hq:=D (Ay w (Ab #[J u a v,J y b z] 56) (Ab #[V Ad 0,V Ad 0] 26));have h6:((w.alloc (Ab #[J u a v,J y b z] 56)).alloc (Ab #[V Ad 0,V Ad 0] 26)).heap.size=w.heap.size+2:=by simp
 have yi:¬ ((a:Int)>64):=by omega
 have yj:¬ ((b:Int)>64):=by omega
 clear h3 h4 f K M N h2 hk;go_enter func34,ntmps34;go_upto_region 1 with fail;generalize xf:(w.alloc (Ab #[J u a v,J y b z] 56)).alloc (Ab #[V Ad 0,V Ad 0] 26)=W1 at d O hq h6 ⊢;have yk:=D h6;have yl:=bk O 0;have xg:=bk O 1;have xh:=D (ho.ext d);have xi:=D (hp.ext d);clear xf ho hp h6;go_wp2;go_loopw [3,25] (fun xj s Q=>∃ i:Nat,s=V Ad i∧i≤a∧xj=V Ad ((Tg (p.globals.take i) 0:Nat):Int)∧AA (Ext W1 Q)) (fun _ s _=>a - (AX s).toNat)
 case atStart=>exact⟨0,rfl,by omega,rfl,D (Ext.refl _)⟩
 case round=>
  obtain⟨i,rfl,xk,rfl,o⟩:=hrel;by_cases R:i<a
  ·obtain⟨x,c⟩:∃ x,p.globals[i]?= some x:=⟨p.globals[i]'(by rw [←x7];exact R),Al _⟩
   obtain⟨xl,xm,xn,cs,h7, -,h8,r⟩:=(xh.ext o).elem c;obtain⟨ym,rfl,hr⟩:=h8;obtain⟨h9,ha,rfl⟩:=JB hr;cases h7;have hs:=D (fun(W:Y) (e:Ext W1 W)=>jy x h9 ha W (hm.ext (d.trans e)) (xe i x c));have A:=kJ c;have ht:=kK p.globals (i+1);have xo:Tg p.globals 0≤1000:=hl;obtain⟨S,B⟩:=JH (Tg (p.globals.take i) 0);obtain⟨xp,hb⟩:=JH (Tg (p.globals.take (i+1)) 0);have xq:=D hb;rw [←B]at A ⊢;rw [←hb]at A ht;obtain⟨t,hu⟩:=JH x.init.length;rw [←hu]at hs r A;have T:=D r;have yn:Ad.wrap ((S:Int)+(t:Int))=((S+t:Nat):Int):=by rw [AU _ (by omega)];omega
   have xr:AA ((S+t:Nat)=xp):=D A.symm;have yo:S+t≤1000:=by omega
   obtain⟨hc,E,H,X⟩:=alw wr (Ab #[V Ad x.kind,Aa (str x.name),V Af x.num,J h9 t ha] 112);clear r hr c A ht xo B hb hu;go_upto_region 7 with(refine KV rfl Bm rfl T Oe ?_)
   try rw [E]
   clear E;go_wp2_with (refine LH rfl Bm rfl X Oe ?_);refine(hs hc (o.trans H)).mono ?_
   rintro e xs ⟨rfl,hd⟩;have yp:xs.cell? ⟨wr.heap.size,3,none⟩=some (J h9 t ha):=hd.cell (JA X 3);have xt:=D ((o.trans H).trans hd);clear hd;go_wp2_with fail;go_roundw
   case rel=>exact⟨i+1,by go_num,by omega,by rw [←xq,←xr];exact congrArg (V Ad) (by omega),xt⟩
   case measure=>simp [AX];omega
  ·have xu:i=a:=by omega
   subst xu;have xv:Tg (p.globals.take i) 0≤1000:=AL (kK _ _) hl;obtain⟨S,B⟩:=JH (Tg (p.globals.take i) 0);rw [←B]at xv ⊢;have yq:¬ ((S:Int)>1000):=by omega
   clear B xk R;have Z:AA (XG (wr.alloc (Ab #[V Ad 0] 117)) wr.heap.size 0):=D (Aj wr (Ab #[V Ad 0] 117));have he:AA (Ext W1 (wr.alloc (Ab #[V Ad 0] 117))):=D (o.trans ((Ext.refl wr).alloc _));have xw:W1.heap.size≤wr.heap.size:=o.size;obtain⟨C,hv⟩:=JH wr.heap.size;go_upto_region 15 with fail;rw [←hv]at Z xw ⊢;generalize xx:wr.alloc (Ab #[V Ad 0] 117)=W3 at Z he ⊢;have yr:=he.cell xg;clear xx hv o;go_wp2;go_loopw [51] (fun s Q=>∃ j n:Nat,s=V Ad j∧j≤b∧AA (XG Q C n)∧AA (QA (p.JY.drop j) n=some xb)∧AA (JK (fun k=>k=C) W3 Q)) (fun s _=>b - (AX s).toNat)
   case atStart=>exact⟨0,0,rfl,by omega,Z,D (by rw [FI];exact xc),D (JK.refl _)⟩
   case round=>
    clear Z;obtain⟨j,xy,rfl,ys,xz,y0,hw⟩:=hrel;have l:AA (Ext W1 wr):=D (((Gl (G:=fun k=>k=C) he).trans hw).ext (fun k m q=>by have q2:k=C:=q;omega));by_cases R:j<b
    ·obtain⟨x,c⟩:∃ x,p.JY[j]?= some x:=⟨p.JY[j]'(by rw [←x8];exact R),Al _⟩
     have hx:p.JY.drop j=x::p.JY.drop (j+1):=by
      obtain⟨h1,y1⟩:=Ao.1 c;rw [AR h1,y1]
     have hf:=y0.out;rw [hx]at hf;obtain⟨q,hy,hz,x0⟩:=gH hf;obtain⟨xl,xm,xn,cs,h7, -,h8,r⟩:=(xi.ext l).elem c;obtain⟨P,L,yt,rfl,hg,hh,hi⟩:=h8;obtain⟨pA,y2,rfl⟩:=JB hg;obtain⟨y3,y4,rfl⟩:=JB hh;obtain⟨y5,y6,rfl⟩:=JB hi;cases h7;have T:=D r;have y7:=D x0;obtain⟨np,x1⟩:=JH x.params.length;obtain⟨y8,x2⟩:=JH x.JE.length;obtain⟨nb,x3⟩:=JH x.body.length;have x4:=D (fun(W:Y) (e:Ext wr W)=>yB9 x C xy q U _ _ _ W hy hz (CE e xz) (hg.ext e) (hh.ext e) (hi.ext e) (fun m=>by have:=hn C m;have:=d.size;omega) (fun k m=>Ar (hn k m) (AL d.size (AL l.size e.size))) (by have:=d.size;omega) (hm.ext (d.trans (l.trans e))));rw [←x1,←x2,←x3]at x4 T;obtain⟨hc,E,H,X⟩:=alw wr (Ab #[Aa (str x.name),J pA np y2,J y3 y8 y4,J y5 nb y6] 109);clear r hg hh hi c hx hf hy hz x0 x1 x2 x3;go_upto_region 18 with(refine KV rfl Bg rfl T zk ?_)
     try rw [E]
     clear E;go_wp2_with (refine LH rfl Bg rfl X zk ?_);refine(x4 hc H).mono ?_
     rintro e yu ⟨rfl,x5,x6⟩;have y9:=D x5;have ya:=D (hw.trans ((Gl H).trans x6));clear x5 x6;go_wp2_with fail;go_roundw
     case rel=>exact⟨j+1,q,by go_num,by omega,y9,y7,ya⟩
     case measure=>simp [AX];omega
    ·have yb:j=b:=by omega
     subst yb;have yc:=D (CE l O);have yd:=D (CE l hq);have ye:=D (h5 wr (d.trans l));go_wp2_with (refine LH rfl Cw rfl yc Sy ?_);refine ye.mono ?_
     rintro e yv ⟨rfl,hj⟩;have I:=D (CE hj yd);have yf:=D ((d.trans l).trans hj);have yw:(str (QH p)).size=(QH p).length:=KO _;have yx:¬ (((QH p).length:Int)>12000):=by have:=xd.out;omega
     clear hj;have yy:=bk I 0;have yz:=bk I 1;have z0:=JF I 0;have f1:=JF I 1;have h0:=JJ I 0 (V Ad 0);have z1:=bk h0 1;have z2:=JF h0 1;have yg:=D (JJ h0 1 (V Ad 0));clear h0;go_wp2_with fail;refine K3 results34 Bd Pk yg ?_
     exact⟨rfl,(yf.setCell (p:=⟨w.heap.size+1,0,none⟩) (CA _) _).setCell (p:=⟨w.heap.size+1,1,none⟩) (CA _) _⟩
theorem rV (a b c:h)(w:Y):
 CallsD prog 31 #[a,b,c] .returning w fun e d w'=>e=Ak (AZ #[])∧d=.returning∧w'=w:=by
 refine callsD_of_wpS func31 rfl fun f cs g=>?_
 apply wpS_seq;apply wpS_region;simp [wpOpsS,go_sem,recoverD,g,ntmps31,Exit.thenS];refine wpS_cond (t:=false) (by simp [Act.eval,CD]) ?_
 simp only [BL,if_false];refine wpS_of_wp (wp_skip ?_);cases f
 simp_all [bodyPostS,El,results31]
def zo (w:Y)(p:JQ)(e:BX)(w':Y):Prop:=∃ G F,e=Ak (AZ #[AN #[G,F],AN #[V Ad 0,V Ad 0]])∧Ju KG (fun k=>w.heap.size≤k∧k<w'.heap.size) w' p.globals G∧Ju KF (fun k=>w.heap.size≤k∧k<w'.heap.size) w' p.JY F∧Ext w w'
theorem Xp {P:BR}{fn:Func}{p q:Tmp}{a b:AK}(l:fn.results= #[.cell p a,.cell q b])(tmps:Array h)(w:Y)(g c:Nat)(t i:AK)(cs e:Array h)(j k:Nat×Nat)(d f:DK)
 (m:tmps.getD p Ca=Ae (some ⟨g,0,none⟩)) (n:tmps.getD q Ca=Ae (some ⟨c,0,none⟩)) (o:w.heap[g]?= some (Ab cs t j)) (r:w.heap[c]?= some (Ab e i k))
 (s:P.underlying a=some d) (u:(match d with|DA _|DX _ _=>true|_=>false)=true) (v:(P.info? a).map (·.size)=some cs.size)
 (x:P.underlying b=some f) (y:(match f with|DA _|DX _ _=>true|_=>false)=true) (z:(P.info? b).map (·.size)=some e.size):
 (El fn tmps).run P w=Ez (AZ #[AN cs,AN e]) w:=by
 have A:tmps[p]?.getD Ca=Ae (some ⟨g,0,none⟩):=by simpa using m
 have B:tmps[q]?.getD Ca=Ae (some ⟨c,0,none⟩):=by simpa using n
 simp [El,l,A,B,asAddr,DI w g t a cs j d o s u v,DI w c i b e k f r x y z]
theorem zj1 (text:Bs)(n:Nat)(he:n≤1000)(p:JQ)(w:Y)(A:Mg w)(T:text.length≤12000)(u:WK n text=some p)(U:iX p):
 As prog 18 #[Aa (str text)] w (zo w p):=by
 unfold WK at u;split at u
 ·cases u
 rename_i q W;have xe:∀ (fn:Fn) (first cap:Array h) (w:Y),(Hh fn first cap).run prog w=Ez (ER fn first cap) w:=fun _ _ _ _=>rfl
 have hf:=D u;have hg:=D W;have hh:=D U;have hi:=D A;have X:(str text).size=text.length:=KO text;have hj:=D X;have xf:¬ (((str text).size:Int)>12000):=by omega
 have hk:=D T;have xg:=A.lt;have hl:=D (L6 text);clear u W U A X T
 go_enter_defers func18,ntmps18
 go_upto_region 5 with fail;have B:((((w.alloc (Ab #[J none 0 0,J none 0 0] 56)).alloc (Ab #[V Ad 0,V Ad 0] 26)).alloc (Ab #[Aa (str text),V Ad 0,Aa ⟨#[]⟩,V Af 0,V Ad 0,V Ad 0] 87)).alloc (Ab #[Ae (some ⟨w.heap.size+1+1,0,none⟩)] 83)).heap[w.heap.size]?= some (Ab #[J none 0 0,J none 0 0] 56 (0,0)):=CE (((Ext.refl _).alloc (Ab #[Aa (str text),V Ad 0,Aa ⟨#[]⟩,V Af 0,V Ad 0,V Ad 0] 87)).alloc (Ab #[Ae (some ⟨w.heap.size+1+1,0,none⟩)] 83)) (AP w (Ab #[J none 0 0,J none 0 0] 56) (Ab #[V Ad 0,V Ad 0] 26))
 have C:((((w.alloc (Ab #[J none 0 0,J none 0 0] 56)).alloc (Ab #[V Ad 0,V Ad 0] 26)).alloc (Ab #[Aa (str text),V Ad 0,Aa ⟨#[]⟩,V Af 0,V Ad 0,V Ad 0] 87)).alloc (Ab #[Ae (some ⟨w.heap.size+1+1,0,none⟩)] 83)).heap[w.heap.size+1]?= some (Ab #[V Ad 0,V Ad 0] 26 (0,0)):=CE (((Ext.refl _).alloc (Ab #[Aa (str text),V Ad 0,Aa ⟨#[]⟩,V Af 0,V Ad 0,V Ad 0] 87)).alloc (Ab #[Ae (some ⟨w.heap.size+1+1,0,none⟩)] 83)) (Ay w (Ab #[J none 0 0,J none 0 0] 56) (Ab #[V Ad 0,V Ad 0] 26))
 have E:((((w.alloc (Ab #[J none 0 0,J none 0 0] 56)).alloc (Ab #[V Ad 0,V Ad 0] 26)).alloc (Ab #[Aa (str text),V Ad 0,Aa ⟨#[]⟩,V Af 0,V Ad 0,V Ad 0] 87)).alloc (Ab #[Ae (some ⟨w.heap.size+1+1,0,none⟩)] 83)).heap[w.heap.size+1+1]?= some (Ab #[Aa (str text),V Ad 0,Aa ⟨#[]⟩,V Af 0,V Ad 0,V Ad 0] 87 (0,0)):=by
  have:=AP ((w.alloc (Ab #[J none 0 0,J none 0 0] 56)).alloc (Ab #[V Ad 0,V Ad 0] 26)) (Ab #[Aa (str text),V Ad 0,Aa ⟨#[]⟩,V Af 0,V Ad 0,V Ad 0] 87) (Ab #[Ae (some ⟨w.heap.size+1+1,0,none⟩)] 83);simpa using this
 have x:((((w.alloc (Ab #[J none 0 0,J none 0 0] 56)).alloc (Ab #[V Ad 0,V Ad 0] 26)).alloc (Ab #[Aa (str text),V Ad 0,Aa ⟨#[]⟩,V Af 0,V Ad 0,V Ad 0] 87)).alloc (Ab #[Ae (some ⟨w.heap.size+1+1,0,none⟩)] 83)).heap[w.heap.size+1+1+1]?= some (Ab #[Ae (some ⟨w.heap.size+1+1,0,none⟩)] 83 (0,0)):=by
  have:=Ay ((w.alloc (Ab #[J none 0 0,J none 0 0] 56)).alloc (Ab #[V Ad 0,V Ad 0] 26)) (Ab #[Aa (str text),V Ad 0,Aa ⟨#[]⟩,V Af 0,V Ad 0,V Ad 0] 87) (Ab #[Ae (some ⟨w.heap.size+1+1,0,none⟩)] 83);simpa using this
 have y:Ext w ((((w.alloc (Ab #[J none 0 0,J none 0 0] 56)).alloc (Ab #[V Ad 0,V Ad 0] 26)).alloc (Ab #[Aa (str text),V Ad 0,Aa ⟨#[]⟩,V Af 0,V Ad 0,V Ad 0] 87)).alloc (Ab #[Ae (some ⟨w.heap.size+1+1,0,none⟩)] 83)):=((((Ext.refl w).alloc _).alloc _).alloc _).alloc _;have H:((((w.alloc (Ab #[J none 0 0,J none 0 0] 56)).alloc (Ab #[V Ad 0,V Ad 0] 26)).alloc (Ab #[Aa (str text),V Ad 0,Aa ⟨#[]⟩,V Af 0,V Ad 0,V Ad 0] 87)).alloc (Ab #[Ae (some ⟨w.heap.size+1+1,0,none⟩)] 83)).heap.size=w.heap.size+4:=by simp
 generalize((((w.alloc (Ab #[J none 0 0,J none 0 0] 56)).alloc (Ab #[V Ad 0,V Ad 0] 26)).alloc (Ab #[Aa (str text),V Ad 0,Aa ⟨#[]⟩,V Af 0,V Ad 0,V Ad 0] 87)).alloc (Ab #[Ae (some ⟨w.heap.size+1+1,0,none⟩)] 83))=W4 at B C E x y H ⊢;have hm:AA (PW W4 (w.heap.size+1+1) (str text) ⟨⟨0,[],0,0⟩,text,0⟩):=D ⟨⟨E,by rw [hl];rfl,Dd _,Dd _⟩,hi.ext y,by omega,by rw [hj];exact hk⟩;have hn:=D B;have ho:=D C;have xh:=D x;have hp:=D y;have hq:=D H;have hr:=bk x 0;clear B C E x y H;go_wp2_with fail;refine(Uh hm hg).mono ?_
 rintro e l ⟨rfl,Z,I⟩;have hs:=D Z;have ht:l.cell? ⟨w.heap.size+1+1+1,0,none⟩=some (Ae (some ⟨w.heap.size+1+1,0,none⟩)):=I.cell hr (by show ¬w.heap.size+1+1+1=w.heap.size+1+1;omega);have h0:=D I;clear Z I;go_wp2_with fail;refine(zR he hf hs).mono ?_
 rintro e m ⟨⟨cs,rfl,G,F,rfl,K,L⟩,⟨q6,h1⟩,M⟩;have N:=D (h0.trans M);have h2:=D (N.heap hn (by show ¬w.heap.size=w.heap.size+1+1;omega));have hu:=D (N.heap ho (by show ¬w.heap.size+1=w.heap.size+1+1;omega));have hv:W4.heap.size≤l.heap.size:=h0.size;have hw:l.heap.size≤m.heap.size:=M.size;have hx:=D h1.tab;have h3:=D K;have h4:=D L;obtain⟨a,b,rfl⟩:=JB K;obtain⟨d,g,rfl⟩:=JB L;have O:=D (show w.heap.size+4≤l.heap.size by have:=hq.out;omega);clear h1 M K L ht;obtain⟨i,h5⟩:=JH p.globals.length;obtain⟨j,h6⟩:=JH p.JY.length;rw [←h5]at h3 ⊢;rw [←h6]at h4 ⊢;clear h5 h6;go_upto_region 7 with(refine L8 rfl rfl rfl h2 Sy ?_);have s:JK (fun k=>k=w.heap.size) m (m.setRow w.heap.size #[J a i b,J d j g]):=JK.setRow (G:=fun k=>k=w.heap.size) (JK.refl m) (AB rfl) _;have P:=Bo m w.heap.size _ #[J a i b,J d j g] _ _ h2;have Q:=s.heap hu (by show ¬w.heap.size+1=w.heap.size;omega);have h7:(m.setRow w.heap.size #[J a i b,J d j g]).heap.size=m.heap.size:=by simp
 generalize m.setRow w.heap.size #[J a i b,J d j g]=w7 at s P Q h7 ⊢;have h8:=D (h3.upd s (fun k q c=>by have v:k=w.heap.size:=c;have q2:=q.1;have:=O.out;omega) (U':=fun k=>l.heap.size≤k∧k<w7.heap.size) (fun k q=>⟨q.1,by have:=q.2;omega⟩));have h9:=D (h4.upd s (fun k q c=>by have v:k=w.heap.size:=c;have q2:=q.1;have:=O.out;omega) (U':=fun k=>l.heap.size≤k∧k<w7.heap.size) (fun k q=>⟨q.1,by have:=q.2;omega⟩));have hy:=D (hx.upd s (fun k c=>by have v:k=w.heap.size:=c;omega));have ha:=D P;have hz:=D Q;have x0:AA (Ext w w7):=D ((((Gl hp).trans (N.mono (G':=fun k=>w.heap.size≤k) (fun k _ c=>by have v:k=w.heap.size+1+1:=c;show w.heap.size≤k;omega))).trans (s.mono (fun k _ c=>by have v:k=w.heap.size:=c;show w.heap.size≤k;omega))).ext (fun k xi c=>by have v:w.heap.size≤k:=c;omega));have x1:=D (gI p (fun k=>l.heap.size≤k∧k<w7.heap.size) _ _ w7 h8 h9 hy (fun k q=>q.2) hh);clear s P Q h7 hv hw;go_wp2_with (refine LH rfl Cw rfl ha Sy ?_);refine x1.mono ?_
 rintro e t ⟨rfl,o⟩;have x2:=D (CE o ha);have x3:=D (CE o hz);have x4:=D (x0.trans o);have x5:=D ((h8.ext o).upd (JK.refl (G:=fun _=>False) t) (fun _ _ q=>q) (U':=fun k=>l.heap.size≤k∧k<t.heap.size) (fun k q=>⟨q.1,Ar q.2 o.size⟩));have x6:=D ((h9.ext o).upd (JK.refl (G:=fun _=>False) t) (fun _ _ q=>q) (U':=fun k=>l.heap.size≤k∧k<t.heap.size) (fun k q=>⟨q.1,Ar q.2 o.size⟩));clear o;simp only [za8];go_upto_region 8 with fail;obtain⟨r,hb,z,x7⟩:=alw t (Ab #[V Ad 0,V Ad 0] 26);have R:=D (CE z x2);have x8:=D (CE z x3);have x9:=D (x4.trans z);rw [hb];clear hb;go_upto_region 10 with(refine LH rfl Bd rfl x7 Pk ?_);have hc:AA ((r.setRow w.heap.size #[J a i b,J d j g]).heap[w.heap.size+1]?= some (Ab #[V Ad 0,V Ad 0] 26 (0,0))):=D ((C7 _ w.heap.size (w.heap.size+1) #[J a i b,J d j g] (by omega)).trans x8);have xa:AA ((r.setRow w.heap.size #[J a i b,J d j g]).heap[w.heap.size]?= some (Ab #[J a i b,J d j g] 56 (0,0))):=D (Bo r w.heap.size _ #[J a i b,J d j g] _ _ R);have xb:AA (((r.setRow w.heap.size #[J a i b,J d j g]).setRow (w.heap.size+1) #[V Ad 0,V Ad 0]).heap[w.heap.size]?= some (Ab #[J a i b,J d j g] 56 (0,0))):=D ((C7 _ (w.heap.size+1) w.heap.size #[V Ad 0,V Ad 0] (by omega)).trans xa);have xc:AA (((r.setRow w.heap.size #[J a i b,J d j g]).setRow (w.heap.size+1) #[V Ad 0,V Ad 0]).heap[w.heap.size+1]?= some (Ab #[V Ad 0,V Ad 0] 26 (0,0))):=D (Bo _ (w.heap.size+1) _ #[V Ad 0,V Ad 0] _ _ hc);go_wp2_with (first|(refine LH rfl Cw rfl R Sy ?_)|(refine L8 rfl rfl rfl R Sy ?_)|(refine L8 rfl rfl rfl hc Pk ?_));have xd:AA (Ext w ((r.setRow w.heap.size #[J a i b,J d j g]).setRow (w.heap.size+1) #[V Ad 0,V Ad 0])):=D ((x9.setRow (Aw _) _).setRow (CA _) _);have S:JK (fun k=>k=w.heap.size∨k=w.heap.size+1) t ((r.setRow w.heap.size #[J a i b,J d j g]).setRow (w.heap.size+1) #[V Ad 0,V Ad 0]):=((Gl z).setRow (AB (AO rfl)) _).setRow (AB (AB rfl)) _;have hd:t.heap.size≤((r.setRow w.heap.size #[J a i b,J d j g]).setRow (w.heap.size+1) #[V Ad 0,V Ad 0]).heap.size:=S.size;refine leaves_cons (f:=31) (args:= #[Ae (some ⟨w.heap.size+1+1+1,0,none⟩),Ae (some ⟨w.heap.size,0,none⟩),Ae (some ⟨w.heap.size+1,0,none⟩)]) (by simp) (by simp [go_sem]) ?_
 refine(rV _ _ _ _).mono ?_
 rintro e xj xk ⟨rfl,rfl,rfl⟩;refine⟨_,Xp results18 _ _ w.heap.size (w.heap.size+1) 56 26 #[J a i b,J d j g] #[V Ad 0,V Ad 0] (0,0) (0,0) _ _ rfl rfl xb xc Cw rfl Sy Bd rfl Pk,?_⟩;have xl:=O.out;exact⟨_,_,rfl,x5.upd S (fun k q c=>by have:=q.1;rcases c with c|c<;>omega) (fun k q=>⟨by have:=q.1;omega,Ar q.2 hd⟩),x6.upd S (fun k q c=>by have:=q.1;rcases c with c|c<;>omega) (fun k q=>⟨by have:=q.1;omega,Ar q.2 hd⟩),xd⟩
section
attribute [local go_sem] Gu
theorem zj7 {F:IX}(b:F.depth=none)(k:Nat):F.room k:=fun d a=>by rw [b]at a;cases a
theorem iY {F:IX}(b:F.depth=none){m d:Nat}{P:BR}{l:Nat}{f:FuncId}{tmps:Array h}{assign body:Code}{w:Y}{R:BX→Y→Prop}
 (a:RoundIn F m P l f tmps assign body w R):RoundIn F d P l f tmps assign body w R:=⟨a.1,fun c cs _=>a.2 c cs (zj7 b _)⟩
theorem iZ {F:IX}(a:F.depth=none){m:Nat}(b:Nat){P:BR}{l:Nat}{args:Array h}{W:Y}{R:BX→Y→Prop}(c:YieldAt F m P l args W R):YieldAt F b P l args W R:=by
 obtain⟨fn,tmps,assign,body,hy,d⟩:=c;exact⟨fn,tmps,assign,body,hy,iY a d⟩
def XJ (l:List Ex):Prop:=∃ lv n m,L9 l lv n=some m
def Wl (l:List Sm):Prop:=∃ lv n m,K5 l lv n=some m
theorem XJ.cons {k op num:Nat}{name:Bs}{args l:List Ex}(a:XJ (.mk k op num name args::l)):1≤k∧k≤7∧XJ args∧XJ l:=by
 obtain⟨lv,n,m,a⟩:=a;rw [L9,P6]at a;split at a
 ·cases a
 ·rename_i q c;split at c
  ·rename_i d;rw [Ah,Ah]at d;have b:=d.2;unfold Sj at b;simp only [Ah]at b;exact⟨Ai b.1.1.1.1.1,Ai b.1.1.1.1.2,⟨_,_,_,c⟩,⟨_,_,_,a⟩⟩
  ·cases c
theorem Wl.cons {k:Nat}{name:Bs}{d:List Ex}{body els l:List Sm}(b:Wl (.mk k name d body els::l)):1≤k∧k≤10∧XJ d∧Wl body∧Wl els∧Wl l:=by
 obtain⟨lv,n,m,b⟩:=b;rw [K5,Qy]at b;split at b
 ·cases b
 ·rename_i q a;split at a
  ·rename_i e;rw [Ah,Ah]at e;have c:=e.2;unfold Sk at c;simp only [Ah]at c;split at a
   ·cases a
   ·rename_i m1 h1;split at a
    ·cases a
    ·rename_i g f;exact⟨Ai c.1.1.1.1.1,Ai c.1.1.1.1.2,⟨_,_,_,h1⟩,⟨_,_,_,f⟩,⟨_,_,_,a⟩,⟨_,_,_,b⟩⟩
  ·cases a
mutual
theorem zj8:∀ (x:Ex)(lv n m:Nat),n≤2000→P6 x lv n=some m→m=n+LY x∧m≤2000
 |.mk k op num name args,lv,n,m,c,a=>by
  rw [P6]at a;split at a
  ·rename_i b;rw [Ah,Ah]at b;have h1:=Ai b.1.2;have:=dx args (lv+1) (n+1) m h1 a;rw [LY];omega
  ·cases a
theorem dx:∀ (l:List Ex)(lv n m:Nat),n≤2000→L9 l lv n=some m→m=n+Jz l∧m≤2000
 |[],lv,n,m,b,a=>by rw [L9]at a;cases a;rw [Jz];omega
 |x::l,lv,n,m,b,a=>by
  rw [L9]at a;split at a
  ·cases a
  ·rename_i q c;have h1:=zj8 x lv n q b c;have d:=dx l lv q m h1.2 a;rw [Jz];omega
end
mutual
theorem zj9:∀ (x:Sm)(lv n m:Nat),n≤2000→Qy x lv n=some m→m=n+OE x∧m≤2000
 |.mk k name d body els,lv,n,m,h,a=>by
  rw [Qy]at a;split at a
  ·rename_i b;rw [Ah,Ah]at b;have h1:=Ai b.1.2;split at a
   ·cases a
   ·rename_i m1 e;have f:=dx d 1 (n+1) m1 h1 e;split at a
    ·cases a
    ·rename_i c q2;have g:=Yf body (lv+1) m1 c f.2 q2;have i:=Yf els (lv+1) c m g.2 a;rw [OE];omega
  ·cases a
theorem Yf:∀ (l:List Sm)(lv n m:Nat),n≤2000→K5 l lv n=some m→m=n+Jv l∧m≤2000
 |[],lv,n,m,b,a=>by rw [K5]at a;cases a;rw [Jv];omega
 |x::l,lv,n,m,b,a=>by
  rw [K5]at a;split at a
  ·cases a
  ·rename_i q c;have h1:=zj9 x lv n q b c;have d:=Yf l lv q m h1.2 a;rw [Jv];omega
end
theorem V9:∀ (l:List Pg.Fn)(n m:Nat),n≤2000→QA l n=some m→∀ f∈l,Rz f=true∧Wl f.body∧Jv f.body≤2000
 |[],n,m,c,a,f,b=>by cases b
 |g::l,n,m,c,a,f,b=>by
  rw [QA]at a;split at a
  ·rename_i e;split at a
   ·cases a
   ·rename_i q d;have h1:=Yf g.body 1 n q c d;rcases AH.1 b with rfl|b
    ·exact⟨e,⟨_,_,_,d⟩,by omega⟩
    ·exact V9 l q m h1.2 a f b
  ·cases a
def EN (w0:Y)(p:JQ)(f:Pg.Fn)(v:h):Prop:=∃ (b o k op num:Nat)(name:Bs)(A:Option Bi)(n c lp:Nat),v=AN #[Ae none,Ae (some ⟨b,o,none⟩),V Ad lp]∧
 (∀j u,([V Ad k,V Ad op,V Af num,Aa (str name),J A n c]:List h)[j]?= some u→w0.cell? ⟨b,o+j,none⟩=some u)∧Ri p f k name n=true∧1≤k∧k≤7
def SN (w0:Y)(p:JQ)(f:Pg.Fn)(v:h):Prop:=∃ (b o k:Nat)(name:Bs)(A:Option Bi)(n c:Nat)(a:Option Bi)(nb d:Nat)(C:Option Bi)(e g lp:Nat),v=AN #[Ae (some ⟨b,o,none⟩),Ae none,V Ad lp]∧
 (∀j u,([V Ad k,Aa (str name),J A n c,J a nb d,J C e g]:List h)[j]?= some u→w0.cell? ⟨b,o+j,none⟩=some u)∧PQ p f k name n lp=true∧1≤k∧k≤10
abbrev Nd (w0:Y)(p:JQ)(f:Pg.Fn):={v:h // EN w0 p f v∨SN w0 p f v}
def pW {w0:Y}{p:JQ}{f:Pg.Fn}(J a:List (Nd w0 p f)→Y→Prop)(N:Nat)(e:BX)(W:Y):Prop:=
 (e=Ak (AE true)∧∃ q,J q W∧q.length≤N∧Ext w0 W)∨(e=Ak (AE false)∧∃ q,a q W)
def zk0 {w0:Y}{p:JQ}{f:Pg.Fn}(F:IX)(l:Nat)(J b:List (Nd w0 p f)→Y→Prop)(N:Nat):Prop:=
 ∀m pre (x:Nd w0 p f) W,J pre W→pre.length<N→Ext w0 W→YieldAt F m prog l #[x.1] W fun e a=>
  (e=Ak (AE true)∧J (pre++[x]) a∧Ext w0 a)∨(e=Ak (AE false)∧b (pre++[x]) a)
def zk1 (w0:Y)(p:JQ)(f:Pg.Fn)(F:IX)(Lr:List Ex):Prop:=
 ∀(l N:Nat) (J a:List (Nd w0 p f)→Y→Prop) (U:Nat→Prop) (v:h) (n lp:Nat) (pre:List (Nd w0 p f)) (W:Y),zk0 F l J a N→Ju KE U w0 Lr v→Qf p f Lr=true→XJ Lr→Ext w0 W→J pre W→pre.length+Jz Lr≤N→
  CallsIn F n prog 231 #[v,V Ad lp,ER (.yield l) #[] #[]] W (pW J a (pre.length+Jz Lr))
theorem yv5 (w0:Y)(p:JQ)(f:Pg.Fn)(F:IX)(x5:F.depth=none)(hm:F.fn 231)(hn:F.round=none)(Lr:List Ex)(IH:∀ P,Aq P<Aq Lr→zk1 w0 p f F P):zk1 w0 p f F Lr:=by
 intro l N y z U v n lp pre W Q B a c R S T;have ho:=B;obtain⟨A,x6,xs,rfl,hp,X, -⟩:=ho;have hq:Lr.length≤9223372036854775807:=by unfold Bk at X;omega
 obtain⟨L,C⟩:=JH Lr.length;have hr:=D B;have Z:=D C;have hs:=D IH;have h0:=D Q;have h:=D a;have h2:=D c;have h3:=D T;have d:=D S;have j:=D R;rw [←C]at hq ⊢;clear B C IH hp X xs Q a c T S R;refine callsIn_of_wp func231 rfl hm ?_ hn
 simp only [ntmps231,Bz,Am,Av,Ff,Ia,EW,EX,FJ,E9,B9,BS]
 gi_wp2
 gi_loopw [10] (fun s h4=>∃ (i:Nat),s=V Ad i∧i≤L∧AA (∃q,y q h4∧q.length+Jz (Lr.drop i)≤pre.length+Jz Lr)∧AA (Qf p f (Lr.drop i)=true∧XJ (Lr.drop i))∧AA (Ext w0 h4)) (fun s _=>L - (AX s).toNat)
 case atStart=>exact⟨0,rfl,by omega,D ⟨pre,d.out,by simp⟩,D ⟨h.out,h2.out⟩,j⟩
 case round=>
  clear d h j h2;obtain⟨i,rfl,x7,d,h,j⟩:=hrel;by_cases ht:i<L
  ·obtain⟨x,t⟩:∃ x,Lr[i]?= some x:=⟨Lr[i]'(by rw [←Z.out];exact ht),Al _⟩
   have h5:Lr.drop i=x::Lr.drop (i+1):=by
    obtain⟨h1,h6⟩:=Ao.1 t;rw [AR h1,h6]
   obtain⟨q,u,m⟩:=d.out;obtain⟨a,c⟩:=h.out;rw [h5]at m a c;obtain⟨k,op,num,name,args⟩:=x;obtain⟨h7,h8,h9,ha⟩:=c.cons;rw [Qf,Ah,Zv,Ah]at a;rw [Jz,LY]at m;obtain⟨⟨hb,hc⟩,hd⟩:=a;obtain⟨b,o,x8,cs,he, -,hf,E⟩:=hr.out.elem t;have hg:Aq args<Aq Lr:=by
    have h1:=AD t;have h6:=BQ h1;have x9:Aq (Ex.mk k op num name args)=1+Aq k+Aq op+Aq num+Aq name+Aq args:=by simp
    omega
   have hh:=hf;rw [show KE.rep=OV from rfl,OZ]at hh;obtain⟨xa,rfl,G⟩:=hh;obtain⟨H,I,rfl⟩:=JB G;rw [←Z.out]at he;injection he with hu xb hv
   subst hu hv;obtain⟨r,hi⟩:∃ r:Nd w0 p f,r.1=AN #[Ae none,Ae (some ⟨b,o+i*5,none⟩),V Ad lp]:=⟨⟨AN #[Ae none,Ae (some ⟨b,o+i*5,none⟩),V Ad lp],AO ⟨b,o+i*5,k,op,num,name,H,_,I,lp,rfl,E,hb,h7,h8⟩⟩,rfl⟩;obtain⟨fn,tmps,assign,body,hy,hj⟩:=h0.out (n - 1) q r wr u (by have:=h3.out;omega) j.out;rw [hi]at hy;have K:=hj.mono (R':=fun e g=>(e=Ak (AE true)∧g.cell? ⟨b,o+i*5+4,none⟩=some (J H args.length I)∧AA (CallsIn F (n - 1) prog 231 #[J H args.length I,V Ad lp,ER (.yield l) #[] #[]] g (pW y z ((q++[r]).length+Jz args))))∨(e=Ak (AE false)∧z (q++[r]) g))
    (fun e g hw=>hw.elim (fun⟨hx,hz,w⟩=>AO ⟨hx,w.cell (E 4 _ rfl),D (hs.out args hg l N y z U _ (n - 1) lp _ g h0.out G hc h9 w hz (by have:=h3.out;simp only [M,Am,Av];omega))⟩) AB)
   have x0:=D m;have x1:=D (Ct hd ha);obtain⟨xc,hk⟩:=JH args.length;rw [←hk]at K;clear hk hj E G hf t h5 hb hc hd hg m u d h hi c h7 h8 h9 ha
   gi_wp2_with (first
    |((try refine⟨x2 _,?_⟩);refine K.mono ?_;clear K;rintro e g (⟨rfl,xd,hl⟩|⟨rfl,w⟩))
    |((try refine⟨x2 _,?_⟩);gi_at_call 231;refine hl.out.mono ?_;clear hl;rintro e xe (⟨rfl,q3,x3,x4,O⟩|⟨rfl,q3,O⟩)))
   ·go_roundw
    case rel=>exact⟨i+1,by go_num,by omega,D ⟨q3,x3,by have:=x0.out;simp only [M,Am,Av]at x4;omega⟩,x1,D O⟩
    case measure=>simp [AX];omega
   ·go_ret;exact AB ⟨rfl,q3,O⟩
   ·go_ret;exact AB ⟨rfl,_,w⟩
  ·have xf:i=L:=by omega
   obtain⟨q,u,m⟩:=d.out
   gi_wp2
   go_ret;exact AO ⟨rfl,q,u,by omega,j.out⟩
theorem zS0 (w0:Y)(p:JQ)(f:Pg.Fn)(F:IX)(a:F.depth=none)(b:F.fn 231)(c:F.round=none)(Lr:List Ex):zk1 w0 p f F Lr:=by
 obtain⟨N,g⟩:∃ N,Aq Lr<N:=⟨_,Dy _⟩
 induction N generalizing Lr with
 |zero=>omega
 |succ N d=>exact yv5 w0 p f F a b c Lr fun e h=>d e (by omega)
def SsY (w0:Y)(p:JQ)(f:Pg.Fn)(F:IX)(Lr:List Sm):Prop:=
 ∀(l N:Nat) (J a:List (Nd w0 p f)→Y→Prop) (U:Nat→Prop) (v:h) (n lp:Nat) (pre:List (Nd w0 p f)) (W:Y),zk0 F l J a N→Ju KS U w0 Lr v→ND p f Lr lp=true→Wl Lr→Ext w0 W→J pre W→pre.length+Jv Lr≤N→lp+Jv Lr≤100000→
  CallsIn F n prog 186 #[v,V Ad lp,ER (.yield l) #[] #[]] W (pW J a (pre.length+Jv Lr))
theorem ssY (w0:Y)(p:JQ)(f:Pg.Fn)(F:IX)(y3:F.depth=none)(y4:F.fn 231)(y5:F.fn 186)(x4:F.round=none)(Lr:List Sm)(IH:∀ x5,Aq x5<Aq Lr→SsY w0 p f F x5):SsY w0 p f F Lr:=by
 intro l N c m U v n lp pre W x6 hh E G x7 x8 x9 r;have y6:=hh;obtain⟨A,yn,xs,rfl,y7,xa, -⟩:=y6;have y8:Lr.length≤9223372036854775807:=by unfold Bk at xa;omega
 obtain⟨L,hi⟩:=JH Lr.length;have y9:=D hh;have xb:=D hi;have xc:=D IH;have h7:=D x6;have O:=D E;have xd:=D G;have t:=D x9;have H:=D x8;have P:=D x7;have Q:=D r;rw [←hi]at y8 ⊢;clear hh hi IH y7 xa xs x6 E G x9 x8 x7 r;refine callsIn_of_wp func186 rfl y5 ?_ x4
 simp only [ntmps186,Bz,Am,Av,Ff,Ia,EW,EX,FJ,E9,B9,BS]
 gi_wp2
 gi_loopw [12] (fun s xe=>∃ (i:Nat),s=V Ad i∧i≤L∧AA (∃q,c q xe∧q.length+Jv (Lr.drop i)≤pre.length+Jv Lr)∧AA (lp+Jv (Lr.drop i)≤100000)∧AA (ND p f (Lr.drop i) lp=true∧Wl (Lr.drop i))∧AA (Ext w0 xe)) (fun s _=>L - (AX s).toNat)
 case atStart=>exact⟨0,rfl,by omega,D ⟨pre,H.out,by simp⟩,Q,D ⟨O.out,xd.out⟩,P⟩
 case round=>
  clear H O P Q xd;obtain⟨i,rfl,yo,H,Q,O,P⟩:=hrel;by_cases ya:i<L
  ·obtain⟨x,g⟩:∃ x,Lr[i]?= some x:=⟨Lr[i]'(by rw [←xb.out];exact ya),Al _⟩
   have xf:Lr.drop i=x::Lr.drop (i+1):=by
    obtain⟨h1,xg⟩:=Ao.1 g;rw [AR h1,xg]
   obtain⟨q,h8,R⟩:=H.out;obtain⟨E,G⟩:=O.out;have r:=Q.out;rw [xf]at R E r G;obtain⟨k,name,I,body,els⟩:=x;obtain⟨xh,xi,xj,xk,xl,xm⟩:=G.cons;rw [ND,Ah,Zw,Ah,Ah,Ah]at E;rw [Jv,OE]at R r;obtain⟨⟨⟨⟨xn,xo⟩,hj⟩,hk⟩,xp⟩:=E;obtain⟨b,o,xq,cs,xr, -,xt,u⟩:=y9.out.elem g;have hl:Aq body<Aq Lr∧Aq els<Aq Lr:=by
    have h1:=AD g;have xg:=BQ h1;have yp:Aq (Sm.mk k name I body els)=1+Aq k+Aq name+Aq I+Aq body+Aq els:=by simp
    omega
   have xu:=xt;rw [show KS.rep=Q5 from rfl,Qk]at xu;obtain⟨yq,yr,ys,rfl,hm,hn,ho⟩:=xu;obtain⟨hp,hq,rfl⟩:=JB hm;obtain⟨hr,hs,rfl⟩:=JB hn;obtain⟨ht,hu,rfl⟩:=JB ho;rw [←xb.out]at xr;injection xr with yb yt yc
   subst yb yc;obtain⟨S,xv⟩:∃ S:Nd w0 p f,S.1=AN #[Ae (some ⟨b,o+i*5,none⟩),Ae none,V Ad lp]:=⟨⟨AN #[Ae (some ⟨b,o+i*5,none⟩),Ae none,V Ad lp],AB ⟨b,o+i*5,k,name,hp,_,hq,hr,_,hs,ht,_,hu,lp,rfl,u,xn,xh,xi⟩⟩,rfl⟩;obtain⟨fn,tmps,assign,yu,hy,xw⟩:=h7.out (n - 1) q S wr h8 (by have:=t.out;omega) P.out;rw [xv]at hy;obtain⟨w,h9⟩:=JH ((if k=4 then lp+1 else lp));rw [←h9]at hj hk;have yd:w≤lp+1:=by rw [h9];split<;>omega
   obtain⟨xx,ha⟩:=JH I.length;obtain⟨nb,hv⟩:=JH body.length;obtain⟨xy,hw⟩:=JH els.length;have hb:AA (∀a (q:List (Nd w0 p f)),c q a→Ext w0 a→q.length+Jz I≤N→CallsIn F (n - 1) prog 231 #[J hp xx hq,V Ad lp,ER (.yield l) #[] #[]] a (pW c m (q.length+Jz I))):=
    D (fun a q y g T=>by rw [ha];exact zS0 w0 p f F y3 y4 x4 I l N c m U _ (n - 1) lp q a h7.out hm xo xj g y T)
   have X:AA (∀a (q:List (Nd w0 p f)),c q a→Ext w0 a→q.length+Jv body≤N→CallsIn F (n - 1) prog 186 #[J hr nb hs,V Ad w,ER (.yield l) #[] #[]] a (pW c m (q.length+Jv body))):=
    D (fun a q y g T=>by rw [hv];exact xc.out body hl.1 l N c m U _ (n - 1) w q a h7.out hn hj xk g y T (by omega))
   have Z:AA (∀a (q:List (Nd w0 p f)),c q a→Ext w0 a→q.length+Jv els≤N→CallsIn F (n - 1) prog 186 #[J ht xy hu,V Ad w,ER (.yield l) #[] #[]] a (pW c m (q.length+Jv els))):=
    D (fun a q y g T=>by rw [hw];exact xc.out els hl.2 l N c m U _ (n - 1) w q a h7.out ho hk xl g y T (by omega))
   have hc:=xw.mono (R':=fun e a=>(e=Ak (AE true)∧a.cell? ⟨b,o+i*5+2,none⟩=some (J hp xx hq)∧AA (c (q++[S]) a)∧AA (Ext w0 a))∨(e=Ak (AE false)∧m (q++[S]) a))
    (fun e a ye=>ye.elim (fun⟨yf,y,K⟩=>AO ⟨yf,by rw [ha];exact K.cell (u 2 _ rfl),D y,D K⟩) AB)
   have j:=D R;have xz:=D r;have y0:=D (Ct xp xm);rw [←ha,←hv,←hw]at u;have hd:AA (w0.cell? ⟨b,o+i*5,none⟩=some (V Ad k)):=D (u 0 _ rfl);have y1:AA (w0.cell? ⟨b,o+i*5+3,none⟩=some (J hr nb hs)):=D (u 3 _ rfl);have y2:AA (w0.cell? ⟨b,o+i*5+4,none⟩=some (J ht xy hu)):=D (u 4 _ rfl);have he:=D h9;have yv:Ad.wrap ((lp:Int)+1)=(lp:Int)+1:=AU _ (by omega);clear ha hv hw xw u hm hn ho xt g xf xn xo hj hk xp hl R r h8 H O Q xv h9 yd G xh xi xj xk xl xm;by_cases hf:k=4
   ·have hg:(w:Int)=(lp:Int)+1:=by have:=he.out;rw [if_pos hf]at this;omega
    subst hf;rw [hg]at X Z;have hd:AA (w0.cell? ⟨b,o+i*5,none⟩=some (V Ad 4)):=hd;clear he hg
    gi_wp2_with (first
     |((try refine⟨z _,?_⟩);refine hc.mono ?_;clear hc;rintro e a (⟨rfl,xq,h0,hx⟩|⟨rfl,K⟩))
     |((try refine⟨z _,?_⟩);gi_at_call 231;refine(hb.out _ _ h0.out hx.out (by have:=t.out;have:=j.out;simp only [M,Am,Av];omega)).mono ?_;clear hb;rintro e yg (⟨rfl,q3,h2,h3,d⟩|⟨rfl,q3,d⟩);(try have yh:=d.cell hd.out);(try have yi:=d.cell y1.out);(try have hz:=D h2);(try have x0:=D d);(try have B:=D h3);(try clear h2 h3 h0))
     |((try refine⟨z _,?_⟩);gi_at_call 186;refine(X.out _ _ hz.out x0.out (by have:=t.out;have:=j.out;have:=B.out;simp only [M,Am,Av]at this;omega)).mono ?_;clear X;rintro e yj (⟨rfl,q4,h4,h5,h⟩|⟨rfl,q4,h⟩);(try have yk:=h.cell y2.out);(try have x1:=D h4);(try have x2:=D h);(try have h6:=D h5);(try clear h4 h5))
     |((try refine⟨z _,?_⟩);gi_at_call 186;refine(Z.out _ _ x1.out x2.out (by have:=t.out;have:=j.out;have:=B.out;have:=h6.out;simp only [M,Am,Av]at*;omega)).mono ?_;clear Z;rintro e yl (⟨rfl,q5,x3,ym,C⟩|⟨rfl,q5,C⟩)))
    ·go_roundw
     case rel=>exact⟨i+1,by go_num,by omega,D ⟨q5,x3,by have:=j.out;have:=B.out;have:=h6.out;simp only [M,Am,Av]at*;omega⟩,D (by have:=xz.out;omega),y0,D C⟩
     case measure=>simp [AX];omega
    ·go_ret;exact AB ⟨rfl,_,C⟩
    ·go_ret;exact AB ⟨rfl,_,h⟩
    ·go_ret;exact AB ⟨rfl,_,d⟩
    ·go_ret;exact AB ⟨rfl,_,K⟩
   ·have hg:w=lp:=by have:=he.out;rw [if_neg hf]at this;exact this
    have yw:((k:Int)==4)=false:=by simp;omega
    subst hg;clear he hf
    gi_wp2_with (first
     |((try refine⟨z _,?_⟩);refine hc.mono ?_;clear hc;rintro e a (⟨rfl,xq,h0,hx⟩|⟨rfl,K⟩))
     |((try refine⟨z _,?_⟩);gi_at_call 231;refine(hb.out _ _ h0.out hx.out (by have:=t.out;have:=j.out;simp only [M,Am,Av];omega)).mono ?_;clear hb;rintro e yg (⟨rfl,q3,h2,h3,d⟩|⟨rfl,q3,d⟩);(try have yh:=d.cell hd.out);(try have yi:=d.cell y1.out);(try have hz:=D h2);(try have x0:=D d);(try have B:=D h3);(try clear h2 h3 h0))
     |((try refine⟨z _,?_⟩);gi_at_call 186;refine(X.out _ _ hz.out x0.out (by have:=t.out;have:=j.out;have:=B.out;simp only [M,Am,Av]at this;omega)).mono ?_;clear X;rintro e yj (⟨rfl,q4,h4,h5,h⟩|⟨rfl,q4,h⟩);(try have yk:=h.cell y2.out);(try have x1:=D h4);(try have x2:=D h);(try have h6:=D h5);(try clear h4 h5))
     |((try refine⟨z _,?_⟩);gi_at_call 186;refine(Z.out _ _ x1.out x2.out (by have:=t.out;have:=j.out;have:=B.out;have:=h6.out;simp only [M,Am,Av]at*;omega)).mono ?_;clear Z;rintro e yl (⟨rfl,q5,x3,ym,C⟩|⟨rfl,q5,C⟩)))
    ·go_roundw
     case rel=>exact⟨i+1,by go_num,by omega,D ⟨q5,x3,by have:=j.out;have:=B.out;have:=h6.out;simp only [M,Am,Av]at*;omega⟩,D (by have:=xz.out;omega),y0,D C⟩
     case measure=>simp [AX];omega
    ·go_ret;exact AB ⟨rfl,_,C⟩
    ·go_ret;exact AB ⟨rfl,_,h⟩
    ·go_ret;exact AB ⟨rfl,_,d⟩
    ·go_ret;exact AB ⟨rfl,_,K⟩
  ·have yx:i=L:=by omega
   obtain⟨q,h8,R⟩:=H.out
   gi_wp2
   go_ret;exact AO ⟨rfl,q,h8,by omega,P.out⟩
theorem zk7 (w0:Y)(p:JQ)(f:Pg.Fn)(F:IX)(a:F.depth=none)(b:F.fn 231)(c:F.fn 186)(d:F.round=none)(Lr:List Sm):SsY w0 p f F Lr:=by
 obtain⟨N,h⟩:∃ N,Aq Lr<N:=⟨_,Dy _⟩
 induction N generalizing Lr with
 |zero=>omega
 |succ N e=>exact ssY w0 p f F a b c d Lr fun g i=>e g (by omega)
end
end Go.Proofs.YtmkomefmgcpnbaaGreatDoor

import Derived.Test.YtmkomefmgcpnbaaGreatDoorMg16
set_option linter.all false
set_option maxHeartbeats 12800000
set_option maxRecDepth 100000
namespace Go.Proofs.YtmkomefmgcpnbaaGreatDoor
open Tryz Go Go.Proofs Go.RowKit Pg Go.Shelf
open Go renaming Addr→Bi,Calls→As,Value→h,World→Y,heap_alloc2_new→Ay,heap_alloc_new→Aj,run_makeMap_plain→DF,setRow_other→C7,Fence→IX,heap_alloc2_old→AP,maxLen→Bk,Act→CY,Exit→EY,Operand→CC,Oper→B5,Program→BR,TypeDesc→DK,TypeId→AK,execOp→CS,Deferred→GX,Ending→BX,callsIn_wide→FM,results_cell_row→FZ,undef→Ca
open Go.Ending renaming returned→Ak
open Go.IntKind renaming i64→Ad,u32→Af
open Go.Proofs.Tryz renaming func187→Co,ntmps187→Cd,results187→BU,underlying301→Bn,underlying109→Bg,underlying112→Bm,underlying240→Dz,underlying9→A8,func189→IF,ntmps189→Ib,results188→IY,underlying297→Ew,underlying247→Hi,underlying26→Bd,underlying34→Bu,underlying56→Cw
open Go.Value renaming agg→AN,int→V,pointer→Ae,slice→J,string→Aa,map→Bj,bool→AE,tuple→AZ,func→ER
open Go.World renaming block_lt_of_cell?→Bp,ownsRow_nil→CQ,size_alloc→E3
open _root_.Array renaming getElem?_eq_some_iff→Ag,replicate_succ→EW,replicate_zero→EX
open Go.Lib renaming hid→D
open Go.Obj renaming cells→Ab,map→Eu
open Go.Proofs renaming intOf→AX,enters_of→F8
open Go.RowKit renaming Hid→AA,Below→IL
open Go.RowKit.Below renaming grown→Hu,heap_alloc→Ig,heap_setCell→AY,mono→Jq,refl→GP
open _root_.List renaming getElem?_eq_getElem→Al,getElem?_eq_some_iff→Ao,length_append→M,length_cons→Am,length_map→AI,length_nil→Av,length_take→BD,map_append→Dv,take_add_one→BB,take_length→BN,append_toArray→E9,cons_append→BS,nil_append→B9,push_toArray→FJ,size_toArray→Bz,all_eq_true→A7,drop_eq_getElem_cons→AR,getElem?_append_left→Ce,getElem?_append_right→Cs,getElem?_map→Bh,isEmpty_iff→CL,mem_cons_self→Bb,mem_cons→AH,mem_of_getElem?→AD,not_mem_nil→Ba,take_append_drop→C6,mem_cons_of_mem→DE,nodup_cons→IZ
open _root_.Nat renaming le_of_lt→Ev,min_eq_left→CJ,beq→Az,eq_of_beq_eq_true→Ap,reduceAdd→Ff,reduceSub→Ia,le_succ→CA,le_of_ble_eq_true→Ai,le_refl→Aw,le_trans→AL,lt_of_lt_of_le→Ar,zero_add→BF
open _root_.Bool renaming and_eq_true→Ah,eq_false_iff→AJ,not_eq_true'→Dl
open _root_.Or renaming inl→AO,inr→AB
open Go.Instr renaming makeFunc→Hh,loadAt→Ir,sureAddr→GQ
open Go.Oper renaming semAt_some→Gu
open Go.Result renaming ok→Ez,andThen_ok→C3
open Go.Op renaming load→IK
open Go.Sem renaming run_bind→Di,run_pure→D3
open Go.TypeDesc renaming array→DX,struct→DA
open _root_.And renaming intro→Ct
def Y7 (k n:Nat):Nat×Nat:=if k=2 then(2,0)else if k=3 then(3,0)else if k=4 then(4,n)else(0,0)
def Y8 (k n:Nat):Nat×Nat:=if k=1 then(1,0)else if k=2 then(3,0)else if k=5 then(4,n)else(0,0)
theorem NS:(prog.info? 301).map (·.size)=some 3:=by kernel_rfl
theorem yd3 (b o k op num n c lp:Nat)(s:ByteArray)(A:Option Bi)(w:Y)(f:1≤k)(g:k≤7)
 (hc:∀ j u,([V Ad k,V Ad op,V Af num,Aa s,J A n c]:List h)[j]?= some u→w.cell? ⟨b,o+j,none⟩=some u):
 As prog 187 #[AN #[Ae none,Ae (some ⟨b,o,none⟩),V Ad lp]] w fun e w'=>(∃nm:ByteArray,e=Ak (AN #[Aa nm,V Ad ((Y7 k n).1:Nat),V Ad ((Y7 k n).2:Nat)])∧((Y7 k n).1≠0→nm=s))∧Ext w w':=by
 have d:w.cell? ⟨b,o,none⟩=some (V Ad k):=hc 0 _ rfl;have i:w.cell? ⟨b,o+3,none⟩=some (Aa s):=hc 3 _ rfl;have l:w.cell? ⟨b,o+4,none⟩=some (J A n c):=hc 4 _ rfl;have m:=Bp w ⟨b,o,none⟩ d;clear hc;rcases(show k=1∨k=2∨k=3∨k=4∨k=5∨k=6∨k=7 by omega)with rfl|rfl|rfl|rfl|rfl|rfl|rfl
 ·go_enter Co,Cd;go_wp2;refine K3 BU Bn NS (Ay w _ _) ?_
  exact⟨⟨_,rfl,fun a=>absurd rfl a⟩,((Ext.refl w).alloc _).alloc _⟩
 ·go_enter Co,Cd;go_wp2;refine K3 BU Bn NS (Ay w _ _) ?_
  exact⟨⟨_,rfl,fun a=>rfl⟩,((Ext.refl w).alloc _).alloc _⟩
 ·go_enter Co,Cd;go_wp2;refine K3 BU Bn NS (Ay w _ _) ?_
  exact⟨⟨_,rfl,fun a=>rfl⟩,((Ext.refl w).alloc _).alloc _⟩
 ·go_enter Co,Cd;go_wp2
  go_region
  go_wp2;refine K3 BU Bn NS (Ay w _ _) ?_
  exact⟨⟨_,rfl,fun a=>rfl⟩,(((Ext.refl w).alloc _).alloc _).drew⟩
 ·go_enter Co,Cd;go_wp2;refine K3 BU Bn NS (Ay w _ _) ?_
  exact⟨⟨_,rfl,fun a=>absurd rfl a⟩,((Ext.refl w).alloc _).alloc _⟩
 ·go_enter Co,Cd;go_wp2;refine K3 BU Bn NS (Ay w _ _) ?_
  exact⟨⟨_,rfl,fun a=>absurd rfl a⟩,((Ext.refl w).alloc _).alloc _⟩
 ·go_enter Co,Cd;go_wp2;refine K3 BU Bn NS (Ay w _ _) ?_
  exact⟨⟨_,rfl,fun a=>absurd rfl a⟩,((Ext.refl w).alloc _).alloc _⟩
theorem yd4 (b o k n c nb d f g lp:Nat)(s:ByteArray)(A i C:Option Bi)(w:Y)(m:1≤k)(p:k≤10)
 (hc:∀ j u,([V Ad k,Aa s,J A n c,J i nb d,J C f g]:List h)[j]?= some u→w.cell? ⟨b,o+j,none⟩=some u):
 As prog 187 #[AN #[Ae (some ⟨b,o,none⟩),Ae none,V Ad lp]] w fun e w'=>(∃nm:ByteArray,e=Ak (AN #[Aa nm,V Ad ((Y8 k n).1:Nat),V Ad ((Y8 k n).2:Nat)])∧((Y8 k n).1≠0→nm=s))∧Ext w w':=by
 have l:w.cell? ⟨b,o,none⟩=some (V Ad k):=hc 0 _ rfl;have q:w.cell? ⟨b,o+1,none⟩=some (Aa s):=hc 1 _ rfl;have r:w.cell? ⟨b,o+2,none⟩=some (J A n c):=hc 2 _ rfl;have t:=Bp w ⟨b,o,none⟩ l;clear hc;rcases(show k=1∨k=2∨k=3∨k=4∨k=5∨k=6∨k=7∨k=8∨k=9∨k=10 by omega)with rfl|rfl|rfl|rfl|rfl|rfl|rfl|rfl|rfl|rfl
 ·go_enter Co,Cd;go_wp2;refine K3 BU Bn NS (Ay w _ _) ?_
  exact⟨⟨_,rfl,fun a=>rfl⟩,(((Ext.refl w).alloc _).alloc _)⟩
 ·go_enter Co,Cd;go_wp2;refine K3 BU Bn NS (Ay w _ _) ?_
  exact⟨⟨_,rfl,fun a=>rfl⟩,(((Ext.refl w).alloc _).alloc _)⟩
 ·go_enter Co,Cd;go_wp2;refine K3 BU Bn NS (Ay w _ _) ?_
  exact⟨⟨_,rfl,fun a=>absurd rfl a⟩,(((Ext.refl w).alloc _).alloc _)⟩
 ·go_enter Co,Cd;go_wp2;refine K3 BU Bn NS (Ay w _ _) ?_
  exact⟨⟨_,rfl,fun a=>absurd rfl a⟩,(((Ext.refl w).alloc _).alloc _)⟩
 ·go_enter Co,Cd;go_wp2
  go_region
  go_wp2;refine K3 BU Bn NS (Ay w _ _) ?_
  exact⟨⟨_,rfl,fun a=>rfl⟩,(((Ext.refl w).alloc _).alloc _).drew⟩
 ·go_enter Co,Cd;go_wp2;refine K3 BU Bn NS (Ay w _ _) ?_
  exact⟨⟨_,rfl,fun a=>absurd rfl a⟩,(((Ext.refl w).alloc _).alloc _)⟩
 ·go_enter Co,Cd;go_wp2;refine K3 BU Bn NS (Ay w _ _) ?_
  exact⟨⟨_,rfl,fun a=>absurd rfl a⟩,(((Ext.refl w).alloc _).alloc _)⟩
 ·go_enter Co,Cd;go_wp2;refine K3 BU Bn NS (Ay w _ _) ?_
  exact⟨⟨_,rfl,fun a=>absurd rfl a⟩,(((Ext.refl w).alloc _).alloc _)⟩
 ·go_enter Co,Cd;go_wp2;refine K3 BU Bn NS (Ay w _ _) ?_
  exact⟨⟨_,rfl,fun a=>absurd rfl a⟩,(((Ext.refl w).alloc _).alloc _)⟩
 ·go_enter Co,Cd;go_wp2;refine K3 BU Bn NS (Ay w _ _) ?_
  exact⟨⟨_,rfl,fun a=>absurd rfl a⟩,(((Ext.refl w).alloc _).alloc _)⟩
theorem R9 (s x:Bs)(l:List Bs):LK s (x::l) 0=if LJ x s then some 0 else(LK s l 0).map (· +1):=by
 rw [LK];have:=VR s l 0 1;rw [this]
theorem PI (s x:Bs)(l:List Bs):JR s (l++[x])=if x=s then some l.length else JR s l:=by
 unfold JR;rw [List.reverse_append,List.reverse_singleton,List.singleton_append,R9];by_cases a:x=s
 ·rw [if_pos ((Ko _ _).2 a),if_pos a];simp
 ·rw [if_neg (fun q=>a ((Ko _ _).1 q)),if_neg a,Option.map_map];congr 1;funext i;simp only [Function.comp,M,Am,Av];omega
def vG (p:JQ)(i:Nat)(z:ByteArray):Option h:=(JR (bs z) ((p.globals.take i).map KJ.name)).map fun k=>AN #[V Ad 3,V Ad (k:Nat)]
def vF (p:JQ)(i:Nat)(z:ByteArray):Option h:=match JR (bs z) ((p.JY.take i).map Pg.Fn.name)with
 |some k=>some (AN #[V Ad 4,V Ad (k:Nat)])
 |none=>vG p p.globals.length z
theorem zm9 (p:JQ)(i:Nat)(g:KJ)(b:p.globals[i]?= some g)(z:ByteArray):vG p (i+1) z=if z=str g.name then some (AN #[V Ad 3,V Ad (i:Nat)])else vG p i z:=by
 have c:=(Ao.1 b).1;unfold vG;rw [BB,b,Dv];show(JR (bs z) (_++[g.name])).map _=_
 rw [PI];by_cases a:z=str g.name
 ·rw [if_pos a,if_pos (by rw [a,L6]),AI,BD,CJ (Ev c)];rfl
 ·rw [if_neg a,if_neg (fun q=>a (by rw [q,VD]))]
theorem zn0 (p:JQ)(i:Nat)(g:Pg.Fn)(b:p.JY[i]?= some g)(z:ByteArray):vF p (i+1) z=if z=str g.name then some (AN #[V Ad 4,V Ad (i:Nat)])else vF p i z:=by
 have c:=(Ao.1 b).1;unfold vF;rw [BB,b,Dv];show(match JR (bs z) (_++[g.name])with|some k=>_|none=>_)=_
 rw [PI];by_cases a:z=str g.name
 ·rw [if_pos a,if_pos (by rw [a,L6]),AI,BD,CJ (Ev c)]
 ·rw [if_neg a,if_neg (fun q=>a (by rw [q,VD]))]
theorem mtM:MT KQ 238 9 297 (AN #[V Ad 0,V Ad 0]) where
 t:=underlying238
 k:=A8
 z:=fun w=>by kernel_rfl
structure oH (w wx:Y) (b0 b1 b3:Nat) (P Z N:Array h) (gB:Nat) (val:ByteArray→Option h):Prop where
 x:Ext w wx
 h0:wx.heap[b0]?= some (Ab P 56 (0,0))
 h1:wx.heap[b1]?= some (Ab Z 240 (0,0))
 h3:wx.heap[b3]?= some (Ab N 240 (0,0))
 m:MapAt KQ wx gB val
theorem oH.ext {w c d:Y}{e f g b:Nat}{P Z N:Array h}{val:ByteArray→Option h}(a:oH w c e f g P Z N b val)(x:Ext c d):oH w d e f g P Z N b val:=
 ⟨a.x.trans x,CE x a.h0,CE x a.h1,CE x a.h3,MapAt.keep KQ a.m (x.block b (MapAt.lt KQ a.m))⟩
theorem oH.map {w i j:Y}{d f g b:Nat}{P Z N:Array h}{val l:ByteArray→Option h}{n:ByteArray}{v:h}(a:oH w i d f g P Z N b val)(m:Ur KQ i j b val n v)(o:w.heap.size≤b)(p:d≠b)(h1:f≠b)(q:g≠b)(r:∀ z,l z=if z=n then some v else val z):oH w j d f g P Z N b l:=
 ⟨Hu a.x m.grown a.x.size (fun k e=>by cases e;exact o),by rw [m.grown.block d (Ag.1 a.h0).1 (fun e=>p (by injection e))];exact a.h0,by rw [m.grown.block f (Ag.1 a.h1).1 (fun e=>h1 (by injection e))];exact a.h1,by rw [m.grown.block g (Ag.1 a.h3).1 (fun e=>q (by injection e))];exact a.h3,by
  obtain⟨s,c,h1,t⟩:=m.at_
  exact⟨s,c,h1,fun z=>by rw [t,r]⟩⟩
theorem QZ:(prog.info? 240).map (·.size)=some 3:=by kernel_rfl
theorem yF0 (p:JQ)(U:Nat→Prop)(G F:h)(w:Y)(I:Ju KG U w p.globals G)(L:Ju KF U w p.JY F)(hd:p.globals.length≤64)(he:p.JY.length≤64):
 As prog 139 #[AN #[G,F]] w fun e w'=>∃ d:Nat,w.heap.size≤d∧e=Ak (AN #[G,F,Bj (some d)])∧MapAt KQ w' d (vF p p.JY.length)∧Ext w w':=by
 obtain⟨f,g,rfl⟩:=JB I;obtain⟨k,l,rfl⟩:=JB L;obtain⟨n,M⟩:=JH p.globals.length;obtain⟨a,N⟩:=JH p.JY.length;have O:=D M;have h9:=D N;have ha:=D I;have hf:=D L;rw [←M]at hd ⊢;rw [←N]at he ⊢;clear M N I L;go_enter func139,ntmps139;have hg:= @DF prog;go_upto_region 2 with fail;have y:AA (oH w ((((w.alloc (Ab #[J f n g,J k a l] 56)).alloc (Ab #[J none 0 0,J none 0 0,Bj none] 240)).alloc (Eu #[] 0)).alloc (Ab #[J f n g,J k a l,Bj (some (w.heap.size+1+1))] 240)) w.heap.size (w.heap.size+1) (w.heap.size+1+1+1) #[J f n g,J k a l] #[J none 0 0,J none 0 0,Bj none] #[J f n g,J k a l,Bj (some (w.heap.size+1+1))] (w.heap.size+1+1) (vG p 0)):=D (by
  have E:∀ o,(w.alloc o).heap.size=w.heap.size+1:=fun o=>by simp
  refine⟨(((((Ext.refl w).alloc _).alloc _).alloc _).alloc _),?_,?_,?_,?_⟩
  ·exact CE ((((Ext.refl _).alloc _).alloc _).alloc _) (Aj w _)
  ·refine CE (((Ext.refl _).alloc _).alloc _) ?_
   have:=Aj (w.alloc (Ab #[J f n g,J k a l] 56)) (Ab #[J none 0 0,J none 0 0,Bj none] 240)
   simpa using this
  ·have:=Aj (((w.alloc (Ab #[J f n g,J k a l] 56)).alloc (Ab #[J none 0 0,J none 0 0,Bj none] 240)).alloc (Eu #[] 0)) (Ab #[J f n g,J k a l,Bj (some (w.heap.size+1+1))] 240)
   simpa using this
  ·have:=Ti (K:=KQ) ((w.alloc (Ab #[J f n g,J k a l] 56)).alloc (Ab #[J none 0 0,J none 0 0,Bj none] 240))
   obtain⟨hh,c,hi,hj⟩:=this
   refine⟨hh,c,CE ((Ext.refl _).alloc _) ?_,fun z=>?_⟩
   ·simpa using hi
   ·rw [hj];rfl)
 obtain⟨d,P⟩:=JH (w.heap.size+1+1);obtain⟨B,Q⟩:=JH (w.heap.size+1);obtain⟨A,R⟩:=JH (w.heap.size+1+1+1);have t:AA (w.heap.size≤d∧w.heap.size≠d∧B≠d∧A≠d∧w.heap.size≤B):=D (by omega);rw [←R,←P,←Q]at y;rw [←R,←P,←Q];generalize((((w.alloc (Ab #[J f n g,J k a l] 56)).alloc (Ab #[J none 0 0,J none 0 0,Bj none] 240)).alloc (Eu #[] 0)).alloc (Ab #[J f n g,J k a l,Bj (some d)] 240))=W0 at y ⊢;obtain⟨S,T⟩:=JH w.heap.size;rw [←T]at y t ⊢;have H:=D T;clear P Q R T hg;have hk:=bk y.h0 0;go_wp2;go_loopw [14] (fun W X=>∃ i:Nat,W=V Ad i∧i≤n∧AA (oH w X S B A #[J f n g,J k a l] #[J none 0 0,J none 0 0,Bj none] #[J f n g,J k a l,Bj (some d)] d (vG p i))) (fun s _=>n - (AX s).toNat)
 case atStart=>exact⟨0,rfl,by omega,y⟩
 case round=>
  obtain⟨i,rfl,hx,r⟩:=hrel;by_cases Z:i<n
  ·obtain⟨x,u⟩:∃ x,p.globals[i]?= some x:=⟨_,Al (show i<p.globals.length by rw [←O];exact Z)⟩
   obtain⟨b,o,hl,cs,C, -,h2,v⟩:=(ha.ext r.x).elem u;obtain⟨hy,rfl,hm⟩:=h2;obtain⟨hz,x0,rfl⟩:=JB hm;rw [←O]at C;injection C with E hn h4
   subst E h4;have h5:=D v;have ho:b<wr.heap.size:=Bp wr _ (v 0 _ rfl);have h6:=D (zm9 p i x u);have h7:=bk r.h3 2;have hp:A<wr.heap.size:=Bp wr _ h7;clear v u;go_wp2_with (first|refine KV rfl Bm rfl h5 Oe ?_|(refine TA mtM rfl _ _ _ rfl d _ (r.ext ((Ext.refl wr).alloc _)).m rfl (str x.name) rfl _ rfl ?_;intro hq h8));go_roundw
   case rel=>exact⟨i+1,by go_num,by omega,D ((r.ext ((Ext.refl wr).alloc _)).map h8 (by have:=t.out;have:=H.out;omega) t.2.1 t.2.2.1 t.2.2.2.1 h6.out)⟩
   case measure=>simp [AX];omega
  ·have hr:i=n:=by omega
   subst hr;have hb:AA (oH w wr S B A #[J f i g,J k a l] #[J none 0 0,J none 0 0,Bj none] #[J f i g,J k a l,Bj (some d)] d (vF p 0)):=D (by
    have:=r.out
    rw [O]at this ⊢
    exact this)
   have x1:=bk hb.h0 1;clear r y hk ha;go_wp2;go_loopw [29] (fun W X=>∃ j:Nat,W=V Ad j∧j≤a∧AA (oH w X S B A #[J f i g,J k a l] #[J none 0 0,J none 0 0,Bj none] #[J f i g,J k a l,Bj (some d)] d (vF p j))) (fun s _=>a - (AX s).toNat)
   case atStart=>exact⟨0,rfl,by omega,hb⟩
   case round=>
    obtain⟨j,rfl,x2,r⟩:=hrel;by_cases Z:j<a
    ·obtain⟨x,u⟩:∃ x,p.JY[j]?= some x:=⟨_,Al (show j<p.JY.length by rw [←h9];exact Z)⟩
     obtain⟨b,o,hl,cs,C, -,h2,v⟩:=(hf.ext r.x).elem u;obtain⟨x3,x4,x5,rfl,hs,ht,hu⟩:=h2;obtain⟨PA,x6,rfl⟩:=JB hs;obtain⟨x7,x8,rfl⟩:=JB ht;obtain⟨x9,xa,rfl⟩:=JB hu;rw [←h9]at C;injection C with E hn h4
     subst E h4;have h5:=D v;have ho:b<wr.heap.size:=Bp wr _ (v 0 _ rfl);have h6:=D (zn0 p j x u);have h7:=bk r.h3 2;have hp:A<wr.heap.size:=Bp wr _ h7;clear v u;go_wp2_with (first|refine KV rfl Bg rfl h5 Nb ?_|(refine TA mtM rfl _ _ _ rfl d _ (r.ext ((Ext.refl wr).alloc _)).m rfl (str x.name) rfl _ rfl ?_;intro hq h8));go_roundw
     case rel=>exact⟨j+1,by go_num,by omega,D ((r.ext ((Ext.refl wr).alloc _)).map h8 (by have:=t.out;have:=H.out;omega) t.2.1 t.2.2.1 t.2.2.2.1 h6.out)⟩
     case measure=>simp [AX];omega
    ·have hv:j=a:=by omega
     subst hv;have hw:=r.h3;have hc:=r.h1;go_wp2_with (first|refine LH rfl Dz rfl hw QZ ?_|refine L8 rfl rfl rfl hc QZ ?_);refine K3 results139 Dz QZ (PO hc) ?_
     refine⟨d,by have:=t.out;have:=H.out;omega,rfl,?_,r.x.setRow (by have:=t.out;have:=H.out;omega) _⟩;refine MapAt.keep KQ r.m ?_
     exact C7 _ _ _ _ (fun q=>t.2.2.1 q.symm)
def oI (p:JQ)(f:Pg.Fn)(s:Bs):Option (Nat×Nat):=match MG s f.params with
 |some i=>some (1,i)
 |none=>match MG s f.JE with
  |some i=>some (2,i)
  |none=>match JR s (p.JY.map Pg.Fn.name)with
   |some i=>some (4,i)
   |none=>(JR s (p.globals.map KJ.name)).map fun i=>(3,i)
theorem yF1 {p:JQ}{f:Pg.Fn}{s:Bs}{k i:Nat}(a:oI p f s=some (k,i))(h1:MG s f.params=none)(g:MG s f.JE=none):vF p p.JY.length (str s)=some (AN #[V Ad (k:Nat),V Ad (i:Nat)]):=by
 unfold oI at a;rw [h1,g]at a;unfold vF vG;rw [L6,BN,BN];cases d:JR s (p.JY.map Pg.Fn.name)with
 |some j=>rw [d]at a;injection a with a;injection a with b c;subst b c;rfl
 |none=>
  rw [d]at a;cases e:JR s (p.globals.map KJ.name)with
  |none=>rw [e]at a;cases a
  |some j=>rw [e]at a;injection a with a;injection a with b c;subst b c;rfl
theorem bE:(prog.info? 297).map (·.size)=some 2:=by kernel_rfl
theorem Nj (w:Y)(a b c:Obj):(((w.alloc a).alloc b).alloc c).heap[w.heap.size+1+1]?= some c:=by
 have:=Aj ((w.alloc a).alloc b) c;simpa using this
theorem SE (w:Y)(a b c:Obj):Ext w (((w.alloc a).alloc b).alloc c):=(((Ext.refl w).alloc _).alloc _).alloc _
theorem kX (p:JQ)(f:Pg.Fn)(s:Bs)(k i:Nat)(U:Nat→Prop)(m n PA d o:Option Bi)(gl q r t g h u v c:Nat)(fn:ByteArray)(w:Y)(I:MapAt KQ w c (vF p p.JY.length))
 (K:Ju Qs U w f.params (J PA f.params.length g)) (L:Ju Qs U w f.JE (J d f.JE.length h)) (O:f.params.length≤6) (P:f.JE.length≤12) (a:oI p f s=some (k,i)):
 As prog 188 #[AN #[J m gl q,J n r t,Bj (some c)],AN #[Aa fn,J PA f.params.length g,J d f.JE.length h,J o u v],Aa (str s)] w fun e w'=>
  e=Ak (AZ #[AN #[V Ad (k:Nat),V Ad (i:Nat)],AE true])∧Ext w w':=by
 have b:=D (fun W (x:Ext w W)=>vz PA g f.params s W (by omega) ((Q7 K).ext x));have l:=D (fun W (x:Ext w W)=>vz d h f.JE s W (by omega) ((Q7 L).ext x));have C:=D I;obtain⟨np,M⟩:=JH f.params.length;obtain⟨z,N⟩:=JH f.JE.length;rw [←M]at b ⊢;rw [←N]at l ⊢;clear I K L O P M N;cases h1:MG s f.params with
 |some j=>
  unfold qD at b;rw [h1]at b;unfold oI at a;rw [h1]at a;injection a with a
  injection a with E F
  subst E F;clear l C h1;have y:=D (b _ (SE w (Ab #[J m gl q,J n r t,Bj (some c)] 240) (Ab #[Aa fn,J PA np g,J d z h,J o u v] 109) (Ab #[V Ad 0,V Ad 0] 297)));go_enter func188,ntmps188;go_wp2_with (go_at_call 158;refine y.mono ?_;rintro e w' ⟨rfl,rfl⟩);refine Ow IY Ew bE (Nj _ _ _ _) ?_
  exact⟨rfl,SE _ _ _ _⟩
 |none=>
  cases B:MG s f.JE with
  |some j=>
   unfold qD at b l;rw [h1]at b;rw [B]at l;unfold oI at a;rw [h1,B]at a;injection a with a
   injection a with E F
   subst E F;clear C h1 B;have y:=D (b _ (SE w (Ab #[J m gl q,J n r t,Bj (some c)] 240) (Ab #[Aa fn,J PA np g,J d z h,J o u v] 109) (Ab #[V Ad 0,V Ad 0] 297)));have G:=D (l _ (SE w (Ab #[J m gl q,J n r t,Bj (some c)] 240) (Ab #[Aa fn,J PA np g,J d z h,J o u v] 109) (Ab #[V Ad 0,V Ad 0] 297)));go_enter func188,ntmps188;go_wp2_with (first|(go_at_call 158;refine y.mono ?_;clear y;rintro e w' ⟨rfl,rfl⟩)|(go_at_call 158;refine G.mono ?_;rintro e w' ⟨rfl,rfl⟩));refine Ow IY Ew bE (Nj _ _ _ _) ?_
   exact⟨rfl,SE _ _ _ _⟩
  |none=>
   have H:=yF1 a h1 B;unfold qD at b l;rw [h1]at b;rw [B]at l;clear h1 B a;have Q:AA ((vF p p.JY.length (str s)).getD (AN #[V Ad 0,V Ad 0])=AN #[V Ad (k:Nat),V Ad (i:Nat)]):=D (by rw [H];rfl);have R:AA ((vF p p.JY.length (str s)).isSome=true):=D (by rw [H];rfl);have S:=D (MapAt.keep KQ C ((SE w (Ab #[J m gl q,J n r t,Bj (some c)] 240) (Ab #[Aa fn,J PA np g,J d z h,J o u v] 109) (Ab #[V Ad 0,V Ad 0] 297)).block c (MapAt.lt KQ C)));have y:=D (b _ (SE w (Ab #[J m gl q,J n r t,Bj (some c)] 240) (Ab #[Aa fn,J PA np g,J d z h,J o u v] 109) (Ab #[V Ad 0,V Ad 0] 297)));have G:=D (l _ (SE w (Ab #[J m gl q,J n r t,Bj (some c)] 240) (Ab #[Aa fn,J PA np g,J d z h,J o u v] 109) (Ab #[V Ad 0,V Ad 0] 297)));clear H b l C;go_enter func188,ntmps188;go_wp2_with (first|(go_at_call 158;refine y.mono ?_;clear y;rintro e w' ⟨rfl,rfl⟩)|(go_at_call 158;refine G.mono ?_;rintro e w' ⟨rfl,rfl⟩)|refine O8 mtM rfl _ _ rfl c _ S rfl (str s) rfl _ _ Q R ?_);refine Ow IY Ew bE (CE ((Ext.refl _).alloc _) (Nj _ _ _ _)) ?_
   exact⟨rfl,(SE _ _ _ _).alloc _⟩
def Xw (p:JQ)(u k i:Nat):Bool:=if k=1∨k=2 then Az u 1||Az u 2 else if k=4 then Az u 4 else match p.globals[i]? with
 |none=>false
 |some g=>if g.kind=1 then Az u 2 else if g.kind=2 then Az u 1||Az u 2 else Az u 3
theorem kY (p:JQ)(u n k i:Nat)(U:Nat→Prop)(r s:Option Bi)(f t v x:Nat)(nm:ByteArray)(w:Y)(h:Ju KG U w p.globals (J r p.globals.length f))
 (P:u≤4) (C:1≤k) (E:k≤4) (a:Xw p u k i=true):
 As prog 189 #[AN #[J r p.globals.length f,J s t v,Bj (some x)],AN #[Aa nm,V Ad (u:Nat),V Ad (n:Nat)],AN #[V Ad (k:Nat),V Ad (i:Nat)]] w fun e w'=>e=Ak (AE true)∧Ext w w':=by
 have y:=D h;obtain⟨F,c⟩:=JH p.globals.length;have G:=D c;by_cases H:k=3
 ·subst H;unfold Xw at a;rw [if_neg (by decide),if_neg (by decide)]at a;split at a
  ·cases a
  rename_i g j;obtain⟨b,o,Q,cs,z, -,I,A⟩:=y.elem j;obtain⟨R,rfl,K⟩:=I;have L:=(Ao.1 j).1;rw [←c]at z L ⊢;injection z with M S N
  subst M N;have l:w.cell? ⟨b,o+i*4,none⟩=some (V Ad g.kind):=A 0 _ rfl;have T:b<w.heap.size:=Bp w _ l;obtain⟨d,B⟩:=JH g.kind;rw [←B]at a l;clear h c A K j C E B;have O:=(SE w (Ab #[J (some ⟨b,o,none⟩) F f,J s t v,Bj (some x)] 240) (Ab #[Aa nm,V Ad (u:Nat),V Ad (n:Nat)] 301) (Ab #[V Ad 3,V Ad (i:Nat)] 297)).cell l;rcases(show u=0∨u=1∨u=2∨u=3∨u=4 by omega)with rfl|rfl|rfl|rfl|rfl
  all_goals simp only [Int.cast_ofNat_Int]at O
  all_goals
   by_cases m:d=1
   ·subst m
    first
     |(exfalso;revert a;decide)
     |(clear a
       go_enter IF,Ib
       go_wp2
       go_ret
       exact⟨rfl,SE _ _ _ _⟩)
   ·rw [if_neg m]at a;have W:((d:Int)==1)=false:=by simp;omega
    by_cases q:d=2
    ·subst q
     first
      |(exfalso;revert a;decide)
      |(clear a
        go_enter IF,Ib
        go_wp2
        go_ret
        exact⟨rfl,SE _ _ _ _⟩)
    ·rw [if_neg q]at a;have X:((d:Int)==2)=false:=by simp;omega
     first
      |(exfalso;revert a;decide)
      |(clear a m q
        go_enter IF,Ib
        go_wp2
        go_ret
        exact⟨rfl,SE _ _ _ _⟩)
 ·clear h;rw [←c];clear c G y;unfold Xw at a;rcases(show k=1∨k=2∨k=4 by omega)with rfl|rfl|rfl
  all_goals rcases(show u=0∨u=1∨u=2∨u=3∨u=4 by omega)with rfl|rfl|rfl|rfl|rfl
  all_goals first
   |(exfalso;revert a;decide)
   |(exfalso;simp at a;done)
   |(clear a
     go_enter IF,Ib
     go_wp2
     go_ret
     exact⟨rfl,SE _ _ _ _⟩)
structure yx4 (p:JQ) (f:Pg.Fn) (s:Bs) (u n k i:Nat):Prop where
 m:oI p f s=some (k,i)
 pm:Xw p u k i=true
 k1:1≤k
 k4:k≤4
 c:u=4→∃ g,p.JY[i]?= some g∧g.params.length=n
theorem gK {p:JQ}{f:Pg.Fn}{s:Bs}{u n:Nat}(b:Ma p f s u n=true):∃ k i,yx4 p f s u n k i:=by
 unfold Ma Vn at b;cases h1:MG s f.params with
 |some j=>
  rw [h1]at b;have a:(Az u 1||Az u 2)=true:=b;refine⟨1,j,by unfold oI;rw [h1],by unfold Xw;rw [if_pos (AO rfl)];exact a,by omega,by omega,fun q=>?_⟩;subst q;cases a
 |none=>
  rw [h1]at b;cases c:MG s f.JE with
  |some j=>
   rw [c]at b;have a:(Az u 1||Az u 2)=true:=b;refine⟨2,j,by unfold oI;rw [h1,c],by unfold Xw;rw [if_pos (AB rfl)];exact a,by omega,by omega,fun q=>?_⟩;subst q;cases a
  |none=>
   rw [c]at b;cases d:JR s (p.JY.map Pg.Fn.name)with
   |some j=>
    rw [d]at b;have a:(Az u 4&&(match p.JY[j]? with|some g=>Az g.params.length n|none=>false))=true:=b;rw [Ah]at a;refine⟨4,j,by unfold oI;rw [h1,c,d],by unfold Xw;rw [if_neg (by decide),if_pos rfl];exact a.1,by omega,by omega,fun q=>?_⟩;have e:=a.2;split at e
    ·rename_i g l;exact⟨g,l,Ap e⟩
    ·cases e
   |none=>
    rw [d]at b;cases h:JR s (p.globals.map KJ.name)with
    |none=>rw [h]at b;cases b
    |some j=>
     rw [h]at b;have a:(match p.globals[j]? with|none=>false|some g=>if g.kind=1 then Az u 2 else if g.kind=2 then Az u 1||Az u 2 else Az u 3)=true:=b;refine⟨3,j,by unfold oI;rw [h1,c,d,h];rfl,by unfold Xw;rw [if_neg (by decide),if_neg (by decide)];exact a,by omega,by omega,fun q=>?_⟩;subst q;split at a
     ·cases a
     ·split at a
      ·cases a
      ·split at a
       ·cases a
       ·cases a
theorem zA6 {p:JQ}{f:Pg.Fn}{k n:Nat}{s:Bs}(a:Ri p f k s n=true)(b:(Y7 k n).1≠0):Ma p f s (Y7 k n).1 (Y7 k n).2=true:=by
 unfold Ri at a;unfold Y7 at b ⊢;split at a
 ·rename_i e;rw [if_pos e];exact a
 ·rename_i e;rw [if_neg e]at b ⊢;split at a
  ·rename_i e;rw [if_pos e];exact a
  ·rename_i e;rw [if_neg e]at b ⊢;split at a
   ·rename_i e;rw [if_pos e];exact a
   ·rename_i e;rw [if_neg e]at b;exact absurd rfl b
theorem zA7 {p:JQ}{f:Pg.Fn}{k n lp:Nat}{s:Bs}(b:PQ p f k s n lp=true)(c:(Y8 k n).1≠0):Ma p f s (Y8 k n).1 (Y8 k n).2=true:=by
 unfold PQ at b;unfold Y8 at c ⊢;split at b
 ·rename_i e;rw [if_pos e];exact b
 ·rename_i e;rw [if_neg e]at c ⊢;split at b
  ·rename_i e;rw [if_pos e];exact b
  ·rename_i e;rw [if_neg e]at c ⊢;split at b
   ·rename_i e;rw [if_pos e];exact b
   ·rename_i e;rw [if_neg e]at c;exact absurd rfl c
structure kZ (p:JQ) (f:Pg.Fn) (U:Nat→Prop) (w:Y) (GA FA PA LA:Option Bi) (gc fc pc lc gB:Nat):Prop where
 m:MapAt KQ w gB (vF p p.JY.length)
 gg:Ju KG U w p.globals (J GA p.globals.length gc)
 ff:Ju KF U w p.JY (J FA p.JY.length fc)
 pp:Ju Qs U w f.params (J PA f.params.length pc)
 ll:Ju Qs U w f.JE (J LA f.JE.length lc)
 p6:f.params.length≤6
 l12:f.JE.length≤12
theorem kZ.ext {p:JQ}{f:Pg.Fn}{U:Nat→Prop}{w W:Y}{c d PA e:Option Bi}{g h i j b:Nat}(a:kZ p f U w c d PA e g h i j b)(x:Ext w W):kZ p f U W c d PA e g h i j b:=
 ⟨MapAt.keep KQ a.m (x.block b (MapAt.lt KQ a.m)),a.gg.ext x,a.ff.ext x,a.pp.ext x,a.ll.ext x,a.p6,a.l12⟩
theorem eG:(prog.info? 247).map (·.size)=some 3:=by kernel_rfl
theorem qE (w:Y)(a b c:Obj):(((w.alloc a).alloc b).alloc c).heap[w.heap.size]?= some a:=CE (((Ext.refl _).alloc _).alloc _) (Aj w _)
theorem eH (w:Y)(a b c:Obj):(((w.alloc a).alloc b).alloc c).heap[w.heap.size+1]?= some b:=by
 have:=Aj (w.alloc a) b;exact CE ((Ext.refl _).alloc _) (by simpa using this)
theorem ru (p:JQ)(f:Pg.Fn)(U:Nat→Prop)(w:Y)(q r PA E L:Option Bi)(t v F G M N y:Nat)(fn:ByteArray)(hp:kZ p f U w q r PA E t v F G y)
 (b o k op num n c lp:Nat) (s:Bs) (A:Option Bi) (hq:1≤k) (hr:k≤7) (hc:∀ j u,([V Ad k,V Ad op,V Af num,Aa (str s),J A n c]:List h)[j]?= some u→w.cell? ⟨b,o+j,none⟩=some u) (hs:Ri p f k s n=true):
 As prog 141 #[AN #[J q p.globals.length t,J r p.JY.length v,Bj (some y)],AN #[Aa fn,J PA f.params.length F,J E f.JE.length G,J L M N],AN #[Ae none,Ae (some ⟨b,o,none⟩),V Ad lp]] w fun e w'=>e=Ak (V Ad 0)∧Ext w w':=by
 have O:=D (fun W (x:Ext w W)=>yd3 b o k op num n c lp (str s) A W hq hr (fun j u x5=>x.cell (hc j u x5)));have P:=D (fun x6=>gK (zA6 hs x6));have h1:=D hp;obtain⟨h2,h3⟩:=JH p.globals.length;obtain⟨Q,h4⟩:=JH p.JY.length;obtain⟨ht,h5⟩:=JH f.params.length;obtain⟨hu,h6⟩:=JH f.JE.length;have x7:=D h3;have x8:=D h4;have x9:=D h5;have xa:=D h6;rw [←h3,←h4,←h5,←h6];generalize hv:(Y7 k n).1=u at O P;generalize xb:(Y7 k n).2=d at O P;have xc:u≤4:=by rw [←hv];unfold Y7;split;(show 2≤4;decide);split;(show 3≤4;decide);split;(show 4≤4;decide);(show 0≤4;decide)
 clear hq hr hc hs hp hv xb h3 h4 h5 h6;go_enter func141,ntmps141;go_upto_region 4 with fail;generalize h7:Ab #[J q h2 t,J r Q v,Bj (some y)] 240=O0;generalize h8:Ab #[Aa fn,J PA ht F,J E hu G,J L M N] 109=O1;generalize hw:Ab #[Ae none,Ae (some ⟨b,o,none⟩),V Ad lp] 247=O2;have xd:=D h7;have xe:=D h8;have R:=D (SE w O0 O1 O2);have h9:AA ((((w.alloc O0).alloc O1).alloc O2).heap[w.heap.size]?= some (Ab #[J q h2 t,J r Q v,Bj (some y)] 240 (0,0))):=D (by rw [qE w O0 O1 O2,←h7]);have ha:AA ((((w.alloc O0).alloc O1).alloc O2).heap[w.heap.size+1]?= some (Ab #[Aa fn,J PA ht F,J E hu G,J L M N] 109 (0,0))):=D (by rw [eH w O0 O1 O2,←h8]);have hb:AA ((((w.alloc O0).alloc O1).alloc O2).heap[w.heap.size+1+1]?= some (Ab #[Ae none,Ae (some ⟨b,o,none⟩),V Ad lp] 247 (0,0))):=D (by rw [Nj w O0 O1 O2,←hw]);clear h7 h8 hw xd xe;generalize((w.alloc O0).alloc O1).alloc O2=W3 at R h9 ha hb ⊢;go_upto_region 5 with(first|refine LH rfl Hi rfl hb eG ?_|(go_at_call 187;refine(O _ R).mono ?_;rintro e hd ⟨⟨nm,rfl,xf⟩,S⟩));have H:=D ((R.trans S).alloc (Ab #[Aa nm,V Ad (u:Nat),V Ad (d:Nat)] 301));have T:=D (CE (S.alloc (Ab #[Aa nm,V Ad (u:Nat),V Ad (d:Nat)] 301)) h9);have he:=D (CE (S.alloc (Ab #[Aa nm,V Ad (u:Nat),V Ad (d:Nat)] 301)) ha);have z:=D (Aj hd (Ab #[Aa nm,V Ad (u:Nat),V Ad (d:Nat)] 301));obtain⟨xt,hx⟩:=JH hd.heap.size;rw [←hx]at z ⊢;clear hx S h9 ha hb R O;generalize hd.alloc (Ab #[Aa nm,V Ad (u:Nat),V Ad (d:Nat)] 301)=W5 at H T he z ⊢;have xg:=bk z 0;have xh:=bk z 1;by_cases hf:u=0
 ·subst hf;go_wp2;go_ret;exact⟨rfl,H⟩
 ·obtain⟨mk,a,B⟩:=P hf;have xi:=xf hf;subst xi;have xu:((u:Int)==0)=false:=by simp;omega
  have i:=h1.ext H;have xj:=D i;have hg:=D (kX p f s mk a U q r PA E L h2 t Q v F G M N y fn W5 i.m i.pp i.ll i.p6 i.l12 B.m);rw [←x9,←xa]at hg;clear i;go_upto_region 8 with(first|refine LH rfl Dz rfl T QZ ?_|refine LH rfl Bg rfl he Nb ?_|(go_at_call 188;refine hg.mono ?_;rintro e hh ⟨rfl,X⟩));have C:=D (Aj hh (Ab #[V Ad (mk:Nat),V Ad (a:Nat)] 297));have hi:=D (H.trans (X.alloc (Ab #[V Ad (mk:Nat),V Ad (a:Nat)] 297)));have I:=D (CE (X.alloc (Ab #[V Ad (mk:Nat),V Ad (a:Nat)] 297)) T);have K:=D (CE (X.alloc (Ab #[V Ad (mk:Nat),V Ad (a:Nat)] 297)) z);obtain⟨xv,hy⟩:=JH hh.heap.size;rw [←hy]at C ⊢;clear hy X T he z H hg xg xh;generalize hh.alloc (Ab #[V Ad (mk:Nat),V Ad (a:Nat)] 297)=W7 at hi I C K ⊢;have hj:=h1.ext hi;have Z:=D (kY p u d mk a U q r t Q v y (str s) W7 hj.gg xc B.k1 B.k4 B.pm);rw [←x7]at Z;have hk:=D B.c;have hl:=D hj.ff;clear hj B P h1 xj;go_upto_region 12 with(first|refine LH rfl Dz rfl I QZ ?_|refine LH rfl Bn rfl K NS ?_|refine LH rfl Ew rfl C bE ?_|(go_at_call 189;refine Z.mono ?_;rintro e xk ⟨rfl,l⟩));have hm:=CE l I;have h0:=CE l K;have hn:=CE l C;have hz:=D (hi.trans l);have z1:=bk h0 1;have z2:=bk h0 2;have xw:=bk hm 1;have xx:=bk hn 1;by_cases x0:u=4
  ·obtain⟨g,ho,x1⟩:=hk x0;subst x0;obtain⟨xl,xm,xy,cs,x2, -,xn,x3⟩:=(hl.ext l).elem ho;obtain⟨xz,y0,y1,rfl,x4, -, -⟩:=xn;obtain⟨xo,xp,rfl⟩:=JB x4;have xq:=(Ao.1 ho).1;rw [←x8]at x2 xq;injection x2 with xr y2 xs
   subst xr xs;have z5:xk.cell? ⟨xl,xm+a*4+1,none⟩=some (J xo d xp):=by rw [←x1];exact x3 1 _ rfl
   clear ho x1 x3 x4 hl hk hm h0 hn Z I K C l
   go_region
   go_wp2;go_ret;exact⟨rfl,hz.drew⟩
  ·have y3:((u:Int)==4)=false:=by simp;omega
   clear hl hk hm h0 hn Z I K C l
   go_region
   go_wp2;go_ret;exact⟨rfl,hz.drew⟩
theorem rz (p:JQ)(f:Pg.Fn)(U:Nat→Prop)(w:Y)(a d PA v G:Option Bi)(i l y z H I r:Nat)(fn:ByteArray)(hv:kZ p f U w a d PA v i l y z r)
 (b o k n c nb hw hx hy lp:Nat) (s:Bs) (A hz C:Option Bi) (x0:1≤k) (x1:k≤10) (hc:∀ j u,([V Ad k,Aa (str s),J A n c,J hz nb hw,J C hx hy]:List h)[j]?= some u→w.cell? ⟨b,o+j,none⟩=some u) (O:PQ p f k s n lp=true):
 As prog 141 #[AN #[J a p.globals.length i,J d p.JY.length l,Bj (some r)],AN #[Aa fn,J PA f.params.length y,J v f.JE.length z,J G H I],AN #[Ae (some ⟨b,o,none⟩),Ae none,V Ad lp]] w fun e w'=>e=Ak (V Ad 0)∧Ext w w':=by
 have T:=D (fun W (x:Ext w W)=>yd4 b o k n c nb hw hx hy lp (str s) A hz C W x0 x1 (fun j u xg=>x.cell (hc j u xg)));have X:=D (fun xh=>gK (zA7 O xh));have h7:=D hv;obtain⟨P,h8⟩:=JH p.globals.length;obtain⟨K,h9⟩:=JH p.JY.length;obtain⟨Z,ha⟩:=JH f.params.length;obtain⟨h0,hb⟩:=JH f.JE.length;have xi:=D h8;have xj:=D h9;have xk:=D ha;have xl:=D hb;rw [←h8,←h9,←ha,←hb];generalize x2:(Y8 k n).1=u at T X;generalize xm:(Y8 k n).2=B at T X;have xn:u≤4:=by rw [←x2];unfold Y8;split;(show 1≤4;decide);split;(show 3≤4;decide);split;(show 4≤4;decide);(show 0≤4;decide)
 have x3:w.cell? ⟨b,o,none⟩=some (V Ad k):=hc 0 _ rfl;have y6:b<w.heap.size:=Bp w _ x3;have hd:(k=9∨k=10)→((lp:Int)==0)=false:=fun q=>by
  unfold PQ at O;rw [if_neg (by omega),if_neg (by omega),if_neg (by omega),if_pos q]at O;have:lp≠0:=by intro e;subst e;cases O
  simp;omega
 have y7:=(SE w (Ab #[J a P i,J d K l,Bj (some r)] 240) (Ab #[Aa fn,J PA Z y,J v h0 z,J G H I] 109) (Ab #[Ae (some ⟨b,o,none⟩),Ae none,V Ad lp] 247)).cell x3;clear x0 x1 hc O hv x2 xm h8 h9 ha hb;go_enter func141,ntmps141;have x4:(((k:Int)==9)=true∧((lp:Int)==0)=false)∨(((k:Int)==9)=false∧((k:Int)==10)=true∧((lp:Int)==0)=false)∨(((k:Int)==9)=false∧((k:Int)==10)=false):=by
  by_cases q9:k=9
  ·exact AO ⟨by simp;omega,hd (AO q9)⟩
  ·by_cases q10:k=10
   ·exact AB (AO ⟨by simp;omega,by simp;omega,hd (AB q10)⟩)
   ·exact AB (AB ⟨by simp;omega,by simp;omega⟩)
 clear hd;go_upto_region 2 with fail
 go_cut [7,33] (fun y8 xo xp=>xo=AE false∧xp=((w.alloc (Ab #[J a P i,J d K l,Bj (some r)] 240)).alloc (Ab #[Aa fn,J PA Z y,J v h0 z,J G H I] 109)).alloc (Ab #[Ae (some ⟨b,o,none⟩),Ae none,V Ad lp] 247))
 case first=>
  rcases x4 with⟨x5,x6⟩|⟨x5,x6,y9⟩|⟨x5,x6⟩
  all_goals
   go_wp2
   go_meet
   exact⟨rfl,rfl⟩
 obtain⟨rfl,rfl⟩:=hcut;clear x4;go_upto_region 4 with fail;generalize he:Ab #[J a P i,J d K l,Bj (some r)] 240=O0;generalize hf:Ab #[Aa fn,J PA Z y,J v h0 z,J G H I] 109=O1;generalize x7:Ab #[Ae (some ⟨b,o,none⟩),Ae none,V Ad lp] 247=O2;have xq:=D he;have xr:=D hf;have h1:=D (SE w O0 O1 O2);have hg:AA ((((w.alloc O0).alloc O1).alloc O2).heap[w.heap.size]?= some (Ab #[J a P i,J d K l,Bj (some r)] 240 (0,0))):=D (by rw [qE w O0 O1 O2,←he]);have hh:AA ((((w.alloc O0).alloc O1).alloc O2).heap[w.heap.size+1]?= some (Ab #[Aa fn,J PA Z y,J v h0 z,J G H I] 109 (0,0))):=D (by rw [eH w O0 O1 O2,←hf]);have hi:AA ((((w.alloc O0).alloc O1).alloc O2).heap[w.heap.size+1+1]?= some (Ab #[Ae (some ⟨b,o,none⟩),Ae none,V Ad lp] 247 (0,0))):=D (by rw [Nj w O0 O1 O2,←x7]);clear he hf x7 xq xr;generalize((w.alloc O0).alloc O1).alloc O2=W3 at h1 hg hh hi ⊢;go_upto_region 5 with(first|refine LH rfl Hi rfl hi eG ?_|(go_at_call 187;refine(T _ h1).mono ?_;rintro e hj ⟨⟨nm,rfl,xs⟩,h2⟩));have Q:=D ((h1.trans h2).alloc (Ab #[Aa nm,V Ad (u:Nat),V Ad (B:Nat)] 301));have h3:=D (CE (h2.alloc (Ab #[Aa nm,V Ad (u:Nat),V Ad (B:Nat)] 301)) hg);have hk:=D (CE (h2.alloc (Ab #[Aa nm,V Ad (u:Nat),V Ad (B:Nat)] 301)) hh);have L:=D (Aj hj (Ab #[Aa nm,V Ad (u:Nat),V Ad (B:Nat)] 301));obtain⟨ya,x8⟩:=JH hj.heap.size;rw [←x8]at L ⊢;clear x8 h2 hg hh hi h1 T;generalize hj.alloc (Ab #[Aa nm,V Ad (u:Nat),V Ad (B:Nat)] 301)=W5 at Q h3 hk L ⊢;have xt:=bk L 0;have xu:=bk L 1;by_cases hl:u=0
 ·subst hl;go_wp2;go_ret;exact⟨rfl,Q⟩
 ·obtain⟨mk,t,M⟩:=X hl;have xv:=xs hl;subst xv;have yb:((u:Int)==0)=false:=by simp;omega
  have E:=h7.ext Q;have xw:=D E;have hm:=D (kX p f s mk t U a d PA v G P i K l y z H I r fn W5 E.m E.pp E.ll E.p6 E.l12 M.m);rw [←xk,←xl]at hm;clear E;go_upto_region 8 with(first|refine LH rfl Dz rfl h3 QZ ?_|refine LH rfl Bg rfl hk Nb ?_|(go_at_call 188;refine hm.mono ?_;rintro e hn ⟨rfl,h4⟩));have N:=D (Aj hn (Ab #[V Ad (mk:Nat),V Ad (t:Nat)] 297));have ho:=D (Q.trans (h4.alloc (Ab #[V Ad (mk:Nat),V Ad (t:Nat)] 297)));have R:=D (CE (h4.alloc (Ab #[V Ad (mk:Nat),V Ad (t:Nat)] 297)) h3);have S:=D (CE (h4.alloc (Ab #[V Ad (mk:Nat),V Ad (t:Nat)] 297)) L);obtain⟨yc,x9⟩:=JH hn.heap.size;rw [←x9]at N ⊢;clear x9 h4 h3 hk L Q hm xt xu;generalize hn.alloc (Ab #[V Ad (mk:Nat),V Ad (t:Nat)] 297)=W7 at ho R N S ⊢;have hp:=h7.ext ho;have h5:=D (kY p u B mk t U a d i K l r (str s) W7 hp.gg xn M.k1 M.k4 M.pm);rw [←xi]at h5;have hq:=D M.c;have hr:=D hp.ff;clear hp M X h7 xw;go_upto_region 12 with(first|refine LH rfl Dz rfl R QZ ?_|refine LH rfl Bn rfl S NS ?_|refine LH rfl Ew rfl N bE ?_|(go_at_call 189;refine h5.mono ?_;rintro e xx ⟨rfl,F⟩));have hs:=CE F R;have h6:=CE F S;have ht:=CE F N;have xa:=D (ho.trans F);have z1:=bk h6 1;have z2:=bk h6 2;have yd:=bk hs 1;have ye:=bk ht 1;by_cases xb:u=4
  ·obtain⟨g,hu,xc⟩:=hq xb;subst xb;obtain⟨xy,xz,yf,cs,xd, -,y0,xe⟩:=(hr.ext F).elem hu;obtain⟨yg,yh,yi,rfl,xf, -, -⟩:=y0;obtain⟨y1,y2,rfl⟩:=JB xf;have y3:=(Ao.1 hu).1;rw [←xj]at xd y3;injection xd with y4 yj y5
   subst y4 y5;have z5:xx.cell? ⟨xy,xz+t*4+1,none⟩=some (J y1 B y2):=by rw [←xc];exact xe 1 _ rfl
   clear hu xc xe xf hr hq hs h6 ht h5 R S N F
   go_region
   go_wp2;go_ret;exact⟨rfl,xa.drew⟩
  ·have yk:((u:Int)==4)=false:=by simp;omega
   clear hr hq hs h6 ht h5 R S N F
   go_region
   go_wp2;go_ret;exact⟨rfl,xa.drew⟩
section
attribute [local go_sem] Gu
theorem ye0 (fn:ByteArray)(PA a b:Option Bi)(np c d f nb g:Nat)(w:Y):
 As prog 140 #[AN #[Aa fn,J PA np c,J a d f,J b nb g]] w fun e w'=>e=Ak (ER (.func 185) #[] #[Ae (some ⟨w.heap.size,0,none⟩)])∧w'=w.alloc (Ab #[Aa fn,J PA np c,J a d f,J b nb g] 109):=by
 have i:∀ (fn:Fn) (first cap:Array h) (w:Y),(Hh fn first cap).run prog w=Ez (ER fn first cap) w:=fun _ _ _ _=>rfl
 go_enter func140,ntmps140;go_wp2;go_ret;exact⟨rfl,rfl⟩
theorem all_stops (w0:Y)(p:JQ)(f:Pg.Fn)(F:IX)(h:F.depth=none)(i:∀ k,F.fn k)(s:F.round=none)(n:Nat)(U:Nat→Prop)(d:Nat)(j:Option Bi)(o:Nat)(w:Y)(r:Ext w0 w)(B:d<w.heap.size)
 (hc:w.cell? ⟨d,3,none⟩=some (J j f.body.length o)) (t:Ju KS U w0 f.body (J j f.body.length o)) (C:ND p f f.body 0=true) (D:Wl f.body) (P:Jv f.body≤100000):
 SeqStopsK F n prog 185 #[Ae (some ⟨d,0,none⟩)] (fun x:Nd w0 p f=> #[x.1]) (IL w0.heap.size) (fun _=>True) (fun _=>True) (Jv f.body) w:=by
 intro l u v W y _ _ E G;have H:Ext w0 W:=r.trans y;have Q:W.cell? ⟨d,3,none⟩=some (J j f.body.length o):=(y.cell (p:=⟨d,3,none⟩) B).trans hc;have I:∀ k:Nat,(F.depth.isSome=true→1≤k):=fun k g=>by rw [h]at g;cases g
 have K:zk0 F l u v (Jv f.body):=fun m pre x z L M N=>YieldAt.mono (iZ h m (E pre x z L M)) fun e R g=>g.elim (fun⟨a,b,c⟩=>AO ⟨a,b,Below.trans N c⟩) AB
 have A:=zk7 w0 p f F h (i _) (i _) s f.body l (Jv f.body) u v U _ (n - 1) 0 [] W K t C D H G (by simp) (by omega);clear t;generalize f.body.length=nb at*
 refine callsIn_of_wp func185 rfl (i _) ?_ s
 simp only [ntmps185,Bz,Am,Av,Ff,Ia,EW,EX,FJ,E9,B9,BS]
 gi_wp2_with ((try refine⟨I _,?_⟩);gi_at_call 186;refine A.mono ?_;clear A;rintro e z (⟨rfl,q,O,_⟩|⟨rfl,q,r⟩))
 ·go_end0;exact⟨⟨_,rfl⟩,AO ⟨_,trivial,O⟩⟩
 ·go_end0;exact⟨⟨_,rfl⟩,AB ⟨q,trivial,r⟩⟩
end
theorem Zh:∀ (a b:List Bs),M4 (a++b)=true→M4 a=true∧∀ x∈b,Oc x a=false
 |[],b,c=>⟨rfl,fun x _=>rfl⟩
 |f::a,b,c=>by
  rw [BS,M4,Ah]at c;obtain⟨h1,e⟩:=Zh a b c.2;refine⟨?_,fun x d=>?_⟩
  ·rw [M4,Ah];refine⟨?_,h1⟩;rw [Dl,AJ];intro q;have:=c.1;rw [Dl,AJ]at this;exact this ((Rl _ _).2 (List.mem_append_left _ ((Rl _ _).1 q)))
  ·rw [AJ];intro q;rcases AH.1 ((Rl _ _).1 q)with rfl|q2
   ·have:=c.1;rw [Dl,AJ]at this;exact this ((Rl _ _).2 (List.mem_append_right _ d))
   ·have:=e x d;rw [(Rl _ _).2 q2]at this;cases this
theorem gL {l:List Bs}(a:M4 l=true){i:Nat}{x:Bs}(c:l[i]?= some x):Oc x (l.take i)=false:=by
 have b:=(Ao.1 c);have e:l=l.take i++l.drop i:=(C6 i l).symm;rw [e]at a;refine(Zh _ _ a).2 x ?_
 rw [AR b.1,b.2];exact Bb
def eP (p:JQ)(j:Nat):Int:=match JR [109,97,105,110] ((p.JY.take j).map Pg.Fn.name)with
 |some k=>(k:Int)
 |none=> -1
theorem wD (p:JQ)(j:Nat)(f:Pg.Fn)(b:p.JY[j]?= some f):eP p (j+1)=if f.name=[109,97,105,110]then(j:Int)else eP p j:=by
 have c:=(Ao.1 b).1;unfold eP;rw [BB,b,Dv];show(match JR _ (_++[f.name])with|some k=>(k:Int)|none=> -1)=_
 rw [PI];by_cases a:f.name=[109,97,105,110]
 ·rw [if_pos a,if_pos a,AI,BD,CJ (Ev c)]
 ·rw [if_neg a,if_neg a]
theorem zn3 (p:JQ)(U:Nat→Prop)(G F:h)(w:Y)(hy:Ju KG U w p.globals G)(hz:Ju KF U w p.JY F)(yg:p.globals.length≤64)(yh:p.JY.length≤64)(x0:OJ p=true)(xi:∀ f∈p.JY,f.params.length≤6∧f.JE.length≤12):
 As prog 138 #[AN #[G,F]] w (oZ w (0,0)):=by
 unfold OJ at x0;rw [Ah,Ah]at x0;obtain⟨⟨x1,xj⟩,xk⟩:=x0;obtain⟨P,l⟩:=JH (p.globals.map KJ.name++p.JY.map Pg.Fn.name);rw [←l]at x1;obtain⟨hf,hg,rfl⟩:=JB hy;obtain⟨hh,hi,rfl⟩:=JB hz;obtain⟨y,T⟩:=JH p.globals.length;obtain⟨z,hj⟩:=JH p.JY.length;have xl:AA (P.length=y+z):=D (by rw [l,T,hj];simp);have yi:AA (∀(i:Nat) (g:KJ),p.globals[i]?= some g→P[i]?= some g.name):=D (fun i g X=>by
  have yj:=(Ao.1 X).1
  rw [l,Ce (by rw [AI];exact yj),Bh,X];rfl)
 have yk:AA (∀(i:Nat) (g:Pg.Fn),p.JY[i]?= some g→P[y+i]?= some g.name):=D (fun i g X=>by
  rw [l,Cs (by rw [AI,T];omega),AI,Bh,T,Nat.add_sub_cancel_left,X];rfl)
 have xm:AA (∀(i:Nat) (x:Bs),P[i]?= some x→Oc x (P.take i)=false):=D (fun i x a=>gL x1 a);have xn:AA (∀(i:Nat) (x:Bs),P[i]?= some x→P.take (i+1)=P.take i++[x]):=D (fun i x a=>by rw [BB,a];rfl);obtain⟨xo,x2,xp,xq,xr⟩:=info_parts R6;have xs:=D x2;have xt:=D xp;have xu:=D xq;have xv:=D xr;have xw:=D T;have h5:=D hj;have yl:=D hy;have xx:=D hz;have ym:=D xj;have yn:=D xk;have yo:=D xi;rw [←T]at yg ⊢;rw [←hj]at yh ⊢;clear x2 xp xq xr T hj hy hz x1 xj xk xi l;go_enter func138,ntmps138;go_upto_region 2 with fail;have h6:=D (((Ext.refl w).alloc (Ab #[J hf y hg,J hh z hi] 56)).alloc (Ab #[V Ad 0,V Ad 0] 26));have hk:=D (AP w (Ab #[J hf y hg,J hh z hi] 56) (Ab #[V Ad 0,V Ad 0] 26));have x3:=D (Ay w (Ab #[J hf y hg,J hh z hi] 56) (Ab #[V Ad 0,V Ad 0] 26));generalize(w.alloc (Ab #[J hf y hg,J hh z hi] 56)).alloc (Ab #[V Ad 0,V Ad 0] 26)=n at h6 hk x3 ⊢;have zo:=bk hk 0;go_wp2;go_loopw [3,12] (fun L s x4=>∃ i:Nat,s=V Ad i∧i≤y∧AA (PU n x4 (P.take i) L)) (fun _ s _=>y - (AX s).toNat)
 case atStart=>exact⟨0,rfl,by omega,D ⟨CQ _ _ _ _,Ext.refl _⟩⟩
 case round=>
  obtain⟨i,rfl,x2,Z⟩:=hrel;have x5:(P.take i).length=i:=by rw [BD,xl];omega
  have hl:=D x5;have N:=Z.own;rw [x5]at N;obtain⟨x6,x7,rfl,zp,zq, -,xy⟩:=NQ N;have yp:=D xy;clear x5 N xy;by_cases yq:i<y
  ·obtain⟨x,a⟩:∃ x,p.globals[i]?= some x:=⟨_,Al (show i<p.globals.length by rw [←xw];exact yq)⟩
   obtain⟨b,o,xz,cs,B, -,h7,C⟩:=((yl.ext h6).ext Z.x).elem a;obtain⟨zr,rfl,y0⟩:=h7;obtain⟨yr,ys,rfl⟩:=JB y0;rw [←xw]at B;injection B with h8 y1 h9
   subst h8 h9;have E:=D C;have O:=yi i x a;have Q:=D (fun W (e:Ext wr W)=>Xv x6 x7 (P.take i) x.name W (by rw [hl];omega) (yp.ext e));rw [hl,xm i _ O]at Q;have ha:=D (xn i _ O);clear C y0 a O;obtain⟨zs,yt⟩:=JH x.kind;obtain⟨gs,y2⟩:=JH x.name;rw [←y2]at E Q ha;clear yt y2;have yu:b<wr.heap.size:=Bp wr _ (E 0 _ rfl);obtain⟨r,h0⟩:=JH (wr.alloc (Ab #[V Ad x.kind,Aa (str gs),V Af x.num,J yr x.init.length ys] 112));have x8:AA (Ext wr r):=D (by rw [h0];exact(Ext.refl wr).alloc _);have H:AA (PU n (r.alloc (Ab #[Aa (str gs)] 9)) (P.take i) (J x6 i x7)):=D ((Z.ext x8).ext ((Ext.refl r).alloc _));have hb:=D (aX (w:=r) (t:=9) (Aa (str gs)));have hm:AA (n.heap.size≤(r.alloc (Ab #[Aa (str gs)] 9)).heap.size):=D H.x.size;have hn:AA ((r.alloc (Ab #[Aa (str gs)] 9)).ownsRow n.heap.size 9 1 (J x6 i x7) i (Jw (P.take i))):=D (by have:=H.own;rw [hl]at this;exact this);rw [h0]at H hb hm hn;simp only [E3]at hb;clear h0;go_wp2_with (first|(refine KV rfl Bm rfl E Oe ?_)|(go_at_call 120;refine(Q _ ((Ext.refl wr).alloc _)).mono ?_;rintro e w' ⟨rfl,rfl⟩)|(at_builtin;refine Lp rfl _ _ 34 rfl n.heap.size 9 xo (Aa ⟨#[]⟩) 1 16 Bu xs xt xu xv rfl (by decide) _ i (Jw (P.take i)) rfl hn _ 1 1 [Aa (str gs)] rfl hb rfl (by intro u hc;simp only [AH,Ba,or_false]at hc;subst hc;rfl) (by unfold Bk;omega) (by omega) hm ?_;intro L x9 R h1 xa;have xb:AA (PU n x9 (P.take (i+1)) L):=D (by rw [ha];exact H.pF (m:=[gs]) (by rw [hl];exact R) h1);obtain⟨yv,yw,rfl,_,_,_,_⟩:=NQ R;clear R h1 xa));go_roundw
   case rel=>exact⟨i+1,by go_num,by omega,xb⟩
   case measure=>simp [AX];omega
  ·have yx:i=y:=by omega
   subst yx;have yy:=D (CE Z.x hk);have zt:=D (CE Z.x x3);have yz:=bk yy 1;go_wp2;go_loopw [3,6,32] (fun L z0 s x4=>∃ j:Nat,s=V Ad j∧j≤z∧z0=V Ad (eP p j)∧AA (PU n x4 (P.take (i+j)) L)) (fun _ _ s _=>z - (AX s).toNat)
   case atStart=>exact⟨0,rfl,by omega,rfl,Z⟩
   case round=>
    obtain⟨j,rfl,zu,rfl,I⟩:=hrel;have xc:(P.take (i+j)).length=i+j:=by rw [BD,xl];omega
    have ho:=D xc;have N:=I.own;rw [xc]at N;obtain⟨hp,hq,rfl,zv,zw, -,y3⟩:=NQ N;have z2:=D y3;clear xc N y3;by_cases z3:j<z
    ·obtain⟨x,a⟩:∃ x,p.JY[j]?= some x:=⟨_,Al (show j<p.JY.length by rw [←h5];exact z3)⟩
     obtain⟨b,o,xz,cs,B, -,h7,C⟩:=((xx.ext h6).ext I.x).elem a;obtain⟨z4,z5,z6,rfl,l,hd,hr⟩:=h7;obtain⟨PA,K,rfl⟩:=JB l;obtain⟨h2,h3,rfl⟩:=JB hd;obtain⟨hs,ht,rfl⟩:=JB hr;rw [←h5]at B;injection B with h8 y1 h9
     subst h8 h9;have E:=D C;have O:=yk j x a;have y4:=D (wD p j x a);have Q:=D (fun W (e:Ext wr W)=>Xv hp hq (P.take (i+j)) x.name W (by rw [ho];omega) (z2.ext e));rw [ho,xm (i+j) _ O]at Q;have ha:=D (xn (i+j) _ O);have xd:x∈p.JY:=AD a;have z7:=yo x xd;have z8:M4 (x.params++x.JE)=true:=A7.1 ym x xd;have y5:=D (fun g W (e:Ext wr W) X=>pG PA h2 x.params x.JE K h3 g W (by omega) (by omega) ((Q7 l).ext e) ((Q7 hd).ext e) X);have z9:=D (fun A c W (za:(x.params++x.JE).length≤c) (zb:Ol W A (Jw (x.params++x.JE)))=>wB A c (x.params++x.JE) W (by rw [M];omega) za zb z8);clear C l hd hr a O xd;obtain⟨d,y6⟩:=JH x.name;obtain⟨np,hu⟩:=JH x.params.length;obtain⟨h4,hv⟩:=JH x.JE.length;obtain⟨nb,y7⟩:=JH x.body.length;rw [←y6]at E Q ha y4;rw [←hu,←hv,←y7]at E;rw [←hu,←hv]at y5 z7;have zx:AA ((x.params++x.JE).length=np+h4):=D (by rw [M,hu,hv]);clear y6 hu hv y7;have yu:b<wr.heap.size:=Bp wr _ (E 0 _ rfl);obtain⟨r,h0⟩:=JH (wr.alloc (Ab #[Aa (str d),J PA np K,J h2 h4 h3,J hs nb ht] 109));have x8:AA (Ext wr r):=D (by rw [h0];exact(Ext.refl wr).alloc _);have xe:=D (y5 r.heap.size (r.alloc (Ab #[J PA np K,J h2 h4 h3] 34)) (x8.alloc _) (Aj r _));rw [h0]at xe;simp only [E3]at xe;go_wp2_with (first|(refine KV rfl Bg rfl E Nb ?_)|(go_at_call 120;refine(Q _ ((Ext.refl wr).alloc _)).mono ?_;rintro e w' ⟨rfl,rfl⟩)|(go_at_call 95;refine xe.mono ?_;rintro e v ⟨zy,rfl,y8,y9⟩));have xf:Ext (wr.alloc (Ab #[Aa (str d),J PA np K,J h2 h4 h3,J hs nb ht] 109)) v:=((Ext.refl _).alloc _).trans y9;have ya:Ext wr v:=((Ext.refl wr).alloc _).trans xf;have xg:=CE xf (Aj wr (Ab #[Aa (str d),J PA np K,J h2 h4 h3,J hs nb ht] 109));have zz:=bk xg 0;obtain⟨zc,zd,rfl,ze, -, -,yb⟩:=K7 y8;have zf:=D (z9 zc zd v ze yb);have zg:=D (I.ext ya);have H:AA (PU n (v.alloc (Ab #[Aa (str d)] 9)) (P.take (i+j)) (J hp (i+j) hq)):=D (zg.ext ((Ext.refl v).alloc _));have hb:=D (aX (w:=v) (t:=9) (Aa (str d)));have hm:AA (n.heap.size≤(v.alloc (Ab #[Aa (str d)] 9)).heap.size):=D H.x.size;have hn:AA ((v.alloc (Ab #[Aa (str d)] 9)).ownsRow n.heap.size 9 1 (J hp (i+j) hq) (i+j) (Jw (P.take (i+j)))):=D (by have:=H.own;rw [ho]at this;exact this);have yc:AA ((v.alloc (Ab #[Aa (str d)] 9)).heap[wr.heap.size]?= some (Ab #[Aa (str d),J PA np K,J h2 h4 h3,J hs nb ht] 109 (0,0))):=D (CE ((Ext.refl v).alloc _) xg);have zh:AA (wr.heap.size<(v.alloc (Ab #[Aa (str d)] 9)).heap.size):=D (Ag.1 yc).1;have zi:AA ((J hp (i+j) hq).ownBlock≠some wr.heap.size):=D (fun q=>by have:=(Kc I.own q).2;omega);clear y8 y9 xf ya xg yb;have u0:i+j≤128:=by omega
     go_wp2_with (first|(go_at_call 184;refine zf.mono ?_;rintro e w' ⟨rfl,rfl⟩)|(at_builtin;refine Lp rfl _ _ 34 rfl n.heap.size 9 xo (Aa ⟨#[]⟩) 1 16 Bu xs xt xu xv rfl (by decide) _ (i+j) (Jw (P.take (i+j))) rfl hn _ 1 1 [Aa (str d)] rfl hb rfl (by intro u hc;simp only [AH,Ba,or_false]at hc;subst hc;rfl) (by unfold Bk;omega) (by omega) hm ?_;intro L x9 R h1 xa;have xb:AA (PU n x9 (P.take (i+j+1)) L):=D (by rw [ha];exact H.pF (m:=[d]) (by rw [ho];exact R) h1);have q3:=bk ((h1.block wr.heap.size zh (fun q=>zi q.symm)).trans yc) 0;obtain⟨yv,yw,rfl,_,_,_,_⟩:=NQ R;clear R h1 xa))
     all_goals go_roundw
     all_goals first|(simp [AX];omega)|skip
     all_goals exact⟨j+1,by go_num,by omega,by(rw [y4.out];rename_i q;by_cases hw:d=[109,97,105,110];(case pos=>(rw [if_pos hw];try (exfalso;rw [hw]at q;exact absurd q (by decide))));(case neg=>(rw [if_neg hw];try (exfalso;exact hw (by simpa using q))))),xb⟩
    ·have zj:j=z:=by omega
     subst zj;obtain⟨k,u1,yd,xh,ye⟩:∃ k f,JR [109,97,105,110] (p.JY.map Pg.Fn.name)=some k∧p.JY[k]?= some f∧f.params.length=0:=by
      have S:=yn.out;unfold dK at S;split at S
      ·cases S
      ·rename_i k zk;split at S
       ·cases S
       ·rename_i f zl;exact⟨k,f,zk,zl,by rw [CL]at S;rw [S];rfl⟩
     have yf:eP p j=(k:Int):=by unfold eP;rw [h5,BN,yd]
     rw [yf];have u2:k<j:=by rw [h5];exact(Ao.1 xh).1
     obtain⟨b,o,xz,cs,B, -,h7,C⟩:=((xx.ext h6).ext I.x).elem xh;obtain⟨z4,z5,z6,rfl,l,hd,hr⟩:=h7;obtain⟨PA,K,rfl⟩:=JB l;rw [←h5]at B;injection B with h8 y1 h9
     subst h8 h9;have z1:wr.cell? ⟨b,o+k*4+1,none⟩=some (J PA 0 K):=by rw [←ye];exact C 1 _ rfl
     have zm:=D (CE I.x hk);have he:=D (CE I.x x3);have u3:=bk zm 1;clear C l hd hr yd xh ye yf;have u4:=bk he 0;have yz:=bk he 1;have u5:=JF he 0;have f1:=JF he 1;have hx:=JJ he 0 (V Ad 0);have u6:=bk hx 1;have u7:=JF hx 1;have zn:=D (JJ hx 1 (V Ad 0));clear hx;go_wp2;refine K3 results138 Bd Pk zn ?_
     exact⟨rfl,((h6.trans I.x).setCell (p:=⟨w.heap.size+1,0,none⟩) (CA _) _).setCell (p:=⟨w.heap.size+1,1,none⟩) (CA _) _⟩
section
attribute [local go_sem] Gu
theorem NK {F:IX}{n:Nat}{P:BR}{w:Y}{ops:Array B5}{rest:List B5}{o:B5}{a:CY}{Q:EY→CY→Y→Prop}(j:o.guard=none)(b:AK)(x:CC)(e:o.op=IK b x)
 (g f:Nat) (k:a.eval x=Ae (some ⟨g,f,none⟩)) (d:DK) (xs:List h) (l:∀ i u,xs[i]?= some u→w.cell? ⟨g,f+i,none⟩=some u)
 (m:P.underlying b=some d) (p:(match d with|DA _|DX _ _=>true|_=>false)=true) (q:(P.info? b).map (·.size)=some xs.length)
 (r:wpListIn F n P ops Q rest (a.put o.dst (AN xs.toArray)) w):wpListIn F n P ops Q (o::rest) a w:=by
 refine wpListIn_plain j fun K s=>?_
 unfold Oper.wpIn;refine⟨by simp [Oper.about,e],?_⟩;rw [Oper.semAt_plain F _ _ (by rw [e];intro c t;cases t)];unfold CS;simp only [e,k,Ir,GQ,Di,D3,C3,RO g f b d xs l m p q];exact s _ _ r
theorem zn5 {w0:Y}{p:JQ}{f:Pg.Fn}(x:Nd w0 p f):∃ (A d:Option Bi)(lp:Nat),x.1=AN #[Ae A,Ae d,V Ad lp]:=by
 obtain⟨v,e⟩:=x;rcases e with⟨b,o,k,op,num,name,A,n,c,lp,rfl,_⟩|⟨b,o,k,name,A,n,c,d,nb,g,C,h,i,lp,rfl,_⟩
 ·exact⟨_,_,_,rfl⟩
 ·exact⟨_,_,_,rfl⟩
theorem zn6 (p:JQ)(f:Pg.Fn)(U:Nat→Prop)(w0 W:Y)(a d PA g s:Option Bi)(h i l m t w q:Nat)(fn:ByteArray)(r:Ext w0 W)(D:kZ p f U w0 a d PA g h i l m q)(x:Nd w0 p f):
 As prog 141 #[AN #[J a p.globals.length h,J d p.JY.length i,Bj (some q)],AN #[Aa fn,J PA f.params.length l,J g f.JE.length m,J s t w],x.1] W fun e w'=>e=Ak (V Ad 0)∧Ext W w':=by
 obtain⟨v,E⟩:=x;rcases E with⟨b,o,k,op,num,name,A,n,c,lp,rfl,hc,y,z,F⟩|⟨b,o,k,name,A,n,c,G,nb,H,C,I,K,lp,rfl,hc,y,z,hk10⟩
 ·exact ru p f U W a d PA g s h i l m t w q fn (D.ext r) b o k op num n c lp name A z F (fun j u B=>r.cell (hc j u B)) y
 ·exact rz p f U W a d PA g s h i l m t w q fn (D.ext r) b o k n c nb H I K lp name A G C z hk10 (fun j u B=>r.cell (hc j u B)) y
end
section
attribute [local go_sem] Gu
theorem bJ {f:Pg.Fn}(a:Rz f=true):f.params.length≤6∧f.JE.length≤12:=by
 unfold Rz at a;simp only [Ah]at a;exact⟨Ai a.1.1.2,Ai a.1.2⟩
theorem Wo {W:Y}{b:Nat}{cs:List h}{t:AK}(a:W.heap[b]?= some (Ab cs.toArray t (0,0))):∀ i u,cs[i]?= some u→W.cell? ⟨b,0+i,none⟩=some u:=fun i u c=>by
 rw [BF,JA a i];simpa using c
theorem zB4 {P:BR}{f:FuncId}{args:Array h}{w:Y}(a:As P f args w (oZ w (0,0))):As P f args w fun e w'=>e=Ak (AN #[V Ad 0,V Ad 0])∧Ext w w':=a.mono fun e w' a=>⟨a.1,a.2⟩
abbrev coll (a:Nat):GX:={target:=.collected a,args:= #[]}
theorem bK {F:IX}{n:Nat}{P:BR}{fn:Func}{tmps:Array h}{R:BX→Y→Prop}(base:Nat):∀ (b:List Nat)(w:Y),base≤w.heap.size→b.Nodup→(∀a∈b,base≤a∧w.heap[a]?= some (.deferred (some [])))→(∀w',IL base w w'→LeavesIn F n P fn tmps R [] .returning w')→LeavesInM F n P fn tmps R (b.map coll) .returning w
 |[],w,_,_,_,c=>c w (GP _ _)
 |a::b,w,d,f,g,c=>by
  obtain⟨h1,i⟩:=g a Bb;have r:=(Ag.1 i).1;have j:IL base w (w.putObj a (.deferred none)):=(GP base w).grown (grownBy_putObj' w a _) d (fun k e=>by cases e;exact h1);refine⟨by simp,AO ⟨a,_,rfl,run_takeDeferred i,bK base b _ (AL d j.size) (IZ.1 f).2 (fun m l=>?_) (fun w' o=>c w' (j.trans o))⟩⟩;obtain⟨p,q⟩:=g m (DE _ l);refine⟨p,?_⟩;rw [World.putObj_heap_other (by intro e;subst e;exact absurd l (IZ.1 f).1)];exact q
theorem zB5 {W a:Y}(x:Ext W a):KeepsOthers W a:=⟨x.size,fun k o b _=>CE x b⟩
theorem zB6 (p:JQ)(U:Nat→Prop)(G F:h)(w:Y)(T:Ju KG U w p.globals G)(Z:Ju KF U w p.JY F)(yb:Mg w)(yc:∀ k,U k→k<w.heap.size)(N:iX p)(yd:OJ p=true)(hc:∀ f∈p.JY,ND p f f.body 0=true):
 As prog 102 #[AN #[G,F]] w (oZ w (0,0)):=by
 obtain⟨z2,ye⟩:=N.cnt;have hn:=V9 p.JY 0 z2 (by omega) ye;have h9:=D (fun W (x:Ext w W)=>zB4 <| gI p U _ _ W (T.ext x) (Z.ext x) (yb.ext x) (fun k z3=>Ar (yc k z3) x.size) N);have ha:=D (fun W (x:Ext w W)=>zB4 <| zn3 p U _ _ W (T.ext x) (Z.ext x) N.ng N.nf yd (fun f h3=>bJ (hn f h3).1));have hb:=D (fun W (x:Ext w W)=>yF0 p U _ _ W (T.ext x) (Z.ext x) N.ng N.nf);have z4:=D hn;have z5:=D hc;have yf:=D T;have ho:=D Z;obtain⟨j,m,rfl⟩:=JB T;obtain⟨B,g,rfl⟩:=JB Z;obtain⟨E,hp⟩:=JH p.globals.length;obtain⟨d,hq⟩:=JH p.JY.length;have yg:=D hp;have h4:=D hq;have z6:=N.ng;have z7:=N.nf;rw [←hp]at h9 ha hb yf z6 ⊢;rw [←hq]at h9 ha hb ho z7 ⊢;clear hp hq T Z yb yc N yd hc hn ye;refine(FM (n:=3)).1 ?_
 refine callsIn_of_wp_marks func102 rfl trivial ?_ rfl
 simp only [ntmps102,Bz,Am,Av,Ff,Ia,EW,EX,FJ,E9,B9,BS]
 gi_wp2
 refine⟨trivial,(FM.2 (h9 _ (((Ext.refl w).alloc _).alloc _))).mono ?_⟩;rintro e zs ⟨rfl,h5⟩;have hd:AA (∀W,Ext ((w.alloc (Ab #[J j E m,J B d g] 56)).alloc (Ab #[V Ad 0,V Ad 0] 26)) W→∀ i u,([J j E m,J B d g]:List h)[i]?= some u→W.cell? ⟨w.heap.size,0+i,none⟩=some u):=D (fun W x=>Wo (CE x (AP w _ _)));have hr:AA (∀W,Ext ((w.alloc (Ab #[J j E m,J B d g] 56)).alloc (Ab #[V Ad 0,V Ad 0] 26)) W→W.heap[w.heap.size+1]?= some (Ab #[V Ad 0,V Ad 0] 26 (0,0))):=D (fun W x=>CE x (Ay w _ _));have h6:=D (((Ext.refl w).alloc (Ab #[J j E m,J B d g] 56)).alloc (Ab #[V Ad 0,V Ad 0] 26));generalize(w.alloc (Ab #[J j E m,J B d g] 56)).alloc (Ab #[V Ad 0,V Ad 0] 26)=W0 at hd hr h6 h5;clear h9
 gi_wp2_with (refine NK rfl 56 _ rfl w.heap.size 0 rfl _ [J j E m,J B d g] (hd _ (h5.alloc _)) Cw rfl Sy ?_)
 refine⟨trivial,(FM.2 (ha _ ((h6.trans h5).alloc _))).mono ?_⟩;rintro e zt ⟨rfl,yh⟩;have he:=D ((h5.alloc (Ab #[V Ad 0,V Ad 0] 26)).trans yh);clear h5 yh ha
 gi_wp2_with (refine NK rfl 56 _ rfl w.heap.size 0 rfl _ [J j E m,J B d g] (hd _ (he.alloc _)) Cw rfl Sy ?_)
 refine⟨trivial,(FM.2 (hb _ ((h6.trans he).alloc _))).mono ?_⟩;rintro e h7 ⟨M,z8,rfl,hs,yi⟩;have h0:=D (((he.alloc (Ab #[V Ad 0,V Ad 0] 26)).trans yi).alloc (Ab #[J j E m,J B d g,Bj (some M)] 240));have ht:=D (MapAt.keep KQ hs (Ig h7 (Ab #[J j E m,J B d g,Bj (some M)] 240) M (MapAt.lt KQ hs)));have hf:=D (Aj h7 (Ab #[J j E m,J B d g,Bj (some M)] 240));obtain⟨hg,hu⟩:=JH h7.heap.size;rw [←hu]at hf;have z9:(h7.alloc (Ab #[J j E m,J B d g,Bj (some M)] 240)).cell? ⟨w.heap.size,1,none⟩=some (J B d g):=hd _ h0 1 _ rfl;clear he yi hs z8 hb
 gi_wp2
 generalize h7.alloc (Ab #[J j E m,J B d g,Bj (some M)] 240)=W3 at h0 ht hf z9 ⊢;rw [←hu];clear hu;have zu:hg<W3.heap.size:=(Ag.1 hf).1;refine wpIn_loop (fun a yj=>∃ (i:Nat) (z:Int) (h2:List Nat) (hv hw hx yk yl ym hy hz x0 x1 x2 x3 x4 u16 x5 x6 x7 x8 x9 xa xb xc yn yo yp yq u32 yr ys xd xe xf xg xh xi xj xk xl xm xn xo xp xq xr:h),a={tmps:= #[hv,Ae (some ⟨w.heap.size,0,none⟩),Ae (some ⟨w.heap.size+1,0,none⟩),hw,hx,Ae (some ⟨hg,0,none⟩),yk,yl,ym,hy,hz,x0,x1,x2,x3,x4,u16,x5,x6,x7,x8,x9,xa,xb,xc,J B d g,V Ad d,V Ad z,yn,yo,yp,yq,u32,yr,ys,xd,xe,xf,xg,xh,xi,xj,xk,xl,xm,xn,xo,xp,xq,xr],defers:=h2.map coll}∧z=(i:Int)∧i≤d∧AA (Ext W3 yj)∧AA (h2.Nodup∧∀ L∈h2,W3.heap.size≤L∧yj.heap[L]?= some (.deferred (some [])))) (fun a _=>d - (AX (a.tmps.getD 27 Ca)).toNat) ?start ?round
 case start=>exact⟨0,0,[],_,_,_,_,_,_,_,_,_,_,_,_,_,_,_,_,_,_,_,_,_,_,_,_,_,_,_,_,_,_,_,_,_,_,_,_,_,_,_,_,_,_,_,_,rfl,rfl,by omega,D (Ext.refl _),D ⟨List.nodup_nil,fun L xt=>by cases xt⟩⟩
 case round=>
  rintro a wr ⟨i,z,h2,hv,hw,hx,yk,yl,ym,hy,hz,x0,x1,x2,x3,x4,u16,x5,x6,x7,x8,x9,xa,xb,xc,yn,yo,yp,yq,u32,yr,ys,xd,xe,xf,xg,xh,xi,xj,xk,xl,xm,xn,xo,xp,xq,xr,rfl,rfl,hi,P,Q⟩;by_cases za:i<d
  ·have xu:=D ((h6.trans h0).trans P);obtain⟨f,h3⟩:∃ f,p.JY[i]?= some f:=⟨_,Al (show i<p.JY.length by rw [←h4];exact za)⟩
   obtain⟨b,o,zv,cs,yt, -,zb,yu⟩:=(ho.ext xu).elem h3;obtain⟨zw,zx,zy,rfl,xv,xw,xx⟩:=zb;obtain⟨PA,r,rfl⟩:=JB xv;obtain⟨s,t,rfl⟩:=JB xw;obtain⟨v,y,rfl⟩:=JB xx;rw [←h4]at yt;injection yt with zc zz zd
   subst zc zd;have xy:f∈p.JY:=AD h3;have hh:=z4 f xy;have yv:=z5 f xy;have xz:=bJ hh.1;have yw:kZ p f U wr j (some ⟨b,o,none⟩) PA s m g r t M:=⟨MapAt.keep KQ (by have:=ht;rw [h4]at this;exact this) (P.block M (MapAt.lt KQ ht)),by have:=yf.out;rw [yg]at this;exact this.ext xu,by have:=ho.out;rw [h4]at this;exact this.ext xu,xv,xw,xz.1,xz.2⟩;have ze:=D yw;have hj:=D (Ct xx (Ct yv (Ct hh.2.1 hh.2.2)));have y0:=D yu;clear yu xv xw xx h3 xy hh yv xz yw;obtain⟨np,y1⟩:=JH f.params.length;obtain⟨H,y2⟩:=JH f.JE.length;obtain⟨nb,y3⟩:=JH f.body.length;have y4:=D (Ct y1 (Ct y2 y3));rw [←y1,←y2,←y3]at y0;clear y1 y2 y3;generalize str f.name=C at y0
   gi_wp2_with (refine NK rfl 109 _ rfl b (o+i*4) rfl _ [Aa C,J PA np r,J s H t,J v nb y] y0 Bg rfl Nb ?_)
   refine⟨trivial,(FM.2 (ye0 C PA s v np r H t nb y _)).mono ?_⟩;rintro e u0 ⟨rfl,rfl⟩
   gi_wp2
   have yx:=D (eH wr (Ab #[V Ad (i:Nat)] 3) (Ab #[Aa C,J PA np r,J s H t,J v nb y] 109) (Ab #[Aa C,J PA np r,J s H t,J v nb y] 109));have y5:=D (Nj wr (Ab #[V Ad (i:Nat)] 3) (Ab #[Aa C,J PA np r,J s H t,J v nb y] 109) (Ab #[Aa C,J PA np r,J s H t,J v nb y] 109));have R:=D (SE wr (Ab #[V Ad (i:Nat)] 3) (Ab #[Aa C,J PA np r,J s H t,J v nb y] 109) (Ab #[Aa C,J PA np r,J s H t,J v nb y] 109));generalize((wr.alloc (Ab #[V Ad (i:Nat)] 3)).alloc (Ab #[Aa C,J PA np r,J s H t,J v nb y] 109)).alloc (Ab #[Aa C,J PA np r,J s H t,J v nb y] 109)=W6 at yx y5 R ⊢;have zf:wr.heap.size+1+1<W6.heap.size:=(Ag.1 y5).1;have zg:=D (CE (P.trans R) hf);have zh:=D (ze.ext R);refine wpIn_rangeFunc_ownH (α:=Nd W6 p f) rfl (by decide) (gf:=185) (lb:= #[Ae (some ⟨wr.heap.size+1+1,0,none⟩)]) rfl trivial (F8 func185 (by kernel_rfl) rfl)
    (all_stops W6 p f Fence.wide rfl (fun _=>trivial) rfl 2 U (wr.heap.size+1+1) v y W6 (Ext.refl _) zf (by rw [←y4.2.2];exact JA y5 3) (hj.1.ext R) hj.2.1 hj.2.2.1 (by have:=hj.2.2.2;omega)) belowK_t (belowK_b (Aw _)) (GP _ _) (fun _=>rfl)
    (fun pre W=>IL W6.heap.size W6 W) (fun _ _ _=>False) (ownFrom_below (Aw _) (Aw _)) (fun _ _ _ _ _ y6 _ _=>y6) (GP _ _)
    (fun x y7 W=>∃ (Bx:Nat) (A O:Option Bi) (lp:Nat),x.1=AN #[Ae A,Ae O,V Ad lp]∧W.heap[Bx]?= some (Ab #[Ae A,Ae O,V Ad lp] 247 (0,0))∧y7={tmps:= #[hv,Ae (some ⟨w.heap.size,0,none⟩),Ae (some ⟨w.heap.size+1,0,none⟩),hw,hx,Ae (some ⟨hg,0,none⟩),Ae (some ⟨wr.heap.size,0,none⟩),Ae (some ⟨wr.heap.size+1,0,none⟩),Ae (some ⟨Bx,0,none⟩),hy,hz,x0,x1,x2,x3,x4,u16,x5,x6,x7,x8,x9,xa,xb,xc,J (some ⟨b,o,none⟩) d g,V Ad d,V Ad i,AE true,V Ad i,Ae (some ⟨b,o+i*4,none⟩),AN #[Aa C,J PA np r,J s H t,J v nb y],AN #[Aa C,J PA np r,J s H t,J v nb y],ER (.func 185) #[] #[Ae (some ⟨wr.heap.size+1+1,0,none⟩)],AN #[Ae A,Ae O,V Ad lp],xd,xe,xf,xg,xh,xi,xj,xk,xl,xm,xn,xo,xp,xq,xr],defers:=[]})
    (fun x y7 _ X u1 row y6 zi yy=>by
     obtain⟨Bx,A,O,lp,h1,y8,zj⟩:=y6
     refine⟨Bx,A,O,lp,h1,?_,zj⟩
     rw [zi.block Bx (Ag.1 y8).1 (fun e=>by
      obtain⟨_,u2,yz,zk⟩:=yy Bx e.symm
      rw [y8]at yz
      cases yz
      cases zk)]
     exact y8)
    ?assign ?body ?done ?stop
   case assign=>
    rintro l pre x W K I y9;obtain⟨A,O,lp,S⟩:=zn5 x;dsimp only;rw [S]
    gi_wp2
    exact y9 _ _ ((KeepsOthers.alloc _ _).from _) ((GP _ W).alloc I.size _) (I.alloc I.size _) ⟨W.heap.size,A,O,lp,S,Aj W _,rfl⟩
   case body=>
    rintro l pre x y7 W u3 ⟨u4,yy⟩ I ⟨Bx,A,O,lp,S,zl,rfl⟩ u5;have z0:=D (zn6 p f U W6 W j (some ⟨b,o,none⟩) PA s v m g r t nb y M C I zh x);rw [←yg,←h4,←y4.1,←y4.2.1,S]at z0
    gi_wp2_with (first|refine NK rfl 240 _ rfl hg 0 rfl _ [J j E m,J (some ⟨b,o,none⟩) d g,Bj (some M)] (Wo (CE I zg)) Dz rfl QZ ?_|refine NK rfl 109 _ rfl (wr.heap.size+1) 0 rfl _ [Aa C,J PA np r,J s H t,J v nb y] (Wo (CE I yx)) Bg rfl Nb ?_|refine NK rfl 247 _ rfl Bx 0 rfl _ [Ae A,Ae O,V Ad lp] (Wo zl) Hi rfl eG ?_)
    refine⟨trivial,(CallsIn.inRound l (FM.2 z0)).mono ?_⟩;rintro e u6 ⟨rfl,ya⟩
    gi_wp2
    exact⟨(zB5 ya).from _,Jq ya I.size,I.trans (Jq ya I.size)⟩
   case done=>
    rintro L xs W hk _ I y9
    gi_wp2
    have zm:Ext W3 W:=P.trans (R.trans I);have zn:wr.heap.size≤W6.heap.size:=R.size;refine⟨⟨i+1,(i:Int)+1,L::h2,_,_,_,_,_,_,_,_,_,_,_,_,_,_,_,_,_,_,_,_,_,_,_,_,_,_,_,_,_,_,_,_,_,_,_,_,_,_,_,_,_,_,_,_,rfl,by omega,by omega,D zm,D ⟨IZ.2 ⟨fun q=>?_,Q.1⟩,fun z1 hl=>?_⟩⟩,by simp [AX];omega⟩
    ·have:=(Ag.1 (Q.2 L q).2).1;omega
    ·rcases AH.1 hl with rfl|hl
     ·exact⟨AL P.size (AL zn hk),y9⟩
     ·exact⟨(Q.2 z1 hl).1,CE (R.trans I) (Q.2 z1 hl).2⟩
   case stop=>
    rintro L c pre W _ _ xt _;exact xt.elim
  ·have zo:i=d:=by omega
   subst zo;have h8:=D (hr wr (h0.trans P));have zp:w.heap.size+1<W3.heap.size:=(Ag.1 (hr _ h0)).1;have u7:=bk h8 0;have u8:=bk h8 1;have u9:=JF h8 0;have f1:=JF h8 1;have hm:=JJ h8 0 (V Ad 0);have ua:=bk hm 1;have ub:=JF hm 1;have zq:=D (JJ hm 1 (V Ad 0));clear hm
   gi_wp2
   refine bK W3.heap.size h2 _ (AL P.size (by simp)) Q.1 (fun L hk=>⟨(Q.2 L hk).1,?_⟩) (fun w' S=>⟨_,FZ results102 _ _ (w.heap.size+1) 26 #[V Ad 0,V Ad 0] (0,0) _ rfl ((S.block _ zp).trans zq) Bd rfl Pk,rfl,?_⟩)
   ·have h1:=Q.2 L hk;rw [AY _ _ _ _ (by have:=h1.1;show L≠w.heap.size+1;omega),AY _ _ _ _ (by have:=h1.1;show L≠w.heap.size+1;omega)];exact h1.2
   ·have zr:Ext w wr:=(h6.trans h0).trans P;exact Below.trans ((zr.setCell (p:=⟨w.heap.size+1,0,none⟩) (CA _) _).setCell (p:=⟨w.heap.size+1,1,none⟩) (CA _) _) (Jq S (by omega))
end
end Go.Proofs.YtmkomefmgcpnbaaGreatDoor

import Derived.Test.YtmkomefmgcpnbaaGreatDoorMg27
set_option linter.all false
set_option maxHeartbeats 12800000
set_option maxRecDepth 100000
namespace Pm
open _root_.Bool renaming and_eq_true→Ah
open _root_.List renaming getElem?_cons_succ→DG,length_cons→Am,mem_cons→AH,mem_of_getElem?→AD
open _root_.Nat renaming le_of_ble_eq_true→Ai,le_refl→Aw,zero_add→BF,zero_le→Dd
theorem zN6:∀ (l:List Nat)(i:Nat)(t:Tr)(mem:Nat→Nat){k:Nat→Tr→Option (Nat×List Nat)}{c:Nat×List Nat},(∀j,t.get j=mem j)→(∀j,i≤j→mem j=0)→ofF l i t k=some c→i+l.length≤65536→
 (∀x∈l,x<4294967296)∧∃ d,(∀j,d.get j=if i≤j then l[j - i]?.getD 0 else mem j)∧k (i+l.length) d=some c
 |[],i,t,mem,k,c,e,f,a,_=>by
  refine⟨fun x b=>(by cases b),t,fun j=>?_,a⟩;rw [e j];by_cases q:i≤j
  ·rw [if_pos q,f j q];simp
  ·rw [if_neg q]
 |x::l,i,t,mem,k,c,e,f,a,g=>by
  rw [ofF,zF1]at a;obtain⟨b,a⟩:=MV a;have b:=Nz b;rw [Pb]at a;rw [Am]at g;obtain⟨h1,d,h,m⟩:=zN6 l (i+1) _ (upd mem i x) (WH e (by omega) x) (fun j o=>by unfold upd;rw [if_neg (by omega)];exact f j (by omega)) a (by omega);refine⟨fun n hy=>?_,d,fun j=>?_,by rw [Am,show i+(l.length+1)=i+1+l.length by omega];exact m⟩
  ·rcases AH.1 hy with rfl|hy
   ·exact b
   ·exact h1 n hy
  ·rw [h j];by_cases q:i+1≤j
   ·rw [if_pos q,if_pos (by omega),show j - i=(j - (i+1))+1 by omega,DG]
   ·rw [if_neg q];unfold upd;by_cases q2:j=i
    ·subst q2;rw [if_pos rfl,if_pos (Aw _)];simp
    ·rw [if_neg (by omega),if_neg (by omega)]
theorem yK:∀ (l:List Nat)(i:Nat)(t:Tr){k:Nat→Tr→Option (Nat×List Nat)}{b:Nat×List Nat},ofF l i t k=some b→∃ c,k (i+l.length) c=some b
 |[],i,t,k,b,a=>⟨t,a⟩
 |x::l,i,t,k,b,a=>by
  rw [ofF,zF1]at a;obtain⟨-,a⟩:=MV a;rw [Pb]at a;obtain⟨c,a⟩:=yK l _ _ a;exact⟨c,by rw [Am,show i+(l.length+1)=i+1+l.length by omega];exact a⟩
theorem z04 {f:Nat}{inp L:List Nat}{d:Nat×List Nat}(b:mI f inp L=some d):0<L.length∧L.length≤65536∧(∀x∈L,x<4294967296)∧Tp f (ms0 L inp) d:=by
 unfold mI at b;obtain⟨n,e⟩:=yK L 0 .z b;obtain⟨c, -⟩:=MV e;rw [BF,Ah]at c;have h1:=Nz c.1;have g:=Ai c.2;obtain⟨h,t,k,l⟩:=zN6 L 0 .z (fun _=>0) (fun j=>by cases j<;>rfl) (fun _ _=>rfl) b (by omega);obtain⟨-,m⟩:=MV l;refine⟨h1,g,h,zw0 f m ⟨fun i=>?_,rfl,rfl,rfl,rfl,rfl,rfl,rfl,by show 0≤100;omega⟩⟩;rw [k i,if_pos (Dd _),Nat.sub_zero];rfl
def ts0 (L inp:List Nat):TS:=⟨fun i=>L[i]?.getD 0,fun _=>0,inp,[],0,0,0⟩
theorem zN7 {L inp:List Nat}{j N:Nat}{m:MS}(b:it j (ms0 L inp)=m)(c:m.stop=1)(d:j≤N):(UK N (ts0 L inp)).stop=1∧(UK N (ts0 L inp)).code=m.code∧(UK N (ts0 L inp)).out=m.out:=by
 have a:Rel (UK N (ts0 L inp)) (it N (ms0 L inp)):=wZ N ⟨rfl,rfl,rfl,rfl,rfl,rfl,rfl,rfl,rfl⟩;rw [show N=j+(N - j) by omega,zL4,b,lG (by omega) (N - j),show j+(N - j)=N by omega]at a;exact⟨a.stop.trans c,a.code,a.out⟩
theorem wf0 {L inp:List Nat}(a:∀ x∈L,x<4294967296)(b:∀ x∈inp,x<256):Re (ts0 L inp):=by
 refine⟨fun i=>?_,fun _=>(by show 0<4294967296;omega),b,fun x c=>(by cases c),Dd _,(by show 0<4294967296;omega),(by show 0<4294967296;omega),Dd _⟩;show L[i]?.getD 0<_
 cases d:L[i]? with
 |none=>show 0<4294967296;omega
 |some x=>exact a x (AD d)
end Pm
namespace Go.Proofs.YtmkomefmgcpnbaaGreatDoor
open Tryz Go Go.Proofs Go.RowKit
open Pg (Bs)
open Pm (TS ts0)
open Pm.Acc (dg iH UO Mf)
open Go renaming Addr→Bi,Calls→As,Ending→BX,Program→BR,TypeId→AK,Value→h,World→Y,heap_alloc_new→Aj,strOfNums→GO,maxLen→Bk,heap_alloc2_new→Ay,heap_alloc2_old→AP
open Go.ByteArray renaming toList_eq→Br
open Go.Ending renaming returned→Ak
open Go.IntKind renaming i64→Ad,u8→BJ,u32→Af
open Go.Lib renaming hid→D
open Go.Obj renaming cells→Ab
open Go.Proofs renaming intOf→AX
open Go.Proofs.Tryz renaming underlying23→B8,underlying5→B2,underlying9→A8,results6→Ie,underlying26→Bd,func3→Hk
open Go.Result renaming ok→Ez
open Go.RowKit renaming Hid→AA
open Go.Value renaming bool→AE,int→V,slice→J,string→Aa,agg→AN,tuple→AZ
open _root_.List renaming length_map→AI,length_nil→Av,map_cons→B7,mem_map→D4,foldl_append→FB,getD_eq_getElem?_getD→B0,getElem?_drop→Fq,getElem?_eq_getElem→Al,getElem?_map→Bh,length_drop→Cr,take_succ_eq_append_getElem→FT,drop_drop→ET,extract_eq_take_drop→DY,map_take→EG,length_cons→Am,map_map→GL,mem_cons→AH
open _root_.List.cons renaming injEq→Fg
open _root_.UInt8 renaming toNat→Hz,toNat_lt→Fw
open _root_.Nat renaming zero_add→BF,beq→Az,ble→A6,eq_of_beq_eq_true→Ap,pow_succ→D6,sub_self→GJ,le_refl→Aw
open _root_.Array renaming length_toList→Ed,getElem?_eq_getElem→Bc,getElem?_eq_some_iff→Ag,toList_extract→ES
open _root_.Bool renaming and_eq_true→Ah,eq_false_iff→AJ,or_eq_true→DZ
open _root_.Or renaming inl→AO,inr→AB
open _root_.ByteArray renaming data_extract→Er,size_extract→DO
open Go.RowKit.Below renaming heap_setCell→AY,grown→Hu
theorem yL {P:BR}{w:Y}{A:Option Bi}{l:List Int}(h:Sl w BJ A l)(src e dst:AK)(d:P.underlying src=some (.slice e))(f:P.underlying e=some (.int BJ))(g:P.underlying dst=some .string)(c:Nat):
 (convert src dst (J A l.length c)).run P w=Ez (Aa (GO l)) w:=by
 cases l with
 |nil=>
  cases A with
  |none=>simp only [Av];rw [run_convert_bytes_nil w src e d f 0 c dst g];rfl
  |some a=>
   simp only [Av];rw [run_convert_bytes_string w src dst e _ 0 c d f g,run_bytesToString w _ 0 c [] (by simp [loadCells,loadCellsFrom])];rfl
 |cons x j=>
  obtain⟨b,o,rfl,_⟩:=h.at_ (i:=0) (by simp)
  refine run_convert_bytes_arg w src e d f b o _ c (x::j) rfl (fun i k=>?_) dst g;obtain⟨n,p,m,hc⟩:=h.at_ k
  cases m;rw [hc];simp
theorem mK {l m:List Int}(d:Byt l)(f:Byt m)(a:(GO l).toList=(GO m).toList):l=m:=by
 rw [Br,Br,strOfNums_data,strOfNums_data]at a
 induction l generalizing m with
 |nil=>cases m with
  |nil=>rfl
  |cons b s=>simp at a
 |cons x i g=>cases m with
  |nil=>simp at a
  |cons b s=>
   simp only [B7,Fg]at a;obtain⟨h1,h⟩:=a;have j:=d x (by simp);have hy:=f b (by simp);have e:x.toNat=b.toNat:=by
    have:=congrArg Hz h1;simp only [UInt8.toNat_ofNat']at this;omega
   have:x=b:=by omega
   subst this;rw [g (fun z c=>d z (by simp [c])) (fun z c=>f z (by simp [c])) h]
theorem mM {l m:List Int}(b:Byt l)(c:Byt m):((GO l).toList==(GO m).toList)=decide (l=m):=by
 by_cases a:l=m
 ·subst a;simp
 ·have:(GO l).toList≠(GO m).toList:=fun e=>a (mK b c e)
  simp [a,this]
theorem zH1 {U:Nat→Prop}{w:Y}:∀ {l:List Nat}{xs:List h},NF KB U w l xs→xs=(l.map fun(n:Nat)=>(n:Int)).map (V BJ)
 |[],_,a=>a
 |n::l,_,⟨x,d,h1,b,c⟩=>by
  rw [h1,show x=[V BJ n]from b,zH1 c];rfl
theorem UQ {U V:Nat→Prop}(l m:List Nat)(a b:h)(w:Y)(h1:Ju KB U w l a)(q:Ju KB V w m b)(g:∀ n∈l,n<256)(i:∀ n∈m,n<256):
 As prog 10 #[a,b] w fun e w'=>e=Ak (AE (decide (l=m)))∧w=w':=by
 obtain⟨A,c,xs,rfl, -, -, -,s1,j⟩:=h1;obtain⟨z,d,B,rfl, -, -, -,k,o⟩:=q;obtain rfl:=zH1 j;obtain rfl:=zH1 o;have r:=yL (l:=l.map fun(n:Nat)=>(n:Int)) s1.cells 23 5 9 B8 B2 A8 c;have s:=yL (l:=m.map fun(n:Nat)=>(n:Int)) k.cells 23 5 9 B8 B2 A8 d;rw [AI]at r s;have p:∀ l:List Nat,(∀n∈l,n<256)→Byt (l.map fun(n:Nat)=>(n:Int)):=fun l f x t=>by
  obtain⟨n,u,rfl⟩:=D4.1 t;have:=f n u;omega
 have v:=D (mM (p l g) (p m i));have y:AA (decide ((l.map fun(n:Nat)=>(n:Int))=m.map fun(n:Nat)=>(n:Int))=decide (l=m)):=D (by
  rw [decide_eq_decide]
  exact⟨fun e=>List.map_inj_right (fun x C f=>by exact Int.ofNat.inj f) |>.1 e,fun e=>by rw [e]⟩)
 clear j o s1 k g i;go_enter func10,ntmps10;go_wp2;go_ret;exact⟨congrArg (fun b=>Ak (AE b)) (v.trans y),rfl⟩
def yM:List ByteArray:=[⟨#[97,115,109]⟩,⟨#[100,105,103,101,115,116]⟩,⟨#[115,104,97,114,101,115]⟩,⟨#[99,111,114,114,101,99,116]⟩,⟨#[117,110,115,113,117,101,101,122,101]⟩,⟨#[115,116,97,99,107]⟩,⟨#[97,99,99]⟩,⟨#[116,97,112,101]⟩]
def NmR (w:Y)(e:BX)(w':Y):Prop:=∃ b c,e=Ak (J (some ⟨b,0,none⟩) 8 c)∧w'.heap[b]?= some (Ab (yM.map Aa).toArray 9)∧Ext w w'
theorem z05 (w:Y):As prog 8 #[] w (NmR w):=by
 go_enter func8,ntmps8;go_wp2;go_ret;exact⟨_,_,rfl,Aj _ _,(Ext.refl _).alloc _⟩
theorem z06 (w:Y):As prog 9 #[] w (NmR w):=by
 go_enter func9,ntmps9;go_wp2;go_ret;exact⟨_,_,rfl,Aj _ _,(Ext.refl _).alloc _⟩
theorem zH2 (b c d e:Nat)(w:Y)(h1:w.heap[b]?= some (Ab (yM.map Aa).toArray 9))(g:w.heap[d]?= some (Ab (yM.map Aa).toArray 9)):
 As prog 7 #[J (some ⟨b,0,none⟩) 8 c,J (some ⟨d,0,none⟩) 8 e] w fun e w'=>e=Ak (AE true)∧Ext w w':=by
 have h:=D (fun i (a:i<8) W (x:Ext w W)=>(⟨yM[i]'a,by rw [JA (CE x h1) i];simp [yM.getElem?_eq_getElem (show i<yM.length from a)];rfl,by rw [JA (CE x g) i];simp [yM.getElem?_eq_getElem (show i<yM.length from a)];rfl⟩:∃ t,W.cell? ⟨b,i,none⟩=some (Aa t)∧W.cell? ⟨d,i,none⟩=some (Aa t)));clear h1 g;go_enter func7,ntmps7;go_wp2;go_loopw [5] (fun s j=>∃ i:Nat,s=V Ad i∧i≤8∧AA (Ext w j)) (fun s _=>8 - (AX s).toNat)
 case atStart=>exact⟨0,rfl,by omega,D (Ext.refl w)⟩
 case round=>
  obtain⟨i,rfl,a,f⟩:=hrel;by_cases k:i<8
  ·obtain⟨t,l,q2⟩:=h i k wr f;have m:wr.drew.cell? ⟨b,i,none⟩=some (Aa t):=l;have n:wr.drew.cell? ⟨d,i,none⟩=some (Aa t):=q2;go_upto_region 6 with fail
   go_quiet (fail)
   go_wp2;go_roundw
   case rel=>exact⟨i+1,by go_num,by omega,D (f.drewN _)⟩
   case measure=>simp [AX];omega
  ·obtain rfl:i=8:=by omega
   go_wp2_with fail;go_ret;exact⟨rfl,f⟩
theorem mO (name:ByteArray)(i:Nat)(f:Lh name=some (OI i)){L:List Nat}(g:bn 1000 (bs (OI i))=some L)(j:0<L.length)(h1:L.length≤65536)(k:∀ x∈L,x<4294967296)(inp:List Nat)(U:Nat→Prop)(a:h)(m:Int)(w:Y)(l:Ju KB U w inp a)(n:Mw a)(hlen:inp.length≤400000)(o:∀ x∈inp,x<256)(d:P8 w m)(s:TS)(q:s=Pm.UK 50000000 (ts0 L inp))(r:s.stop=1):
 As prog 5 #[Aa name,a] w (zv9 w s):=by
 obtain⟨t,p,u,v,y,z,A,B⟩:=zE1 g;obtain⟨e,C,D⟩:=yJ4 v y z;refine yL8 name L w (fun W x=>zr4 name (OI i) p L W f (fun b c=>?_) fun b V G F c E H I=>zE2 p L m V G F b E H (d.ext (x.trans c)) I e C D A B) j h1 inp U a l n hlen (Pm.wf0 k o) s q r;have:=zj1 (bs (OI i)) 1000 (by omega) p b (d.ext (x.trans c)).tab t u e;rw [VD]at this;exact this
theorem Yn (name:ByteArray)(i:Nat)(l:Lh name=some (OI i)){f:Nat}(D:f≤50000000){inp:List Nat}{c:Nat×List Nat}(d:(bn 1000 (bs (OI i))).bind (Pm.mI f inp)=some c)(U:Nat→Prop)(a:h)(m:Int)(w:Y)(n:Ju KB U w inp a)(o:Mw a)(hlen:inp.length≤400000)(p:∀ x∈inp,x<256)(q:P8 w m):
 As prog 5 #[Aa name,a] w fun e w'=>∃ b g,e=Ak (AZ #[b,V Af c.1,AN NU])∧Ju KB g w' c.2 b∧Ext w w':=by
 obtain⟨L,r,d⟩:=Option.bind_eq_some_iff.1 d;obtain⟨s,h1,t,k,E,u,v,y⟩:=Pm.z04 d;obtain⟨z,A,B⟩:=Pm.zN7 (N:=50000000) rfl u (by omega);refine(mO name i l r s h1 t inp U a m w n o hlen p q _ rfl z).mono ?_
 rintro e w' ⟨b,g,rfl,j,C⟩;rw [B,y]at j;exact⟨b,g,by rw [A,v],j,C⟩
theorem z07:Lh ⟨#[97,99,99]⟩=some (OI 16):=by
 unfold Lh;rw [if_neg (by decide),if_pos rfl]
theorem zH3:Lh ⟨#[115,116,97,99,107]⟩=some (OI 13):=by
 unfold Lh;rw [if_neg (by decide),if_neg (by decide),if_pos rfl]
theorem z08:Lh ⟨#[117,110,115,113,117,101,101,122,101]⟩=some (OI 10):=by
 unfold Lh;rw [if_neg (by decide),if_neg (by decide),if_neg (by decide),if_pos rfl]
theorem z09:Lh ⟨#[99,111,114,114,101,99,116]⟩=some (OI 7):=by
 unfold Lh;rw [if_neg (by decide),if_neg (by decide),if_neg (by decide),if_neg (by decide),if_pos rfl]
theorem z11:Lh ⟨#[115,104,97,114,101,115]⟩=some (OI 4):=by
 unfold Lh;rw [if_neg (by decide),if_neg (by decide),if_neg (by decide),if_neg (by decide),if_neg (by decide),if_pos rfl]
theorem mP (U:Nat→Prop)(w:Y):∀ l:List Nat,NF KB U w l (l.map fun(n:Nat)=>V BJ n)
 |[]=>rfl
 |n::l=>⟨[V BJ n],_,rfl,rfl,mP U w l⟩
theorem Rs {W:Y}{b:Nat}(l:List Nat){d:AK}{cs:Array h}(e:W.heap[b]?= some (Ab cs d))(f:cs=(l.map fun(n:Nat)=>V BJ n).toArray){n c:Nat}(g:n=l.length)(hc:n≤c)(j:c≤Bk):Ju KB (fun k=>k=b) W l (J (some ⟨b,0,none⟩) n c):=by
 subst g f;refine⟨_,c,_,rfl,hc,j,fun q=>(by cases q),⟨fun i x m=>⟨_,rfl,?_⟩,fun a q=>by cases q;rfl⟩,mP _ _ l⟩;rw [MW,BF,JA e];simpa using m
theorem zZ4 (m:Int)(w:Y)(L:P8 w m):As prog 4 #[] w fun e w'=>e=Ak (AE true)∧Ext w w':=by
 have x:=D L;have M:=D (Ext.refl w);clear L;go_enter func4,ntmps4;have i:=D (Aj w (Ab #[V BJ 1,V BJ 1,V BJ 2,V BJ 0,V BJ 3,V BJ 65,V BJ 66] 5));have d:=D (M.alloc (Ab #[V BJ 1,V BJ 1,V BJ 2,V BJ 0,V BJ 3,V BJ 65,V BJ 66] 5));have j:=D ((Ext.refl w).alloc (Ab #[V BJ 1,V BJ 1,V BJ 2,V BJ 0,V BJ 3,V BJ 65,V BJ 66] 5));go_upto_region 2 with(go_at_call 5;refine(Yn _ 4 z11 (by decide) yJ _ _ m _ (Rs [1,1,2,0,3,65,66] i rfl rfl (by decide) (by decide)) (fun _ _ _ _ _ s=>by cases s;rfl) (by decide) (by decide) (x.ext d)).mono ?_;rintro e y ⟨U,hd,rfl,k,f⟩);have a:=(Ext.refl y).alloc (Ab NU 26);have E:=D ((d.trans f).trans a);have g:=D (k.ext a);have l:=Aj y (Ab NU 26);have hy:=(j.trans f).trans a;have b:=D l;clear i d j k f hy a l M;generalize y.alloc (Ab NU 26)=W1 at E g b ⊢;obtain⟨he,n⟩:=JH y.heap.size;rw [←n]at b ⊢;clear n;have i:=D (Aj W1 (Ab #[V BJ 2,V BJ 0,V BJ 1,V BJ 3,V BJ 3] 5));have d:=D (E.alloc (Ab #[V BJ 2,V BJ 0,V BJ 1,V BJ 3,V BJ 3] 5));have j:=D ((Ext.refl W1).alloc (Ab #[V BJ 2,V BJ 0,V BJ 1,V BJ 3,V BJ 3] 5));go_upto_region 3 with(go_at_call 5;refine(Yn _ 7 z09 (by decide) tN _ _ m _ (Rs [2,0,1,3,3] i rfl rfl (by decide) (by decide)) (fun _ _ _ _ _ s=>by cases s;rfl) (by decide) (by decide) (x.ext d)).mono ?_;rintro e z ⟨W,hf,rfl,k,f⟩);have a:=(Ext.refl z).alloc (Ab NU 26);have F:=D ((d.trans f).trans a);have o:=D (k.ext a);have l:=Aj z (Ab NU 26);have hy:=(j.trans f).trans a;have p:=D (g.ext hy);have q:=D (CE hy b);clear g b;have g:=p;have b:=q;clear p q;have h:=D l;clear i d j k f hy a l E;generalize z.alloc (Ab NU 26)=W2 at F g b o h ⊢;obtain⟨hg,n⟩:=JH z.heap.size;rw [←n]at h ⊢;clear n;have i:=D (Aj W2 (Ab #[V BJ 0,V BJ 0,V BJ 0,V BJ 9,V BJ 8] 5));have d:=D (F.alloc (Ab #[V BJ 0,V BJ 0,V BJ 0,V BJ 9,V BJ 8] 5));have j:=D ((Ext.refl W2).alloc (Ab #[V BJ 0,V BJ 0,V BJ 0,V BJ 9,V BJ 8] 5));go_upto_region 4 with(go_at_call 5;refine(Yn _ 10 z08 (by decide) mJ _ _ m _ (Rs [0,0,0,9,8] i rfl rfl (by decide) (by decide)) (fun _ _ _ _ _ s=>by cases s;rfl) (by decide) (by decide) (x.ext d)).mono ?_;rintro e A ⟨X,hh,rfl,k,f⟩);have a:=(Ext.refl A).alloc (Ab NU 26);have G:=D ((d.trans f).trans a);have t:=D (k.ext a);have l:=Aj A (Ab NU 26);have hy:=(j.trans f).trans a;have p:=D (g.ext hy);have q:=D (CE hy b);clear g b;have g:=p;have b:=q;clear p q;have u:=D (o.ext hy);have v:=D (CE hy h);clear o h;have o:=u;have h:=v;clear u v;have r:=D l;clear i d j k f hy a l F;generalize A.alloc (Ab NU 26)=W3 at G g b o h t r ⊢;obtain⟨hi,n⟩:=JH A.heap.size;rw [←n]at r ⊢;clear n;have i:=D (Aj W3 (Ab #[V BJ 9,V BJ 0,V BJ 5,V BJ 0,V BJ 22,V BJ 2,V BJ 6,V BJ 23,V BJ 0,V BJ 33] 5));have d:=D (G.alloc (Ab #[V BJ 9,V BJ 0,V BJ 5,V BJ 0,V BJ 22,V BJ 2,V BJ 6,V BJ 23,V BJ 0,V BJ 33] 5));have j:=D ((Ext.refl W3).alloc (Ab #[V BJ 9,V BJ 0,V BJ 5,V BJ 0,V BJ 22,V BJ 2,V BJ 6,V BJ 23,V BJ 0,V BJ 33] 5));go_upto_region 5 with(go_at_call 5;refine(Yn _ 13 zH3 (by decide) zG9 _ _ m _ (Rs [9,0,5,0,22,2,6,23,0,33] i rfl rfl (by decide) (by decide)) (fun _ _ _ _ _ s=>by cases s;rfl) (by decide) (by decide) (x.ext d)).mono ?_;rintro e B ⟨Z,hj,rfl,k,f⟩);have a:=(Ext.refl B).alloc (Ab NU 26);have H:=D ((d.trans f).trans a);have I:=D (k.ext a);have l:=Aj B (Ab NU 26);have hy:=(j.trans f).trans a;have p:=D (g.ext hy);have q:=D (CE hy b);clear g b;have g:=p;have b:=q;clear p q;have u:=D (o.ext hy);have v:=D (CE hy h);clear o h;have o:=u;have h:=v;clear u v;have N:=D (t.ext hy);have O:=D (CE hy r);clear t r;have t:=N;have r:=O;clear N O;have C:=D l;clear i d j k f hy a l G;generalize B.alloc (Ab NU 26)=W4 at H g b o h t r I C ⊢;obtain⟨hk,n⟩:=JH B.heap.size;rw [←n]at C ⊢;clear n;have c1:=bk b 0;have h0:=bk h 0;have h1:=bk r 0;have h2:=bk C 0;go_upto_region 7 with(first|(go_at_call 8;refine(z05 _).mono ?_;rintro e hl ⟨hm,q5,rfl,P,Q⟩)|(go_at_call 9;refine(z06 _).mono ?_;rintro e hn ⟨ho,q6,rfl,R,K⟩)|(go_at_call 7;refine(zH2 _ _ _ _ _ (CE K P) R).mono ?_;rintro e h3 ⟨rfl,S⟩));have hy:=(Q.trans K).trans S;obtain⟨c,T⟩:=JH h3;rw [←T]at hy ⊢;have h4:=D (H.trans hy);have h5:=D (g.ext hy);have h6:=D (o.ext hy);have h7:=D (t.ext hy);have h8:=D (I.ext hy);clear T Q K S P R hy g o t I c1 h0 h1 h2 b h r C H;have h9:AA (As prog 10 #[U,J (some ⟨c.heap.size,0,none⟩) 2 2] (c.alloc (Ab #[V BJ 65,V BJ 66] 5)) fun e w'=>e=Ak (AE true)∧c.alloc (Ab #[V BJ 65,V BJ 66] 5)=w'):=D (UQ [65,66] [65,66] _ _ _ (h5.ext ((Ext.refl c).alloc (Ab #[V BJ 65,V BJ 66] 5))) (Rs [65,66] (NR (by simp)) rfl rfl (by decide) (by decide)) (by decide) (by decide));have ha:AA (As prog 10 #[W,J (some ⟨c.heap.size+1,0,none⟩) 3 3] ((c.alloc (Ab #[V BJ 65,V BJ 66] 5)).alloc (Ab #[V BJ 1,V BJ 3,V BJ 2] 5)) fun e w'=>e=Ak (AE true)∧(c.alloc (Ab #[V BJ 65,V BJ 66] 5)).alloc (Ab #[V BJ 1,V BJ 3,V BJ 2] 5)=w'):=D (UQ [1,3,2] [1,3,2] _ _ _ (h6.ext (((Ext.refl c).alloc (Ab #[V BJ 65,V BJ 66] 5)).alloc (Ab #[V BJ 1,V BJ 3,V BJ 2] 5))) (Rs [1,3,2] (NR (by simp)) rfl rfl (by decide) (by decide)) (by decide) (by decide));have hb:AA (As prog 10 #[X,J (some ⟨c.heap.size+1+1,0,none⟩) 2 2] (((c.alloc (Ab #[V BJ 65,V BJ 66] 5)).alloc (Ab #[V BJ 1,V BJ 3,V BJ 2] 5)).alloc (Ab #[V BJ 9,V BJ 8] 5)) fun e w'=>e=Ak (AE true)∧((c.alloc (Ab #[V BJ 65,V BJ 66] 5)).alloc (Ab #[V BJ 1,V BJ 3,V BJ 2] 5)).alloc (Ab #[V BJ 9,V BJ 8] 5)=w'):=D (UQ [9,8] [9,8] _ _ _ (h7.ext ((((Ext.refl c).alloc (Ab #[V BJ 65,V BJ 66] 5)).alloc (Ab #[V BJ 1,V BJ 3,V BJ 2] 5)).alloc (Ab #[V BJ 9,V BJ 8] 5))) (Rs [9,8] (NR (by simp)) rfl rfl (by decide) (by decide)) (by decide) (by decide));have hc:AA (As prog 10 #[Z,J (some ⟨c.heap.size+1+1+1,0,none⟩) 1 1] ((((c.alloc (Ab #[V BJ 65,V BJ 66] 5)).alloc (Ab #[V BJ 1,V BJ 3,V BJ 2] 5)).alloc (Ab #[V BJ 9,V BJ 8] 5)).alloc (Ab #[V BJ 66] 5)) fun e w'=>e=Ak (AE true)∧(((c.alloc (Ab #[V BJ 65,V BJ 66] 5)).alloc (Ab #[V BJ 1,V BJ 3,V BJ 2] 5)).alloc (Ab #[V BJ 9,V BJ 8] 5)).alloc (Ab #[V BJ 66] 5)=w'):=D (UQ [66] [66] _ _ _ (h8.ext (((((Ext.refl c).alloc (Ab #[V BJ 65,V BJ 66] 5)).alloc (Ab #[V BJ 1,V BJ 3,V BJ 2] 5)).alloc (Ab #[V BJ 9,V BJ 8] 5)).alloc (Ab #[V BJ 66] 5))) (Rs [66] (NR (by simp)) rfl rfl (by decide) (by decide)) (by decide) (by decide));go_wp2_with (go_at_call 10;first|(with_reducible refine h9.out.mono ?_;rintro e w' ⟨rfl,rfl⟩)|(with_reducible refine ha.out.mono ?_;rintro e w' ⟨rfl,rfl⟩)|(with_reducible refine hb.out.mono ?_;rintro e w' ⟨rfl,rfl⟩)|(with_reducible refine hc.out.mono ?_;rintro e w' ⟨rfl,rfl⟩));go_ret;exact⟨rfl,(((h4.alloc _).alloc _).alloc _).alloc _⟩
def Yx (j x:Nat):Bool:=if j=2 then Az x 32 else if j=3 then Az x 43||Az x 45 else if j=9 then Az x 10 else A6 48 x&&A6 x 57
def YR (c:List Nat)(k:Nat):Prop:=∀ j,j<k→Yx j (c.getD j 0)=true
theorem Zo {c:List Nat}{k:Nat}(a:YR c k)(b:Yx k (c.getD k 0)=true):YR c (k+1):=fun j d=>by
 rcases Nat.lt_succ_iff_lt_or_eq.1 d with e|rfl
 ·exact a j e
 ·exact b
def Zp (c:List Nat)(k:Nat):Nat:=(c.take (min k 2)).foldl (fun v d=>10*v+(d - 48)) 0
def dH (c:List Nat)(k:Nat):Nat:=((c.drop 4).take (min (k - 4) 5)).foldl (fun v d=>10*v+(d - 48)) 0
theorem mR (l:List Nat)(j:Nat)(a:j<l.length):(l.take (j+1)).foldl (fun v d=>10*v+(d - 48)) 0=10*(l.take j).foldl (fun v d=>10*v+(d - 48)) 0+(l.getD j 0 - 48):=by
 rw [FT a,FB,B0,Al a];rfl
theorem at_next {c:List Nat}{k:Nat}(a:c.length=10)(b:k<2):Zp c (k+1)=10*Zp c k+(c.getD k 0 - 48):=by
 unfold Zp;rw [show min (k+1) 2=k+1 by omega,show min k 2=k by omega];exact mR c k (by omega)
theorem yP {c:List Nat}{k:Nat}(a:2≤k):Zp c (k+1)=Zp c k:=by
 unfold Zp;rw [show min (k+1) 2=min k 2 by omega]
theorem z13 {c:List Nat}{k:Nat}(a:c.length=10)(b:4≤k)(d:k<9):dH c (k+1)=10*dH c k+(c.getD k 0 - 48):=by
 unfold dH;have:=mR (c.drop 4) (k - 4) (by rw [Cr];omega);rw [B0,Fq,show 4+(k - 4)=k by omega,←B0]at this;rw [show min (k+1 - 4) 5=k - 4+1 by omega,show min (k - 4) 5=k - 4 by omega];exact this
theorem yQ {c:List Nat}{k:Nat}(b:k<4∨9≤k):dH c (k+1)=dH c k:=by
 unfold dH;rw [show min (k+1 - 4) 5=min (k - 4) 5 by omega]
def CdR (w:Y)(c:List Nat)(e:BX)(w':Y):Prop:=∃ a n ok,e=Ak (AZ #[V Ad a,V Ad n,AE ok])∧Ext w w'∧((ok=false∧¬ YR c 10)∨(ok=true∧YR c 10∧a=Zp c 10∧Zp c 10<100∧n=(if c.getD 3 0=45 then -(dH c 10:Int)else dH c 10)))
theorem tO {w w':Y}{c:List Nat}{k:Nat}{a n:Int}(b:k<10)(d:Yx k (c.getD k 0)=false)(x:Ext w w'):CdR w c (Ak (AZ #[V Ad a,V Ad n,AE false])) w':=
 ⟨a,n,false,rfl,x,AO ⟨rfl,fun q=>by have:=q k b;rw [d]at this;cases this⟩⟩
def CdI (c:List Nat)(k A N:Nat):Prop:=YR c k∧A=Zp c k∧N=dH c k∧A<10 ^k∧A<100∧N<10 ^(k - 4)∧N<100000
theorem ym7 {c:List Nat}{k A N x:Nat}(d:CdI c k A N)(e:c.length=10)(a:c.getD k 0=x)(f:k<2)(h1:48≤x)(g:x≤57):CdI c (k+1) (10*A+(x - 48)) N:=by
 obtain⟨h,i,j,l,n,b,m⟩:=d;refine⟨Zo h ?_,by rw [at_next e f,←i,a],by rw [yQ (by omega)];exact j,by rw [D6];omega,?_,by rw [show k+1 - 4=0 by omega];rw [show k - 4=0 by omega]at b;exact b,m⟩
 ·rw [a];unfold Yx;rw [if_neg (by omega),if_neg (by omega),if_neg (by omega)];simp [h1,g]
 ·rcases(by omega:k=0∨k=1)with rfl|rfl<;>simp at l<;>omega
theorem ym8 {c:List Nat}{k A N x:Nat}(b:CdI c k A N)(d:c.length=10)(a:c.getD k 0=x)(e:4≤k)(f:k<9)(h1:48≤x)(g:x≤57):CdI c (k+1) A (10*N+(x - 48)):=by
 obtain⟨h,i,j,n,l,m,o⟩:=b;refine⟨Zo h ?_,by rw [yP (by omega)];exact i,by rw [z13 d e f,←j,a],by rw [D6];omega,l,by rw [show k+1 - 4=(k - 4)+1 by omega,D6];omega,?_⟩
 ·rw [a];unfold Yx;rw [if_neg (by omega),if_neg (by omega),if_neg (by omega)];simp [h1,g]
 ·rcases(by omega:k=4∨k=5∨k=6∨k=7∨k=8)with rfl|rfl|rfl|rfl|rfl<;>simp at m<;>omega
theorem zH5 {c:List Nat}{k A N:Nat}(a:CdI c k A N)(b:k=2∨k=3∨k=9)(d:Yx k (c.getD k 0)=true):CdI c (k+1) A N:=by
 obtain⟨e,f,g,l,h,i,j⟩:=a;refine⟨Zo e d,by rw [yP (by omega)];exact f,by rw [yQ (by omega)];exact g,by rw [D6];omega,h,?_,j⟩;rcases b with rfl|rfl|rfl<;>simp at i ⊢ <;>omega
theorem zZ6 (S:ByteArray)(c:List Nat)(w:Y)(hc:c=(bs S).map Hz)(E:S.size=10):As prog 16 #[Aa S] w (CdR w c):=by
 have r:c.length=10:=by rw [hc,AI,VC,E]
 have s:=D (fun(j:Nat) (n:j<S.size)=>(⟨S[j].toNat,by subst hc;rw [B0,Bh,show(bs S)[j]?= some S[j]from by unfold bs;rw [Al (by rw [Ed];exact n)];rfl];rfl,rfl,Fw _⟩:∃ x:Nat,c.getD j 0=x∧((S[j]'n).toNat:Int)=x∧x<256));have t:=D r;clear hc r;go_enter func16,ntmps16;go_wp2;go_loopw [5,6,7] (fun F G o H=>∃ k A N:Nat,k≤10∧o=V Ad k∧F=V Ad A∧G=V Ad N∧AA (CdI c k A N)∧AA (Ext w H)) (fun _ _ o _=>10 - (AX o).toNat)
 case atStart=>exact⟨0,0,0,by omega,rfl,rfl,rfl,D ⟨fun j n=>by omega,rfl,by simp [dH],by decide,by decide,by decide,by decide⟩,D (Ext.refl w)⟩
 case round=>
  obtain⟨k,A,N,I,rfl,rfl,rfl,a,f⟩:=hrel;have Q:=a.2.2.2.2.1;have R:=a.2.2.2.2.2.2;by_cases u:k<10
  ·obtain⟨x,l,K,L⟩:=s k (by omega);have d:=D l;clear l;rcases(by omega:((k=0∨k=1)∨(k=4∨k=5∨k=6∨k=7∨k=8))∨k=2∨k=3∨k=9)with g|M|O|P
   ·have p:(((⟨#[100,100,32,115,100,100,100,100,100,10]⟩:ByteArray)[k]'(by show k<10;omega)).toNat:Int)=100:=by
     rcases g with(rfl|rfl)|rfl|rfl|rfl|rfl|rfl<;>rfl
    have T:((k:Int)==2)=false:=by simp;omega
    have U:((k:Int)==9)=false:=by simp;omega
    by_cases q:48≤x∧x≤57
    ·have m:inB x 48 57=true:=by unfold inB;rw [decide_eq_true_iff];omega
     have i:=D q;have v:=D g;have W:(48:Int)≤x:=by omega
     have X:(x:Int)≤57:=by omega
     rcases g with g|g
     ·have y:k<2:=by omega
      clear q g;go_wp2_with (go_at_call 28;refine(Zq _ _ _ _).mono ?_;rintro e w' ⟨rfl,rfl⟩;rw [m])
      go_quiet (fail)
      go_wp2;go_roundw
      case rel=>exact⟨k+1,10*A+(x - 48),N,by omega,by go_num,by go_num,rfl,D (ym7 a t d y i.1 i.2),D (f.drewN _)⟩
      case measure=>simp [AX];omega
     ·have y:¬ k<2:=by omega
      clear q g;go_wp2_with (go_at_call 28;refine(Zq _ _ _ _).mono ?_;rintro e w' ⟨rfl,rfl⟩;rw [m])
      go_quiet (fail)
      go_wp2;go_roundw
      case rel=>exact⟨k+1,A,10*N+(x - 48),by omega,by go_num,rfl,by go_num,D (ym8 a t d (by have:=v.out;omega) (by have:=v.out;omega) i.1 i.2),D (f.drewN _)⟩
      case measure=>simp [AX];omega
    ·have m:inB x 48 57=false:=by unfold inB;rw [decide_eq_false_iff_not];omega
     have b:AA (Yx k (c.getD k 0)=false):=D (by
      rw [d];unfold Yx;rw [if_neg (by omega),if_neg (by omega),if_neg (by omega),AJ]
      intro h
      rw [Ah,Nat.ble_eq,Nat.ble_eq]at h
      exact q h)
     clear g q;go_wp2_with (go_at_call 28;refine(Zq _ _ _ _).mono ?_;rintro e w' ⟨rfl,rfl⟩;rw [m])
     go_quiet (fail)
     go_wp2
     go_ret3
     exact tO u b (f.drewN _)
   ·subst M;have p:(((⟨#[100,100,32,115,100,100,100,100,100,10]⟩:ByteArray)[2]'(by decide)).toNat:Int)=32:=by rfl
    by_cases q:x=32
    ·subst q;have b:AA (Yx 2 (c.getD 2 0)=true):=D (by rw [d];rfl);go_wp2_with (go_at_call 28;refine(Zq _ _ _ _).mono ?_;rintro e w' ⟨rfl,rfl⟩)
     go_quiet (fail)
     go_wp2;go_roundw
     case rel=>exact⟨3,A,N,by omega,rfl,rfl,rfl,D (zH5 a (by omega) b),D (f.drewN _)⟩
     case measure=>simp [AX]
    ·have b:AA (Yx 2 (c.getD 2 0)=false):=D (by rw [d,AJ];intro h;exact q (Ap h));have z:((x:Int)==32)=false:=by simp;omega
     have B:((x:Int) != 32)=true:=by simp;omega
     clear q;go_wp2_with (go_at_call 28;refine(Zq _ _ _ _).mono ?_;rintro e w' ⟨rfl,rfl⟩)
     go_quiet (fail)
     go_wp2
     go_ret3
     exact tO (by omega) b (f.drewN _)
   ·subst O;have p:(((⟨#[100,100,32,115,100,100,100,100,100,10]⟩:ByteArray)[3]'(by decide)).toNat:Int)=115:=by rfl
    by_cases q:x=43∨x=45
    ·have b:AA (Yx 3 (c.getD 3 0)=true):=D (by rw [d];rcases q with rfl|rfl<;>rfl);rcases q with rfl|rfl
     all_goals
      go_wp2_with (go_at_call 28;refine(Zq _ _ _ _).mono ?_;rintro e w' ⟨rfl,rfl⟩)
      go_quiet (fail)
      go_wp2;go_roundw
      case rel=>exact⟨4,A,N,by omega,rfl,rfl,rfl,D (zH5 a (by omega) b),D (f.drewN _)⟩
      case measure=>simp [AX]
    ·have b:AA (Yx 3 (c.getD 3 0)=false):=D (by
      rw [d,AJ];intro h
      have C:(Az x 43||Az x 45)=true:=h
      rw [DZ,Nat.beq_eq,Nat.beq_eq]at C
      exact q C)
     have z:((x:Int)==43)=false:=by simp;omega
     have B:((x:Int) != 43)=true:=by simp;omega
     have Z:((x:Int)==45)=false:=by simp;omega
     have h0:((x:Int) != 45)=true:=by simp;omega
     clear q;go_wp2_with (go_at_call 28;refine(Zq _ _ _ _).mono ?_;rintro e w' ⟨rfl,rfl⟩)
     go_quiet (fail)
     go_wp2
     go_ret3
     exact tO (by omega) b (f.drewN _)
   ·subst P;have p:(((⟨#[100,100,32,115,100,100,100,100,100,10]⟩:ByteArray)[9]'(by decide)).toNat:Int)=10:=by rfl
    by_cases q:x=10
    ·subst q;have b:AA (Yx 9 (c.getD 9 0)=true):=D (by rw [d];rfl);go_wp2_with (go_at_call 28;refine(Zq _ _ _ _).mono ?_;rintro e w' ⟨rfl,rfl⟩)
     go_quiet (fail)
     go_wp2;go_roundw
     case rel=>exact⟨10,A,N,by omega,rfl,rfl,rfl,D (zH5 a (by omega) b),D (f.drewN _)⟩
     case measure=>simp [AX]
    ·have b:AA (Yx 9 (c.getD 9 0)=false):=D (by rw [d,AJ];intro h;exact q (Ap h));have z:((x:Int)==10)=false:=by simp;omega
     have B:((x:Int) != 10)=true:=by simp;omega
     clear q;go_wp2_with (go_at_call 28;refine(Zq _ _ _ _).mono ?_;rintro e w' ⟨rfl,rfl⟩)
     go_quiet (fail)
     go_wp2
     go_ret3
     exact tO (by omega) b (f.drewN _)
  ·obtain rfl:k=10:=by omega
   obtain⟨x,l,K,L⟩:=s 3 (by omega);have d:=D l;clear l u I;by_cases q:x=45
   ·subst q;go_wp2
    go_ret3
    exact⟨_,_,_,rfl,f.out,AB ⟨rfl,a.out.1,by rw [a.out.2.1],by rw [←a.out.2.1];exact a.out.2.2.2.2.1,by rw [if_pos d.out,a.out.2.2.1]⟩⟩
   ·have i:=D q;have h1:((x:Int)==45)=false:=by simp;omega
    clear q;go_wp2
    go_ret3
    exact⟨_,_,_,rfl,f,AB ⟨rfl,a.1,by rw [a.2.1],by rw [←a.2.1];exact a.2.2.2.2.1,by rw [if_neg (by rw [d];exact i),a.2.2.1]⟩⟩
theorem zH6 {m nx:Nat}{l:List Nat}(E:10≤l.length):Mf (m+1) nx l↔(YR (l.take 10) 10∧dH (l.take 10) 10≠0∧nx≤Zp (l.take 10) 10∧Mf m (Zp (l.take 10) 10+1) (l.drop 10)):=by
 match l,E with
 |c0::c1::t::s::k::n::o::p::q::u::r,_=>
  have F:Zp ((c0::c1::t::s::k::n::o::p::q::u::r).take 10) 10=(c0 - 48)*10+(c1 - 48):=by show 10*(10*0+(c0 - 48))+(c1 - 48)=_;omega
  have G:dH ((c0::c1::t::s::k::n::o::p::q::u::r).take 10) 10=iH k n o p q:=by show 10*(10*(10*(10*(10*0+(k - 48))+(n - 48))+(o - 48))+(p - 48))+(q - 48)=_;unfold iH;omega
  have H:YR ((c0::c1::t::s::k::n::o::p::q::u::r).take 10) 10↔(dg c0∧dg c1∧t=32∧(s=43∨s=45)∧(dg k∧dg n∧dg o∧dg p∧dg q)∧u=10):=by
   constructor
   ·intro h;have v:=h 0 (by omega);have h1:=h 1 (by omega);have w:=h 2 (by omega);have x:=h 3 (by omega);have y:=h 4 (by omega);have z:=h 5 (by omega);have A:=h 6 (by omega);have B:=h 7 (by omega);have C:=h 8 (by omega);have D:=h 9 (by omega);simp [Yx]at v h1 w x y z A B C D;unfold dg;omega
   ·rintro⟨v,h1,w,x,⟨y,z,A,B,C⟩,D⟩ j I;unfold dg at*
    rcases(by omega:j=0∨j=1∨j=2∨j=3∨j=4∨j=5∨j=6∨j=7∨j=8∨j=9)with rfl|rfl|rfl|rfl|rfl|rfl|rfl|rfl|rfl|rfl<;>simp [Yx]<;>omega
  rw [F,G,H];show(UO nx c0 c1 t s k n o p q u∧Mf m ((c0 - 48)*10+(c1 - 48)+1) r)↔_
  unfold UO;constructor
  ·rintro⟨⟨a,b,c,d,e,f,g,h⟩,i⟩;exact⟨⟨a,b,c,d,e,f⟩,g,h,i⟩
  ·rintro⟨⟨a,b,c,d,e,f⟩,g,h,i⟩;exact⟨⟨a,b,c,d,e,f,g,h⟩,i⟩
theorem zZ7:∃ a:Array h,a.size=100∧∀ W:Y,(Instr.makeSlice 29 (V Ad 100) (V Ad 100)).run prog W=Ez (J (some ⟨W.heap.size,0,none⟩) 100 100) (W.alloc (Ab a 3)):=by
 obtain⟨b,d,e,f,g⟩:=info_parts yU4;obtain⟨n,c⟩:=JH (Int.toNat 100*b.size);have i:n=100:=by rw [c,f];rfl
 refine⟨madeCells #[V Ad 0] n,by rw [size_madeCells,i],fun W=>?_⟩;have:=run_make (P:=prog) W 29 3 b (V Ad 0) underlying29 d e Ad Ad 100 100 (by omega) (by omega) (by rw [g];decide) (by omega);rw [←c]at this;exact this
def DkR (w:Y)(k:Nat)(d:List Nat)(e:BX)(w':Y):Prop:=∃ v a i,e=Ak (AZ #[v,AN #[V Ad a,V Ad i]])∧Ext w w'∧(a=0↔Mf k 0 d)
structure DkI (w:Y) (k:Nat) (d:List Nat) (T:Nat) (i nx:Nat) (wx:Y):Prop where
 x:Ext w wx
 f:wx.heap[T]?= some (Ab #[V Ad 0,V Ad 0] 26)
 r:∃ cs:Array h,cs.size=100∧wx.heap[T+1]?= some (Ab cs 3)
 d:Mf (k - i) nx (d.drop (10*i))↔Mf k 0 d
theorem zZ8 (S:ByteArray)(k:Nat)(d:List Nat)(w:Y)(hp:k≤100)(F:S.size=10*k)(G:d=(bs S).map Hz):As prog 6 #[Aa S] w (DkR w k d):=by
 obtain⟨s,N,O⟩:=zZ7;have P:=D (AP w (Ab #[V Ad 0,V Ad 0] 26) (Ab s 3));have Q:=D (Ay w (Ab #[V Ad 0,V Ad 0] 26) (Ab s 3));have R:=D (((Ext.refl w).alloc (Ab #[V Ad 0,V Ad 0] 26)).alloc (Ab s 3));have h6:AA (d.length=10*k):=D (by rw [G,AI,VC,F]);have T:=D (fun(i:Nat) (h7:i<k) W=>zZ6 (S.extract (10*i) (10*i+10)) ((d.drop (10*i)).take 10) W (by
  rw [G,←List.map_drop,←EG];congr 1;unfold bs;rw [Er,ES,DY,show 10*i+10 - 10*i=10 by omega]) (by rw [DO];omega))
 have u:=O (w.alloc (Ab #[V Ad 0,V Ad 0] 26));have U:=D N;obtain⟨n,h8⟩:∃ n,S.size=n:=⟨_,rfl⟩;have y:AA (n=10*k):=D (h8.symm.trans F);have h1:decide ((1000:Int)<n)=false:=by simp;omega
 have hq:n≤1000:=by omega
 clear O G N F;go_enter func6,ntmps6;go_upto_region 4 with fail;have o:AA (DkI w k d w.heap.size 0 0 ((w.alloc (Ab #[V Ad 0,V Ad 0] 26)).alloc (Ab s 3))):=D ⟨R,P,⟨s,U,Q⟩,Iff.rfl⟩;generalize(w.alloc (Ab #[V Ad 0,V Ad 0] 26)).alloc (Ab s 3)=W0 at o ⊢;obtain⟨g,X⟩:=JH w.heap.size;have h:AA (w.heap.size≤g):=D (by omega);rw [←X]at o ⊢;clear X u P Q R U h1;go_wp2;go_loopw [5,6] (fun h9 H ha=>∃ i nx:Nat,H=V Ad i∧h9=V Ad ((nx:Int) - 1)∧i≤k∧nx≤100∧AA (DkI w k d g i nx ha)) (fun _ H _=>k - (AX H).toNat)
 case atStart=>exact⟨0,0,rfl,rfl,by omega,by omega,o⟩
 case round=>
  clear o;obtain⟨i,nx,rfl,rfl,h7,hr,o⟩:=hrel;by_cases hb:i<k
  ·have h1:decide ((10:Int)*i<n)=true:=by have:=y.out;simp;omega
   have hd:10*i<n:=by have:=y.out;omega
   have he:¬ n<10*i+10:=by have:=y.out;omega
   have hf:decide ((n:Int)<10*i+10)=false:=by have:=y.out;simp;omega
   have I:=D (T.out i hb);obtain⟨c,hc⟩:=JH ((d.drop (10*i)).take 10);have t:AA (Mf k 0 d↔(YR c 10∧dH c 10≠0∧nx≤Zp c 10∧Mf (k - (i+1)) (Zp c 10+1) (d.drop (10*(i+1))))):=D (by
    have b:=zH6 (m:=k - (i+1)) (nx:=nx) (l:=d.drop (10*i)) (by rw [Cr,h6];omega)
    rw [show k - (i+1)+1=k - i by omega,ET,←hc]at b
    exact o.d.symm.trans b)
   rw [←hc]at I;clear hc T;go_upto_region 12 with(go_at_call 16;refine(I _).mono ?_;rintro e Z ⟨a,x,ok,rfl,C,hg⟩);have q:=D (o.x.trans C);have j:=D (CE C o.f);obtain⟨cs,K,h0⟩:=o.r;have L:=D (CE C h0);have hs:g<Z.heap.size:=(Ag.1 j).1;have c0:=bk j 0;have c1:=bk j 1;have hh:=JF j 0;have f1:=JF j 1;clear C h0 I h1 hd he hf;rcases hg with⟨rfl,h2⟩|⟨rfl,h3,rfl,hi,z⟩
   ·have A:AA (¬Mf k 0 d):=D (fun b=>h2 (t.1 b).1);clear h2;go_wp2_with (go_at_call 15;refine(za7 _ _ _).mono ?_;rintro e w' ⟨rfl,rfl⟩);refine Rx Ie Bd Pk (by first|exact dI (c:=1) (i:=(i:Int)) j _|exact YS (c:=1) (i:=(i:Int)) j) ?_
    exact⟨_,1,i,rfl,by first|exact(((q.setCell (p:=⟨g,0,none⟩) h _).setCell (p:=⟨g,1,none⟩) h _).alloc _)|exact(((q.alloc _).setCell (p:=⟨g,0,none⟩) h _).setCell (p:=⟨g,1,none⟩) h _),⟨fun b=>absurd b (by decide),fun b=>absurd b A⟩⟩
   ·obtain⟨m,u⟩:=JH (dH c 10);obtain⟨a,M⟩:=JH (Zp c 10);rw [←M,←u]at t;rw [←u]at z;rw [←M]at hi ⊢;have hj:=D h3;clear u M h3;by_cases B:m=0
    ·have h4:x=0:=by rw [z,B];split<;>rfl
     have A:AA (¬Mf k 0 d):=D (fun b=>(t.1 b).2.1 B);clear z B;subst h4;go_wp2_with (go_at_call 15;refine(za7 _ _ _).mono ?_;rintro e w' ⟨rfl,rfl⟩);refine Rx Ie Bd Pk (by first|exact dI (c:=6) (i:=(i:Int)) j _|exact YS (c:=6) (i:=(i:Int)) j) ?_
     exact⟨_,6,i,rfl,by first|exact(((q.setCell (p:=⟨g,0,none⟩) h _).setCell (p:=⟨g,1,none⟩) h _).alloc _)|exact(((q.alloc _).setCell (p:=⟨g,0,none⟩) h _).setCell (p:=⟨g,1,none⟩) h _),⟨fun b=>absurd b (by decide),fun b=>absurd b A⟩⟩
    ·have h4:(x==0)=false:=by
      have:x≠0:=by rw [z];split<;>omega
      simpa using this
     have hk:=D B;clear z B;by_cases E:nx≤a
     ·have hl:decide ((a:Int)≤(nx:Int) - 1)=false:=by simp;omega
      obtain⟨v,h5⟩:∃ v,cs[a]?= some v:=⟨_,Bc (by omega)⟩
      have ht:Z.cell? ⟨g+1,a,none⟩=some v:=by rw [JA L a];exact h5
      have hu:=JF L a;have hm:=D E;have hn:=D K;clear E K h5;go_wp2_with fail;go_roundw
      case rel=>exact⟨i+1,a+1,by go_num,by go_num,by omega,by omega,D ⟨q.setCell (p:=⟨g+1,a,none⟩) (Nat.le_succ_of_le h) _,by rw [AY _ _ _ _ (show g≠g+1 by omega)];exact j,⟨_,by rw [Array.size_setIfInBounds];exact hn,JJ L a _⟩,⟨fun b=>t.2 ⟨hj,hk,hm,b⟩,fun b=>(t.1 b).2.2.2⟩⟩⟩
      case measure=>simp [AX];omega
     ·have hl:decide ((a:Int)≤(nx:Int) - 1)=true:=by simp;omega
      have A:AA (¬Mf k 0 d):=D (fun b=>E (t.1 b).2.2.1);clear E K;go_wp2_with (go_at_call 15;refine(za7 _ _ _).mono ?_;rintro e w' ⟨rfl,rfl⟩);refine Rx Ie Bd Pk (by first|exact dI (c:=11) (i:=(i:Int)) j.out _|exact YS (c:=11) (i:=(i:Int)) j.out) ?_
      exact⟨_,11,i,rfl,by first|exact(((q.out.setCell (p:=⟨g,0,none⟩) h.out _).setCell (p:=⟨g,1,none⟩) h.out _).alloc _)|exact(((q.out.alloc _).setCell (p:=⟨g,0,none⟩) h.out _).setCell (p:=⟨g,1,none⟩) h.out _),⟨fun b=>absurd b (by decide),fun b=>absurd b A.out⟩⟩
  ·obtain rfl:i=k:=by omega
   have h1:decide ((10:Int)*i<n)=false:=by have:=y.out;simp;omega
   have j:=D o.out.f;have q:=D o.out.x;obtain⟨hv,hh,z1,f1,ho⟩:=RG j.out (V Ad 0) (V Ad 0);go_wp2_with fail;refine Rx Ie Bd Pk ho ?_
   exact⟨_,0,0,rfl,(q.setCell (p:=⟨g,0,none⟩) h _).setCell (p:=⟨g,1,none⟩) h _,⟨fun _=>o.d.1 (by rw [GJ];trivial),fun _=>rfl⟩⟩
theorem mU:0<Pm.Acc.img.length∧Pm.Acc.img.length≤65536∧∀ x∈Pm.Acc.img,x<4294967296:=by decide+kernel
theorem yM8 {w:Y}{base:Nat}{e:AK}{v:h}{n:Nat}{xs:List h}(d:w.ownsRow base e 1 v n xs)(l:List Nat)(f:xs=l.map fun(n:Nat)=>V BJ n)(i:n=l.length):Ju KB (fun _=>True) w l v∧Mw v:=by
 subst f i;obtain⟨A,c,rfl,h1,j,k,m⟩:=NQ d;refine⟨⟨A,c,_,rfl,h1,j,k,⟨m,fun _ _=>trivial⟩,mP _ _ l⟩,?_⟩;intro b o q n c q2;rcases d.2 with⟨q3, -⟩|⟨g,cap,cur,q3, -⟩
 ·rw [q2]at q3;cases q3
 ·rw [q2]at q3;cases q3;rfl
theorem zH7 (S:ByteArray)(k:Nat)(d:List Nat)(m:Int)(w:Y)(h:k≤100)(i:S.size=10*k)(f:d=(bs S).map Hz)(l:P8 w m):∃ c:Nat,((¬Mf k 0 d∧c=16)∨(Mf k 0 d∧c=32))∧∀ W U a,Ext w W→Ju KB U W (0::0::k::d) a→Mw a→
 As prog 5 #[Aa ⟨#[97,99,99]⟩,a] W fun e w'=>∃ b,e=Ak (AZ #[b,V Af c,AN NU])∧Ext W w':=by
 have n:d.length=10*k:=by rw [f,AI,VC,i]
 have g:∀ c∈d,c<256:=fun c hc=>by
  rw [f]at hc;obtain⟨x, -,rfl⟩:=D4.1 hc;exact Fw x
 obtain⟨j,z,c,h1,A,o,p,q⟩:=Pm.Acc.zG8 h n g;obtain⟨r,s, -⟩:=Pm.zN7 (N:=50000000) h1 o (by omega);refine⟨c,q,fun W U a x t u=>?_⟩;refine(mO _ 16 z07 z03 mU.1 mU.2.1 mU.2.2 (0::0::k::d) U a m W t u (by simp only [Am];omega) (fun v hy=>?_) (l.ext x) _ rfl r).mono ?_
 ·simp only [AH]at hy;rcases hy with rfl|rfl|rfl|hy
  ·omega
  ·omega
  ·omega
  ·exact g v hy
 ·rintro e w' ⟨b,B,rfl, -,y⟩;exact⟨b,by rw [s,p],y⟩
theorem yn0 (S:ByteArray)(m:Int)(w:Y)(g:P8 w m)(G:S.size≤Bk):As prog 3 #[Aa S] w fun e w'=>e=Ak (AE true)∧Ext w w':=by
 have o:=D (zZ4 m w g);obtain⟨n,Z⟩:∃ n,S.size=n:=⟨_,rfl⟩;unfold Bk at G;by_cases b:n≤1000∧n %10=0
 ·obtain⟨k,H⟩:=JH (n /10);have p:S.size=10*k:=by omega
  obtain⟨c,hc,I⟩:=zH7 S k _ m w (by omega) p rfl g;have K:=D I;have L:=D hc;have h0:=D (fun W=>zZ8 S k _ W (by omega) p rfl);have h1:decide ((1000:Int)<n)=false:=by simp;omega
  have M:((n:Int) %10 != 0)=false:=by simp;omega
  have h2:(n:Int) /10=k:=by omega
  have h9:(k:Int)≤100:=by omega
  have N:=D b;have ha:=D H;clear b g H p hc I;go_enter Hk,ntmps3;go_upto_region 3 with(go_at_call 4;refine o.mono ?_;rintro e a ⟨rfl,f⟩);have O:=D f;clear f;go_upto_region 6 with fail;obtain⟨h3,h4,h5,h6,h7⟩:=info_parts jE;have r:AA ((a.alloc (Ab #[V BJ 0,V BJ 0,V BJ k] 5)).ownsRow a.heap.size 5 1 (J (some ⟨a.heap.size,0,none⟩) 3 3) 3 [V BJ 0,V BJ 0,V BJ k]):=D ⟨rfl,AB ⟨_,3,_,rfl,Aw _,Aj a _,Aw _,by decide,rfl,rfl⟩⟩;have i:=D (O.alloc (Ab #[V BJ 0,V BJ 0,V BJ k] 5));have s:AA (a.heap.size≤(a.alloc (Ab #[V BJ 0,V BJ 0,V BJ k] 5)).heap.size):=D (by simp);have P:=D Z;have hb:=D G;generalize a.alloc (Ab #[V BJ 0,V BJ 0,V BJ k] 5)=W1 at r i s ⊢;go_upto_region 7 with(first|(at_builtin;refine Ul rfl _ _ 23 9 rfl a.heap.size 5 h3 B8 A8 h4 h5 h6 h7 (J (some ⟨a.heap.size,0,none⟩) 3 3) 3 [V BJ 0,V BJ 0,V BJ k] rfl r S rfl (by have:=P.out;have:=N.out;unfold Bk;omega) (by have:=P.out;have:=N.out;omega) s ?_;intro hd h8 t;have b:=yM8 t.own (0::0::k::(bs S).map Hz) (by rw [Lib.strCells_eq,B7,B7,B7,GL];rfl) (by simp;omega);have Q:Ext w h8:=Hu i t.grown i.size (fun k e=>by cases e;exact O.size);have u:=D b;have v:=D Q;clear t b Q)|(go_at_call 5;refine(K _ _ _ v u.1 u.2).mono ?_;rintro e x ⟨he,rfl,R⟩));have T:=D ((v.trans R).alloc (Ab NU 26));have j:=D (Aj x (Ab NU 26));clear R v i s r u K;generalize x.alloc (Ab NU 26)=W4 at T j ⊢;obtain⟨F,U⟩:=JH x.heap.size;rw [←U]at j ⊢;clear U;go_upto_region 8 with(go_at_call 6;refine(h0 _).mono ?_;rintro e y ⟨hf,h,z,rfl,X,l⟩);have A:=X.trans ((Ext.refl y).alloc (Ab #[V Ad h,V Ad z] 26));have B:=D (T.trans A);have C:=CE A j;have E:=Aj y (Ab #[V Ad h,V Ad z] 26);generalize y.alloc (Ab #[V Ad h,V Ad z] 26)=W6 at B C E ⊢;have c0:=bk C 0;have hg:=bk E 0;clear C E X A j;by_cases q:h=0
  ·obtain rfl:c=32:=by
    rcases L with⟨d, -⟩|⟨-,d⟩
    ·exact absurd (l.1 q) d
    ·exact d
   subst q;clear l;go_wp2_with fail;go_ret;exact⟨rfl,B⟩
  ·obtain rfl:c=16:=by
    rcases L with⟨-,d⟩|⟨d, -⟩
    ·exact d
    ·exact absurd (l.2 d) q
   have q2:(h != 0)=true:=by simpa using q
   clear l q;go_wp2_with fail;go_ret;exact⟨rfl,B⟩
 ·by_cases h1:n≤1000
  ·have M:decide ((1000:Int)<n)=false:=by simp;omega
   have h2:((n:Int) %10 != 0)=true:=by simp;omega
   clear b h1 g;go_enter Hk,ntmps3;go_wp2_with (go_at_call 4;refine o.mono ?_;rintro e a ⟨rfl,f⟩);go_ret;exact⟨rfl,f⟩
  ·have M:decide ((1000:Int)<n)=true:=by simp;omega
   clear b h1 g;go_enter Hk,ntmps3;go_wp2_with (go_at_call 4;refine o.mono ?_;rintro e a ⟨rfl,f⟩);go_ret;exact⟨rfl,f⟩
end Go.Proofs.YtmkomefmgcpnbaaGreatDoor

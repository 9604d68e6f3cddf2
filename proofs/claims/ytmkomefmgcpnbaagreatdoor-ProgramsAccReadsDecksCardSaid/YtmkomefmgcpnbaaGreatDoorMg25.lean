import Derived.Test.YtmkomefmgcpnbaaGreatDoorMg24
import Derived.Laws.OwnMore
set_option linter.all false
set_option maxHeartbeats 12800000
set_option maxRecDepth 100000
namespace Go.Proofs.YtmkomefmgcpnbaaGreatDoor
open Tryz Go Go.Proofs Go.RowKit
open Pg (Bs)
open Pm (Tm Ac In TS upd Lx MF NZ MK Ls Mm Re UB VM)
open _root_.Array renaming ext_getElem?→Es,getD→Hj,getElem?_eq_getElem→Bc,getElem?_eq_none→Ft,getElem?_eq_some_iff→Ag,getElem?_setIfInBounds→BE,getElem?_toList→CP
open Go renaming Act→CY,Calls→As,Oper→B5,Value→h,World→Y,heap_alloc2_new→Ay,heap_alloc2_old→AP,heap_alloc_new→Aj,maxLen→Bk,run_makeMap_plain→DF,setRow_heap→Bo,undef→Ca,Addr→Bi,Ending→BX,Program→BR,TypeDesc→DK,TypeId→AK,bodyPost_ret→B1,results→El,run_loadVar_row→DI
open Go.Act renaming put→Au
open Go.Ending renaming returned→Ak
open Go.IntKind renaming i64→Ad,u32→Af
open Go.IntWalk renaming i64_in→AU
open Go.Lib renaming hid→D
open Go.Obj renaming cells→Ab,map→Eu
open Go.Proofs renaming intOf→AX
open Go.Proofs.Tryz renaming sizeOf24→DR,underlying62→Cx,underlying72→Cj,zeroCells100→D9,underlying26→Bd,underlying37→Dn
open Go.RowKit renaming Hid→AA
open Go.Value renaming agg→AN,bool→AE,int→V,map→Bj,pointer→Ae,slice→J,string→Aa,tuple→AZ,oneCell'→CT
open _root_.List renaming getElem?_append_left→Ce,getElem?_append_right→Cs,getElem?_eq_getElem→Al,getElem?_eq_some_iff→Ao,getElem?_map→Bh,getElem?_take→Dc,getElem?_toArray→EJ,getElem?_zipIdx→Gp,length_map→AI,mem_map→D4,range→Cv,replicate→BK,take_succ_cons→DL,take_zero→Hg,getElem?_drop→Fq,getElem?_eq_none→C5,nil_append→B9
open _root_.Nat renaming le_refl→Aw,le_trans→AL,lt_of_lt_of_le→Ar,reduceAdd→Ff,zero_add→BF,le_succ→CA,min_eq_left→CJ
open _root_.Option renaming map_eq_some_iff→DP
open _root_.Or renaming inr→AB,inl→AO
open Go.Result renaming ok→Ez
open Go.ResultVar renaming tmp→Jt
open Go.TypeDesc renaming array→DX,struct→DA
def puts (v:Nat→h):Nat→List B5→CY→CY
 |_,[],a=>a
 |i,o::l,a=>puts v (i+1) l (a.put o.dst (v i))
theorem xy {a:CY}:∀ (l:List B5)(i:Nat)(b:CY)(v:Nat→h),b.tmps.size=a.tmps.size→b.defers=a.defers→(∀(k:Nat)(o:B5),l[k]?= some o→v (i+k)=valOf a o.dst)→(∀s:Nat,(∀(k:Nat)(o:B5),l[k]?= some o→o.dst≠some s)→b.tmps[s]?= a.tmps[s]?)→puts v i l b=a
 |[],i,b,v,d,f,j,g=>by
  obtain⟨n,r⟩:=b;obtain⟨at_,t⟩:=a;simp only at d f g;have:n=at_:=Es fun s=>g s (fun k o c=>by simp at c)
  rw [puts,this,f]
 |o::l,i,b,v,d,f,j,g=>by
  rw [puts];refine xy l (i+1) _ v (eu.trans d) (put_defers.trans f) (fun k m c=>?_) (fun s p=>?_)
  ·rw [show i+1+k=i+(k+1) by omega];exact j (k+1) m (by simpa using c)
  ·rw [show v i=valOf a o.dst from j 0 o rfl];by_cases e:o.dst=some s
   ·rw [e];show(b.tmps.setIfInBounds s (a.tmps.getD s Ca))[s]?= _
    rw [BE,if_pos rfl,d];by_cases q:s<a.tmps.size
    ·rw [if_pos q];simp [Hj,q]
    ·rw [if_neg q,Ft (by omega)]
   ·rw [bZ e];refine g s fun k m c=>?_
    cases k with
    |zero=>cases c;exact e
    |succ k=>exact p k m (by simpa using c)
theorem Fn_.lit {ops:Array B5}{Z:Nat→h→Y→Prop}{c a:CY}{m:Nat}{w:Y}(b:Fn_ ops Z c m a w)(g:m≤ops.size):∃ v:Nat→h,a=puts v 0 (ops.toList.take m) c∧∀ j,j<m→Z j (v j) w:=by
 refine⟨fun j=>valOf a (Mo ops j),(xy (a:=a) (ops.toList.take m) 0 c _ b.sz.symm b.df.symm (fun k o q=>?_) (fun s e=>(b.old s ?_).symm)).symm,b.val⟩
 ·show valOf a (Mo ops (0+k))=_
  rw [Dc]at q;split at q
  ·unfold Mo;rw [BF,←CP,q];rfl
  ·cases q
 ·intro j f;have d:j<ops.size:=by omega
  unfold Mo;rw [Bc d];exact e j _ (by rw [Dc,if_pos f,CP,Bc d])
theorem xz:(prog.info? 24).map (fun i=>(i.zero,i.size,i.bytes))=some (some (V Af 0),1,4):=by kernel_rfl
def TH (w:Y)(g:Nat)(mem:Nat→Nat):Prop:=∃ a,w.heap[g]?= some (Ab a 24)∧∀ i,i<65536→a[i]?= some (V Af (mem i))
theorem TH.ext {w w':Y}{g:Nat}{mem:Nat→Nat}(a:TH w g mem)(x:Ext w w'):TH w' g mem:=by
 obtain⟨b,h1,c⟩:=a;exact⟨b,CE x h1,c⟩
theorem zX4 (w:Y)(g c:Nat)(mem:Nat→Nat)(k:TH w g mem):As prog 68 #[J (some ⟨g,0,none⟩) 65536 c] w fun e w'=>∃ b c',e=Ak (J (some ⟨b,0,none⟩) 65536 c')∧w.heap.size≤b∧TH w' b mem∧Ext w w':=by
 obtain⟨y,h1,l⟩:=k;obtain⟨m,a,n,o,p⟩:=info_parts xz;refine(slices_Clone m (V Af 0) 1 4 a n o p rfl (by decide) DR g 0 65536 c ((Cv 65536).map fun(i:Nat)=>V Af (mem i:Int)) w (by rw [AI,List.length_range]) (by unfold Bk;omega) (by omega) (fun j u d=>?_) (fun u d=>?_)).mono ?_
 ·rw [Bh]at d;obtain⟨i,a,rfl⟩:=DP.1 d;obtain⟨f,a⟩:=Ao.1 a;rw [List.length_range]at f;rw [List.getElem_range]at a;subst a;rw [BF,JA h1];exact l j f
 ·obtain⟨i,_,rfl⟩:=D4.1 d;rfl
 ·rintro e w' ⟨z,rfl,r,A,s⟩;rcases r.2 with⟨-,q⟩|⟨b,cap,cur,rfl,t,v,B,C,D,x⟩
  ·exact absurd q (by omega)
  ·refine⟨b,cap,rfl,t,⟨cur,v,fun i a=>?_⟩,s⟩;have h:(cur.toList.take (65536*1))[i]?= ((Cv 65536).map fun(i:Nat)=>V Af (mem i:Int))[i]? :=by rw [x]
   rw [Dc,if_pos (by omega),CP,Bh,List.getElem?_range a]at h;exact h
theorem zc:D9=(([J none 0 0,V Af 0,V Af 0,V Af 0,V Af 0,V Af 0,J none 0 0,J none 0 0,V Ad 0,(V Af 0:h),J none 0 0]:List h)++(BK 256 (V Ad 0)++([Bj none,V Af 0]:List h))).toArray:=by kernel_rfl
theorem zu4:D9.size=269:=by kernel_rfl
theorem zX5 {j:Nat}(a:j<256):D9[11+j]?= some (V Ad 0):=by
 rw [zc,EJ,Cs (by simp),Ce (by simp;omega),List.getElem?_replicate,if_pos (by simp;omega)]
theorem yK9:D9[268]?= some (V Af 0):=by
 rw [zc];rfl
theorem yk5 {S c f g:h}{cs Z:Array h}(W:Z.size=269)(a:cs=(Z.setIfInBounds 0 S |>.setIfInBounds 1 (V Af 0) |>.setIfInBounds 2 (V Af 0) |>.setIfInBounds 3 (V Af 0) |>.setIfInBounds 4 (V Af 0) |>.setIfInBounds 5 (V Af 0) |>.setIfInBounds 6 c |>.setIfInBounds 7 (J none 0 0) |>.setIfInBounds 8 (V Ad 0) |>.setIfInBounds 9 (V Af 0) |>.setIfInBounds 10 f |>.setIfInBounds 267 g)):cs.size=269∧∀ j:Nat,cs[j]?= if 267=j then some g else if 10=j then some f else if 9=j then some (V Af 0)else if 8=j then some (V Ad 0)else if 7=j then some (J none 0 0)else if 6=j then some c else if 5=j then some (V Af 0)else if 4=j then some (V Af 0)else if 3=j then some (V Af 0)else if 2=j then some (V Af 0)else if 1=j then some (V Af 0)else if 0=j then some S else Z[j]? :=by
 have b:∀ (cs d:Array h) (i:Nat) (v:h),cs.size=269→i<269→d=cs.setIfInBounds i v→d.size=269∧∀ j:Nat,d[j]?= if i=j then some v else cs[j]? :=fun cs d i v u X e=>by subst e;exact⟨by simp [u],fun j=>MC.set u X⟩
 obtain⟨k,w⟩:=JH (Z.setIfInBounds 0 S);have x:=b Z k 0 S W (by omega) w;rw [←w]at a;obtain⟨l,y⟩:=JH (k.setIfInBounds 1 (V Af 0));have z:=b k l 1 (V Af 0) x.1 (by omega) y;rw [←y]at a;obtain⟨m,A⟩:=JH (l.setIfInBounds 2 (V Af 0));have B:=b l m 2 (V Af 0) z.1 (by omega) A;rw [←A]at a;obtain⟨n,C⟩:=JH (m.setIfInBounds 3 (V Af 0));have D:=b m n 3 (V Af 0) B.1 (by omega) C;rw [←C]at a;obtain⟨o,E⟩:=JH (n.setIfInBounds 4 (V Af 0));have F:=b n o 4 (V Af 0) D.1 (by omega) E;rw [←E]at a;obtain⟨p,G⟩:=JH (o.setIfInBounds 5 (V Af 0));have H:=b o p 5 (V Af 0) F.1 (by omega) G;rw [←G]at a;obtain⟨q,I⟩:=JH (p.setIfInBounds 6 c);have K:=b p q 6 c H.1 (by omega) I;rw [←I]at a;obtain⟨r,L⟩:=JH (q.setIfInBounds 7 (J none 0 0));have M:=b q r 7 (J none 0 0) K.1 (by omega) L;rw [←L]at a;obtain⟨s,N⟩:=JH (r.setIfInBounds 8 (V Ad 0));have O:=b r s 8 (V Ad 0) M.1 (by omega) N;rw [←N]at a;obtain⟨t,P⟩:=JH (s.setIfInBounds 9 (V Af 0));have Q:=b s t 9 (V Af 0) O.1 (by omega) P;rw [←P]at a;obtain⟨d10,R⟩:=JH (t.setIfInBounds 10 f);have k10:=b t d10 10 f Q.1 (by omega) R;rw [←R]at a;obtain⟨d11,T⟩:=JH (d10.setIfInBounds 267 g);have U:=b d10 d11 267 g k10.1 (by omega) T;rw [←T]at a;subst a;exact⟨U.1,fun j=>by rw [U.2,k10.2,Q.2,O.2,M.2,K.2,H.2,F.2,D.2,B.2,z.2,x.2]⟩
structure MZ (S I IS MP:h) (k:Nat) (cs:Array h):Prop where
 n:cs.size=269
 c0:cs[(0:Nat)]?= some S
 r:∀ i,i<5→cs[1+i]?= some (V Af 0)
 c6:cs[(6:Nat)]?= some I
 c7:cs[(7:Nat)]?= some (J none 0 0)
 c8:cs[(8:Nat)]?= some (V Ad 0)
 c9:cs[(9:Nat)]?= some (V Af 0)
 c10:cs[(10:Nat)]?= some IS
 sm:∀ j,j<256→cs[11+j]?= some (V Ad ((if j=0∨k<j then 0 else j:Nat):Int))
 gV:cs[(267:Nat)]?= some MP
 cK:cs[(268:Nat)]?= some (V Af 0)
theorem zX6 {S b c d:h}{cs:Array h}(a:cs.size=269∧∀ j:Nat,cs[j]?= if 267=j then some d else if 10=j then some c else if 9=j then some (V Af 0)else if 8=j then some (V Ad 0)else if 7=j then some (J none 0 0)else if 6=j then some b else if 5=j then some (V Af 0)else if 4=j then some (V Af 0)else if 3=j then some (V Af 0)else if 2=j then some (V Af 0)else if 1=j then some (V Af 0)else if 0=j then some S else D9[j]?):MZ S b c d 0 cs:=by
 obtain⟨h1,a⟩:=a;refine⟨h1,?_,fun i f=>?_,?_,?_,?_,?_,?_,fun j e=>?_,?_,?_⟩
 all_goals rw [a]
 ·rfl
 ·obtain rfl|rfl|rfl|rfl|rfl:i=0∨i=1∨i=2∨i=3∨i=4:=by omega
  all_goals rfl
 ·rfl
 ·rfl
 ·rfl
 ·rfl
 ·rfl
 ·rw [if_neg (by omega),if_neg (by omega),if_neg (by omega),if_neg (by omega),if_neg (by omega),if_neg (by omega),if_neg (by omega),if_neg (by omega),if_neg (by omega),if_neg (by omega),if_neg (by omega),if_neg (by omega),zX5 e,if_pos (by omega)];rfl
 ·rfl
 ·rw [if_neg (by omega),if_neg (by omega),if_neg (by omega),if_neg (by omega),if_neg (by omega),if_neg (by omega),if_neg (by omega),if_neg (by omega),if_neg (by omega),if_neg (by omega),if_neg (by omega),if_neg (by omega),yK9]
theorem MZ.next {S b c d:h}{k:Nat}{cs:Array h}(a:MZ S b c d k cs)(m:k<32){z:Int}(f:z=((k+1:Nat):Int)):MZ S b c d (k+1) (cs.setIfInBounds (11+(k+1)) (V Ad z)):=by
 subst f;refine⟨by simp [a.n],?_,fun i g=>?_,?_,?_,?_,?_,?_,fun j l=>?_,?_,?_⟩
 all_goals rw [MC.set a.n (by omega)]
 ·rw [if_neg (by omega)];exact a.c0
 ·rw [if_neg (by omega)];exact a.r i g
 ·rw [if_neg (by omega)];exact a.c6
 ·rw [if_neg (by omega)];exact a.c7
 ·rw [if_neg (by omega)];exact a.c8
 ·rw [if_neg (by omega)];exact a.c9
 ·rw [if_neg (by omega)];exact a.c10
 ·by_cases e:j=k+1
  ·subst e;rw [if_pos rfl,if_neg (by omega)]
  ·rw [if_neg (by omega),a.sm j l];by_cases q:j=0∨k<j
   ·rw [if_pos q,if_pos (by omega)]
   ·rw [if_neg q,if_neg (by omega)]
 ·rw [if_neg (by omega)];exact a.gV
 ·rw [if_neg (by omega)];exact a.cK
theorem MZ.done {b c d:Nat}{e f:h}{cs:Array h}{mem:Nat→Nat}{inp:List Nat}(a:MZ (J (some ⟨b,0,none⟩) 65536 c) e f (Bj (some d)) 32 cs):MC b c d e (J none 0 0) f cs ⟨mem,fun _=>0,inp,[],0,0,0⟩:=
 ⟨a.n,a.c0,a.r,a.c6,a.c7,a.c8,a.c9,a.c10,a.sm,a.gV,a.cK⟩
theorem zX7 {i:Nat}{x:In×Nat}(a:J3[i]?= some x):x.2=i+1:=by
 unfold J3 at a;rw [Gp]at a;obtain⟨b,_,rfl⟩:=DP.1 a;show 1+i=i+1
 omega
theorem yk6 {i:Nat}(a:i<10):i=0∨i=1∨i=2∨i=3∨i=4∨i=5∨i=6∨i=7∨i=8∨i=9:=by omega
theorem yk7 (ho:h)(xc xd:Nat→Prop)(w:Y)(hd:Ju KI xc w J3 ho)(h3:∀ k,xc k→k<w.heap.size)(g c:Nat)(mem:Nat→Nat)(xe:TH w g mem)(inp:List Nat)(hp:h)(hq:Ju KB xd w inp hp)(yk:Mw hp)(hlen:inp.length≤1000000):
 As prog 40 #[AN #[V Ad 65536,ho],AN #[J (some ⟨g,0,none⟩) 65536 c,V Af 0,V Af 0,V Af 0,V Af 0,V Af 0,hp,J none 0 0,V Ad 0,V Af 0]] w fun e w'=>∃ hr xf yl base ym yn yo,e=Ak (Ae (some ⟨hr,0,none⟩))∧MR hr xf yl base ym ho yn yo w' ⟨mem,fun _=>0,inp,[],0,0,0⟩∧Ext w w'∧w.heap.size≤hr∧w.heap.size≤xf∧w.heap.size≤base:=by
 obtain⟨A,M,rfl⟩:=JB hd;rw [show J3.length=32 from rfl]at hd ⊢;obtain⟨S,T,rfl⟩:=JB hq;obtain⟨n,h4⟩:=JH inp.length;have xg:=D (fun W (e:Ext w W)=>fF xd W inp _ (hq.ext e) yk hlen);rw [←h4]at xg ⊢;have yp:=D (fun W (e:Ext w W)=>zX4 W g c mem (xe.ext e));have xh:=D hd;obtain⟨X,hs⟩:=JH w.heap.size;have h5:=D (((Ext.refl w).alloc (Ab #[V Ad 65536,J A 32 M] 47)).alloc (Ab #[J (some ⟨g,0,none⟩) 65536 c,V Af 0,V Af 0,V Af 0,V Af 0,V Af 0,J S n T,J none 0 0,V Ad 0,V Af 0] 62));have he:=D (AP w (Ab #[V Ad 65536,J A 32 M] 47) (Ab #[J (some ⟨g,0,none⟩) 65536 c,V Af 0,V Af 0,V Af 0,V Af 0,V Af 0,J S n T,J none 0 0,V Ad 0,V Af 0] 62));have N:=D (Ay w (Ab #[V Ad 65536,J A 32 M] 47) (Ab #[J (some ⟨g,0,none⟩) 65536 c,V Af 0,V Af 0,V Af 0,V Af 0,V Af 0,J S n T,J none 0 0,V Ad 0,V Af 0] 62));have ht:AA (((w.alloc (Ab #[V Ad 65536,J A 32 M] 47)).alloc (Ab #[J (some ⟨g,0,none⟩) 65536 c,V Af 0,V Af 0,V Af 0,V Af 0,V Af 0,J S n T,J none 0 0,V Ad 0,V Af 0] 62)).heap.size=X+2):=D (by simp [hs]);clear hd hq xe h4;go_enter func40,ntmps40;go_upto_region 1 with fail;rw [←hs]at he N ⊢;have F:AA (w.heap.size≤X):=D (by omega);clear hs;generalize(w.alloc (Ab #[V Ad 65536,J A 32 M] 47)).alloc (Ab #[J (some ⟨g,0,none⟩) 65536 c,V Af 0,V Af 0,V Af 0,V Af 0,V Af 0,J S n T,J none 0 0,V Ad 0,V Af 0] 62)=W2 at h5 he N ht ⊢;have xi:=bk N 0;have xj:=bk N 6;have xk:=bk N 7;rename_i yq xl;have xm:=D xl;clear xl;refine Wx (n:=55) Ext (fun j v r=>match j with
  |0=>v=Ae (some ⟨X+1,0,none⟩)
  |1=>v=J (some ⟨g,0,none⟩) 65536 c
  |2=>∃ f c',v=J (some ⟨f,0,none⟩) 65536 c'∧W2.heap.size≤f∧TH r f mem
  |3=>v=Ae (some ⟨X+1,6,none⟩)
  |4=>v=J S n T
  |5=>Ju KB (fun k=>W2.heap.size≤k∧k<r.heap.size∧∃ cur,r.heap[k]?= some (Ab cur 5)) r inp v∧Mw v
  |6=>v=Ae (some ⟨X+1,7,none⟩)
  |7=>v=J none 0 0
  |8=>v=J none 0 0
  |_=>v=Ae (some ⟨X+1,0,none⟩)) 10 rfl (fun p q=>p.trans q) Ext.refl (Ext.drew (Ext.refl _)) (fun i xn=>?_) (fun z6 E z xo=>?_) (by kernel_rfl) (by kernel_rfl)
 ·rcases yk6 xn with rfl|rfl|rfl|rfl|rfl|rfl|rfl|rfl|rfl|rfl
  ·refine Oj 0 8 (fun a r t l Q m=>?_) rfl (n:=55) rfl (by decide);have e:=l.bs 3 (v:=Ae (some ⟨X+1,0,none⟩)) (by kernel_rfl) rfl;go_simp;exact m _ _ (Ext.refl _) (fun _ _=>rfl)
  ·refine Oj 1 9 (fun a r t l Q m=>?_) rfl (n:=55) rfl (by decide);obtain⟨v,e,d⟩:=l.rd (n:=55) rfl 0 8 (by kernel_rfl) rfl (by decide);have d:=d;subst d;have q:=t.cell xi;go_simp;exact m _ _ (Ext.refl _) (fun _ _=>rfl)
  ·refine Oj 2 10 (fun a r t l Q m=>?_) rfl (n:=55) rfl (by decide);obtain⟨v,e,d⟩:=l.rd (n:=55) rfl 1 9 (by kernel_rfl) rfl (by decide);have d:=d;subst d;go_simp;refine(yp _ (h5.trans t)).mono ?_
   rintro e xp ⟨f,c',rfl,h1,U,z⟩;exact m _ _ z (fun Z h6=>⟨f,c',rfl,AL t.size h1,U.ext h6⟩)
  ·refine Oj 3 11 (fun a r t l Q m=>?_) rfl (n:=55) rfl (by decide);have e:=l.bs 3 (v:=Ae (some ⟨X+1,0,none⟩)) (by kernel_rfl) rfl;go_simp;exact m _ _ (Ext.refl _) (fun _ _=>rfl)
  ·refine Oj 4 12 (fun a r t l Q m=>?_) rfl (n:=55) rfl (by decide);obtain⟨v,e,d⟩:=l.rd (n:=55) rfl 3 11 (by kernel_rfl) rfl (by decide);have d:=d;subst d;have q:=t.cell xj;go_simp;exact m _ _ (Ext.refl _) (fun _ _=>rfl)
  ·refine Oj 5 13 (fun a r t l Q m=>?_) rfl (n:=55) rfl (by decide);obtain⟨v,e,d⟩:=l.rd (n:=55) rfl 4 12 (by kernel_rfl) rfl (by decide);have d:=d;subst d;go_simp;refine(xg _ (h5.trans t)).mono ?_
   rintro e xp ⟨z7,rfl,h1,U,z⟩;exact m _ _ z (fun Z h6=>⟨(h1.ext h6).mono (fun k q=>⟨AL t.size q.1,Ar q.2.1 h6.size,q.2.2.elim fun cur hc=>⟨cur,CE h6 hc⟩⟩),U⟩)
  ·refine Oj 6 14 (fun a r t l Q m=>?_) rfl (n:=55) rfl (by decide);have e:=l.bs 3 (v:=Ae (some ⟨X+1,0,none⟩)) (by kernel_rfl) rfl;go_simp;exact m _ _ (Ext.refl _) (fun _ _=>rfl)
  ·refine Oj 7 15 (fun a r t l Q m=>?_) rfl (n:=55) rfl (by decide);obtain⟨v,e,d⟩:=l.rd (n:=55) rfl 6 14 (by kernel_rfl) rfl (by decide);have d:=d;subst d;have q:=t.cell xk;go_simp;exact m _ _ (Ext.refl _) (fun _ _=>rfl)
  ·refine Oj 8 16 (fun a r t l Q m=>?_) rfl (n:=55) rfl (by decide);obtain⟨v,e,d⟩:=l.rd (n:=55) rfl 7 15 (by kernel_rfl) rfl (by decide);have d:=d;subst d;go_simp;refine(gX _ _ _).mono ?_
   rintro e xp ⟨rfl,rfl⟩;exact m _ _ (Ext.refl _) (fun _ _=>rfl)
  ·refine Oj 9 17 (fun a r t l Q m=>?_) rfl (n:=55) rfl (by decide);have e:=l.bs 3 (v:=Ae (some ⟨X+1,0,none⟩)) (by kernel_rfl) rfl;go_simp;exact m _ _ (Ext.refl _) (fun _ _=>rfl)
 obtain⟨v,rfl,B⟩:=xo.lit (by decide);have xq:v 0=_:=B 0 (by decide);have h1:v 1=_:=B 1 (by decide);obtain⟨f,c',U,xr,xs⟩:∃ f c',v 2=J (some ⟨f,0,none⟩) 65536 c'∧W2.heap.size≤f∧TH E f mem:=B 2 (by decide);have xt:v 3=_:=B 3 (by decide);have xu:v 4=_:=B 4 (by decide);obtain⟨h7,hf⟩:Ju KB (fun k=>W2.heap.size≤k∧k<E.heap.size∧∃ cur,E.heap[k]?= some (Ab cur 5)) E inp (v 5)∧Mw (v 5):=B 5 (by decide);have xv:v 6=_:=B 6 (by decide);have xw:v 7=_:=B 7 (by decide);have xx:v 8=_:=B 8 (by decide);have xy:v 9=_:=B 9 (by decide);obtain⟨H,I,hg⟩:=JB h7;rw [hg]at h7 hf;obtain⟨L,xz⟩:=JH inp.length;rw [←xz]at h7 hf hg;simp only [DL,Hg,puts,BF,Ff,xq,h1,U,xt,xu,hg,xv,xw,xx,xy,Au,pA,pB,pC];have y0:=D h7;have yr:=D hf;have hu:=D xs;have hv:=D xr;have hh:=D (CE z N);have y1:=D (CE z he);have y2:=D (h5.trans z);clear xq h1 U xt xu hg xv xw xx xy B h7 hf xs xr v xz xi xj xk xo;have ys:=bk hh 0;have yt:=JF hh 0;have hi:=JJ hh 0 (J (some ⟨f,0,none⟩) 65536 c');have yu:=bk hi 6;have yv:=JF hi 6;have hj:=JJ hi 6 (J H L I);have yw:=bk hj 7;have yx:=JF hj 7;have y3:=D (JJ hj 7 (J none 0 0));clear hi hj;show JX _ _ _ _ _ _ 5 _ _ _
 refine JX.rd 10 (fun K C=>?_);go_simp;refine C _ _ trivial (fun _=>?_);clear C;refine KM 11 trivial ?_
 refine JX.rd 12 (fun K C=>?_);go_simp;refine C _ _ trivial (fun _=>?_);clear C;refine KM 13 trivial ?_
 refine JX.rd 14 (fun K C=>?_);go_simp;refine C _ _ trivial (fun _=>?_);clear C;refine JV ?_
 refine xm _ _ ?_
 clear xm yq K ys yu yw yt yv yx;have y4:AA ((((E.setCell ⟨X+1,0,none⟩ (J (some ⟨f,0,none⟩) 65536 c')).setCell ⟨X+1,6,none⟩ (J H L I)).setCell ⟨X+1,7,none⟩ (J none 0 0)).heap[X+1]?= some (Ab #[J (some ⟨f,0,none⟩) 65536 c',V Af 0,V Af 0,V Af 0,V Af 0,V Af 0,J H L I,J none 0 0,V Ad 0,V Af 0] 62)):=D y3;have O:AA (JK (fun k=>k=X+1) E (((E.setCell ⟨X+1,0,none⟩ (J (some ⟨f,0,none⟩) 65536 c')).setCell ⟨X+1,6,none⟩ (J H L I)).setCell ⟨X+1,7,none⟩ (J none 0 0))):=D (JK.setCell (G:=fun k=>k=X+1) (p:=⟨X+1,7,none⟩) (JK.setCell (G:=fun k=>k=X+1) (p:=⟨X+1,6,none⟩) (JK.setCell (G:=fun k=>k=X+1) (p:=⟨X+1,0,none⟩) (JK.refl E) (AB rfl) _) (AB rfl) _) (AB rfl) _);generalize((E.setCell ⟨X+1,0,none⟩ (J (some ⟨f,0,none⟩) 65536 c')).setCell ⟨X+1,6,none⟩ (J H L I)).setCell ⟨X+1,7,none⟩ (J none 0 0)=y at y4 O ⊢;clear y3 hh;have hw:AA (W2.heap.size=X+2):=ht;have y5:=D (O.heap y1 (by omega));have y6:AA (TH y f mem):=D (by obtain⟨h8,P,q2⟩:=hu;exact⟨h8,O.heap P (by have:=hv.out;have:=hw.out;omega),q2⟩);have y7:=D (y0.upd (U':=fun k=>k<y.heap.size∧k≠f) O (fun k q e=>by have:=hw.out;omega) (fun k q=>⟨Ar q.2.1 O.size,fun e=>by
  obtain⟨cur,hc⟩:=q.2.2
  obtain⟨h8,P, -⟩:=hu.out
  rw [e,P]at hc
  cases hc⟩))
 have y8:AA (Ext w y):=D (((Gl (G:=fun k=>k=X+1) y2.out).trans O.out).ext (fun k yy q=>by have:=F.out;omega));have hx:AA (X+2≤f∧f<y.heap.size):=D ⟨by rw [←hw.out];exact hv.out,by obtain⟨h8,P, -⟩:=y6.out;exact(Ag.1 P).1⟩;clear y0 hu hv y1 y2 O z E ht h5 he N;have h9:=bk y5.out 1;have z8:= @DF prog;go_upto_region 3 with(refine LH rfl Cx rfl y4 OQ ?_);obtain⟨h0,hy⟩:∃ cs:Array h,cs=(D9.setIfInBounds 0 (J (some ⟨f,0,none⟩) 65536 c') |>.setIfInBounds 1 (V Af 0) |>.setIfInBounds 2 (V Af 0) |>.setIfInBounds 3 (V Af 0) |>.setIfInBounds 4 (V Af 0) |>.setIfInBounds 5 (V Af 0) |>.setIfInBounds 6 (J H L I) |>.setIfInBounds 7 (J none 0 0) |>.setIfInBounds 8 (V Ad 0) |>.setIfInBounds 9 (V Af 0) |>.setIfInBounds 10 (J A 32 M) |>.setIfInBounds 267 (Bj (some y.heap.size))):=⟨_,rfl⟩;rw [←hy];have y9:=D (zX6 (yk5 zu4 hy));clear hy;have hk:=D (Ay y (Eu #[] 0) (Ab h0 100));have hz:AA (MapAt (UA Af) ((y.alloc (Eu #[] 0)).alloc (Ab h0 100)) y.heap.size (fun _=>none)):=D (MapAt.keep (UA Af) (Ti (UA Af) y) (by have:=AP y (Eu #[] 0) (Ab h0 100);rw [this];exact(Aj y _).symm));have ha:=D (((Ext.refl y).alloc (Eu #[] 0)).alloc (Ab h0 100));obtain⟨u,x0⟩:=JH y.heap.size;have R:AA (X+2≤u∧f<u):=D (by rw [x0];have:=hx.out;omega);rw [←x0]at hk hz y7 y9 ⊢;generalize(y.alloc (Eu #[] 0)).alloc (Ab h0 100)=W5 at hk hz ha ⊢;clear x0 h9;have h9:=bk (CE ha y5) 1;go_wp2;go_loopw [29] (fun s ya=>∃ (i:Nat) (cs:Array h),s=V Ad i∧i≤32∧AA (ya.heap[u+1]?= some (Ab cs 100))∧AA (MZ (J (some ⟨f,0,none⟩) 65536 c') (J H L I) (J A 32 M) (Bj (some u)) i cs)∧AA (JK (fun k=>k=u+1) W5 ya)) (fun s _=>32 - (AX s).toNat)
 case atStart=>exact⟨0,h0,rfl,by omega,hk,y9,D (JK.refl _)⟩
 case round=>
  obtain⟨i,cs,rfl,xn,hl,x1,hb⟩:=hrel;clear h9;by_cases yb:i<32
  ·have hm:=D (((Gl (G:=fun k=>k=u+1) (y8.trans ha))).trans hb);obtain⟨x,z⟩:∃ x,J3[i]?= some x:=⟨_,Al (show i<J3.length by exact yb)⟩
   obtain⟨b,o,z9,za,yc, -,⟨v,rfl,d⟩,x2⟩:=(xh.upd hm (fun k q e=>by have:=h3 k q;have:=F.out;have:=R.out;omega) (fun _ q=>q)).elem z;rw [show J3.length=32 from rfl]at yc;injection yc with yz z0 z1
   subst yz z1;obtain⟨x3,x4,rfl⟩:=JB d;have yd:(x.2:Int)=(i:Int)+1:=by have:=zX7 z;omega
   rw [yd]at x2;have ye:=D x2;clear x2 d z z0 yd;obtain⟨x5,h4⟩:=JH (str x.1.name);obtain⟨x6,yf⟩:=JH x.1.operand;obtain⟨x7,yg⟩:=JH x.1.acts.length;rw [←h4,←yf,←yg]at ye;clear h4 yf yg;have hn:=D (((Ext.refl wr).alloc (Ab Qa 72)).setRow (Aw _) #[Aa x5,V Af ((i:Int)+1),AE x6,J x3 x7 x4]);have x8:=D (Bo (wr.alloc (Ab Qa 72)) wr.heap.size Qa #[Aa x5,V Af ((i:Int)+1),AE x6,J x3 x7 x4] 72 (0,0) (Aj wr _));go_upto_region 6 with(first|(refine KV rfl Cj rfl ye NT ?_)|(refine L8 rfl rfl rfl (Aj wr _) NT ?_));obtain⟨r,yh⟩:=JH wr.heap.size;have z2:AA (r≠u+1):=D (by have:=(Ag.1 hl).1;omega);rw [←yh]at x8 hn ⊢;generalize(wr.alloc (Ab Qa 72)).setRow r #[Aa x5,V Af ((i:Int)+1),AE x6,J x3 x7 x4]=yi at x8 hn ⊢;clear yh;have x9:=D (CE hn hl);have h9:=bk x8 1;have m1:yi.cell? ⟨u+1,11+(i+1),none⟩=some (V Ad (0:Int)):=(JA x9 _).trans ((x1.sm (i+1) (by omega)).trans (by rw [if_pos (by omega)];rfl));have fm:=JF x9 (11+(i+1));have zb:Ad.wrap ((i:Int)+1)=(i:Int)+1:=AU _ (by omega);have zc:(i:Int)+1<256:=by omega
   have zd:0≤(i:Int)+1:=by omega
   go_upto_region 7 with fail;refine JX.go (fun Z=>JK (fun k=>k=u+1) yi Z) [] (JK.drew (JK.refl _)) (fun h2=>?_)
   iterate 2 refine JC h2 ?_
   refine JP h2 (fun w z3=>JK.cell z3 h9 z2) ?_
   iterate 5 refine JC h2 ?_
   try simp only [Au,pA,pB,pC]
   refine JM (fun K C=>?_);go_simp;refine C _ _ (JK.setCell (p:=⟨u+1,11+(i+1),none⟩) h2 (AB rfl) _) (fun h2=>?_);clear C;refine JV ?_
   try simp only [Au,pA,pB,pC]
   go_wp2;go_roundw
   case rel=>exact⟨i+1,cs.setIfInBounds (11+(i+1)) (V Ad ((i:Int)+1)),by go_num,by omega,D (CE (Ext.drew (Ext.refl _)) (JJ x9 (11+(i+1)) _)),D (x1.next yb (by omega)),D ((hb.trans (Gl hn)).trans h2)⟩
   case measure=>simp [AX];omega
  ·have z4:i=32:=by omega
   subst z4;have z5:=D (x1.done (mem:=mem) (inp:=inp));have hm:=D (((Gl (G:=fun k=>k=u+1) (y8.trans ha))).trans hb);have xa:=D (hm.ext (fun k yy q=>by have:=F.out;have:=R.out;omega));have yj:=D ((Gl (G:=fun k=>k=u+1) ha).trans hb);have xb:=D (Ag.1 hl).1;go_wp2;go_ret;refine⟨u+1,f,c',wr.heap.size,u,J H L I,J none 0 0,rfl,⟨⟨cs,hl,z5⟩,?_,?_,RowK.nil _ _ _ _,?_,?_,?_,Aw _,yr⟩,xa,?_,?_,xa.size⟩
   ·obtain⟨h8,P,q2⟩:=y6;exact⟨h8,yj.heap P (by have:=R.out;omega),q2⟩
   ·exact y7.upd yj (fun k q e=>by omega) (fun k q=>⟨by have:=xb.out;omega,by omega,q.2⟩)
   ·exact xh.upd hm (fun k q e=>by have:=h3 k q;have:=F.out;have:=R.out;omega) (fun k q=>⟨by have:=h3 k q;have:=xa.size;omega,by have:=h3 k q;have:=F.out;have:=R.out;omega,by have:=h3 k q;have:=F.out;have:=hx.out;omega⟩)
   ·exact MapAt.keep (UA Af) hz (hb.block u (by have:=(Ag.1 hk).1;omega) (by omega))
   ·refine⟨xb,?_,?_,?_,?_,?_⟩
    all_goals (have:=R.out;have:=xb.out;omega)
   ·have:=F.out;have:=R.out;omega
   ·have:=F.out;have:=hx.out;omega
abbrev OL:Array h:= #[V Ad 0,V Ad 0]
theorem cZ:(prog.info? 26).map (·.size)=some 2:=by kernel_rfl
theorem zu6 (q:h)(t:Nat→Prop)(w:Y)(r:Ju KI t w J3 q)(g c n b:Nat)(d:Option Bi)(L:n≤400000):
 As prog 39 #[AN #[V Ad 65536,q],AN #[J (some ⟨g,0,none⟩) 65536 c,V Af 0,V Af 0,V Af 0,V Af 0,V Af 0,J d n b,J none 0 0,V Ad 0,V Af 0]] w fun e w'=>e=Ak (AN OL)∧Ext w w':=by
 have u:=D (fun W (e:Ext w W)=>ed q t W (r.ext e));obtain⟨A,f,rfl⟩:=JB r;rw [show J3.length=32 from rfl]at u ⊢;clear r;obtain⟨X,k⟩:=JH w.heap.size;have s:=D ((((Ext.refl w).alloc (Ab #[V Ad 65536,J A 32 f] 47)).alloc (Ab #[J (some ⟨g,0,none⟩) 65536 c,V Af 0,V Af 0,V Af 0,V Af 0,V Af 0,J d n b,J none 0 0,V Ad 0,V Af 0] 62)).alloc (Ab OL 26));have l:AA ((((w.alloc (Ab #[V Ad 65536,J A 32 f] 47)).alloc (Ab #[J (some ⟨g,0,none⟩) 65536 c,V Af 0,V Af 0,V Af 0,V Af 0,V Af 0,J d n b,J none 0 0,V Ad 0,V Af 0] 62)).alloc (Ab OL 26)).heap[X]?= some (Ab #[V Ad 65536,J A 32 f] 47)):=D (by subst k;exact MX (MX (NR rfl)));have j:AA ((((w.alloc (Ab #[V Ad 65536,J A 32 f] 47)).alloc (Ab #[J (some ⟨g,0,none⟩) 65536 c,V Af 0,V Af 0,V Af 0,V Af 0,V Af 0,J d n b,J none 0 0,V Ad 0,V Af 0] 62)).alloc (Ab OL 26)).heap[X+1]?= some (Ab #[J (some ⟨g,0,none⟩) 65536 c,V Af 0,V Af 0,V Af 0,V Af 0,V Af 0,J d n b,J none 0 0,V Ad 0,V Af 0] 62)):=D (by subst k;exact MX (NR (by simp)));have v:AA ((((w.alloc (Ab #[V Ad 65536,J A 32 f] 47)).alloc (Ab #[J (some ⟨g,0,none⟩) 65536 c,V Af 0,V Af 0,V Af 0,V Af 0,V Af 0,J d n b,J none 0 0,V Ad 0,V Af 0] 62)).alloc (Ab OL 26)).heap[X+1+1]?= some (Ab OL 26)):=D (by subst k;exact NR (by simp));go_enter func39,ntmps39;go_upto_region 1 with fail;rw [←k];have x:AA (w.heap.size≤X+1+1):=D (by omega);clear k;generalize((w.alloc (Ab #[V Ad 65536,J A 32 f] 47)).alloc (Ab #[J (some ⟨g,0,none⟩) 65536 c,V Af 0,V Af 0,V Af 0,V Af 0,V Af 0,J d n b,J none 0 0,V Ad 0,V Af 0] 62)).alloc (Ab OL 26)=W3 at s l j v ⊢;have y:=bk l 0;have t1:=bk l 1;go_upto_region 2 with(go_at_call 37;refine(u _ s).mono ?_;rintro e m ⟨rfl,z⟩;have E:=D z;have B:=Aj m (Ab OL 26);obtain⟨F,G,z1,f1,H⟩:=QI (i:=0) B rfl rfl (V Ad 0) (V Ad 0);clear z B);have a:=D (E.alloc (Ab OL 26));have o:=D (Aj m (Ab OL 26));obtain⟨M,C⟩:=JH m.heap.size;rw [←C]at o ⊢;clear F G z1 f1 H C y t1;generalize m.alloc (Ab OL 26)=W4 at a o ⊢;have N:=bk o 0;have O:=bk o 1;have y:=bk (CE a l) 0;have P:=bk (CE a j) 0;have Q:=bk (CE a j) 6;have R:=bk (CE a j) 7;have S:=bk (CE a j) 8;have T:=bk (CE a j) 9;have I:=D (CE a v);obtain⟨U,g0,Z,h0,K⟩:=QI (i:=0) I rfl rfl (V Ad 0) (V Ad 0);have h1:¬ (n:Int)>400000:=by omega
 have h2:¬ (400000:Int)<(n:Int):=by omega
 go_wp2;refine K3 results39 Bd cZ K ?_
 exact⟨rfl,((s.trans a).setCell (p:=⟨X+1+1,0,none⟩) x _).setCell (p:=⟨X+1+1,1,none⟩) x _⟩
theorem cu {P:BR}{fn:Func}{p u q:Tmp}{b c:AK}(m:fn.results= #[.cell p b,Jt u,.cell q c])(tmps:Array h)(w:Y)(g e:Nat)(t j:AK)(cs f:Array h)(k l:Nat×Nat)(d i:DK)
 (n:tmps.getD p Ca=Ae (some ⟨g,0,none⟩)) (o:tmps.getD q Ca=Ae (some ⟨e,0,none⟩)) (r:w.heap[g]?= some (Ab cs t k)) (s:w.heap[e]?= some (Ab f j l))
 (v:P.underlying b=some d) (x:(match d with|DA _|DX _ _=>true|_=>false)=true) (y:(P.info? b).map (·.size)=some cs.size)
 (z:P.underlying c=some i) (A:(match i with|DA _|DX _ _=>true|_=>false)=true) (B:(P.info? c).map (·.size)=some f.size):
 (El fn tmps).run P w=Ez (AZ #[AN cs,tmps.getD u Ca,AN f]) w:=by
 have C:tmps[p]?.getD Ca=Ae (some ⟨g,0,none⟩):=by simpa using n
 have D:tmps[q]?.getD Ca=Ae (some ⟨e,0,none⟩):=by simpa using o
 simp [El,m,C,D,asAddr,DI w g t b cs k d r v x y,DI w e j c f l i s z A B]
def y67 (w:Y)(s:TS)(e:BX)(w':Y):Prop:=∃ S a b d f g h i k,e=Ak (AZ #[AN #[S,V Af d,V Af f,V Af g,V Af h,V Af i,a,b,V Ad s.stop,V Af s.code],V Ad k,AN OL])∧(∃U,(∀k,U k→w.heap.size≤k∧k<w'.heap.size)∧Ju KB U w' s.out b)∧(∃n c,S=J n 65536 c)∧(∃j n l,a=J j n l)∧Ext w w'
theorem zu7 {k:Nat}{s:TS}(a:s.stop=0):Pm.UK (k+1) s=Pm.UK k (Pm.stepT s):=by rw [Pm.UK,if_pos a]
theorem yL1 {s:TS}(a:s.stop≠0):∀ k,Pm.UK k s=s
 |0=>rfl
 |k+1=>by rw [Pm.UK,if_neg a]
theorem Ny {c:Prop} [Decidable c] {a b:TS}{n:Nat}(d:a.inp.length≤n)(e:b.inp.length≤n):(if c then a else b).inp.length≤n:=by split<;>assumption
theorem qP (s:TS)(a:Ac):(MK s a).inp.length≤s.inp.length:=by
 have b:∀ {n:Nat},n≤n:=Aw _;unfold MK;dsimp only;refine Ny b (Ny (Ny b b) (Ny (Ny b b) (Ny (Ny b b) (Ny (Ny b b) (Ny (Ny b b) (Ny ?_ (Ny (Ny b b) (Ny b (Ny (Ny b b) b)))))))));split
 ·exact b
 ·rename_i c;rw [c];exact CA _
theorem Zl:∀ (l:List Ac)(s:TS),(Ls s l).inp.length≤s.inp.length
 |[],s=>Aw _
 |a::l,s=>by
  rw [Ls];split
  ·exact AL (Zl l _) (qP s a)
  ·exact qP s a
theorem zE8 (s:TS):(Pm.stepT s).inp.length≤s.inp.length:=by
 unfold Pm.stepT;split
 ·exact Aw _
 ·split
  ·exact Aw _
  ·split
   ·exact Zl _ _
   ·split
    ·exact Aw _
    ·exact Zl _ _
theorem yl1 (x6:h)(hd x7:Nat→Prop)(w:Y)(h0:Ju KI hd w J3 x6)(xw:∀ k,hd k→k<w.heap.size)(g c:Nat)(mem:Nat→Nat)(x8:TH w g mem)(inp:List Nat)(hk:h)(he:Ju KB x7 w inp hk)(x9:Mw hk)(hlen:inp.length≤400000)(steps:Nat)(yq:steps≤50000000)(xa:Re ⟨mem,fun _=>0,inp,[],0,0,0⟩):
 As prog 22 #[AN #[V Ad 65536,x6],AN #[J (some ⟨g,0,none⟩) 65536 c,V Af 0,V Af 0,V Af 0,V Af 0,V Af 0,hk,J none 0 0,V Ad 0,V Af 0],V Ad steps] w (y67 w (Pm.UK steps ⟨mem,fun _=>0,inp,[],0,0,0⟩)):=by
 obtain⟨A,L,rfl⟩:=JB h0;rw [show J3.length=32 from rfl]at h0 ⊢;obtain⟨M,N,rfl⟩:=JB he;obtain⟨n,xb⟩:=JH inp.length;rw [←xb]at he x9 ⊢;have xc:=D (fun W (e:Ext w W)=>zu6 _ hd W (h0.ext e) g c n N M (by omega));have hl:=D (fun W (e:Ext w W)=>yk7 _ hd x7 W (h0.ext e) (fun k q=>Ar (xw k q) e.size) g c mem (x8.ext e) inp _ (he.ext e) x9 (by omega));have xd:=D xa;have xx:=D hlen;obtain⟨X,U⟩:=JH w.heap.size;have h2:AA (Ext w ((((w.alloc (Ab #[V Ad 65536,J A 32 L] 47)).alloc (Ab #[J (some ⟨g,0,none⟩) 65536 c,V Af 0,V Af 0,V Af 0,V Af 0,V Af 0,J M n N,J none 0 0,V Ad 0,V Af 0] 62)).alloc (Ab Nw 62)).alloc (Ab OL 26))):=D (((((Ext.refl w).alloc _).alloc _).alloc _).alloc _);have Z:AA (((((w.alloc (Ab #[V Ad 65536,J A 32 L] 47)).alloc (Ab #[J (some ⟨g,0,none⟩) 65536 c,V Af 0,V Af 0,V Af 0,V Af 0,V Af 0,J M n N,J none 0 0,V Ad 0,V Af 0] 62)).alloc (Ab Nw 62)).alloc (Ab OL 26)).heap[X]?= some (Ab #[V Ad 65536,J A 32 L] 47)):=D (by subst U;exact MX (MX (MX (NR rfl))));have hf:AA (((((w.alloc (Ab #[V Ad 65536,J A 32 L] 47)).alloc (Ab #[J (some ⟨g,0,none⟩) 65536 c,V Af 0,V Af 0,V Af 0,V Af 0,V Af 0,J M n N,J none 0 0,V Ad 0,V Af 0] 62)).alloc (Ab Nw 62)).alloc (Ab OL 26)).heap[X+1]?= some (Ab #[J (some ⟨g,0,none⟩) 65536 c,V Af 0,V Af 0,V Af 0,V Af 0,V Af 0,J M n N,J none 0 0,V Ad 0,V Af 0] 62)):=D (by subst U;exact MX (MX (NR (by simp))));have hm:AA (((((w.alloc (Ab #[V Ad 65536,J A 32 L] 47)).alloc (Ab #[J (some ⟨g,0,none⟩) 65536 c,V Af 0,V Af 0,V Af 0,V Af 0,V Af 0,J M n N,J none 0 0,V Ad 0,V Af 0] 62)).alloc (Ab Nw 62)).alloc (Ab OL 26)).heap[X+1+1]?= some (Ab Nw 62)):=D (by subst U;exact MX (NR (by simp)));have hn:AA (((((w.alloc (Ab #[V Ad 65536,J A 32 L] 47)).alloc (Ab #[J (some ⟨g,0,none⟩) 65536 c,V Af 0,V Af 0,V Af 0,V Af 0,V Af 0,J M n N,J none 0 0,V Ad 0,V Af 0] 62)).alloc (Ab Nw 62)).alloc (Ab OL 26)).heap[X+1+1+1]?= some (Ab OL 26)):=D (by subst U;exact NR (by simp));obtain⟨hg,ho⟩:=JH (⟨mem,fun _=>0,inp,[],0,0,0⟩:TS);have xy:AA (hg.inp.length≤400000):=D (by rw [ho];exact xx.out);rw [←ho]at hl xd ⊢;clear h0 he x8 xb xa ho;go_enter func22,ntmps22;go_upto_region 1 with fail;rw [←U];have P:AA (w.heap.size≤X):=D (by omega);clear U;generalize(((w.alloc (Ab #[V Ad 65536,J A 32 L] 47)).alloc (Ab #[J (some ⟨g,0,none⟩) 65536 c,V Af 0,V Af 0,V Af 0,V Af 0,V Af 0,J M n N,J none 0 0,V Ad 0,V Af 0] 62)).alloc (Ab Nw 62)).alloc (Ab OL 26)=W3 at h2 Z hf hm hn ⊢;have hp:=bk Z.out 0;have t1:=bk Z.out 1;go_upto_region 2 with(first|(refine LH rfl Cx rfl hf.out OQ ?_)|(go_at_call 39;refine(xc.out _ h2.out).mono ?_;rintro e hh ⟨rfl,xe⟩;have xz:=D xe;have xf:=Aj hh (Ab OL 26);obtain⟨y0,y1,z1,f1,y2⟩:=QI (i:=0) xf rfl rfl (V Ad 0) (V Ad 0);clear xe xf));have F:=D (xz.out.alloc (Ab OL 26));have hi:=D (Aj hh (Ab OL 26));obtain⟨yr,xg⟩:=JH hh.heap.size;rw [←xg]at hi ⊢;clear y0 y1 z1 f1 y2 xg hp t1;generalize hh.alloc (Ab OL 26)=W5 at F hi ⊢;have y3:=bk hi.out 0;have y4:=bk hi.out 1;have hp:=bk (CE F.out Z.out) 0;have t1:=bk (CE F.out Z.out) 1;have xh:=D (CE F.out hf.out);have hq:=D (CE F.out hm.out);have hr:=D (CE F.out hn.out);have ys:¬ (50000000:Int)<(steps:Int):=by omega
 have yt:¬ (steps:Int)<0:=by omega
 go_upto_region 7 with(first|(refine LH rfl Cx rfl xh.out OQ ?_)|(go_at_call 40;refine(hl.out _ (h2.out.trans F.out)).mono ?_;rintro e y5 ⟨O,a,b,base,y6,yu,yv,rfl,xi,hj,y7,y8,y9⟩));have ya:=D xi;have xj:=D hj;have yb:=D (Ag.1 hq.out).1;have yc:=D (Ag.1 hr.out).1;have E:AA (X+1+1<O∧X+1+1<a∧X+1+1<base∧X+1+1+1<O∧X+1+1+1<a∧X+1+1+1<base∧w.heap.size≤O∧w.heap.size≤a∧w.heap.size≤base):=D (by have:=yb.out;have:=yc.out;have:=P.out;omega);have xk:=D (CE hj hq.out);have xl:=D (CE hj hr.out);clear xi hj y7 y8 y9 hp t1 y3 y4 xc hl xh hq hr Z hf hm hn;go_wp2;go_loopw [11] (fun hs xm=>∃ (k:Nat) (s:TS) (xn xo:h),hs=V Ad k∧k≤steps∧AA (MR O a b base y6 (J A 32 L) xn xo xm s)∧AA (Re s)∧AA (Pm.UK steps hg=Pm.UK (steps - k) s)∧AA (MU O a base y5 xm)∧AA (s.inp.length≤400000)) (fun hs _=>steps - (AX hs).toNat)
 case atStart=>exact⟨0,hg,_,_,rfl,by omega,ya,xd,D rfl,D (JK.refl _),xy⟩
 case round=>
  obtain⟨k,s,xn,xo,rfl,xp,H,xq,xr,Q,ht⟩:=hrel;have yw:Ad.wrap ((k:Int)+1)=(k:Int)+1:=AU _ (by omega);by_cases hu:k<steps∧s.stop=0
  ·obtain⟨hu,R⟩:=hu;have hv:wr.cell? ⟨O,8,none⟩=some (V Ad 0):=by have:=H.out.Zk;rw [R]at this;exact this
   have yd:=D (yK7 H.out xq.out R);have ye:=D R;clear R;go_wp2_with (go_at_call 41;refine yd.out.mono ?_;rintro e yx ⟨rfl,⟨yf,yg,xs⟩,xt⟩;have yh:=D xs;have yi:=D xt;clear xs xt);go_roundw
   case rel=>exact⟨k+1,Pm.stepT s,yf,yg,by go_num,by omega,yh,D (Pm.zU6 xq.out),D (by rw [xr.out,show steps - k=(steps - (k+1))+1 by omega];exact zu7 ye.out),D (Q.out.trans yi.out),D (AL (zE8 s) ht.out)⟩
   case measure=>simp [AX];omega
  ·have xu:AA (Pm.UK steps hg=s):=D (by
    rw [xr.out]
    by_cases R:s.stop=0
    ·rw [show steps - k=0 by omega];rfl
    ·exact yL1 R _)
   have hv:=H.out.Zk;by_cases yj:k<steps
   ·have R:¬ s.stop=0:=fun q=>hu ⟨yj,q⟩
    have xv:¬ ((s.stop:Nat):Int)=0:=by omega
    have yk:=beq_false_of_ne xv;have yl:(k:Int)<(steps:Int):=by omega
    have h3:=D (qO H.out (by have:=ht.out;omega));obtain⟨d,f,h4⟩:=JB H.out.out.sl;obtain⟨j,h5⟩:=JH s.out.length;rw [←h5]at h4;subst h4;have hw:=D H.out.out.sl;have hx:=D (Q.out.heap xk.out (fun q=>by have:=E.out;omega));have hy:=D (Q.out.heap xl.out (fun q=>by have:=E.out;omega));have hz:=D (((Gl (G:=fun k=>k=O∨k=a∨base≤k) (h2.out.trans (F.out.trans xj.out))).trans Q.out).ext (fun k xp q=>by have:=E.out;omega));clear h5;obtain⟨l,h6⟩:=JH (s.r 0);obtain⟨m,h1⟩:=JH (s.r 1);obtain⟨o,h7⟩:=JH (s.r 2);obtain⟨t,h8⟩:=JH (s.r 3);obtain⟨u,h9⟩:=JH (s.r 4);obtain⟨B,I⟩:=JH s.stop;obtain⟨C,S⟩:=JH s.code;rw [←h6,←h1,←h7,←h8,←h9,←I,←S]at h3;rw [←I]at hv xv yk;have x0:=D I;have x1:=D S;clear h6 h1 h7 h8 h9 I S;go_wp2_with (first|(go_at_call 42;refine h3.out.mono ?_;rintro e v ⟨ym,rfl,⟨x,y,z,rfl⟩,K⟩;have T:=D K;have ha:=D (CE K hx.out);have x2:=D (JK.heap (JK.setRow (G:=fun k=>k=X+1+1) (JK.refl v) (AB rfl) #[J (some ⟨a,0,none⟩) 65536 b,V Af l,V Af m,V Af o,V Af t,V Af u,J x y z,J d j f,V Ad B,V Af C]) (CE K hy.out) (by omega));obtain⟨g0,yn,yo,yp,x3⟩:=QI (i:=0) x2.out rfl rfl (V Ad 0) (V Ad 0);clear K)|(refine L8 rfl rfl rfl ha.out OQ ?_));have x4:JK (fun k=>k=X+1+1∨k=X+1+1+1) v (v.setRow (X+1+1) #[J (some ⟨a,0,none⟩) 65536 b,V Af l,V Af m,V Af o,V Af t,V Af u,J x y z,J d j f,V Ad B,V Af C]):=JK.setRow (JK.refl v) (AB (AO rfl)) _;have hb:=JK.setCell (p:=⟨X+1+1+1,1,none⟩) (JK.setCell (p:=⟨X+1+1+1,0,none⟩) x4 (AB (AB rfl)) (V Ad 0)) (AB (AB rfl)) (V Ad 0);have x5:=JK.heap (JK.setCell (G:=fun k=>k=X+1+1+1) (p:=⟨X+1+1+1,1,none⟩) (JK.setCell (G:=fun k=>k=X+1+1+1) (p:=⟨X+1+1+1,0,none⟩) (JK.refl (v.setRow (X+1+1) #[J (some ⟨a,0,none⟩) 65536 b,V Af l,V Af m,V Af o,V Af t,V Af u,J x y z,J d j f,V Ad B,V Af C])) (AB rfl) (V Ad 0)) (AB rfl) (V Ad 0)) (Bo v (X+1+1) Nw #[J (some ⟨a,0,none⟩) 65536 b,V Af l,V Af m,V Af o,V Af t,V Af u,J x y z,J d j f,V Ad B,V Af C] 62 (0,0) ha.out) (by omega);refine B1 (cu results22 _ _ (X+1+1) (X+1+1+1) 62 26 #[J (some ⟨a,0,none⟩) 65536 b,V Af l,V Af m,V Af o,V Af t,V Af u,J x y z,J d j f,V Ad B,V Af C] OL (0,0) (0,0) _ _ rfl rfl x5 x3.out Cx rfl OQ Bd rfl cZ) rfl ?_
    rw [xu.out];refine⟨J (some ⟨a,0,none⟩) 65536 b,J x y z,J d j f,l,m,o,t,u,(k:Int),?_,⟨fun k=>base≤k∧k<wr.heap.size,fun q hc=>⟨by have:=E.out;omega,Ar hc.2 (AL T.out.size hb.size)⟩,(hw.out.ext T.out).upd hb (fun q hc e=>?_) (fun _ q=>q)⟩,⟨_,_,rfl⟩,⟨_,_,_,rfl⟩,?_⟩
    ·rw [←x0.out,←x1.out];rfl
    ·have:=E.out;omega
    ·exact(((hz.out.trans T.out).setRow (by have:=P.out;omega) _).setCell (p:=⟨X+1+1+1,0,none⟩) (by show w.heap.size≤X+1+1+1;have:=P.out;omega) _).setCell (p:=⟨X+1+1+1,1,none⟩) (by show w.heap.size≤X+1+1+1;have:=P.out;omega) _
   ·have yl:¬ (k:Int)<(steps:Int):=by omega
    have h3:=D (qO H.out (by have:=ht.out;omega));obtain⟨d,f,h4⟩:=JB H.out.out.sl;obtain⟨j,h5⟩:=JH s.out.length;rw [←h5]at h4;subst h4;have hw:=D H.out.out.sl;have hx:=D (Q.out.heap xk.out (fun q=>by have:=E.out;omega));have hy:=D (Q.out.heap xl.out (fun q=>by have:=E.out;omega));have hz:=D (((Gl (G:=fun k=>k=O∨k=a∨base≤k) (h2.out.trans (F.out.trans xj.out))).trans Q.out).ext (fun k xp q=>by have:=E.out;omega));clear h5;obtain⟨l,h6⟩:=JH (s.r 0);obtain⟨m,h1⟩:=JH (s.r 1);obtain⟨o,h7⟩:=JH (s.r 2);obtain⟨t,h8⟩:=JH (s.r 3);obtain⟨u,h9⟩:=JH (s.r 4);obtain⟨B,I⟩:=JH s.stop;obtain⟨C,S⟩:=JH s.code;rw [←h6,←h1,←h7,←h8,←h9,←I,←S]at h3;rw [←I]at hv;have x0:=D I;have x1:=D S;clear h6 h1 h7 h8 h9 I S;go_wp2_with (first|(go_at_call 42;refine h3.out.mono ?_;rintro e v ⟨ym,rfl,⟨x,y,z,rfl⟩,K⟩;have T:=D K;have ha:=D (CE K hx.out);have x2:=D (JK.heap (JK.setRow (G:=fun k=>k=X+1+1) (JK.refl v) (AB rfl) #[J (some ⟨a,0,none⟩) 65536 b,V Af l,V Af m,V Af o,V Af t,V Af u,J x y z,J d j f,V Ad B,V Af C]) (CE K hy.out) (by omega));obtain⟨g0,yn,yo,yp,x3⟩:=QI (i:=0) x2.out rfl rfl (V Ad 0) (V Ad 0);clear K)|(refine L8 rfl rfl rfl ha.out OQ ?_));have x4:JK (fun k=>k=X+1+1∨k=X+1+1+1) v (v.setRow (X+1+1) #[J (some ⟨a,0,none⟩) 65536 b,V Af l,V Af m,V Af o,V Af t,V Af u,J x y z,J d j f,V Ad B,V Af C]):=JK.setRow (JK.refl v) (AB (AO rfl)) _;have hb:=JK.setCell (p:=⟨X+1+1+1,1,none⟩) (JK.setCell (p:=⟨X+1+1+1,0,none⟩) x4 (AB (AB rfl)) (V Ad 0)) (AB (AB rfl)) (V Ad 0);have x5:=JK.heap (JK.setCell (G:=fun k=>k=X+1+1+1) (p:=⟨X+1+1+1,1,none⟩) (JK.setCell (G:=fun k=>k=X+1+1+1) (p:=⟨X+1+1+1,0,none⟩) (JK.refl (v.setRow (X+1+1) #[J (some ⟨a,0,none⟩) 65536 b,V Af l,V Af m,V Af o,V Af t,V Af u,J x y z,J d j f,V Ad B,V Af C])) (AB rfl) (V Ad 0)) (AB rfl) (V Ad 0)) (Bo v (X+1+1) Nw #[J (some ⟨a,0,none⟩) 65536 b,V Af l,V Af m,V Af o,V Af t,V Af u,J x y z,J d j f,V Ad B,V Af C] 62 (0,0) ha.out) (by omega);refine B1 (cu results22 _ _ (X+1+1) (X+1+1+1) 62 26 #[J (some ⟨a,0,none⟩) 65536 b,V Af l,V Af m,V Af o,V Af t,V Af u,J x y z,J d j f,V Ad B,V Af C] OL (0,0) (0,0) _ _ rfl rfl x5 x3.out Cx rfl OQ Bd rfl cZ) rfl ?_
    rw [xu.out];refine⟨J (some ⟨a,0,none⟩) 65536 b,J x y z,J d j f,l,m,o,t,u,(k:Int),?_,⟨fun k=>base≤k∧k<wr.heap.size,fun q hc=>⟨by have:=E.out;omega,Ar hc.2 (AL T.out.size hb.size)⟩,(hw.out.ext T.out).upd hb (fun q hc e=>?_) (fun _ q=>q)⟩,⟨_,_,rfl⟩,⟨_,_,_,rfl⟩,?_⟩
    ·rw [←x0.out,←x1.out];rfl
    ·have:=E.out;omega
    ·exact(((hz.out.trans T.out).setRow (by have:=P.out;omega) _).setCell (p:=⟨X+1+1+1,0,none⟩) (by show w.heap.size≤X+1+1+1;have:=P.out;omega) _).setCell (p:=⟨X+1+1+1,1,none⟩) (by show w.heap.size≤X+1+1+1;have:=P.out;omega) _
theorem zu9 {n i:Nat}(a:n=65536)(b:i<65536):(madeCells #[V Af 0] n)[i]?= some (V Af 0):=by
 subst a;unfold madeCells;rw [Array.getElem?_map,Array.getElem?_range,if_pos b];simp [Nat.mod_one]
theorem zv0:∃ a:Array h,(a.size=65536∧∀ i,i<65536→a[i]?= some (V Af 0))∧∀ W:Y,(Instr.makeSlice 37 (V Ad 65536) (V Ad 65536)).run prog W=Ez (J (some ⟨W.heap.size,0,none⟩) 65536 65536) (W.alloc (Ab a 24)):=by
 obtain⟨b,e,f,g,j⟩:=info_parts xz;obtain⟨n,c⟩:=JH (Int.toNat 65536*b.size);have d:n=65536:=by rw [c,g];rfl
 refine⟨madeCells #[V Af 0] n,⟨by rw [size_madeCells,d],fun i k=>zu9 d k⟩,fun W=>?_⟩;have:=run_make (P:=prog) W 37 24 b (V Af 0) Dn e f Ad Ad 65536 65536 (by omega) (by omega) (by rw [j];decide) (by omega);rw [←c]at this;exact this
theorem yL2 {b:Array h}{L:List Nat}{a:List h}(f:b.size=65536∧∀ i,i<65536→b[i]?= some (V Af 0))(d:a=L.map fun(n:Nat)=>V Af (n:Int)){i:Nat}(g:i<65536):((b.toList.take 0++(a++b.toList.drop (0+a.length))).toArray)[i]?= some (V Af ((L[i]?.getD 0:Nat):Int)):=by
 rw [EJ,Hg,B9];by_cases c:i<a.length
 ·rw [Ce c,d,Bh];have e:i<L.length:=by rw [d,AI]at c;exact c
  rw [Al e];rfl
 ·have e:L.length≤i:=by rw [d,AI]at c;omega
  rw [Cs (by omega),Fq,show 0+a.length+(i - a.length)=i by omega,CP,f.2 i g,C5 e];rfl
def yL3 (w:Y)(L inp:List Nat)(e:BX)(w':Y):Prop:=∃ g c a b,e=Ak (AZ #[AN #[J (some ⟨g,0,none⟩) 65536 c,V Af 0,V Af 0,V Af 0,V Af 0,V Af 0,a,J none 0 0,V Ad 0,V Af 0],AN OL])∧TH w' g (fun i=>L[i]?.getD 0)∧Ju KB b w' inp a∧Mw a∧Ext w w'
theorem zv1 (x8:h)(x9 xa:Nat→Prop)(w:Y)(h7:Ju KI x9 w J3 x8)(L:List Nat)(hl:Option Bi)(xb:Nat)(xc:0<L.length)(xd:L.length≤65536)(h8:Ol w hl (L.map fun(n:Nat)=>V Af (n:Int)))(inp:List Nat)(hm:h)(hn:Ju KB xa w inp hm)(y6:Mw hm)(hlen:inp.length≤400000):
 As prog 20 #[AN #[V Ad 65536,x8],J hl L.length xb,hm] w (yL3 w L inp):=by
 obtain⟨A,O,rfl⟩:=JB h7;rw [show J3.length=32 from rfl]at h7 ⊢;obtain⟨xe,xf,rfl⟩:=JB hn;have y7:=D (fun W (e:Ext w W)=>ed _ x9 W (h7.ext e));have xg:=D (fun W (e:Ext w W)=>fF xa W inp _ (hn.ext e) y6 (by omega));obtain⟨h9,rfl⟩:∃ h9,hl=some h9:=by
  obtain⟨x,B⟩:∃ x,L[0]?= some x:=⟨_,Al xc⟩
  obtain⟨a,ho, -⟩:=h8 0 (V Af x) (by rw [Bh,B];rfl);exact⟨a,ho⟩
 obtain⟨u,T⟩:=JH (L.map fun(n:Nat)=>V Af (n:Int));rw [←T]at h8;have y8:=D T;have y9:=D (fun W (e:Ext w W) j v (ya:u[j]?= some v)=>show W.cell? (h9.add j)=some v from by
  obtain⟨a,ho,hc⟩:=(h8.ext e) j v ya
  cases ho
  exact hc)
 have yb:AA (∀v∈u,v.oneCell'=true):=D (by rw [T];intro v d;obtain⟨n,_,rfl⟩:=D4.1 d;rfl);obtain⟨n,hp⟩:=JH inp.length;obtain⟨m,ha⟩:=JH L.length;have xh:AA (u.length=m):=D (by rw [T,AI,ha]);clear T xc;rw [←hp]at xg hlen;rw [←ha]at xd;rw [←hp,←ha];obtain⟨X,U⟩:=JH w.heap.size;have P:AA (Ext w (((w.alloc (Ab #[V Ad 65536,J A 32 O] 47)).alloc (Ab Nw 62)).alloc (Ab OL 26))):=D ((((Ext.refl w).alloc _).alloc _).alloc _);have hb:AA ((((w.alloc (Ab #[V Ad 65536,J A 32 O] 47)).alloc (Ab Nw 62)).alloc (Ab OL 26)).heap[X]?= some (Ab #[V Ad 65536,J A 32 O] 47)):=D (by subst U;exact MX (MX (NR rfl)));have xi:AA ((((w.alloc (Ab #[V Ad 65536,J A 32 O] 47)).alloc (Ab Nw 62)).alloc (Ab OL 26)).heap[X+1]?= some (Ab Nw 62)):=D (by subst U;exact MX (NR (by simp)));have xj:AA ((((w.alloc (Ab #[V Ad 65536,J A 32 O] 47)).alloc (Ab Nw 62)).alloc (Ab OL 26)).heap[X+1+1]?= some (Ab OL 26)):=D (by subst U;exact NR (by simp));clear h7 hn h8 hp ha;go_enter func20,ntmps20;go_upto_region 1 with fail;rw [←U];have hq:AA (w.heap.size≤X):=D (by omega);clear U;generalize((w.alloc (Ab #[V Ad 65536,J A 32 O] 47)).alloc (Ab Nw 62)).alloc (Ab OL 26)=W3 at P hb xi xj ⊢;have hd:=bk hb 0;have t1:=bk hb 1;go_upto_region 2 with(go_at_call 37;refine(y7 _ P).mono ?_;rintro e he ⟨rfl,xk⟩;have yc:=D xk;have hr:=Aj he (Ab OL 26);obtain⟨yd,ye,z1,f1,yf⟩:=QI (i:=0) hr rfl rfl (V Ad 0) (V Ad 0);clear xk hr);have E:=D (yc.alloc (Ab OL 26));have hf:=D (Aj he (Ab OL 26));obtain⟨yz,xl⟩:=JH he.heap.size;rw [←xl]at hf ⊢;clear yd ye z1 f1 yf xl hd t1;generalize he.alloc (Ab OL 26)=W5 at E hf ⊢;have yg:=bk hf 0;have yh:=bk hf 1;have hd:=bk (CE E hb) 0;have hs:=D (CE E xi);have ht:=D (CE E xj);have z0:¬ (65536:Int)<(m:Int):=by omega
 have hr:¬ (400000:Int)<(n:Int):=by omega
 go_upto_region 8 with fail;obtain⟨f,xm,hu⟩:=zv0;have xn:=D xm;have yi:=D hu;clear hu xm;rename_i yj xo;have xp:=D xo;clear xo;have yk:Ju KB (fun _=>True) W5 [] (J none 0 0):=Ju.nil _ _ _;refine Wx (n:=41) Ext (fun j v b=>match j with
  |0=>v=Ae (some ⟨X,0,none⟩)
  |1=>v=V Ad 65536
  |2=>∃ g,v=J (some ⟨g,0,none⟩) 65536 65536∧W5.heap.size≤g∧b.heap[g]?= some (Ab f 24)
  |3=>v=J xe n xf
  |4=>Ju KB (fun k=>k<b.heap.size∧∃ cur,b.heap[k]?= some (Ab cur 5)) b inp v∧Mw v
  |5=>∃ g F,v=AN #[J (some ⟨g,0,none⟩) 65536 65536,V Af 0,V Af 0,V Af 0,V Af 0,V Af 0,F,J none 0 0,V Ad 0,V Af 0]∧W5.heap.size≤g∧b.heap[g]?= some (Ab f 24)∧Ju KB (fun k=>k<b.heap.size∧∃ cur,b.heap[k]?= some (Ab cur 5)) b inp F∧Mw F
  |_=>∃ q,v=Ae (some ⟨q,0,none⟩)∧W5.heap.size≤q∧b.heap[q]?= some (Ab Nw 62)) 7 rfl (fun p q=>p.trans q) Ext.refl (Ext.drew (Ext.refl _)) (fun i hv=>?_) (fun z2 c B xq=>?_) (by kernel_rfl) (by kernel_rfl)
 ·rcases lt7 hv with rfl|rfl|rfl|rfl|rfl|rfl|rfl
  ·refine Oj 0 29 (fun a b z s Q t=>?_) rfl (n:=41) rfl (by decide);have e:=s.bs 3 (v:=Ae (some ⟨X,0,none⟩)) (by kernel_rfl) rfl;go_simp;exact t _ _ (Ext.refl _) (fun _ _=>rfl)
  ·refine Oj 1 30 (fun a b z s Q t=>?_) rfl (n:=41) rfl (by decide);obtain⟨v,e,d⟩:=s.rd (n:=41) rfl 0 29 (by kernel_rfl) rfl (by decide);have d:v=_:=d;subst d;have q:=z.cell hd;go_simp;exact t _ _ (Ext.refl _) (fun _ _=>rfl)
  ·refine Oj 2 31 (fun a b z s Q t=>?_) rfl (n:=41) rfl (by decide);obtain⟨v,e,d⟩:=s.rd (n:=41) rfl 1 30 (by kernel_rfl) rfl (by decide);have d:v=_:=d;subst d;have hu:=yi.out;go_simp;exact t _ _ (Ext.alloc (Ext.refl _) _) (fun Z y=>⟨_,rfl,z.size,CE y (Aj b _)⟩)
  ·refine Oj 3 32 (fun a b z s Q t=>?_) rfl (n:=41) rfl (by decide);have e:=s.bs 2 (v:=J xe n xf) (by kernel_rfl) rfl;go_simp;exact t _ _ (Ext.refl _) (fun _ _=>rfl)
  ·refine Oj 4 33 (fun a b z s Q t=>?_) rfl (n:=41) rfl (by decide);obtain⟨v,e,d⟩:=s.rd (n:=41) rfl 3 32 (by kernel_rfl) rfl (by decide);have d:v=_:=d;subst d;go_simp;refine(xg _ ((P.trans E).trans z)).mono ?_
   rintro e z3 ⟨z4,rfl,h1,R,B⟩;exact t _ _ B (fun Z y=>⟨(h1.ext y).mono (fun k q=>⟨Ar q.2.1 y.size,q.2.2.elim fun cur hc=>⟨cur,CE y hc⟩⟩),R⟩)
  ·refine Oj 5 34 (fun a b z s Q t=>?_) rfl (n:=41) rfl (by decide);obtain⟨v,e,d⟩:=s.rd (n:=41) rfl 2 31 (by kernel_rfl) rfl (by decide);obtain⟨g,rfl,h0,I⟩:∃ g,v=J (some ⟨g,0,none⟩) 65536 65536∧W5.heap.size≤g∧b.heap[g]?= some (Ab f 24):=d
   obtain⟨xr,C,yl⟩:=s.rd (n:=41) rfl 4 33 (by kernel_rfl) rfl (by decide);obtain⟨hw,xs⟩:Ju KB (fun k=>k<b.heap.size∧∃ cur,b.heap[k]?= some (Ab cur 5)) b inp xr∧Mw xr:=yl;obtain⟨l,o,rfl⟩:=JB hw;have xt:=D hw;have xu:=D xs;have ym:=D I;obtain⟨r,h2⟩:=JH inp.length;rw [←h2]at C xt xu;clear hw xs I h2;go_simp;exact t _ _ (Ext.refl _) (fun Z y=>⟨g,_,rfl,h0,CE y ym,(xt.ext y).mono (fun k q=>⟨Ar q.1 y.size,q.2.elim fun cur hc=>⟨cur,CE y hc⟩⟩),xu⟩)
  ·refine Oj 6 9 (fun a b z s Q t=>?_) rfl (n:=41) rfl (by decide);go_simp;exact t _ _ (Ext.alloc (Ext.refl _) _) (fun Z y=>⟨_,rfl,z.size,CE y (Aj b _)⟩)
 obtain⟨v,rfl,H⟩:=xq.lit (by decide);have xv:v 0=_:=H 0 (by decide);have h1:v 1=_:=H 1 (by decide);obtain⟨z5,R, -, -⟩:∃ g,v 2=J (some ⟨g,0,none⟩) 65536 65536∧_∧_:=H 2 (by decide);have hg:v 3=_:=H 3 (by decide);obtain⟨xw, -⟩:Ju KB (fun k=>k<c.heap.size∧∃ cur,c.heap[k]?= some (Ab cur 5)) c inp (v 4)∧Mw (v 4):=H 4 (by decide);obtain⟨z6,z7,hx⟩:=JB xw;clear xw;obtain⟨g,F,hy,h0,I,hh,hz⟩:∃ g F,v 5=AN #[J (some ⟨g,0,none⟩) 65536 65536,V Af 0,V Af 0,V Af 0,V Af 0,V Af 0,F,J none 0 0,V Ad 0,V Af 0]∧W5.heap.size≤g∧c.heap[g]?= some (Ab f 24)∧Ju KB (fun k=>k<c.heap.size∧∃ cur,c.heap[k]?= some (Ab cur 5)) c inp F∧Mw F:=H 5 (by decide)
 obtain⟨q,xx,x0,M⟩:∃ q,v 6=Ae (some ⟨q,0,none⟩)∧W5.heap.size≤q∧c.heap[q]?= some (Ab Nw 62):=H 6 (by decide)
 obtain⟨l,o,rfl⟩:=JB hh;obtain⟨r,h2⟩:=JH inp.length;rw [←h2]at hx hy hh hz;simp only [DL,Hg,puts,BF,Ff,xv,h1,R,hg,hx,hy,xx,Au,pA,pB,pC];have xy:g≠q:=by
  rintro rfl;rw [I]at M;injection M with N
  injection N with _ N
  exact absurd N (by decide)
 have xz:=D M;have h3:AA (JK (fun k=>k=q) c (c.setRow q #[J (some ⟨g,0,none⟩) 65536 65536,V Af 0,V Af 0,V Af 0,V Af 0,V Af 0,J l r o,J none 0 0,V Ad 0,V Af 0])):=D (JK.setRow (G:=fun k=>k=q) (JK.refl c) (AB rfl) _);have hi:=D (Bo c q Nw #[J (some ⟨g,0,none⟩) 65536 65536,V Af 0,V Af 0,V Af 0,V Af 0,V Af 0,J l r o,J none 0 0,V Ad 0,V Af 0] 62 (0,0) M);have hj:AA ((c.setRow q #[J (some ⟨g,0,none⟩) 65536 65536,V Af 0,V Af 0,V Af 0,V Af 0,V Af 0,J l r o,J none 0 0,V Ad 0,V Af 0]).heap[g]?= some (Ab f 24 (0,0))):=D (h3.heap I xy);have yn:=D xy;have S:∀ (k x1:Nat) (x2:AK) (cs:Array h),c.heap[x1]?= some (Ab cs x2)→x2≠5→(k<c.heap.size∧∃ cur,c.heap[k]?= some (Ab cur 5))→k≠x1:=fun k x1 x2 cs h1 R hg e=>by
  obtain⟨cur,hc⟩:=hg.2;rw [e,h1]at hc;injection hc with N
  injection N with _ N
  exact R N
 have x3:=D (hh.upd (U':=fun k=>k≠q∧k≠g∧k≠X+1∧k≠X+1+1) h3 (fun k e=>S k _ _ _ M (by decide) e) (fun k e=>⟨S k _ _ _ M (by decide) e,S k _ _ _ I (by decide) e,S k _ _ _ (CE B hs) (by decide) e,S k _ _ _ (CE B ht) (by decide) e⟩));clear S;have yo:=D hz;have x4:=D (((P.trans E).trans B).setRow (g:=q) (AL (P.trans E).size x0) #[J (some ⟨g,0,none⟩) 65536 65536,V Af 0,V Af 0,V Af 0,V Af 0,V Af 0,J l r o,J none 0 0,V Ad 0,V Af 0]);have h4:=D (⟨(Ag.1 hs).1,(Ag.1 ht).1⟩:X+1<W5.heap.size∧X+1+1<W5.heap.size);have hk:AA (W5.heap.size≤g∧W5.heap.size≤q∧w.heap.size≤g):=D ⟨h0,x0,AL (P.trans E).size h0⟩;have x5:=D (h3.heap (CE B hs) (by have:=h4.out;omega));have x6:=D (h3.heap (CE B ht) (by have:=h4.out;omega));clear xv h1 R hg hx hy xx H h2 I M hh hz xq yk hd yg yh h0 x0 v;show JX _ _ _ _ _ _ 1 _ _ _
 refine JX.rd 7 (fun K y0=>?_);refine Ov rfl 62 _ _ rfl q #[J (some ⟨g,0,none⟩) 65536 65536,V Af 0,V Af 0,V Af 0,V Af 0,V Af 0,J l r o,J none 0 0,V Ad 0,V Af 0] rfl rfl 62 Nw xz OQ rfl (by simp [CT]) ?_
 refine y0 _ _ trivial (fun _=>?_);clear y0 K;refine JV ?_
 refine xp _ _ ?_
 clear xp yj xz h3;generalize c.setRow q #[J (some ⟨g,0,none⟩) 65536 65536,V Af 0,V Af 0,V Af 0,V Af 0,V Af 0,J l r o,J none 0 0,V Ad 0,V Af 0]=h5 at hi hj x3 x4 x5 x6 ⊢;have yp:=bk hi 0;go_upto_region 10 with(refine wpList_copy_own rfl _ _ 37 37 rfl 24 Dn (by kernel_rfl) g 0 65536 65536 h9 m xb rfl rfl f 24 hj u (by rw [xh];exact(CJ xd).symm) (y9 _ x4) (by rw [xh,xn.1];omega) yb ?_);have h6:AA (JK (fun k=>k=g) h5 (h5.setRow g (f.toList.take 0++(u++f.toList.drop (0+u.length))).toArray)):=D (JK.setRow (G:=fun k=>k=g) (JK.refl h5) (AB rfl) _);have x7:=D (Bo h5 g f (f.toList.take 0++(u++f.toList.drop (0+u.length))).toArray 24 (0,0) hj);have y1:=D (x4.setRow (g:=g) hk.2.2 (f.toList.take 0++(u++f.toList.drop (0+u.length))).toArray);generalize h5.setRow g (f.toList.take 0++(u++f.toList.drop (0+u.length))).toArray=W10 at h6 x7 y1 ⊢;have yq:AA (TH W10 g (fun i=>L[i]?.getD 0)):=D ⟨_,x7,fun i hv=>yL2 xn y8 hv⟩;have yr:=D (h6.heap hi (fun e=>yn e.symm));have y2:=D (h6.heap x5 (by have:=h4.out;have:=hk.out;omega));have ys:=D (h6.heap x6 (by have:=h4.out;have:=hk.out;omega));have yt:=D (x3.upd (U':=fun k=>k≠X+1∧k≠X+1+1) h6 (fun k e C=>e.2.1 C) (fun _ e=>e.2.2));clear yp x7 hj hi x5 x6 x3;have y3:JK (fun k=>k=X+1∨k=X+1+1) W10 (W10.setRow (X+1) #[J (some ⟨g,0,none⟩) 65536 65536,V Af 0,V Af 0,V Af 0,V Af 0,V Af 0,J l r o,J none 0 0,V Ad 0,V Af 0]):=JK.setRow (JK.refl W10) (AB (AO rfl)) _;have y4:=JK.heap (JK.setRow (G:=fun k=>k=X+1) (JK.refl W10) (AB rfl) #[J (some ⟨g,0,none⟩) 65536 65536,V Af 0,V Af 0,V Af 0,V Af 0,V Af 0,J l r o,J none 0 0,V Ad 0,V Af 0]) ys (by omega);obtain⟨z8,p1,z9,za,yu⟩:=QI (i:=0) y4 rfl rfl (V Ad 0) (V Ad 0);have y5:=D (JK.setCell (p:=⟨X+1+1,1,none⟩) (JK.setCell (p:=⟨X+1+1,0,none⟩) y3 (AB (AB rfl)) (V Ad 0)) (AB (AB rfl)) (V Ad 0));have yv:=D (JK.heap (JK.setCell (G:=fun k=>k=X+1+1) (p:=⟨X+1+1,1,none⟩) (JK.setCell (G:=fun k=>k=X+1+1) (p:=⟨X+1+1,0,none⟩) (JK.refl (W10.setRow (X+1) #[J (some ⟨g,0,none⟩) 65536 65536,V Af 0,V Af 0,V Af 0,V Af 0,V Af 0,J l r o,J none 0 0,V Ad 0,V Af 0])) (AB rfl) (V Ad 0)) (AB rfl) (V Ad 0)) (Bo W10 (X+1) Nw #[J (some ⟨g,0,none⟩) 65536 65536,V Af 0,V Af 0,V Af 0,V Af 0,V Af 0,J l r o,J none 0 0,V Ad 0,V Af 0] 62 (0,0) y2) (by omega));have yw:=D (((y1.setRow (g:=X+1) (by have:=hq.out;omega) #[J (some ⟨g,0,none⟩) 65536 65536,V Af 0,V Af 0,V Af 0,V Af 0,V Af 0,J l r o,J none 0 0,V Ad 0,V Af 0]).setCell (p:=⟨X+1+1,0,none⟩) (by show w.heap.size≤X+1+1;have:=hq.out;omega) (V Ad 0)).setCell (p:=⟨X+1+1,1,none⟩) (by show w.heap.size≤X+1+1;have:=hq.out;omega) (V Ad 0));clear y3 y4;go_wp2_with (first|(refine LH rfl Cx rfl yr OQ ?_)|(refine L8 rfl rfl rfl y2 OQ ?_));refine B1 (Xp results20 _ _ (X+1) (X+1+1) 62 26 #[J (some ⟨g,0,none⟩) 65536 65536,V Af 0,V Af 0,V Af 0,V Af 0,V Af 0,J l r o,J none 0 0,V Ad 0,V Af 0] OL (0,0) (0,0) _ _ rfl rfl yv yu Cx rfl OQ Bd rfl cZ) rfl ?_
 refine⟨g,65536,J l r o,_,rfl,?_,yt.upd (U':=fun _=>True) y5 (fun k e C=>by rcases C with C|C;exact e.1 C;exact e.2 C) (fun _ _=>trivial),yo,yw⟩;obtain⟨yx,yy,q2⟩:=yq;exact⟨yx,y5.heap yy (by have:=hk.out;have:=h4.out;omega),q2⟩
end Go.Proofs.YtmkomefmgcpnbaaGreatDoor

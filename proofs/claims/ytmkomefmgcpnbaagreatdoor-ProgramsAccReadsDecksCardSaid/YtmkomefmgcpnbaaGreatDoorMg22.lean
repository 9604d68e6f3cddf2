import Derived.Test.YtmkomefmgcpnbaaGreatDoorMg19
set_option linter.all false
set_option maxHeartbeats 12800000
set_option maxRecDepth 100000
namespace Go.Proofs.YtmkomefmgcpnbaaGreatDoor
open Go Go.Proofs Go.RowKit Tryz
open Pg (Bs)
open Pm (Tm Ac In)
open _root_.Array renaming all_eq_true_iff_forall_mem→FH,any_eq_true→Hy,ext_getElem?→Es,getD_eq_getD_getElem?→CR,getD→Hj,getElem?_eq_getElem→Bc,getElem?_eq_none→Ft,getElem?_eq_some_iff→Ag,getElem?_setIfInBounds→BE,getElem_mem→Hx,replicate→CD
open _root_.Bool renaming and_eq_true→Ah,eq_iff_iff→Bl,or_eq_true→DZ
open Go renaming Act→CY,Edge→Ik,Exit→EY,Oper→B5,Program→BR,TypeId→AK,Value→h,World→Y,undef→Ca,yielded→BW,Calls→As,execOp→CS,heap_alloc_new→Aj,maxLen→Bk
open Go.Code renaming region→FU
open Go.Departure renaming mixedOrders→Fu
open Go.Lib renaming hid→D
open Go.Oper renaming wp→Cb
open Go.Region renaming binds→CB,ready→Bw,wanted→AQ
open Go.Region.Mode renaming any→GG
open Go.RowKit renaming Hid→AA
open _root_.List renaming all_eq_true→A7,mem_filter→I4,mem_range→Dt,range→Cv
open _root_.Nat renaming beq→Az,ble_eq_true_of_le→Dw,ble→A6,blt→Be,eq_of_beq_eq_true→Ap,le_of_ble_eq_true→Ai,lt_of_lt_of_le→Ar,strongRecOn→D1,zero_add→BF,le_refl→Aw,le_trans→AL
open _root_.Option renaming getD_some→CU,map_some→Gt
open Go.Callee renaming value→Jr
open Go.Ending renaming returned→Ak
open Go.IntKind renaming i64→Ad,u32→Af
open Go.Next renaming value→F5
open Go.Obj renaming cells→Ab
open Go.Op renaming buildSlice→Gq,call→Gy,load→IK
open Go.Operand renaming const→FV,tmp→Eh
open Go.Result renaming ok→Ez
open Go.Value renaming agg→AN,bool→AE,func→ER,int→V,pointer→Ae,slice→J,string→Aa,tuple→AZ
open _root_.Or renaming inl→AO,inr→AB
section
variable {P:BR}{ops:Array B5}{Q:EY→CY→Y→Prop}{R:Y→Y→Prop}{Z:Nat→h→Y→Prop}{a0:CY}
def Mo (ops:Array B5)(j:Nat):Option Tmp:=(ops[j]?).bind (·.dst)
def valOf (a:CY):Option Tmp→h
 |some d=>a.tmps.getD d Ca
 |none=>Ca
def Bx (R:Y→Y→Prop)(Z:Nat→h→Y→Prop)(j:Nat)(v:h)(w:Y):Prop:=∀ w',R w w'→Z j v w'
def Lr (listed:Array Bool)(j:Nat):Bool:=listed.getD j false
structure Iv (ops:Array B5) (R:Y→Y→Prop) (Z:Nat→h→Y→Prop) (a0:CY) (listed:Array Bool) (a:CY) (w:Y):Prop where
 ls:listed.size=ops.size
 sz:a.tmps.size=a0.tmps.size
 df:a.defers=a0.defers
 old:∀ s:Nat,(∀j,Lr listed j=true→Mo ops j≠some s)→a.tmps[s]?= a0.tmps[s]?
 val:∀ j,Lr listed j=true→Bx R Z j (valOf a (Mo ops j)) w
 cl:∀ i o,ops[i]?= some o→Lr listed i=true→∀ e∈o.after,CB GG e=true→Lr listed e.on=true
structure Bs_ (ops:Array B5) (R:Y→Y→Prop) (Z:Nat→h→Y→Prop) (a0:CY) (i:Nat) (a:CY) (w:Y):Prop where
 sz:a.tmps.size=a0.tmps.size
 old:∀ s:Nat,((Cv ops.size).all fun j=> !decide (Mo ops j=some s))=true→a.tmps[s]?= a0.tmps[s]?
 val:∀ j,((ops[i]?).map (fun o=>o.after.any fun e=>CB GG e&&Az e.on j)).getD false=true→Z j (valOf a (Mo ops j)) w
def zq9 (ops:Array B5)(s:Nat):Bool:=(Cv ops.size).all fun j=> !decide (Mo ops j=some s)
def zr0 (ops:Array B5)(i j:Nat):Bool:=((ops[i]?).map (fun o=>o.after.any fun e=>CB GG e&&Az e.on j)).getD false
theorem Bs_.bs {i:Nat}{a:CY}{w:Y}(b:Bs_ ops R Z a0 i a w)(s:Nat){v:h}(c:zq9 ops s=true)(d:a0.tmps[s]?= some v):a.tmps[s]?= some v:=(b.old s c).trans d
theorem Bs_.rd {i n:Nat}{a:CY}{w:Y}(b:Bs_ ops R Z a0 i a w)(e:a0.tmps.size=n)(j d:Nat)(f:zr0 ops i j=true)(g:Mo ops j=some d)(h:d<n):∃ v,a.tmps[d]?= some v∧Z j v w:=by
 have h1:=b.val j f;rw [g]at h1;have c:d<a.tmps.size:=by rw [b.sz,e];exact h
 refine⟨a.tmps[d],Bc c,?_⟩;have:valOf a (some d)=a.tmps[d]:=by show a.tmps.getD d Ca=_;simp [Hj,c]
 rwa [this]at h1
def Ob (P:BR)(ops:Array B5)(Q:EY→CY→Y→Prop)(R:Y→Y→Prop)(Z:Nat→h→Y→Prop)(a0:CY)(w0:Y)(i:Nat):Prop:=
 ∀a w,R w0 w→Bs_ ops R Z a0 i a w→wpOp P ops Q i (fun b w'=>∃ v,b=a.put (Mo ops i) v∧R w w'∧Bx R Z i (valOf (a.put (Mo ops i) v) (Mo ops i)) w') a w
def reach (ops:Array B5):Nat→Nat→Nat→Bool
 |0,_,_=>false
 |f+1,i,j=>((ops[i]?).map (fun o=>(o.after.any fun e=>CB GG e&&Az e.on j)||o.after.any fun e=>CB GG e&&reach ops f e.on j)).getD false
theorem gU {ops:Array B5}{L:Nat→Prop}(g:∀ i o,ops[i]?= some o→L i→∀ e∈o.after,CB GG e=true→L e.on){j:Nat}:∀ (f i:Nat)(o:B5),ops[i]?= some o→(∀e∈o.after,CB GG e=true→L e.on)→reach ops f i j=true→L j
 |0,_,_,_,_,a=>by cases a
 |f+1,i,o,n,h,a=>by
  unfold reach at a;rw [n]at a;simp only [Gt,CU,DZ]at a;rcases a with a|a
  ·obtain⟨k,d,b⟩:=Hy.1 a;rw [Ah]at b;have:=Ap b.2;subst this;exact h _ (Hx d) b.1
  ·obtain⟨k,d,b⟩:=Hy.1 a;rw [Ah]at b;have p:=h _ (Hx d) b.1;have c:=b.2;cases q:ops[(o.after[k]).on]? with
   |none=>
    cases f with
    |zero=>cases c
    |succ f=>unfold reach at c;rw [q]at c;cases c
   |some l=>exact gU g f _ l q (g _ l q p) c
def okB (ops:Array B5)(m n:Nat):Bool:=
 A6 m ops.size&&(Cv ops.size).all fun i=>(match Mo ops i with
  |some d=>Be d n&&(Cv ops.size).all fun j=>Az i j|| !decide (Mo ops j=some d)
  |none=>true)&&((ops[i]?).map (fun o=>o.after.all fun e=>Be e.on i)).getD true&&(Be i m||(Cv m).all fun j=>reach ops ops.size i j)
theorem zM1 {ops:Array B5}{m n:Nat}(a:okB ops m n=true):m≤ops.size:=by
 unfold okB at a;rw [Ah]at a;exact Ai a.1
theorem Yl {ops:Array B5}{m n:Nat}(c:okB ops m n=true){i:Nat}(g:i<ops.size):(∀d,Mo ops i=some d→d<n∧∀ j,j<ops.size→Mo ops j=some d→i=j)∧(∀o,ops[i]?= some o→∀ e∈o.after,e.on<i)∧(m≤i→∀ j,j<m→reach ops ops.size i j=true):=by
 unfold okB at c;rw [Ah,A7]at c;have h1:=c.2 i (Dt.2 g);rw [Ah,Ah]at h1;refine⟨fun d h=>?_,fun o k e l=>?_,fun q j f=>?_⟩
 ·have a:=h1.1.1;rw [h]at a;simp only [Ah]at a;refine⟨Ai a.1,fun j f p=>?_⟩;have b:=A7.1 a.2 j (Dt.2 f);rw [p]at b;simpa using b
 ·have a:=h1.1.2;rw [k]at a;simp only [Gt,CU]at a;have b:=(FH.1 a) e l;exact Ai b
 ·have a:=h1.2;rw [DZ]at a;rcases a with a|a
  ·exact absurd (Ai a) (by omega)
  exact A7.1 a j (Dt.2 f)
theorem Ux {listed:Array Bool}{i j:Nat}(b:i<listed.size):Lr (listed.setIfInBounds i true) j=(if i=j then true else Lr listed j):=by
 unfold Lr;simp only [CR,BE];by_cases a:i=j
 ·subst a;simp [b]
 ·simp [a]
theorem zD6 {listed:Array Bool}{i:Nat}(c:i∈Bw GG ops listed)(g:listed.size=ops.size):i<ops.size∧Lr listed i=false∧∃ o,ops[i]?= some o∧∀ e∈o.after,CB GG e=true→Lr listed e.on=true:=by
 obtain⟨a,o,b,d⟩:=mem_ready.1 c;have f:=(Ag.1 b).1;refine⟨f,?_,o,b,d⟩;unfold Lr;simp only [CR]at a ⊢;rw [Bc (by omega)]at a ⊢;simpa using a
theorem bZ {a:CY}{d:Option Tmp}{v:h}{s:Nat}(b:d≠some s):(a.put d v).tmps[s]?= a.tmps[s]? :=by
 cases d with
 |none=>rfl
 |some d=>
  show(a.tmps.setIfInBounds d v)[s]?= _
  rw [BE,if_neg (fun q=>b (by rw [q]))]
theorem eu {a:CY}{d:Option Tmp}{v:h}:(a.put d v).tmps.size=a.tmps.size:=by
 cases d with
 |none=>rfl
 |some d=>show(a.tmps.setIfInBounds d v).size=_;simp
theorem put_defers {a:CY}{d:Option Tmp}{v:h}:(a.put d v).defers=a.defers:=by cases d<;>rfl
theorem zD7 {a:CY}{d e:Option Tmp}{v:h}(b:∀ s,e=some s→d≠some s):valOf (a.put d v) e=valOf a e:=by
 cases e with
 |none=>rfl
 |some s=>
  show(a.put d v).tmps.getD s Ca=a.tmps.getD s Ca
  simp only [CR];rw [bZ (b s rfl)]
theorem Iv.step {listed:Array Bool}{a:CY}{w w':Y}{i m:Nat}{v:h}(c:Iv ops R Z a0 listed a w)(t:okB ops m a0.tmps.size=true)(g:i<ops.size)
 (u:∀ {x k z},R x k→R k z→R x z) (y:R w w') (A:∀ o,ops[i]?= some o→∀ e∈o.after,CB GG e=true→Lr listed e.on=true) (B:Bx R Z i (valOf (a.put (Mo ops i) v) (Mo ops i)) w'):Iv ops R Z a0 (listed.setIfInBounds i true) (a.put (Mo ops i) v) w':=by
 have f:i<listed.size:=by rw [c.ls];exact g
 refine⟨by simp [c.ls],eu.trans c.sz,put_defers.trans c.df,fun s d=>?_,fun j b=>?_,fun j o l b e n p=>?_⟩
 ·have h1:=d i (by rw [Ux f,if_pos rfl]);rw [bZ h1];refine c.old s fun j b=>d j ?_
  rw [Ux f];split;rfl;exact b
 ·rw [Ux f]at b;by_cases e:i=j
  ·subst e;exact B
  ·rw [if_neg e]at b;rw [zD7]
   ·exact fun x C=>c.val j b x (u y C)
   ·intro s d D;have E:j<ops.size:=by
     unfold Mo at d;cases q:ops[j]? with
     |none=>rw [q]at d;cases d
     |some o=>exact(Ag.1 q).1
    exact e (((Yl t g).1 s D).2 j E d)
 ·rw [Ux f];split
  ·rfl
  ·rw [Ux f]at b;by_cases r:i=j
   ·subst r;exact A o l e n p
   ·rw [if_neg r]at b;exact c.cl j o l b e n p
def unl (m:Nat)(listed:Array Bool):Nat:=((Cv m).filter fun j=> !Lr listed j).length
def UC (m n:Nat):Array Bool:=((Cv n).map fun i=>Be i m).toArray
theorem Iv.any {m:Nat}(t:okB ops m a0.tmps.size=true){w0:Y}(K:∀ {x M z},R x M→R M z→R x z)(N:∀ x,R x x)(T:∀ i,i<m→Ob P ops Q R Z a0 w0 i)
 (U:∀ a w,R w0 w→a.defers=a0.defers→a.tmps.size=a0.tmps.size→(∀s:Nat,(∀j,j<m→Mo ops j≠some s)→a.tmps[s]?= a0.tmps[s]?)→(∀j,j<m→Z j (valOf a (Mo ops j)) w)→wpAny P GG ops Q (ops.size - m) (UC m ops.size) a w):
 ∀(k:Nat) (listed:Array Bool) (a:CY) (w:Y),unl m listed=k→(∀j,m≤j→Lr listed j=false)→Iv ops R Z a0 listed a w→R w0 w→wpAny P GG ops Q (k+(ops.size - m)) listed a w:=by
 have h6:=zM1 t;intro k
 induction k with
 |zero=>
  intro listed a w d u b y;have g:∀ j,j<m→Lr listed j=true:=by
   intro j c;cases q:Lr listed j with
   |true=>rfl
   |false=>
    have:j∈(Cv m).filter fun j=> !Lr listed j:=I4.2 ⟨Dt.2 c,by rw [q];rfl⟩
    unfold unl at d;rw [List.length_eq_zero_iff.1 d]at this;cases this
  have E:listed=UC m ops.size:=by
   apply Es;intro j;have h1:Lr listed j=Be j m:=by
    by_cases q:j<m
    ·rw [g j q];exact(Dw q).symm
    ·rw [u j (by omega)];cases e:Be j m with
     |false=>rfl
     |true=>exact absurd (Ai e) q
   unfold UC;by_cases q:j<ops.size
   ·have A:j<listed.size:=by rw [b.ls];exact q
    unfold Lr at h1;simp only [CR,Bc A,CU]at h1;rw [Bc A,h1];simp [q]
   ·rw [Ft (by rw [b.ls];omega)];simp [q]
  rw [BF,E];refine U a w y b.df b.sz (fun s F=>b.old s fun j c=>F j ?_) (fun j c=>b.val j (g j c) w (N w));by_cases q:j<m
  ·exact q
  ·rw [u j (by omega)]at c;cases c
 |succ k W=>
  intro listed a w d u b y;obtain⟨x,B⟩:∃ x,x∈(Cv m).filter fun j=> !Lr listed j:=by
   unfold unl at d;cases q:(Cv m).filter fun j=> !Lr listed j with
   |nil=>rw [q]at d;cases d
   |cons x l=>exact⟨x,by simp⟩
  obtain⟨G,C⟩:=I4.1 B;rw [Dt]at G;have C:Lr listed x=false:=by simpa using C
  have X:Bw GG ops listed≠[]:=by
   have h0:∀ j,j<m→Lr listed j=false→Bw GG ops listed≠[]:=by
    intro j
    induction j using D1 with
    |ind j h2=>
     intro c h;by_cases f:∃ i,i<j∧Lr listed i=false
     ·obtain⟨i,H,D⟩:=f;exact h2 i H (by omega) D
     ·have p:j<ops.size:=by omega
      obtain⟨o,n⟩:∃ o,ops[j]?= some o:=⟨_,Bc p⟩
      have:j∈Bw GG ops listed:=by
       refine mem_ready.2 ⟨?_,o,n,fun e E _=>?_⟩
       ·unfold Lr at h;simp only [CR]at h ⊢;rw [Bc (by rw [b.ls];exact p)]at h ⊢;simpa using h
       ·have r:=(Yl t p).2.1 o n e E;have:Lr listed e.on=true:=by
         cases q:Lr listed e.on with
         |true=>rfl
         |false=>exact absurd ⟨e.on,r,q⟩ f
        exact this
      intro q;rw [q]at this;cases this
   exact h0 x G C
  rw [show k+1+(ops.size - m)=(k+(ops.size - m))+1 by omega];refine⟨fun q=>absurd q X,fun i H=>?_⟩;obtain⟨r,h,o,n,g⟩:=zD6 H b.ls;have O:i<m:=by
   by_cases q:i<m
   ·exact q
   ·have:=gU (L:=fun j=>Lr listed j=true) b.cl _ i o n g ((Yl t r).2.2 (by omega) x G);rw [C]at this;cases this
  have D:i<listed.size:=by rw [b.ls];exact r
  refine wpOp_mono ?_ (T i O a w y ⟨b.sz,fun s F=>b.old s fun j c f=>?_,fun j c=>?_⟩)
  ·rintro h7 w' ⟨v,rfl,B,h3⟩;refine W _ _ _ ?_ (fun j c=>by rw [Ux D,if_neg (by omega)];exact u j c) (b.step t r K B (fun h8 S=>by rw [n]at S;cases S;exact g) h3) (K y B)
   unfold unl at d ⊢;have h1:((Cv m).filter fun j=> !Lr (listed.setIfInBounds i true) j)=((Cv m).filter fun j=> !Lr listed j).filter fun j=> !decide (i=j):=by
    rw [List.filter_filter];congr 1;funext j;rw [Ux D];by_cases e:i=j<;>simp [e]
   have A:i∈(Cv m).filter fun j=> !Lr listed j:=I4.2 ⟨Dt.2 O,by rw [h];rfl⟩
   have h4:((Cv m).filter fun j=> !Lr listed j).Nodup:=List.Pairwise.filter _ List.nodup_range;have h5:(((Cv m).filter fun j=> !Lr listed j).filter fun j=> !decide (i=j))=((Cv m).filter fun j=> !Lr listed j).erase i:=by
    rw [h4.erase_eq_filter];congr 1;funext j;by_cases e:i=j
    ·subst e;simp
    ·have:j≠i:=fun q=>e q.symm
     simp [e,this]
   rw [h1,h5,List.length_erase_of_mem A,d];rfl
  ·have p:j<ops.size:=by
    unfold Mo at f;cases q:ops[j]? with
    |none=>rw [q]at f;cases f
    |some o=>exact(Ag.1 q).1
   have:=A7.1 F j (Dt.2 p);rw [f]at this;simp at this
  ·rw [n]at c;simp only [Gt,CU]at c;obtain⟨k,d,I⟩:=Hy.1 c;rw [Ah]at I;have:=Ap I.2;subst this;exact b.val _ (g _ (Hx d) I.1) w (N w)
structure Fn_ (ops:Array B5) (Z:Nat→h→Y→Prop) (a0:CY) (m:Nat) (a:CY) (w:Y):Prop where
 sz:a.tmps.size=a0.tmps.size
 df:a.defers=a0.defers
 old:∀ s:Nat,(∀j,j<m→Mo ops j≠some s)→a.tmps[s]?= a0.tmps[s]?
 val:∀ j,j<m→Z j (valOf a (Mo ops j)) w
theorem zW4 {a:CY}{d n:Nat}(c:a.tmps.size=n)(e:d<n):∃ v,a.tmps[d]?= some v∧valOf a (some d)=v:=by
 have b:d<a.tmps.size:=by omega
 exact⟨a.tmps[d],Bc b,by show a.tmps.getD d Ca=_;simp [Hj,b]⟩
theorem Fn_.rd {m n:Nat}{a:CY}{w:Y}(b:Fn_ ops Z a0 m a w)(c:a0.tmps.size=n)(j d:Nat)(e:j<m)(f:Mo ops j=some d)(g:d<n):∃ v,a.tmps[d]?= some v∧Z j v w:=by
 have h1:=b.val j e;rw [f]at h1;obtain⟨v,h,i⟩:=zW4 (b.sz.trans c) g;exact⟨v,h,by rw [←i];exact h1⟩
theorem xR {m n:Nat}(g:okB ops m n=true):∀ (b k:Nat)(a:CY)(w:Y),k+b=ops.size→wpAny P GG ops Q b (UC k ops.size) a w→wpOps P ops Q (List.range' k b) a w
 |0,k,a,w,i,d=>d.2
 |b+1,k,a,w,i,d=>by
  have c:k<ops.size:=by omega
  have l:∀ j,j<ops.size→(UC k ops.size).getD j false=Be j k:=fun j p=>by
   unfold UC;simp [Hj,p]
  have r:k∈Bw GG ops (UC k ops.size):=by
   obtain⟨o,h⟩:∃ o,ops[k]?= some o:=⟨_,Bc c⟩
   refine mem_ready.2 ⟨?_,o,h,fun e s _=>?_⟩
   ·have t:Be k k=false:=by
     cases q:Be k k with
     |false=>rfl
     |true=>exact absurd (Ai q) (by omega)
    unfold UC;simp [Hj,c,t]
   ·have u:=(Yl g c).2.1 o h e s;rw [l _ (by omega)];exact Dw u
  rw [List.range'_succ,wpOps_cons];refine wpOp_mono (fun v w' x=>?_) (d.2 k r);refine xR g b (k+1) v w' (by omega) ?_
  have:(UC k ops.size).setIfInBounds k true=UC (k+1) ops.size:=by
   apply Es;intro j;unfold UC;rw [BE];by_cases e:k=j
   ·subst e;simp [c,Be]
   ·rw [if_neg e];by_cases q:j<ops.size
    ·have y:Be j k=Be j (k+1):=by
      rw [Bl];constructor
      ·intro f;exact Dw (by have:=Ai f;omega)
      ·intro f;exact Dw (by have:=Ai f;omega)
     simp [q,y]
    ·simp [q]
  rw [←this];exact x
theorem Wx (R:Y→Y→Prop)(Z:Nat→h→Y→Prop)(m:Nat){n:Nat}{p:Nat}{g:Bool}{w:Y}(r:a0.tmps.size=n)(s:∀ {x k z},R x k→R k z→R x z)(l:∀ x,R x x)(t:R w w.drew)(u:∀ i,i<m→Ob P ops Q R Z a0 w i)
 (v:∀ a w',R w w'→Fn_ ops Z a0 m a w'→JX P GG ops Q (fun _=>True) [] (ops.size - m) (UC m ops.size) a w')
 (d:okB ops m n=true) (y:P.follows Fu=true):(FU p ops g).wp P Q a0 w:=by
 subst r;have G:=zM1 d;have b:∀ j,Lr (CD ops.size false) j=false:=fun j=>by
  unfold Lr;simp only [CR,Array.getElem?_replicate];split<;>rfl
 have A:unl m (CD ops.size false)=m:=by
  unfold unl;rw [List.filter_eq_self.2 (fun j _=>by rw [b];rfl)];simp
 have o:∀ c,R w c→wpAny P GG ops Q ops.size (CD ops.size false) a0 c:=by
  intro c e;have:=Iv.any (P:=P) (Q:=Q) (R:=R) (Z:=Z) (w0:=w) d s l u (fun a w' B C D E e=>JX.any _ _ _ _ (v a w' B ⟨D,C,E,e⟩)) m (CD ops.size false) a0 c A (fun j _=>b j) ⟨by simp,rfl,rfl,fun _ _=>rfl,fun j f=>absurd ((b j).symm.trans f) (by decide),fun i _ _ f=>absurd ((b i).symm.trans f) (by decide)⟩ e;rw [show m+(ops.size - m)=ops.size by omega]at this;exact this
 cases g with
 |true=>exact wp_region_any y (o _ t)
 |false=>
  refine wp_region ?_
  rw [List.range_eq_range'];refine xR d ops.size 0 a0 w (by omega) ?_
  have:UC 0 ops.size=CD ops.size false:=by
   apply Es;intro j;unfold UC;by_cases q:j<ops.size
   ·have F:Be j 0=false:=by
     cases q:Be j 0 with
     |false=>rfl
     |true=>exact absurd (Ai q) (by omega)
    simp [q,F]
   ·simp [q]
  rw [this];exact o w (l w)
theorem Oj {w0:Y}(i d:Nat){op:Op}{c:AK}{e:String}{f:Array Ik}{g:Option (Nat×Bool)}
 (l:∀ a w,R w0 w→Bs_ ops R Z a0 i a w→∀ b:CY→Y→Prop,AA (∀v w',R w w'→(∀x,R w' x→Z i v x)→b (a.put (some d) v) w')→if AQ ⟨some d,op,c,e,f,g⟩ (BW ops a.tmps)=true then Cb P ⟨some d,op,c,e,f,g⟩ a w b Q else b (a.put (some d) Ca) w)
 (h:ops[i]?= some ⟨some d,op,c,e,f,g⟩) {n:Nat} (m:a0.tmps.size=n) (o:d<n):Ob P ops Q R Z a0 w0 i:=by
 intro a w p j;have q:d<a.tmps.size:=by rw [j.sz,m];exact o
 have k:Mo ops i=some d:=by unfold Mo;rw [h];rfl
 refine wpOp_step h fun b r=>l a w p j b (D fun v w' s t=>r _ _ ⟨v,by rw [k],s,?_⟩)
 rw [k];intro x u;have:valOf (a.put (some d) v) (some d)=v:=by
  show(a.tmps.setIfInBounds d v).getD d Ca=v
  simp [Hj,q]
 rw [this];exact t x u
def Obs (P:BR)(ops:Array B5)(Q:EY→CY→Y→Prop)(R:Y→Y→Prop)(Z:Nat→h→Y→Prop)(a0:CY)(w0:Y)(k n:Nat):Prop:=∀ i,k≤i→i<n→Ob P ops Q R Z a0 w0 i
theorem Obs.nil {w0:Y}{k n:Nat}(a:n≤k):Obs P ops Q R Z a0 w0 k n:=fun i h1 b=>absurd (Ar b a) (by omega)
theorem Obs.cons {w0:Y}{k n:Nat}(a:Ob P ops Q R Z a0 w0 k)(t:Obs P ops Q R Z a0 w0 (k+1) n):Obs P ops Q R Z a0 w0 k n:=fun i h1 b=>by
 rcases Nat.eq_or_lt_of_le h1 with q|q
 ·subst q;exact a
 ·exact t i q b
end
theorem lW {α:Type}{K:Kind α}{e:AK}{W:Y}{g n:Nat}{cs:Array h}{l:List α}{xs:List h}(b:W.heap[g]?= some (Ab cs e))(c:∀ U w,NF K U w l xs)(hc:cs=xs.toArray)(d:n=l.length)(m:n≤100):Ju K (fun k=>k=g) W l (J (some ⟨g,0,none⟩) n n):=by
 subst hc d;refine⟨_,l.length,xs,rfl,Aw _,by unfold Bk;omega,(fun q=>by cases q),⟨fun i u f=>⟨_,rfl,?_⟩,fun a j=>by cases j;rfl⟩,c _ _⟩;rw [MW,BF,JA b];simpa using f
theorem zM2 {W:Y}{g n:Nat}{cs:Array h}(l:List Ac)(b:W.heap[g]?= some (Ab cs 76))(hc:cs=(l.flatMap QL).toArray)(c:n=l.length)(d:n≤100):Ju KA (fun k=>k=g) W l (J (some ⟨g,0,none⟩) n n):=
 lW (K:=KA) b (fun _ _=>WA.2 rfl) hc c d
inductive SV where
 |fn (v:h)
 |tm (t:Tm)
 |OA (l:List Tm)
 |ac (a:Ac)
 |YK (l:List Ac)
 |acb (l:List Ac)
 |nw (T:AK) (cs:Array h)
def SV.ok (b:Y):SV→h→Y→Prop
 |.fn v,x,_=>x=v
 |.tm t,x,_=>x=AN #[V Ad t.kind,V Af t.val]
 |.OA l,x,X=>∃ U,Ju KT U X l x
 |.ac a,x,_=>x=AN (QL a).toArray
 |.YK l,x,X=>∃ U,Ju KA U X l x∧∀ k,U k→b.heap.size≤k∧k<X.heap.size
 |.acb l,x,X=>∃ g,x=J (some ⟨g,0,none⟩) l.length l.length∧b.heap.size≤g∧X.heap[g]?= some (Ab (l.flatMap QL).toArray 76)
 |.nw c cs,x,X=>∃ g,x=Ae (some ⟨g,0,none⟩)∧b.heap.size≤g∧X.heap[g]?= some (Ab cs c)
def Zs (Na:List SV)(a:Y)(j:Nat)(v:h)(X:Y):Prop:=(Na[j]?.getD (.fn Ca)).ok a v X
theorem xS {a:Y}{l:List Ac}{v:h}{X:Y}(c:l.length≤100)(d:(SV.acb l).ok a v X):∃ U,Ju KA U X l v∧∀ k,U k→a.heap.size≤k∧k<X.heap.size:=by
 obtain⟨g,rfl,h1,b⟩:=d;exact⟨_,zM2 l b rfl rfl c,fun k e=>by subst e;exact⟨h1,(Ag.1 b).1⟩⟩
theorem Ju.mono {α:Type}{K:Kind α}{U U':Nat→Prop}{w:Y}{l:List α}{v:h}(a:Ju K U w l v)(b:∀ k,U k→U' k):Ju K U' w l v:=a.upd (JK.refl (G:=fun _=>False) w) (fun _ _ q=>q) b
theorem Zs.eq {Na:List SV}{a:Y}{j:Nat}{v:h}{X:Y}{s:SV}(b:Na[j]?= some s):Zs Na a j v X↔s.ok a v X:=by unfold Zs;rw [b];rfl
abbrev OB:h:=ER (.func 25) #[] #[]
abbrev Nv (a:Nat):h:=ER (.func 24) #[] #[Ae (some ⟨a,0,none⟩)]
abbrev Sc (a:Nat):h:=ER (.func 27) #[] #[Ae (some ⟨a,0,none⟩)]
abbrev xU:List Ac:=[⟨2,2,⟨1,2⟩,⟨0,1⟩⟩,⟨13,1,⟨1,2⟩,⟨0,0⟩⟩]
section
variable {ops:Array B5}{Q:EY→CY→Y→Prop}{Na:List SV}{a0:CY}{w0:Y}{i d:Nat}{ty:AK}{ps:String}{af:Array Ik}
def bD (d:Nat):Bool:=Be d 378
def bP (ops:Array B5)(i j p:Nat):Bool:=zr0 ops i j&&decide (Mo ops j=some p)&&Be p 378
theorem PY {R:Y→Y→Prop}{Z:Nat→h→Y→Prop}{a:CY}{X:Y}(c:a0.tmps.size=378)(d:Bs_ ops R Z a0 i a X){j p:Nat}(b:bP ops i j p=true):∃ v,a.tmps[p]?= some v∧Z j v X:=by
 unfold bP at b;simp only [Ah,decide_eq_true_eq]at b;exact d.rd c j p b.1.1 b.1.2 (Ai b.2)
theorem J4 {s:Nat}{v:h}(c:a0.tmps.size=378)(f:a0.tmps[s]?= some v)(g:Na[i]?= some (.fn v):=by rfl)(j:ops[i]?= some ⟨some d,.move (Eh s),ty,ps,af,none⟩:=by rfl)(b:(zq9 ops s&&bD d)=true:=by kernel_rfl):Ob prog ops Q Ext (Zs Na w0) a0 w0 i:=by
 rw [Ah]at b;refine Oj i d (fun a X m k K l=>?_) j c (Ai b.2);have e:=k.bs s b.1 f;go_simp;exact l _ _ (Ext.refl _) (fun _ _=>(Zs.eq g).2 rfl)
theorem KH {s b:Nat}{k n:Nat}(g:a0.tmps.size=378)(h:a0.tmps[s]?= some (Ae (some ⟨b,0,none⟩)))(hc:w0.cell? ⟨b,0,none⟩=some (V Ad k))(j:w0.cell? ⟨b,1,none⟩=some (V Af n))(l:Na[i]?= some (.tm ⟨k,n⟩):=by rfl)(m:ops[i]?= some ⟨some d,IK 68 (Eh s),ty,ps,af,none⟩:=by rfl)(c:(zq9 ops s&&bD d)=true:=by kernel_rfl):Ob prog ops Q Ext (Zs Na w0) a0 w0 i:=by
 rw [Ah]at c;refine Oj i d (fun a X f o K p=>?_) m g (Ai c.2);have e:=o.bs s c.1 h;have q:=Ext.cell f hc;have q2:=Ext.cell f j;go_simp;exact p _ _ (Ext.refl _) (fun _ _=>(Zs.eq l).2 rfl)
theorem SI (n:Nat){at_:Array AK}(b:a0.tmps.size=378)(c:Na[i]?= some (.tm ⟨0,n⟩):=by rfl)(f:ops[i]?= some ⟨some d,Gy ⟨Jr (.func 26),#[FV (V Af (n:Int))],at_⟩,ty,ps,af,none⟩:=by rfl)(g:bD d=true:=by kernel_rfl):Ob prog ops Q Ext (Zs Na w0) a0 w0 i:=by
 refine Oj i d (fun a X k l K h=>?_) f b (Ai g);go_simp;refine(yh1 n _).mono ?_
 rintro e m ⟨rfl,j⟩;exact h _ _ j (fun _ _=>(Zs.eq c).2 rfl)
theorem SK {t1:Tm}{p1:Nat}(f:Nat)(g:a0.tmps.size=378)(h1:Na[f]?= some (.tm t1):=by rfl)(j:Na[i]?= some (.OA [t1]):=by rfl)(k:ops[i]?= some ⟨some d,Gq 74 1 #[(0,Eh p1)],ty,ps,af,none⟩:=by rfl)(h:(bP ops i f p1&&bD d)=true:=by kernel_rfl):Ob prog ops Q Ext (Zs Na w0) a0 w0 i:=by
 simp only [Ah]at h;obtain⟨o1,m⟩:=h;refine Oj i d (fun a X r n K o=>?_) k g (Ai m);obtain⟨s,p,b⟩:=PY g n o1;have b:=(Zs.eq h1).1 b;subst b;obtain⟨c,e⟩:=t1;dsimp only at p;go_simp;refine o _ _ (Ext.alloc (Ext.refl _) _) (fun t q=>(Zs.eq j).2 ⟨_,lW (K:=KT) (l:=[⟨c,e⟩]) (xs:=oM ⟨c,e⟩) (CE q (Aj X _)) (fun _ _=>⟨oM ⟨c,e⟩,[],by simp,rfl,rfl⟩) rfl rfl (by simp)⟩)
theorem Le {t1 t2:Tm}{p1 k:Nat}(m n:Nat)(e:a0.tmps.size=378)(h1:Na[m]?= some (.tm t1):=by rfl)(q:Na[n]?= some (.tm t2):=by rfl)(r:Na[i]?= some (.OA [t1,t2]):=by rfl)(s:ops[i]?= some ⟨some d,Gq 74 2 #[(0,Eh p1),(1,Eh k)],ty,ps,af,none⟩:=by rfl)(o:(bP ops i m p1&&bP ops i n k&&bD d)=true:=by kernel_rfl):Ob prog ops Q Ext (Zs Na w0) a0 w0 i:=by
 simp only [Ah]at o;obtain⟨⟨o1,t⟩,u⟩:=o;refine Oj i d (fun a X z p K v=>?_) s e (Ai u);obtain⟨A,w,f⟩:=PY e p o1;have f:=(Zs.eq h1).1 f;subst f;obtain⟨g,h⟩:=t1;obtain⟨B,x,j⟩:=PY e p t;have j:=(Zs.eq q).1 j;subst j;obtain⟨b,c⟩:=t2;dsimp only at w x;go_simp;refine v _ _ (Ext.alloc (Ext.refl _) _) (fun C y=>(Zs.eq r).2 ⟨_,lW (K:=KT) (l:=[⟨g,h⟩,⟨b,c⟩]) (xs:=oM ⟨g,h⟩++oM ⟨b,c⟩) (CE y (Aj X _)) (fun _ _=>⟨oM ⟨g,h⟩,oM ⟨b,c⟩,rfl,rfl,oM ⟨b,c⟩,[],by simp,rfl,rfl⟩) rfl rfl (by simp)⟩)
theorem Nc {t1:Ac}{p1:Nat}(c:Nat)(e:a0.tmps.size=378)(h1:Na[c]?= some (.ac t1):=by rfl)(g:Na[i]?= some (.acb [t1]):=by rfl)(h:ops[i]?= some ⟨some d,Gq 70 1 #[(0,Eh p1)],ty,ps,af,none⟩:=by rfl)(f:(bP ops i c p1&&bD d)=true:=by kernel_rfl):Ob prog ops Q Ext (Zs Na w0) a0 w0 i:=by
 simp only [Ah]at f;obtain⟨o1,j⟩:=f;refine Oj i d (fun a X k l K m=>?_) h e (Ai j);obtain⟨p,n,b⟩:=PY e l o1;have b:=(Zs.eq h1).1 b;subst b;obtain⟨q,t1,⟨r,s⟩,c1,t⟩:=t1;dsimp only [QL]at n;go_simp;exact m _ _ (Ext.alloc (Ext.refl _) _) (fun u o=>(Zs.eq g).2 ⟨_,rfl,k.size,CE o (Aj X _)⟩)
theorem UM {t1 t2:Ac}{p1 f:Nat}(g h:Nat)(b:a0.tmps.size=378)(h1:Na[g]?= some (.ac t1):=by rfl)(l:Na[h]?= some (.ac t2):=by rfl)(m:Na[i]?= some (.acb [t1,t2]):=by rfl)(n:ops[i]?= some ⟨some d,Gq 70 2 #[(0,Eh p1),(1,Eh f)],ty,ps,af,none⟩:=by rfl)(j:(bP ops i g p1&&bP ops i h f&&bD d)=true:=by kernel_rfl):Ob prog ops Q Ext (Zs Na w0) a0 w0 i:=by
 simp only [Ah]at j;obtain⟨⟨o1,o⟩,p⟩:=j;refine Oj i d (fun a X q k K r=>?_) n b (Ai p);obtain⟨v,s,c⟩:=PY b k o1;have c:=(Zs.eq h1).1 c;subst c;obtain⟨w,t1,⟨x,y⟩,c1,z⟩:=t1;obtain⟨A,t,e⟩:=PY b k o;have e:=(Zs.eq l).1 e;subst e;obtain⟨B,t2,⟨C,D⟩,E,F⟩:=t2;dsimp only [QL]at s t;go_simp;exact r _ _ (Ext.alloc (Ext.refl _) _) (fun G u=>(Zs.eq m).2 ⟨_,rfl,q.size,CE u (Aj X _)⟩)
theorem yJ0 {t1 t2 b:Ac}{p1 j k:Nat}(l m n:Nat)(c:a0.tmps.size=378)(h1:Na[l]?= some (.ac t1):=by rfl)(p:Na[m]?= some (.ac t2):=by rfl)(q:Na[n]?= some (.ac b):=by rfl)(r:Na[i]?= some (.acb [t1,t2,b]):=by rfl)(s:ops[i]?= some ⟨some d,Gq 70 3 #[(0,Eh p1),(1,Eh j),(2,Eh k)],ty,ps,af,none⟩:=by rfl)(o:(bP ops i l p1&&bP ops i m j&&bP ops i n k&&bD d)=true:=by kernel_rfl):Ob prog ops Q Ext (Zs Na w0) a0 w0 i:=by
 simp only [Ah]at o;obtain⟨⟨⟨o1,t⟩,u⟩,v⟩:=o;refine Oj i d (fun a X w e K x=>?_) s c (Ai v);obtain⟨C,y,f⟩:=PY c e o1;have f:=(Zs.eq h1).1 f;subst f;obtain⟨D,t1,⟨E,F⟩,c1,G⟩:=t1;obtain⟨H,z,g⟩:=PY c e t;have g:=(Zs.eq p).1 g;subst g;obtain⟨I,t2,⟨L,M⟩,N,O⟩:=t2;obtain⟨P,A,h⟩:=PY c e u;have h:=(Zs.eq q).1 h;subst h;obtain⟨R,b,⟨S,T⟩,U,W⟩:=b;dsimp only [QL]at y z A;go_simp;exact x _ _ (Ext.alloc (Ext.refl _) _) (fun Y B=>(Zs.eq r).2 ⟨_,rfl,w.size,CE B (Aj X _)⟩)
theorem yJ1 {t1 t2 e f g h:Ac}{p1 p q r s t:Nat}(u v w x y z:Nat)(b:a0.tmps.size=378)(h1:Na[u]?= some (.ac t1):=by rfl)(B:Na[v]?= some (.ac t2):=by rfl)(C:Na[w]?= some (.ac e):=by rfl)(D:Na[x]?= some (.ac f):=by rfl)(E:Na[y]?= some (.ac g):=by rfl)(F:Na[z]?= some (.ac h):=by rfl)(G:Na[i]?= some (.acb [t1,t2,e,f,g,h]):=by rfl)(H:ops[i]?= some ⟨some d,Gq 70 6 #[(0,Eh p1),(1,Eh p),(2,Eh q),(3,Eh r),(4,Eh s),(5,Eh t)],ty,ps,af,none⟩:=by rfl)(A:(bP ops i u p1&&bP ops i v p&&bP ops i w q&&bP ops i x r&&bP ops i y s&&bP ops i z t&&bD d)=true:=by kernel_rfl):Ob prog ops Q Ext (Zs Na w0) a0 w0 i:=by
 simp only [Ah]at A;obtain⟨⟨⟨⟨⟨⟨o1,I⟩,L⟩,M⟩,N⟩,O⟩,P⟩:=A;refine Oj i d (fun a X R c K S=>?_) H b (Ai P);obtain⟨h3,T,j⟩:=PY b c o1;have j:=(Zs.eq h1).1 j;subst j;obtain⟨h4,t1,⟨h5,h6⟩,c1,h7⟩:=t1;obtain⟨h8,U,k⟩:=PY b c I;have k:=(Zs.eq B).1 k;subst k;obtain⟨h9,t2,⟨ha,hb⟩,hc,hd⟩:=t2;obtain⟨he,W,l⟩:=PY b c L;have l:=(Zs.eq C).1 l;subst l;obtain⟨hf,e,⟨hg,hh⟩,hi,hj⟩:=e;obtain⟨hk,Y,m⟩:=PY b c M;have m:=(Zs.eq D).1 m;subst m;obtain⟨hl,f,⟨hm,hn⟩,ho,hp⟩:=f;obtain⟨hq,Z,n⟩:=PY b c N;have n:=(Zs.eq E).1 n;subst n;obtain⟨hr,g,⟨hs,ht⟩,hu,hv⟩:=g;obtain⟨hw,h0,o⟩:=PY b c O;have o:=(Zs.eq F).1 o;subst o;obtain⟨hx,h,⟨hy,hz⟩,x0,x1⟩:=h;dsimp only [QL]at T U W Y Z h0;go_simp;exact S _ _ (Ext.alloc (Ext.refl _) _) (fun x2 h2=>(Zs.eq G).2 ⟨_,rfl,R.size,CE h2 (Aj X _)⟩)
theorem La {f s:Nat}{l:List Tm}{at_:Array AK}(h j k t:Nat)(b:a0.tmps.size=378)(p:Na[h]?= some (.fn OB):=by rfl)(q:Na[j]?= some (.OA l):=by rfl)(r:Na[i]?= some (.ac (bR k t l)):=by rfl)(u:ops[i]?= some ⟨some d,Gy ⟨Jr (Eh f),#[FV (V Ad (k:Int)),FV (V Ad (t:Int)),Eh s],at_⟩,ty,ps,af,none⟩:=by rfl)(m:(bP ops i h f&&bP ops i j s&&A6 l.length 2&&bD d)=true:=by kernel_rfl):Ob prog ops Q Ext (Zs Na w0) a0 w0 i:=by
 simp only [Ah]at m;obtain⟨⟨⟨o1,v⟩,w⟩,x⟩:=m;refine Oj i d (fun a X A n K y=>?_) u b (Ai x);obtain⟨B,C,c⟩:=PY b n o1;have c:=(Zs.eq p).1 c;subst c;obtain⟨o,D,g⟩:=PY b n v;obtain⟨U,g⟩:∃ U,Ju KT U X l o:=(Zs.eq q).1 g;go_simp;refine(zo3 k t l (Ai w) U X o g).mono ?_
 rintro e E ⟨rfl,z⟩;exact y _ _ z (fun _ _=>(Zs.eq r).2 rfl)
theorem yJ2 {f:Nat}{at_:Array AK}(c k t:Nat)(g:a0.tmps.size=378)(j:Na[c]?= some (.fn OB):=by rfl)(l:Na[i]?= some (.ac (bR k t [])):=by rfl)(m:ops[i]?= some ⟨some d,Gy ⟨Jr (Eh f),#[FV (V Ad (k:Int)),FV (V Ad (t:Int)),FV (J none 0 0)],at_⟩,ty,ps,af,none⟩:=by rfl)(h:(bP ops i c f&&bD d)=true:=by kernel_rfl):Ob prog ops Q Ext (Zs Na w0) a0 w0 i:=by
 simp only [Ah]at h;obtain⟨o1,n⟩:=h;refine Oj i d (fun a X r o K p=>?_) m g (Ai n);obtain⟨s,u,b⟩:=PY g o o1;have b:=(Zs.eq j).1 b;subst b;go_simp;refine(zo3 k t [] (by simp) (fun _=>True) X _ (Ju.nil _ _ _)).mono ?_
 rintro e v ⟨rfl,q⟩;exact p _ _ q (fun _ _=>(Zs.eq l).2 rfl)
theorem QJ {f s b:Nat}{l:List Ac}{at_:Array AK}{P:h}{n:Nat→Prop}(o p:Nat)(c:a0.tmps.size=378)(v:w0.heap[b]?= some (Ab #[P] 70))(w:Ju KA n w0 xU P)(x:Na[o]?= some (.fn (Sc b)):=by rfl)(y:Na[p]?= some (.acb l):=by rfl)(z:Na[i]?= some (.YK (xU++l)):=by rfl)(A:ops[i]?= some ⟨some d,Gy ⟨Jr (Eh f),#[Eh s],at_⟩,ty,ps,af,none⟩:=by rfl)(r:(bP ops i o f&&bP ops i p s&&A6 l.length 90&&bD d)=true:=by kernel_rfl):Ob prog ops Q Ext (Zs Na w0) a0 w0 i:=by
 simp only [Ah]at r;obtain⟨⟨⟨o1,B⟩,C⟩,D⟩:=r;refine Oj i d (fun a X g t K E=>?_) A c (Ai D);obtain⟨I,L,j⟩:=PY c t o1;have j:=(Zs.eq x).1 j;subst j;obtain⟨F,M,m⟩:=PY c t B;have N:=Ai C;obtain⟨U,m,O⟩:=xS (by omega) ((Zs.eq y).1 m);go_simp;refine(zU7 b P xU l (fun k=>n k∨U k) X F (CE g v) ((w.ext g).mono (fun k q=>AO q)) (m.mono (fun k q=>AB q)) (by simp;omega)).mono ?_
 rintro e R ⟨S,rfl,G,H⟩;exact E _ _ H (fun T u=>(Zs.eq z).2 ⟨_,G.ext u,fun k q=>⟨AL g.size q.1,Ar q.2 u.size⟩⟩)
theorem yj7 {b:AK}{cs:Array h}(c:a0.tmps.size=378)(e:Na[i]?= some (.nw b cs):=by rfl)(f:ops[i]?= some ⟨some d,.alloc b,ty,ps,af,none⟩:=by rfl)(g:bD d=true:=by kernel_rfl)(hc:∀ X:Y,(CS (Act.eval a0) ⟨some d,.alloc b,ty,ps,af,none⟩).run prog X=Ez (F5 (Ae (some ⟨X.heap.size,0,none⟩))) (X.alloc (Ab cs b))):Ob prog ops Q Ext (Zs Na w0) a0 w0 i:=by
 refine Oj i d (fun a X j n K k=>?_) f c (Ai g);have h1:(CS a.eval ⟨some d,.alloc b,ty,ps,af,none⟩).run prog X=_:=hc X;have l:AQ ⟨some d,.alloc b,ty,ps,af,none⟩ (BW ops a.tmps)=true:=rfl;rw [if_pos l];unfold Cb;rw [h1];exact k _ _ (Ext.alloc (Ext.refl _) _) (fun o m=>(Zs.eq e).2 ⟨_,rfl,j.size,CE m (Aj X _)⟩)
end
structure TmB (b0 b1 b2 b3 b4 b5 b6 bt:Nat) (W:Y):Prop where
 h0:W.heap[b0]?= some (Ab #[V Ad 0,J none 0 0] 47)
 h1:W.heap[b1]?= some (Ab #[V Ad 1,V Af 0] 68)
 h2:W.heap[b2]?= some (Ab #[V Ad 1,V Af 1] 68)
 h3:W.heap[b3]?= some (Ab #[V Ad 1,V Af 2] 68)
 h4:W.heap[b4]?= some (Ab #[V Ad 1,V Af 3] 68)
 h5:W.heap[b5]?= some (Ab #[V Ad 1,V Af 4] 68)
 h6:W.heap[b6]?= some (Ab #[V Ad 2,V Af 0] 68)
 lt:b0<bt∧b1<bt∧b2<bt∧b3<bt∧b4<bt∧b5<bt∧b6<bt
theorem TmB.upd {d e f g h i j b base:Nat}{W l:Y}(a:TmB d e f g h i j b W)(w:b<base)(u:JK (fun k=>k=b∨base≤k) W l):TmB d e f g h i j b l:=by
 obtain⟨m,o,p,r,s,t,v⟩:=a.lt;have n:∀ k,k<b→¬ (k=b∨base≤k):=fun k q c=>by omega
 exact⟨u.heap a.h0 (n _ m),u.heap a.h1 (n _ o),u.heap a.h2 (n _ p),u.heap a.h3 (n _ r),u.heap a.h4 (n _ s),u.heap a.h5 (n _ t),u.heap a.h6 (n _ v),a.lt⟩
structure FF (b0 b1 b2 b3 b4 b5 b6 bt:Nat) (a:CY):Prop where
 sz:a.tmps.size=378
 df:a.defers=[]
 t0:a.tmps[(0:Nat)]?= some (Ae (some ⟨b0,0,none⟩))
 t1:a.tmps[(1:Nat)]?= some (Ae (some ⟨b1,0,none⟩))
 t2:a.tmps[(2:Nat)]?= some (Ae (some ⟨b2,0,none⟩))
 t3:a.tmps[(3:Nat)]?= some (Ae (some ⟨b3,0,none⟩))
 t4:a.tmps[(4:Nat)]?= some (Ae (some ⟨b4,0,none⟩))
 t5:a.tmps[(5:Nat)]?= some (Ae (some ⟨b5,0,none⟩))
 t6:a.tmps[(6:Nat)]?= some (Ae (some ⟨b6,0,none⟩))
 t7:a.tmps[(7:Nat)]?= some (Ae (some ⟨bt,0,none⟩))
 t8:a.tmps[(8:Nat)]?= some (Nv bt)
 t9:a.tmps[(9:Nat)]?= some OB
def hiB (ops:Array B5)(m k:Nat):Bool:=(Cv m).all fun j=>match Mo ops j with
 |some d=>Be k d
 |none=>true
theorem PZ {ops:Array B5}{m k:Nat}(a:hiB ops m k=true){s:Nat}(c:s≤k):∀ j,j<m→Mo ops j≠some s:=fun j b q=>by
 have:=A7.1 a j (Dt.2 b);rw [q]at this;have:=Ai this;omega
theorem FF.of {d e g i j k l n m:Nat}{ops:Array B5}{Z:Nat→h→Y→Prop}{a0 a:CY}{w:Y}(b:FF d e g i j k l n a0)(f:Fn_ ops Z a0 m a w)(c:hiB ops m 9=true):FF d e g i j k l n a:=
 ⟨f.sz.trans b.sz,f.df.trans b.df,(f.old 0 (PZ c (by omega))).trans b.t0,(f.old 1 (PZ c (by omega))).trans b.t1,(f.old 2 (PZ c (by omega))).trans b.t2,(f.old 3 (PZ c (by omega))).trans b.t3,(f.old 4 (PZ c (by omega))).trans b.t4,(f.old 5 (PZ c (by omega))).trans b.t5,(f.old 6 (PZ c (by omega))).trans b.t6,(f.old 7 (PZ c (by omega))).trans b.t7,(f.old 8 (PZ c (by omega))).trans b.t8,(f.old 9 (PZ c (by omega))).trans b.t9⟩
theorem SL {a:CY}{d s:Nat}{v:h}(b:s≠d):(a.put (some d) v).tmps[s]?= a.tmps[s]? :=bZ (fun q=>b (by injection q with q;exact q.symm))
theorem FF.put {c e f g i j k l d:Nat}{v:h}{a:CY}(b:FF c e f g i j k l a)(m:9<d):FF c e f g i j k l (a.put (some d) v):=
 ⟨eu.trans b.sz,put_defers.trans b.df,(SL (by omega)).trans b.t0,(SL (by omega)).trans b.t1,(SL (by omega)).trans b.t2,(SL (by omega)).trans b.t3,(SL (by omega)).trans b.t4,(SL (by omega)).trans b.t5,(SL (by omega)).trans b.t6,(SL (by omega)).trans b.t7,(SL (by omega)).trans b.t8,(SL (by omega)).trans b.t9⟩
structure DW (b0 b1 b2 b3 b4 b5 b6 bt bp:Nat) (Wb:Y) (l:List (In×Nat)) (w:Y):Prop where
 tm:TmB b0 b1 b2 b3 b4 b5 b6 bt w
 tb:TBl Wb.heap.size bt l w
 pp:∃ P U,w.heap[bp]?= some (Ab #[P] 70)∧Ju KA U w xU P∧∀ k,U k→k<Wb.heap.size∧k≠bt
 bl:bp<Wb.heap.size∧bp≠bt
 up:JK (fun k=>k=bt∨Wb.heap.size≤k) Wb w
theorem DW.add {f g h i j m n a o:Nat}{b:Y}{l p:List (In×Nat)}{w r w':Y}(d:DW f g h i j m n a o b l w)(x:Ext w r)(t:TBl b.heap.size a p w')(u:JK (fun k=>k=a∨b.heap.size≤k) r w'):DW f g h i j m n a o b p w':=by
 have e:=(Gl x).trans u;obtain⟨P,U,h1,v,s⟩:=d.pp;have nb:∀ k,k<b.heap.size∧k≠a→¬ (k=a∨b.heap.size≤k):=fun k q c=>by omega
 exact⟨d.tm.upd d.tb.1 e,t,⟨P,U,e.heap h1 (nb _ d.bl),v.upd e (fun k q=>nb k (s k q)) (fun _ q=>q),s⟩,d.bl,d.up.trans e⟩
theorem yJ3 {c f s i:Nat}{S:ByteArray}{o:Bool}{at_:Array AK}{ty:AK}{ps:String}{af:Array Ik}{ops:Array B5}{Q:EY→CY→Y→Prop}{b:CY}{d:Y}{j:h}{K:CY→Y→Prop}{R:Y→Prop}
 (m:b.tmps[f]?= some (Nv i)) (n:b.tmps[s]?= some j) (g:As prog 24 #[Aa S,AE o,j,Ae (some ⟨i,0,none⟩)] d fun e w'=>e=Ak (AZ #[])∧R w') (k:AA (∀w',R w'→K (b.put (some c) (AZ #[])) w')):
 if AQ ⟨some c,Gy ⟨Jr (Eh f),#[FV (Aa S),FV (AE o),Eh s],at_⟩,ty,ps,af,none⟩ (BW ops b.tmps)=true then Cb prog ⟨some c,Gy ⟨Jr (Eh f),#[FV (Aa S),FV (AE o),Eh s],at_⟩,ty,ps,af,none⟩ b d K Q else K (b.put (some c) Ca) d:=by
 have g:=D g;go_simp;refine g.mono ?_
 rintro e p ⟨rfl,l⟩;exact k _ l
theorem LX {g h n r t u v b y:Nat}{C:Y}{ops:Array B5}{X:Nat}{Z:Bool}{Q:EY→CY→Y→Prop}{a:CY}{w:Y}(Na:List SV)(m z c:Nat){f s L:Nat}{S:ByteArray}{o:Bool}{at_:Array AK}{ty:AK}{ps:String}{af:Array Ik}(x:In)(l M:List (In×Nat))
 (A:FF g h n r t u v b a) (h0:a.tmps[(11:Nat)]?= some (Sc y)) (E:DW g h n r t u v b y C l w)
 (h1:∀ i,i<m→Ob prog ops Q Ext (Zs Na w) a w i)
 (h2:∀ F w',FF g h n r t u v b F→F.tmps[(11:Nat)]?= some (Sc y)→DW g h n r t u v b y C M w'→Q .normal F w')
 (e:Na[c]?= some (.YK x.acts)∨Na[c]?= some (.acb x.acts))
 (h3:ops[m]?= some ⟨some L,Gy ⟨Jr (Eh f),#[FV (Aa S),FV (AE o),Eh s],at_⟩,ty,ps,af,none⟩:=by rfl) (h4:Na[z]?= some (.fn (Nv b)):=by rfl) (h5:Mo ops z=some f:=by rfl) (h6:Mo ops c=some s:=by rfl) (h7:S=str x.name:=by rfl) (h8:o=x.operand:=by rfl) (h9:M=l++[(x,l.length+1)]:=by kernel_rfl)
 (N:(okB ops m 378&&hiB ops m 11&&Be 11 L&&Be f 378&&Be s 378&&Be z m&&Be c m&&Az ops.size (m+1)&&A6 l.length 100&&A6 x.acts.length 100)=true:=by kernel_rfl) (ha:Bw GG ops (UC m ops.size)=[m]:=by kernel_rfl) (hb:Bw GG ops ((UC m ops.size).setIfInBounds m true)=[]:=by kernel_rfl):(FU X ops Z).wp prog Q a w:=by
 subst h9;simp only [Ah]at N;obtain⟨⟨⟨⟨⟨⟨⟨⟨⟨hc,O⟩,hd⟩,he⟩,hf⟩,hg⟩,hh⟩,P⟩,G⟩,k10⟩:=N;have G:=Ai G;have k10:=Ai k10;have P:=Ap P;have hi:=E.up.size;refine Wx Ext (Zs Na w) m A.sz (fun p q=>p.trans q) Ext.refl (Ext.drew (Ext.refl _)) h1 (fun hs H R B=>?_) hc (by kernel_rfl);rw [show ops.size - m=0+1 by omega];have hj:hiB ops m 9=true:=by
  unfold hiB;refine A7.2 (fun j hk=>?_);have:=A7.1 O j hk;split
  ·rename_i d hl;rw [hl]at this;have:=Ai this;exact Dw (by omega)
  ·rfl
 have hm:=A.of B hj;have hn:=(B.old 11 (PZ O (by omega))).trans h0;obtain⟨ht,ho,z1⟩:=B.rd A.sz z f (Ai hg) h5 (Ai he);have z1:=(Zs.eq h4).1 z1;subst z1;obtain⟨T,hp,z2⟩:=B.rd A.sz c s (Ai hh) h6 (Ai hf);obtain⟨U,hq,hr⟩:∃ U,Ju KA U H x.acts T∧∀ k,U k→w.heap.size≤k∧k<H.heap.size:=by
  rcases e with e|e
  ·exact(Zs.eq e).1 z2
  ·exact xS k10 ((Zs.eq e).1 z2)
 refine Nl ha (by simp) (Lm.cons h3 (fun K I=>?_) Lm.nil)
 replace I:=D I
 have hu:=Ai hd;exact yJ3 ho hp (yh2 C.heap.size b l w H E.tb R x U T hi hr hq G h7 h8) (D fun hv W=>I _ _ (fun _=>trivial) (fun _=>JX.done hb (h2 _ _ (hm.put (by omega)) ((SL (by omega)).trans hn) (E.add R W.1 W.2)) _))
end Go.Proofs.YtmkomefmgcpnbaaGreatDoor

import Derived.Deep.RegionHeld3
import Derived.Deep.RegionHeld
import Derived.RegionTactic
import Derived.Below
import Derived.Laws.Rows
import Derived.Laws.Tables
import Derived.WalkKit
import Derived.Maps.AppendAt
import Derived.Deep.AppendLies
import Derived.Deep.Draws
import Derived.WalkSpells
import Derived.Lib.Hide
import Derived.KernelRfl
import Derived.Deep.QuietTactic
import Derived.BigQuiet
import Derived.Test.YtmkomefmgcpnbaaGreatDoorChecked
import Derived.Laws.EntriesVeiled
import Derived.Deep.DeepCutAuto
import Derived.Outline
import Derived.Laws.ResultCell
import Derived.Laws.CopyOwn
import Derived.Deep.RegionLaw
import Derived.Deep.CutBlock
set_option linter.all false
set_option maxHeartbeats 12800000
set_option maxRecDepth 100000
namespace Go.Proofs.YtmkomefmgcpnbaaGreatDoor
open Go Go.Proofs Tryz Go.RowKit
open _root_.Array renaming getElem?_eq_none→Ft,replicate→CD,getElem?_eq_some_iff→Ag,getElem?_setIfInBounds→BE,getElem?_toList→CP
open _root_.Bool renaming and_eq_true→Ah,or_eq_false_iff→Gj
open Go renaming Act→CY,Exit→EY,Oper→B5,Program→BR,Value→h,World→Y,undef→Ca,yielded→BW,Addr→Bi,Calls→As,Ending→BX,IntKind→Fv,Operand→CC,TypeDesc→DK,TypeId→AK,TypeInfo→Ij,bodyPost_ret→B1,callFunc→GS,execOp→CS,heap_alloc_new→Aj,maxLen→Bk,results_cell_row→FZ,results→El,run_loadVar_row→DI,run_underlying→Cq,setRow_heap→Bo,setRow_other→C7,typeInfo→Ih,wpList_plain→Em,wpList_store_row→CK,wpList→Dh,Deferred→GX,Edge→Ik
open Go.Code renaming region→FU
open Go.Departure renaming mixedOrders→Fu
open Go.Exit renaming panic→EM
open Go.Oper renaming wp→Cb
open Go.Region renaming Mode→Gi,binds→CB,free→EO,noSelect→DH,ready→Bw,wanted→AQ
open Go.Region.Mode renaming any→GG
open _root_.List renaming all_eq_true→A7,mem_cons→AH,eq_nil_of_length_eq_zero→BZ,getElem?_eq_getElem→Al,getElem?_map→Bh,length_nil→Av,map_cons→B7,map_nil→D2,map_toArray→EZ,mem_map→D4,set_cons_succ→Eo,set_cons_zero→En
open _root_.Nat renaming beq→Az,eq_of_beq_eq_true→Ap,lt_or_ge→Dg,eq_zero_or_pos→GW,le_refl→Aw,le_trans→AL,lt_of_lt_of_le→Ar,zero_add→BF
open Go.Addr renaming add→Fa
open Go.Builtin renaming append_→C8,append→Iq,firstCells→GR
open Go.Callee renaming builtin→GU,value→Jr
open Go.Ending renaming returned→Ak
open Go.Instr renaming loadAt→Ir,sureAddr→GQ
open Go.IntKind renaming i64→Ad
open Go.Lib renaming hid→D
open Go.Next renaming enter→I8,value→F5
open Go.Obj renaming cells→Ab
open Go.Op renaming call→Gy,load→IK
open Go.Result renaming andThen_ok→C3,ok→Ez
open Go.ResultVar renaming tmp→Jt
open Go.RowKit renaming Below→IL,Hid→AA
open Go.RowKit.Below renaming heap_alloc→Ig,heap_setCell→AY,mono→Jq,refl→GP
open Go.Sem renaming run_bind→Di,run_pure→D3
open Go.TypeDesc renaming array→DX,struct→DA
open Go.Value renaming agg→AN,bool→AE,int→V,ownBlock→CF,pointer→Ae,slice→J,tuple→AZ
open Go.World renaming block_lt_of_cell?→Bp
open _root_.Option renaming map_some→Gt
open _root_.Or renaming inl→AO,inr→AB
section
variable {P:BR}{ops:Array B5}{Q:EY→CY→Y→Prop}{md:Gi}{S:Y→Prop}{F:List Nat}
def JX (P:BR)(md:Gi)(ops:Array B5)(Q:EY→CY→Y→Prop)(S:Y→Prop)(F:List Nat):Nat→Array Bool→CY→Y→Prop
 |0,listed,a,w=>Bw md ops listed=[]∧Q .normal a w
 |n+1,listed,a,w=>(Bw md ops listed=[]→Q .normal a w)∧
  ∀i∈Bw md ops listed,wpOp P ops Q i (fun b w'=>(i∉F→S w')∧JX P md ops Q S F n (listed.setIfInBounds i true) b w') a w
theorem JX.any:∀ (n:Nat)(listed:Array Bool)(a:CY)(w:Y),JX P md ops Q S F n listed a w→wpAny P md ops Q n listed a w
 |0,_,_,_,b=>b
 |n+1,_,_,_,b=>⟨b.1,fun i c=>wpOp_mono (fun d w' k=>JX.any n _ d w' k.2) (b.2 i c)⟩
def VN (md:Gi)(ops:Array B5)(F:List Nat)(i:Nat):Bool:=F.all fun j=>match ops[j]? with
 |some o=>o.after.any fun e=>CB md e&&Az e.on i
 |none=>true
theorem tQ {i:Nat}(a:VN md ops F i=true){j:Nat}(d:j∈F){o:B5}(f:ops[j]?= some o):∃ e∈o.after,CB md e=true∧e.on=i:=by
 unfold VN at a;rw [A7]at a;have h1:=a j d;rw [f]at h1;have c:(o.after.any fun e=>CB md e&&Az e.on i)=true:=h1;rw [←Array.any_toList,List.any_eq_true]at c;obtain⟨e,g,b⟩:=c;rw [Ah]at b;exact⟨e,by simpa using g,b.1,Ap b.2⟩
theorem JX.first {i:Nat}{oi:B5}{v:h}(x:ops[i]?= some oi)(A:∀ (j:Nat)(o:B5) cs b,ops[j]?= some o→o.op≠ .select cs b)
 (I:∀ c a w,Q (EM c) (a.put oi.dst v) w→Q (EM c) a w) (K:∀ j∈F,∀o,ops[j]?= some o→∃ e∈o.after,CB md e=true∧e.on=i):
 ∀(n:Nat) (listed:Array Bool) (a:CY) (w:Y),
  (∀j d,ops[j]?= some d→j≠i→listed.getD j true=false→(∀e∈d.after,CB md e=true→e.on≠i)→oi.apart ops d=true)→
  i∈Bw md ops listed→YieldsIf P ops S oi v a→S w→
  JX P md ops Q S F n (listed.setIfInBounds i true) (a.put oi.dst v) w→JX P md ops Q S F (n+1) listed a w:=by
 intro n
 induction n with
 |zero=>
  intro listed a w _ g hy m p;refine⟨fun l=>(by rw [l]at g;cases g),fun j s=>?_⟩;by_cases f:j=i
  ·subst f;exact hy.wpOp x m ⟨fun _=>m,p⟩
  ·have l:=ready_mono s f;rw [p.1]at l;cases l
 |succ n L=>
  intro listed a w B g hy m p;refine⟨fun l=>(by rw [l]at g;cases g),fun j s=>?_⟩;by_cases f:j=i
  ·subst f;exact hy.wpOp x m ⟨fun _=>m,p⟩
  ·have h1:=p.2 j (ready_mono s f);obtain⟨C,d,t,M⟩:=mem_ready.1 s;have D:∀ e∈d.after,CB md e=true→e.on≠i:=fun e y z heq=>by
    have r:=M e y z;have E:=(mem_ready.1 g).1;rw [heq]at r;rcases Dg i listed.size with q|q
    ·simp [q]at E r;rw [E]at r;cases r
    ·simp [Ft q]at r
   have N:j∉F:=fun O=>by
    obtain⟨e,y,z,heq⟩:=K j O d t;exact D e y z heq
   have R:=wpOp_putIf t (B j d t f C D) (fun cs b=>A i oi cs b x) (fun cs b=>A j d cs b t) I hy h1;have T:∀ k ok,ops[k]?= some ok→k≠i→(listed.setIfInBounds j true).getD k true=false→
    (∀e∈ok.after,CB md e=true→e.on≠i)→oi.apart ops ok=true:=fun k ok U W G X=>by
    refine B k ok U W ?_ X
    by_cases H:j=k
    ·subst H;exact C
    ·rw [getD_set_ne true H]at G;exact G
   refine wpOp_mono (fun Z w' u=>⟨u.2.1,L (listed.setIfInBounds j true) Z w' T (ready_mono g (Ne.symm f)) u.1 (u.2.1 N) ?_⟩) R;rw [Array.setIfInBounds_comm _ _ f];exact u.2.2
theorem JX.take {i:Nat}{oi:B5}{v:h}{n:Nat}{listed:Array Bool}{a:CY}{w:Y}(b:ops[i]?= some oi)
 (d:DH ops=true) (e:EO md ops listed i=true) (f:(Bw md ops listed).contains i=true) (g:VN md ops F i=true)
 (k:∀ c a w,Q (EM c) (a.put oi.dst v) w→Q (EM c) a w) (hy:YieldsIf P ops S oi v a) (l:S w)
 (m:JX P md ops Q S F n (listed.setIfInBounds i true) (a.put oi.dst v) w):JX P md ops Q S F (n+1) listed a w:=
 JX.first b (Region.noSelect_spec d) k (fun j p o q=>tQ g p q) n listed a w (Region.free_spec b e) (by simpa using f) hy l m
def Lm (P:BR)(md:Gi)(ops:Array B5)(Q:EY→CY→Y→Prop)(S:Y→Prop)(F:List Nat)(n:Nat)(listed:Array Bool)(a:CY)(w:Y)(rs:List Nat):Prop:=
 ∀i∈rs,wpOp P ops Q i (fun b w'=>(i∉F→S w')∧JX P md ops Q S F n (listed.setIfInBounds i true) b w') a w
theorem Lm.nil {n:Nat}{listed:Array Bool}{a:CY}{w:Y}:Lm P md ops Q S F n listed a w []:=fun _ b=>by cases b
theorem Lm.cons {n:Nat}{listed:Array Bool}{a:CY}{w:Y}{i:Nat}{o:B5}{rs:List Nat}(e:ops[i]?= some o)
 (f:∀ b:CY→Y→Prop,Shut (∀a w,(i∉F→S w)→((i∉F→S w)→JX P md ops Q S F n (listed.setIfInBounds i true) a w)→b a w)→if AQ o (BW ops a.tmps)=true then Cb P o a w b Q else b (a.put o.dst Ca) w)
 (g:Lm P md ops Q S F n listed a w rs):Lm P md ops Q S F n listed a w (i::rs):=fun j c=>by
 rcases AH.1 c with rfl|c
 ·exact wpOp_step e (fun b h=>f b (fun a w d k=>h a w ⟨d,k d⟩))
 ·exact g j c
theorem Nl {rs:List Nat}{n:Nat}{listed:Array Bool}{a:CY}{w:Y}(b:Bw md ops listed=rs)(c:rs≠[])
 (d:Lm P md ops Q S F n listed a w rs):JX P md ops Q S F (n+1) listed a w:=⟨fun e=>absurd (b▸e) c,b▸d⟩
theorem JX.done {listed:Array Bool}{a:CY}{w:Y}(b:Bw md ops listed=[])(c:Q .normal a w):∀ n,JX P md ops Q S F n listed a w
 |0=>⟨b,c⟩
 |_+1=>⟨fun _=>c,by rw [b];simp⟩
theorem Yy (S:Y→Prop)(F:List Nat){b:Nat}{a:CY}{w:Y}(c:P.follows Fu=true)
 (d:JX P GG ops Q S F ops.size (CD ops.size false) a w.drew):(FU b ops true).wp P Q a w:=
 wp_region_any c (JX.any _ _ _ _ d)
end
def Ext (w w':Y):Prop:=IL w.heap.size w w'
section
variable {w w' w'':Y}
theorem Ext.refl (w:Y):Ext w w:=GP _ _
theorem Ext.trans (a:Ext w w')(k:Ext w' w''):Ext w w'':=Below.trans a (Jq k a.size)
theorem Ext.drew (a:Ext w w'):Ext w w'.drew:=Below.drew a
theorem Ext.drewN (a:Ext w w')(n:Nat):Ext w (w'.drewN n):=⟨a.os,a.tape,a.output,a.size,a.block⟩
theorem Ext.alloc (a:Ext w w')(o:Obj):Ext w (w'.alloc o):=Below.alloc a a.size o
theorem Ext.setCell (a:Ext w w'){p:Bi}(b:w.heap.size≤p.block)(u:h):Ext w (w'.setCell p u):=Below.setCell a b u
theorem Ext.size (a:Ext w w'):w.heap.size≤w'.heap.size:=Below.size a
theorem Ext.cell (a:Ext w w'){p:Bi}{v:h}(hc:w.cell? p=some v):w'.cell? p=some v:=by
 have b:=Bp w p hc;exact(Below.cell a b).trans hc
end
def Ol (w:Y)(A:Option Bi)(xs:List h):Prop:=∀ i u,xs[i]?= some u→∃ a,A=some a∧w.cell? (a.add i)=some u
theorem Ol.ext {w w':Y}{A:Option Bi}{xs:List h}(b:Ol w A xs)(e:Ext w w'):Ol w' A xs:=by
 intro i x c;obtain⟨a,d,hc⟩:=b i x c;exact⟨a,d,e.cell hc⟩
theorem Ol.nil (w:Y)(A:Option Bi):Ol w A []:=by intro i u b;simp at b
def Sl (w:Y)(k:Fv)(A:Option Bi)(l:List Int):Prop:=Ol w A (l.map (V k))
theorem Sl.ext {w w':Y}{k:Fv}{A:Option Bi}{l:List Int}(a:Sl w k A l)(e:Ext w w'):Sl w' k A l:=Ol.ext a e
theorem Sl.one {w:Y}{k:Fv}{A:Option Bi}{l:List Int}(b:Sl w k A l){i:Nat}{x:Int}(c:l[i]?= some x):∃ a,A=some a∧w.cell? (a.add i)=some (V k x):=
 b i (V k x) (by rw [Bh,c];rfl)
theorem Sl.mk {w:Y}{k:Fv}{A:Option Bi}{l:List Int}(d:∀ i x,l[i]?= some x→∃ a,A=some a∧w.cell? (a.add i)=some (V k x)):Sl w k A l:=by
 intro i u b;rw [Bh]at b;cases c:l[i]? with
 |none=>rw [c]at b;cases b
 |some x=>rw [c]at b;cases b;exact d i x c
theorem Sl.at_ {w:Y}{k:Fv}{A:Option Bi}{l:List Int}(e:Sl w k A l){i:Nat}(c:i<l.length):
 ∃b o,A=some ⟨b,o,none⟩∧w.cell? ⟨b,o+i,none⟩=some (V k (l[i]?.getD 0)):=by
 rw [Al c];show ∃b o,A=some ⟨b,o,none⟩∧w.cell? ⟨b,o+i,none⟩=some (V k (l[i]'c))
 obtain⟨a,f,hc⟩:=e.one (Al c);obtain⟨m,g,d⟩:=e.one (Al (by omega:0<l.length));rw [f]at g;cases g;obtain⟨b,o,s⟩:=a;have j:s=none:=by
  cases s with
  |none=>rfl
  |some x=>simp [Fa,World.cell?]at d;split at d<;>simp at d
 subst j;refine⟨b,o,f,?_⟩;by_cases h:i=0
 ·subst h;simpa [Fa]using hc
 ·simpa [Fa,h]using hc
def Byt (l:List Int):Prop:=∀ x∈l,0≤x∧x<256
theorem XO {P:BR}(w:Y)(base:Nat)(t ty e:AK)(i:Ij)(z:h)(size bytes:Nat)(d:P.underlying t=some (.slice e))(f:P.info? e=some i)(x:i.zero=some z)
 (y:i.size=size) (B:i.bytes=bytes) (C:z.cells.size=size) (p:0<size)
 (v:h) (n:Nat) (xs:List h) (k:w.ownsRow base e size v n xs)
 (A:Option Bi) (m c:Nat) (news:List h) (q:Ol w A news) (r:news.length=m*size) (h1:∀ u∈news,u.oneCell'=true)
 (D:n+m≤Bk) (E:(n+m)*bytes≤140737488355328) (F:base≤w.heap.size):
 ∃b w',(C8 #[t,t] ty #[v,J A m c]).run P w=Ez b w'∧w'.ownsRow base e size b (n+m) (xs++news)∧w.grownBy w' v.ownBlock∧
  (b.ownBlock=v.ownBlock∨b.ownBlock=some w.heap.size):=by
 rcases A with _|s
 ·have G:news=[]:=by
   cases news with
   |nil=>rfl
   |cons u R=>obtain⟨a,l,_⟩:=q 0 u rfl;cases l
  subst G;have H:m=0:=by
   rcases GW m with o|o
   ·exact o
   ·simp only [Av]at r;have:=Nat.mul_pos o p;omega
  subst H;refine⟨v,w,?_,by simpa using k,⟨rfl,rfl,rfl,Aw _,fun _ _ _=>rfl⟩,AO rfl⟩;rcases k.2 with⟨rfl,rfl⟩|⟨g,cap,cur,rfl,_,_,I,_⟩
  ·simp [C8,Cq d,sizeOf,Ih,f,Builtin.lenOf,GR]
  ·simp [C8,Cq d,sizeOf,Ih,f,Builtin.lenOf,GR,I,storeCells]
 ·have K:∀ j u,news[j]?= some u→w.cell? (s.add j)=some u:=by
   intro j u L;obtain⟨a,l,hc⟩:=q j u L;cases l;exact hc
  obtain⟨b,w',M,N,O,_,Q⟩:=run_append_own_at (P:=P) w base t ty e i z size bytes d f x y B C p v n xs k s m c news r K h1 D E F;exact⟨b,w',M,N,O,Q⟩
theorem Lp {P:BR}{w:Y}{ops:Array B5}{rest:List B5}{o:B5}{a:CY}{Q:EY→CY→Y→Prop}(d:o.guard=none)(s x:CC)(t:AK)
 (f:o.op=Gy {callee:=GU Iq,args:= #[s,x],argTypes:= #[t,t]})
 (base:Nat) (e:AK) (i:Ij) (z:h) (size bytes:Nat) (g:P.underlying t=some (.slice e)) (j:P.info? e=some i) (k:i.zero=some z)
 (l:i.size=size) (p:i.bytes=bytes) (q:z.cells.size=size) (r:0<size)
 (v:h) (n:Nat) (xs:List h) (y:a.eval s=v) (B:w.ownsRow base e size v n xs)
 (A:Option Bi) (m c:Nat) (news:List h) (C:a.eval x=J A m c) (D:Ol w A news) (E:news.length=m*size) (h1:∀ u∈news,u.oneCell'=true)
 (F:n+m≤Bk) (G:(n+m)*bytes≤140737488355328) (H:base≤w.heap.size)
 (I:∀ b w',w'.ownsRow base e size b (n+m) (xs++news)→w.grownBy w' v.ownBlock→(b.ownBlock=v.ownBlock∨b.ownBlock=some w.heap.size)→Dh P ops Q rest (a.put o.dst b) w'):Dh P ops Q (o::rest) a w:=by
 refine Em d fun K L=>?_
 obtain⟨b,w',M,N,O,R⟩:=XO (P:=P) w base t o.type e i z size bytes g j k l p q r v n xs B A m c news D E h1 F G H;unfold Cb CS;simp only [f,resolve,invoke,builtin,Di,D3,C3,EZ,B7,D2,y,C,M];exact L _ _ (I b w' N O R)
theorem MI {P:BR}{w:Y}{ops:Array B5}{o:B5}{a:CY}{K:CY→Y→Prop}{Q:EY→CY→Y→Prop}{d:Prop}(f:o.guard=none)(s x:CC)(t:AK)
 (g:o.op=Gy {callee:=GU Iq,args:= #[s,x],argTypes:= #[t,t]})
 (base:Nat) (e:AK) (i:Ij) (z:h) (size bytes:Nat) (j:P.underlying t=some (.slice e)) (k:P.info? e=some i) (l:i.zero=some z)
 (p:i.size=size) (q:i.bytes=bytes) (r:z.cells.size=size) (y:0<size)
 (v:h) (n:Nat) (xs:List h) (B:a.eval s=v) (C:w.ownsRow base e size v n xs)
 (A:Option Bi) (m c:Nat) (news:List h) (D:a.eval x=J A m c) (E:Ol w A news) (F:news.length=m*size) (h1:∀ u∈news,u.oneCell'=true)
 (G:n+m≤Bk) (H:(n+m)*bytes≤140737488355328) (I:base≤w.heap.size)
 (L:∀ b w',w'.ownsRow base e size b (n+m) (xs++news)→w.grownBy w' v.ownBlock→(b.ownBlock=v.ownBlock∨b.ownBlock=some w.heap.size)→K (a.put o.dst b) w'):
 if AQ o (BW ops a.tmps)=true then Cb P o a w K Q else d:=by
 have M:AQ o (BW ops a.tmps)=true:=by simp [AQ,f]
 rw [if_pos M];obtain⟨b,w',N,O,R,S⟩:=XO (P:=P) w base t o.type e i z size bytes j k l p q r y v n xs C A m c news E F h1 G H I;unfold Cb CS;simp only [g,resolve,invoke,builtin,Di,D3,C3,EZ,B7,D2,B,D,N];exact L b w' O R S
theorem NQ {w:Y}{base:Nat}{e:AK}{v:h}{n:Nat}{xs:List h}(a:w.ownsRow base e 1 v n xs):∃ A c,v=J A n c∧n≤c∧c≤Bk∧(A=none→c=0)∧Ol w A xs:=by
 rcases a.2 with⟨rfl,rfl⟩|⟨g,cap,cur,rfl,i,k,b,d,_,l⟩
 ·refine⟨none,0,rfl,Aw _,by simp [Bk],fun _=>rfl,?_⟩;have:xs=[]:=BZ (by simpa using a.1);subst this;exact Ol.nil _ _
 ·exact⟨some ⟨g,0,none⟩,cap,rfl,b,d,(fun a=>by cases a),fun j u f=>⟨_,rfl,a.cells (g:=g) rfl j u f⟩⟩
theorem Kc {w:Y}{base:Nat}{e:AK}{size n:Nat}{v:h}{xs:List h}(a:w.ownsRow base e size v n xs){g:Nat}(b:v.ownBlock=some g):base≤g∧g<w.heap.size:=a.lt g b
theorem KX {w w':Y}{base:Nat}{e:AK}{size n:Nat}{v:h}{xs:List h}(a:w.ownsRow base e size v n xs)(b:∀ g,v.ownBlock=some g→w'.heap[g]?= w.heap[g]?):w'.ownsRow base e size v n xs:=by
 refine⟨a.1,?_⟩;rcases a.2 with c|⟨g,cap,cur,rfl,d,f,rest⟩
 ·exact AO c
 ·exact AB ⟨g,cap,cur,rfl,d,by rw [b g rfl];exact f,rest⟩
section
variable {w w' w1:Y}{bm:Nat}{cs:Array h}
theorem JJ {t:AK}(a:w.heap[bm]?= some (Ab cs t (0,0)))(i:Nat)(u:h):(w.setCell ⟨bm,i,none⟩ u).heap[bm]?= some (Ab (cs.setIfInBounds i u) t (0,0)):=by
 simp [World.setCell,Array.getElem?_modify,a]
theorem zN8 {i j:Nat}{u:h}:(cs.setIfInBounds i u)[j]?= if i=j then(if i<cs.size then some u else none)else cs[j]? :=by
 rw [BE]
structure za6 (w w1:Y) (bm:Nat) (e:AK) (v v':h) (n:Nat) (xs:List h):Prop where
 own:w1.ownsRow bm e 1 v' n xs
 grown:w.grownBy w1 v.ownBlock
 at_:v'.ownBlock=v.ownBlock∨∃ g,v'.ownBlock=some g∧w.heap.size≤g
end
theorem zN9 {a b:Bool}(c:a=b):Ak (AE a)=Ak (AE b):=by rw [c]
theorem za7 (c i:Int)(w:Y):
 As prog 15 #[V Ad c,V Ad i] w fun e w'=>e=Ak (AN #[V Ad c,V Ad i])∧w.alloc (Ab #[V Ad c,V Ad i] 26)=w':=by
 go_enter func15,ntmps15;go_wp2;exact B1 (v:=AN #[V Ad c,V Ad i]) (by simp [El,results15,go_sem]) rfl ⟨rfl,rfl⟩
def inB (n lo a:Int):Bool:=decide (lo≤n∧n≤a)
theorem Zq (n lo a:Int)(w:Y):
 As prog 28 #[V Ad n,V Ad lo,V Ad a] w fun e w'=>e=Ak (AE (inB n lo a))∧w=w':=by
 by_cases b:lo≤n
 all_goals go_enter func28,ntmps28
 all_goals go_wp2
 all_goals go_ret
 all_goals refine⟨zN9 ?_,rfl⟩
 all_goals simp [inB]
 all_goals omega
theorem info_parts {P:BR}{t:AK}{z:h}{a b:Nat}(c:(P.info? t).map (fun i=>(i.zero,i.size,i.bytes))=some (some z,a,b)):∃ i,P.info? t=some i∧i.zero=some z∧i.size=a∧i.bytes=b:=by
 cases d:P.info? t with
 |none=>rw [d]at c;cases c
 |some i=>
  rw [d]at c;simp only [Gt,Option.some.injEq,Prod.mk.injEq]at c;exact⟨i,rfl,c.1,c.2.1,c.2.2⟩
theorem yU4:(prog.info? 3).map (fun i=>(i.zero,i.size,i.bytes))=some (some (V Ad 0),1,8):=by kernel_rfl
def za8 (p:Int×Int):h:=AN #[V Ad p.1,V Ad p.2]
def oZ (w:Y)(p:Int×Int)(e:BX)(w':Y):Prop:=e=Ak (za8 p)∧Ext w w'
theorem oZ.mk {w w':Y}{p q:Int×Int}(a:q=p)(x:Ext w w'):oZ w p (Ak (za8 q)) w':=⟨by rw [a],x⟩
theorem Pk:(prog.info? 26).map (·.size)=some 2:=by kernel_rfl
theorem CE {w w':Y}(b:Ext w w'){g:Nat}{o:Obj}(a:w.heap[g]?= some o):w'.heap[g]?= some o:=by
 rw [b.block g (Ag.1 a).1];exact a
theorem JA {w:Y}{g:Nat}{cs:Array h}{t:AK}(a:w.heap[g]?= some (Ab cs t (0,0)))(i:Nat):w.cell? ⟨g,i,none⟩=cs[i]? :=cell_of_row w g i cs t (0,0) a
theorem bk {w:Y}{g:Nat}{cs:Array h}{t:AK}{v:h}(a:w.heap[g]?= some (Ab cs t (0,0)))(i:Nat)(b:cs[i]?= some v:=by rfl):w.cell? ⟨g,i,none⟩=some v:=(JA a i).trans b
theorem JF {w:Y}{g:Nat}{cs:Array h}{t:AK}(a:w.heap[g]?= some (Ab cs t (0,0)))(i:Nat):w.frozen? ⟨g,i,none⟩=false:=by simp [World.frozen?,a]
theorem Ol.base {w:Y}{A:Option Bi}{xs:List h}(c:Ol w A xs)(d:0<xs.length):∃ b o,A=some ⟨b,o,none⟩:=by
 obtain⟨a,e,hc⟩:=c 0 xs[0] (Al d);obtain⟨b,o,s⟩:=a;have f:s=none:=by
  cases s with
  |none=>rfl
  |some x=>simp [Fa,World.cell?]at hc;split at hc<;>simp at hc
 subst f;exact⟨b,o,e⟩
theorem MW (b o i:Nat):(⟨b,o,none⟩:Bi).add i=⟨b,o+i,none⟩:=by
 unfold Fa;split
 ·rename_i a;subst a;rfl
 ·rfl
structure xQ9 (w:Y) (g:Nat) (c i:Int):Prop where
 c0:w.cell? ⟨g,0,none⟩=some (V Ad c)
 c1:w.cell? ⟨g,1,none⟩=some (V Ad i)
 f0:w.frozen? ⟨g,0,none⟩=false
 f1:w.frozen? ⟨g,1,none⟩=false
theorem tT {P:BR}{fn:Func}{u q:Tmp}{a:AK}(g:fn.results= #[Jt u,.cell q a])(tmps:Array h)(w:Y)(b:Nat)(e:AK)(c:Array h)(f:Nat×Nat)(d:DK)
 (i:tmps.getD q Ca=Ae (some ⟨b,0,none⟩)) (j:w.heap[b]?= some (Ab c e f)) (k:P.underlying a=some d) (l:(match d with|DA _|DX _ _=>true|_=>false)=true) (m:(P.info? a).map (·.size)=some c.size):
 (El fn tmps).run P w=Ez (AZ #[tmps.getD u Ca,AN c]) w:=by
 have n:tmps[q]?.getD Ca=Ae (some ⟨b,0,none⟩):=by simpa using i
 simp [El,g,n,asAddr,DI w b e a c f d j k l m]
theorem YS {w1:Y}{g:Nat}{c i c' a:Int}(b:w1.heap[g]?= some (Ab #[V Ad c',V Ad a] 26 (0,0))):((w1.setCell ⟨g,0,none⟩ (V Ad c)).setCell ⟨g,1,none⟩ (V Ad i)).heap[g]?= some (Ab #[V Ad c,V Ad i] 26 (0,0)):=
 JJ (JJ b 0 _) 1 _
theorem dI {w1:Y}{g:Nat}{c i c' b:Int}(a:w1.heap[g]?= some (Ab #[V Ad c',V Ad b] 26 (0,0)))(o:Obj):(((w1.setCell ⟨g,0,none⟩ (V Ad c)).setCell ⟨g,1,none⟩ (V Ad i)).alloc o).heap[g]?= some (Ab #[V Ad c,V Ad i] 26 (0,0)):=by
 rw [Ig _ _ _ (by have:=(Ag.1 a).1;simpa using this)];exact YS a
theorem U9 {P:BR}{ops:Array B5}{rest:List B5}{o:B5}{a:CY}{w:Y}{Q:EY→CY→Y→Prop}(c:AQ o (BW ops a.tmps)=true)(ty:AK)(x:CC)(e:o.op=IK ty x)
 (g:Nat) (f:a.eval x=Ae (some ⟨g,0,none⟩)) (t:AK) (cs:Array h) (b:Nat×Nat) (d:DK) (i:w.heap[g]?= some (Ab cs t b))
 (j:P.underlying ty=some d) (k:(match d with|DA _|DX _ _=>true|_=>false)=true) (l:(P.info? ty).map (·.size)=some cs.size)
 (m:Dh P ops Q rest (a.put o.dst (AN cs)) w):Dh P ops Q (o::rest) a w:=by
 refine wpList_step fun K n=>?_
 rw [if_pos c];exact wp_load_row ty x e g f t cs b d i j k l (n _ _ m)
theorem RO {P:BR}{w:Y}(g o:Nat)(ty:AK)(d:DK)(xs:List h)(c:∀ i u,xs[i]?= some u→w.cell? ⟨g,o+i,none⟩=some u)
 (e:P.underlying ty=some d) (n:(match d with|DA _|DX _ _=>true|_=>false)=true) (b:(P.info? ty).map (·.size)=some xs.length):
 (loadVar ty ⟨g,o,none⟩).run P w=Ez (AN xs.toArray) w:=by
 have f:(loadCells ⟨g,o,none⟩ xs.length).run P w=Ez xs.toArray w:=
  run_loadCells_list (P:=P) w ⟨g,o,none⟩ xs (fun j v k=>by rw [MW];exact c j v k)
 cases a:P.info? ty with
 |none=>simp [a]at b
 |some i=>
  have l:i.size=xs.length:=by simpa [a]using b
  have m:(isAgg ty).run P w=Ez true w:=by
   unfold isAgg;rw [Di,Cq e w];cases d<;>simp_all
  simp [loadVar,Di,m,sizeOf,Ih,a,l,f]
theorem Pn {P:BR}{w:Y}{ops:Array B5}{rest:List B5}{o:B5}{a:CY}{Q:EY→CY→Y→Prop}(b:AQ o (BW ops a.tmps)=true)(ty:AK)(x:CC)(c:o.op=IK ty x)
 (g f:Nat) (e:a.eval x=Ae (some ⟨g,f,none⟩)) (d:DK) (xs:List h) (j:∀ i u,xs[i]?= some u→w.cell? ⟨g,f+i,none⟩=some u)
 (k:P.underlying ty=some d) (l:(match d with|DA _|DX _ _=>true|_=>false)=true) (m:(P.info? ty).map (·.size)=some xs.length)
 (n:Dh P ops Q rest (a.put o.dst (AN xs.toArray)) w):Dh P ops Q (o::rest) a w:=by
 refine wpList_step fun K p=>?_
 rw [if_pos b];unfold Cb CS;simp only [c,e,Ir,GQ,Di,D3,C3,RO g f ty d xs j k l m];exact p _ _ n
theorem zO1 {w w':Y}{base:Nat}{e:AK}{size n:Nat}{v:h}{xs:List h}(b:w.ownsRow base e size v n xs)(x:Ext w w'):w'.ownsRow base e size v n xs:=
 KX b fun g c=>x.block g (Kc b c).2
theorem K7 {w:Y}{base:Nat}{e:AK}{size:Nat}{v:h}{n:Nat}{xs:List h}(a:w.ownsRow base e size v n xs):∃ A c,v=J A n c∧n≤c∧c≤Bk∧(A=none→c=0)∧Ol w A xs:=by
 rcases a.2 with⟨rfl,rfl⟩|⟨g,cap,cur,rfl,i,k,b,d,_,l⟩
 ·refine⟨none,0,rfl,Aw _,by simp [Bk],fun _=>rfl,?_⟩;have:xs=[]:=BZ (by simpa using a.1);subst this;exact Ol.nil _ _
 ·exact⟨some ⟨g,0,none⟩,cap,rfl,b,d,(fun a=>by cases a),fun j u f=>⟨_,rfl,a.cells (g:=g) rfl j u f⟩⟩
theorem tV {P:BR}{fn:Func}{u q:Tmp}{a:AK}(g:fn.results= #[.cell q a,Jt u])(tmps:Array h)(w:Y)(b:Nat)(e:AK)(c:Array h)(f:Nat×Nat)(d:DK)
 (i:tmps.getD q Ca=Ae (some ⟨b,0,none⟩)) (j:w.heap[b]?= some (Ab c e f)) (k:P.underlying a=some d) (l:(match d with|DA _|DX _ _=>true|_=>false)=true) (m:(P.info? a).map (·.size)=some c.size):
 (El fn tmps).run P w=Ez (AZ #[AN c,tmps.getD u Ca]) w:=by
 have n:tmps[q]?.getD Ca=Ae (some ⟨b,0,none⟩):=by simpa using i
 simp [El,g,n,asAddr,DI w b e a c f d j k l m]
theorem RJ {W:Y}{g:Nat}{e:AK}(a:g=W.heap.size)(xs:List h):Ol (W.alloc (Ab xs.toArray e)) (some ⟨g,0,none⟩) xs:=by
 subst a;intro i u b;refine⟨_,rfl,?_⟩;rw [MW,BF,JA (Aj W _)];simpa using b
theorem ZB {w c d:Y}{row:Option Nat}(a:Ext w c)(b:c.grownBy d row)(h:∀ g,row=some g→w.heap.size≤g):Ext w d:=
 ⟨b.os.trans a.os,b.tape.trans a.tape,b.output.trans a.output,AL a.size b.size,fun k f=>(b.block k (Ar f a.size) (fun e=>by have:=h k e.symm;omega)).trans (a.block k f)⟩
section
variable {P:BR}{fn:Func}{R:BX→Y→Prop}{a:CY}{w:Y}{g:Nat}{t ty:AK}{cs:Array h}{d:DK}{n:Nat}{p u:Tmp}
theorem K3 (b:fn.results= #[.cell p ty])(c:P.underlying ty=some d)(e:(P.info? ty).map (·.size)=some n)(f:w.heap[g]?= some (Ab cs t (0,0)))(h:R (Ak (AN cs)) w)(i:a.tmps.getD p Ca=Ae (some ⟨g,0,none⟩):=by rfl)
 (j:(match d with|DA _|DX _ _=>true|_=>false)=true:=by rfl) (k:n=cs.size:=by rfl) (l:a.defers=[]:=by rfl):bodyPost P fn R .ret a w:=
 B1 (FZ b _ _ g t cs (0,0) _ i f c j (k▸e)) l h
theorem Ow (b:fn.results= #[.cell p ty,Jt u])(c:P.underlying ty=some d)(e:(P.info? ty).map (·.size)=some n)(f:w.heap[g]?= some (Ab cs t (0,0)))(h:R (Ak (AZ #[AN cs,a.tmps.getD u Ca])) w)(i:a.tmps.getD p Ca=Ae (some ⟨g,0,none⟩):=by rfl)
 (j:(match d with|DA _|DX _ _=>true|_=>false)=true:=by rfl) (k:n=cs.size:=by rfl) (l:a.defers=[]:=by rfl):bodyPost P fn R .ret a w:=
 B1 (tV b _ _ g t cs (0,0) _ i f c j (k▸e)) l h
theorem Rx (b:fn.results= #[Jt u,.cell p ty])(c:P.underlying ty=some d)(e:(P.info? ty).map (·.size)=some n)(f:w.heap[g]?= some (Ab cs t (0,0)))(h:R (Ak (AZ #[a.tmps.getD u Ca,AN cs])) w)(i:a.tmps.getD p Ca=Ae (some ⟨g,0,none⟩):=by rfl)
 (j:(match d with|DA _|DX _ _=>true|_=>false)=true:=by rfl) (k:n=cs.size:=by rfl) (l:a.defers=[]:=by rfl):bodyPost P fn R .ret a w:=
 B1 (tT b _ _ g t cs (0,0) _ i f c j (k▸e)) l h
theorem PO {old:Array h}{a:Nat×Nat}(b:w.heap[g]?= some (Ab old t a)):(w.setRow g cs).heap[g]?= some (Ab cs t a):=Bo _ _ _ _ _ _ b
end
section
variable {P:BR}{ops:Array B5}{rest:List B5}{o:B5}{a:CY}{w:Y}{Q:EY→CY→Y→Prop}{ty t:AK}{x y:CC}{g f:Nat}{cs old:Array h}{xs:List h}{d:DK}{n:Nat}
theorem Qx (b:o.op=IK ty x)(c:P.underlying ty=some d)(e:a.eval x=Ae (some ⟨g,0,none⟩))(f:w.heap[g]?= some (Ab cs t (0,0)))(h:(P.info? ty).map (·.size)=some n)(i:Dh P ops Q rest (a.put o.dst (AN cs)) w)
 (j:o.guard=none:=by rfl) (k:(match d with|DA _|DX _ _=>true|_=>false)=true:=by rfl) (l:n=cs.size:=by rfl):Dh P ops Q (o::rest) a w:=
 wpList_load_row j ty x b g e t cs (0,0) d f c k (l▸h) i
theorem LH (b:o.op=IK ty x)(c:P.underlying ty=some d)(e:a.eval x=Ae (some ⟨g,0,none⟩))(f:w.heap[g]?= some (Ab cs t (0,0)))(h:(P.info? ty).map (·.size)=some n)(i:Dh P ops Q rest (a.put o.dst (AN cs)) w)
 (j:AQ o (BW ops a.tmps)=true:=by rfl) (k:(match d with|DA _|DX _ _=>true|_=>false)=true:=by rfl) (l:n=cs.size:=by rfl):Dh P ops Q (o::rest) a w:=
 U9 j ty x b g e t cs (0,0) d f c k (l▸h) i
theorem KV (b:o.op=IK ty x)(c:P.underlying ty=some d)(e:a.eval x=Ae (some ⟨g,f,none⟩))(hc:∀ i u,xs[i]?= some u→w.cell? ⟨g,f+i,none⟩=some u)(h:(P.info? ty).map (·.size)=some n)(j:Dh P ops Q rest (a.put o.dst (AN xs.toArray)) w)
 (k:AQ o (BW ops a.tmps)=true:=by rfl) (l:(match d with|DA _|DX _ _=>true|_=>false)=true:=by rfl) (m:n=xs.length:=by rfl):Dh P ops Q (o::rest) a w:=
 Pn k ty x b g f e d xs hc c (by cases d<;>exact l) (m▸h) j
theorem L8 (b:o.op=.store ty x y)(c:a.eval x=Ae (some ⟨g,0,none⟩))(hy:a.eval y=AN cs)(d:w.heap[g]?= some (Ab old t (0,0)))(e:(P.info? ty).map (·.size)=some n)(f:Dh P ops Q rest (a.put o.dst Ca) (w.setRow g cs))
 (h:o.guard=none:=by rfl) (hold:old.size=cs.size:=by rfl) (i:n=cs.size:=by rfl) (h1:cs.all (·.oneCell')=true:=by simp [Value.oneCell']):Dh P ops Q (o::rest) a w:=
 CK h ty x y b g cs c hy t old d (i▸e) hold h1 f
end
theorem JH {α:Sort _}(a:α):∃ x,x=a:=⟨a,rfl⟩
theorem alw (w:Y)(o:Obj):∃ W,w.alloc o=W∧AA (Ext w W)∧AA (W.heap[w.heap.size]?= some o):=
 ⟨_,rfl,D ((Ext.refl w).alloc o),D (Aj w o)⟩
theorem pA {α:Type}(l:List α)(i:Nat)(x:α):l.toArray.setIfInBounds i x=(l.set i x).toArray:=List.setIfInBounds_toArray ..
theorem pB {α:Type}(a x:α)(l:List α):(a::l).set 0 x=x::l:=En
theorem pC {α:Type}(a x:α)(l:List α)(n:Nat):(a::l).set (n+1) x=a::l.set n x:=Eo
section
variable {P:BR}{ops:Array B5}{Q:EY→CY→Y→Prop}{md:Gi}{S:Y→Prop}{F:List Nat}{n:Nat}{listed:Array Bool}{a:CY}{w:Y}
theorem KM (i:Nat){d:Nat}{op:Op}{f:AK}{g:String}{j:Array Ik}{k:Option (Nat×Bool)}{v:h}{l:Array h}{m:List GX}(o:S w)(e:JX P md ops Q S F n (listed.setIfInBounds i true) ⟨l,m⟩ w)(p:ops[i]?= some ⟨some d,op,f,g,j,k⟩:=by rfl)
 (b:(DH ops&&EO md ops listed i&&(Bw md ops listed).contains i&&VN md ops F i)=true:=by kernel_rfl) (q:∀ c a w,Q (EM c) (a.put (some d) v) w→Q (EM c) a w:=by exact fun _ _ _ e=>e)
 (r:AQ ⟨some d,op,f,g,j,k⟩ (BW ops a.tmps)=true:=by rfl) (hy:∀ w,S w→(CS a.eval ⟨some d,op,f,g,j,k⟩).run P w=Ez (F5 v) w:=by(intro w s;(try dsimp only at s);go_simp;(try with_reducible rfl)))
 (t:a.put (some d) v=⟨l,m⟩:=by(simp only [Act.put,pA,pB,pC];rfl)):JX P md ops Q S F (n+1) listed a w:=by
 simp only [Ah]at b;rw [←t]at e;exact JX.take p b.1.1.1 b.1.1.2 b.1.2 b.2 q (AO ⟨r,hy⟩) o e
theorem TY (i:Nat){d:Nat}{op:Op}{b:AK}{e:String}{f:Array Ik}{g:Option (Nat×Bool)}{v:h}{k:Array h}{l:List GX}(m:S w)(j:JX P md ops Q S F n (listed.setIfInBounds i true) ⟨k,l⟩ w)(o:ops[i]?= some ⟨some d,op,b,e,f,g⟩:=by rfl)
 (p:(DH ops&&EO md ops listed i&&(Bw md ops listed).contains i&&VN md ops F i)=true:=by kernel_rfl) (q:∀ c a w,Q (EM c) (a.put (some d) v) w→Q (EM c) a w:=by exact fun _ _ _ j=>j)
 (r:AQ ⟨some d,op,b,e,f,g⟩ (BW ops a.tmps)=true:=by rfl) (hy:∀ w,S w→(CS a.eval ⟨some d,op,b,e,f,g⟩).run P w=Ez (F5 v) w:=by(intro w t;go_simp;(try rw [if_neg (by(try simp only [ByteArray.size_append,KO]);omega)]);(try with_reducible rfl)))
 (s:a.put (some d) v=⟨k,l⟩:=by(simp only [Act.put,pA,pB,pC];rfl)):JX P md ops Q S F (n+1) listed a w:=
 KM i m j o p q r hy s
theorem QM {l:Y→Prop}(i:Nat){d:Nat}{op:Op}{b:AK}{e:String}{f:Array Ik}{g:Option (Nat×Bool)}{v:h}{m:Array h}{o:List GX}(p:S w)(r:∀ w,S w→l w)(j:JX P md ops Q S F n (listed.setIfInBounds i true) ⟨m,o⟩ w)(s:ops[i]?= some ⟨some d,op,b,e,f,g⟩:=by rfl)
 (t:(DH ops&&EO md ops listed i&&(Bw md ops listed).contains i&&VN md ops F i)=true:=by kernel_rfl) (u:∀ c a w,Q (EM c) (a.put (some d) v) w→Q (EM c) a w:=by exact fun _ _ _ j=>j)
 (x:AQ ⟨some d,op,b,e,f,g⟩ (BW ops a.tmps)=true:=by rfl) (hy:∀ w,l w→(CS a.eval ⟨some d,op,b,e,f,g⟩).run P w=Ez (F5 v) w:=by(intro w q;go_simp;(try with_reducible rfl)))
 (y:a.put (some d) v=⟨m,o⟩:=by(simp only [Act.put,pA,pB,pC];rfl)):JX P md ops Q S F (n+1) listed a w:=
 KM i p j s t u x (fun w k=>hy w (r w k)) y
theorem JX.rd (i:Nat){b:Option Tmp}{c:Op}{d:AK}{e:String}{f:Array Ik}{g:Option (Nat×Bool)}(j:∀ h:CY→Y→Prop,AA (∀a w,S w→(S w→JX P md ops Q S F n (listed.setIfInBounds i true) a w)→h a w)→if AQ ⟨b,c,d,e,f,g⟩ (BW ops a.tmps)=true then Cb P ⟨b,c,d,e,f,g⟩ a w h Q else h (a.put b Ca) w)
 (k:Bw md ops listed=[i]:=by kernel_rfl) (l:F.contains i=false:=by rfl) (m:ops[i]?= some ⟨b,c,d,e,f,g⟩:=by rfl):JX P md ops Q S F (n+1) listed a w:=by
 have o:i∉F:=by simpa using l
 refine Nl k (by simp) (Lm.cons m (fun K p=>j K (D fun a w r s=>p a w (fun _=>r) (fun q=>s (q o)))) Lm.nil)
theorem QN (i:Nat){b:Option Tmp}{c:Op}{d:AK}{e:String}{f:Array Ik}{g:Option (Nat×Bool)}(j:∀ h:CY→Y→Prop,AA (∀a w,JX P md ops Q S F n (listed.setIfInBounds i true) a w→h a w)→if AQ ⟨b,c,d,e,f,g⟩ (BW ops a.tmps)=true then Cb P ⟨b,c,d,e,f,g⟩ a w h Q else h (a.put b Ca) w)
 (k:Bw md ops listed=[i]:=by kernel_rfl) (l:F.contains i=true:=by rfl) (m:ops[i]?= some ⟨b,c,d,e,f,g⟩:=by rfl):JX P md ops Q S F (n+1) listed a w:=by
 have o:i∈F:=by simpa using l
 exact Nl k (by simp) (Lm.cons m (fun K p=>j K (D fun a w r=>p a w (fun q=>absurd o q) (fun _=>r))) Lm.nil)
theorem JC {i:Nat}{d:Nat}{op:Op}{b:AK}{e:String}{f:Array Ik}{g:Option (Nat×Bool)}{v:h}{k:Array h}{l:List GX}(m:S w)(j:JX P md ops Q S F n (listed.setIfInBounds i true) ⟨k,l⟩ w)(u:ops.size=i+(n+1):=by(simp only [List.size_toArray,List.length_cons,List.length_nil];rfl))(o:ops[i]?= some ⟨some d,op,b,e,f,g⟩:=by rfl)
 (p:(DH ops&&EO md ops listed i&&(Bw md ops listed).contains i&&VN md ops F i)=true:=by kernel_rfl) (q:∀ c a w,Q (EM c) (a.put (some d) v) w→Q (EM c) a w:=by exact fun _ _ _ j=>j)
 (r:AQ ⟨some d,op,b,e,f,g⟩ (BW ops a.tmps)=true:=by rfl) (hy:∀ w,S w→(CS a.eval ⟨some d,op,b,e,f,g⟩).run P w=Ez (F5 v) w:=by(intro w s;(try dsimp only at s);go_simp;(try with_reducible rfl)))
 (t:a.put (some d) v=⟨k,l⟩:=by(simp only [Act.put,pA,pB,pC];rfl)):JX P md ops Q S F (n+1) listed a w:=
 KM i m j o p q r hy t
theorem Mq {i:Nat}{d:Nat}{op:Op}{b:AK}{e:String}{f:Array Ik}{g:Option (Nat×Bool)}{v:h}{k:Array h}{l:List GX}(m:S w)(j:JX P md ops Q S F n (listed.setIfInBounds i true) ⟨k,l⟩ w)(t:ops.size=i+(n+1):=by(simp only [List.size_toArray,List.length_cons,List.length_nil];rfl))(o:ops[i]?= some ⟨some d,op,b,e,f,g⟩:=by rfl)
 (p:(DH ops&&EO md ops listed i&&(Bw md ops listed).contains i&&VN md ops F i)=true:=by kernel_rfl) (q:∀ c a w,Q (EM c) (a.put (some d) v) w→Q (EM c) a w:=by exact fun _ _ _ j=>j)
 (r:AQ ⟨some d,op,b,e,f,g⟩ (BW ops a.tmps)=true:=by rfl) (hy:∀ w,S w→(CS a.eval ⟨some d,op,b,e,f,g⟩).run P w=Ez (F5 v) w:=by(intro w u;go_simp;(try rw [if_neg (by(try simp only [ByteArray.size_append,KO]);omega)]);(try with_reducible rfl)))
 (s:a.put (some d) v=⟨k,l⟩:=by(simp only [Act.put,pA,pB,pC];rfl)):JX P md ops Q S F (n+1) listed a w:=
 TY i m j o p q r hy s
theorem JP {k:Y→Prop}{i:Nat}{d:Nat}{op:Op}{b:AK}{e:String}{f:Array Ik}{g:Option (Nat×Bool)}{v:h}{l:Array h}{m:List GX}(o:S w)(p:∀ w,S w→k w)(j:JX P md ops Q S F n (listed.setIfInBounds i true) ⟨l,m⟩ w)(y:ops.size=i+(n+1):=by(simp only [List.size_toArray,List.length_cons,List.length_nil];rfl))(r:ops[i]?= some ⟨some d,op,b,e,f,g⟩:=by rfl)
 (s:(DH ops&&EO md ops listed i&&(Bw md ops listed).contains i&&VN md ops F i)=true:=by kernel_rfl) (t:∀ c a w,Q (EM c) (a.put (some d) v) w→Q (EM c) a w:=by exact fun _ _ _ j=>j)
 (u:AQ ⟨some d,op,b,e,f,g⟩ (BW ops a.tmps)=true:=by rfl) (hy:∀ w,k w→(CS a.eval ⟨some d,op,b,e,f,g⟩).run P w=Ez (F5 v) w:=by(intro w q;go_simp;(try with_reducible rfl)))
 (x:a.put (some d) v=⟨l,m⟩:=by(simp only [Act.put,pA,pB,pC];rfl)):JX P md ops Q S F (n+1) listed a w:=
 QM i o p j r s t u hy x
theorem JM {i:Nat}{b:Option Tmp}{c:Op}{d:AK}{e:String}{f:Array Ik}{g:Option (Nat×Bool)}(j:∀ h:CY→Y→Prop,AA (∀a w,S w→(S w→JX P md ops Q S F n (listed.setIfInBounds i true) a w)→h a w)→if AQ ⟨b,c,d,e,f,g⟩ (BW ops a.tmps)=true then Cb P ⟨b,c,d,e,f,g⟩ a w h Q else h (a.put b Ca) w)
 (o:ops.size=i+(n+1):=by(simp only [List.size_toArray,List.length_cons,List.length_nil];rfl)) (k:Bw md ops listed=[i]:=by kernel_rfl) (l:F.contains i=false:=by rfl) (m:ops[i]?= some ⟨b,c,d,e,f,g⟩:=by rfl):JX P md ops Q S F (n+1) listed a w:=
 JX.rd i j k l m
theorem JX.fn {i:Nat}{b:Option Tmp}{c:Op}{d:AK}{e:String}{f:Array Ik}{g:Option (Nat×Bool)}(j:∀ h:CY→Y→Prop,AA (∀a w,JX P md ops Q S F n (listed.setIfInBounds i true) a w→h a w)→if AQ ⟨b,c,d,e,f,g⟩ (BW ops a.tmps)=true then Cb P ⟨b,c,d,e,f,g⟩ a w h Q else h (a.put b Ca) w)
 (o:ops.size=i+(n+1):=by(simp only [List.size_toArray,List.length_cons,List.length_nil];rfl)) (k:Bw md ops listed=[i]:=by kernel_rfl) (l:F.contains i=true:=by rfl) (m:ops[i]?= some ⟨b,c,d,e,f,g⟩:=by rfl):JX P md ops Q S F (n+1) listed a w:=
 QN i j k l m
theorem JV (b:Q .normal a w)(c:Bw md ops listed=[]:=by kernel_rfl):JX P md ops Q S F n listed a w:=JX.done c b n
theorem JX.go (S:Y→Prop)(F:List Nat){b:Nat}(c:S w.drew)(d:S w.drew→JX P GG ops Q S F ops.size (CD ops.size false) a w.drew)(e:P.follows Fu=true:=by kernel_rfl):(FU b ops true).wp P Q a w:=Yy S F e (d c)
end
theorem NR {W:Y}{o:Obj}{k:Nat}(a:k=W.heap.size):(W.alloc o).heap[k]?= some o:=by subst a;exact Aj W o
theorem MX {W:Y}{o q:Obj}{k:Nat}(a:W.heap[k]?= some o):(W.alloc q).heap[k]?= some o:=CE ((Ext.refl W).alloc q) a
end Go.Proofs.YtmkomefmgcpnbaaGreatDoor
namespace Pg
open _root_.Bool renaming and_eq_true→Ah
open _root_.List.cons renaming injEq→Fg
open _root_.Nat renaming beq→Az,ble→A6,blt→Be,eq_of_beq_eq_true→Ap
open _root_.UInt8 renaming toNat_inj→CH
abbrev Bs:=List UInt8
structure Tk where
 kind:Nat
 text:Bs
 num:Nat
 pos:Nat
deriving DecidableEq
def OC (c:UInt8):Bool:=97≤c.toNat&&c.toNat≤122
def K4 (c:UInt8):Bool:=48≤c.toNat&&c.toNat≤57
def LJ:Bs→Bs→Bool
 |[],[]=>true
 |a::l,b::m=>Az a.toNat b.toNat&&LJ l m
 |_,_=>false
theorem Ko:∀ (a b:Bs),LJ a b=true↔a=b
 |[],[]=>by simp [LJ]
 |[],_::_=>by simp [LJ]
 |_::_,[]=>by simp [LJ]
 |a::l,b::m=>by
  simp only [LJ,Ah,Ko l m,Fg];constructor
  ·rintro⟨c,d⟩;exact⟨CH.1 (Ap c),d⟩
  ·rintro⟨c,d⟩;exact⟨by rw [c];exact Nat.beq_refl _,d⟩
def Oc (s:Bs)(l:List Bs):Bool:=l.any (LJ s)
def UD:List Bs:=[[97,114,114,97,121],[98,114,101,97,107],[99,111,110,115,116],[99,111,110,116,105,110,117,101],[101,108,115,101],[102,117,110,99],[103,101,116],[105,102],[112,117,116],[114,101,116,117,114,110],[115,116,111,112],[118,97,114],[119,104,105,108,101]]
def UE (s:Bs):Bool:=Oc s UD
def Ry:List Bs:=[[60,60],[62,62],[61,61],[33,61],[60,61],[62,61],[38,38],[124,124],[43],[45],[42],[47],[37],[38],[124],[94],[126],[33],[60],[62],[61],[40],[41],[91],[93],[123],[125],[44],[59]]
def ops:List Bs:=[[33],[45],[126],[42],[47],[37],[60,60],[62,62],[38],[43],[45],[124],[94],[61,61],[33,61],[60],[60,61],[62],[62,61],[38,38],[124,124]]
def KZ:Bool→Bs→Nat
 |_,[]=>0
 |true,c::a=>if c=10 then KZ false a+1 else KZ true a+1
 |false,c::a=>if c=32∨c=9∨c=10 then KZ false a+1 else if c=35 then KZ true a+1 else 0
def Mx (p:UInt8→Bool):Bs→Nat
 |[]=>0
 |c::a=>if p c then Mx p a+1 else 0
def OW:Bs→Bs→Bool
 |[],_=>true
 |_::_,[]=>false
 |a::l,b::m=>Az a.toNat b.toNat&&OW l m
def tX (l:Bs):Nat:=l.foldl (fun n c=>n*10+(c.toNat - 48)) 0
def Ud (l:Bs):Option Nat:=
 match l with
 |[]=>none
 |[c]=>some (c.toNat - 48)
 |c::_=>if c=48 then none else if tX l<4294967296 then some (tX l)else none
def Vk (rest:Bs)(pos:Nat):Option (Tk×Nat):=
 match rest with
 |[]=>some (⟨0,[],0,pos⟩,0)
 |c::b=>
  if OC c then
   let n:=Mx (fun c=>K4 c||OC c) rest
   let w:=rest.take n
   if UE w||A6 n 12 then some (⟨1,w,0,pos⟩,n)else none
  else if K4 c then
   let n:=Mx K4 rest
   let d:=rest.take n
   match Ud d with
   |some v=>some (⟨2,d,v,pos⟩,n)
   |none=>none
  else if c=39 then
   match b with
   |x::e::_=>if e=39∧32≤x.toNat∧x.toNat≤126∧x≠39∧x≠92 then some (⟨2,rest.take 3,x.toNat,pos⟩,3)else none
   |_=>none
  else match Ry.find? (fun x=>OW x rest)with
   |some x=>some (⟨3,x,0,pos⟩,x.length)
   |none=>none
structure PS where
 tok:Tk
 rest:Bs
 off:Nat
def Kh (p:PS):Option PS:=
 let k:=KZ false p.rest
 let rest:=p.rest.drop k
 match Vk rest (p.off+k)with
 |some (t,n)=>some ⟨t,rest.drop n,p.off+k+n⟩
 |none=>none
inductive Ex where
 |mk (kind op num:Nat) (name:Bs) (args:List Ex)
inductive Sm where
 |mk (kind:Nat) (name:Bs) (exprs:List Ex) (body els:List Sm)
structure KJ where
 kind:Nat
 name:Bs
 num:Nat
 init:List Nat
structure Fn where
 name:Bs
 params:List Bs
 JE:List Bs
 body:List Sm
structure JQ where
 globals:List KJ
 JY:List Fn
def JZ (s:Bs)(p:PS):Bool:=(Az p.tok.kind 3||Az p.tok.kind 1)&&LJ p.tok.text s
def QO (s:Bs)(p:PS):Option (Bool×PS):=
 if JZ s p then match Kh p with
  |some q=>some (true,q)
  |none=>none
 else some (false,p)
def KD (s:Bs)(p:PS):Option PS:=if JZ s p then Kh p else none
def Nn (p:PS):Bool:=Az p.tok.kind 1&& !UE p.tok.text
def M0 (p:PS):Option (Bs×PS):=
 if Nn p then match Kh p with
  |some q=>some (p.tok.text,q)
  |none=>none
 else none
def QP (p:PS):Option (Nat×PS):=
 if Az p.tok.kind 2 then match Kh p with
  |some q=>some (p.tok.num,q)
  |none=>none
 else none
def Rh {α:Type}(elem:PS→Option (α×PS)):Nat→List α→PS→Option (List α×PS)
 |0,_,_=>none
 |n+1,acc,p=>match elem p with
  |none=>none
  |some (x,q)=>match QO [44] q with
   |none=>none
   |some (true,a)=>Rh elem n (acc++[x]) a
   |some (false,a)=>some (acc++[x],a)
def LK (s:Bs):List Bs→Nat→Option Nat
 |[],_=>none
 |x::l,i=>if LJ x s then some i else LK s l (i+1)
def Po (p:PS):Nat:=if Az p.tok.kind 3 then(match LK p.tok.text (ops.drop 3) 4 with|some i=>i|none=>0)else 0
def J5 (op:Nat):Nat:=if op=21 then 1 else if op=20 then 2 else if 14≤op∧op≤19 then 3 else if 10≤op∧op≤13 then 4 else 5
mutual
def M3:Nat→Nat→PS→Option (Ex×PS)
 |0,_,_=>none
 |n+1,least,p=>match XP n p with
  |none=>none
  |some (x,q)=>YT n least x q
def YT:Nat→Nat→Ex→PS→Option (Ex×PS)
 |0,_,_,_=>none
 |n+1,least,x,p=>
  if Az (Po p) 0||Be (J5 (Po p)) least then some (x,p)
  else match Kh p with
   |none=>none
   |some q=>match M3 n (J5 (Po p)+1) q with
    |none=>none
    |some (a,b)=>YT n least (.mk 7 (Po p) 0 [] [x,a]) b
def XP:Nat→PS→Option (Ex×PS)
 |0,_=>none
 |n+1,p=>
  if JZ [33] p then Zt n 1 p
  else if JZ [45] p then Zt n 2 p
  else if JZ [126] p then Zt n 3 p
  else if Az p.tok.kind 2 then match Kh p with
   |none=>none
   |some q=>some (.mk 1 0 p.tok.num [] [],q)
  else if JZ [103,101,116] p then match Kh p with
   |none=>none
   |some q=>some (.mk 5 0 0 [] [],q)
  else if JZ [40] p then match Kh p with
   |none=>none
   |some q=>match M3 n 1 q with
    |none=>none
    |some (x,a)=>match KD [41] a with
     |none=>none
     |some t=>some (x,t)
  else match M0 p with
   |none=>none
   |some (s,q)=>
    if JZ [91] q then match Kh q with
     |none=>none
     |some a=>match M3 n 1 a with
      |none=>none
      |some (x,t)=>match KD [93] t with
       |none=>none
       |some u=>some (.mk 3 0 0 s [x],u)
    else if JZ [40] q then match Kh q with
     |none=>none
     |some a=>match Vl n a with
      |none=>none
      |some (l,t)=>some (.mk 4 0 0 s l,t)
    else some (.mk 2 0 0 s [],q)
def Zt:Nat→Nat→PS→Option (Ex×PS)
 |0,_,_=>none
 |n+1,op,p=>match Kh p with
  |none=>none
  |some q=>match XP n q with
   |none=>none
   |some (x,a)=>some (.mk 6 op 0 [] [x],a)
def Vl:Nat→PS→Option (List Ex×PS)
 |0,_=>none
 |n+1,p=>
  if JZ [41] p then match Kh p with
   |none=>none
   |some q=>some ([],q)
  else match WI n [] p with
   |none=>none
   |some (l,q)=>match KD [41] q with
    |none=>none
    |some a=>some (l,a)
def WI:Nat→List Ex→PS→Option (List Ex×PS)
 |0,_,_=>none
 |n+1,acc,p=>match M3 n 1 p with
  |none=>none
  |some (x,q)=>match QO [44] q with
   |none=>none
   |some (true,a)=>WI n (acc++[x]) a
   |some (false,a)=>some (acc++[x],a)
end
mutual
def Sg:Nat→List Sm→PS→Option (List Sm×PS)
 |0,_,_=>none
 |n+1,acc,p=>
  if JZ [125] p then match Kh p with
   |none=>none
   |some q=>some (acc,q)
  else match dJ n p with
   |none=>none
   |some (x,q)=>Sg n (acc++[x]) q
def Vm:Nat→PS→Option ((Ex×List Sm)×PS)
 |0,_=>none
 |n+1,p=>match KD [40] p with
  |none=>none
  |some q=>match M3 n 1 q with
   |none=>none
   |some (x,a)=>match KD [41] a with
    |none=>none
    |some t=>match KD [123] t with
     |none=>none
     |some u=>match Sg n [] u with
      |none=>none
      |some (b,v)=>some ((x,b),v)
def dJ:Nat→PS→Option (Sm×PS)
 |0,_=>none
 |n+1,p=>
  if Nn p then WJ n p
  else if JZ [105,102] p then match Kh p with
   |none=>none
   |some q=>Zu n q
  else if JZ [119,104,105,108,101] p then match Kh p with
   |none=>none
   |some q=>match Vm n q with
    |none=>none
    |some ((x,b),a)=>some (.mk 4 [] [x] b [],a)
  else if JZ [114,101,116,117,114,110] p then XQ n 6 p
  else if JZ [112,117,116] p then XQ n 7 p
  else if JZ [115,116,111,112] p then XQ n 8 p
  else if JZ [98,114,101,97,107] p then YU 9 p
  else if JZ [99,111,110,116,105,110,117,101] p then YU 10 p
  else none
def XQ:Nat→Nat→PS→Option (Sm×PS)
 |0,_,_=>none
 |n+1,k,p=>match Kh p with
  |none=>none
  |some q=>match M3 n 1 q with
   |none=>none
   |some (x,a)=>match KD [59] a with
    |none=>none
    |some t=>some (.mk k [] [x] [] [],t)
def YU (k:Nat)(p:PS):Option (Sm×PS):=match Kh p with
 |none=>none
 |some q=>match KD [59] q with
  |none=>none
  |some a=>some (.mk k [] [] [] [],a)
def Zu:Nat→PS→Option (Sm×PS)
 |0,_=>none
 |n+1,p=>match Vm n p with
  |none=>none
  |some ((x,b),q)=>
   if JZ [101,108,115,101] q then match Kh q with
    |none=>none
    |some a=>
     if JZ [105,102] a then match Kh a with
      |none=>none
      |some t=>match Zu n t with
       |none=>none
       |some (e,u)=>some (.mk 3 [] [x] b [e],u)
     else match KD [123] a with
      |none=>none
      |some t=>match Sg n [] t with
       |none=>none
       |some (e,u)=>some (.mk 3 [] [x] b e,u)
   else some (.mk 3 [] [x] b [],q)
def WJ:Nat→PS→Option (Sm×PS)
 |0,_=>none
 |n+1,p=>match M0 p with
  |none=>none
  |some (s,q)=>
   if JZ [61] q then match Kh q with
    |none=>none
    |some c=>match M3 n 1 c with
     |none=>none
     |some (x,t)=>match KD [59] t with
      |none=>none
      |some u=>some (.mk 1 s [x] [] [],u)
   else if JZ [91] q then match Kh q with
    |none=>none
    |some c=>match M3 n 1 c with
     |none=>none
     |some (i,t)=>match KD [93] t with
      |none=>none
      |some u=>match KD [61] u with
       |none=>none
       |some v=>match M3 n 1 v with
        |none=>none
        |some (x,a)=>match KD [59] a with
         |none=>none
         |some b=>some (.mk 2 s [i,x] [] [],b)
   else match KD [40] q with
    |none=>none
    |some c=>match Vl n c with
     |none=>none
     |some (l,t)=>match KD [59] t with
      |none=>none
      |some u=>some (.mk 5 s l [] [],u)
end
def XR (n:Nat)(p:PS):Option (KJ×PS):=
 if JZ [99,111,110,115,116] p then match Kh p with
  |none=>none
  |some q=>match M0 q with
   |none=>none
   |some (s,d)=>match KD [61] d with
    |none=>none
    |some t=>match QP t with
     |none=>none
     |some (k,u)=>match KD [59] u with
      |none=>none
      |some v=>some (⟨1,s,k,[]⟩,v)
 else if JZ [118,97,114] p then match Kh p with
  |none=>none
  |some q=>match M0 q with
   |none=>none
   |some (s,d)=>match KD [59] d with
    |none=>none
    |some v=>some (⟨2,s,0,[]⟩,v)
 else match KD [97,114,114,97,121] p with
  |none=>none
  |some q=>match M0 q with
   |none=>none
   |some (s,d)=>match KD [91] d with
    |none=>none
    |some t=>match QP t with
     |none=>none
     |some (k,u)=>match KD [93] u with
      |none=>none
      |some v=>
       if JZ [61] v then match Kh v with
        |none=>none
        |some a=>match Rh QP n [] a with
         |none=>none
         |some (l,b)=>match KD [59] b with
          |none=>none
          |some c=>some (⟨3,s,k,l⟩,c)
       else match KD [59] v with
        |none=>none
        |some c=>some (⟨3,s,k,[]⟩,c)
def fP (n:Nat)(p:PS):Option (List Bs×PS):=if JZ [41] p then some ([],p)else Rh M0 n [] p
def XU (n:Nat)(p:PS):Option (List Bs×PS):=
 if JZ [118,97,114] p then match Kh p with
  |none=>none
  |some q=>match Rh M0 n [] q with
   |none=>none
   |some (l,a)=>match KD [59] a with
    |none=>none
    |some t=>some (l,t)
 else some ([],p)
def jM (n:Nat)(p:PS):Option (Fn×PS):=
 match M0 p with
 |none=>none
 |some (s,q)=>match KD [40] q with
  |none=>none
  |some d=>match fP n d with
   |none=>none
   |some (e,t)=>match KD [41] t with
    |none=>none
    |some u=>match KD [123] u with
     |none=>none
     |some v=>match XU n v with
      |none=>none
      |some (f,a)=>match Sg n [] a with
       |none=>none
       |some (b,c)=>some (⟨s,e,f,b⟩,c)
def UR:Nat→List KJ→List Fn→PS→Option JQ
 |0,_,_,_=>none
 |n+1,gs,a,p=>
  if Az p.tok.kind 0 then some ⟨gs,a⟩
  else if JZ [102,117,110,99] p then match Kh p with
   |none=>none
   |some q=>match jM n q with
    |none=>none
    |some (f,b)=>UR n gs (a++[f]) b
  else match XR n p with
   |none=>none
   |some (g,b)=>UR n (gs++[g]) a b
def WK (n:Nat)(text:Bs):Option JQ:=match Kh ⟨⟨0,[],0,0⟩,text,0⟩with
 |none=>none
 |some p=>UR n [] [] p
end Pg
namespace Pg
open _root_.List renaming replicate→BK
open _root_.Nat renaming beq→Az,ble→A6,blt→Be
open _root_.UInt8 renaming ofNat→I9
def Ue:Nat→Nat→Bs→Bs
 |0,_,acc=>acc
 |f+1,n,acc=>if Be n 10 then I9 (48+n %10)::acc else Ue f (n /10) (I9 (48+n %10)::acc)
def KN (n:Nat):Bs:=Ue 20 n []
def Ex.kind:Ex→Nat|.mk k _ _ _ _=>k
def Ex.op:Ex→Nat|.mk _ o _ _ _=>o
def Ex.num:Ex→Nat|.mk _ _ n _ _=>n
def Ex.name:Ex→Bs|.mk _ _ _ s _=>s
def Ex.args:Ex→List Ex|.mk _ _ _ _ l=>l
def Sm.kind:Sm→Nat|.mk k _ _ _ _=>k
def Sm.name:Sm→Bs|.mk _ s _ _ _=>s
def yn4:Sm→List Ex|.mk _ _ l _ _=>l
def Sm.body:Sm→List Sm|.mk _ _ _ b _=>b
def xA5:Sm→List Sm|.mk _ _ _ _ e=>e
def Si (s:Bs):Bool:=match s with
 |[]=>false
 |c::_=>OC c&&s.all fun c=>K4 c||OC c
def Mt (s:Bs):Bool:=Si s&&A6 s.length 12&& !UE s
def MM (op:Nat):Bs:=ops[op - 1]?.getD []
def Jy:List Bs→Bs
 |[]=>[]
 |[x]=>x
 |x::l=>x++44::32::Jy l
def P5 (x:Ex)(t:Bs)(a:Bool):Bs:=if Az x.kind 7&&a then 40::(t++[41])else t
mutual
def Kt:Ex→Bs
 |.mk k op num name args=>
  if k=1 then KN num
  else if k=2 then name
  else if k=3 then name++91::((NC args)[0]?.getD []++[93])
  else if k=4 then name++40::(Jy (NC args)++[41])
  else if k=5 then [103,101,116]
  else if k=6 then MM op++(match args[0]? with|some a=>P5 a ((NC args)[0]?.getD []) true|none=>[])
  else match args[0]?,args[1]? with
   |some a,some b=>P5 a ((NC args)[0]?.getD []) (Be (J5 a.op) (J5 op))++32::(MM op++32::P5 b ((NC args)[1]?.getD []) (A6 (J5 b.op) (J5 op)))
   |_,_=>[]
def NC:List Ex→List Bs
 |[]=>[]
 |x::l=>Kt x::NC l
end
def Ky (n:Nat):Bs:=BK (2*n) 32
def OO (l:List Ex)(i:Nat):Bs:=(l[i]?.map Kt).getD []
mutual
def Mv:Sm→Nat→Bs
 |.mk k name a body els,lv=>
  if k=1 then name++32::61::32::(OO a 0++[59])
  else if k=2 then name++91::(OO a 0++93::32::61::32::(OO a 1++[59]))
  else if k=3 then([105,102,32,40]:Bs)++(OO a 0++(([41,32,123,10]:Bs)++(KR body (lv+1)++(Ky lv++(([125]:Bs)++
   (match els with
    |[]=>([]:Bs)
    |x::l=>if Az x.kind 3&&l.isEmpty then([32,101,108,115,101,32]:Bs)++jN els lv else([32,101,108,115,101,32,123,10]:Bs)++(KR els (lv+1)++(Ky lv++[125]))))))))
  else if k=4 then 119::104::105::108::101::32::40::(OO a 0++41::32::123::10::(KR body (lv+1)++(Ky lv++[125])))
  else if k=5 then name++40::(Jy (a.map Kt)++[41,59])
  else if k=6 then 114::101::116::117::114::110::32::(OO a 0++[59])
  else if k=7 then 112::117::116::32::(OO a 0++[59])
  else if k=8 then 115::116::111::112::32::(OO a 0++[59])
  else if k=9 then [98,114,101,97,107,59]
  else if k=10 then [99,111,110,116,105,110,117,101,59]
  else []
def KR:List Sm→Nat→Bs
 |[],_=>[]
 |x::l,lv=>Ky lv++(Mv x lv++10::KR l lv)
def jN:List Sm→Nat→Bs
 |[],_=>[]
 |x::_,lv=>Mv x lv
end
def J9 (lv:Nat)(s:Bs):Bs:=Ky lv++(s++[10])
def OD (g:KJ):Bs:=
 if g.kind=1 then J9 0 (99::111::110::115::116::32::(g.name++32::61::32::(KN g.num++[59])))
 else if g.kind=2 then J9 0 (118::97::114::32::(g.name++[59]))
 else if g.init.isEmpty then J9 0 (97::114::114::97::121::32::(g.name++91::(KN g.num++[93,59])))
 else J9 0 (97::114::114::97::121::32::(g.name++91::(KN g.num++93::32::61::32::(Jy (g.init.map KN)++[59]))))
def Ox (f:Fn):Bs:=
 J9 0 (102::117::110::99::32::(f.name++40::(Jy f.params++[41,32,123])))++
 ((if f.JE.isEmpty then []else J9 1 (118::97::114::32::(Jy f.JE++[59])))++(KR f.body 1++J9 0 [125]))
def QH (p:JQ):Bs:=p.globals.flatMap OD++p.JY.flatMap Ox
def Sj (k op num:Nat)(name:Bs)(n:Nat):Bool:=
 A6 1 k&&A6 k 7&&
 (if k=6 then A6 1 op&&A6 op 3 else if k=7 then A6 4 op&&A6 op 21 else Az op 0)&&
 (if k=2∨k=3∨k=4 then Mt name else name.isEmpty)&&
 (if k=1 then true else Az num 0)&&
 (if k=3∨k=6 then Az n 1 else if k=7 then Az n 2 else if k=4 then A6 n 6 else Az n 0)
mutual
def P6:Ex→Nat→Nat→Option Nat
 |.mk k op num name args,lv,n=>if A6 lv 16&&A6 (n+1) 2000&&Sj k op num name args.length then L9 args (lv+1) (n+1)else none
def L9:List Ex→Nat→Nat→Option Nat
 |[],_,n=>some n
 |x::l,lv,n=>match P6 x lv n with
  |none=>none
  |some m=>L9 l lv m
end
def Sk (k:Nat)(name:Bs)(a nb b:Nat):Bool:=
 A6 1 k&&A6 k 10&&
 (if k=1∨k=2∨k=5 then Mt name else name.isEmpty)&&
 (if k=3∨k=4 then true else Az nb 0)&&(if k=3 then true else Az b 0)&&
 (if k=2 then Az a 2 else if k=5 then A6 a 6 else if k=9∨k=10 then Az a 0 else Az a 1)
mutual
def Qy:Sm→Nat→Nat→Option Nat
 |.mk k name a body els,lv,n=>if A6 lv 16&&A6 (n+1) 2000&&Sk k name a.length body.length els.length then
  match L9 a 1 (n+1)with
  |none=>none
  |some m=>match K5 body (lv+1) m with
   |none=>none
   |some q=>K5 els (lv+1) q
  else none
def K5:List Sm→Nat→Nat→Option Nat
 |[],_,n=>some n
 |x::l,lv,n=>match Qy x lv n with
  |none=>none
  |some m=>K5 l lv m
end
def VB (g:KJ):Bool:=
 A6 1 g.kind&&A6 g.kind 3&&Mt g.name&&(Az g.kind 3||g.init.isEmpty)&&(!(Az g.kind 2)||Az g.num 0)&&
 (!(Az g.kind 3)||(A6 1 g.num&&A6 g.num 40000&&A6 g.init.length g.num))
def Rz (f:Fn):Bool:=Mt f.name&&A6 f.params.length 6&&A6 f.JE.length 12&&(f.params++f.JE).all Mt
def QA:List Fn→Nat→Option Nat
 |[],n=>some n
 |f::l,n=>if Rz f then match K5 f.body 1 n with
  |none=>none
  |some m=>QA l m
  else none
def jO (p:JQ):Bool:=
 A6 p.globals.length 64&&A6 p.JY.length 64&&p.globals.all VB&&A6 (p.globals.foldl (fun n g=>n+g.init.length) 0) 1000&&
 (QA p.JY 0).isSome&&A6 (QH p).length 12000
inductive yU5 where
 |par|loc|glo (i:Nat)|yM9 (i:Nat)
def MG (s:Bs)(l:List Bs):Option Nat:=LK s l 0
def JR (s:Bs)(l:List Bs):Option Nat:=(LK s l.reverse 0).map fun i=>l.length - 1 - i
def Vn (p:JQ)(f:Fn)(s:Bs):Option yU5:=
 match MG s f.params with
 |some _=>some .par
 |none=>match MG s f.JE with
  |some _=>some .loc
  |none=>match JR s (p.JY.map Fn.name)with
   |some i=>some (.yM9 i)
   |none=>(JR s (p.globals.map KJ.name)).map .glo
def Ma (p:JQ)(f:Fn)(s:Bs)(u n:Nat):Bool:=
 match Vn p f s with
 |none=>false
 |some .par=>Az u 1||Az u 2
 |some .loc=>Az u 1||Az u 2
 |some (.yM9 i)=>Az u 4&&(match p.JY[i]? with|some g=>Az g.params.length n|none=>false)
 |some (.glo i)=>match p.globals[i]? with
  |none=>false
  |some g=>if g.kind=1 then Az u 2 else if g.kind=2 then Az u 1||Az u 2 else Az u 3
def Ri (p:JQ)(f:Fn)(k:Nat)(name:Bs)(n:Nat):Bool:=
 if k=2 then Ma p f name 2 0 else if k=3 then Ma p f name 3 0 else if k=4 then Ma p f name 4 n else true
mutual
def Zv (p:JQ)(f:Fn):Ex→Bool
 |.mk k _ _ name args=>Ri p f k name args.length&&Qf p f args
def Qf (p:JQ)(f:Fn):List Ex→Bool
 |[]=>true
 |x::l=>Zv p f x&&Qf p f l
end
def PQ (p:JQ)(f:Fn)(k:Nat)(name:Bs)(n loops:Nat):Bool:=
 if k=1 then Ma p f name 1 0 else if k=2 then Ma p f name 3 0 else if k=5 then Ma p f name 4 n
 else if k=9∨k=10 then !(Az loops 0)else true
mutual
def Zw (p:JQ)(f:Fn):Sm→Nat→Bool
 |.mk k name a body els,lp=>PQ p f k name a.length lp&&Qf p f a&&ND p f body (if k=4 then lp+1 else lp)&&ND p f els (if k=4 then lp+1 else lp)
def ND (p:JQ)(f:Fn):List Sm→Nat→Bool
 |[],_=>true
 |x::l,lp=>Zw p f x lp&&ND p f l lp
end
def M4:List Bs→Bool
 |[]=>true
 |x::l=> !Oc x l&&M4 l
def dK (p:JQ):Bool:=match JR [109,97,105,110] (p.JY.map Fn.name)with
 |none=>false
 |some i=>match p.JY[i]? with
  |none=>false
  |some f=>f.params.isEmpty
def OJ (p:JQ):Bool:=M4 (p.globals.map KJ.name++p.JY.map Fn.name)&&p.JY.all (fun f=>M4 (f.params++f.JE))&&dK p
def WM (p:JQ):Bool:=jO p&&OJ p&&p.JY.all fun f=>ND p f f.body 0
end Pg
namespace Pg
open _root_.List renaming replicate→BK
open _root_.Nat renaming ble→A6,blt→Be
open _root_.Prod renaming fst→Ee
def JD:List Bs→Bs
 |[]=>[10]
 |x::l=>32::(x++JD l)
def JS (name:Bs)(n:Nat):Bs:=JD [name,KN n]
def JU (l:Bs):Bs:=l++[58,10]
def JL (n:Nat):Bs:=108::KN n
def Lf (i:Nat):Bs:=103::KN i
def Mc (i:Nat):Bs:=102::KN i
def Kz:Bs:=[110,117,109]
def WN:Bs:=[108,111,99,97,108]
def YV:Bs:=[108,111,97,100]
def Nh:Bs:=[98,111,117,110,100]
def RP:Bs:=[102,101,116,99,104]
def KL:Bs:=[112,117,115,104]
def OX:Bs:=[99,97,108,108]
def Rj:Bs:=[100,114,111,112]
def Vo:Bs:=[103,101,116]
def Ka:Bs:=[122,101,114,111]
def Qz:Bs:=[115,117,98]
def Kb:Bs:=[106,122,101,114,111]
def MN:Bs:=[106,117,109,112]
def QQ:Bs:=[97,115,115,105,103,110]
def RQ:Bs:=[115,116,111,114,101]
def RU:Bs:=[112,117,116,97,116]
def Od:Bs:=[114,101,116]
def Uf:Bs:=[112,117,116]
def PR:Bs:=[115,116,111,112]
def Ug:Bs:=[115,116,97,99,107]
def Q0:Bs:=[101,110,100]
def Md:Bs:=[119,111,114,100]
def MO:Bs:=[115,112,97,99,101]
def Lt (op:Nat):List Bs:=
 if op=4 then [[109,117,108]]else if op=5 then [[100,105,118]]else if op=6 then [[109,111,100]]else if op=7 then [[108,101,102,116]]
 else if op=8 then [[114,105,103,104,116]]else if op=9 then [[97,110,100]]else if op=10 then [[97,100,100]]else if op=11 then [Qz]
 else if op=12 then [[111,114]]else if op=13 then [[120,111,114]]else if op=14 then [[101,113]]else if op=15 then [[101,113],Ka]
 else if op=16 then [[108,101,115,115]]else if op=17 then [[109,111,114,101],Ka]else if op=18 then [[109,111,114,101]]else if op=19 then [[108,101,115,115],Ka]else []
structure Ke where
 pr:JQ
 params:List Bs
 JE:List Bs
def Ke.size (c:Ke):Nat:=c.params.length+1+c.JE.length
def Ke.slot (c:Ke)(s:Bs):Option Nat:=match MG s c.params with
 |some k=>some k
 |none=>(MG s c.JE).map fun k=>c.params.length+1+k
def Ke.QR (c:Ke)(s:Bs):Nat:=(JR s (c.pr.globals.map KJ.name)).getD 0
def Ke.func (c:Ke)(s:Bs):Nat:=(JR s (c.pr.JY.map Fn.name)).getD 0
def Ke.gl (c:Ke)(s:Bs):KJ:=c.pr.globals[c.QR s]?.getD ⟨0,[],0,[]⟩
def MQ (c:Ke)(s:Bs)(w:Nat):Bs:=match c.slot s with
 |some k=>JS WN (c.size+w - k)
 |none=>if(c.gl s).kind=1 then JS Kz (c.gl s).num else JD [YV,Lf (c.QR s)]
mutual
def JW (c:Ke):Ex→Nat→Nat→Bs×Nat
 |.mk k op num name args,w,lb=>
  if k=1 then(JS Kz num,lb)
  else if k=2 then(MQ c name w,lb)
  else if k=3 then
   let a:=LM c args w lb
   (a.1++(JS Nh (c.gl name).num++JD [RP,Lf (c.QR name)]),a.2)
  else if k=4 then
   let a:=Lb c args w lb
   (a.1++(JD [OX,Mc (c.func name)]++(if args.isEmpty then []else JS Rj args.length)),a.2)
  else if k=5 then(JD [Vo],lb)
  else if k=6 then
   if op=1 then let a:=LM c args w lb;(a.1++JD [Ka],a.2)
   else let a:=LM c args (w+1) lb;(JS Kz (if op=3 then 4294967295 else 0)++(JD [KL]++(a.1++JD [Qz])),a.2)
  else if op=20 then
   let a:=LM c args w lb
   let b:=RL c args w (a.2+1)
   (a.1++(JD [Kb,JL (a.2+1)]++(b.1++(JD [Ka]++(JD [Ka]++JU (JL (a.2+1)))))),b.2)
  else if op=21 then
   let a:=LM c args w lb
   let b:=RL c args w (a.2+1)
   (a.1++(JD [Ka]++(JD [Kb,JL (a.2+1)]++(b.1++(JD [Ka]++(JU (JL (a.2+1))++JD [Ka]))))),b.2)
  else
   let a:=LM c args w lb
   let b:=RL c args (w+1) a.2
   (a.1++(JD [KL]++(b.1++(Lt op).flatMap fun s=>JD [s])),b.2)
def LM (c:Ke):List Ex→Nat→Nat→Bs×Nat
 |[],_,lb=>([],lb)
 |x::_,w,lb=>JW c x w lb
def RL (c:Ke):List Ex→Nat→Nat→Bs×Nat
 |[],_,lb=>([],lb)
 |_::l,w,lb=>LM c l w lb
def Lb (c:Ke):List Ex→Nat→Nat→Bs×Nat
 |[],_,lb=>([],lb)
 |x::l,w,lb=>
  let a:=JW c x w lb
  let b:=Lb c l (w+1) a.2
  (a.1++(JD [KL]++b.1),b.2)
end
mutual
def Li (c:Ke):Sm→Bs×Bs→Nat→Bs×Nat
 |.mk k name e body els,lp,lb=>
  if k=1 then
   let a:=LM c e 0 lb
   (a.1++(match c.slot name with|some i=>JS QQ (c.size - i)|none=>JD [RQ,Lf (c.QR name)]),a.2)
  else if k=2 then
   let a:=LM c e 0 lb
   let b:=RL c e 1 a.2
   (a.1++(JS Nh (c.gl name).num++(JD [KL]++(b.1++JD [RU,Lf (c.QR name)]))),b.2)
  else if k=3 then
   let a:=LM c e 0 (lb+1)
   let b:=KY c body lp a.2
   if els.isEmpty then(a.1++(JD [Kb,JL (lb+1)]++(b.1++JU (JL (lb+1)))),b.2)
   else
    let d:=KY c els lp (b.2+1)
    (a.1++(JD [Kb,JL (lb+1)]++(b.1++(JD [MN,JL (b.2+1)]++(JU (JL (lb+1))++(d.1++JU (JL (b.2+1))))))),d.2)
  else if k=4 then
   let a:=LM c e 0 (lb+2)
   let b:=KY c body (JL (lb+1),JL (lb+2)) a.2
   (JU (JL (lb+1))++(a.1++(JD [Kb,JL (lb+2)]++(b.1++(JD [MN,JL (lb+1)]++JU (JL (lb+2)))))),b.2)
  else if k=5 then
   let a:=Lb c e 0 lb
   (a.1++(JD [OX,Mc (c.func name)]++(if e.isEmpty then []else JS Rj e.length)),a.2)
  else if k=6 then let a:=LM c e 0 lb;(a.1++JS Od (c.JE.length+1),a.2)
  else if k=7 then let a:=LM c e 0 lb;(a.1++JD [Uf],a.2)
  else if k=8 then let a:=LM c e 0 lb;(a.1++JD [PR],a.2)
  else if k=9 then(JD [MN,lp.2],lb)
  else(JD [MN,lp.1],lb)
def KY (c:Ke):List Sm→Bs×Bs→Nat→Bs×Nat
 |[],_,lb=>([],lb)
 |x::l,lp,lb=>
  let a:=Li c x lp lb
  let b:=KY c l lp a.2
  (a.1++b.1,b.2)
end
def Oy (p:JQ)(i:Nat)(f:Fn)(lb:Nat):Bs×Nat:=
 let b:=KY ⟨p,f.params,f.JE⟩ f.body ([],[]) lb
 (JU (Mc i)++((if f.JE.isEmpty then []else JS Kz 0)++(f.JE.flatMap (fun _=>JD [KL])++(b.1++(JS Kz 0++JS Od (f.JE.length+1))))),b.2)
def Q3 (p:JQ):Nat→List Fn→Nat→Bs
 |_,[],_=>[]
 |i,f::l,lb=>let a:=Oy p i f lb;a.1++Q3 p (i+1) l a.2
def Me:Nat→List KJ→Bs
 |_,[]=>[]
 |i,g::l=>(if g.kind=1 then []else JU (Lf i)++(g.init.flatMap (JS Md)++JS MO (max g.num 1 - g.init.length)))++Me (i+1) l
def OY (p:JQ):Bs:=
 JD [Ug,Q0]++(JD [OX,Mc ((JR [109,97,105,110] (p.JY.map Fn.name)).getD 0)]++(JS Kz 0++(JD [PR]++(Q3 p 0 p.JY 0++(Me 0 p.globals++JU Q0)))))
mutual
def LY:Ex→Nat
 |.mk _ _ _ _ args=>1+Jz args
def Jz:List Ex→Nat
 |[]=>0
 |x::l=>LY x+Jz l
end
mutual
def OE:Sm→Nat
 |.mk _ _ a body els=>1+(Jz a+(Jv body+Jv els))
def Jv:List Sm→Nat
 |[]=>0
 |x::l=>OE x+Jv l
end
def QB (p:JQ):Nat:=100+((p.globals.map fun g=>if g.kind=2 then 1 else if g.kind=3 then g.num else 0).sum+(p.JY.map fun f=>60+30*Jv f.body).sum)
def Kg:Bs→Bs→List Bs
 |acc,[]=>[acc.reverse]
 |acc,c::b=>if c=10 then acc.reverse::Kg [] b else Kg (c::acc) b
def K8:Bs→Bs→List Bs
 |acc,[]=>if acc.isEmpty then []else [acc.reverse]
 |acc,c::a=>if c=32 then(if acc.isEmpty then K8 [] a else acc.reverse::K8 [] a)else K8 (c::acc) a
def Mk (s:Bs):Bool:=Si s&&A6 s.length 6
inductive WO where
 |none_|lab (s:Bs)|yX (s:Bs)|opN (s:Bs) (n:Nat)|opL (s l:Bs)
def Pp (s:Bs):Option WO:=match K8 [] s with
 |[]=>some .none_
 |[a]=>if(a.getLast?.getD 0)=58 then(if Mk a.dropLast then some (.lab a.dropLast)else none)else if Mk a then some (.yX a)else none
 |[a,b]=>if Mk a then(if Mk b then some (.opL a b)else match Ud b with
  |some n=>if b.all K4 then some (.opN a n)else none
  |none=>none)else none
 |_=>none
def Qg:List (Bs×Bool):=[(PR,false),(Kz,true),(YV,true),(RQ,true),(WN,true),(QQ,true),(RP,true),(RU,true),(KL,false),(Rj,true),([97,100,100],false),(Qz,false),([109,117,108],false),([100,105,118],false),([109,111,100],false),([97,110,100],false),([111,114],false),([120,111,114],false),([108,101,102,116],false),([114,105,103,104,116],false),([101,113],false),([108,101,115,115],false),([109,111,114,101],false),(Ka,false),(Nh,true),(MN,true),(Kb,true),(OX,true),(Od,true),(Vo,false),(Uf,false),(Ug,true)]
def Oq (s:Bs):List (Bs×Bool)→Nat→Option (Nat×Bool)
 |[],_=>none
 |x::l,i=>if LJ x.1 s then some (i,x.2)else Oq s l (i+1)
structure Sq where
 items:List (Nat×Option Bs)
 n:Nat
 J2:List (Bs×Nat)
def QS (a:Sq)(l:WO):Option Sq:=match l with
 |.none_=>some a
 |.lab s=>if Oc s (a.J2.map Ee)then none else some {a with J2:=(s,a.n)::a.J2}
 |.yX s=>match Oq s Qg 1 with
  |some (c,false)=>if A6 (a.n+1) 65536 then some {a with items:=(c,none)::a.items,n:=a.n+1}else none
  |_=>none
 |.opN s k=>
  if LJ s MO then(if A6 (a.n+k) 65536 then some {a with items:=BK k (0,none)++a.items,n:=a.n+k}else none)
  else if LJ s Md then(if A6 (a.n+1) 65536 then some {a with items:=(k,none)::a.items,n:=a.n+1}else none)
  else match Oq s Qg 1 with
   |some (c,true)=>if A6 (a.n+2) 65536 then some {a with items:=(k,none)::(c,none)::a.items,n:=a.n+2}else none
   |_=>none
 |.opL s t=>match Oq s Qg 1 with
  |some (c,true)=>if A6 (a.n+2) 65536 then some {a with items:=(0,some t)::(c,none)::a.items,n:=a.n+2}else none
  |_=>none
def Rk:Sq→List Bs→Option Sq
 |a,[]=>some a
 |a,s::c=>match Pp s with
  |none=>none
  |some l=>match QS a l with
   |none=>none
   |some b=>Rk b c
def Ml (s:Bs):List (Bs×Nat)→Option Nat
 |[]=>none
 |x::l=>if LJ x.1 s then some x.2 else Ml s l
def Oz (a:List (Bs×Nat)):List (Nat×Option Bs)→List Nat→Option (List Nat)
 |[],acc=>some acc
 |(n,none)::b,acc=>Oz a b (n::acc)
 |(n,some s)::b,acc=>match Ml s a with
  |none=>none
  |some k=>Oz a b ((n+k) %4294967296::acc)
def Vp (text:Bs):Option (List Nat):=if A6 text.length 400000&&text.all (fun c=>Be c.toNat 128)then match Rk ⟨[],0,[]⟩ (Kg [] text)with
 |none=>none
 |some a=>Oz a.J2 a.items []
 else none
end Pg

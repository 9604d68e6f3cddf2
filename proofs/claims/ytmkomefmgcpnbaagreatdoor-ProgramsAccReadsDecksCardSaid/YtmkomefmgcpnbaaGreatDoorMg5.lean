import Derived.Deep.RegionHeld3
import Derived.Deep.RegionHeld
import Derived.RegionTactic
import Derived.Below
import Derived.Laws.Rows
import Derived.Laws.Tables
import Derived.WalkKit
import Derived.Maps.AppendAt
import Derived.Deep.AppendLies
import Derived.Deep.Draws
import Derived.WalkSpells
import Derived.Lib.Hide
import Derived.KernelRfl
import Derived.Deep.QuietTactic
import Derived.BigQuiet
import Derived.Test.YtmkomefmgcpnbaaGreatDoorChecked
import Derived.Laws.EntriesVeiled
import Derived.Deep.DeepCutAuto
import Derived.Outline
import Derived.Laws.ResultCell
import Derived.Laws.CopyOwn
import Derived.Deep.RegionLaw
import Derived.Deep.CutBlock
import Derived.Test.YtmkomefmgcpnbaaGreatDoorMg1
import Derived.Shelf.Strconv.Itoa0
import Derived.Shelf.Strconv.Itoa1
import Derived.Shelf.LaysM
import Derived.Shelf.Strconv.Itoa2
import Derived.Shelf.Strconv.Itoa3
import Derived.Ground.MpProg
import Derived.Shelf.Pu.ParseUintPublic10
import Derived.Shelf.Strings.Search1
import Derived.Shelf.Strings.Search2
import Derived.Shelf.Strings.Search3
import Derived.Shelf.Small.Strs
import Derived.Shelf.GgClosure.StringsIndexFunc
import Derived.Ground.GgwProg
import Derived.Shelf.GgClosure.StringsIndexFuncTop
import Derived.Shelf.Strings.Prefix
import Derived.Shelf.Strings.Fields
import Derived.Shelf.Slices.Turned
import Derived.Ground.SlgnProg
import Derived.Test.YtmkomefmgcpnbaaGreatDoorProg
set_option linter.all false
set_option maxHeartbeats 12800000
set_option maxRecDepth 100000
namespace Go.Proofs.YtmkomefmgcpnbaaGreatDoor
open Go Go.Proofs Tryz Go.RowKit Pg
open _root_.Array renaming getElem?_eq_none→Ft,replicate→CD,getElem?_eq_some_iff→Ag,getElem?_setIfInBounds→BE,getElem?_toList→CP,length_toList→Ed
open _root_.Bool renaming and_eq_true→Ah,or_eq_false_iff→Gj,eq_iff_iff→Bl
open Go renaming Act→CY,Exit→EY,Oper→B5,Program→BR,Value→h,World→Y,undef→Ca,yielded→BW,Addr→Bi,Calls→As,Ending→BX,IntKind→Fv,Operand→CC,TypeDesc→DK,TypeId→AK,TypeInfo→Ij,bodyPost_ret→B1,callFunc→GS,execOp→CS,heap_alloc_new→Aj,maxLen→Bk,results_cell_row→FZ,results→El,run_loadVar_row→DI,run_underlying→Cq,setRow_heap→Bo,setRow_other→C7,typeInfo→Ih,wpList_plain→Em,wpList_store_row→CK,wpList→Dh,Deferred→GX,Edge→Ik
open Go.Code renaming region→FU
open Go.Departure renaming mixedOrders→Fu
open Go.Exit renaming panic→EM
open Go.Oper renaming wp→Cb
open Go.Region renaming Mode→Gi,binds→CB,free→EO,noSelect→DH,ready→Bw,wanted→AQ
open Go.Region.Mode renaming any→GG
open _root_.List renaming all_eq_true→A7,mem_cons→AH,eq_nil_of_length_eq_zero→BZ,getElem?_eq_getElem→Al,getElem?_map→Bh,length_nil→Av,map_cons→B7,map_nil→D2,map_toArray→EZ,mem_map→D4,set_cons_succ→Eo,set_cons_zero→En,drop_eq_getElem_cons→AR,drop_eq_nil_of_le→DM
open _root_.Nat renaming beq→Az,eq_of_beq_eq_true→Ap,lt_or_ge→Dg,eq_zero_or_pos→GW,le_refl→Aw,le_trans→AL,lt_of_lt_of_le→Ar,zero_add→BF
open Go.Addr renaming add→Fa
open Go.Builtin renaming append_→C8,append→Iq,firstCells→GR
open Go.Callee renaming builtin→GU,value→Jr
open Go.Ending renaming returned→Ak
open Go.Instr renaming loadAt→Ir,sureAddr→GQ
open Go.IntKind renaming i64→Ad,u32→Af
open Go.Lib renaming hid→D
open Go.Next renaming enter→I8,value→F5
open Go.Obj renaming cells→Ab
open Go.Op renaming call→Gy,load→IK
open Go.Result renaming andThen_ok→C3,ok→Ez
open Go.ResultVar renaming tmp→Jt
open Go.RowKit renaming Below→IL,Hid→AA
open Go.RowKit.Below renaming heap_alloc→Ig,heap_setCell→AY,mono→Jq,refl→GP
open Go.Sem renaming run_bind→Di,run_pure→D3
open Go.TypeDesc renaming array→DX,struct→DA
open Go.Value renaming agg→AN,bool→AE,int→V,ownBlock→CF,pointer→Ae,slice→J,tuple→AZ,string→Aa
open Go.World renaming block_lt_of_cell?→Bp
open _root_.Option renaming map_some→Gt
open _root_.Or renaming inl→AO,inr→AB
open _root_.UInt8 renaming toNat_lt→Fw
open Go.ByteArray renaming toList_eq→Br
section
variable {P:BR}{ops:Array B5}{Q:EY→CY→Y→Prop}{md:Gi}{S:Y→Prop}{F:List Nat}
def JX (P:BR)(md:Gi)(ops:Array B5)(Q:EY→CY→Y→Prop)(S:Y→Prop)(F:List Nat):Nat→Array Bool→CY→Y→Prop
 |0,listed,a,w=>Bw md ops listed=[]∧Q .normal a w
 |n+1,listed,a,w=>(Bw md ops listed=[]→Q .normal a w)∧
  ∀i∈Bw md ops listed,wpOp P ops Q i (fun b w'=>(i∉F→S w')∧JX P md ops Q S F n (listed.setIfInBounds i true) b w') a w
theorem JX.any:∀ (n:Nat)(listed:Array Bool)(a:CY)(w:Y),JX P md ops Q S F n listed a w→wpAny P md ops Q n listed a w
 |0,_,_,_,b=>b
 |n+1,_,_,_,b=>⟨b.1,fun i c=>wpOp_mono (fun d w' k=>JX.any n _ d w' k.2) (b.2 i c)⟩
def VN (md:Gi)(ops:Array B5)(F:List Nat)(i:Nat):Bool:=F.all fun j=>match ops[j]? with
 |some o=>o.after.any fun e=>CB md e&&Az e.on i
 |none=>true
theorem tQ {i:Nat}(a:VN md ops F i=true){j:Nat}(d:j∈F){o:B5}(f:ops[j]?= some o):∃ e∈o.after,CB md e=true∧e.on=i:=by
 unfold VN at a;rw [A7]at a;have h1:=a j d;rw [f]at h1;have c:(o.after.any fun e=>CB md e&&Az e.on i)=true:=h1;rw [←Array.any_toList,List.any_eq_true]at c;obtain⟨e,g,b⟩:=c;rw [Ah]at b;exact⟨e,by simpa using g,b.1,Ap b.2⟩
theorem JX.first {i:Nat}{oi:B5}{v:h}(x:ops[i]?= some oi)(A:∀ (j:Nat)(o:B5) cs b,ops[j]?= some o→o.op≠ .select cs b)
 (I:∀ c a w,Q (EM c) (a.put oi.dst v) w→Q (EM c) a w) (K:∀ j∈F,∀o,ops[j]?= some o→∃ e∈o.after,CB md e=true∧e.on=i):
 ∀(n:Nat) (listed:Array Bool) (a:CY) (w:Y),
  (∀j d,ops[j]?= some d→j≠i→listed.getD j true=false→(∀e∈d.after,CB md e=true→e.on≠i)→oi.apart ops d=true)→
  i∈Bw md ops listed→YieldsIf P ops S oi v a→S w→
  JX P md ops Q S F n (listed.setIfInBounds i true) (a.put oi.dst v) w→JX P md ops Q S F (n+1) listed a w:=by
 intro n
 induction n with
 |zero=>
  intro listed a w _ g hy m p;refine⟨fun l=>(by rw [l]at g;cases g),fun j s=>?_⟩;by_cases f:j=i
  ·subst f;exact hy.wpOp x m ⟨fun _=>m,p⟩
  ·have l:=ready_mono s f;rw [p.1]at l;cases l
 |succ n L=>
  intro listed a w B g hy m p;refine⟨fun l=>(by rw [l]at g;cases g),fun j s=>?_⟩;by_cases f:j=i
  ·subst f;exact hy.wpOp x m ⟨fun _=>m,p⟩
  ·have h1:=p.2 j (ready_mono s f);obtain⟨C,d,t,M⟩:=mem_ready.1 s;have D:∀ e∈d.after,CB md e=true→e.on≠i:=fun e y z heq=>by
    have r:=M e y z;have E:=(mem_ready.1 g).1;rw [heq]at r;rcases Dg i listed.size with q|q
    ·simp [q]at E r;rw [E]at r;cases r
    ·simp [Ft q]at r
   have N:j∉F:=fun O=>by
    obtain⟨e,y,z,heq⟩:=K j O d t;exact D e y z heq
   have R:=wpOp_putIf t (B j d t f C D) (fun cs b=>A i oi cs b x) (fun cs b=>A j d cs b t) I hy h1;have T:∀ k ok,ops[k]?= some ok→k≠i→(listed.setIfInBounds j true).getD k true=false→
    (∀e∈ok.after,CB md e=true→e.on≠i)→oi.apart ops ok=true:=fun k ok U W G X=>by
    refine B k ok U W ?_ X
    by_cases H:j=k
    ·subst H;exact C
    ·rw [getD_set_ne true H]at G;exact G
   refine wpOp_mono (fun Z w' u=>⟨u.2.1,L (listed.setIfInBounds j true) Z w' T (ready_mono g (Ne.symm f)) u.1 (u.2.1 N) ?_⟩) R;rw [Array.setIfInBounds_comm _ _ f];exact u.2.2
theorem JX.take {i:Nat}{oi:B5}{v:h}{n:Nat}{listed:Array Bool}{a:CY}{w:Y}(b:ops[i]?= some oi)
 (d:DH ops=true) (e:EO md ops listed i=true) (f:(Bw md ops listed).contains i=true) (g:VN md ops F i=true)
 (k:∀ c a w,Q (EM c) (a.put oi.dst v) w→Q (EM c) a w) (hy:YieldsIf P ops S oi v a) (l:S w)
 (m:JX P md ops Q S F n (listed.setIfInBounds i true) (a.put oi.dst v) w):JX P md ops Q S F (n+1) listed a w:=
 JX.first b (Region.noSelect_spec d) k (fun j p o q=>tQ g p q) n listed a w (Region.free_spec b e) (by simpa using f) hy l m
def Lm (P:BR)(md:Gi)(ops:Array B5)(Q:EY→CY→Y→Prop)(S:Y→Prop)(F:List Nat)(n:Nat)(listed:Array Bool)(a:CY)(w:Y)(rs:List Nat):Prop:=
 ∀i∈rs,wpOp P ops Q i (fun b w'=>(i∉F→S w')∧JX P md ops Q S F n (listed.setIfInBounds i true) b w') a w
theorem Lm.nil {n:Nat}{listed:Array Bool}{a:CY}{w:Y}:Lm P md ops Q S F n listed a w []:=fun _ b=>by cases b
theorem Lm.cons {n:Nat}{listed:Array Bool}{a:CY}{w:Y}{i:Nat}{o:B5}{rs:List Nat}(e:ops[i]?= some o)
 (f:∀ b:CY→Y→Prop,Shut (∀a w,(i∉F→S w)→((i∉F→S w)→JX P md ops Q S F n (listed.setIfInBounds i true) a w)→b a w)→if AQ o (BW ops a.tmps)=true then Cb P o a w b Q else b (a.put o.dst Ca) w)
 (g:Lm P md ops Q S F n listed a w rs):Lm P md ops Q S F n listed a w (i::rs):=fun j c=>by
 rcases AH.1 c with rfl|c
 ·exact wpOp_step e (fun b h=>f b (fun a w d k=>h a w ⟨d,k d⟩))
 ·exact g j c
theorem Nl {rs:List Nat}{n:Nat}{listed:Array Bool}{a:CY}{w:Y}(b:Bw md ops listed=rs)(c:rs≠[])
 (d:Lm P md ops Q S F n listed a w rs):JX P md ops Q S F (n+1) listed a w:=⟨fun e=>absurd (b▸e) c,b▸d⟩
theorem JX.done {listed:Array Bool}{a:CY}{w:Y}(b:Bw md ops listed=[])(c:Q .normal a w):∀ n,JX P md ops Q S F n listed a w
 |0=>⟨b,c⟩
 |_+1=>⟨fun _=>c,by rw [b];simp⟩
theorem Yy (S:Y→Prop)(F:List Nat){b:Nat}{a:CY}{w:Y}(c:P.follows Fu=true)
 (d:JX P GG ops Q S F ops.size (CD ops.size false) a w.drew):(FU b ops true).wp P Q a w:=
 wp_region_any c (JX.any _ _ _ _ d)
end
def Ext (w w':Y):Prop:=IL w.heap.size w w'
section
variable {w w' w'':Y}
theorem Ext.refl (w:Y):Ext w w:=GP _ _
theorem Ext.trans (a:Ext w w')(k:Ext w' w''):Ext w w'':=Below.trans a (Jq k a.size)
theorem Ext.drew (a:Ext w w'):Ext w w'.drew:=Below.drew a
theorem Ext.drewN (a:Ext w w')(n:Nat):Ext w (w'.drewN n):=⟨a.os,a.tape,a.output,a.size,a.block⟩
theorem Ext.alloc (a:Ext w w')(o:Obj):Ext w (w'.alloc o):=Below.alloc a a.size o
theorem Ext.setCell (a:Ext w w'){p:Bi}(b:w.heap.size≤p.block)(u:h):Ext w (w'.setCell p u):=Below.setCell a b u
theorem Ext.size (a:Ext w w'):w.heap.size≤w'.heap.size:=Below.size a
theorem Ext.cell (a:Ext w w'){p:Bi}{v:h}(hc:w.cell? p=some v):w'.cell? p=some v:=by
 have b:=Bp w p hc;exact(Below.cell a b).trans hc
end
def Ol (w:Y)(A:Option Bi)(xs:List h):Prop:=∀ i u,xs[i]?= some u→∃ a,A=some a∧w.cell? (a.add i)=some u
theorem Ol.ext {w w':Y}{A:Option Bi}{xs:List h}(b:Ol w A xs)(e:Ext w w'):Ol w' A xs:=by
 intro i x c;obtain⟨a,d,hc⟩:=b i x c;exact⟨a,d,e.cell hc⟩
theorem Ol.nil (w:Y)(A:Option Bi):Ol w A []:=by intro i u b;simp at b
def Sl (w:Y)(k:Fv)(A:Option Bi)(l:List Int):Prop:=Ol w A (l.map (V k))
theorem Sl.ext {w w':Y}{k:Fv}{A:Option Bi}{l:List Int}(a:Sl w k A l)(e:Ext w w'):Sl w' k A l:=Ol.ext a e
theorem Sl.one {w:Y}{k:Fv}{A:Option Bi}{l:List Int}(b:Sl w k A l){i:Nat}{x:Int}(c:l[i]?= some x):∃ a,A=some a∧w.cell? (a.add i)=some (V k x):=
 b i (V k x) (by rw [Bh,c];rfl)
theorem Sl.mk {w:Y}{k:Fv}{A:Option Bi}{l:List Int}(d:∀ i x,l[i]?= some x→∃ a,A=some a∧w.cell? (a.add i)=some (V k x)):Sl w k A l:=by
 intro i u b;rw [Bh]at b;cases c:l[i]? with
 |none=>rw [c]at b;cases b
 |some x=>rw [c]at b;cases b;exact d i x c
theorem Sl.at_ {w:Y}{k:Fv}{A:Option Bi}{l:List Int}(e:Sl w k A l){i:Nat}(c:i<l.length):
 ∃b o,A=some ⟨b,o,none⟩∧w.cell? ⟨b,o+i,none⟩=some (V k (l[i]?.getD 0)):=by
 rw [Al c];show ∃b o,A=some ⟨b,o,none⟩∧w.cell? ⟨b,o+i,none⟩=some (V k (l[i]'c))
 obtain⟨a,f,hc⟩:=e.one (Al c);obtain⟨m,g,d⟩:=e.one (Al (by omega:0<l.length));rw [f]at g;cases g;obtain⟨b,o,s⟩:=a;have j:s=none:=by
  cases s with
  |none=>rfl
  |some x=>simp [Fa,World.cell?]at d;split at d<;>simp at d
 subst j;refine⟨b,o,f,?_⟩;by_cases h:i=0
 ·subst h;simpa [Fa]using hc
 ·simpa [Fa,h]using hc
def Byt (l:List Int):Prop:=∀ x∈l,0≤x∧x<256
theorem XO {P:BR}(w:Y)(base:Nat)(t ty e:AK)(i:Ij)(z:h)(size bytes:Nat)(d:P.underlying t=some (.slice e))(f:P.info? e=some i)(x:i.zero=some z)
 (y:i.size=size) (B:i.bytes=bytes) (C:z.cells.size=size) (p:0<size)
 (v:h) (n:Nat) (xs:List h) (k:w.ownsRow base e size v n xs)
 (A:Option Bi) (m c:Nat) (news:List h) (q:Ol w A news) (r:news.length=m*size) (h1:∀ u∈news,u.oneCell'=true)
 (D:n+m≤Bk) (E:(n+m)*bytes≤140737488355328) (F:base≤w.heap.size):
 ∃b w',(C8 #[t,t] ty #[v,J A m c]).run P w=Ez b w'∧w'.ownsRow base e size b (n+m) (xs++news)∧w.grownBy w' v.ownBlock∧
  (b.ownBlock=v.ownBlock∨b.ownBlock=some w.heap.size):=by
 rcases A with _|s
 ·have G:news=[]:=by
   cases news with
   |nil=>rfl
   |cons u R=>obtain⟨a,l,_⟩:=q 0 u rfl;cases l
  subst G;have H:m=0:=by
   rcases GW m with o|o
   ·exact o
   ·simp only [Av]at r;have:=Nat.mul_pos o p;omega
  subst H;refine⟨v,w,?_,by simpa using k,⟨rfl,rfl,rfl,Aw _,fun _ _ _=>rfl⟩,AO rfl⟩;rcases k.2 with⟨rfl,rfl⟩|⟨g,cap,cur,rfl,_,_,I,_⟩
  ·simp [C8,Cq d,sizeOf,Ih,f,Builtin.lenOf,GR]
  ·simp [C8,Cq d,sizeOf,Ih,f,Builtin.lenOf,GR,I,storeCells]
 ·have K:∀ j u,news[j]?= some u→w.cell? (s.add j)=some u:=by
   intro j u L;obtain⟨a,l,hc⟩:=q j u L;cases l;exact hc
  obtain⟨b,w',M,N,O,_,Q⟩:=run_append_own_at (P:=P) w base t ty e i z size bytes d f x y B C p v n xs k s m c news r K h1 D E F;exact⟨b,w',M,N,O,Q⟩
theorem Lp {P:BR}{w:Y}{ops:Array B5}{rest:List B5}{o:B5}{a:CY}{Q:EY→CY→Y→Prop}(d:o.guard=none)(s x:CC)(t:AK)
 (f:o.op=Gy {callee:=GU Iq,args:= #[s,x],argTypes:= #[t,t]})
 (base:Nat) (e:AK) (i:Ij) (z:h) (size bytes:Nat) (g:P.underlying t=some (.slice e)) (j:P.info? e=some i) (k:i.zero=some z)
 (l:i.size=size) (p:i.bytes=bytes) (q:z.cells.size=size) (r:0<size)
 (v:h) (n:Nat) (xs:List h) (y:a.eval s=v) (B:w.ownsRow base e size v n xs)
 (A:Option Bi) (m c:Nat) (news:List h) (C:a.eval x=J A m c) (D:Ol w A news) (E:news.length=m*size) (h1:∀ u∈news,u.oneCell'=true)
 (F:n+m≤Bk) (G:(n+m)*bytes≤140737488355328) (H:base≤w.heap.size)
 (I:∀ b w',w'.ownsRow base e size b (n+m) (xs++news)→w.grownBy w' v.ownBlock→(b.ownBlock=v.ownBlock∨b.ownBlock=some w.heap.size)→Dh P ops Q rest (a.put o.dst b) w'):Dh P ops Q (o::rest) a w:=by
 refine Em d fun K L=>?_
 obtain⟨b,w',M,N,O,R⟩:=XO (P:=P) w base t o.type e i z size bytes g j k l p q r v n xs B A m c news D E h1 F G H;unfold Cb CS;simp only [f,resolve,invoke,builtin,Di,D3,C3,EZ,B7,D2,y,C,M];exact L _ _ (I b w' N O R)
theorem MI {P:BR}{w:Y}{ops:Array B5}{o:B5}{a:CY}{K:CY→Y→Prop}{Q:EY→CY→Y→Prop}{d:Prop}(f:o.guard=none)(s x:CC)(t:AK)
 (g:o.op=Gy {callee:=GU Iq,args:= #[s,x],argTypes:= #[t,t]})
 (base:Nat) (e:AK) (i:Ij) (z:h) (size bytes:Nat) (j:P.underlying t=some (.slice e)) (k:P.info? e=some i) (l:i.zero=some z)
 (p:i.size=size) (q:i.bytes=bytes) (r:z.cells.size=size) (y:0<size)
 (v:h) (n:Nat) (xs:List h) (B:a.eval s=v) (C:w.ownsRow base e size v n xs)
 (A:Option Bi) (m c:Nat) (news:List h) (D:a.eval x=J A m c) (E:Ol w A news) (F:news.length=m*size) (h1:∀ u∈news,u.oneCell'=true)
 (G:n+m≤Bk) (H:(n+m)*bytes≤140737488355328) (I:base≤w.heap.size)
 (L:∀ b w',w'.ownsRow base e size b (n+m) (xs++news)→w.grownBy w' v.ownBlock→(b.ownBlock=v.ownBlock∨b.ownBlock=some w.heap.size)→K (a.put o.dst b) w'):
 if AQ o (BW ops a.tmps)=true then Cb P o a w K Q else d:=by
 have M:AQ o (BW ops a.tmps)=true:=by simp [AQ,f]
 rw [if_pos M];obtain⟨b,w',N,O,R,S⟩:=XO (P:=P) w base t o.type e i z size bytes j k l p q r y v n xs C A m c news E F h1 G H I;unfold Cb CS;simp only [g,resolve,invoke,builtin,Di,D3,C3,EZ,B7,D2,B,D,N];exact L b w' O R S
theorem NQ {w:Y}{base:Nat}{e:AK}{v:h}{n:Nat}{xs:List h}(a:w.ownsRow base e 1 v n xs):∃ A c,v=J A n c∧n≤c∧c≤Bk∧(A=none→c=0)∧Ol w A xs:=by
 rcases a.2 with⟨rfl,rfl⟩|⟨g,cap,cur,rfl,i,k,b,d,_,l⟩
 ·refine⟨none,0,rfl,Aw _,by simp [Bk],fun _=>rfl,?_⟩;have:xs=[]:=BZ (by simpa using a.1);subst this;exact Ol.nil _ _
 ·exact⟨some ⟨g,0,none⟩,cap,rfl,b,d,(fun a=>by cases a),fun j u f=>⟨_,rfl,a.cells (g:=g) rfl j u f⟩⟩
theorem Kc {w:Y}{base:Nat}{e:AK}{size n:Nat}{v:h}{xs:List h}(a:w.ownsRow base e size v n xs){g:Nat}(b:v.ownBlock=some g):base≤g∧g<w.heap.size:=a.lt g b
theorem KX {w w':Y}{base:Nat}{e:AK}{size n:Nat}{v:h}{xs:List h}(a:w.ownsRow base e size v n xs)(b:∀ g,v.ownBlock=some g→w'.heap[g]?= w.heap[g]?):w'.ownsRow base e size v n xs:=by
 refine⟨a.1,?_⟩;rcases a.2 with c|⟨g,cap,cur,rfl,d,f,rest⟩
 ·exact AO c
 ·exact AB ⟨g,cap,cur,rfl,d,by rw [b g rfl];exact f,rest⟩
section
variable {w w' w1:Y}{bm:Nat}{cs:Array h}
theorem JJ {t:AK}(a:w.heap[bm]?= some (Ab cs t (0,0)))(i:Nat)(u:h):(w.setCell ⟨bm,i,none⟩ u).heap[bm]?= some (Ab (cs.setIfInBounds i u) t (0,0)):=by
 simp [World.setCell,Array.getElem?_modify,a]
theorem zN8 {i j:Nat}{u:h}:(cs.setIfInBounds i u)[j]?= if i=j then(if i<cs.size then some u else none)else cs[j]? :=by
 rw [BE]
structure za6 (w w1:Y) (bm:Nat) (e:AK) (v v':h) (n:Nat) (xs:List h):Prop where
 own:w1.ownsRow bm e 1 v' n xs
 grown:w.grownBy w1 v.ownBlock
 at_:v'.ownBlock=v.ownBlock∨∃ g,v'.ownBlock=some g∧w.heap.size≤g
end
theorem zN9 {a b:Bool}(c:a=b):Ak (AE a)=Ak (AE b):=by rw [c]
theorem za7 (c i:Int)(w:Y):
 As prog 15 #[V Ad c,V Ad i] w fun e w'=>e=Ak (AN #[V Ad c,V Ad i])∧w.alloc (Ab #[V Ad c,V Ad i] 26)=w':=by
 go_enter func15,ntmps15;go_wp2;exact B1 (v:=AN #[V Ad c,V Ad i]) (by simp [El,results15,go_sem]) rfl ⟨rfl,rfl⟩
def inB (n lo a:Int):Bool:=decide (lo≤n∧n≤a)
theorem Zq (n lo a:Int)(w:Y):
 As prog 28 #[V Ad n,V Ad lo,V Ad a] w fun e w'=>e=Ak (AE (inB n lo a))∧w=w':=by
 by_cases b:lo≤n
 all_goals go_enter func28,ntmps28
 all_goals go_wp2
 all_goals go_ret
 all_goals refine⟨zN9 ?_,rfl⟩
 all_goals simp [inB]
 all_goals omega
theorem info_parts {P:BR}{t:AK}{z:h}{a b:Nat}(c:(P.info? t).map (fun i=>(i.zero,i.size,i.bytes))=some (some z,a,b)):∃ i,P.info? t=some i∧i.zero=some z∧i.size=a∧i.bytes=b:=by
 cases d:P.info? t with
 |none=>rw [d]at c;cases c
 |some i=>
  rw [d]at c;simp only [Gt,Option.some.injEq,Prod.mk.injEq]at c;exact⟨i,rfl,c.1,c.2.1,c.2.2⟩
theorem yU4:(prog.info? 3).map (fun i=>(i.zero,i.size,i.bytes))=some (some (V Ad 0),1,8):=by kernel_rfl
def za8 (p:Int×Int):h:=AN #[V Ad p.1,V Ad p.2]
def oZ (w:Y)(p:Int×Int)(e:BX)(w':Y):Prop:=e=Ak (za8 p)∧Ext w w'
theorem oZ.mk {w w':Y}{p q:Int×Int}(a:q=p)(x:Ext w w'):oZ w p (Ak (za8 q)) w':=⟨by rw [a],x⟩
theorem Pk:(prog.info? 26).map (·.size)=some 2:=by kernel_rfl
theorem CE {w w':Y}(b:Ext w w'){g:Nat}{o:Obj}(a:w.heap[g]?= some o):w'.heap[g]?= some o:=by
 rw [b.block g (Ag.1 a).1];exact a
theorem JA {w:Y}{g:Nat}{cs:Array h}{t:AK}(a:w.heap[g]?= some (Ab cs t (0,0)))(i:Nat):w.cell? ⟨g,i,none⟩=cs[i]? :=cell_of_row w g i cs t (0,0) a
theorem bk {w:Y}{g:Nat}{cs:Array h}{t:AK}{v:h}(a:w.heap[g]?= some (Ab cs t (0,0)))(i:Nat)(b:cs[i]?= some v:=by rfl):w.cell? ⟨g,i,none⟩=some v:=(JA a i).trans b
theorem JF {w:Y}{g:Nat}{cs:Array h}{t:AK}(a:w.heap[g]?= some (Ab cs t (0,0)))(i:Nat):w.frozen? ⟨g,i,none⟩=false:=by simp [World.frozen?,a]
theorem Ol.base {w:Y}{A:Option Bi}{xs:List h}(c:Ol w A xs)(d:0<xs.length):∃ b o,A=some ⟨b,o,none⟩:=by
 obtain⟨a,e,hc⟩:=c 0 xs[0] (Al d);obtain⟨b,o,s⟩:=a;have f:s=none:=by
  cases s with
  |none=>rfl
  |some x=>simp [Fa,World.cell?]at hc;split at hc<;>simp at hc
 subst f;exact⟨b,o,e⟩
theorem MW (b o i:Nat):(⟨b,o,none⟩:Bi).add i=⟨b,o+i,none⟩:=by
 unfold Fa;split
 ·rename_i a;subst a;rfl
 ·rfl
structure xQ9 (w:Y) (g:Nat) (c i:Int):Prop where
 c0:w.cell? ⟨g,0,none⟩=some (V Ad c)
 c1:w.cell? ⟨g,1,none⟩=some (V Ad i)
 f0:w.frozen? ⟨g,0,none⟩=false
 f1:w.frozen? ⟨g,1,none⟩=false
theorem tT {P:BR}{fn:Func}{u q:Tmp}{a:AK}(g:fn.results= #[Jt u,.cell q a])(tmps:Array h)(w:Y)(b:Nat)(e:AK)(c:Array h)(f:Nat×Nat)(d:DK)
 (i:tmps.getD q Ca=Ae (some ⟨b,0,none⟩)) (j:w.heap[b]?= some (Ab c e f)) (k:P.underlying a=some d) (l:(match d with|DA _|DX _ _=>true|_=>false)=true) (m:(P.info? a).map (·.size)=some c.size):
 (El fn tmps).run P w=Ez (AZ #[tmps.getD u Ca,AN c]) w:=by
 have n:tmps[q]?.getD Ca=Ae (some ⟨b,0,none⟩):=by simpa using i
 simp [El,g,n,asAddr,DI w b e a c f d j k l m]
theorem YS {w1:Y}{g:Nat}{c i c' a:Int}(b:w1.heap[g]?= some (Ab #[V Ad c',V Ad a] 26 (0,0))):((w1.setCell ⟨g,0,none⟩ (V Ad c)).setCell ⟨g,1,none⟩ (V Ad i)).heap[g]?= some (Ab #[V Ad c,V Ad i] 26 (0,0)):=
 JJ (JJ b 0 _) 1 _
theorem dI {w1:Y}{g:Nat}{c i c' b:Int}(a:w1.heap[g]?= some (Ab #[V Ad c',V Ad b] 26 (0,0)))(o:Obj):(((w1.setCell ⟨g,0,none⟩ (V Ad c)).setCell ⟨g,1,none⟩ (V Ad i)).alloc o).heap[g]?= some (Ab #[V Ad c,V Ad i] 26 (0,0)):=by
 rw [Ig _ _ _ (by have:=(Ag.1 a).1;simpa using this)];exact YS a
theorem U9 {P:BR}{ops:Array B5}{rest:List B5}{o:B5}{a:CY}{w:Y}{Q:EY→CY→Y→Prop}(c:AQ o (BW ops a.tmps)=true)(ty:AK)(x:CC)(e:o.op=IK ty x)
 (g:Nat) (f:a.eval x=Ae (some ⟨g,0,none⟩)) (t:AK) (cs:Array h) (b:Nat×Nat) (d:DK) (i:w.heap[g]?= some (Ab cs t b))
 (j:P.underlying ty=some d) (k:(match d with|DA _|DX _ _=>true|_=>false)=true) (l:(P.info? ty).map (·.size)=some cs.size)
 (m:Dh P ops Q rest (a.put o.dst (AN cs)) w):Dh P ops Q (o::rest) a w:=by
 refine wpList_step fun K n=>?_
 rw [if_pos c];exact wp_load_row ty x e g f t cs b d i j k l (n _ _ m)
theorem RO {P:BR}{w:Y}(g o:Nat)(ty:AK)(d:DK)(xs:List h)(c:∀ i u,xs[i]?= some u→w.cell? ⟨g,o+i,none⟩=some u)
 (e:P.underlying ty=some d) (n:(match d with|DA _|DX _ _=>true|_=>false)=true) (b:(P.info? ty).map (·.size)=some xs.length):
 (loadVar ty ⟨g,o,none⟩).run P w=Ez (AN xs.toArray) w:=by
 have f:(loadCells ⟨g,o,none⟩ xs.length).run P w=Ez xs.toArray w:=
  run_loadCells_list (P:=P) w ⟨g,o,none⟩ xs (fun j v k=>by rw [MW];exact c j v k)
 cases a:P.info? ty with
 |none=>simp [a]at b
 |some i=>
  have l:i.size=xs.length:=by simpa [a]using b
  have m:(isAgg ty).run P w=Ez true w:=by
   unfold isAgg;rw [Di,Cq e w];cases d<;>simp_all
  simp [loadVar,Di,m,sizeOf,Ih,a,l,f]
theorem Pn {P:BR}{w:Y}{ops:Array B5}{rest:List B5}{o:B5}{a:CY}{Q:EY→CY→Y→Prop}(b:AQ o (BW ops a.tmps)=true)(ty:AK)(x:CC)(c:o.op=IK ty x)
 (g f:Nat) (e:a.eval x=Ae (some ⟨g,f,none⟩)) (d:DK) (xs:List h) (j:∀ i u,xs[i]?= some u→w.cell? ⟨g,f+i,none⟩=some u)
 (k:P.underlying ty=some d) (l:(match d with|DA _|DX _ _=>true|_=>false)=true) (m:(P.info? ty).map (·.size)=some xs.length)
 (n:Dh P ops Q rest (a.put o.dst (AN xs.toArray)) w):Dh P ops Q (o::rest) a w:=by
 refine wpList_step fun K p=>?_
 rw [if_pos b];unfold Cb CS;simp only [c,e,Ir,GQ,Di,D3,C3,RO g f ty d xs j k l m];exact p _ _ n
theorem zO1 {w w':Y}{base:Nat}{e:AK}{size n:Nat}{v:h}{xs:List h}(b:w.ownsRow base e size v n xs)(x:Ext w w'):w'.ownsRow base e size v n xs:=
 KX b fun g c=>x.block g (Kc b c).2
theorem K7 {w:Y}{base:Nat}{e:AK}{size:Nat}{v:h}{n:Nat}{xs:List h}(a:w.ownsRow base e size v n xs):∃ A c,v=J A n c∧n≤c∧c≤Bk∧(A=none→c=0)∧Ol w A xs:=by
 rcases a.2 with⟨rfl,rfl⟩|⟨g,cap,cur,rfl,i,k,b,d,_,l⟩
 ·refine⟨none,0,rfl,Aw _,by simp [Bk],fun _=>rfl,?_⟩;have:xs=[]:=BZ (by simpa using a.1);subst this;exact Ol.nil _ _
 ·exact⟨some ⟨g,0,none⟩,cap,rfl,b,d,(fun a=>by cases a),fun j u f=>⟨_,rfl,a.cells (g:=g) rfl j u f⟩⟩
theorem tV {P:BR}{fn:Func}{u q:Tmp}{a:AK}(g:fn.results= #[.cell q a,Jt u])(tmps:Array h)(w:Y)(b:Nat)(e:AK)(c:Array h)(f:Nat×Nat)(d:DK)
 (i:tmps.getD q Ca=Ae (some ⟨b,0,none⟩)) (j:w.heap[b]?= some (Ab c e f)) (k:P.underlying a=some d) (l:(match d with|DA _|DX _ _=>true|_=>false)=true) (m:(P.info? a).map (·.size)=some c.size):
 (El fn tmps).run P w=Ez (AZ #[AN c,tmps.getD u Ca]) w:=by
 have n:tmps[q]?.getD Ca=Ae (some ⟨b,0,none⟩):=by simpa using i
 simp [El,g,n,asAddr,DI w b e a c f d j k l m]
theorem RJ {W:Y}{g:Nat}{e:AK}(a:g=W.heap.size)(xs:List h):Ol (W.alloc (Ab xs.toArray e)) (some ⟨g,0,none⟩) xs:=by
 subst a;intro i u b;refine⟨_,rfl,?_⟩;rw [MW,BF,JA (Aj W _)];simpa using b
theorem ZB {w c d:Y}{row:Option Nat}(a:Ext w c)(b:c.grownBy d row)(h:∀ g,row=some g→w.heap.size≤g):Ext w d:=
 ⟨b.os.trans a.os,b.tape.trans a.tape,b.output.trans a.output,AL a.size b.size,fun k f=>(b.block k (Ar f a.size) (fun e=>by have:=h k e.symm;omega)).trans (a.block k f)⟩
section
variable {P:BR}{fn:Func}{R:BX→Y→Prop}{a:CY}{w:Y}{g:Nat}{t ty:AK}{cs:Array h}{d:DK}{n:Nat}{p u:Tmp}
theorem K3 (b:fn.results= #[.cell p ty])(c:P.underlying ty=some d)(e:(P.info? ty).map (·.size)=some n)(f:w.heap[g]?= some (Ab cs t (0,0)))(h:R (Ak (AN cs)) w)(i:a.tmps.getD p Ca=Ae (some ⟨g,0,none⟩):=by rfl)
 (j:(match d with|DA _|DX _ _=>true|_=>false)=true:=by rfl) (k:n=cs.size:=by rfl) (l:a.defers=[]:=by rfl):bodyPost P fn R .ret a w:=
 B1 (FZ b _ _ g t cs (0,0) _ i f c j (k▸e)) l h
theorem Ow (b:fn.results= #[.cell p ty,Jt u])(c:P.underlying ty=some d)(e:(P.info? ty).map (·.size)=some n)(f:w.heap[g]?= some (Ab cs t (0,0)))(h:R (Ak (AZ #[AN cs,a.tmps.getD u Ca])) w)(i:a.tmps.getD p Ca=Ae (some ⟨g,0,none⟩):=by rfl)
 (j:(match d with|DA _|DX _ _=>true|_=>false)=true:=by rfl) (k:n=cs.size:=by rfl) (l:a.defers=[]:=by rfl):bodyPost P fn R .ret a w:=
 B1 (tV b _ _ g t cs (0,0) _ i f c j (k▸e)) l h
theorem Rx (b:fn.results= #[Jt u,.cell p ty])(c:P.underlying ty=some d)(e:(P.info? ty).map (·.size)=some n)(f:w.heap[g]?= some (Ab cs t (0,0)))(h:R (Ak (AZ #[a.tmps.getD u Ca,AN cs])) w)(i:a.tmps.getD p Ca=Ae (some ⟨g,0,none⟩):=by rfl)
 (j:(match d with|DA _|DX _ _=>true|_=>false)=true:=by rfl) (k:n=cs.size:=by rfl) (l:a.defers=[]:=by rfl):bodyPost P fn R .ret a w:=
 B1 (tT b _ _ g t cs (0,0) _ i f c j (k▸e)) l h
theorem PO {old:Array h}{a:Nat×Nat}(b:w.heap[g]?= some (Ab old t a)):(w.setRow g cs).heap[g]?= some (Ab cs t a):=Bo _ _ _ _ _ _ b
end
section
variable {P:BR}{ops:Array B5}{rest:List B5}{o:B5}{a:CY}{w:Y}{Q:EY→CY→Y→Prop}{ty t:AK}{x y:CC}{g f:Nat}{cs old:Array h}{xs:List h}{d:DK}{n:Nat}
theorem Qx (b:o.op=IK ty x)(c:P.underlying ty=some d)(e:a.eval x=Ae (some ⟨g,0,none⟩))(f:w.heap[g]?= some (Ab cs t (0,0)))(h:(P.info? ty).map (·.size)=some n)(i:Dh P ops Q rest (a.put o.dst (AN cs)) w)
 (j:o.guard=none:=by rfl) (k:(match d with|DA _|DX _ _=>true|_=>false)=true:=by rfl) (l:n=cs.size:=by rfl):Dh P ops Q (o::rest) a w:=
 wpList_load_row j ty x b g e t cs (0,0) d f c k (l▸h) i
theorem LH (b:o.op=IK ty x)(c:P.underlying ty=some d)(e:a.eval x=Ae (some ⟨g,0,none⟩))(f:w.heap[g]?= some (Ab cs t (0,0)))(h:(P.info? ty).map (·.size)=some n)(i:Dh P ops Q rest (a.put o.dst (AN cs)) w)
 (j:AQ o (BW ops a.tmps)=true:=by rfl) (k:(match d with|DA _|DX _ _=>true|_=>false)=true:=by rfl) (l:n=cs.size:=by rfl):Dh P ops Q (o::rest) a w:=
 U9 j ty x b g e t cs (0,0) d f c k (l▸h) i
theorem KV (b:o.op=IK ty x)(c:P.underlying ty=some d)(e:a.eval x=Ae (some ⟨g,f,none⟩))(hc:∀ i u,xs[i]?= some u→w.cell? ⟨g,f+i,none⟩=some u)(h:(P.info? ty).map (·.size)=some n)(j:Dh P ops Q rest (a.put o.dst (AN xs.toArray)) w)
 (k:AQ o (BW ops a.tmps)=true:=by rfl) (l:(match d with|DA _|DX _ _=>true|_=>false)=true:=by rfl) (m:n=xs.length:=by rfl):Dh P ops Q (o::rest) a w:=
 Pn k ty x b g f e d xs hc c (by cases d<;>exact l) (m▸h) j
theorem L8 (b:o.op=.store ty x y)(c:a.eval x=Ae (some ⟨g,0,none⟩))(hy:a.eval y=AN cs)(d:w.heap[g]?= some (Ab old t (0,0)))(e:(P.info? ty).map (·.size)=some n)(f:Dh P ops Q rest (a.put o.dst Ca) (w.setRow g cs))
 (h:o.guard=none:=by rfl) (hold:old.size=cs.size:=by rfl) (i:n=cs.size:=by rfl) (h1:cs.all (·.oneCell')=true:=by simp [Value.oneCell']):Dh P ops Q (o::rest) a w:=
 CK h ty x y b g cs c hy t old d (i▸e) hold h1 f
end
theorem JH {α:Sort _}(a:α):∃ x,x=a:=⟨a,rfl⟩
theorem alw (w:Y)(o:Obj):∃ W,w.alloc o=W∧AA (Ext w W)∧AA (W.heap[w.heap.size]?= some o):=
 ⟨_,rfl,D ((Ext.refl w).alloc o),D (Aj w o)⟩
theorem pA {α:Type}(l:List α)(i:Nat)(x:α):l.toArray.setIfInBounds i x=(l.set i x).toArray:=List.setIfInBounds_toArray ..
theorem pB {α:Type}(a x:α)(l:List α):(a::l).set 0 x=x::l:=En
theorem pC {α:Type}(a x:α)(l:List α)(n:Nat):(a::l).set (n+1) x=a::l.set n x:=Eo
section
variable {P:BR}{ops:Array B5}{Q:EY→CY→Y→Prop}{md:Gi}{S:Y→Prop}{F:List Nat}{n:Nat}{listed:Array Bool}{a:CY}{w:Y}
theorem KM (i:Nat){d:Nat}{op:Op}{f:AK}{g:String}{j:Array Ik}{k:Option (Nat×Bool)}{v:h}{l:Array h}{m:List GX}(o:S w)(e:JX P md ops Q S F n (listed.setIfInBounds i true) ⟨l,m⟩ w)(p:ops[i]?= some ⟨some d,op,f,g,j,k⟩:=by rfl)
 (b:(DH ops&&EO md ops listed i&&(Bw md ops listed).contains i&&VN md ops F i)=true:=by kernel_rfl) (q:∀ c a w,Q (EM c) (a.put (some d) v) w→Q (EM c) a w:=by exact fun _ _ _ e=>e)
 (r:AQ ⟨some d,op,f,g,j,k⟩ (BW ops a.tmps)=true:=by rfl) (hy:∀ w,S w→(CS a.eval ⟨some d,op,f,g,j,k⟩).run P w=Ez (F5 v) w:=by(intro w s;(try dsimp only at s);go_simp;(try with_reducible rfl)))
 (t:a.put (some d) v=⟨l,m⟩:=by(simp only [Act.put,pA,pB,pC];rfl)):JX P md ops Q S F (n+1) listed a w:=by
 simp only [Ah]at b;rw [←t]at e;exact JX.take p b.1.1.1 b.1.1.2 b.1.2 b.2 q (AO ⟨r,hy⟩) o e
theorem TY (i:Nat){d:Nat}{op:Op}{b:AK}{e:String}{f:Array Ik}{g:Option (Nat×Bool)}{v:h}{k:Array h}{l:List GX}(m:S w)(j:JX P md ops Q S F n (listed.setIfInBounds i true) ⟨k,l⟩ w)(o:ops[i]?= some ⟨some d,op,b,e,f,g⟩:=by rfl)
 (p:(DH ops&&EO md ops listed i&&(Bw md ops listed).contains i&&VN md ops F i)=true:=by kernel_rfl) (q:∀ c a w,Q (EM c) (a.put (some d) v) w→Q (EM c) a w:=by exact fun _ _ _ j=>j)
 (r:AQ ⟨some d,op,b,e,f,g⟩ (BW ops a.tmps)=true:=by rfl) (hy:∀ w,S w→(CS a.eval ⟨some d,op,b,e,f,g⟩).run P w=Ez (F5 v) w:=by(intro w t;go_simp;(try rw [if_neg (by(try simp only [ByteArray.size_append,KO]);omega)]);(try with_reducible rfl)))
 (s:a.put (some d) v=⟨k,l⟩:=by(simp only [Act.put,pA,pB,pC];rfl)):JX P md ops Q S F (n+1) listed a w:=
 KM i m j o p q r hy s
theorem QM {l:Y→Prop}(i:Nat){d:Nat}{op:Op}{b:AK}{e:String}{f:Array Ik}{g:Option (Nat×Bool)}{v:h}{m:Array h}{o:List GX}(p:S w)(r:∀ w,S w→l w)(j:JX P md ops Q S F n (listed.setIfInBounds i true) ⟨m,o⟩ w)(s:ops[i]?= some ⟨some d,op,b,e,f,g⟩:=by rfl)
 (t:(DH ops&&EO md ops listed i&&(Bw md ops listed).contains i&&VN md ops F i)=true:=by kernel_rfl) (u:∀ c a w,Q (EM c) (a.put (some d) v) w→Q (EM c) a w:=by exact fun _ _ _ j=>j)
 (x:AQ ⟨some d,op,b,e,f,g⟩ (BW ops a.tmps)=true:=by rfl) (hy:∀ w,l w→(CS a.eval ⟨some d,op,b,e,f,g⟩).run P w=Ez (F5 v) w:=by(intro w q;go_simp;(try with_reducible rfl)))
 (y:a.put (some d) v=⟨m,o⟩:=by(simp only [Act.put,pA,pB,pC];rfl)):JX P md ops Q S F (n+1) listed a w:=
 KM i p j s t u x (fun w k=>hy w (r w k)) y
theorem JX.rd (i:Nat){b:Option Tmp}{c:Op}{d:AK}{e:String}{f:Array Ik}{g:Option (Nat×Bool)}(j:∀ h:CY→Y→Prop,AA (∀a w,S w→(S w→JX P md ops Q S F n (listed.setIfInBounds i true) a w)→h a w)→if AQ ⟨b,c,d,e,f,g⟩ (BW ops a.tmps)=true then Cb P ⟨b,c,d,e,f,g⟩ a w h Q else h (a.put b Ca) w)
 (k:Bw md ops listed=[i]:=by kernel_rfl) (l:F.contains i=false:=by rfl) (m:ops[i]?= some ⟨b,c,d,e,f,g⟩:=by rfl):JX P md ops Q S F (n+1) listed a w:=by
 have o:i∉F:=by simpa using l
 refine Nl k (by simp) (Lm.cons m (fun K p=>j K (D fun a w r s=>p a w (fun _=>r) (fun q=>s (q o)))) Lm.nil)
theorem QN (i:Nat){b:Option Tmp}{c:Op}{d:AK}{e:String}{f:Array Ik}{g:Option (Nat×Bool)}(j:∀ h:CY→Y→Prop,AA (∀a w,JX P md ops Q S F n (listed.setIfInBounds i true) a w→h a w)→if AQ ⟨b,c,d,e,f,g⟩ (BW ops a.tmps)=true then Cb P ⟨b,c,d,e,f,g⟩ a w h Q else h (a.put b Ca) w)
 (k:Bw md ops listed=[i]:=by kernel_rfl) (l:F.contains i=true:=by rfl) (m:ops[i]?= some ⟨b,c,d,e,f,g⟩:=by rfl):JX P md ops Q S F (n+1) listed a w:=by
 have o:i∈F:=by simpa using l
 exact Nl k (by simp) (Lm.cons m (fun K p=>j K (D fun a w r=>p a w (fun q=>absurd o q) (fun _=>r))) Lm.nil)
theorem JC {i:Nat}{d:Nat}{op:Op}{b:AK}{e:String}{f:Array Ik}{g:Option (Nat×Bool)}{v:h}{k:Array h}{l:List GX}(m:S w)(j:JX P md ops Q S F n (listed.setIfInBounds i true) ⟨k,l⟩ w)(u:ops.size=i+(n+1):=by(simp only [List.size_toArray,List.length_cons,List.length_nil];rfl))(o:ops[i]?= some ⟨some d,op,b,e,f,g⟩:=by rfl)
 (p:(DH ops&&EO md ops listed i&&(Bw md ops listed).contains i&&VN md ops F i)=true:=by kernel_rfl) (q:∀ c a w,Q (EM c) (a.put (some d) v) w→Q (EM c) a w:=by exact fun _ _ _ j=>j)
 (r:AQ ⟨some d,op,b,e,f,g⟩ (BW ops a.tmps)=true:=by rfl) (hy:∀ w,S w→(CS a.eval ⟨some d,op,b,e,f,g⟩).run P w=Ez (F5 v) w:=by(intro w s;(try dsimp only at s);go_simp;(try with_reducible rfl)))
 (t:a.put (some d) v=⟨k,l⟩:=by(simp only [Act.put,pA,pB,pC];rfl)):JX P md ops Q S F (n+1) listed a w:=
 KM i m j o p q r hy t
theorem Mq {i:Nat}{d:Nat}{op:Op}{b:AK}{e:String}{f:Array Ik}{g:Option (Nat×Bool)}{v:h}{k:Array h}{l:List GX}(m:S w)(j:JX P md ops Q S F n (listed.setIfInBounds i true) ⟨k,l⟩ w)(t:ops.size=i+(n+1):=by(simp only [List.size_toArray,List.length_cons,List.length_nil];rfl))(o:ops[i]?= some ⟨some d,op,b,e,f,g⟩:=by rfl)
 (p:(DH ops&&EO md ops listed i&&(Bw md ops listed).contains i&&VN md ops F i)=true:=by kernel_rfl) (q:∀ c a w,Q (EM c) (a.put (some d) v) w→Q (EM c) a w:=by exact fun _ _ _ j=>j)
 (r:AQ ⟨some d,op,b,e,f,g⟩ (BW ops a.tmps)=true:=by rfl) (hy:∀ w,S w→(CS a.eval ⟨some d,op,b,e,f,g⟩).run P w=Ez (F5 v) w:=by(intro w u;go_simp;(try rw [if_neg (by(try simp only [ByteArray.size_append,KO]);omega)]);(try with_reducible rfl)))
 (s:a.put (some d) v=⟨k,l⟩:=by(simp only [Act.put,pA,pB,pC];rfl)):JX P md ops Q S F (n+1) listed a w:=
 TY i m j o p q r hy s
theorem JP {k:Y→Prop}{i:Nat}{d:Nat}{op:Op}{b:AK}{e:String}{f:Array Ik}{g:Option (Nat×Bool)}{v:h}{l:Array h}{m:List GX}(o:S w)(p:∀ w,S w→k w)(j:JX P md ops Q S F n (listed.setIfInBounds i true) ⟨l,m⟩ w)(y:ops.size=i+(n+1):=by(simp only [List.size_toArray,List.length_cons,List.length_nil];rfl))(r:ops[i]?= some ⟨some d,op,b,e,f,g⟩:=by rfl)
 (s:(DH ops&&EO md ops listed i&&(Bw md ops listed).contains i&&VN md ops F i)=true:=by kernel_rfl) (t:∀ c a w,Q (EM c) (a.put (some d) v) w→Q (EM c) a w:=by exact fun _ _ _ j=>j)
 (u:AQ ⟨some d,op,b,e,f,g⟩ (BW ops a.tmps)=true:=by rfl) (hy:∀ w,k w→(CS a.eval ⟨some d,op,b,e,f,g⟩).run P w=Ez (F5 v) w:=by(intro w q;go_simp;(try with_reducible rfl)))
 (x:a.put (some d) v=⟨l,m⟩:=by(simp only [Act.put,pA,pB,pC];rfl)):JX P md ops Q S F (n+1) listed a w:=
 QM i o p j r s t u hy x
theorem JM {i:Nat}{b:Option Tmp}{c:Op}{d:AK}{e:String}{f:Array Ik}{g:Option (Nat×Bool)}(j:∀ h:CY→Y→Prop,AA (∀a w,S w→(S w→JX P md ops Q S F n (listed.setIfInBounds i true) a w)→h a w)→if AQ ⟨b,c,d,e,f,g⟩ (BW ops a.tmps)=true then Cb P ⟨b,c,d,e,f,g⟩ a w h Q else h (a.put b Ca) w)
 (o:ops.size=i+(n+1):=by(simp only [List.size_toArray,List.length_cons,List.length_nil];rfl)) (k:Bw md ops listed=[i]:=by kernel_rfl) (l:F.contains i=false:=by rfl) (m:ops[i]?= some ⟨b,c,d,e,f,g⟩:=by rfl):JX P md ops Q S F (n+1) listed a w:=
 JX.rd i j k l m
theorem JX.fn {i:Nat}{b:Option Tmp}{c:Op}{d:AK}{e:String}{f:Array Ik}{g:Option (Nat×Bool)}(j:∀ h:CY→Y→Prop,AA (∀a w,JX P md ops Q S F n (listed.setIfInBounds i true) a w→h a w)→if AQ ⟨b,c,d,e,f,g⟩ (BW ops a.tmps)=true then Cb P ⟨b,c,d,e,f,g⟩ a w h Q else h (a.put b Ca) w)
 (o:ops.size=i+(n+1):=by(simp only [List.size_toArray,List.length_cons,List.length_nil];rfl)) (k:Bw md ops listed=[i]:=by kernel_rfl) (l:F.contains i=true:=by rfl) (m:ops[i]?= some ⟨b,c,d,e,f,g⟩:=by rfl):JX P md ops Q S F (n+1) listed a w:=
 QN i j k l m
theorem JV (b:Q .normal a w)(c:Bw md ops listed=[]:=by kernel_rfl):JX P md ops Q S F n listed a w:=JX.done c b n
theorem JX.go (S:Y→Prop)(F:List Nat){b:Nat}(c:S w.drew)(d:S w.drew→JX P GG ops Q S F ops.size (CD ops.size false) a w.drew)(e:P.follows Fu=true:=by kernel_rfl):(FU b ops true).wp P Q a w:=Yy S F e (d c)
end
theorem NR {W:Y}{o:Obj}{k:Nat}(a:k=W.heap.size):(W.alloc o).heap[k]?= some o:=by subst a;exact Aj W o
theorem MX {W:Y}{o q:Obj}{k:Nat}(a:W.heap[k]?= some o):(W.alloc q).heap[k]?= some o:=CE ((Ext.refl W).alloc q) a
abbrev bs (S:ByteArray):Bs:=S.data.toList
theorem VC (S:ByteArray):(bs S).length=S.size:=Ed
theorem jP {S:ByteArray}{n:Nat}(a:n<S.size):(bs S).drop n=S[n]::(bs S).drop (n+1):=by
 have b:n<(bs S).length:=by rw [VC];exact a
 rw [AR b];rfl
theorem YW {S:ByteArray}{n:Nat}(b:¬ n<S.size):(bs S).drop n=[]:=DM (by rw [VC];omega)
theorem og {S:ByteArray}{n:Nat}(a:n<S.size):∃ c:Nat,c<256∧((S[n]'a).toNat:Int)=c∧(S[n]'a).toNat=c:=⟨_,Fw _,rfl,rfl⟩
def Ret (v:h)(w:Y)(e:BX)(w':Y):Prop:=e=Ak v∧w'=w
theorem tY {w:Y}{a b:Int}(c:a=b):Ret (V Ad b) w (Ak (V Ad a)) w:=by rw [c];exact⟨rfl,rfl⟩
def Pq (b:Bool)(c:UInt8):Bool:=K4 c||(b&&OC c)
theorem zH9 (S:ByteArray)(at_:Nat)(b:Bool)(w:Y)(k:at_≤S.size)(l:S.size≤100000):
 As prog 78 #[Aa S,V Ad at_,AE b] w (Ret (V Ad ((Mx (Pq b) ((bs S).drop at_):Nat):Int)) w):=by
 go_enter func78,ntmps78;go_wp2
 go_loop [7] (fun s=>∃ n:Nat,s=V Ad n∧at_≤n∧n≤S.size∧AA (Mx (Pq b) ((bs S).drop at_)=(n - at_)+Mx (Pq b) ((bs S).drop n))) (fun s=>S.size - (intOf s).toNat)
 case atStart=>exact⟨at_,rfl,by omega,k,D (by simp)⟩
 case round=>
  obtain⟨n,rfl,m,o,e⟩:=hrel;by_cases a:n<S.size
  ·obtain⟨c,p,hc,f⟩:=og a;have d:=D (jP a);have g:AA (Pq b (S[n]'a)=(decide (48≤c)&&decide (c≤57)||(b&&(decide (97≤c)&&decide (c≤122))))):=D (by
    unfold Pq K4 OC
    rw [f])
   clear f;by_cases h1:48≤c<;>by_cases h:c≤57<;>by_cases i:97≤c<;>by_cases j:c≤122<;>cases b
   all_goals first|(exfalso;omega)|skip
   all_goals go_wp2
   all_goals first
    |(go_ret
      refine tY ?_
      rw [e,d,Mx,g]
      simp [h1,h,i,j]
      omega)
    |(go_round
      case rel=>exact⟨n+1,rfl,by omega,by omega,D (by rw [e,d,Mx,g];simp [h1,h,i,j];omega)⟩
      case measure=>simp [intOf];omega)
  ·have d:=D (YW a);go_wp2;go_ret;refine tY ?_
   rw [e,d,Mx];omega
abbrev str (l:Bs):ByteArray:=⟨l.toArray⟩
theorem VD (S:ByteArray):str (bs S)=S:=by simp [str,bs]
theorem L6 (l:Bs):bs (str l)=l:=by simp [str,bs]
theorem KO (l:Bs):(str l).size=l.length:=by simp [str,ByteArray.size]
theorem str_inj {a b:Bs}(c:str a=str b):a=b:=by rw [←L6 a,←L6 b,c]
theorem zb1 (a b:Bs):((str a).toList==(str b).toList)=LJ a b:=by
 rw [Br,Br,Bl,Ko];simp [str]
structure JK (G:Nat→Prop) (w w':Y):Prop where
 os:w'.os=w.os
 tape:w'.tape=w.tape
 output:w'.output=w.output
 size:w.heap.size≤w'.heap.size
 block:∀ k,k<w.heap.size→¬ G k→w'.heap[k]?= w.heap[k]?
section
variable {G G':Nat→Prop}{w w' w'':Y}
theorem JK.refl (w:Y):JK G w w:=⟨rfl,rfl,rfl,Aw _,fun _ _ _=>rfl⟩
theorem Gl (a:Ext w w'):JK G w w':=⟨a.os,a.tape,a.output,a.size,fun k b _=>a.block k b⟩
theorem JK.trans (a:JK G w w')(k:JK G w' w''):JK G w w'':=
 ⟨k.os.trans a.os,k.tape.trans a.tape,k.output.trans a.output,AL a.size k.size,fun j b c=>(k.block j (Ar b a.size) c).trans (a.block j b c)⟩
theorem JK.mono (a:JK G w w')(c:∀ k,k<w.heap.size→G k→G' k):JK G' w w':=⟨a.os,a.tape,a.output,a.size,fun k b d=>a.block k b fun q=>d (c k b q)⟩
theorem JK.ext (a:JK G w w')(c:∀ k,k<w.heap.size→¬ G k):Ext w w':=⟨a.os,a.tape,a.output,a.size,fun k b=>a.block k b (c k b)⟩
theorem JK.alloc (a:JK G w w')(o:Obj):JK G w (w'.alloc o):=a.trans (Gl ((Ext.refl w').alloc o))
theorem JK.drew (a:JK G w w'):JK G w w'.drew:=a.trans (Gl ((Ext.refl w').drew))
theorem QT {P:BR}{ops:Array B5}{Q:EY→CY→Y→Prop}{a:CY}(G:Nat→Prop)(F:List Nat){b:Nat}(c:JK G w w.drew→JX P GG ops Q (JK G w) F ops.size (CD ops.size false) a w.drew)(d:P.follows Fu=true:=by kernel_rfl):(FU b ops true).wp P Q a w:=JX.go (JK G w) F (JK.refl w).drew c d
theorem JK.setCell (a:JK G w w'){p:Bi}(b:w.heap.size≤p.block∨G p.block)(u:h):JK G w (w'.setCell p u):=by
 refine⟨a.os,a.tape,a.output,by simpa using a.size,fun k d c=>?_⟩;have e:k≠p.block:=fun q=>b.elim (fun b=>by omega) (fun b=>c (by rw [q];exact b))
 rw [AY _ _ _ _ e];exact a.block k d c
theorem JK.setRow (a:JK G w w'){g:Nat}(b:w.heap.size≤g∨G g)(c:Array h):JK G w (w'.setRow g c):=by
 refine⟨a.os,a.tape,a.output,by simpa using a.size,fun k e d=>?_⟩;have f:k≠g:=fun q=>b.elim (fun b=>by omega) (fun b=>d (by rw [q];exact b))
 rw [C7 _ _ _ _ f];exact a.block k e d
theorem JK.grown (a:JK G w w'){row:Option Nat}(b:w'.grownBy w'' row)(f:∀ g,row=some g→w.heap.size≤g∨G g):JK G w w'':=
 ⟨b.os.trans a.os,b.tape.trans a.tape,b.output.trans a.output,AL a.size b.size,fun k c d=>(b.block k (Ar c a.size) (fun e=>(f k e.symm).elim (fun q=>by omega) d)).trans (a.block k c d)⟩
theorem JK.heap (b:JK G w w'){k:Nat}{o:Obj}(a:w.heap[k]?= some o)(c:¬ G k):w'.heap[k]?= some o:=(b.block k (Ag.1 a).1 c).trans a
theorem JK.cell (a:JK G w w'){p:Bi}{v:h}(hc:w.cell? p=some v)(b:¬ G p.block):w'.cell? p=some v:=
 (World.cell?_of_block (a.block _ (Bp w p hc) b)).trans hc
end
theorem Ext.setRow {w w':Y}(a:Ext w w'){g:Nat}(b:w.heap.size≤g)(c:Array h):Ext w (w'.setRow g c):=(JK.setRow (G:=fun _=>False) (Gl a) (AO b) c).ext (fun _ _ q=>q)
def psC (S:ByteArray)(p:PS):Array h:= #[Aa S,V Ad p.tok.kind,Aa (str p.tok.text),V Af p.tok.num,V Ad p.tok.pos,V Ad p.off]
structure jQ (w:Y) (g:Nat) (S:ByteArray) (p:PS):Prop where
 b:w.heap[g]?= some (Ab (psC S p) 87 (0,0))
 r:p.rest=(bs S).drop p.off
 o:p.off≤S.size
 q:p.tok.pos≤S.size
theorem jQ.upd {w w':Y}{g:Nat}{S:ByteArray}{p:PS}{G:Nat→Prop}(a:jQ w g S p)(u:JK G w w')(c:¬ G g):jQ w' g S p:=⟨u.heap a.b c,a.r,a.o,a.q⟩
theorem jQ.ext {w w':Y}{g:Nat}{S:ByteArray}{p:PS}(a:jQ w g S p)(u:Ext w w'):jQ w' g S p:=⟨CE u a.b,a.r,a.o,a.q⟩
theorem zI0 (g:Nat)(S:ByteArray)(p:PS)(s:Bs)(w:Y)(a:jQ w g S p):
 As prog 86 #[Ae (some ⟨g,0,none⟩),Aa (str s)] w (Ret (AE (JZ s p)) w):=by
 have c1:w.cell? ⟨g,1,none⟩=some (V Ad p.tok.kind):=JA a.b 1;have i:w.cell? ⟨g,2,none⟩=some (Aa (str p.tok.text)):=JA a.b 2;have c:AA (((str p.tok.text).toList==(str s).toList)=LJ p.tok.text s):=D (zb1 _ _);have d:AA (JZ s p=((decide (p.tok.kind=3)||decide (p.tok.kind=1))&&LJ p.tok.text s)):=D (by
  unfold JZ
  congr 2
  ·rw [Bl];simp
  ·rw [Bl];simp)
 clear a;generalize p.tok.kind=k at*
 obtain⟨A,e⟩:=JH (str p.tok.text);obtain⟨j,f⟩:=JH (str s);rw [←e]at i;rw [←e,←f]at c;rw [←f];clear e f;by_cases h:k=3
 ·subst h;go_enter func86,ntmps86;go_wp2;go_ret;refine⟨?_,rfl⟩;rw [d,←c];simp
 ·by_cases h1:k=1
  ·subst h1;go_enter func86,ntmps86;go_wp2;go_ret;refine⟨?_,rfl⟩;rw [d,←c];simp
  ·have l:((k:Int)==3)=false:=by simp;omega
   have m:((k:Int)==1)=false:=by simp;omega
   go_enter func86,ntmps86;go_wp2;go_ret;refine⟨?_,rfl⟩;rw [d];simp [h,h1]
end Go.Proofs.YtmkomefmgcpnbaaGreatDoor
namespace Go.Proofs
open _root_.ByteArray renaming empty→Fh
open Go renaming Calls→As,Value→h,World→Y,callFunc→GS
open Go.Ending renaming returned→Ak
open Go.IntKind renaming i64→Ad,u64→Jc,u8→BJ
open Go.Lib renaming TabIs→Jm,decDigits→Df,fields→F6,hasPrefix→Fe,idxOfS→Iz,indexByte→Ck,nDigits→Ej,parseUintB→GY
open Go.Next renaming enter→I8
open Go.Obj renaming cells→Ab
open Go.Proofs.Tryz renaming func167→Ix,func168→Iy,func169→It,func215→Iw,func216→Is,func217→Iu,isAgg0→Du,isAgg161→Fc,isAgg20→GH,isAgg21→GI,isAgg23→E2,isAgg24→Ep,isAgg271→Ea,isAgg340→H7,isAgg34→Fy,isAgg3→Cy,isAgg4→Cm,isAgg5→DC,isAgg9→Cz,sizeOf0→C9,sizeOf161→EP,sizeOf163→Jh,sizeOf187→Ji,sizeOf20→Gc,sizeOf21→Gb,sizeOf223→Jb,sizeOf23→ED,sizeOf24→DR,sizeOf271→DV,sizeOf275→Jd,sizeOf278→Jf,sizeOf340→G7,sizeOf341→Je,sizeOf34→Fb,sizeOf399→Jg,sizeOf3→Cg,sizeOf400→Ja,sizeOf4→Cc,sizeOf5→Da,sizeOf9→Ci,underlying0→Cf,underlying161→DU,underlying163→Hb,underlying187→Fo,underlying20→EK,underlying21→EL,underlying223→G6,underlying23→B8,underlying24→Ch,underlying271→Db,underlying275→Fm,underlying278→G8,underlying2→Il,underlying340→Fl,underlying341→G9,underlying34→Bu,underlying399→Ha,underlying3→Bq,underlying400→GZ,underlying4→By,underlying5→B2,underlying9→A8,zeroValue0→Cp,zeroValue161→D5,zeroValue163→Hm,zeroValue187→Hr,zeroValue20→E1,zeroValue21→E0,zeroValue223→Hn,zeroValue23→DT,zeroValue24→Dx,zeroValue271→Dk,zeroValue275→Hp,zeroValue278→Ho,zeroValue2→IM,zeroValue340→Fx,zeroValue34→Ef,zeroValue399→Hl,zeroValue3→BI,zeroValue400→Hq,zeroValue4→BH,zeroValue5→CI,zeroValue9→BO
open Go.Result renaming ok→Ez
open Go.RowKit renaming Below→IL
open Go.Shelf renaming Ren→B6
open Go.Value renaming bool→AE,func→ER,int→V,slice→J,string→Aa,tuple→AZ
open Go.Shelf
def Zx:B6:=⟨fun|137=>85|217=>128|266=>172|n=>n,fun|9=>9|5=>5|3=>3|n=>n,fun|n=>n⟩
theorem mW:Go.Proofs.Lays.n137 Tryz.prog Zx:={
 mixed:=by kernel_rfl
 f137:=Tryz.func85.trans (congrArg some (by kernel_rfl))
 f217:=Tryz.func128.trans (congrArg some (by kernel_rfl))
 f266:=Tryz.func172.trans (congrArg some (by kernel_rfl))
 t3:=Bq
 a3:=Cy
 z3:=Cg
 v3:=BI
 t5:=B2
 a5:=DC
 z5:=Da
 v5:=CI
 t9:=A8
 a9:=Cz
 z9:=Ci
 v9:=BO}
open Go.RowKit in
theorem Tryz.strings_IndexByte (s:ByteArray)(c:Int)(w:Y):
 As Tryz.prog 85 #[Aa s,V BJ c] w fun e w'=>e=Ak (V Ad (Ck s.data.toList c.toNat.toUInt8))∧w'=w:=Any.strings_IndexByte mW s c w
def Zy:B6:=⟨fun|283=>167|n=>n,fun|3=>3|9=>9|4=>4|n=>n,fun|n=>n⟩
theorem mX:Go.Proofs.Lays.n283 Tryz.prog Zy:={
 mixed:=by kernel_rfl
 f283:=Ix.trans (congrArg some (by kernel_rfl))
 t3:=Bq
 a3:=Cy
 z3:=Cg
 v3:=BI
 t4:=By
 a4:=Cm
 z4:=Cc
 v4:=BH
 t9:=A8
 a9:=Cz
 z9:=Ci
 v9:=BO}
open Go.Lib in
theorem Tryz.internal_strconv_small (i:Nat)(a:i<100)(w:Y):
 As Tryz.prog 167 #[V Ad i] w fun e w'=>e=Ak (Aa ⟨(Df i).toArray⟩)∧w'=w:=Any.internal_strconv_small mX i a w
def ZI:B6:=⟨fun|284=>168|129=>216|317=>215|318=>217|n=>n,fun|53=>161|3=>3|212=>340|0=>0|4=>4|46=>271|5=>5|9=>9|n=>n,fun|17=>6|n=>n⟩
theorem jR:Go.Proofs.LaysM.n284 Tryz.prog ZI:={
 mixed:=by kernel_rfl
 f129:=Is.trans (congrArg some (by kernel_rfl))
 f284:=Iy.trans (congrArg some (by kernel_rfl))
 f317:=Iw.trans (congrArg some (by kernel_rfl))
 f318:=Iu.trans (congrArg some (by kernel_rfl))
 t0:=Cf
 a0:=Du
 z0:=C9
 v0:=Cp
 t3:=Bq
 a3:=Cy
 z3:=Cg
 v3:=BI
 t4:=By
 a4:=Cm
 z4:=Cc
 v4:=BH
 t5:=B2
 a5:=DC
 z5:=Da
 v5:=CI
 t9:=A8
 a9:=Cz
 z9:=Ci
 v9:=BO
 t46:=Db
 a46:=Ea
 z46:=DV
 v46:=Dk
 t53:=DU
 a53:=Fc
 z53:=EP
 v53:=D5
 t212:=Fl
 a212:=H7
 z212:=G7
 v212:=Fx
 g17:=by kernel_rfl
 i0:=by kernel_rfl
 i3:=by kernel_rfl
 i4:=by kernel_rfl
 i5:=by kernel_rfl
 i9:=by kernel_rfl
 i46:=by kernel_rfl
 i53:=by kernel_rfl
 i212:=by kernel_rfl
 m17:=by kernel_rfl}
open Go.Lib in
theorem Tryz.internal_strconv_numDigits (u:Nat)(h1:1≤u)(a:u<18446744073709551616)(w:Y)(b:Jm Tryz.prog w "internal/strconv.uint64pow10" Jc Lib.pow10Tab):
 As Tryz.prog 168 #[V Jc u] w fun e w'=>e=Ak (V Ad (Ej u))∧w'=w:=Any.internal_strconv_numDigits jR u h1 a w b
def Zz:B6:=⟨fun|285=>169|n=>n,fun|37=>23|53=>161|3=>3|4=>4|51=>24|9=>9|5=>5|0=>0|n=>n,fun|n=>n⟩
theorem mY:Go.Proofs.Lays.n285 Tryz.prog Zz:={
 mixed:=by kernel_rfl
 f285:=It.trans (congrArg some (by kernel_rfl))
 t0:=Cf
 a0:=Du
 z0:=C9
 v0:=Cp
 t3:=Bq
 a3:=Cy
 z3:=Cg
 v3:=BI
 t4:=By
 a4:=Cm
 z4:=Cc
 v4:=BH
 t5:=B2
 a5:=DC
 z5:=Da
 v5:=CI
 t9:=A8
 a9:=Cz
 z9:=Ci
 v9:=BO
 t37:=B8
 a37:=E2
 z37:=ED
 v37:=DT
 t51:=Ch
 a51:=Ep
 z51:=DR
 v51:=Dx
 t53:=DU
 a53:=Fc
 z53:=EP
 v53:=D5}
open Go.RowKit Go.Sort Go.Lib in
theorem Tryz.internal_strconv_formatBase10 (a off cap:Nat)(u:Nat)(d:Array UInt8)(w:Y)(f:Holds (fun(b:UInt8)=>V BJ (b.toNat:Int)) w a off d)(g:u<10 ^d.size)(h:u<18446744073709551616)(i:d.size<4611686018427387904):
 As Tryz.prog 169 #[J (some ⟨a,off,none⟩) d.size cap,V Jc u] w fun e w'=>
  e=Ak (AZ #[])∧∃ (n j:Nat) (c:Array UInt8),w'=(putRow (fun(b:UInt8)=>V BJ (b.toNat:Int)) w a off c).drewN n∧FmtInv d.size u 0 j c:=Any.internal_strconv_formatBase10 mY a off cap u d w f g h i
def ZJ:B6:=⟨fun|171=>105|243=>145|246=>191|283=>167|284=>168|285=>169|286=>170|129=>216|317=>215|318=>217|319=>218|320=>219|337=>250|338=>251|n=>n,fun|3=>3|9=>9|2=>2|4=>4|171=>275|0=>0|53=>161|37=>23|5=>5|173=>278|212=>340|51=>24|20=>20|213=>341|46=>271|232=>399|233=>400|n=>n,fun|17=>6|18=>8|19=>9|n=>n⟩
theorem jS:Go.Proofs.LaysM.n171 Tryz.prog ZJ:={
 mixed:=by kernel_rfl
 f129:=Is.trans (congrArg some (by kernel_rfl))
 f171:=Tryz.func105.trans (congrArg some (by kernel_rfl))
 f243:=Tryz.func145.trans (congrArg some (by kernel_rfl))
 f246:=Tryz.func191.trans (congrArg some (by kernel_rfl))
 f283:=Ix.trans (congrArg some (by kernel_rfl))
 f284:=Iy.trans (congrArg some (by kernel_rfl))
 f285:=It.trans (congrArg some (by kernel_rfl))
 f286:=Tryz.func170.trans (congrArg some (by kernel_rfl))
 f317:=Iw.trans (congrArg some (by kernel_rfl))
 f318:=Iu.trans (congrArg some (by kernel_rfl))
 f319:=Tryz.func218.trans (congrArg some (by kernel_rfl))
 f320:=Tryz.func219.trans (congrArg some (by kernel_rfl))
 f337:=Tryz.func250.trans (congrArg some (by kernel_rfl))
 f338:=Tryz.func251.trans (congrArg some (by kernel_rfl))
 t0:=Cf
 a0:=Du
 z0:=C9
 v0:=Cp
 t2:=Il
 a2:=Tryz.isAgg2
 z2:=Tryz.sizeOf2
 v2:=IM
 t3:=Bq
 a3:=Cy
 z3:=Cg
 v3:=BI
 t4:=By
 a4:=Cm
 z4:=Cc
 v4:=BH
 t5:=B2
 a5:=DC
 z5:=Da
 v5:=CI
 t9:=A8
 a9:=Cz
 z9:=Ci
 v9:=BO
 t20:=EK
 a20:=GH
 z20:=Gc
 v20:=E1
 t37:=B8
 a37:=E2
 z37:=ED
 v37:=DT
 t46:=Db
 a46:=Ea
 z46:=DV
 v46:=Dk
 t51:=Ch
 a51:=Ep
 z51:=DR
 v51:=Dx
 t53:=DU
 a53:=Fc
 z53:=EP
 v53:=D5
 t171:=Fm
 a171:=Tryz.isAgg275
 z171:=Jd
 v171:=Hp
 t173:=G8
 a173:=Tryz.isAgg278
 z173:=Jf
 v173:=Ho
 t212:=Fl
 a212:=H7
 z212:=G7
 v212:=Fx
 t213:=G9
 a213:=Tryz.isAgg341
 z213:=Je
 t232:=Ha
 a232:=Tryz.isAgg399
 z232:=Jg
 v232:=Hl
 t233:=GZ
 a233:=Tryz.isAgg400
 z233:=Ja
 v233:=Hq
 g17:=by kernel_rfl
 g18:=by kernel_rfl
 g19:=by kernel_rfl
 i0:=by kernel_rfl
 i2:=by kernel_rfl
 i3:=by kernel_rfl
 i4:=by kernel_rfl
 i5:=by kernel_rfl
 i9:=by kernel_rfl
 i20:=by kernel_rfl
 i37:=by kernel_rfl
 i46:=by kernel_rfl
 i51:=by kernel_rfl
 i53:=by kernel_rfl
 i171:=by kernel_rfl
 i173:=by kernel_rfl
 i212:=by kernel_rfl
 i232:=by kernel_rfl
 i233:=by kernel_rfl
 m17:=by kernel_rfl
 m18:=by kernel_rfl
 m19:=by kernel_rfl}
open Go.RowKit Go.Sort Go.Lib in
theorem Tryz.strconv_Itoa (n:Int)(a: -9223372036854775808≤n)(h1:n≤9223372036854775807)(w:Y)(b:Jm Tryz.prog w "internal/strconv.uint64pow10" Jc Lib.pow10Tab):
 As Tryz.prog 105 #[V Ad n] w fun e w'=>e=Ak (Aa ⟨(Lib.itoa n).toArray⟩)∧∃ k c,w'=grow (w.drewN k) c:=Any.strconv_Itoa jS n a h1 w b
open Go.RowKit Go.Sort Go.Lib in
def ZK:B6:=⟨fun|14=>81|16=>122|17=>123|19=>161|20=>162|21=>163|22=>164|23=>165|24=>166|25=>213|27=>105|26=>214|28=>145|29=>191|30=>167|31=>168|32=>169|33=>170|35=>216|34=>215|36=>217|37=>218|38=>219|39=>250|40=>251|n=>n,fun|9=>9|3=>3|22=>161|24=>163|25=>164|4=>4|34=>269|5=>5|36=>271|37=>23|0=>0|39=>272|21=>21|44=>336|47=>187|50=>382|48=>380|2=>2|52=>275|55=>278|59=>340|60=>24|20=>20|61=>341|65=>399|66=>400|67=>80|n=>n,fun|0=>4|1=>5|2=>6|3=>8|4=>9|n=>n⟩
theorem jT:Go.Proofs.LaysPu.n14 Tryz.prog ZK:={
 mixed:=by kernel_rfl
 f14:=Tryz.func81.trans (congrArg some (by kernel_rfl))
 f16:=Tryz.func122.trans (congrArg some (by kernel_rfl))
 f17:=Tryz.func123.trans (congrArg some (by kernel_rfl))
 f19:=Tryz.func161.trans (congrArg some (by kernel_rfl))
 f20:=Tryz.func162.trans (congrArg some (by kernel_rfl))
 f21:=Tryz.func163.trans (congrArg some (by kernel_rfl))
 f22:=Tryz.func164.trans (congrArg some (by kernel_rfl))
 f23:=Tryz.func165.trans (congrArg some (by kernel_rfl))
 f24:=Tryz.func166.trans (congrArg some (by kernel_rfl))
 f25:=Tryz.func213.trans (congrArg some (by kernel_rfl))
 f26:=Tryz.func214.trans (congrArg some (by kernel_rfl))
 f27:=Tryz.func105.trans (congrArg some (by kernel_rfl))
 f28:=Tryz.func145.trans (congrArg some (by kernel_rfl))
 f29:=Tryz.func191.trans (congrArg some (by kernel_rfl))
 f30:=Ix.trans (congrArg some (by kernel_rfl))
 f31:=Iy.trans (congrArg some (by kernel_rfl))
 f32:=It.trans (congrArg some (by kernel_rfl))
 f33:=Tryz.func170.trans (congrArg some (by kernel_rfl))
 f34:=Iw.trans (congrArg some (by kernel_rfl))
 f35:=Is.trans (congrArg some (by kernel_rfl))
 f36:=Iu.trans (congrArg some (by kernel_rfl))
 f37:=Tryz.func218.trans (congrArg some (by kernel_rfl))
 f38:=Tryz.func219.trans (congrArg some (by kernel_rfl))
 f39:=Tryz.func250.trans (congrArg some (by kernel_rfl))
 f40:=Tryz.func251.trans (congrArg some (by kernel_rfl))
 t0:=Cf
 a0:=Du
 z0:=C9
 v0:=Cp
 i0:=by kernel_rfl
 t2:=Il
 a2:=Tryz.isAgg2
 z2:=Tryz.sizeOf2
 v2:=IM
 i2:=by kernel_rfl
 t3:=Bq
 a3:=Cy
 z3:=Cg
 v3:=BI
 i3:=by kernel_rfl
 t4:=By
 a4:=Cm
 z4:=Cc
 v4:=BH
 i4:=by kernel_rfl
 t5:=B2
 a5:=DC
 z5:=Da
 v5:=CI
 i5:=by kernel_rfl
 t9:=A8
 a9:=Cz
 z9:=Ci
 v9:=BO
 i9:=by kernel_rfl
 t20:=EK
 a20:=GH
 z20:=Gc
 v20:=E1
 i20:=by kernel_rfl
 t21:=EL
 a21:=GI
 z21:=Gb
 v21:=E0
 i21:=by kernel_rfl
 t22:=DU
 a22:=Fc
 z22:=EP
 v22:=D5
 i22:=by kernel_rfl
 t24:=Hb
 a24:=Tryz.isAgg163
 z24:=Jh
 v24:=Hm
 i24:=by kernel_rfl
 t25:=Tryz.underlying164
 a25:=Tryz.isAgg164
 z25:=Tryz.sizeOf164
 v25:=Tryz.zeroValue164
 i25:=by kernel_rfl
 t34:=Tryz.underlying269
 a34:=Tryz.isAgg269
 z34:=Tryz.sizeOf269
 v34:=Tryz.zeroValue269
 i34:=by kernel_rfl
 c34:=by kernel_rfl
 t36:=Db
 a36:=Ea
 z36:=DV
 v36:=Dk
 i36:=by kernel_rfl
 t37:=B8
 a37:=E2
 z37:=ED
 v37:=DT
 i37:=by kernel_rfl
 t39:=Tryz.underlying272
 a39:=Tryz.isAgg272
 z39:=Tryz.sizeOf272
 v39:=Tryz.zeroValue272
 i39:=by kernel_rfl
 t44:=Tryz.underlying336
 a44:=Tryz.isAgg336
 z44:=Tryz.sizeOf336
 v44:=Tryz.zeroValue336
 i44:=by kernel_rfl
 t47:=Fo
 a47:=Tryz.isAgg187
 z47:=Ji
 v47:=Hr
 i47:=by kernel_rfl
 t48:=Tryz.underlying380
 a48:=Tryz.isAgg380
 z48:=Tryz.sizeOf380
 v48:=Tryz.zeroValue380
 i48:=by kernel_rfl
 t50:=Tryz.underlying382
 a50:=Tryz.isAgg382
 z50:=Tryz.sizeOf382
 v50:=Tryz.zeroValue382
 i50:=by kernel_rfl
 t52:=Fm
 a52:=Tryz.isAgg275
 z52:=Jd
 v52:=Hp
 i52:=by kernel_rfl
 t55:=G8
 a55:=Tryz.isAgg278
 z55:=Jf
 v55:=Ho
 i55:=by kernel_rfl
 t59:=Fl
 a59:=H7
 z59:=G7
 v59:=Fx
 i59:=by kernel_rfl
 t60:=Ch
 a60:=Ep
 z60:=DR
 v60:=Dx
 i60:=by kernel_rfl
 t61:=G9
 a61:=Tryz.isAgg341
 z61:=Je
 t65:=Ha
 a65:=Tryz.isAgg399
 z65:=Jg
 v65:=Hl
 i65:=by kernel_rfl
 t66:=GZ
 a66:=Tryz.isAgg400
 z66:=Ja
 v66:=Hq
 i66:=by kernel_rfl
 t67:=Tryz.underlying80
 a67:=Tryz.isAgg80
 z67:=Tryz.sizeOf80
 v67:=Tryz.zeroValue80
 i67:=by kernel_rfl
 g0:=by kernel_rfl
 m0:=by kernel_rfl
 g1:=by kernel_rfl
 m1:=by kernel_rfl
 g2:=by kernel_rfl
 m2:=by kernel_rfl
 g3:=by kernel_rfl
 m3:=by kernel_rfl
 g4:=by kernel_rfl
 m4:=by kernel_rfl}
open Go.RowKit in
theorem Tryz.strconv_ParseUint_10_at32_ok (s:ByteArray)(a:s.size≤9223372036854775806)(u:Nat)(b:GY 32 s.data.toList=.ok u)(w:Y):
 As Tryz.prog 81 #[Aa s,V Ad 10,V Ad 32] w fun e w'=>e=Ak (AZ #[V Jc u,.nilIface])∧(w'=w∨w'=Lib.bytesWorld w 5 s):=Any.strconv_ParseUint_10_at32_ok jT s a u b w
def ZL:B6:=⟨fun|17=>159|15=>212|20=>249|n=>n,fun|9=>9|23=>223|4=>4|3=>3|0=>0|21=>21|n=>n,fun|n=>n⟩
theorem jU:Go.Proofs.LaysGw.n17 Tryz.prog ZL:={
 mixed:=by kernel_rfl
 f15:=Tryz.func212.trans (congrArg some (by kernel_rfl))
 f17:=Tryz.func159.trans (congrArg some (by kernel_rfl))
 f20:=Tryz.func249.trans (congrArg some (by kernel_rfl))
 t0:=Cf
 a0:=Du
 z0:=C9
 v0:=Cp
 i0:=by kernel_rfl
 t3:=Bq
 a3:=Cy
 z3:=Cg
 v3:=BI
 i3:=by kernel_rfl
 t4:=By
 a4:=Cm
 z4:=Cc
 v4:=BH
 i4:=by kernel_rfl
 t9:=A8
 a9:=Cz
 z9:=Ci
 v9:=BO
 i9:=by kernel_rfl
 t21:=EL
 a21:=GI
 z21:=Gb
 v21:=E0
 i21:=by kernel_rfl
 t23:=G6
 a23:=Tryz.isAgg223
 z23:=Jb
 v23:=Hn
 i23:=by kernel_rfl}
open Go.RowKit Go.Lib in
theorem Tryz.strings_ContainsFunc (g:Nat)(lb:Array h)(a:∀ args w,(GS g args).run Tryz.prog w=Ez (I8 g args) w)(p:Nat→Bool)(s:ByteArray)(w:Y)(b:PredAt Tryz.prog g lb encR p w):
 As Tryz.prog 159 #[Aa s,ER (.func g) #[] lb] w fun e w'=>e=Ak (AE (decide (0≤Lib.idxFunc p true s)))∧IL w.heap.size w w':=Any.strings_ContainsFunc jU g lb a p s w b
def dL:B6:=⟨fun|99=>84|206=>127|n=>n,fun|9=>9|4=>4|3=>3|n=>n,fun|n=>n⟩
theorem qZ:Go.Proofs.Lays.n99 Tryz.prog dL:={
 mixed:=by kernel_rfl
 f99:=Tryz.func84.trans (congrArg some (by kernel_rfl))
 f206:=Tryz.func127.trans (congrArg some (by kernel_rfl))
 t3:=Bq
 a3:=Cy
 z3:=Cg
 v3:=BI
 t4:=By
 a4:=Cm
 z4:=Cc
 v4:=BH
 t9:=A8
 a9:=Cz
 z9:=Ci
 v9:=BO}
open Go.RowKit Go.Lib in
theorem Tryz.strings_HasPrefix (s p:ByteArray)(w:Y):
 As Tryz.prog 84 #[Aa s,Aa p] w fun e w'=>e=Ak (AE (Fe s.data.toList p.data.toList))∧w'=w:=Any.strings_HasPrefix qZ s p w
def Z0:B6:=⟨fun|157=>83|229=>125|199=>126|261=>171|311=>220|312=>221|n=>n,fun|9=>9|31=>34|3=>3|5=>5|4=>4|119=>221|0=>0|40=>223|152=>280|21=>21|154=>282|51=>24|141=>284|196=>346|193=>343|198=>349|49=>347|194=>344|201=>352|226=>384|46=>271|227=>385|n=>n,fun|0=>2|6=>3|n=>n⟩
theorem mZ:Go.Proofs.Lays.n157 Tryz.prog Z0:={
 mixed:=by kernel_rfl
 f157:=Tryz.func83.trans (congrArg some (by kernel_rfl))
 f199:=Tryz.func126.trans (congrArg some (by kernel_rfl))
 f229:=Tryz.func125.trans (congrArg some (by kernel_rfl))
 f261:=Tryz.func171.trans (congrArg some (by kernel_rfl))
 f311:=Tryz.func220.trans (congrArg some (by kernel_rfl))
 f312:=Tryz.func221.trans (congrArg some (by kernel_rfl))
 t0:=Cf
 a0:=Du
 z0:=C9
 v0:=Cp
 t3:=Bq
 a3:=Cy
 z3:=Cg
 v3:=BI
 t4:=By
 a4:=Cm
 z4:=Cc
 v4:=BH
 t5:=B2
 a5:=DC
 z5:=Da
 v5:=CI
 t9:=A8
 a9:=Cz
 z9:=Ci
 v9:=BO
 t21:=EL
 a21:=GI
 z21:=Gb
 v21:=E0
 t31:=Bu
 a31:=Fy
 z31:=Fb
 v31:=Ef
 t40:=G6
 a40:=Tryz.isAgg223
 z40:=Jb
 v40:=Hn
 t46:=Db
 a46:=Ea
 z46:=DV
 v46:=Dk
 t49:=Tryz.underlying347
 a49:=Tryz.isAgg347
 z49:=Tryz.sizeOf347
 v49:=Tryz.zeroValue347
 t51:=Ch
 a51:=Ep
 z51:=DR
 v51:=Dx
 t119:=Tryz.underlying221
 a119:=Tryz.isAgg221
 z119:=Tryz.sizeOf221
 t141:=Tryz.underlying284
 a141:=Tryz.isAgg284
 z141:=Tryz.sizeOf284
 v141:=Tryz.zeroValue284
 t152:=Tryz.underlying280
 a152:=Tryz.isAgg280
 z152:=Tryz.sizeOf280
 v152:=Tryz.zeroValue280
 t154:=Tryz.underlying282
 a154:=Tryz.isAgg282
 z154:=Tryz.sizeOf282
 v154:=Tryz.zeroValue282
 t193:=Tryz.underlying343
 a193:=Tryz.isAgg343
 z193:=Tryz.sizeOf343
 v193:=Tryz.zeroValue343
 t194:=Tryz.underlying344
 a194:=Tryz.isAgg344
 z194:=Tryz.sizeOf344
 v194:=Tryz.zeroValue344
 t196:=Tryz.underlying346
 a196:=Tryz.isAgg346
 z196:=Tryz.sizeOf346
 v196:=Tryz.zeroValue346
 t198:=Tryz.underlying349
 a198:=Tryz.isAgg349
 z198:=Tryz.sizeOf349
 v198:=Tryz.zeroValue349
 t201:=Tryz.underlying352
 a201:=Tryz.isAgg352
 z201:=Tryz.sizeOf352
 v201:=Tryz.zeroValue352
 t226:=Tryz.underlying384
 a226:=Tryz.isAgg384
 z226:=Tryz.sizeOf384
 v226:=Tryz.zeroValue384
 t227:=Tryz.underlying385
 a227:=Tryz.isAgg385
 z227:=Tryz.sizeOf385
 v227:=Tryz.zeroValue385
 g0:=by kernel_rfl
 g6:=by kernel_rfl}
open Go.RowKit Go.Lib in
theorem Tryz.strings_Fields (s:ByteArray)(w:Y)(a:s.size<4294967281)(c:∀ (j:Nat) b,s.data.toList[j]?= some b→b.toNat<128)(d:Jm Tryz.prog w "strings.asciiSpace" BJ Lib.asciiSpaceTab):
 As Tryz.prog 83 #[Aa s] w fun e w'=>
  e=Ak (J (some ⟨w.heap.size,0,none⟩) (F6 s.data.toList).length (F6 s.data.toList).length)∧w'=w.alloc (Ab ((F6 s.data.toList).map fun l=>Aa ⟨l.toArray⟩).toArray 9):=Any.strings_Fields mZ (by kernel_rfl) (by kernel_rfl) s w a c d
def Z4:B6:=⟨fun|109=>158|n=>n,fun|31=>34|9=>9|3=>3|0=>0|4=>4|n=>n,fun|n=>n⟩
theorem mg:Go.Proofs.Lays.n109 Tryz.prog Z4:={
 mixed:=by kernel_rfl
 f109:=Tryz.func158.trans (congrArg some (by kernel_rfl))
 t0:=Cf
 a0:=Du
 z0:=C9
 v0:=Cp
 t3:=Bq
 a3:=Cy
 z3:=Cg
 v3:=BI
 t4:=By
 a4:=Cm
 z4:=Cc
 v4:=BH
 t9:=A8
 a9:=Cz
 z9:=Ci
 v9:=BO
 t31:=Bu
 a31:=Fy
 z31:=Fb
 v31:=Ef}
open Go.Lib in
theorem Tryz.slices_Index_string (b off n c:Nat)(a:List ByteArray)(x:ByteArray)(w:Y)(d:n≤a.length)(f:n≤9223372036854775807)(hc:∀ j,j<a.length→w.cell? ⟨b,off+j,none⟩=some (Aa (a.getD j Fh))):
 As Tryz.prog 158 #[J (some ⟨b,off,none⟩) n c,Aa x] w fun e w'=>e=Ak (V Ad (Iz (a.take n) x))∧w'=w:=Any.slices_Index_string mg b off n c a x w d f hc
def Z5:B6:=⟨fun|110=>120|109=>158|n=>n,fun|31=>34|9=>9|4=>4|3=>3|0=>0|n=>n,fun|n=>n⟩
theorem mh:Go.Proofs.Lays.n110 Tryz.prog Z5:={
 mixed:=by kernel_rfl
 f109:=Tryz.func158.trans (congrArg some (by kernel_rfl))
 f110:=Tryz.func120.trans (congrArg some (by kernel_rfl))
 t0:=Cf
 a0:=Du
 z0:=C9
 v0:=Cp
 t3:=Bq
 a3:=Cy
 z3:=Cg
 v3:=BI
 t4:=By
 a4:=Cm
 z4:=Cc
 v4:=BH
 t9:=A8
 a9:=Cz
 z9:=Ci
 v9:=BO
 t31:=Bu
 a31:=Fy
 z31:=Fb
 v31:=Ef}
open Go.Lib in
theorem Tryz.slices_Contains_string (b off n c:Nat)(a:List ByteArray)(x:ByteArray)(w:Y)(d:n≤a.length)(f:n≤9223372036854775807)(hc:∀ j,j<a.length→w.cell? ⟨b,off+j,none⟩=some (Aa (a.getD j Fh))):
 As Tryz.prog 120 #[J (some ⟨b,off,none⟩) n c,Aa x] w fun e w'=>e=Ak (AE (Lib.containsS (a.take n) x))∧w'=w:=Any.slices_Contains_string mh b off n c a x w d f hc
end Go.Proofs

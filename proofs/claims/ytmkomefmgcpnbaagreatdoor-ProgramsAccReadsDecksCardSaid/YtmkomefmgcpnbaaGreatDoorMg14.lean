import Derived.Test.YtmkomefmgcpnbaaGreatDoorMg13
import Derived.MapKept
import Derived.WideMake
set_option linter.all false
set_option maxHeartbeats 12800000
set_option maxRecDepth 100000
namespace Go.Proofs.YtmkomefmgcpnbaaGreatDoor
open Tryz Go Go.Proofs Go.RowKit Pg
open _root_.Array renaming getElem?_eq_some_iff→Ag,replicate→CD
open _root_.Bool renaming eq_false_iff→AJ,and_eq_true→Ah
open Go renaming Act→CY,Exit→EY,IntKind→Fv,Operand→CC,Oper→B5,TypeDesc→DK,TypeId→AK,Value→h,World→Y,execOp→CS,heap_alloc_new→Aj,run_underlying→Cq,undef→Ca,wpList_plain→Em,wpList→Dh,Addr→Bi,Calls→As,Ending→BX,Program→BR,maxLen→Bk,run_makeMap_plain→DF
open Go.Instr renaming lookup→FK,mapUpdate→Fk,sameBits→Jk
open Go.MapKept renaming heap_set→Io,run_findKey→GD,run_getObj_map→Dq
open Go.Obj renaming map→Eu,cells→Ab
open Go.Op renaming lookup→Jo
open Go.Oper renaming wp→Cb
open Go.Result renaming andThen→BM,ok→Ez
open Go.Sem renaming run_bind→Di
open Go.Value renaming bool→AE,int→V,map→Bj,string→Aa,tuple→AZ,pointer→Ae,slice→J,agg→AN
open _root_.List renaming cons_append→BS,getElem?_eq_some_iff→Ao,getElem?_map→Bh,getElem?_toArray→EJ,set_cons_succ→Eo,set_cons_zero→En,length_append→M,length_cons→Am,length_map→AI,length_nil→Av,length→De,map_congr_left→Gz,map_map→GL,getElem?_eq_getElem→Al,length_reverse→GF,all_eq_true→A7,mem_append→Fi,append_assoc→AG,append_nil→BP,drop_eq_getElem_cons→AR,drop_length→Cu,eq_nil_of_length_eq_zero→BZ,isEmpty_iff→CL,mem_of_getElem?→AD
open _root_.Nat renaming le_refl→Aw,sub_self→GJ,le_trans→AL,lt_of_lt_of_le→Ar,beq→Az,eq_of_beq_eq_true→Ap,zero_add→BF,add_assoc→H8,add_zero→Dp
open Go.Act renaming put→Au
open Go.Ending renaming returned→Ak
open Go.IntKind renaming i64→Ad,u32→Af
open Go.Lib renaming hid→D,join→EC
open Go.RowKit renaming Hid→AA
open Go.World renaming block_lt_of_cell?→Bp,size_alloc→E3
open _root_.Or renaming inl→AO,inr→AB
open Go.RowKit.Below renaming heap_setCell→AY,grown→Hu,heap_alloc→Ig
open Go.Proofs.Tryz renaming underlying9→A8,underlying112→Bm,underlying3→Bq,underlying287→Ax
open _root_.Option renaming map_eq_some_iff→DP,map→Js
open Go.Code renaming region→FU
open Go.Departure renaming mixedOrders→Fu
open Go.Next renaming value→F5
open Go.Region.Mode renaming any→GG
open Go.IntWalk renaming i64_in→AU
open _root_.And renaming intro→Ct
open Go.Proofs renaming intOf→AX
structure Wm (κ:Type) where
 enc:κ→h
 d:DK
 key:∀ y,MapKept.IsKey d (enc y)
 inj:∀ y z,enc y=enc z→y=z
 bits:∀ y,Jk 10000 (enc y) (enc y)=true
def KQ:Wm ByteArray:=⟨Aa,.string,fun _=>trivial,fun _ _ b=>by injection b,fun a=>by show(a==a)=true;exact(MapKept.bytes_beq a a).2 rfl⟩
def UA (k:Fv):Wm Int:=⟨V k,.int k,fun _=>rfl,fun _ _ a=>by injection a,fun _=>by simp [Jk]⟩
section
variable {κ:Type} [DecidableEq κ] (K:Wm κ)
abbrev zw (κ:Type):=κ×h×Nat
def XK (m:zw κ):MapEntry:={key:=K.enc m.1,val:=m.2.1,born:=m.2.2}
def R7 (a:κ):List (zw κ)→Nat→Option (Nat×h)
 |[],_=>none
 |m::b,i=>if m.1=a then some (i,m.2.1)else R7 a b (i+1)
theorem UJ (a:κ):∀ (b:List (zw κ))(i:Nat),Instr.findNow K.d (K.enc a) (b.map (XK K)) i=some (R7 a b i)
 |[],_=>rfl
 |m::b,i=>by
  have j:=UJ a b (i+1);obtain⟨g,h1,h⟩:=MapKept.sameNow_of_keys (K.key a) (K.key m.1);show(match Instr.sameNow K.d (K.enc a) (K.enc m.1)with|some true=>_|some false=>_|none=>_)=_
  rw [h1];by_cases f:m.1=a
  ·have e:g=true:=h.2 (by rw [f]);subst e;show some (some (i,m.2.1))=_
   rw [R7,if_pos f]
  ·have e:g=false:=by
    rw [AJ];intro c;exact f (K.inj _ _ (h.1 c)).symm
   subst e;show Instr.findNow K.d (K.enc a) (b.map (XK K)) (i+1)=_
   rw [j,R7,if_neg f]
def vR (a:List (zw κ))(b:κ):Option h:=(R7 b a 0).map (·.2)
theorem rX {f:κ}:∀ {c:List (zw κ)}{i k:Nat}{v:h},R7 f c i=some (k,v)→i≤k∧∃ b,c[k - i]?= some (f,v,b)
 |[],_,_,_,a=>by simp [R7]at a
 |m::c,i,k,v,a=>by
  rw [R7]at a;split at a
  ·rename_i e;injection a with a
   injection a with h1 d
   subst h1 d;refine⟨Aw _,m.2.2,?_⟩;rw [GJ,←e];rfl
  ·obtain⟨h1,b,d⟩:=rX a;refine⟨by omega,b,?_⟩;rw [show k - i=(k - (i+1))+1 by omega];exact d
theorem vT {c:κ}:∀ {f:List (zw κ)}{i k:Nat}{v:h},R7 c f i=some (k,v)→∀ (u:h)(b:Nat)(z:κ),(R7 z (f.set (k - i) (c,u,b)) i).map (·.2)=if z=c then some u else(R7 z f i).map (·.2)
 |[],_,_,_,a=>by simp [R7]at a
 |m::f,i,k,v,a=>by
  intro u b z;have j:=a;rw [R7]at a;split at a
  ·rename_i e;injection a with a
   injection a with h1 l
   subst h1;rw [GJ,En,R7,R7];by_cases q:z=c
   ·rw [if_pos q,if_pos q.symm];rfl
   ·rw [if_neg q,if_neg (fun d=>q d.symm),if_neg (fun d=>q (by rw [←d,e]))]
  ·rename_i g;have h1:=(rX a).1;rw [show k - i=(k - (i+1))+1 by omega,Eo,R7,R7];by_cases q:m.1=z
   ·have:z≠c:=fun d=>g (by rw [q,d])
    rw [if_pos q,if_neg this,if_pos q]
   ·rw [if_neg q,if_neg q];exact vT a u b z
theorem vU {c:κ}:∀ {d:List (zw κ)}{i:Nat},R7 c d i=none→∀ (u:h)(b:Nat)(z:κ),(R7 z (d++[(c,u,b)]) i).map (·.2)=if z=c then some u else(R7 z d i).map (·.2)
 |[],i,_=>by
  intro u b z;show(if c=z then some (i,u)else none).map (·.2)=_
  by_cases q:z=c
  ·rw [if_pos q,if_pos q.symm];rfl
  ·have q2:¬ c=z:=fun f=>q f.symm
   rw [if_neg q,if_neg q2];rfl
 |m::d,i,e=>by
  intro u b z;rw [R7]at e;split at e
  ·cases e
  ·rename_i g;rw [BS,R7,R7];by_cases q:m.1=z
   ·have:z≠c:=fun f=>g (by rw [q,f])
    rw [if_pos q,if_neg this,if_pos q]
   ·rw [if_neg q,if_neg q];exact vU e u b z
def MapAt (K:Wm κ)(W:Y)(b:Nat)(val:κ→Option h):Prop:=∃ a clock,W.heap[b]?= some (Eu (a.map (XK K)).toArray clock)∧∀ z,vR a z=val z
theorem MapAt.keep {W b:Y}{a:Nat}{val:κ→Option h}(d:MapAt K W a val)(e:b.heap[a]?= W.heap[a]?):MapAt K b a val:=by
 obtain⟨f,c,h1,g⟩:=d;exact⟨f,c,by rw [e];exact h1,g⟩
theorem MapAt.lt {W:Y}{a:Nat}{val:κ→Option h}(b:MapAt K W a val):a<W.heap.size:=by
 obtain⟨d,c,h1,_⟩:=b;exact(Ag.1 h1).1
theorem Ti (w:Y):MapAt K (w.alloc (Eu #[] 0)) w.heap.size (fun _=>none):=⟨[],0,Aj w _,fun _=>rfl⟩
structure MT (T kt et:AK) (z:h):Prop where
 t:prog.underlying T=some (.map kt et)
 k:prog.underlying kt=some K.d
 z:∀ w,(zeroValue et).run prog w=Ez z w
variable {K}
theorem Rp {c b d:AK}{z:h}(f:MT K c b d z)(e:Bool)(a:κ)(w:Y):(Instr.checkKey e 10000 b (K.enc a)).run prog w=Ez () w:=MapKept.run_checkKey (k:=K.enc a) f.k (K.key a) e 9999
theorem Y5 {i j n:AK}{z:h}(b:MT K i j n z){W:Y}{l:Nat}{val:κ→Option h}(o:MapAt K W l val)(a:κ):(FK i (Bj (some l)) (K.enc a) false).run prog W=Ez ((val a).getD z) W:=by
 obtain⟨e,c,h1,q⟩:=o;have f:(Instr.findKey j (K.enc a) (e.map (XK K))).run prog W=Ez (R7 a e 0) W:=GD b.k (UJ K a e 0);have d:=q a;unfold vR at d;have r:=b.z W;cases m:R7 a e 0 with
 |none=>
  rw [m]at f d;have g:val a=none:=by rw [←d];rfl
  simp [FK,Cq b.t,Dq h1,Rp b,f,r,g,BM]
 |some p=>
  obtain⟨k,v⟩:=p;rw [m]at f d;have g:val a=some v:=by rw [←d];rfl
  simp [FK,Cq b.t,Dq h1,Rp b,f,g,BM]
theorem R8 {j l o:AK}{z:h}(d:MT K j l o z){W:Y}{m:Nat}{val:κ→Option h}(q:MapAt K W m val)(b:κ):(FK j (Bj (some m)) (K.enc b) true).run prog W=Ez (AZ #[(val b).getD z,AE (val b).isSome]) W:=by
 obtain⟨f,c,h1,r⟩:=q;have g:(Instr.findKey l (K.enc b) (f.map (XK K))).run prog W=Ez (R7 b f 0) W:=GD d.k (UJ K b f 0);have e:=r b;unfold vR at e;have s:=d.z W;cases n:R7 b f 0 with
 |none=>
  rw [n]at g e;have i:val b=none:=by rw [←e];rfl
  simp [FK,Cq d.t,Dq h1,Rp d,g,s,i,BM]
 |some p=>
  obtain⟨k,v⟩:=p;rw [n]at g e;have i:val b=some v:=by rw [←e];rfl
  simp [FK,Cq d.t,Dq h1,Rp d,g,i,BM]
structure Ur (K:Wm κ) (W W2:Y) (gB:Nat) (val:κ→Option h) (y:κ) (v:h):Prop where
 at_:MapAt K W2 gB (fun z=>if z=y then some v else val z)
 grown:W.grownBy W2 (some gB)
theorem Y6 {W:Y}{a:Nat}{o b:Obj}(c:W.heap[a]?= some o):W.grownBy {W with heap:=W.heap.setIfInBounds a b} (some a):=
 ⟨rfl,rfl,rfl,by simp,fun k _ d=>(Io c).2 k (fun q=>d (by rw [q]))⟩
theorem TU {n o w:AK}{z:h}(f:MT K n o w z){W:Y}{g:Nat}{val:κ→Option h}(y:MapAt K W g val)(a:κ)(v:h):∃ r,(Fk n (Bj (some g)) (K.enc a) v).run prog W=Ez () r∧Ur K W r g val a v:=by
 obtain⟨d,c,h1,s⟩:=y;have l:(Instr.findKey o (K.enc a) (d.map (XK K))).run prog W=Ez (R7 a d 0) W:=GD f.k (UJ K a d 0);cases i:R7 a d 0 with
 |none=>
  rw [i]at l;refine⟨{W with heap:=W.heap.setIfInBounds g (Eu ((d++[(a,v,c)]).map (XK K)).toArray (c+1))},?_,⟨d++[(a,v,c)],c+1,(Io h1).1,fun z=>?_⟩,Y6 h1⟩
  ·have e:((d++[(a,v,c)]).map (XK K)).toArray=(d.map (XK K)).toArray.push {key:=K.enc a,val:=v,born:=c}:=by simp [XK]
   rw [e];simp [Fk,Cq f.t,Dq h1,Rp f,l,MapKept.run_setObj_map _ h1,BM]
  ·unfold vR;rw [vU i v c z];show _=if z=a then some v else val z
   rw [←s z];rfl
 |some p=>
  obtain⟨k,u⟩:=p;rw [i]at l;obtain⟨_,b,m⟩:=rX i;rw [Nat.sub_zero]at m;have A:=(Ao.1 m);refine⟨{W with heap:=W.heap.setIfInBounds g (Eu ((d.set k (a,v,b)).map (XK K)).toArray c)},?_,⟨d.set k (a,v,b),c,(Io h1).1,fun z=>?_⟩,Y6 h1⟩
  ·have e:((d.set k (a,v,b)).map (XK K)).toArray=(d.map (XK K)).toArray.modify k (fun e=>{e with key:=K.enc a,val:=v}):=by
    apply Array.ext';rw [Array.toList_modify];show(d.set k (a,v,b)).map (XK K)=(d.map (XK K)).modify k _
    apply List.ext_getElem?;intro j;rw [Bh,List.getElem?_set,List.getElem?_modify,Bh];by_cases q:k=j
    ·subst q;rw [if_pos rfl,if_pos A.1,m];simp [XK]
    ·rw [if_neg q];simp [q]
   have B:(((d.map (XK K)).toArray[k]?).map (·.key)).getD (K.enc a)=K.enc a:=by
    rw [EJ,Bh,m];rfl
   have C:(Instr.keyThatStays (K.enc a) (K.enc a)).run prog W=Ez (K.enc a) W:=by
    have:Jk 10000 (K.enc a) (K.enc a)=true:=K.bits a;simp [Instr.keyThatStays,this]
   rw [e];have D:(((d.map (XK K)).toArray[k]?).map fun x=>x.key).getD (K.enc a)=K.enc a:=B;simp only [Fk,Di,Cq f.t,Dq h1,Rp f,l,BM,D,C,MapKept.run_setObj_map _ h1]
  ·unfold vR;have:=vT i v b z;rw [Nat.sub_zero]at this;rw [this];show _=if z=a then some v else val z
   rw [←s z];rfl
theorem Qq {c e f:AK}{z:h}(g:MT K c e f z){w:Y}{ops:Array B5}{rest:List B5}{o:B5}{a:CY}{Q:EY→CY→Y→Prop}(i:o.guard=none)(m x:CC)(j:o.op=Jo c m x false)(d:Nat)(val:κ→Option h)(k:MapAt K w d val)
 (l:a.eval m=Bj (some d)) (b:κ) (n:a.eval x=K.enc b) (v:h) (p:(val b).getD z=v) (q:Dh prog ops Q rest (a.put o.dst v) w):Dh prog ops Q (o::rest) a w:=by
 refine Em i fun K r=>?_
 unfold Cb;simp [CS,j,l,n,Y5 g k b,p,BM];exact r _ _ q
theorem O8 {d f g:AK}{z:h}(i:MT K d f g z){w:Y}{ops:Array B5}{rest:List B5}{o:B5}{a:CY}{Q:EY→CY→Y→Prop}(j:o.guard=none)(m x:CC)(k:o.op=Jo d m x true)(e:Nat)(val:κ→Option h)(l:MapAt K w e val)
 (n:a.eval m=Bj (some e)) (c:κ) (p:a.eval x=K.enc c) (v:h) (b:Bool) (q:(val c).getD z=v) (r:(val c).isSome=b) (s:Dh prog ops Q rest (a.put o.dst (AZ #[v,AE b])) w):Dh prog ops Q (o::rest) a w:=by
 refine Em j fun K t=>?_
 unfold Cb;simp [CS,k,n,p,R8 i l c,q,r,BM];exact t _ _ s
theorem TA {e f g:AK}{z:h}(i:MT K e f g z){w:Y}{ops:Array B5}{rest:List B5}{o:B5}{a:CY}{Q:EY→CY→Y→Prop}(j:o.guard=none)(m x u:CC)(k:o.op=.mapUpdate e m x u)(c:Nat)(val:κ→Option h)(l:MapAt K w c val)
 (n:a.eval m=Bj (some c)) (d:κ) (p:a.eval x=K.enc d) (v:h) (q:a.eval u=v) (r:∀ b,Ur K w b c val d v→Dh prog ops Q rest (a.put o.dst Ca) b):Dh prog ops Q (o::rest) a w:=by
 refine Em j fun K s=>?_
 obtain⟨b,t,y⟩:=TU i l d v;unfold Cb;simp [CS,k,n,p,q,t,BM];exact s _ _ (r b y)
end
theorem yD7:dZ 130 12:=by unfold dZ;kernel_rfl
structure Cn where
 b:Nat
 GA:Option Bi
 ng:Nat
 gc:Nat
 FA:Option Bi
 nf:Nat
 fc:Nat
 gm:h
 fm:h
 sm:h
 sz:Nat
 lo:Nat
def Cn.xs (c:Cn)(lb wt:Nat)(lv:h):List h:=[V Ad lb,J c.GA c.ng c.gc,J c.FA c.nf c.fc,c.gm,c.fm,c.sm,V Ad c.sz,V Ad c.lo,V Ad wt,lv]
structure CW (c:Cn) (g:Option Nat) (l:Bs) (lb wt:Nat) (lp:List Bs) (lv:h) (w:Y):Prop where
 eb:EB 130 c.b g l (c.xs lb wt lv) w
 lo:w.ownsRow 0 9 1 lv lp.length (Jw lp)
 nb:lv.ownBlock≠some c.b
 ng:∀ k,g=some k→lv.ownBlock≠some k
 tab:Mg w
 b13:13≤c.b
 g13:∀ k,g=some k→13≤k
 zx:∀ k,lv.ownBlock=some k→13≤k
abbrev CG (b:Nat)(g:Option Nat)(lv:h)(k:Nat):Prop:=k=b∨g=some k∨lv.ownBlock=some k
structure K9 (b:Nat) (g:Option Nat) (lv:h) (w:Y) (g':Option Nat) (PG:h) (w':Y):Prop where
 upd:JK (CG b g lv) w w'
 ng:g'=g∨∃ k,g'=some k∧w.heap.size≤k
 nl:PG.ownBlock=lv.ownBlock∨∃ k,PG.ownBlock=some k∧w.heap.size≤k
section
variable {w w' w'':Y}{b:Nat}{g g' g'':Option Nat}{lv PG zk8:h}{c:Cn}{l:Bs}{lb wt:Nat}{lp:List Bs}
theorem K9.refl (b:Nat)(g:Option Nat)(lv:h)(w:Y):K9 b g lv w g lv w:=⟨JK.refl w,AO rfl,AO rfl⟩
theorem K9.ext (a:Ext w w'):K9 b g lv w g lv w':=⟨Gl a,AO rfl,AO rfl⟩
theorem K9.bg (c:K9 b g lv w g' PG w'){k:Nat}(f:k<w.heap.size)(a:¬ CG b g lv k):¬ CG b g' PG k:=by
 rintro(q|q|q)
 ·exact a (AO q)
 ·rcases c.ng with e|⟨m,e,d⟩
  ·exact a (AB (AO (e▸q)))
  ·rw [q]at e;cases e;omega
 ·rcases c.nl with e|⟨m,e,d⟩
  ·exact a (AB (AB (e▸q)))
  ·rw [q]at e;cases e;omega
theorem K9.trans (a:K9 b g lv w g' PG w')(k:K9 b g' PG w' g'' zk8 w''):K9 b g lv w g'' zk8 w'':=by
 have d:=a.upd.size;refine⟨⟨k.upd.os.trans a.upd.os,k.upd.tape.trans a.upd.tape,k.upd.output.trans a.upd.output,AL d k.upd.size,fun j c f=>?_⟩,?_,?_⟩
 ·rw [k.upd.block j (Ar c d) (a.bg c f),a.upd.block j c f]
 ·rcases k.ng with e|⟨m,e,h⟩
  ·rw [e];exact a.ng
  ·exact AB ⟨m,e,by omega⟩
 ·rcases k.nl with e|⟨m,e,h⟩
  ·rw [e];exact a.nl
  ·exact AB ⟨m,e,by omega⟩
theorem CW.lt (d:CW c g l lb wt lp lv w){k:Nat}(a:CG c.b g lv k):k<w.heap.size:=by
 rcases a with rfl|a|a
 ·exact d.eb.lt
 ·exact d.eb.gt a
 ·exact(Kc d.lo a).2
theorem CW.yO7 (d:CW c g l lb wt lp lv w){k:Nat}(a:CG c.b g lv k):13≤k:=by
 rcases a with rfl|a|a
 ·exact d.b13
 ·exact d.g13 k a
 ·exact d.zx k a
theorem CW.upd {G:Nat→Prop}(a:CW c g l lb wt lp lv w)(u:JK G w w')(f:∀ k,G k→13≤k)(e:∀ k,CG c.b g lv k→¬ G k):CW c g l lb wt lp lv w':=
 ⟨a.eb.upd u (e _ (AO rfl)) (fun k d=>e k (AB (AO d))),KX a.lo (fun k d=>u.block k (Kc a.lo d).2 (e k (AB (AB d)))),a.nb,a.ng,a.tab.upd u f,a.b13,a.g13,a.zx⟩
theorem CW.ext (a:CW c g l lb wt lp lv w)(x:Ext w w'):CW c g l lb wt lp lv w':=a.upd (G:=fun _=>False) (Gl x) (fun _ q=>q.elim) (fun _ _ q=>q)
theorem CW.step {i:Bs}(a:CW c g l lb wt lp lv w)(e:EB 130 c.b g' i (c.xs lb wt lv) w')(f:LW c.b g w g' w'):CW c g' i lb wt lp lv w'∧K9 c.b g lv w g' lv w':=by
 have n:∀ k,g'=some k→13≤k:=fun k d=>by
  rcases f.new with q|⟨m,q,j⟩
  ·exact a.g13 k (q▸d)
  ·rw [d]at q;cases q;exact AL a.tab.lt j
 refine⟨⟨e,KX a.lo (fun k d=>f.upd.block k (Kc a.lo d).2 ?_),a.nb,fun k d q=>?_,a.tab.upd f.upd (fun k d=>?_),a.b13,n,a.zx⟩,⟨f.upd.mono (fun k _ q=>?_),f.new,AO rfl⟩⟩
 ·rintro(q|q)
  ·exact a.nb (by rw [d,q])
  ·exact a.ng k q d
 ·rcases f.new with h|⟨m,h,j⟩
  ·exact a.ng k (h▸d) q
  ·rw [d]at h;cases h;have:=(Kc a.lo q).2;omega
 ·rcases d with rfl|d
  ·exact a.b13
  ·exact a.g13 k d
 ·rcases q with q|q
  ·exact AO q
  ·exact AB (AO q)
end
def MB (c:Cn)(g:Option Nat)(lv:h)(w:Y)(l:Bs)(lb wt:Nat)(lp:List Bs)(e:BX)(w':Y):Prop:=e=Ak (AZ #[])∧∃ g' PG,CW c g' l lb wt lp PG w'∧K9 c.b g lv w g' PG w'
def ny (c:Cn)(g:Option Nat)(lv:h)(w:Y)(l:Bs)(lb wt:Nat)(lp:List Bs)(e:BX)(w':Y):Prop:=e=Ak (AZ #[])∧∃ g',CW c g' l lb wt lp lv w'∧K9 c.b g lv w g' lv w'
theorem ny.of {w w' w'':Y}{c:Cn}{g g':Option Nat}{lv:h}{l:Bs}{lb wt:Nat}{lp:List Bs}{e:BX}(a:ny c g' lv w' l lb wt lp e w'')(d:K9 c.b g lv w g' lv w'):ny c g lv w l lb wt lp e w'':=by
 obtain⟨h1,f,i,j⟩:=a;exact⟨h1,f,i,d.trans j⟩
theorem MB.of {w w' w'':Y}{c:Cn}{g g':Option Nat}{lv PG:h}{l:Bs}{lb wt:Nat}{lp:List Bs}{e:BX}(a:MB c g' PG w' l lb wt lp e w'')(d:K9 c.b g lv w g' PG w'):MB c g lv w l lb wt lp e w'':=by
 obtain⟨h1,f,i,j,k⟩:=a;exact⟨h1,f,i,j,d.trans k⟩
theorem pY {w:Y}{c:Cn}{g:Option Nat}{lv:h}{l s:Bs}{lb wt:Nat}{lp:List Bs}(a:CW c g l lb wt lp lv w)(f:l.length+s.length≤1000000){S:ByteArray}(i:S=str s):
 As prog 104 #[Ae (some ⟨c.b,0,none⟩),Aa S] w fun e w'=>(∃v,e=Ak v)∧∃ g',CW c g' (l++s) lb wt lp lv w'∧K9 c.b g lv w g' lv w':=by
 subst i;refine(Xo (xs:=c.xs lb wt lv) yD7 a.eb f).mono ?_
 rintro e w' ⟨rfl,g',h1,d⟩;exact⟨⟨_,rfl⟩,g',(a.step h1 d).1,(a.step h1 d).2⟩
theorem dz:∀ (l:List Bs),l≠[]→32::(EC l [32]++[10])=JD l
 |[],a=>absurd rfl a
 |[x],_=>by simp [EC,JD]
 |x::b::l,_=>by
  rw [JD,←dz (b::l) (by simp)];simp [EC]
theorem zk9 {l:List Bs}{A:Option Bi}{c:Nat}{w:Y}(f:Ol w A (Jw l))(k:l≠[])(hc:l.length≤c)(t:l.length≤1000000)(u:(JD l).length≤1000000):
 As prog 100 #[J A l.length c,Aa ⟨#[32]⟩] w (Mi w (EC l [32])):=by
 cases l with
 |nil=>exact absurd rfl k
 |cons x d=>
  have m:0<(Jw (x::d)).length:=by simp [Jw]
  obtain⟨b,o,n⟩:=f.base m;subst n;have g:((x::d).map str).map (fun s=>s.data.toList)=x::d:=by
   rw [GL];exact(Gz (fun s _=>L6 s)).trans (List.map_id _)
  have p:=dz (x::d) (by simp);have h:∀ (j:Nat) e,((x::d).map str)[j]?= some e→w.cell? ⟨b,o+j,none⟩=some (Aa e):=by
   intro j e hy;obtain⟨a,q,hc⟩:=f j (Aa e) (by rw [Jw,Bh];rw [Bh]at hy;cases i:(x::d)[j]? with|none=>rw [i]at hy;cases hy|some s=>rw [i]at hy;cases hy;rfl);cases q;rw [MW]at hc;exact hc
  have r:b<w.heap.size:=by
   have:=h 0 (str x) rfl;exact Bp w _ this
  have:=strings_Join b o c ((x::d).map str) ⟨#[32]⟩ w h r (by rw [AI];omega) (by rw [AI];exact hc) (by rw [g];have:=congrArg De p;simp only [Am,M,Av]at this;show(EC (x::d) [32]).length≤_;omega);rw [AI,g]at this;exact this
theorem zl0 {w:Y}{c:Cn}{g:Option Nat}{lv:h}{l:Bs}{lb wt:Nat}{lp:List Bs}{ws:List Bs}{A:Option Bi}{k:Nat}(m:CW c g l lb wt lp lv w)(o:Ol w A (Jw ws))(p:ws.length≤k)(f:ws≠[])(q:l.length+(JD ws).length≤1000000)(B:ws.length≤1000):
 As prog 57 #[Ae (some ⟨c.b,0,none⟩),J A ws.length k] w (ny c g lv w (l++JD ws) lb wt lp):=by
 have r:=D (fun W (x:Ext w W)=>zk9 (o.ext x) f p (by omega) (by omega));have i:=dz ws f;have C:=D m;have E:=D q;have F:(EC ws [32]).length≤1000000:=by have:=congrArg De i;simp only [Am,M,Av]at this;omega
 have G:AA ((⟨#[32]⟩:ByteArray)++str (EC ws [32])++(⟨#[10]⟩:ByteArray)=str (JD ws)):=D (by
  rw [←i,show(⟨#[32]⟩:ByteArray)=str [32]from rfl,show(⟨#[10]⟩:ByteArray)=str [10]from rfl,Lg,Lg]
  rfl)
 have H:AA ((str (EC ws [32])).size≤1000000):=D (by rw [KO];exact F);obtain⟨n,s⟩:=JH ws.length;rw [←s]at r ⊢;clear m o p f q B s i H;go_enter func57,ntmps57;refine QT (CG c.b g lv) [] (fun d=>?_)
 iterate 4 refine JC d ?_
 try simp only [Au,pA,pB,pC]
 refine JM (fun K a=>?_);go_simp;refine(r _ ((Ext.refl w).drew)).mono ?_
 rintro e I ⟨rfl,j⟩;have L:=D ((C.ext ((Ext.refl w).drew)).ext j);have t:AA (Ext w I):=D (Ext.trans ((Ext.refl w).drew) j);clear j;refine a _ _ ?_ (fun d=>?_)
 ·exact Gl t
 clear a K
 try simp only [Au,pA,pB,pC]
 iterate 2 refine Mq d ?_
 try simp only [Au,pA,pB,pC]
 refine JM (fun K a=>?_);go_simp;refine(pY L E (show _=str (JD ws)from G.out)).mono ?_
 rintro e P ⟨⟨v,rfl⟩,N,u,y⟩;have O:=D u;have z:=D ((K9.ext t).trans y);clear u y;refine a _ _ ?_ (fun d=>?_)
 ·exact z.upd
 clear a K
 try simp only [Au,pA,pB,pC]
 refine JV ?_
 go_wp2_with fail;go_end0;exact⟨rfl,N,O,z⟩
theorem EB.Xr {c:AK}{b:Nat}{g:Option Nat}{l:Bs}{xs:List h}{w:Y}(a:EB c b g l xs w)(i:Nat)(v:h):EB c b g l (xs.set i v) (w.setCell ⟨b,i+2,none⟩ v):=by
 obtain⟨p,u,e,h1,f,d⟩:=a.ex;refine⟨⟨p,u,e,?_,KX f (fun k j=>AY _ _ _ _ (fun q=>a.ne (by rw [←d,j];exact congrArg some q))),d⟩,a.ne⟩;have:=JJ h1 (i+2) v;simpa using this
section
variable {w w' w'':Y}{g g' g'':Option Nat}{lv PG zk8:h}{c c':Cn}{l:Bs}{lb wt lb' Wn:Nat}{lp:List Bs}
theorem CW.Xr (a:CW c g l lb wt lp lv w)(e:c'.b=c.b)(i:Nat)(v:h)(j:(c.xs lb wt lv).set i v=c'.xs lb' Wn lv):CW c' g l lb' Wn lp lv (w.setCell ⟨c.b,i+2,none⟩ v)∧K9 c.b g lv w g lv (w.setCell ⟨c.b,i+2,none⟩ v):=by
 have f:JK (fun k=>k=c.b) w (w.setCell ⟨c.b,i+2,none⟩ v):=JK.setCell (G:=fun k=>k=c.b) (p:=⟨c.b,i+2,none⟩) (JK.refl w) (AB rfl) v;refine⟨⟨?_,KX a.lo (fun k d=>f.block k (Kc a.lo d).2 (fun q=>a.nb (by rw [d,q]))),by rw [e];exact a.nb,a.ng,a.tab.upd f (fun k d=>by rw [d];exact a.b13),by rw [e];exact a.b13,a.g13,a.zx⟩,⟨f.mono (fun k _ q=>AO q),AO rfl,AO rfl⟩⟩;have:=a.eb.Xr i v;rw [j]at this;rw [e];exact this
theorem CW.row (a:CW c g l lb wt lp lv w):∃ p u,w.heap[c.b]?= some (Ab (p::u::c.xs lb wt lv).toArray 130 (0,0)):=by
 obtain⟨p,u,_,h1,_⟩:=a.eb.ex;exact⟨p,u,h1⟩
theorem CW.Kv (a:CW c g l lb wt lp lv w){i:Nat}{u:h}(d:(c.xs lb wt lv)[i]?= some u):w.cell? ⟨c.b,i+2,none⟩=some u:=by
 obtain⟨p,e,h1⟩:=a.row;have:=JA h1 (i+2);rw [this];simpa using d
theorem CW.QX (a:CW c g l lb wt lp lv w)(i:Nat):w.frozen? ⟨c.b,i,none⟩=false:=by
 obtain⟨p,d,h1⟩:=a.row;exact JF h1 i
end
theorem zS1 (n:Nat)(a:n<18446744073709551616):(⟨(Lib.itoa (n:Int)).toArray⟩:ByteArray)=str (KN n):=by
 rw [jZ n a,Lib.itoa,if_neg (by omega)];rfl
theorem jH (n:Nat)(w:Y)(c:n≤9223372036854775807)(a:Mg w):As prog 105 #[V Ad n] w (Mi w (KN n)):=by
 refine(strconv_Itoa n (by omega) (by omega) w a.p10.here).mono ?_
 rintro e w' ⟨rfl,k,b,rfl⟩;exact⟨by rw [zS1 n (by omega)],jX w k b⟩
theorem Yg (n:Nat):(KN n).length≤20:=dw 20 n []
theorem kP {w:Y}{c:Cn}{g:Option Nat}{lv:h}{l s:Bs}{lb wt:Nat}{lp:List Bs}(d:CW c g l lb wt lp lv w)(a:l.length+(JU s).length≤1000000):
 As prog 62 #[Ae (some ⟨c.b,0,none⟩),Aa (str s)] w (ny c g lv w (l++JU s) lb wt lp):=by
 have f:=D d;have i:=D a;have j:AA ((str s).size≤1000000):=D (by rw [KO];unfold JU at a;simp only [M]at a;omega);have k:AA (str s++(⟨#[58,10]⟩:ByteArray)=str (JU s)):=D (by rw [show(⟨#[58,10]⟩:ByteArray)=str [58,10]from rfl,Lg];rfl);have p:=j.out;clear d a;generalize str s=S at*
 go_enter func62,ntmps62;go_wp2_with fail;refine(pY f i k).mono ?_
 rintro e q ⟨⟨v,rfl⟩,m,n,o⟩;go_wp2_with fail;go_end0;exact⟨rfl,m,n,o⟩
theorem rY {w:Y}{c:Cn}{g:Option Nat}{lv:h}{l name:Bs}{n lb wt:Nat}{lp:List Bs}(a:CW c g l lb wt lp lv w)(f:n≤9223372036854775807)(d:l.length+(JS name n).length≤1000000):
 As prog 59 #[Ae (some ⟨c.b,0,none⟩),Aa (str name),V Ad n] w (ny c g lv w (l++JS name n) lb wt lp):=by
 unfold JS at d ⊢;have i:=D (jH n w f a.tab);have j:AA (∀W,Ext w W→As prog 57 #[Ae (some ⟨c.b,0,none⟩),J (some ⟨W.heap.size,0,none⟩) 2 2] (W.alloc (Ab #[Aa (str name),Aa (str (KN n))] 9)) (ny c g lv w (l++JD [name,KN n]) lb wt lp)):=D (fun W x=>
  Calls.mono (zl0 (ws:=[name,KN n]) (k:=2) (a.ext (x.alloc _)) (RJ (W:=W) (e:=9) rfl (Jw [name,KN n])) (Aw _) (by simp) d (by simp)) fun e w' m=>m.of (K9.ext (x.alloc _)))
 clear a d;go_enter func59,ntmps59;go_wp2_with (first|(go_at_call 105;refine i.mono ?_;rintro e q ⟨rfl,o⟩)|(go_at_call 57;refine(j _ o).mono ?_;rintro e r ⟨rfl,p⟩));go_end0;exact⟨rfl,p⟩
theorem rZ (n:Nat)(w:Y)(b:n≤9223372036854775807)(a:Mg w):As prog 58 #[V Ad n] w (Mi w (Mc n)):=by
 have c:=D (jH n w b a);have f:AA ((⟨#[102]⟩:ByteArray)++str (KN n)=str (Mc n)):=D (by rw [show(⟨#[102]⟩:ByteArray)=str [102]from rfl,Lg];rfl);have g:(KN n).length≤1000000:=AL (Yg _) (by omega);clear a;go_enter func58,ntmps58;go_wp2_with (go_at_call 105;refine c.mono ?_;rintro e h ⟨rfl,d⟩);go_ret;exact⟨rfl,d⟩
theorem ak (n:Nat)(w:Y)(b:n≤9223372036854775807)(a:Mg w):As prog 107 #[V Ad n] w (Mi w (Lf n)):=by
 have c:=D (jH n w b a);have f:AA ((⟨#[103]⟩:ByteArray)++str (KN n)=str (Lf n)):=D (by rw [show(⟨#[103]⟩:ByteArray)=str [103]from rfl,Lg];rfl);have g:(KN n).length≤1000000:=AL (Yg _) (by omega);clear a;go_enter func107,ntmps107;go_wp2_with (go_at_call 105;refine c.mono ?_;rintro e h ⟨rfl,d⟩);go_ret;exact⟨rfl,d⟩
theorem zl1 {w:Y}{c:Cn}{g:Option Nat}{lv:h}{l:Bs}{lb wt:Nat}{lp:List Bs}(a:CW c g l lb wt lp lv w)(o:lb≤1000000):
 As prog 235 #[Ae (some ⟨c.b,0,none⟩)] w fun e w'=>e=Ak (Aa (str (JL (lb+1))))∧CW c g l (lb+1) wt lp lv w'∧K9 c.b g lv w g lv w':=by
 have d:=D (a.Xr (c':=c) (lb':=lb+1) (Wn:=wt) rfl 0 (V Ad ((lb:Int)+1)) (by simp [Cn.xs]));have p:w.cell? ⟨c.b,2,none⟩=some (V Ad lb):=a.Kv (i:=0) rfl;have f2:=a.QX 2;have f:=D (fun(W:Y) (m:Ext (w.setCell ⟨c.b,2,none⟩ (V Ad ((lb:Int)+1))) W)=>jH (lb+1) W (by omega) (d.1.tab.ext m));have q:(w.setCell ⟨c.b,2,none⟩ (V Ad ((lb:Int)+1))).cell? ⟨c.b,2,none⟩=some (V Ad ((lb:Int)+1)):=d.1.Kv (i:=0) (by simp [Cn.xs]);have n:AA ((⟨#[108]⟩:ByteArray)++str (KN (lb+1))=str (JL (lb+1))):=D (by rw [show(⟨#[108]⟩:ByteArray)=str [108]from rfl,Lg];rfl);have r:(KN (lb+1)).length≤1000000:=AL (Yg _) (by omega);have j:((lb+1:Nat):Int)=(lb:Int)+1:=by omega
 rw [j]at f;clear a j;go_enter func235,ntmps235;go_wp2_with (go_at_call 105;refine(f _ (Ext.refl _)).mono ?_;rintro e s ⟨rfl,k⟩);rw [n];go_ret;exact⟨rfl,d.1.ext k,d.2.trans (K9.ext k)⟩
def vI (l:List Bs)(z:ByteArray):Option h:=(JR (bs z) l).map fun k=>V Ad (k:Nat)
def vS (b:Ke)(z:ByteArray):Option h:=(b.slot (bs z)).map fun k=>V Ad (k:Nat)
structure Lc (E:Ke) (c:Cn) (U:Nat→Prop) (g:Option Nat) (lv:h) (w:Y):Prop where
 gG:Ju KG U w E.pr.globals (J c.GA c.ng c.gc)
 nu:∀ k,U k→¬ CG c.b g lv k
 lt:∀ k,U k→k<w.heap.size
 gm:∃ gB,c.gm=Bj (some gB)∧MapAt KQ w gB (vI (E.pr.globals.map KJ.name))∧¬ CG c.b g lv gB
 fm:∃ fB,c.fm=Bj (some fB)∧MapAt KQ w fB (vI (E.pr.JY.map Pg.Fn.name))∧¬ CG c.b g lv fB
 sm:∃ sB,c.sm=Bj (some sB)∧MapAt KQ w sB (vS E)∧¬ CG c.b g lv sB
 sz:c.sz=E.size
 lo:c.lo=E.JE.length
theorem Lc.rel {o:Ke}{c:Cn}{U:Nat→Prop}{g j:Option Nat}{lv l:h}{w w':Y}(a:Lc o c U g lv w)(f:K9 c.b g lv w j l w'):Lc o c U j l w':=by
 have n:∀ {val:ByteArray→Option h} {v:h},(∃d,v=Bj (some d)∧MapAt KQ w d val∧¬ CG c.b g lv d)→∃ d,v=Bj (some d)∧MapAt KQ w' d val∧¬ CG c.b j l d:=by
  rintro val v ⟨d,e,m,p⟩;have r:=MapAt.lt KQ m;exact⟨d,e,MapAt.keep KQ m (f.upd.block d r p),f.bg r p⟩
 exact⟨a.gG.upd f.upd a.nu (fun _ q=>q),fun k i=>f.bg (a.lt k i) (a.nu k i),fun k i=>Ar (a.lt k i) f.upd.size,n a.gm,n a.fm,n a.sm,a.sz,a.lo⟩
theorem Lc.ext {a:Ke}{c:Cn}{U:Nat→Prop}{g:Option Nat}{lv:h}{w w':Y}(b:Lc a c U g lv w)(x:Ext w w'):Lc a c U g lv w':=b.rel (K9.ext x)
structure SS (E:Ke) (c:Cn) (U:Nat→Prop) (g0:Option Nat) (Ld:h) (w0:Y) (g:Option Nat) (lv:h) (l:Bs) (lb wt:Nat) (lp:List Bs) (w:Y):Prop where
 cw:CW c g l lb wt lp lv w
 rl:K9 c.b g0 Ld w0 g lv w
 env:Lc E c U g lv w
section
variable {E:Ke}{c:Cn}{U:Nat→Prop}{g0 g:Option Nat}{Ld lv:h}{w0 w w':Y}{l l':Bs}{lb wt lb' Wn:Nat}{lp vV:List Bs}
theorem SS.start (a:CW c g l lb wt lp lv w)(b:Lc E c U g lv w):SS E c U g lv w g lv l lb wt lp w:=⟨a,K9.refl _ _ _ _,b⟩
theorem SS.ext (a:SS E c U g0 Ld w0 g lv l lb wt lp w)(x:Ext w w'):SS E c U g0 Ld w0 g lv l lb wt lp w':=⟨a.cw.ext x,a.rl.trans (K9.ext x),a.env.ext x⟩
theorem SS.ret (a:SS E c U g0 Ld w0 g lv l lb wt lp w){e:BX}(d:MB c g lv w l' lb' Wn vV e w'):e=Ak (AZ #[])∧∃ f h,SS E c U g0 Ld w0 f h l' lb' Wn vV w':=by
 obtain⟨h1,i,j,k,b⟩:=d;exact⟨h1,i,j,k,a.rl.trans b,a.env.rel b⟩
theorem SS.fin (a:SS E c U g0 Ld w0 g lv l lb wt lp w):MB c g0 Ld w0 l lb wt lp (Ak (AZ #[])) w:=⟨rfl,g,lv,a.cw,a.rl⟩
theorem SS.cell (a:SS E c U g0 Ld w0 g lv l lb wt lp w){p:Bi}{u:h}(hc:w0.cell? p=some u)(d:¬ CG c.b g0 Ld p.block):w.cell? p=some u:=JK.cell a.rl.upd hc d
end
theorem jI {s:Bs}:∀ {l:List Bs}{i k:Nat},LK s l i=some k→i≤k∧k<i+l.length
 |[],i,k,a=>by simp [LK]at a
 |x::l,i,k,a=>by
  rw [LK]at a;split at a
  ·cases a;simp only [Am];omega
  ·have:=jI a;simp only [Am];omega
theorem lastIdx_lt {s:Bs}{l:List Bs}{k:Nat}(a:JR s l=some k):k<l.length:=by
 unfold JR at a;obtain⟨i,b,rfl⟩:=DP.1 a;have:=(jI b).2;rw [GF]at this;omega
theorem pg {p:JQ}{f:Pg.Fn}{s:Bs}{u n:Nat}(a:Ma p f s u n=true)(l:u=1∨u=2):(∃k,(⟨p,f.params,f.JE⟩:Ke).slot s=some k∧k<(⟨p,f.params,f.JE⟩:Ke).size)∨((⟨p,f.params,f.JE⟩:Ke).slot s=none∧∃ i g,JR s (p.globals.map KJ.name)=some i∧p.globals[i]?= some g):=by
 unfold Ma Vn at a;unfold Ke.slot Ke.size;dsimp only;cases h1:MG s f.params with
 |some j=>
  left;exact⟨j,rfl,by have:=(jI h1).2;show j<f.params.length+1+f.JE.length;omega⟩
 |none=>
  rw [h1]at a;cases b:MG s f.JE with
  |some j=>
   left;exact⟨_,rfl,by have:=(jI b).2;show f.params.length+1+j<f.params.length+1+f.JE.length;omega⟩
  |none=>
   rw [b]at a;right;refine⟨rfl,?_⟩;cases c:JR s (p.JY.map Pg.Fn.name)with
   |some j=>
    rw [c]at a;have d:(Az u 4&&_)=true:=a;rw [Ah]at d;have:=Ap d.1;omega
   |none=>
    rw [c]at a;cases e:JR s (p.globals.map KJ.name)with
    |none=>rw [e]at a;cases a
    |some i=>
     have h:=lastIdx_lt e;rw [AI]at h;exact⟨i,_,rfl,Al h⟩
theorem vW {p:JQ}{f:Pg.Fn}{s:Bs}{n:Nat}(a:Ma p f s 3 n=true):∃ i g,JR s (p.globals.map KJ.name)=some i∧p.globals[i]?= some g:=by
 unfold Ma Vn at a;cases h1:MG s f.params with
 |some j=>rw [h1]at a;cases a
 |none=>
  rw [h1]at a;cases b:MG s f.JE with
  |some j=>rw [b]at a;cases a
  |none=>
   rw [b]at a;cases c:JR s (p.JY.map Pg.Fn.name)with
   |some j=>rw [c]at a;cases a
   |none=>
    rw [c]at a;cases d:JR s (p.globals.map KJ.name)with
    |none=>rw [d]at a;cases a
    |some i=>
     have e:=lastIdx_lt d;rw [AI]at e;exact⟨i,_,rfl,Al e⟩
theorem vX {p:JQ}{f:Pg.Fn}{s:Bs}{n:Nat}(a:Ma p f s 4 n=true):∃ i,JR s (p.JY.map Pg.Fn.name)=some i∧i<p.JY.length:=by
 unfold Ma Vn at a;cases h1:MG s f.params with
 |some j=>rw [h1]at a;cases a
 |none=>
  rw [h1]at a;cases b:MG s f.JE with
  |some j=>rw [b]at a;cases a
  |none=>
   rw [b]at a;cases c:JR s (p.JY.map Pg.Fn.name)with
   |some j=>
    have d:=lastIdx_lt c;rw [AI]at d;exact⟨j,rfl,d⟩
   |none=>
    rw [c]at a;cases e:JR s (p.globals.map KJ.name)with
    |none=>rw [e]at a;cases a
    |some i=>
     rw [e]at a;dsimp only [Js]at a;split at a
     ·cases a
     ·split at a
      ·cases a
      ·split at a<;>cases a
theorem Yu:MT KQ 123 9 3 (V Ad 0) where
 t:=underlying123
 k:=A8
 z:=fun w=>by kernel_rfl
def SR (E:Ke)(c:Cn)(U:Nat→Prop)(g0:Option Nat)(Ld:h)(w0:Y)(l:Bs)(lb wt:Nat)(lp:List Bs)(e:BX)(w':Y):Prop:=e=Ak (AZ #[])∧∃ a b,AA (SS E c U g0 Ld w0 a b l lb wt lp w')
section
variable {E:Ke}{c:Cn}{U:Nat→Prop}{g0 g:Option Nat}{Ld lv:h}{w0 W W1:Y}{l:Bs}{lb wt:Nat}{lp:List Bs}
theorem SS.sr {a:Bs}{lb' Wn:Nat}{b:List Bs}(d:SS E c U g0 Ld w0 g lv l lb wt lp W){e:BX}{w':Y}(f:MB c g lv W a lb' Wn b e w'):SR E c U g0 Ld w0 a lb' Wn b e w':=by
 obtain⟨h1,h,i,j⟩:=d.ret f;exact⟨h1,h,i,D j⟩
def SW (E:Ke)(c:Cn)(U:Nat→Prop)(g0:Option Nat)(Ld:h)(w0:Y)(lv:h)(l:Bs)(lb wt:Nat)(lp:List Bs)(e:BX)(w':Y):Prop:=e=Ak (AZ #[])∧∃ a,AA (SS E c U g0 Ld w0 a lv l lb wt lp w')
theorem SS.sw {a:Bs}{lb' Wn:Nat}{b:List Bs}(d:SS E c U g0 Ld w0 g lv l lb wt lp W){e:BX}{w':Y}(h:ny c g lv W a lb' Wn b e w'):SW E c U g0 Ld w0 lv a lb' Wn b e w':=by
 obtain⟨h1,i,j,f⟩:=h;exact⟨h1,i,D ⟨j,d.rl.trans f,d.env.rel f⟩⟩
theorem TD (d:SS E c U g0 Ld w0 g lv l lb wt lp W)(ws:List Bs)(f:l.length+(JD ws).length≤1000000)(i:ws≠[])(j:ws.length≤1000)(k:W1=W.alloc (Ab (Jw ws).toArray 9)){v:h}(m:v=J (some ⟨W.heap.size,0,none⟩) ws.length ws.length):
 As prog 57 #[Ae (some ⟨c.b,0,none⟩),v] W1 (SW E c U g0 Ld w0 lv (l++JD ws) lb wt lp):=by
 subst k m;have a:=d.ext ((Ext.refl W).alloc (Ab (Jw ws).toArray 9));exact(zl0 a.cw (RJ (W:=W) (e:=9) rfl (Jw ws)) (Aw _) i f j).mono fun e w' n=>a.sw n
theorem Us (a:SS E c U g0 Ld w0 g lv l lb wt lp W)(name:Bs)(n:Nat)(d:l.length+(JS name n).length≤1000000)(f:n≤9223372036854775807){s v:h}(i:s=Aa (str name))(j:v=V Ad n):
 As prog 59 #[Ae (some ⟨c.b,0,none⟩),s,v] W (SW E c U g0 Ld w0 lv (l++JS name n) lb wt lp):=by
 subst i j;exact(rY a.cw f d).mono fun e w' k=>a.sw k
theorem VK (a:SS E c U g0 Ld w0 g lv l lb wt lp W)(s:Bs)(d:l.length+(JU s).length≤1000000){v:h}(f:v=Aa (str s)):
 As prog 62 #[Ae (some ⟨c.b,0,none⟩),v] W (SW E c U g0 Ld w0 lv (l++JU s) lb wt lp):=by
 subst f;exact(kP a.cw d).mono fun e w' i=>a.sw i
theorem kQ (a:SS E c U g0 Ld w0 g lv l lb wt lp W)(f:lb≤1000000):
 As prog 235 #[Ae (some ⟨c.b,0,none⟩)] W fun e w'=>e=Ak (Aa (str (JL (lb+1))))∧∃ h,AA (SS E c U g0 Ld w0 h lv l (lb+1) wt lp w'):=by
 refine(zl1 a.cw f).mono ?_
 rintro e w' ⟨rfl,i,d⟩;exact⟨rfl,g,D ⟨i,a.rl.trans d,a.env.rel d⟩⟩
theorem SS.p9 (a:SS E c U g0 Ld w0 g lv l lb wt lp W)(Wn:Nat){v:h}(e:v=V Ad Wn):SS E c U g0 Ld w0 g lv l lb Wn lp (W.setCell ⟨c.b,10,none⟩ v):=by
 subst e;have d:=a.cw.Xr (c':=c) (lb':=lb) (Wn:=Wn) rfl 8 (V Ad Wn) (by simp [Cn.xs]);exact⟨d.1,a.rl.trans d.2,a.env.rel d.2⟩
def SX (E:Ke)(c:Cn)(U:Nat→Prop)(g0:Option Nat)(Ld:h)(w0:Y)(lv:h)(lb wt:Nat)(lp:List Bs)(W:Y):Prop:=∃ a b,SS E c U g0 Ld w0 a lv b lb wt lp W
theorem SX.of (a:SS E c U g0 Ld w0 g lv l lb wt lp W):SX E c U g0 Ld w0 lv lb wt lp W:=⟨g,l,a⟩
theorem SX.ext (a:SX E c U g0 Ld w0 lv lb wt lp W){b:Y}(x:Ext W b):SX E c U g0 Ld w0 lv lb wt lp b:=by
 obtain⟨d,e,a⟩:=a;exact⟨d,e,a.ext x⟩
theorem M5 {P:BR}{ops:Array B5}{Q:EY→CY→Y→Prop}{a:CY}(F:List Nat){b:Nat}(d:SS E c U g0 Ld w0 g lv l lb wt lp W)(e:SX E c U g0 Ld w0 lv lb wt lp W.drew→JX P GG ops Q (SX E c U g0 Ld w0 lv lb wt lp) F ops.size (CD ops.size false) a W.drew)(f:P.follows Fu=true:=by kernel_rfl):(FU b ops true).wp P Q a W:=JX.go (SX E c U g0 Ld w0 lv lb wt lp) F ((SX.of d).ext ((Ext.refl _).drew)) e f
theorem SX.Kv (a:SX E c U g0 Ld w0 lv lb wt lp W){i:Nat}{u:h}(d:(c.xs lb wt lv)[i]?= some u):W.cell? ⟨c.b,i+2,none⟩=some u:=by
 obtain⟨e,f,a⟩:=a;exact a.cw.Kv d
theorem SX.cell (a:SX E c U g0 Ld w0 lv lb wt lp W){p:Bi}{u:h}(hc:w0.cell? p=some u)(d:¬ CG c.b g0 Ld p.block):W.cell? p=some u:=by
 obtain⟨e,f,a⟩:=a;exact a.cell hc d
theorem SX.env (a:SX E c U g0 Ld w0 lv lb wt lp W):∃ b,Lc E c U b lv W:=by
 obtain⟨b,d,a⟩:=a;exact⟨b,a.env⟩
theorem QY {b:Type} [DecidableEq b] {K:Wm b}{d f g:AK}{z:h}(i:MT K d f g z){w:Y}{o:B5}{a:CY}(m x:CC)(j:o.op=Jo d m x false)(e:Nat)(val:b→Option h)(k:MapAt K w e val)(l:a.eval m=Bj (some e))(c:b)(n:a.eval x=K.enc c)(v:h)(p:(val c).getD z=v):(CS a.eval o).run prog w=Ez (F5 v) w:=by
 simp [CS,j,l,n,Y5 i k c,p,BM]
theorem SX.fm (b:SX E c U g0 Ld w0 lv lb wt lp W):∃ a,c.fm=Bj (some a)∧MapAt KQ W a (vI (E.pr.JY.map Pg.Fn.name)):=by
 obtain⟨g,d⟩:=b.env;obtain⟨a,e,f,_⟩:=d.fm;exact⟨a,e,f⟩
theorem SX.gm (b:SX E c U g0 Ld w0 lv lb wt lp W):∃ a,c.gm=Bj (some a)∧MapAt KQ W a (vI (E.pr.globals.map KJ.name)):=by
 obtain⟨g,d⟩:=b.env;obtain⟨a,e,f,_⟩:=d.gm;exact⟨a,e,f⟩
theorem SX.sm (b:SX E c U g0 Ld w0 lv lb wt lp W):∃ a,c.sm=Bj (some a)∧MapAt KQ W a (vS E):=by
 obtain⟨g,d⟩:=b.env;obtain⟨a,e,f,_⟩:=d.sm;exact⟨a,e,f⟩
theorem kR (d:SS E c U g0 Ld w0 g lv l lb wt lp W)(m:wt≤1000000)(f:l.length+(JD [KL]).length≤1000000):
 As prog 193 #[Ae (some ⟨c.b,0,none⟩)] W (SW E c U g0 Ld w0 lv (l++JD [KL]) lb (wt+1) lp):=by
 have h:=D d;have j:=D f;clear d f;go_enter func193,ntmps193;go_wp2_with (go_at_call 57;refine(TD h [KL] j (by simp) (by decide) rfl rfl).mono ?_;rintro e n ⟨rfl,k,a⟩;have o:=a.cw.Kv (i:=8) rfl;have f10:=a.cw.QX 10);go_end0;exact⟨rfl,k,D (a.p9 (wt+1) (by simp))⟩
end
theorem yD8 (d:Ke)(c:Cn)(U:Nat→Prop)(g:Option Nat)(lv:h)(l s:Bs)(lb wt k:Nat)(lp:List Bs)(w:Y)(o:CW c g l lb wt lp lv w)(j:Lc d c U g lv w)(p:d.slot s=some k)(u:k<d.size)(v:d.size≤100)(Q:wt≤1000000)(q:l.length+(MQ d s wt).length≤1000000):
 As prog 232 #[Ae (some ⟨c.b,0,none⟩),Aa (str s)] w (MB c g lv w (l++MQ d s wt) lb wt lp):=by
 have x:=D (SS.start o j);have y:MQ d s wt=JS WN (d.size+wt - k):=by unfold MQ;rw [p]
 rw [y]at q ⊢;have H:=D q;obtain⟨z,A,B,I⟩:=j.sm;have R:w.cell? ⟨c.b,7,none⟩=some (Bj (some z)):=o.Kv (i:=5) (by show some c.sm=_;rw [A]);have T:=D j.sz;have C:vS d (str s)=some (V Ad k):=by unfold vS;rw [L6,p];rfl
 have L:=D B;have E:=D C;obtain⟨n,r⟩:=JH c.sz;have m:AA (n=d.size):=D (by rw [r,j.sz]);have W:n≤100:=by rw [m];exact v
 have X:k<n:=by rw [m];exact u
 have M:AA ((c.xs lb wt lv)[6]?= some (V Ad n)):=D (by rw [r];rfl);have N:AA ((c.xs lb wt lv)[8]?= some (V Ad wt)):=D rfl;have O:AA (Ad.wrap (Ad.wrap ((n:Int)+(wt:Int)) - (k:Int))=((d.size+wt - k:Nat):Int)):=D (by
  have P:Ad.wrap ((n:Int)+(wt:Int))=(n:Int)+(wt:Int):=AU _ (by omega)
  rw [P,AU _ (by omega),←m];omega)
 clear o j q p C B I A y v u r;generalize str s=S at*
 go_enter func232,ntmps232;go_wp2_with (refine O8 Yu rfl _ _ rfl z _ L rfl S rfl (V Ad k) true (by rw [E];rfl) (by rw [E];rfl) ?_);refine M5 [] x (fun f=>?_)
 iterate 6 refine JC f ?_
 refine JP f (fun w t=>t.Kv M) ?_
 iterate 3 refine JC f ?_
 refine JP f (fun w t=>t.Kv N) ?_
 iterate 3 refine JC f ?_
 try simp only [Au,pA,pB,pC]
 refine JM (fun K F=>?_);go_simp;refine(Us (x.ext ((Ext.refl w).drew)) WN (d.size+wt - k) H (by have:=m.out;omega) rfl (by rw [O])).mono ?_
 rintro e Z ⟨rfl,h0,G⟩;refine F _ _ ?_ (fun f=>?_)
 ·exact SX.of G
 clear F K
 try simp only [Au,pA,pB,pC]
 refine JV ?_
 go_wp2_with fail;go_end0;exact G.fin
theorem zl2 (d:Ke)(c:Cn)(U:Nat→Prop)(g:Option Nat)(lv:h)(l s:Bs)(lb wt i:Nat)(gl:KJ)(lp:List Bs)(w:Y)(f:CW c g l lb wt lp lv w)(j:Lc d c U g lv w)(n:d.slot s=none)(p:JR s (d.pr.globals.map KJ.name)=some i)(k:d.pr.globals[i]?= some gl)(v:gl.kind=1)(he:gl.num<4294967296)(hf:wt≤1000000)(r:l.length+(MQ d s wt).length≤1000000):
 As prog 232 #[Ae (some ⟨c.b,0,none⟩),Aa (str s)] w (MB c g lv w (l++MQ d s wt) lb wt lp):=by
 have t:d.QR s=i:=by unfold Ke.QR;rw [p];rfl
 have x:d.gl s=gl:=by unfold Ke.gl;rw [t,k];rfl
 have y:MQ d s wt=JS Kz gl.num:=by unfold MQ;rw [n];dsimp only;rw [x,t,if_pos v]
 have hg:((gl.kind:Int)==1)=true:=by simp;omega
 rw [y]at r ⊢;have X:=D r;obtain⟨z,A,B,Z⟩:=j.sm;obtain⟨C,E,F,h0⟩:=j.gm;obtain⟨b,o,hh,cs,h1,h2,h3,G⟩:=j.gG.elem k;obtain⟨hi,rfl,H⟩:=h3;obtain⟨h4,h5,rfl⟩:=JB H;injection h1 with I L h6
 have hj:w.cell? ⟨c.b,7,none⟩=some (Bj (some z)):=f.Kv (i:=5) (by show some c.sm=_;rw [A]);have hk:w.cell? ⟨c.b,5,none⟩=some (Bj (some C)):=f.Kv (i:=3) (by show some c.gm=_;rw [E]);have hl:w.cell? ⟨c.b,3,none⟩=some (J (some ⟨b,o,none⟩) c.ng c.gc):=f.Kv (i:=1) (by show some (J c.GA c.ng c.gc)=_;rw [I]);have hm:i<c.ng:=by rw [L];exact(Ao.1 k).1
 have M:vS d (str s)=none:=by unfold vS;rw [L6,n];rfl
 have N:vI (d.pr.globals.map KJ.name) (str s)=some (V Ad i):=by unfold vI;rw [L6,p];rfl
 have hn:Ad.wrap (gl.num:Int)=(gl.num:Int):=AU _ (by omega);have h7:=D B;have h8:=D F;have O:=D M;have h9:=D N;have ha:=D G;obtain⟨hb,P,u,Q⟩:=alw w (Ab #[V Ad gl.kind,Aa (str gl.name),V Af gl.num,J h4 gl.init.length h5] 112);have hc:AA (¬CG c.b g lv w.heap.size):=D (fun q=>by have:=f.lt q;omega);have R:=D (SS.start (f.ext u) (j.ext u));have ho:i≤9223372036854775807:=by unfold Bk at h2;have:=(Ao.1 k).1;omega
 clear v f j r n M B Z A y t x E F h0 N H G I L h6 p k;generalize str s=S at*
 have hp:=bk Q 0;have z2:=bk Q 2;go_enter func232,ntmps232;go_wp2_with (first|(refine O8 Yu rfl _ _ rfl z _ h7 rfl S rfl (V Ad 0) false (by rw [O];rfl) (by rw [O];rfl) ?_)|(refine Qq Yu rfl _ _ rfl C _ h8 rfl S rfl (V Ad i) (by rw [h9];rfl) ?_)|refine KV rfl Bm rfl ha Oe ?_)
 try rw [P]
 clear P;refine M5 [] R (fun m=>?_)
 iterate 4 refine JC m ?_
 refine JP m (fun w hd=>hd.cell z2 hc) ?_
 refine JC m ?_
 try simp only [Au,pA,pB,pC]
 refine JM (fun K T=>?_);go_simp;refine(Us (R.ext ((Ext.refl hb).drew)) Kz gl.num X (by omega) rfl rfl).mono ?_
 rintro e hq ⟨rfl,hr,W⟩;refine T _ _ ?_ (fun m=>?_)
 ·exact SX.of W
 clear T K
 try simp only [Au,pA,pB,pC]
 refine JV ?_
 go_wp2_with fail;go_end0;exact(W.fin).of (K9.ext u)
theorem zl3 (a:Ke)(c:Cn)(U:Nat→Prop)(g:Option Nat)(lv:h)(l s:Bs)(lb wt i:Nat)(gl:KJ)(lp:List Bs)(w:Y)(f:CW c g l lb wt lp lv w)(j:Lc a c U g lv w)(n:a.slot s=none)(p:JR s (a.pr.globals.map KJ.name)=some i)(k:a.pr.globals[i]?= some gl)(y:gl.kind≠1)(hd:gl.num<4294967296)(he:wt≤1000000)(r:l.length+(MQ a s wt).length≤1000000):
 As prog 232 #[Ae (some ⟨c.b,0,none⟩),Aa (str s)] w (MB c g lv w (l++MQ a s wt) lb wt lp):=by
 have t:a.QR s=i:=by unfold Ke.QR;rw [p];rfl
 have z:a.gl s=gl:=by unfold Ke.gl;rw [t,k];rfl
 have A:MQ a s wt=JD [YV,Lf i]:=by unfold MQ;rw [n];dsimp only;rw [z,t,if_neg y]
 have hf:((gl.kind:Int)==1)=false:=by simp;omega
 rw [A]at r ⊢;have h0:=D r;obtain⟨B,C,E,h1⟩:=j.sm;obtain⟨F,G,H,h2⟩:=j.gm;obtain⟨b,o,hg,cs,h3,h4,h5,I⟩:=j.gG.elem k;obtain⟨hh,rfl,L⟩:=h5;obtain⟨h6,h7,rfl⟩:=JB L;injection h3 with M N h8
 have hi:w.cell? ⟨c.b,7,none⟩=some (Bj (some B)):=f.Kv (i:=5) (by show some c.sm=_;rw [C]);have hj:w.cell? ⟨c.b,5,none⟩=some (Bj (some F)):=f.Kv (i:=3) (by show some c.gm=_;rw [G]);have hk:w.cell? ⟨c.b,3,none⟩=some (J (some ⟨b,o,none⟩) c.ng c.gc):=f.Kv (i:=1) (by show some (J c.GA c.ng c.gc)=_;rw [M]);have hl:i<c.ng:=by rw [N];exact(Ao.1 k).1
 have O:vS a (str s)=none:=by unfold vS;rw [L6,n];rfl
 have P:vI (a.pr.globals.map KJ.name) (str s)=some (V Ad i):=by unfold vI;rw [L6,p];rfl
 have hm:Ad.wrap (gl.num:Int)=(gl.num:Int):=AU _ (by omega);have h9:=D E;have ha:=D H;have Q:=D O;have hb:=D P;have hc:=D I;obtain⟨R,T,u,W⟩:=alw w (Ab #[V Ad gl.kind,Aa (str gl.name),V Af gl.num,J h6 gl.init.length h7] 112);have hn:AA (¬CG c.b g lv w.heap.size):=D (fun q=>by have:=f.lt q;omega);have v:=D (SS.start (f.ext u) (j.ext u));have ho:i≤9223372036854775807:=by unfold Bk at h4;have:=(Ao.1 k).1;omega
 clear y f j r n O E h1 C A t z G H h2 P L I M N h8 p k;generalize str s=S at*
 have hp:=bk W 0;have z2:=bk W 2;go_enter func232,ntmps232;go_wp2_with (first|(refine O8 Yu rfl _ _ rfl B _ h9 rfl S rfl (V Ad 0) false (by rw [Q];rfl) (by rw [Q];rfl) ?_)|(refine Qq Yu rfl _ _ rfl F _ ha rfl S rfl (V Ad i) (by rw [hb];rfl) ?_)|refine KV rfl Bm rfl hc Oe ?_)
 try rw [T]
 clear T;refine M5 [] v (fun m=>?_)
 iterate 4 refine JC m ?_
 try simp only [Au,pA,pB,pC]
 refine JM (fun K d=>?_);go_simp;refine(ak i _ (by omega) (v.cw.tab.ext ((Ext.refl R).drew))).mono ?_
 rintro e hq ⟨rfl,X⟩;have x:=D ((v.ext ((Ext.refl R).drew)).ext X);clear X;refine d _ _ ?_ (fun m=>?_)
 ·exact SX.of x
 clear d K
 try simp only [Au,pA,pB,pC]
 refine JM (fun K d=>?_);go_simp;refine d _ _ ?_ (fun m=>?_)
 ·exact(SX.of x).ext ((Ext.refl _).alloc _)
 clear d K
 try simp only [Au,pA,pB,pC]
 refine JM (fun K d=>?_);go_simp;refine(TD x [YV,Lf i] h0 (by simp) (by simp) rfl rfl).mono ?_
 rintro e hr ⟨rfl,hs,Z⟩;refine d _ _ ?_ (fun m=>?_)
 ·exact SX.of Z
 clear d K
 try simp only [Au,pA,pB,pC]
 refine JV ?_
 go_wp2_with fail;go_end0;exact(Z.fin).of (K9.ext u)
theorem mtO:MT (UA Ad) 401 3 34 (J none 0 0) where
 t:=underlying401
 k:=Bq
 z:=fun w=>by kernel_rfl
structure qA (w W:Y) (gB:Nat) (L:List (Nat×List Bs)):Prop where
 x:Ext w W
 g:w.heap.size≤gB
 v:∃ val,MapAt (UA Ad) W gB val∧∀ op ws,(op,ws)∈L→∃ b,val ((op:Nat):Int)=some (J (some ⟨b,0,none⟩) ws.length ws.length)∧b≠gB∧w.heap.size≤b∧W.heap[b]?= some (Ab (Jw ws).toArray 9 (0,0))
theorem qA.step {w W d:Y}{a:Nat}{L:List (Nat×List Bs)}(c:qA w W a L){val:Int→Option h}{op:Nat}{ws:List Bs}(l:MapAt (UA Ad) W a val)(n:∀ op ws,(op,ws)∈L→∃ b,val ((op:Nat):Int)=some (J (some ⟨b,0,none⟩) ws.length ws.length)∧b≠a∧w.heap.size≤b∧W.heap[b]?= some (Ab (Jw ws).toArray 9 (0,0)))
 (m:Ur (UA Ad) (W.alloc (Ab (Jw ws).toArray 9)) d a val (op:Int) (J (some ⟨W.heap.size,0,none⟩) ws.length ws.length)) (r:L.all (fun p=> !Az p.1 op)=true):qA w d a (L++[(op,ws)]):=by
 have C:a<W.heap.size:=MapAt.lt _ l;have s:∀ b o,b≠a→W.heap[b]?= some o→d.heap[b]?= some o:=fun b o t i=>by
  rw [m.grown.block b (by rw [E3];exact Nat.lt_succ_of_lt (Ag.1 i).1) (fun e=>t (by injection e))];exact CE ((Ext.refl W).alloc _) i
 refine⟨Hu ((c.x).alloc _) m.grown ((c.x).alloc (Ab (Jw ws).toArray 9)).size (fun k e=>by cases e;exact c.g),c.g,_,m.at_,fun f u v=>?_⟩;rcases Fi.1 v with q|q
 ·obtain⟨b,h1,j,y,z⟩:=n f u q;have A:((f:Nat):Int)≠((op:Nat):Int):=fun e=>by
   have B:=A7.1 r _ q;have:f=op:=by omega
   subst this;simp at B
  exact⟨b,by show(if _ then _ else _)=_;rw [if_neg A];exact h1,j,y,s b _ j z⟩
 ·rw [List.mem_singleton]at q;cases q;refine⟨W.heap.size,by show(if _ then _ else _)=_;rw [if_pos rfl],by omega,c.x.size,?_⟩;rw [m.grown.block W.heap.size (by rw [E3];omega) (fun e=>by injection e with e;omega)];exact Aj W _
theorem Kn {w W:Y}{b:Nat}{L:List (Nat×List Bs)}{op:Nat}{ws:List Bs}{ops:Array B5}{rest:List B5}{o:B5}{a:CY}{Q:EY→CY→Y→Prop}(f:o.guard=none)(m x u:CC)(g:o.op=.insert 401 m x u)(d:qA w W b L)(h:L.all (fun p=> !Az p.1 op)=true)
 (i:a.eval m=Bj (some b)) (j:a.eval x=V Ad (op:Nat)) (k:a.eval u=J (some ⟨W.heap.size,0,none⟩) ws.length ws.length) {e:Y} (l:e=W.alloc (Ab (Jw ws).toArray 9)) (n:∀ c,AA (qA w c b (L++[(op,ws)]))→Dh prog ops Q rest (a.put o.dst Ca) c):Dh prog ops Q (o::rest) a e:=by
 subst l;obtain⟨val,h1,q⟩:=d.v;refine Em f fun K r=>?_
 obtain⟨c,s,t⟩:=TU mtO (MapAt.keep (UA Ad) h1 (Ig W _ b (MapAt.lt _ h1))) (op:Int) (J (some ⟨W.heap.size,0,none⟩) ws.length ws.length);have y:(Fk 401 (Bj (some b)) (V Ad (op:Nat)) (J (some ⟨W.heap.size,0,none⟩) ws.length ws.length)).run prog (W.alloc (Ab (Jw ws).toArray 9))=Ez () c:=s;unfold Cb;simp [CS,g,i,j,k,y,BM];exact r _ _ (n c (D (d.step h1 q t h)))
def opsL:List (Nat×List Bs):=[(4,[[109,117,108]]),(5,[[100,105,118]]),(6,[[109,111,100]]),(7,[[108,101,102,116]]),(8,[[114,105,103,104,116]]),(9,[[97,110,100]]),(10,[[97,100,100]]),(11,[[115,117,98]]),(12,[[111,114]]),(13,[[120,111,114]]),(14,[[101,113]]),(15,[[101,113],[122,101,114,111]]),(16,[[108,101,115,115]]),(17,[[109,111,114,101],[122,101,114,111]]),(18,[[109,111,114,101]]),(19,[[108,101,115,115],[122,101,114,111]])]
theorem zS3 (op:Nat)(a:4≤op)(b:op≤19):(op,Lt op)∈opsL:=by
 have:op=4∨op=5∨op=6∨op=7∨op=8∨op=9∨op=10∨op=11∨op=12∨op=13∨op=14∨op=15∨op=16∨op=17∨op=18∨op=19:=by omega
 rcases this with rfl|rfl|rfl|rfl|rfl|rfl|rfl|rfl|rfl|rfl|rfl|rfl|rfl|rfl|rfl|rfl<;>decide
theorem oC (op:Nat)(d:4≤op)(f:op≤19)(w:Y):As prog 255 #[V Ad op] w fun e w'=>∃ b,e=Ak (J (some ⟨b,0,none⟩) (Lt op).length (Lt op).length)∧w.heap.size≤b∧Ol w' (some ⟨b,0,none⟩) (Jw (Lt op))∧Ext w w':=by
 have g:=D (zS3 op d f);have p:= @DF prog;have a:AA (qA w (w.alloc (Eu #[] 0)) w.heap.size []):=D ⟨(Ext.refl w).alloc _,Aw _,_,Ti (K:=UA Ad) w,fun _ _ h=>by cases h⟩;go_enter func255,ntmps255;go_wp2_with (first|(refine Kn (op:=4) (ws:=[[109,117,108]]) rfl _ _ _ rfl a (by decide) rfl rfl (by first|rfl|(simp;rfl)) rfl ?_;clear a;intro c a)|(refine Kn (op:=5) (ws:=[[100,105,118]]) rfl _ _ _ rfl a (by decide) rfl rfl (by first|rfl|(simp;rfl)) rfl ?_;clear a;intro c a)|(refine Kn (op:=6) (ws:=[[109,111,100]]) rfl _ _ _ rfl a (by decide) rfl rfl (by first|rfl|(simp;rfl)) rfl ?_;clear a;intro c a)|(refine Kn (op:=7) (ws:=[[108,101,102,116]]) rfl _ _ _ rfl a (by decide) rfl rfl (by first|rfl|(simp;rfl)) rfl ?_;clear a;intro c a)|(refine Kn (op:=8) (ws:=[[114,105,103,104,116]]) rfl _ _ _ rfl a (by decide) rfl rfl (by first|rfl|(simp;rfl)) rfl ?_;clear a;intro c a)|(refine Kn (op:=9) (ws:=[[97,110,100]]) rfl _ _ _ rfl a (by decide) rfl rfl (by first|rfl|(simp;rfl)) rfl ?_;clear a;intro c a)|(refine Kn (op:=10) (ws:=[[97,100,100]]) rfl _ _ _ rfl a (by decide) rfl rfl (by first|rfl|(simp;rfl)) rfl ?_;clear a;intro c a)|(refine Kn (op:=11) (ws:=[[115,117,98]]) rfl _ _ _ rfl a (by decide) rfl rfl (by first|rfl|(simp;rfl)) rfl ?_;clear a;intro c a)|(refine Kn (op:=12) (ws:=[[111,114]]) rfl _ _ _ rfl a (by decide) rfl rfl (by first|rfl|(simp;rfl)) rfl ?_;clear a;intro c a)|(refine Kn (op:=13) (ws:=[[120,111,114]]) rfl _ _ _ rfl a (by decide) rfl rfl (by first|rfl|(simp;rfl)) rfl ?_;clear a;intro c a)|(refine Kn (op:=14) (ws:=[[101,113]]) rfl _ _ _ rfl a (by decide) rfl rfl (by first|rfl|(simp;rfl)) rfl ?_;clear a;intro c a)|(refine Kn (op:=15) (ws:=[[101,113],[122,101,114,111]]) rfl _ _ _ rfl a (by decide) rfl rfl (by first|rfl|(simp;rfl)) rfl ?_;clear a;intro c a)|(refine Kn (op:=16) (ws:=[[108,101,115,115]]) rfl _ _ _ rfl a (by decide) rfl rfl (by first|rfl|(simp;rfl)) rfl ?_;clear a;intro c a)|(refine Kn (op:=17) (ws:=[[109,111,114,101],[122,101,114,111]]) rfl _ _ _ rfl a (by decide) rfl rfl (by first|rfl|(simp;rfl)) rfl ?_;clear a;intro c a)|(refine Kn (op:=18) (ws:=[[109,111,114,101]]) rfl _ _ _ rfl a (by decide) rfl rfl (by first|rfl|(simp;rfl)) rfl ?_;clear a;intro c a)|(refine Kn (op:=19) (ws:=[[108,101,115,115],[122,101,114,111]]) rfl _ _ _ rfl a (by decide) rfl rfl (by first|rfl|(simp;rfl)) rfl ?_;clear a;intro c a)|(obtain⟨val,j,k⟩:=a.v;obtain⟨b,l,q,m,n⟩:=k op _ g;refine Qq mtO rfl _ _ rfl w.heap.size val j rfl (op:Int) rfl (J (some ⟨b,0,none⟩) (Lt op).length (Lt op).length) (by rw [l];rfl) ?_));go_ret;exact⟨b,rfl,m,fun i u o=>⟨_,rfl,by rw [MW,BF,JA n i];simpa using o⟩,a.x⟩
abbrev JI (p:JQ)(f:Pg.Fn):Ke:=⟨p,f.params,f.JE⟩
structure XOk (p:JQ) (f:Pg.Fn) (l:List Ex):Prop where
 ck:Qf p f l=true
 fm:XJ l
 nb:Q8 l=true
def XC (p:JQ)(f:Pg.Fn)(x:Ex):Prop:=
 ∀(c:Cn) (U:Nat→Prop) (g:Option Nat) (lv:h) (w:Y) (l:Bs) (lb wt:Nat) (lp:List Bs) (cs:List h),
  CW c g l lb wt lp lv w→Lc (JI p f) c U g lv w→KE.rep U w x cs→lb+LY x≤100000→wt+LY x≤100000→l.length+(JW (JI p f) x wt lb).1.length≤1000000→
  As prog 192 #[Ae (some ⟨c.b,0,none⟩),AN cs.toArray] w (MB c g lv w (l++(JW (JI p f) x wt lb).1) (JW (JI p f) x wt lb).2 wt lp)
theorem XC.s {p:JQ}{f:Pg.Fn}{x:Ex}(i:XC p f x){c:Cn}{U:Nat→Prop}{g0 g:Option Nat}{d lv:h}{w0 w:Y}{l:Bs}{lb wt:Nat}{lp:List Bs}{cs:List h}(a:SS (JI p f) c U g0 d w0 g lv l lb wt lp w)(j:KE.rep U w x cs)(h1:lb+LY x≤100000)(k:wt+LY x≤100000)(m:l.length+(JW (JI p f) x wt lb).1.length≤1000000){v:h}(n:v=AN cs.toArray):
 As prog 192 #[Ae (some ⟨c.b,0,none⟩),v] w (SR (JI p f) c U g0 d w0 (l++(JW (JI p f) x wt lb).1) (JW (JI p f) x wt lb).2 wt lp):=by
 subst n;exact(i c U g lv w l lb wt lp cs a.cw a.env j h1 k m).mono fun e w' o=>a.sr o
theorem zS4 {U:Nat→Prop}{w:Y}{x:Ex}{cs:List h}(b:KE.rep U w x cs):cs.length=5:=by
 obtain⟨k,op,num,name,args⟩:=x;rw [show KE.rep=OV from rfl,OZ]at b;obtain⟨c,rfl, -⟩:=b;rfl
def Pz (a:Ke)(name:Bs)(args:List Ex)(wt lb:Nat):Bs×Nat:=((Lb a args wt lb).1++(JD [OX,Mc (a.func name)]++(if args.isEmpty then []else JS Rj args.length)),(Lb a args wt lb).2)
theorem kU {a:Ke}{name:Bs}{args:List Ex}{wt lb:Nat}{n:Nat}(b:n+(Pz a name args wt lb).1.length≤1000000):n+(Lb a args wt lb).1.length+(JD [OX,Mc (a.func name)]).length+(if args.isEmpty then []else JS Rj args.length:Bs).length≤1000000:=by
 unfold Pz at b;simp only [M]at b;omega
theorem zK6 (p:JQ)(f:Pg.Fn)(name:Bs)(args:List Ex)(hg:∀ x∈args,XC p f x)(c:Cn)(U:Nat→Prop)(g:Option Nat)(lv:h)(w:Y)(l:Bs)(lb wt:Nat)(lp:List Bs)(v:h)
 (N:CW c g l lb wt lp lv w) (Z:Lc (JI p f) c U g lv w) (h0:Ju KE U w args v) (hh:∃ i,JR name (p.JY.map Pg.Fn.name)=some i) (xl:p.JY.length≤64) (hi:lb+Jz args≤100000) (h2:wt+Jz args≤100000) (hj:l.length+(Pz (JI p f) name args wt lb).1.length≤1000000):
 As prog 196 #[Ae (some ⟨c.b,0,none⟩),Aa (str name),v] w (MB c g lv w (l++(Pz (JI p f) name args wt lb).1) (Pz (JI p f) name args wt lb).2 wt lp):=by
 have hk:=SS.start N Z;obtain⟨A,xm,rfl⟩:=JB h0;obtain⟨n,h3⟩:=JH args.length;have hl:=D h0;have hm:=D hg;have t:=D h3;have x1:=D Z.nu;have x2:=D hk;have hn:=D hh;have h4:=D (Ct hi h2);have h5:=D hj;rw [←h3];clear N Z h0 hg hk hh hi h2 hj h3;go_enter func196,ntmps196;go_wp2;go_loopw [11] (fun s x3=>∃ (i:Nat) (ho:Option Nat) (h6:h) (O:Bs) (a:Nat),s=V Ad i∧i≤n∧AA (SS (JI p f) c U g lv w ho h6 O a (wt+i) lp x3)∧AA (O++(Lb (JI p f) (args.drop i) (wt+i) a).1=l++(Lb (JI p f) args wt lb).1∧(Lb (JI p f) (args.drop i) (wt+i) a).2=(Lb (JI p f) args wt lb).2∧a+Jz (args.drop i)≤lb+Jz args∧i+Jz (args.drop i)≤Jz args)) (fun s _=>n - (AX s).toNat)
 case atStart=>exact⟨0,g,lv,l,lb,rfl,by omega,x2,D (by simp)⟩
 case round=>
  obtain⟨i,ho,h6,O,a,rfl,xn,B,P⟩:=hrel;by_cases x4:i<n
  ·obtain⟨x,Q⟩:∃ x,args[i]?= some x:=⟨_,Al (show i<args.length by rw [←t.out];exact x4)⟩
   obtain⟨b,o,xo,cs,hp, -,h7,hq⟩:=(hl.out.upd B.out.rl.upd x1.out (fun _ q=>q)).elem Q;have h8:args.drop i=x::args.drop (i+1):=by
    obtain⟨h1,h9⟩:=Ao.1 Q;rw [AR h1,h9]
   obtain⟨d,m,ha,E⟩:=P.out;rw [h8,Lb]at d m;dsimp only at d m;rw [h8,Jz]at ha E;have hr:=hm.out x (AD Q);have hs:=h7;obtain⟨k,op,num,u,y⟩:=x;rw [show KE.rep=OV from rfl,OZ]at hs;obtain⟨xp,rfl,ht⟩:=hs;obtain⟨x5,x6,rfl⟩:=JB ht;rw [←t.out]at hp;injection hp with x7 xq x8
   subst x7 x8;have x9:=D hq;have hu:=D (KE.upd h7 (Gl (G:=fun _=>False) ((Ext.refl wr).alloc (Ab #[V Ad k,V Ad op,V Af num,Aa (str u),J x5 y.length x6] 287))) (fun _ _ q=>q) (fun _ q=>q));have hv:=D hr;have F:=D (Ct d (Ct m (Ct ha E)));have R:=kU h5.out;have hw:=congrArg De d;simp only [M]at hw;have C:AA (O.length+(JW (JI p f) (.mk k op num u y) (wt+i) a).1.length+(JD [KL]).length≤1000000∧a+LY (.mk k op num u y)≤100000∧wt+i+LY (.mk k op num u y)≤100000):=D (by have:=h4.out;omega);have hb:=D (Ct (RY (JI p f) (.mk k op num u y) (wt+i) a) (show 1≤LY (.mk k op num u y) by rw [LY];omega));have xa:wt+i≤1000000:=by have:=C.out;omega
   clear hq h7 ht Q h8 d m ha E hr R hw P;generalize(.mk k op num u y:Ex)=x at hu hv F C hb;go_wp2_with (first|refine KV rfl Ax rfl x9.out Ki ?_|(go_at_call 192;refine(hv.out.s (B.out.ext ((Ext.refl wr).alloc _)) hu.out C.out.2.1 C.out.2.2 (by have:=C.out.1;omega) rfl).mono ?_;rintro e xb ⟨rfl,xr,xc,H⟩)|(go_at_call 193;refine(kR H.out xa (by have:=C.out.1;simp only [M];omega)).mono ?_;rintro e xd ⟨rfl,hx,I⟩));go_roundw
   case rel=>exact⟨i+1,hx,xc,_,_,by go_num,by omega,I,D ⟨by rw [←F.out.1];simp only [AG,H8],by rw [←F.out.2.1];rfl,by have:=F.out.2.2.1;have:=hb.out.1.2;omega,by have:=F.out.2.2.2;have:=hb.out.2;omega⟩⟩
   case measure=>simp [AX];omega
  ·have xe:i=n:=by omega
   subst xe;obtain⟨d,m, -,E⟩:=P.out;have xf:AA (i≤Jz args):=D (by omega);clear E;rw [show args.drop i=[]from by rw [t.out,Cu],Lb]at d m;rw [BP]at d;dsimp only at m;subst d m;obtain⟨j,T⟩:=hn.out;have xg:j≤9223372036854775807:=by have:=lastIdx_lt T;rw [AI]at this;omega
   have xh:AA (vI (p.JY.map Pg.Fn.name) (str name)=some (V Ad j)):=D (by unfold vI;rw [L6,T];rfl);have hc:AA ((JI p f).func name=j):=D (by unfold Ke.func;show(JR name (p.JY.map Pg.Fn.name)).getD 0=j;rw [T];rfl);obtain⟨hy,hd, -⟩:=(SX.of B.out).fm;have xi:AA ((c.xs (Lb (JI p f) args wt lb).2 (wt+i) h6)[4]?= some (Bj (some hy))):=D (by show some c.fm=_;rw [hd]);have xj:=D hd;have R:=kU h5.out;rw [hc.out]at R;have xk:AA ((l++(Lb (JI p f) args wt lb).1).length+(JD [OX,Mc j]).length≤1000000):=D (by simp only [M];omega);have hz:AA (Pz (JI p f) name args wt lb=((Lb (JI p f) args wt lb).1++(JD [OX,Mc j]++(if args.isEmpty then []else JS Rj args.length)),(Lb (JI p f) args wt lb).2)):=D (by unfold Pz;rw [hc.out]);have W:AA ((l++(Lb (JI p f) args wt lb).1++JD [OX,Mc j]).length+(if args.isEmpty then []else JS Rj args.length:Bs).length≤1000000):=D (by simp only [M];omega);clear P T hd R hm hn hl hc h5;generalize(Lb (JI p f) args wt lb).1=T1 at*
   generalize(Lb (JI p f) args wt lb).2=a at*
   generalize str name=S at*
   go_wp2;refine M5 [] B.out (fun z=>?_)
   iterate 6 refine JC z ?_
   refine JP z (fun w X=>X.Kv xi.out) ?_
   refine JC z ?_
   refine JX.take (i:=8) (oi:={dst:=some 29,op:=_,type:=_,pos:=_,after:=_,guard:=_}) (v:=?vq1) rfl (by kernel_rfl) (by kernel_rfl) (by kernel_rfl) (by kernel_rfl) (fun _ _ _ N=>N) (AO ⟨by rfl,?ax⟩) z ?jJ
   case ax=>(intro w X;have q:=X;obtain⟨xt,h1,h9⟩:=X.fm;rw [xj.out]at h1;injection h1 with h1;injection h1 with h1;subst h1;exact QY Yu _ _ rfl hy _ h9 rfl S rfl _ (by rw [xh.out];first|done|rfl))
   try simp only [Au,pA,pB,pC]
   refine JX.rd 9 (fun K r=>?_);go_simp;refine(rZ j _ xg (B.out.cw.tab.ext ((Ext.refl wr).drew))).mono ?_
   rintro e xb ⟨rfl,x0⟩;have H:=D ((B.out.ext ((Ext.refl wr).drew)).ext x0);clear x0;refine r.out _ _ ?_ (fun z=>?_)
   ·exact SX.of H.out
   clear r K
   try simp only [Au,pA,pB,pC]
   refine JX.rd 10 (fun K r=>?_);go_simp;refine r.out _ _ ?_ (fun z=>?_)
   ·exact(SX.of H.out).ext ((Ext.refl _).alloc _)
   clear r K
   try simp only [Au,pA,pB,pC]
   refine JX.rd 11 (fun K r=>?_);go_simp;refine(TD H.out [OX,Mc j] xk.out (by simp) (by simp) rfl rfl).mono ?_
   rintro e xd ⟨rfl,hx,I⟩;refine r.out _ _ ?_ (fun z=>?_)
   ·exact SX.of I.out
   clear r K
   try simp only [Au,pA,pB,pC]
   refine JV ?_
   by_cases he:i=0
   ·have L:args.isEmpty=true:=by rw [CL];exact BZ (by rw [←t.out];exact he)
    rw [L]at W;subst he;go_wp2_with fail;go_end0;rw [hz.out,L];have:=I.out.fin;rw [Dp,AG]at this;rw [if_pos rfl,BP];exact this
   ·have L:args.isEmpty=false:=by rw [AJ];intro q;rw [CL]at q;exact he (by rw [t.out,q];rfl)
    rw [L]at W;rw [←t.out]at W;have xu:i≤100000:=by have:=h4.out;have:=xf.out;omega
    have h2:wt≤100000:=by have:=h4.out;omega
    go_wp2_with (go_at_call 59;refine(Us I.out Rj i W.out (by omega) rfl rfl).mono ?_;rintro e xv ⟨rfl,xw,hf⟩;have xx:=hf.out.cw.Kv (i:=8) rfl;have f10:=hf.out.cw.QX 10);go_end0;rw [hz.out,L,←t.out];have:=(hf.out.p9 wt (v:=V Ad (wt:Int)) rfl).fin;rw [AG,AG]at this;exact this
end Go.Proofs.YtmkomefmgcpnbaaGreatDoor

import Derived.Test.YtmkomefmgcpnbaaGreatDoorMg6
import Derived.Deep.MidRow
set_option linter.all false
set_option maxHeartbeats 12800000
set_option maxRecDepth 100000
namespace Go.Proofs.YtmkomefmgcpnbaaGreatDoor
open Go Go.Proofs Go.RowKit Tryz Pg
open _root_.Array renaming getElem?_eq_getElem→Bc,getElem?_toList→CP,all_eq_true_iff_forall_mem→FH,getElem?_eq_some_iff→Ag
open Go renaming TypeId→AK,Value→h,World→Y,Act→CY,Calls→As,Ending→BX,Exit→EY,Operand→CC,Oper→B5,Program→BR,heap_alloc_new→Aj,maxLen→Bk,undef→Ca,yielded→BW,heap_alloc2_new→Ay,heap_alloc2_old→AP,Addr→Bi
open Go.Obj renaming cells→Ab
open Go.Value renaming slice→J,agg→AN,int→V,pointer→Ae,string→Aa,tuple→AZ,oneCell'→CT
open _root_.List renaming getElem?_append_left→Ce,getElem?_append_right→Cs,getElem?_eq_none→C5,getElem?_take→Dc,length_append→M,mem_cons→AH,not_mem_nil→Ba,size_toArray→Bz
open _root_.Nat renaming lt_of_lt_of_le→Ar,sub_self→GJ,succ_mul→FD,le_refl→Aw,zero_add→BF,eq_of_beq_eq_true→Ap
open _root_.Or renaming inl→AO,inr→AB
open Go.Addr renaming add→Fa
open Go.Ending renaming returned→Ak
open Go.IntKind renaming i64→Ad,u32→Af
open Go.Lib renaming hid→D
open Go.Oper renaming wp→Cb
open Go.Region renaming wanted→AQ
open Go.RowKit renaming Hid→AA
open Go.Proofs renaming enters_of→F8,intOf→AX
open Go.Instr renaming build→D8
open Go.Proofs.Tryz renaming func223→E4,ntmps223→EE,results223→D0,underlying287→Ax
open Go.Result renaming ok→Ez
open _root_.Bool renaming eq_false_iff→AJ
theorem Xa {g:Nat}{e:AK}:∀ (vs:List h)(o:Nat)(w:Y)(cur:Array h),w.heap[g]?= some (Ab cur e (0,0))→
 ∃a,(w.setCells g o vs).heap[g]?= some (Ab a e (0,0))∧a.size=cur.size∧∀ k,k<cur.size→a[k]?= if o≤k∧k<o+vs.length then vs[k - o]? else cur[k]?
 |[],o,w,cur,b=>⟨cur,b,rfl,fun k _=>by rw [if_neg (fun q=>by have:=q.2;simp at this;omega)]⟩
 |v::vs,o,w,cur,b=>by
  obtain⟨c,h1,d,f⟩:=Xa vs (o+1) (w.setCell ⟨g,o,none⟩ v) (cur.setIfInBounds o v) (JJ b o v);refine⟨c,h1,by rw [d];simp,fun k i=>?_⟩;rw [f k (by simpa using i),zN8];by_cases q:o=k
  ·subst q;rw [if_neg (by omega),if_pos rfl,if_pos (by omega),if_pos ⟨by omega,by simp⟩,GJ];rfl
  ·by_cases q2:o+1≤k∧k<o+1+vs.length
   ·rw [if_pos q2,if_pos ⟨by omega,by simp;omega⟩,show k - o=(k - (o+1))+1 by omega];rfl
   ·rw [if_neg q2,if_neg q,if_neg (by simp;omega)]
theorem VT {g:Nat}{G:Nat→Prop}(b:G g):∀ (vs:List h)(o:Nat)(w:Y),JK G w (w.setCells g o vs)
 |[],_,w=>JK.refl w
 |v::vs,o,w=>(JK.setCell (p:=⟨g,o,none⟩) (JK.refl w) (AB b) v).trans (VT b vs (o+1) _)
theorem zb5 {w:Y}{base size n:Nat}{e:AK}{v:h}{xs d vs:List h}(o:w.ownsRow base e size v (n+1) (xs++d))(a:xs.length=n*size)(f:vs.length=size)(y:0<size):
 ∃g cap,v=J (some ⟨g,0,none⟩) (n+1) cap∧base≤g∧w.there g (n*size) size∧(w.setCells g (n*size) vs).ownsRow base e size v (n+1) (xs++vs):=by
 rcases o.2 with⟨_,z⟩|⟨g,cap,cur,rfl,k,b,l,p,hc,q⟩
 ·omega
 have B:n*size+size≤cur.size:=by
  rw [hc,←FD];exact Nat.mul_le_mul_right size l
 refine⟨g,cap,rfl,k,fun j C=>⟨?_,JF b _⟩,?_⟩
 ·rw [JA b,Bc (by omega)];rfl
 ·obtain⟨r,s,t,u⟩:=Xa vs (n*size) w cur b;refine⟨by rw [M,a,f,FD],AB ⟨g,cap,r,rfl,k,s,l,p,by rw [t,hc],?_⟩⟩;have hlen:(n+1)*size=n*size+size:=FD n size;apply List.ext_getElem?;intro i;rw [Dc];by_cases c:i<(n+1)*size
  ·rw [if_pos c,CP,u i (by omega)];by_cases x:n*size≤i
   ·rw [if_pos ⟨x,by omega⟩,Cs (by omega),a]
   ·rw [if_neg (by omega),Ce (by omega)];have m:(cur.toList.take ((n+1)*size))[i]?= (xs++d)[i]? :=by rw [q]
    rw [Dc,if_pos c,CP,Ce (by omega)]at m;exact m
  ·rw [if_neg c,C5 (by rw [M,a,f];omega)]
def RowK {α:Type}(K:Kind α)(e:AK)(base:Nat)(w:Y)(l:List α)(v:h):Prop:=
 ∃xs,w.ownsRow base e K.size v l.length xs∧NF K (fun k=>base≤k∧k<w.heap.size∧v.ownBlock≠some k) w l xs
section
variable {α:Type}{K:Kind α}{e:AK}{base:Nat}{w w':Y}{l:List α}{v v':h}
theorem RowK.nil (K:Kind α)(e:AK)(base:Nat)(w:Y):RowK K e base w [] (J none 0 0):=⟨[],⟨by simp,AO ⟨rfl,rfl⟩⟩,rfl⟩
theorem RowK.upd {G:Nat→Prop}(c:RowK K e base w l v)(u:JK G w w')(b:∀ k,base≤k→¬ G k):RowK K e base w' l v:=by
 obtain⟨xs,h1,d⟩:=c;refine⟨xs,KX h1 (fun g q=>u.block g (Kc h1 q).2 (b g (Kc h1 q).1)),d.upd u (fun k q=>b k q.1) (fun k q=>⟨q.1,Ar q.2.1 u.size,q.2.2⟩)⟩
theorem RowK.sl (b:RowK K e base w l v):Ju K (fun k=>base≤k∧k<w.heap.size) w l v:=by
 obtain⟨xs,h1,d⟩:=b;obtain⟨A,c,rfl,f,g,h,i⟩:=K7 h1;refine⟨A,c,xs,rfl,f,g,h,⟨i,fun a j=>?_⟩,d.upd (JK.refl w) (fun _ _ q=>q) (fun k q=>⟨q.1,q.2.1⟩)⟩;subst j;exact Kc h1 rfl
theorem RowK.own (a:RowK K e base w l v):∃ xs,w.ownsRow base e K.size v l.length xs:=by
 obtain⟨xs,h1,_⟩:=a;exact⟨xs,h1⟩
theorem RowK.snoc {a:α}{xs cs:List h}(f:NF K (fun k=>base≤k∧k<w.heap.size∧v.ownBlock≠some k) w l xs)(g:K.rep (fun k=>base≤k∧k<w.heap.size∧v.ownBlock≠some k) w a cs)
 (i:w'.ownsRow base e K.size v' (l.length+1) (xs++cs)) (b:w.grownBy w' v.ownBlock) (j:v'.ownBlock=v.ownBlock∨v'.ownBlock=some w.heap.size):RowK K e base w' (l++[a]) v':=by
 have m:JK (fun k=>v.ownBlock=some k) w w':=⟨b.os,b.tape,b.output,b.size,fun k n o=>b.block k n (fun q=>o q.symm)⟩;refine⟨xs++cs,by rw [M];exact i,(NF.snoc g f).upd m (fun k q=>q.2.2) (fun k q=>⟨q.1,Ar q.2.1 b.size,?_⟩)⟩;rcases j with d|d
 ·rw [d];exact q.2.2
 ·rw [d];intro c;have:w.heap.size=k:=by injection c
  omega
theorem RowK.put {a:α}{xs j cs:List h}(d:NF K (fun k=>base≤k∧k<w'.heap.size∧v'.ownBlock≠some k) w' l xs)(b:K.rep (fun k=>base≤k∧k<w'.heap.size∧v'.ownBlock≠some k) w' a cs)
 (m:w'.ownsRow base e K.size v' (l.length+1) (xs++j)):∃ g cap,v'=J (some ⟨g,0,none⟩) (l.length+1) cap∧base≤g∧w'.there g (l.length*K.size) cs.length∧RowK K e base (w'.setCells g (l.length*K.size) cs) (l++[a]) v':=by
 obtain⟨g,cap,f,n,o,p⟩:=zb5 (vs:=cs) m d.len (K.len b) K.pos;refine⟨g,cap,f,n,by rw [K.len b];exact o,xs++cs,by rw [M];exact p,?_⟩;have i:JK (fun k=>k=g) w' (w'.setCells g (l.length*K.size) cs):=VT (G:=fun k=>k=g) rfl _ _ _;exact(NF.snoc b d).upd i (fun k q c=>q.2.2 (by rw [f,c];rfl)) (fun k q=>⟨q.1,Ar q.2.1 i.size,q.2.2⟩)
end
theorem Ou {P:BR}{W:Y}{ops:Array B5}{o:B5}{a:CY}{K:CY→Y→Prop}{Q:EY→CY→Y→Prop}{e:Prop}(g:AQ o (BW ops a.tmps)=true)(c:AK)(x d:CC)(i:o.op=.store c x d)
 (b f:Nat) (cells:Array h) (j:a.eval x=Ae (some ⟨b,f,none⟩)) (hy:a.eval d=AN cells)
 (k:W.there b f cells.size) (l:(P.info? c).map (·.size)=some cells.size) (h1:cells.all (·.oneCell')=true)
 (m:K (a.put o.dst Ca) (W.setCells b f cells.toList)):if AQ o (BW ops a.tmps)=true then Cb P o a W K Q else e:=by
 rw [if_pos g];exact wp_store_mid c x d i b f cells j hy k l h1 m
theorem Np {cs:List h}(a:∀ v∈cs,v.oneCell'=true):cs.toArray.all (·.oneCell')=true:=FH.2 (fun v b=>a v (by simpa using b))
def zE:Array h:= #[V Ad 0,V Ad 0,V Af 0,Aa ⟨#[]⟩,J none 0 0]
theorem zI5:∀ u∈zE.toList,u.oneCell'=true:=by
 intro u a;simp only [zE,AH,Ba,or_false]at a;rcases a with rfl|rfl|rfl|rfl|rfl<;>rfl
theorem yV8:(prog.info? 287).map (fun i=>(i.zero,i.size,i.bytes))=some (some (AN zE),5,64):=by kernel_rfl
theorem Ki:(prog.info? 287).map (·.size)=some 5:=by kernel_rfl
def Su (w:Y)(g:Nat)(S:ByteArray)(q:PS)(x:Ex)(e:BX)(w':Y):Prop:=
 (∃cs:List h,e=Ak (AN cs.toArray)∧OV (fun k=>w.heap.size≤k∧k<w'.heap.size) w' x cs)∧PW w' g S q∧PX g w w'
structure TP (W:Y) (g b o:Nat) (acc:List Ex) (u v:h):Prop where
 bx:W.heap[b]?= some (Ab #[Ae (some ⟨g,0,none⟩)] 83 (0,0))
 out:W.heap[o]?= some (Ab #[u] 225 (0,0))
 row:RowK KE 287 (o+1) W acc v
structure Rdy (w W:Y) (g b o:Nat) (S:ByteArray) (q:PS) (acc:List Ex) (x:Ex) (v:h) (cs:List h) (z:Nat):Prop where
 row:∃ xs,W.ownsRow (o+1) 287 5 v acc.length xs∧NF KE (fun k=>o+1≤k∧k<W.heap.size∧v.ownBlock≠some k) W acc xs
 rep:KE.rep (fun k=>o+1≤k∧k<W.heap.size∧v.ownBlock≠some k) W x cs
 zero:Ol W (some ⟨z,0,none⟩) zE.toList
 pw:PW W g S q
 bx:W.heap[b]?= some (Ab #[Ae (some ⟨g,0,none⟩)] 83 (0,0))
 out:W.heap[o]?= some (Ab #[v] 225 (0,0))
 up:JK (fun k=>k=g∨o≤k) w W
 base:o+1≤W.heap.size
section
variable {w w1 W:Y}{g b o:Nat}{S:ByteArray}{q:PS}{acc:List Ex}{x:Ex}{v:h}{cs:List h}
theorem zI6 (l:g<b)(m:b<o)(a:TP w g b o acc v v)(d:PX g w W){lo:Nat}(n:w.heap.size≤lo)(e:PW W g S q)(f:OV (fun k=>lo≤k∧k<W.heap.size) W x cs)(z:Nat)(h:Ol W (some ⟨z,0,none⟩) zE.toList):Rdy w W g b o S q acc x v cs z:=by
 have p:=(Ag.1 a.out).1;have i:=a.row.upd d (fun k r q2=>by have q3:k=g:=q2;omega);obtain⟨s,j⟩:=a.row.own;refine⟨i,UU (JK.refl (G:=fun _=>False) W) (fun _ _ q=>q) (fun k q=>⟨by omega,q.2,fun c=>?_⟩) x cs f,h,e,d.heap a.bx (fun q=>by have q3:b=g:=q;omega),d.heap a.out (fun q=>by have q3:o=g:=q;omega),d.mono (fun k _ q=>AO q),by have:=d.size;omega⟩;have:=(Kc j c).2;omega
theorem uK (W:Y)(e:AK):Ol (W.alloc (Ab zE e)) (some ⟨W.heap.size,0,none⟩) zE.toList:=by
 intro i u a;refine⟨_,rfl,?_⟩;rw [MW,BF,JA (Aj W _)];simpa using a
theorem yo7 (a:g<b)(c:b<o)(d:TP w g b o acc v v)(f:PW w1 g S q)(h:PX g w.drew w1)(i:OV (fun k=>w.drew.heap.size≤k∧k<w1.heap.size) w1 x cs)(e:AK):Rdy w (w1.alloc (Ab zE e)) g b o S q acc x v cs w1.heap.size:=by
 have j:=(Gl ((Ext.refl w).drew)).trans h;refine zI6 a c d (j.alloc _) (Aw _) (f.ext ((Ext.refl w1).alloc _)) ?_ _ (uK w1 e)
 exact UU (Gl (G:=fun _=>False) ((Ext.refl w1).alloc _)) (fun _ _ q=>q) (fun k q=>⟨q.1,by have:=q.2;simp;omega⟩) x cs i
theorem yo8 (h:g<b)(j:b<o)(c:TP w g b o acc v v)(e:AK)(l:PW w1 g S q)(d:PX g (w.alloc (Ab zE e)).drew w1)(m:OV (fun k=>(w.alloc (Ab zE e)).drew.heap.size≤k∧k<w1.heap.size) w1 x cs):Rdy w w1 g b o S q acc x v cs w.heap.size:=by
 have n:=(Gl (((Ext.refl w).alloc _).drew)).trans d;have r:=(Ag.1 c.out).1;refine zI6 h j c n (lo:=(w.alloc (Ab zE e)).drew.heap.size) (by show w.heap.size≤(w.alloc (Ab zE e)).heap.size;simp) l m _ ?_
 intro i u p;obtain⟨a,f,hc⟩:=uK w e i u p;refine⟨a,f,d.cell (w:=(w.alloc (Ab zE e)).drew) hc (fun q=>?_)⟩;have s:(a.add i).block=a.block:=by unfold Fa;split<;>rfl
 have t:a.block=w.heap.size:=by cases f;rfl
 omega
end
structure Pt (w W:Y) (g b o:Nat) (S:ByteArray) (q:PS) (acc:List Ex) (x:Ex) (u v':h) (cs xs:List h):Prop where
 own:W.ownsRow (o+1) 287 5 v' (acc.length+1) (xs++zE.toList)
 yN1:NF KE (fun k=>o+1≤k∧k<W.heap.size∧v'.ownBlock≠some k) W acc xs
 rep:KE.rep (fun k=>o+1≤k∧k<W.heap.size∧v'.ownBlock≠some k) W x cs
 pw:PW W g S q
 bx:W.heap[b]?= some (Ab #[Ae (some ⟨g,0,none⟩)] 83 (0,0))
 out:W.heap[o]?= some (Ab #[u] 225 (0,0))
 up:JK (fun k=>k=g∨o≤k) w W
structure uL (w W:Y) (g b o:Nat) (S:ByteArray) (q:PS) (acc:List Ex) (u v':h):Prop where
 box:TP W g b o acc u v'
 pw:PW W g S q
 up:JK (fun k=>k=g∨o≤k) w W
section
variable {w W w2:Y}{g b o:Nat}{S:ByteArray}{q:PS}{acc:List Ex}{x:Ex}{u v v':h}{cs xs:List h}{z:Nat}
theorem zb6 (y:g<b)(A:b<o)(e:Rdy w W g b o S q acc x v cs z)(n:NF KE (fun k=>o+1≤k∧k<W.heap.size∧v.ownBlock≠some k) W acc xs)(p:W.ownsRow (o+1) 287 5 v acc.length xs)
 (r:w2.ownsRow (o+1) 287 5 v' (acc.length+1) (xs++zE.toList)) (d:W.grownBy w2 v.ownBlock) (s:v'.ownBlock=v.ownBlock∨v'.ownBlock=some W.heap.size):Pt w w2 g b o S q acc x v v' cs xs:=by
 have a:JK (fun k=>v.ownBlock=some k) W w2:=⟨d.os,d.tape,d.output,d.size,fun k l t=>d.block k l (fun q=>t q.symm)⟩;have m:∀ k,(o+1≤k∧k<W.heap.size∧v.ownBlock≠some k)→o+1≤k∧k<w2.heap.size∧v'.ownBlock≠some k:=fun k q=>by
  refine⟨q.1,Ar q.2.1 d.size,?_⟩;rcases s with h|h
  ·rw [h];exact q.2.2
  ·rw [h];intro c;have:W.heap.size=k:=by injection c
   omega
 have i:∀ k,v.ownBlock=some k→o+1≤k:=fun k q=>(Kc p q).1
 have j:∀ k,k≤o→v.ownBlock≠some k:=fun k l q=>by have:=i k q;omega
 refine⟨r,n.upd a (fun k q=>q.2.2) m,KE.upd e.rep a (fun k q=>q.2.2) m,?_,a.heap e.bx (j b (by omega)),a.heap e.out (j o (Aw _)),e.up.trans (a.mono (fun k _ q=>AB (by have:=i k q;omega)))⟩;have f:=e.pw;have u:g≤o:=by omega
 exact⟨f.at_.upd a (j g u),f.tab.upd a (fun k q=>by have:=i k q;have:=f.g13;omega),f.g13,f.hs⟩
theorem Pt.box (h:g<b)(i:b<o)(a:Pt w W g b o S q acc x u v' cs xs):Pt w (W.setCell ⟨o,0,none⟩ v') g b o S q acc x v' v' cs xs:=by
 have d:=JK.setCell (G:=fun k=>k=o) (p:=⟨o,0,none⟩) (JK.refl W) (AB rfl) v';refine⟨KX a.own (fun k f=>d.block k (Kc a.own f).2 (fun c=>by have:=(Kc a.own f).1;have e:k=o:=c;omega)),a.yN1.upd d (fun k q c=>by have e:k=o:=c;omega) (fun k q=>⟨q.1,Ar q.2.1 d.size,q.2.2⟩),KE.upd a.rep d (fun k q c=>by have e:k=o:=c;omega) (fun k q=>⟨q.1,Ar q.2.1 d.size,q.2.2⟩),?_,d.heap a.bx (fun c=>by have e:b=o:=c;omega),JJ a.out 0 v',a.up.trans (d.mono (fun k _ c=>AB (by have e:k=o:=c;omega)))⟩;exact⟨a.pw.at_.upd d (fun c=>by have e:g=o:=c;omega),a.pw.tab.upd d (fun k c=>by have e:k=o:=c;have:=a.pw.g13;omega),a.pw.g13,a.pw.hs⟩
theorem Pt.put (l:g<b)(m:b<o)(d:Pt w W g b o S q acc x u v' cs xs):∃ a cap,v'=J (some ⟨a,0,none⟩) (acc.length+1) cap∧o<a∧a<W.heap.size∧W.there a (acc.length*5) cs.length∧uL w (W.setCells a (acc.length*5) cs) g b o S q (acc++[x]) u v':=by
 obtain⟨a,cap,h1,n,h,i⟩:=RowK.put d.yN1 d.rep d.own;have e:JK (fun k=>k=a) W (W.setCells a (acc.length*5) cs):=VT (G:=fun k=>k=a) rfl _ _ _;have j:=(Kc d.own (g:=a) (by rw [h1];rfl)).2;refine⟨a,cap,h1,by omega,j,h,⟨e.heap d.bx (fun c=>by have f:b=a:=c;omega),e.heap d.out (fun c=>by have f:o=a:=c;omega),i⟩,?_,d.up.trans (e.mono (fun k _ c=>AB (by have f:k=a:=c;omega)))⟩;exact⟨d.pw.at_.upd e (fun c=>by have f:g=a:=c;omega),d.pw.tab.upd e (fun k c=>by have f:k=a:=c;have:=d.pw.g13;omega),d.pw.g13,d.pw.hs⟩
theorem uL.Yb (f:g<b)(h:b<o)(a:uL w W g b o S q acc u v'):uL w (W.setCell ⟨o,0,none⟩ v') g b o S q acc v' v':=by
 have d:=JK.setCell (G:=fun k=>k=o) (p:=⟨o,0,none⟩) (JK.refl W) (AB rfl) v';refine⟨⟨d.heap a.box.bx (fun c=>by have e:b=o:=c;omega),JJ a.box.out 0 v',a.box.row.upd d (fun k q c=>by have e:k=o:=c;omega)⟩,?_,a.up.trans (d.mono (fun k _ c=>AB (by have e:k=o:=c;omega)))⟩;exact⟨a.pw.at_.upd d (fun c=>by have e:g=o:=c;omega),a.pw.tab.upd d (fun k c=>by have e:k=o:=c;have:=a.pw.g13;omega),a.pw.g13,a.pw.hs⟩
end
def z92 (w:Y)(g b o:Nat)(S:ByteArray)(q:PS)(acc:List Ex)(e:BX)(w':Y):Prop:=e=Ak (AZ #[])∧∃ v,uL w w' g b o S q acc v v
theorem zb7 {g b o:Nat}{S:ByteArray}{p q:PS}{x:Ex}{acc:List Ex}{v:h}{w:Y}(f:g<b)(i:b<o)(hz:acc.length≤1000)
 (h6:∀ W,PW W g S p→As prog 176 #[Ae (some ⟨g,0,none⟩),V Ad 1] W (Su W g S q x)) (h7:PW w g S p) (H:TP w g b o acc v v):
 As prog 252 #[Ae (some ⟨o,0,none⟩),Ae (some ⟨b,0,none⟩)] w (z92 w g b o S q (acc++[x])):=by
 obtain⟨h8,h9,ha,hb,hc⟩:=info_parts yV8;have hd:=D h9;have he:=D ha;have hf:=D hb;have hg:=D hc;have hh:=D h6;have hi:=D h7;have hj:=D H;have hn:=D (JA H.out 0);have ho:=D (JA H.bx 0);have hk:AA (acc.length+1≤Bk):=D (by unfold Bk;omega);have hl:AA ((acc.length+1)*64≤140737488355328):=D (by omega);obtain⟨x0,hm⟩:=H.row.own;have hp:∃ A c,v=J A acc.length c:=by obtain⟨A,c,d,_⟩:=K7 hm;exact⟨A,c,d⟩
 obtain⟨h0,c0,hq⟩:=hp;have x1:(acc.length:Int)<(acc.length:Int)+1:=by omega
 clear h9 ha hb hc h6 h7 H hm;subst hq;go_enter func252,ntmps252;refine JX.go (fun w'=>w'.cell? ⟨o,0,none⟩=some (J h0 acc.length c0)∧w'.cell? ⟨b,0,none⟩=some (Ae (some ⟨g,0,none⟩))) [5,6,7,8] (⟨hn.out,ho.out⟩) (fun j=>?_)
 iterate 2 refine JC j ?_
 refine KM 3 j ?_
 refine Nl (rs:=[2,4]) (by kernel_rfl) (by simp) ?_
 refine(Lm.cons (o:={dst:=some 4,op:=_,type:=_,pos:=_,after:=_,guard:=_}) rfl (fun K a=>?_) (Lm.cons (o:={dst:=some 6,op:=_,type:=_,pos:=_,after:=_,guard:=_}) rfl (fun K a=>?_) Lm.nil))
 ·go_simp;(with_reducible refine(hh.out _ (hi.out.ext ((Ext.refl w).drew))).mono ?_)
  rintro e w1 ⟨⟨cs,rfl,I⟩,L,F⟩;have G:=D F;have hr:=D I;have hs:=D L;clear I L F;refine a.out _ _ (fun _=>?_) (fun M=>?_)
  ·exact⟨G.out.cell j.1 (by show ¬o=g;omega),G.out.cell j.2 (by show ¬b=g;omega)⟩
  have j:=M (by simp);clear a K M;refine JX.rd 4 (fun K a=>?_);go_simp;have m:=D (yo7 f i hj.out hs.out G.out hr.out 287);refine a.out _ _ ?_ (fun j=>?_)
  ·exact⟨((Ext.refl _).alloc _).cell j.1,((Ext.refl _).alloc _).cell j.2⟩
  clear a K;refine QN 5 (fun K a=>?_);obtain⟨xs,s,N⟩:=m.out.row;refine MI rfl _ _ 225 rfl (o+1) 287 h8 (AN zE) 5 64 underlying225 hd.out he.out hf.out hg.out rfl (by decide) (J h0 acc.length c0) acc.length xs (by rfl) s (some ⟨_,0,none⟩) 1 1 zE.toList (by rfl) m.out.zero rfl zI5 hk.out hl.out (m.out.base) ?_
  intro v' w2 O P Q;have k:=D (zb6 f i m.out N s O P Q);clear s N O P Q;obtain⟨h1,cap,t,ht,hu,R,T⟩:=k.out.put f i;have h2:=D R;have l:=D T;obtain⟨n,h3,r,_,_,u,y⟩:=(k.out.box f i).put f i;rw [t]at r;have h4:n=h1:=by injection r with U;injection U with X;injection X with z;exact z.symm
  have h5:h3=cap:=by injection r with U X z;exact z.symm
  subst h4 h5;rw [t]at u y;have Z:=D u;have B:=D y;have hv:=JF k.out.out 0;have hw:=bk k.out.out 0;have hx:=JF l.out.box.out 0;have hy:=bk l.out.box.out 0;have C:=D (KE.len k.out.rep);have E:=D (Np (KE.one k.out.rep));subst t;clear R T u y r;refine a.out _ _ ?_
  clear a K;refine Nl (rs:=[6,8]) (by kernel_rfl) (by simp) ?_
  refine(Lm.cons (o:={dst:=some 8,op:=_,type:=_,pos:=_,after:=_,guard:=_}) rfl (fun K a=>?_) (Lm.cons (o:={dst:=none,op:=_,type:=_,pos:=_,after:=_,guard:=_}) rfl (fun K a=>?_) Lm.nil))
  ·go_simp;refine a.out _ _ (fun d=>absurd d (by simp)) (fun _=>?_);clear a K;refine Nl (rs:=[7,8]) (by kernel_rfl) (by simp) ?_
   refine(Lm.cons (o:={dst:=none,op:=_,type:=_,pos:=_,after:=_,guard:=_}) rfl (fun K a=>?_) (Lm.cons (o:={dst:=none,op:=_,type:=_,pos:=_,after:=_,guard:=_}) rfl (fun K a=>?_) Lm.nil))
   ·refine Ou rfl 287 _ _ rfl n (acc.length*5) cs.toArray (by rfl) (by rfl) (by rw [Bz];exact h2.out) (by rw [Bz,C.out];exact Ki) E.out ?_
    refine a.out _ _ (fun d=>absurd d (by simp)) (fun _=>?_);clear a K;refine QN 8 (fun K a=>?_);go_simp;refine a.out _ _ ?_
    clear a K;refine JV ?_
    go_end0
    first
     |exact⟨rfl,_,l.out.Yb f i⟩
     |exact⟨rfl,_,B.out⟩
   ·go_simp;refine a.out _ _ (fun d=>absurd d (by simp)) (fun _=>?_);clear a K;refine QN 7 (fun K a=>?_);refine Ou rfl 287 _ _ rfl n (acc.length*5) cs.toArray (by rfl) (by rfl) (by rw [Bz];exact Z.out) (by rw [Bz,C.out];exact Ki) E.out ?_
    refine a.out _ _ ?_
    clear a K;refine JV ?_
    go_end0
    first
     |exact⟨rfl,_,l.out.Yb f i⟩
     |exact⟨rfl,_,B.out⟩
  ·go_simp;refine a.out _ _ (fun d=>absurd d (by simp)) (fun _=>?_);clear a K;refine QN 6 (fun K a=>?_);go_simp;refine a.out _ _ ?_
   clear a K;refine QN 7 (fun K a=>?_);refine Ou rfl 287 _ _ rfl n (acc.length*5) cs.toArray (by rfl) (by rfl) (by rw [Bz];exact Z.out) (by rw [Bz,C.out];exact Ki) E.out ?_
   refine a.out _ _ ?_
   clear a K;refine JV ?_
   go_end0
   first
    |exact⟨rfl,_,l.out.Yb f i⟩
    |exact⟨rfl,_,B.out⟩
 ·go_simp;refine a.out _ _ (fun _=>?_) (fun M=>?_)
  ·exact⟨((Ext.refl _).alloc _).cell j.1,((Ext.refl _).alloc _).cell j.2⟩
  have j:=M (by simp);clear a K M;refine JX.rd 2 (fun K a=>?_);go_simp;(with_reducible refine(hh.out _ (hi.out.ext (((Ext.refl w).alloc _).drew))).mono ?_)
  rintro e w1 ⟨⟨cs,rfl,I⟩,L,F⟩;have G:=D F;have m:=D (yo8 f i hj.out _ L F I);clear I L F;refine a.out _ _ ?_ (fun j=>?_)
  ·exact⟨G.out.cell j.1 (by show ¬o=g;omega),G.out.cell j.2 (by show ¬b=g;omega)⟩
  clear a K;refine QN 5 (fun K a=>?_);obtain⟨xs,s,N⟩:=m.out.row;refine MI rfl _ _ 225 rfl (o+1) 287 h8 (AN zE) 5 64 underlying225 hd.out he.out hf.out hg.out rfl (by decide) (J h0 acc.length c0) acc.length xs (by rfl) s (some ⟨_,0,none⟩) 1 1 zE.toList (by rfl) m.out.zero rfl zI5 hk.out hl.out (m.out.base) ?_
  intro v' w2 O P Q;have k:=D (zb6 f i m.out N s O P Q);clear s N O P Q;obtain⟨h1,cap,t,ht,hu,R,T⟩:=k.out.put f i;have h2:=D R;have l:=D T;obtain⟨n,h3,r,_,_,u,y⟩:=(k.out.box f i).put f i;rw [t]at r;have h4:n=h1:=by injection r with U;injection U with X;injection X with z;exact z.symm
  have h5:h3=cap:=by injection r with U X z;exact z.symm
  subst h4 h5;rw [t]at u y;have Z:=D u;have B:=D y;have hv:=JF k.out.out 0;have hw:=bk k.out.out 0;have hx:=JF l.out.box.out 0;have hy:=bk l.out.box.out 0;have C:=D (KE.len k.out.rep);have E:=D (Np (KE.one k.out.rep));subst t;clear R T u y r;refine a.out _ _ ?_
  clear a K;refine Nl (rs:=[6,8]) (by kernel_rfl) (by simp) ?_
  refine(Lm.cons (o:={dst:=some 8,op:=_,type:=_,pos:=_,after:=_,guard:=_}) rfl (fun K a=>?_) (Lm.cons (o:={dst:=none,op:=_,type:=_,pos:=_,after:=_,guard:=_}) rfl (fun K a=>?_) Lm.nil))
  ·go_simp;refine a.out _ _ (fun d=>absurd d (by simp)) (fun _=>?_);clear a K;refine Nl (rs:=[7,8]) (by kernel_rfl) (by simp) ?_
   refine(Lm.cons (o:={dst:=none,op:=_,type:=_,pos:=_,after:=_,guard:=_}) rfl (fun K a=>?_) (Lm.cons (o:={dst:=none,op:=_,type:=_,pos:=_,after:=_,guard:=_}) rfl (fun K a=>?_) Lm.nil))
   ·refine Ou rfl 287 _ _ rfl n (acc.length*5) cs.toArray (by rfl) (by rfl) (by rw [Bz];exact h2.out) (by rw [Bz,C.out];exact Ki) E.out ?_
    refine a.out _ _ (fun d=>absurd d (by simp)) (fun _=>?_);clear a K;refine QN 8 (fun K a=>?_);go_simp;refine a.out _ _ ?_
    clear a K;refine JV ?_
    go_end0
    first
     |exact⟨rfl,_,l.out.Yb f i⟩
     |exact⟨rfl,_,B.out⟩
   ·go_simp;refine a.out _ _ (fun d=>absurd d (by simp)) (fun _=>?_);clear a K;refine QN 7 (fun K a=>?_);refine Ou rfl 287 _ _ rfl n (acc.length*5) cs.toArray (by rfl) (by rfl) (by rw [Bz];exact Z.out) (by rw [Bz,C.out];exact Ki) E.out ?_
    refine a.out _ _ ?_
    clear a K;refine JV ?_
    go_end0
    first
     |exact⟨rfl,_,l.out.Yb f i⟩
     |exact⟨rfl,_,B.out⟩
  ·go_simp;refine a.out _ _ (fun d=>absurd d (by simp)) (fun _=>?_);clear a K;refine QN 6 (fun K a=>?_);go_simp;refine a.out _ _ ?_
   clear a K;refine QN 7 (fun K a=>?_);refine Ou rfl 287 _ _ rfl n (acc.length*5) cs.toArray (by rfl) (by rfl) (by rw [Bz];exact Z.out) (by rw [Bz,C.out];exact Ki) E.out ?_
   refine a.out _ _ ?_
   clear a K;refine JV ?_
   go_end0
   first
    |exact⟨rfl,_,l.out.Yb f i⟩
    |exact⟨rfl,_,B.out⟩
def Ps (g:Nat)(S:ByteArray)(n:Nat):Prop:=∀ (least:Nat)(p:PS)(e:Ex)(q:PS)(w:Y),M3 n least p=some (e,q)→PW w g S p→As prog 176 #[Ae (some ⟨g,0,none⟩),V Ad least] w (Su w g S q e)
def je (g:Nat)(S:ByteArray)(n:Nat):Prop:=∀ (p:PS)(e:Ex)(q:PS)(w:Y),XP n p=some (e,q)→PW w g S p→As prog 223 #[Ae (some ⟨g,0,none⟩)] w (Su w g S q e)
def zb8 {α:Type}(K:Kind α)(w:Y)(g:Nat)(S:ByteArray)(q:PS)(l:List α)(e:BX)(w':Y):Prop:=
 (∃v,e=Ak v∧Ju K (fun k=>w.heap.size≤k∧k<w'.heap.size) w' l v)∧PW w' g S q∧PX g w w'
def TQ (g:Nat)(S:ByteArray)(n:Nat):Prop:=∀ (p:PS)(l:List Ex)(q:PS)(w:Y),Vl n p=some (l,q)→PW w g S p→As prog 222 #[Ae (some ⟨g,0,none⟩)] w (zb8 KE w g S q l)
theorem Mh {w:Y}{g:Nat}{S:ByteArray}{p q:PS}{s:Bs}(c:PW w g S p)(d:KD s p=some q){b:Nat}(e:w.heap[b]?= some (Ab #[Aa (str s)] 9 (0,0)))(f:b≠g):
 As prog 88 #[Ae (some ⟨g,0,none⟩),J (some ⟨b,0,none⟩) 1 1] w (fU w g S q (AZ #[])):=by
 refine oq (l:=[s]) c (by unfold WS WS;rw [d]) b 0 1 f (by simp) (fun j t a=>?_);rw [JA e];cases j with
 |zero=>cases a;rfl
 |succ j=>simp at a
theorem aD {w:Y}{g:Nat}{S:ByteArray}{p q c:PS}{s t:Bs}(d:PW w g S p)(e:KD s p=some q)(f:KD t q=some c){b:Nat}(h:w.heap[b]?= some (Ab #[Aa (str s),Aa (str t)] 9 (0,0)))(i:b≠g):
 As prog 88 #[Ae (some ⟨g,0,none⟩),J (some ⟨b,0,none⟩) 2 2] w (fU w g S c (AZ #[])):=by
 refine oq (l:=[s,t]) d (by unfold WS;rw [e];dsimp only;unfold WS WS;rw [f]) b 0 2 i (by simp) (fun j u a=>?_);rw [JA h];cases j with
 |zero=>cases a;rfl
 |succ j=>
  cases j with
  |zero=>cases a;rfl
  |succ j=>simp at a
theorem TP.upd {W c:Y}{g b o:Nat}{acc:List Ex}{v:h}{G:Nat→Prop}(a:TP W g b o acc v v)(u:JK G W c)(e:¬ G b)(d:∀ k,o≤k→¬ G k):TP c g b o acc v v:=
 ⟨u.heap a.bx e,u.heap a.out (d o (Aw _)),a.row.upd u (fun k f=>d k (by omega))⟩
theorem z94 {g:Nat}{S:ByteArray}{n:Nat}(hb:n≤1000)(j:∀ m,m<n→Ps g S m):TQ g S n:=by
 intro p l q w a i;cases n with
 |zero=>cases a
 |succ n=>
  rw [Vl]at a;have N:=i.lt;have r:=D (fun(W:Y) (x:Ext w W)=>zI0 g S p [41] W (i.ext x).at_);have O:=D i;split at a
  ·rename_i f;rw [f]at r;split at a
   ·cases a
   ·rename_i P c;cases a;have Q:=D (fun(W:Y) (x:Ext w W) (b:Nat) (f:W.heap[b]?= some (Ab #[Aa (str [41])] 9 (0,0))) (R:b≠g)=>Mh (i.ext x) (show KD [41] p=some q by unfold KD;rw [if_pos (by assumption)];exact c) f R);clear c f i j;go_enter func222,ntmps222;go_wp2_with fail;refine(r _ (((Ext.refl w).alloc _).alloc _)).mono ?_
    rintro e T ⟨rfl,rfl⟩;go_wp2_with fail;refine(Q _ ((((Ext.refl w).alloc _).alloc _).alloc _) _ (by have:=Aj ((w.alloc (Ab #[Ae (some ⟨g,0,none⟩)] 83)).alloc (Ab #[J none 0 0] 225)) (Ab #[Aa (str [41])] 9);simpa using this) (by omega)).mono ?_
    rintro e d ⟨rfl,s,h⟩;have U:d.cell? ⟨w.heap.size+1,0,none⟩=some (J none 0 0):=h.cell (((Ext.refl _).alloc _).cell (JA (Ay w _ _) 0)) (by show ¬w.heap.size+1=g;omega);have X:=D s;have j:=D ((Gl ((((Ext.refl w).alloc _).alloc _).alloc _)).trans h);clear s h;go_wp2_with fail;go_ret;exact⟨⟨_,rfl,Ju.nil _ _ _⟩,X,j⟩
  ·rename_i f;have o:JZ [41] p=false:=by simpa using f
   rw [o]at r;split at a
   ·cases a
   ·rename_i hc t u;split at a
    ·cases a
    ·rename_i P c;cases a;rw [ow]at u;have Z:=D u;have h0:=D c;clear c f o u;have h1:=D j;clear j i;go_enter func222,ntmps222;go_wp2_with fail;refine(r _ (((Ext.refl w).alloc _).alloc _)).mono ?_
     rintro e T ⟨rfl,rfl⟩;have h2:AA (TP ((w.alloc (Ab #[Ae (some ⟨g,0,none⟩)] 83)).alloc (Ab #[J none 0 0] 225)) g w.heap.size (w.heap.size+1) [] (J none 0 0) (J none 0 0)):=D ⟨AP w _ _,Ay w _ _,RowK.nil _ _ _ _⟩;have h3:=D (O.ext ((((Ext.refl w).alloc (Ab #[Ae (some ⟨g,0,none⟩)] 83))).alloc (Ab #[J none 0 0] 225)));have h4:=D (zI4 (fun m=>M3 m 1) g S n 252 #[Ae (some ⟨w.heap.size+1,0,none⟩),Ae (some ⟨w.heap.size,0,none⟩)] (F8 func252 (by kernel_rfl) rfl) (fun k=>k=g∨w.heap.size+1≤k) (AO rfl)
      (fun acc W=>∃ v,TP W g w.heap.size (w.heap.size+1) acc v v)
      (fun acc W hd ⟨v,y⟩ h=>⟨v,y.upd h (fun q=>by have q2:w.heap.size=g:=q;omega) (fun k z q=>by have q2:k=g:=q;omega)⟩)
      (fun m acc p1 x t W a h s ⟨v,y⟩=>(zb7 N (by omega) (by omega) (fun h5 h6=>h1 m (by omega) 1 p1 x t h5 h h6) s y).mono (fun e w' c=>⟨c.1,by obtain⟨E,A⟩:=c.2;exact⟨A.pw,⟨E,A.box⟩,A.up⟩⟩))
      p l t _ Z h3 ⟨_,h2⟩)
     go_wp2_with fail;refine h4.mono ?_
     rintro e d ⟨rfl,F,⟨E,o⟩,B⟩;have h7:=D F;have H:=D o;have h8:=D B;have he:w.heap.size+2≤d.heap.size:=by have:=B.size;simpa using this
     have hf:=bk H.bx 0;clear F o B;go_wp2_with fail;refine(Mh (h7.ext ((Ext.refl d).alloc _)) h0 (b:=d.heap.size) (Aj d _) (by omega)).mono ?_
     rintro e I ⟨rfl,K,L⟩;have h9:=D K;have C:PX g d I:=(Gl ((Ext.refl d).alloc _)).trans L;have M:=D (H.upd C (fun q=>by have q2:w.heap.size=g:=q;omega) (fun k z q=>by have q2:k=g:=q;omega));have ha:AA (PX g w I):=D (((Gl (((Ext.refl w).alloc _).alloc _)).trans ((h8.mono (fun k z q=>q)).trans (C.mono (fun k _ q=>AO q)))).mono (fun k z q=>by
      rcases q with q|q
      ·exact q
      ·omega))
     have U:=bk M.out.out 0;clear K L C;go_wp2_with fail;go_ret;exact⟨⟨_,rfl,(M.row.sl).upd (JK.refl (G:=fun _=>False) _) (fun _ _ q=>q) (fun k q=>⟨by omega,q.2⟩)⟩,h9,ha⟩
theorem VF (op:Nat)(w:Y)(a:op≤21):As prog 225 #[V Ad op] w (Ret (V Ad (J5 op:Nat)) w):=by
 have hc:op=0∨op=1∨op=2∨op=3∨op=4∨op=5∨op=6∨op=7∨op=8∨op=9∨op=10∨op=11∨op=12∨op=13∨op=14∨op=15∨op=16∨op=17∨op=18∨op=19∨op=20∨op=21:=by omega
 rcases hc with rfl|rfl|rfl|rfl|rfl|rfl|rfl|rfl|rfl|rfl|rfl|rfl|rfl|rfl|rfl|rfl|rfl|rfl|rfl|rfl|rfl|rfl
 all_goals
  go_enter func225,ntmps225;go_wp2;go_ret;exact⟨rfl,rfl⟩
theorem Nq {U:Nat→Prop}{w:Y}{e:Ex}{cs:List h}(b:OV U w e cs):∃ (k op num:Nat)(nm:Bs)(A:Option Bi)(n c:Nat),cs=[V Ad k,V Ad op,V Af num,Aa (str nm),J A n c]:=by
 cases e;rw [OZ]at b;obtain⟨v,rfl,A,c,xs,rfl,_⟩:=b;exact⟨_,_,_,_,_,_,_,rfl⟩
theorem Vr {α:Type}{K:Kind α}{U:Nat→Prop}{w:Y}{x:α}{cs:List h}{z:Nat}{e:AK}(b:w.heap[z]?= some (Ab cs.toArray e (0,0)))(c:K.rep U w x cs)(d:U z):Ju K U w [x] (J (some ⟨z,0,none⟩) 1 1):=by
 refine⟨_,1,cs,rfl,by simp,by simp [Bk],(fun q=>by cases q),⟨?_,fun a f=>by cases f;exact d⟩,cs,[],by simp,c,rfl⟩;intro i u g;refine⟨_,rfl,?_⟩;rw [MW,BF,JA b];simpa using g
theorem uO {α:Type}{K:Kind α}{U:Nat→Prop}{w:Y}{x b:α}{cs ds:List h}{z:Nat}{e:AK}(c:w.heap[z]?= some (Ab (cs++ds).toArray e (0,0)))(d:K.rep U w x cs)(f:K.rep U w b ds)(g:U z):Ju K U w [x,b] (J (some ⟨z,0,none⟩) 2 2):=by
 refine⟨_,2,cs++ds,rfl,by simp,by simp [Bk],(fun q=>by cases q),⟨?_,fun a j=>by cases j;exact g⟩,cs,ds,rfl,d,ds,[],by simp,f,rfl⟩;intro i u k;refine⟨_,rfl,?_⟩;rw [MW,BF,JA c];simpa using k
theorem UG {w W:Y}{g:Nat}{S:ByteArray}{q:PS}{e:Ex}{cs:List h}(f:PX g w W)(a:PW W g S q)(j:g<w.heap.size)(i:OV (fun k=>w.heap.size<k∧k<W.heap.size) W e cs):
 Su w g S q e (Ak (AN cs.toArray)) (W.setRow w.heap.size cs.toArray):=by
 have b:JK (fun k=>k=w.heap.size) W (W.setRow w.heap.size cs.toArray):=JK.setRow (G:=fun k=>k=w.heap.size) (JK.refl W) (AB rfl) _;refine⟨⟨cs,rfl,UU b (fun k q c=>by have d:k=w.heap.size:=c;omega) (fun k q=>⟨by omega,Ar q.2 b.size⟩) e cs i⟩,?_,f.setRow (AO (Aw _)) _⟩;exact⟨a.at_.upd b (fun c=>by have d:g=w.heap.size:=c;omega),a.tab.upd b (fun k c=>by have d:k=w.heap.size:=c;have:=a.g13;omega),a.g13,a.hs⟩
theorem nD (k op:Int)(A:Option Bi)(n c:Nat)(w:Y):(D8 287 #[(0,V Ad k),(1,V Ad op),(4,J A n c)]).run prog w=Ez (AN #[V Ad k,V Ad op,V Af 0,Aa ⟨#[]⟩,J A n c]) w:=by kernel_rfl
theorem VG (k op num:Int)(s:ByteArray)(A:Option Bi)(n c:Nat):(#[V Ad k,V Ad op,V Af num,Aa s,J A n c]:Array h).all (·.oneCell')=true:=by simp [CT]
def dP (p:PS)(k:Nat):Bool:=JZ (MM k) p
theorem z95 {g:Nat}{S:ByteArray}{n op:Nat}(h1:1≤op)(he:op≤3)(A:je g S n){p q l:PS}{x:Ex}{w:Y}(B:∀ j,1≤j→j<op→dP p j=false)(d:dP p op=true)(C:Kh p=some q)(f:XP n q=some (x,l))(h:PW w g S p):
 As prog 223 #[Ae (some ⟨g,0,none⟩)] w (Su w g S l (.mk 6 op 0 [] [x])):=by
 have N:=h.lt;have E:=D (fun(k:Nat) (W:Y) (e:Ext w W) (a:1≤k) (m:k≤3)=>VE k W (h.tab.ext e) a (by omega));have O:=D (fun(k:Nat) (W:Y) (e:Ext w W) (a:1≤k) (m:k<op)=>J8 (h.ext e) (B k a m));have P:=D (fun(W:Y) (e:Ext w W)=>LU (h.ext e) d C);have Q:=D (fun(W:Y) (R:PW W g S q)=>A q x l W f R);clear B d C f h A;go_enter E4,EE;go_wp2;go_loopw [3] (fun s wr=>∃ k:Nat,s=V Ad k∧1≤k∧k≤op∧Ext w wr∧wr.heap[w.heap.size]?= some (Ab zE 287 (0,0))) (fun s _=>4 - (AX s).toNat)
 case atStart=>exact⟨1,rfl,by omega,h1,(Ext.refl w).alloc _,Aj w _⟩
 case round=>
  obtain⟨k,rfl,a,m,f,d⟩:=hrel;have c:=D f;have F:=D d;clear f d;have H:k≤3:=by omega
  by_cases T:k<op
  ·have o:=D (E k wr c a H);have r:=D (O k (wr.alloc (Ab (Jw Pg.ops).toArray 9)) (c.alloc _) a T);have t:=D (c.alloc (Ab (Jw Pg.ops).toArray 9));have u:=D (CE ((Ext.refl wr).alloc (Ab (Jw Pg.ops).toArray 9)) F);generalize str (MM k)=sg at*
   generalize(Jw Pg.ops).toArray=cz at*
   go_wp2_with fail;refine o.out.mono ?_
   rintro e U ⟨rfl,rfl⟩;go_wp2_with fail;refine r.out.mono ?_
   rintro e v ⟨rfl,rfl⟩;go_wp2_with fail;go_roundw
   case rel=>exact⟨k+1,by go_num,by omega,by omega,t,u⟩
   case measure=>simp [AX];omega
  ·have X:k=op:=by omega
   subst X;have o:=D (E k wr c a H);have r:=D (P (wr.alloc (Ab (Jw Pg.ops).toArray 9)) (c.alloc _));have t:=D (c.alloc (Ab (Jw Pg.ops).toArray 9));have u:=D (CE ((Ext.refl wr).alloc (Ab (Jw Pg.ops).toArray 9)) F);generalize Z:str (MM k)=sg at*
   generalize(Jw Pg.ops).toArray=cz at*
   clear Z;go_wp2_with fail;refine o.out.mono ?_
   rintro e U ⟨rfl,rfl⟩;go_wp2_with fail;refine r.out.mono ?_
   rintro e v ⟨rfl,I,y⟩;have h0:=D ((Gl t).trans y);have K:=D (y.heap u (by show ¬w.heap.size=g;omega));have h2:=D I;clear I y;go_wp2_with fail;refine(Q _ h2).mono ?_
   rintro e b ⟨⟨cs,rfl,z⟩,L,i⟩;obtain⟨h3,h4,h5,h6,h7,h8,h9,rfl⟩:=Nq z;have ha:=D (h0.trans i);have hb:=D (i.heap K (by show ¬w.heap.size=g;omega));have hc:=D L;have hd:=D z;have hf:w.heap.size<v.heap.size:=(Ag.1 K).1;have hg:v.heap.size≤b.heap.size:=i.size;clear z L i;have hh:=fun W=>nD 6 k (some ⟨b.heap.size,0,none⟩) 1 1 W
   have M:=D (CE ((Ext.refl b).alloc (Ab #[V Ad h3,V Ad h4,V Af h5,Aa (str h6),J h7 h8 h9] 287)) hb);go_wp2_with (refine L8 rfl rfl rfl M Ki ?_ (h1:=(VG _ _ _ _ _ _ _)));refine K3 D0 Ax Ki (PO M) ?_
   refine UG (cs:=[V Ad 6,V Ad k,V Af 0,Aa ⟨#[]⟩,J (some ⟨b.heap.size,0,none⟩) 1 1]) (ha.alloc _) (hc.ext ((Ext.refl b).alloc _)) N ?_
   rw [OZ];exact⟨_,rfl,Vr (Aj b _) (KE.upd hd (Gl (G:=fun _=>False) ((Ext.refl b).alloc _)) (fun _ _ q=>q) (fun k q=>⟨by omega,by have:=q.2;simp;omega⟩)) ⟨by omega,by simp⟩⟩
theorem Yc {U:Nat→Prop}{W:Y}{k op num:Nat}{nm:Bs}{args:List Ex}{v:h}(a:Ju KE U W args v):OV U W (.mk k op num nm args) [V Ad k,V Ad op,V Af num,Aa (str nm),v]:=by
 rw [OZ];exact⟨v,rfl,a⟩
theorem arg_num {g:Nat}{S:ByteArray}{n:Nat}(A:Ps g S n)(B:TQ g S n){p:PS}{w:Y}(m:∀ j,1≤j→j≤3→dP p j=false)(a:PW w g S p){q:PS}(i:p.tok.kind=2)(o:Kh p=some q):
 As prog 223 #[Ae (some ⟨g,0,none⟩)] w (Su w g S q (.mk 1 0 p.tok.num [] [])):=by
 have C:=a.lt;have r:=D (fun(k:Nat) (W:Y) (e:Ext w W) (c:1≤k) (l:k≤3)=>VE k W (a.tab.ext e) c (by omega));have t:=D (fun(k:Nat) (W:Y) (e:Ext w W) (c:1≤k) (l:k≤3)=>J8 (a.ext e) (m k c l));have c1:w.cell? ⟨g,1,none⟩=some (V Ad p.tok.kind):=JA a.at_.b 1
 rw [i]at c1;have u:QP p=some (p.tok.num,q):=by unfold QP;rw [i,if_pos (by rfl),o]
 have E:=D (fun(W:Y) (e:Ext w W)=>YZ (a.ext e) u);clear o u;clear m a A B;go_enter E4,EE;go_wp2;go_loopw [3] (fun s wr=>∃ k:Nat,s=V Ad k∧1≤k∧k≤4∧Ext w wr∧wr.heap[w.heap.size]?= some (Ab zE 287 (0,0))) (fun s _=>4 - (AX s).toNat)
 case atStart=>exact⟨1,rfl,by omega,by omega,(Ext.refl w).alloc _,Aj w _⟩
 case round=>
  obtain⟨k,rfl,c,l,d,v⟩:=hrel;have f:=D d;have x:=D v;clear d v;by_cases y:k≤3
  ·have F:=D (r k wr f c y);have G:=D (t k (wr.alloc (Ab (Jw Pg.ops).toArray 9)) (f.alloc _) c y);have H:=D (f.alloc (Ab (Jw Pg.ops).toArray 9));have h:=D (CE ((Ext.refl wr).alloc (Ab (Jw Pg.ops).toArray 9)) x);generalize str (MM k)=sg at*
   generalize(Jw Pg.ops).toArray=cz at*
   clear c1;go_wp2_with fail;refine F.out.mono ?_
   rintro e N ⟨rfl,rfl⟩;go_wp2_with fail;refine G.out.mono ?_
   rintro e I ⟨rfl,rfl⟩;go_wp2_with fail;go_roundw
   case rel=>exact⟨k+1,by go_num,by omega,by omega,H,h⟩
   case measure=>simp [AX];omega
  ·have K:k=4:=by omega
   subst K;have O:=f.cell c1;clear c1 r t
   skip
   clear i;go_wp2_with fail;refine(E wr f).mono ?_
   rintro e I ⟨rfl,z,d⟩;have L:=D z;have M:=D ((Gl f).trans d);have h:=D (d.heap x (by show ¬w.heap.size=g;omega));clear z d;go_wp2_with (refine L8 rfl rfl rfl h Ki ?_);refine K3 D0 Ax Ki (PO h) ?_
   exact UG (cs:=[V Ad 1,V Ad 0,V Af p.tok.num,Aa ⟨#[]⟩,J none 0 0]) (M) (L) C (Yc (nm:=[]) (Ju.nil _ _ _))
theorem zb9 {g:Nat}{S:ByteArray}{n:Nat}(y:Ps g S n)(z:TQ g S n){p:PS}{w:Y}(m:∀ j,1≤j→j≤3→dP p j=false)(a:PW w g S p){q:PS}(A:p.tok.kind≠2)(h:JZ [103,101,116] p=true)(o:Kh p=some q):
 As prog 223 #[Ae (some ⟨g,0,none⟩)] w (Su w g S q (.mk 5 0 0 [] [])):=by
 have B:=a.lt;have r:=D (fun(k:Nat) (W:Y) (e:Ext w W) (c:1≤k) (l:k≤3)=>VE k W (a.tab.ext e) c (by omega));have t:=D (fun(k:Nat) (W:Y) (e:Ext w W) (c:1≤k) (l:k≤3)=>J8 (a.ext e) (m k c l));have c1:=JA a.at_.b 1
 have C:=D (fun(W:Y) (e:Ext w W)=>LU (a.ext e) h o);clear o;clear m a y z;go_enter E4,EE;go_wp2;go_loopw [3] (fun s wr=>∃ k:Nat,s=V Ad k∧1≤k∧k≤4∧Ext w wr∧wr.heap[w.heap.size]?= some (Ab zE 287 (0,0))) (fun s _=>4 - (AX s).toNat)
 case atStart=>exact⟨1,rfl,by omega,by omega,(Ext.refl w).alloc _,Aj w _⟩
 case round=>
  obtain⟨k,rfl,c,l,d,h⟩:=hrel;have f:=D d;have u:=D h;clear d h;by_cases v:k≤3
  ·have E:=D (r k wr f c v);have F:=D (t k (wr.alloc (Ab (Jw Pg.ops).toArray 9)) (f.alloc _) c v);have G:=D (f.alloc (Ab (Jw Pg.ops).toArray 9));have i:=D (CE ((Ext.refl wr).alloc (Ab (Jw Pg.ops).toArray 9)) u);generalize str (MM k)=sg at*
   generalize(Jw Pg.ops).toArray=cz at*
   clear c1;go_wp2_with fail;refine E.out.mono ?_
   rintro e M ⟨rfl,rfl⟩;go_wp2_with fail;refine F.out.mono ?_
   rintro e H ⟨rfl,rfl⟩;go_wp2_with fail;go_roundw
   case rel=>exact⟨k+1,by go_num,by omega,by omega,G,i⟩
   case measure=>simp [AX];omega
  ·have I:k=4:=by omega
   subst I;have N:wr.cell? ⟨g,1,none⟩=some (V Ad p.tok.kind):=f.cell c1;clear c1 r t;have O:((p.tok.kind:Int)==2)=false:=by simp;omega
   generalize p.tok.kind=kk at*
   clear A;go_wp2_with fail;refine(C wr f).mono ?_
   rintro e H ⟨rfl,x,d⟩;have K:=D x;have L:=D ((Gl f).trans d);have i:=D (d.heap u (by show ¬w.heap.size=g;omega));clear x d;go_wp2_with (refine L8 rfl rfl rfl i Ki ?_);refine K3 D0 Ax Ki (PO i) ?_
   exact UG (cs:=[V Ad 5,V Ad 0,V Af 0,Aa ⟨#[]⟩,J none 0 0]) (L) (K) B (Yc (nm:=[]) (Ju.nil _ _ _))
theorem zc0 {g:Nat}{S:ByteArray}{n:Nat}(A:Ps g S n)(h1:TQ g S n){p:PS}{w:Y}(B:∀ j,1≤j→j≤3→dP p j=false)(a:PW w g S p){q r t:PS}{x:Ex}(h2:p.tok.kind≠2)(h3:JZ [103,101,116] p=false)(m:JZ [40] p=true)(C:Kh p=some q)(l:M3 n 1 q=some (x,r))(E:KD [41] r=some t):
 As prog 223 #[Ae (some ⟨g,0,none⟩)] w (Su w g S t x):=by
 have h4:=a.lt;have F:=D (fun(k:Nat) (W:Y) (e:Ext w W) (h:1≤k) (u:k≤3)=>VE k W (a.tab.ext e) h (by omega));have H:=D (fun(k:Nat) (W:Y) (e:Ext w W) (h:1≤k) (u:k≤3)=>J8 (a.ext e) (B k h u));have c1:=JA a.at_.b 1
 have h5:=D (fun(W:Y) (e:Ext w W)=>J8 (a.ext e) h3);have h6:=D (fun(W:Y) (e:Ext w W)=>LU (a.ext e) m C);have h7:=D (fun(W:Y) (h8:PW W g S q)=>A 1 q x r W l h8);have h9:=D E;clear C l E;clear B a A h1;go_enter E4,EE;go_wp2;go_loopw [3] (fun s wr=>∃ k:Nat,s=V Ad k∧1≤k∧k≤4∧Ext w wr∧wr.heap[w.heap.size]?= some (Ab zE 287 (0,0))) (fun s _=>4 - (AX s).toNat)
 case atStart=>exact⟨1,rfl,by omega,by omega,(Ext.refl w).alloc _,Aj w _⟩
 case round=>
  obtain⟨k,rfl,h,u,l,m⟩:=hrel;have d:=D l;have v:=D m;clear l m;by_cases I:k≤3
  ·have ha:=D (F k wr d h I);have hb:=D (H k (wr.alloc (Ab (Jw Pg.ops).toArray 9)) (d.alloc _) h I);have hc:=D (d.alloc (Ab (Jw Pg.ops).toArray 9));have hd:=D (CE ((Ext.refl wr).alloc (Ab (Jw Pg.ops).toArray 9)) v);generalize str (MM k)=sg at*
   generalize(Jw Pg.ops).toArray=cz at*
   clear c1;go_wp2_with fail;refine ha.out.mono ?_
   rintro e ht ⟨rfl,rfl⟩;go_wp2_with fail;refine hb.out.mono ?_
   rintro e K ⟨rfl,rfl⟩;go_wp2_with fail;go_roundw
   case rel=>exact⟨k+1,by go_num,by omega,by omega,hc,hd⟩
   case measure=>simp [AX];omega
  ·have he:k=4:=by omega
   subst he;have hu:=(Ag.1 v).1;have hv:wr.cell? ⟨g,1,none⟩=some (V Ad p.tok.kind):=d.cell c1;clear c1 F H;have hw:((p.tok.kind:Int)==2)=false:=by simp;omega
   generalize p.tok.kind=kk at*
   clear h2;go_wp2_with fail;refine(h5 wr d).mono ?_
   rintro e K ⟨rfl,rfl⟩;go_wp2_with fail;refine(h6 K d).mono ?_
   rintro e hf ⟨rfl,L,y⟩;have hg:=D L;have hh:=D ((Gl d).trans y);have M:=D (y.heap v (by show ¬w.heap.size=g;omega));clear L y;go_wp2_with fail;refine(h7 hf hg).mono ?_
   rintro e f ⟨⟨cs,rfl,z⟩,N,o⟩;obtain⟨O,P,Q,R,T,U,X,rfl⟩:=Nq z;have hi:=D (hh.trans o);have hj:=D (o.heap M (by show ¬w.heap.size=g;omega));have hk:=D N;have hl:=D z;have hx:=(Ag.1 M).1;have hy:=o.size;clear z N o;go_wp2_with fail;have hm:=D (Ay f (Ab #[V Ad O,V Ad P,V Af Q,Aa (str R),J T U X] 287) (Ab #[Aa (str [41])] 9));have hn:=D (AP f (Ab #[V Ad O,V Ad P,V Af Q,Aa (str R),J T U X] 287) (Ab #[Aa (str [41])] 9));refine(Mh (hk.ext (((Ext.refl f).alloc _).alloc _)) h9 (b:=f.heap.size+1) hm (by omega)).mono ?_
   rintro e ho ⟨rfl,Z,i⟩;have hp:=D (((hi.alloc _).alloc _).trans i);have h0:=D (i.heap (CE (((Ext.refl f).alloc _).alloc _) hj) (by show ¬w.heap.size=g;omega));have hq:=D Z;have hr:=D (i.heap hn (by show ¬f.heap.size=g;omega));have hs:=D (KE.upd (KE.upd hl (Gl (G:=fun _=>False) (((Ext.refl f).alloc _).alloc _)) (fun _ _ q=>q) (fun k q=>q)) i (fun k q c=>by have hz:k=g:=c;omega) (U':=fun k=>w.heap.size<k∧k<ho.heap.size) (fun k q=>⟨by omega,by have:=i.size;have:=q.2;simp at*;omega⟩));clear Z i;go_wp2_with (first|refine Qx rfl Ax rfl hr Ki ?_|refine L8 rfl rfl rfl h0 Ki ?_);refine K3 D0 Ax Ki (PO h0) ?_
   exact UG hp hq h4 hs
theorem zP3 {g:Nat}{S:ByteArray}{n:Nat}(E:Ps g S n)(F:TQ g S n){p:PS}{w:Y}(u:∀ j,1≤j→j≤3→dP p j=false)(a:PW w g S p){q:PS}{s:Bs}(f:p.tok.kind≠2)(G:JZ [103,101,116] p=false)(H:JZ [40] p=false)(v:M0 p=some (s,q))(I:JZ [91] q=false)(h:JZ [40] q=false):
 As prog 223 #[Ae (some ⟨g,0,none⟩)] w (Su w g S q (.mk 2 0 0 s [])):=by
 have K:=a.lt;have x:=D (fun(k:Nat) (W:Y) (e:Ext w W) (d:1≤k) (m:k≤3)=>VE k W (a.tab.ext e) d (by omega));have y:=D (fun(k:Nat) (W:Y) (e:Ext w W) (d:1≤k) (m:k≤3)=>J8 (a.ext e) (u k d m));have c1:=JA a.at_.b 1
 have L:=D (fun(W:Y) (e:Ext w W)=>J8 (a.ext e) G);have M:=D (fun(W:Y) (e:Ext w W)=>J8 (a.ext e) H);have N:=D (fun(W:Y) (e:Ext w W)=>TM (a.ext e) v);have O:=D (fun(W:Y) (f:PW W g S q)=>J8 f I);have P:=D (fun(W:Y) (f:PW W g S q)=>J8 f h);clear v;clear u a E F;go_enter E4,EE;go_wp2;go_loopw [3] (fun s wr=>∃ k:Nat,s=V Ad k∧1≤k∧k≤4∧Ext w wr∧wr.heap[w.heap.size]?= some (Ab zE 287 (0,0))) (fun s _=>4 - (AX s).toNat)
 case atStart=>exact⟨1,rfl,by omega,by omega,(Ext.refl w).alloc _,Aj w _⟩
 case round=>
  obtain⟨k,rfl,d,m,z,h⟩:=hrel;have c:=D z;have o:=D h;clear z h;by_cases A:k≤3
  ·have Q:=D (x k wr c d A);have R:=D (y k (wr.alloc (Ab (Jw Pg.ops).toArray 9)) (c.alloc _) d A);have T:=D (c.alloc (Ab (Jw Pg.ops).toArray 9));have U:=D (CE ((Ext.refl wr).alloc (Ab (Jw Pg.ops).toArray 9)) o);generalize str (MM k)=sg at*
   generalize(Jw Pg.ops).toArray=cz at*
   clear c1;go_wp2_with fail;refine Q.out.mono ?_
   rintro e h0 ⟨rfl,rfl⟩;go_wp2_with fail;refine R.out.mono ?_
   rintro e i ⟨rfl,rfl⟩;go_wp2_with fail;go_roundw
   case rel=>exact⟨k+1,by go_num,by omega,by omega,T,U⟩
   case measure=>simp [AX];omega
  ·have X:k=4:=by omega
   subst X;have h1:=(Ag.1 o).1;have h2:wr.cell? ⟨g,1,none⟩=some (V Ad p.tok.kind):=c.cell c1;clear c1 x y;have h3:((p.tok.kind:Int)==2)=false:=by simp;omega
   generalize p.tok.kind=kk at*
   clear f;go_wp2_with fail;refine(L wr c).mono ?_
   rintro e i ⟨rfl,rfl⟩;go_wp2_with fail;refine(M i c).mono ?_
   rintro e i ⟨rfl,rfl⟩;go_wp2_with fail;refine(N i c).mono ?_
   rintro e l ⟨rfl,B,r⟩;have t:=D B;have Z:=D ((Gl c).trans r);have C:=D (r.heap o (by show ¬w.heap.size=g;omega));clear B r;go_wp2_with fail;refine(O l t).mono ?_
   rintro e l ⟨rfl,rfl⟩;go_wp2_with fail;refine(P l t).mono ?_
   rintro e l ⟨rfl,rfl⟩;go_wp2_with (refine L8 rfl rfl rfl C Ki ?_);refine K3 D0 Ax Ki (PO C) ?_
   exact UG (cs:=[V Ad 2,V Ad 0,V Af 0,Aa (str s),J none 0 0]) (Z) (t) K (Yc (Ju.nil _ _ _))
theorem zP4 {g:Nat}{S:ByteArray}{n:Nat}(Z:Ps g S n)(F:TQ g S n){p:PS}{w:Y}(H:∀ j,1≤j→j≤3→dP p j=false)(d:PW w g S p){q:PS}{s:Bs}(a:p.tok.kind≠2)(h0:JZ [103,101,116] p=false)(h1:JZ [40] p=false)(I:M0 p=some (s,q)){m t:PS}{l:List Ex}(h2:JZ [91] q=false)(o:JZ [40] q=true)(K:Kh q=some m)(i:Vl n m=some (l,t)):
 As prog 223 #[Ae (some ⟨g,0,none⟩)] w (Su w g S t (.mk 4 0 0 s l)):=by
 have h3:=d.lt;have L:=D (fun(k:Nat) (W:Y) (e:Ext w W) (h:1≤k) (u:k≤3)=>VE k W (d.tab.ext e) h (by omega));have M:=D (fun(k:Nat) (W:Y) (e:Ext w W) (h:1≤k) (u:k≤3)=>J8 (d.ext e) (H k h u));have c1:=JA d.at_.b 1
 have h4:=D (fun(W:Y) (e:Ext w W)=>J8 (d.ext e) h0);have h5:=D (fun(W:Y) (e:Ext w W)=>J8 (d.ext e) h1);have h6:=D (fun(W:Y) (e:Ext w W)=>TM (d.ext e) I);have h7:=D (fun(W:Y) (a:PW W g S q)=>J8 a h2);have h8:=D (fun(W:Y) (a:PW W g S q)=>LU a o K);have h9:=D (fun(W:Y) (a:PW W g S m)=>F m l t W i a);clear I K i;clear H d Z F;go_enter E4,EE;go_wp2;go_loopw [3] (fun s wr=>∃ k:Nat,s=V Ad k∧1≤k∧k≤4∧Ext w wr∧wr.heap[w.heap.size]?= some (Ab zE 287 (0,0))) (fun s _=>4 - (AX s).toNat)
 case atStart=>exact⟨1,rfl,by omega,by omega,(Ext.refl w).alloc _,Aj w _⟩
 case round=>
  obtain⟨k,rfl,h,u,i,o⟩:=hrel;have f:=D i;have x:=D o;clear i o;by_cases N:k≤3
  ·have ha:=D (L k wr f h N);have hb:=D (M k (wr.alloc (Ab (Jw Pg.ops).toArray 9)) (f.alloc _) h N);have hc:=D (f.alloc (Ab (Jw Pg.ops).toArray 9));have hd:=D (CE ((Ext.refl wr).alloc (Ab (Jw Pg.ops).toArray 9)) x);generalize str (MM k)=sg at*
   generalize(Jw Pg.ops).toArray=cz at*
   clear c1;go_wp2_with fail;refine ha.out.mono ?_
   rintro e hp ⟨rfl,rfl⟩;go_wp2_with fail;refine hb.out.mono ?_
   rintro e r ⟨rfl,rfl⟩;go_wp2_with fail;go_roundw
   case rel=>exact⟨k+1,by go_num,by omega,by omega,hc,hd⟩
   case measure=>simp [AX];omega
  ·have he:k=4:=by omega
   subst he;have hq:=(Ag.1 x).1;have hr:wr.cell? ⟨g,1,none⟩=some (V Ad p.tok.kind):=f.cell c1;clear c1 L M;have hs:((p.tok.kind:Int)==2)=false:=by simp;omega
   generalize p.tok.kind=kk at*
   clear a;go_wp2_with fail;refine(h4 wr f).mono ?_
   rintro e r ⟨rfl,rfl⟩;go_wp2_with fail;refine(h5 r f).mono ?_
   rintro e r ⟨rfl,rfl⟩;go_wp2_with fail;refine(h6 r f).mono ?_
   rintro e y ⟨rfl,O,z⟩;have P:=D O;have hf:=D ((Gl f).trans z);have hg:=D (z.heap x (by show ¬w.heap.size=g;omega));clear O z;go_wp2_with fail;refine(h7 y P).mono ?_
   rintro e y ⟨rfl,rfl⟩;go_wp2_with fail;refine(h8 y P).mono ?_
   rintro e hh ⟨rfl,Q,B⟩;have hi:=D (hf.trans B);have R:=D (B.heap hg (by show ¬w.heap.size=g;omega));have hj:=D Q;have ht:=(Ag.1 R).1;clear Q B;go_wp2_with fail;refine(h9 hh hj).mono ?_
   rintro e T ⟨⟨v,rfl,C⟩,U,E⟩;have hk:∃ A k c,v=J A k c:=by obtain⟨A,c,xs,a,_⟩:=C;exact⟨A,_,c,a⟩
   obtain⟨A,hl,c,rfl⟩:=hk;have hm:=D (C.upd (JK.refl (G:=fun _=>False) T) (fun _ _ q=>q) (U':=fun k=>w.heap.size<k∧k<T.heap.size) (fun k q=>⟨by omega,q.2⟩));have hn:=D (hi.trans E);have X:=D (E.heap R (by show ¬w.heap.size=g;omega));have ho:=D U;clear C U E;go_wp2_with (refine L8 rfl rfl rfl X Ki ?_);refine K3 D0 Ax Ki (PO X) ?_
   exact UG (cs:=[V Ad 4,V Ad 0,V Af 0,Aa (str s),J A hl c]) (hn) (ho) h3 (Yc hm)
theorem zc2 {g:Nat}{S:ByteArray}{n:Nat}(R:Ps g S n)(hc:TQ g S n){p:PS}{w:Y}(T:∀ j,1≤j→j≤3→dP p j=false)(d:PW w g S p){q:PS}{s:Bs}(m:p.tok.kind≠2)(hd:JZ [103,101,116] p=false)(he:JZ [40] p=false)(U:M0 p=some (s,q)){v t u:PS}{x:Ex}(y:JZ [91] q=true)(X:Kh q=some v)(o:M3 n 1 v=some (x,t))(Z:KD [93] t=some u):
 As prog 223 #[Ae (some ⟨g,0,none⟩)] w (Su w g S u (.mk 3 0 0 s [x])):=by
 have hf:=d.lt;have h0:=D (fun(k:Nat) (W:Y) (e:Ext w W) (l:1≤k) (L:k≤3)=>VE k W (d.tab.ext e) l (by omega));have h1:=D (fun(k:Nat) (W:Y) (e:Ext w W) (l:1≤k) (L:k≤3)=>J8 (d.ext e) (T k l L));have c1:=JA d.at_.b 1
 have hg:=D (fun(W:Y) (e:Ext w W)=>J8 (d.ext e) hd);have hh:=D (fun(W:Y) (e:Ext w W)=>J8 (d.ext e) he);have hi:=D (fun(W:Y) (e:Ext w W)=>TM (d.ext e) U);have hj:=D (fun(W:Y) (m:PW W g S q)=>LU m y X);have hk:=D (fun(W:Y) (m:PW W g S v)=>R 1 v x t W o m);have hl:=D Z;clear U X o Z;clear T d R hc;go_enter E4,EE;go_wp2;go_loopw [3] (fun s wr=>∃ k:Nat,s=V Ad k∧1≤k∧k≤4∧Ext w wr∧wr.heap[w.heap.size]?= some (Ab zE 287 (0,0))) (fun s _=>4 - (AX s).toNat)
 case atStart=>exact⟨1,rfl,by omega,by omega,(Ext.refl w).alloc _,Aj w _⟩
 case round=>
  obtain⟨k,rfl,l,L,o,y⟩:=hrel;have f:=D o;have M:=D y;clear o y;by_cases h2:k≤3
  ·have hm:=D (h0 k wr f l h2);have hn:=D (h1 k (wr.alloc (Ab (Jw Pg.ops).toArray 9)) (f.alloc _) l h2);have ho:=D (f.alloc (Ab (Jw Pg.ops).toArray 9));have hp:=D (CE ((Ext.refl wr).alloc (Ab (Jw Pg.ops).toArray 9)) M);generalize str (MM k)=sg at*
   generalize(Jw Pg.ops).toArray=cz at*
   clear c1;go_wp2_with fail;refine hm.out.mono ?_
   rintro e x8 ⟨rfl,rfl⟩;go_wp2_with fail;refine hn.out.mono ?_
   rintro e z ⟨rfl,rfl⟩;go_wp2_with fail;go_roundw
   case rel=>exact⟨k+1,by go_num,by omega,by omega,ho,hp⟩
   case measure=>simp [AX];omega
  ·have hq:k=4:=by omega
   subst hq;have x9:=(Ag.1 M).1;have xa:wr.cell? ⟨g,1,none⟩=some (V Ad p.tok.kind):=f.cell c1;clear c1 h0 h1;have xb:((p.tok.kind:Int)==2)=false:=by simp;omega
   generalize p.tok.kind=kk at*
   clear m;go_wp2_with fail;refine(hg wr f).mono ?_
   rintro e z ⟨rfl,rfl⟩;go_wp2_with fail;refine(hh z f).mono ?_
   rintro e z ⟨rfl,rfl⟩;go_wp2_with fail;refine(hi z f).mono ?_
   rintro e hr ⟨rfl,h3,N⟩;have hs:=D h3;have ht:=D ((Gl f).trans N);have hu:=D (N.heap M (by show ¬w.heap.size=g;omega));clear h3 N;go_wp2_with fail;refine(hj hr hs).mono ?_
   rintro e hv ⟨rfl,h4,O⟩;have hw:=D (ht.trans O);have h5:=D (O.heap hu (by show ¬w.heap.size=g;omega));have hx:=D h4;have xc:=(Ag.1 h5).1;clear h4 O;go_wp2_with fail;refine(hk hv hx).mono ?_
   rintro e a ⟨⟨cs,rfl,P⟩,h6,A⟩;obtain⟨B,C,E,F,H,I,K,rfl⟩:=Nq P;have hy:=D (hw.trans A);have hz:=D (A.heap h5 (by show ¬w.heap.size=g;omega));have x0:=D h6;have x1:=D P;have xd:=A.size;clear P h6 A;go_wp2_with fail;obtain⟨h,Q⟩:=JH ((a.alloc (Ab #[V Ad B,V Ad C,V Af E,Aa (str F),J H I K] 287)).alloc (Ab #[V Ad 3,V Ad 0,V Af 0,Aa (str s),J (some ⟨a.heap.size,0,none⟩) 1 1] 287));have h7:=D (AP a (Ab #[V Ad B,V Ad C,V Af E,Aa (str F),J H I K] 287) (Ab #[V Ad 3,V Ad 0,V Af 0,Aa (str s),J (some ⟨a.heap.size,0,none⟩) 1 1] 287));have h8:=D (Ay a (Ab #[V Ad B,V Ad C,V Af E,Aa (str F),J H I K] 287) (Ab #[V Ad 3,V Ad 0,V Af 0,Aa (str s),J (some ⟨a.heap.size,0,none⟩) 1 1] 287));have r:=D (((Ext.refl a).alloc (Ab #[V Ad B,V Ad C,V Af E,Aa (str F),J H I K] 287)).alloc (Ab #[V Ad 3,V Ad 0,V Af 0,Aa (str s),J (some ⟨a.heap.size,0,none⟩) 1 1] 287));rw [←Q]at h7 h8 r ⊢;have x2:h.heap.size=a.heap.size+2:=by rw [Q];simp
   clear Q;refine(Mh (x0.ext (r.trans ((Ext.refl h).alloc _))) hl (b:=a.heap.size+2) (by have:=Aj h (Ab #[Aa (str [93])] 9);rw [x2]at this;exact this) (by omega)).mono ?_
   rintro e h9 ⟨rfl,ha,i⟩;have x3:=D (((hy.trans (Gl r)).alloc _).trans i);have hb:=D (i.heap (CE ((Ext.refl h).alloc _) (CE r hz)) (by show ¬w.heap.size=g;omega));have x4:=D ha;have x5:=D (i.heap (CE ((Ext.refl h).alloc _) h8) (by show ¬a.heap.size+1=g;omega));have x6:=D (i.heap (CE ((Ext.refl h).alloc _) h7) (by show ¬a.heap.size=g;omega));have xe:a.heap.size+2<h9.heap.size:=by have:=i.size;simp at this;omega
   have x7:=D (KE.upd (KE.upd x1 (Gl (G:=fun _=>False) (r.trans ((Ext.refl h).alloc _))) (fun _ _ q=>q) (fun k q=>q)) i (fun k q c=>by have xf:k=g:=c;omega) (U':=fun k=>w.heap.size<k∧k<h9.heap.size) (fun k q=>⟨by omega,by have:=q.2;omega⟩));clear ha i;go_wp2_with (first|refine Qx rfl Ax rfl x5 Ki ?_|refine L8 rfl rfl rfl hb Ki ?_);refine K3 D0 Ax Ki (PO hb) ?_
   exact UG (cs:=[V Ad 3,V Ad 0,V Af 0,Aa (str s),J (some ⟨a.heap.size,0,none⟩) 1 1]) x3 x4 hf (Yc (Vr x6 x7 ⟨by omega,by omega⟩))
theorem yW4 {g:Nat}{S:ByteArray}{n:Nat}(O:∀ m,m<n→Ps g S m)(P:∀ m,m<n→je g S m)(Q:∀ m,m<n→TQ g S m):je g S n:=by
 intro p e q w a d;cases n with
 |zero=>cases a
 |succ n=>
  have F:∀ (op:Nat) (h1:1≤op) (G:op≤3) (b:∀ j,1≤j→j<op→dP p j=false) (L:dP p op=true),Zt n op p=some (e,q)→As prog 223 #[Ae (some ⟨g,0,none⟩)] w (Su w g S q e):=by
   intro op h1 G b L f;cases n with
   |zero=>cases f
   |succ n=>
    rw [Zt]at f;split at f
    ·cases f
    ·rename_i h i;split at f
     ·cases f
     ·rename_i x t y;cases f;exact z95 h1 G (P n (by omega)) b L i y d
  rw [XP]at a;by_cases k:JZ [33] p=true
  ·rw [if_pos k]at a;exact F 1 (by omega) (by omega) (fun j h1 M=>by omega) k a
  rw [if_neg k]at a;by_cases z:JZ [45] p=true
  ·rw [if_pos z]at a;have R:∀ j,1≤j→j<2→dP p j=false:=by
    intro j h1 M;obtain rfl:j=1:=by omega
    exact AJ.2 k
   exact F 2 (by omega) (by omega) R z a
  rw [if_neg z]at a;by_cases A:JZ [126] p=true
  ·rw [if_pos A]at a;have T:∀ j,1≤j→j<3→dP p j=false:=by
    intro j h1 M;have U:j=1∨j=2:=by omega
    rcases U with rfl|rfl
    ·exact AJ.2 k
    ·exact AJ.2 z
   exact F 3 (by omega) (by omega) T A a
  rw [if_neg A]at a;have b:∀ j,1≤j→j≤3→dP p j=false:=fun j h1 G=>by
   have:j=1∨j=2∨j=3:=by omega
   rcases this with rfl|rfl|rfl
   ·exact AJ.2 k
   ·exact AJ.2 z
   ·exact AJ.2 A
  have o:=O n (by omega);have r:=Q n (by omega);by_cases c:p.tok.kind=2
  ·rw [if_pos (by rw [c];rfl)]at a;split at a
   ·cases a
   ·rename_i h i;cases a;exact arg_num o r b d c i
  rw [if_neg (fun q=>c (Ap q))]at a;by_cases bg:JZ [103,101,116] p=true
  ·rw [if_pos bg]at a;split at a
   ·cases a
   ·rename_i h i;cases a;exact zb9 o r b d c bg i
  rw [if_neg bg]at a;have B:JZ [103,101,116] p=false:=by simpa using bg
  by_cases C:JZ [40] p=true
  ·rw [if_pos C]at a;split at a
   ·cases a
   ·rename_i h i;split at a
    ·cases a
    ·rename_i x t y;split at a
     ·cases a
     ·rename_i u W;cases a;exact zc0 o r b d c B C i y W
  rw [if_neg C]at a;have H:JZ [40] p=false:=by simpa using C
  split at a
  ·cases a
  ·rename_i s h I;by_cases D:JZ [91] h=true
   ·rw [if_pos D]at a;split at a
    ·cases a
    ·rename_i t K;split at a
     ·cases a
     ·rename_i x u y;split at a
      ·cases a
      ·rename_i v X;cases a;exact zc2 o r b d c B H I D K y X
   ·rw [if_neg D]at a;have N:JZ [91] h=false:=by simpa using D
    by_cases E:JZ [40] h=true
    ·rw [if_pos E]at a;split at a
     ·cases a
     ·rename_i t K;split at a
      ·cases a
      ·rename_i l u Y;cases a;exact zP4 o r b d c B H I N E K Y
    ·rw [if_neg E]at a;cases a;exact zP3 o r b d c B H I N (by simpa using E)
end Go.Proofs.YtmkomefmgcpnbaaGreatDoor

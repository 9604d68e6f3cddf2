import Derived.Test.YtmkomefmgcpnbaaGreatDoorMg20
set_option linter.all false
set_option maxHeartbeats 12800000
set_option maxRecDepth 100000
namespace Go.Proofs.YtmkomefmgcpnbaaGreatDoor
open Tryz Pg Go Go.Proofs Go.RowKit
open Pm (Tm Ac In)
open _root_.Bool renaming and_eq_true→Ah,or_eq_true→DZ,not_eq_true'→Dl
open Go renaming Addr→Bi,Calls→As,Ending→BX,Value→h,World→Y,heap_alloc2_new→Ay,heap_alloc2_old→AP,heap_alloc_new→Aj,run_makeMap_plain→DF,setRow_heap→Bo,Program→BR,bodyPost_ret→B1,results→El,undef→Ca,wpList_store_row→CK,results_cell_row→FZ
open Go.Act renaming put→Au
open Go.Ending renaming returned→Ak
open Go.IntKind renaming i64→Ad,u32→Af,wrap_u32→Eg
open Go.Lib renaming hid→D
open Go.Obj renaming cells→Ab,map→Eu
open Go.Proofs renaming intOf→AX
open Go.Proofs.Tryz renaming underlying109→Bg,underlying112→Bm,underlying26→Bd,underlying56→Cw,underlying76→FO,underlying72→Cj
open Go.RowKit renaming Hid→AA
open Go.Value renaming agg→AN,int→V,map→Bj,ownBlock→CF,pointer→Ae,slice→J,string→Aa,tuple→AZ,bool→AE,oneCell'→CT,func→ER
open Go.World renaming ownsRow_nil→CQ
open _root_.List renaming all_eq_true→A7,append_assoc→AG,append_nil→BP,drop_eq_getElem_cons→AR,drop_length→Cu,drop_zero→FI,getElem?_eq_getElem→Al,getElem?_eq_some_iff→Ao,getElem?_map→Bh,length_append→M,length_map→AI,length_nil→Av,length_take→BD,length→De,map_cons→B7,mem_of_getElem?→AD,nil_append→B9,take_add_one→BB,take_length→BN,flatMap_cons→Hw,foldl_cons→IP,getElem?_append_left→Ce,getElem?_append_right→Cs,getElem?_take→Dc,length_cons→Am,length_reverse→GF,length_set→Gx,mem_cons→AH,getElem_mem→F7,mem_range→Dt,range→Cv
open _root_.Nat renaming le_refl→Aw,le_succ→CA,le_trans→AL,lt_of_lt_of_le→Ar,lt_succ_self→Dy,min_eq_left→CJ,add_assoc→H8,le_of_ble_eq_true→Ai,lt_of_le_of_lt→Ey,zero_add→BF,zero_le→Dd,zero_mul→FG,ble→A6,blt→Be,beq→Az,ne_of_beq_eq_false→FP
open _root_.Option renaming getD_some→CU
open _root_.Or renaming inl→AO,inr→AB
open _root_.Array renaming getElem?_eq_some_iff→Ag,getElem?_toList→CP
open Go.RowKit.Below renaming heap_setCell→AY
open _root_.Prod renaming fst→Ee
open Go.Result renaming ok→Ez
open Go.ResultVar renaming tmp→Jt
open Go.ByteArray renaming toList_eq→Br
theorem xL {l:List Bs}{i:Nat}{x:Bs}(a:l[i]?= some x)(z:ByteArray):(if z=str x then some (V Ad (i:Nat))else vI (l.take i) z)=vI (l.take (i+1)) z:=by
 have c:=(Ao.1 a).1;unfold vI;rw [BB,a];show _=(JR (bs z) (l.take i++[x])).map _
 rw [PI];by_cases q:z=str x
 ·rw [if_pos q,if_pos (by rw [q,L6]),BD,CJ (by omega)];rfl
 ·rw [if_neg q,if_neg (fun b=>q (by rw [b,VD]))]
theorem zV7 (p:JQ)(d:iX p)(f:Pg.Fn)(e:f∈p.JY)(hc:ND p f f.body 0=true)(c:Cn)(U:Nat→Prop)(g:Option Nat)(lv:h)(w:Y)(l:Bs)(lb:Nat)(v:h):
 CW c g l lb 0 [] lv w→Lc (JI p f) c U g lv w→Ju KS U w f.body v→lb+2*Jv f.body≤80000→l.length+(KY (JI p f) f.body ([],[]) lb).1.length≤1000000→
 As prog 106 #[Ae (some ⟨c.b,0,none⟩),v] w (MB c g lv w (l++(KY (JI p f) f.body ([],[]) lb).1) (KY (JI p f) f.body ([],[]) lb).2 0 []):=by
 intro j k m n o;obtain⟨r,s⟩:=d.cnt;obtain⟨h1,t,C⟩:=V9 p.JY 0 r (by omega) s f e;have i:=bJ h1;have u:Ph p f:=⟨d.nf,i.1,i.2,fun g y=>(d.tx.gn g y).1⟩;have z:=zK9 (p:=p) (f:=f) (loops:=0) hc t (d.tx.f f e).2.1;exact zK8 p f 0 f.body (fun x B=>yE6 p f u _ 0 x (Dy _) (z x B)) c U g lv w l lb [] ([],[]) v j k m (fun q=>absurd rfl q) n (by show 0+_≤_;omega) o
structure FW (p:JQ) (U:Nat→Prop) (w0:Y) (c:Cn) (gi fi:Nat) (g:Option Nat) (lv:h) (l:Bs) (lb:Nat) (w:Y):Prop where
 cw:CW c g l lb 0 [] lv w
 x:Ext w0 w
 ge:∀ k,CG c.b g lv k→w0.heap.size≤k
 gm:∃ gB,c.gm=Bj (some gB)∧MapAt KQ w gB (vI ((p.globals.map KJ.name).take gi))∧¬ CG c.b g lv gB∧w0.heap.size≤gB
 fm:∃ fB,c.fm=Bj (some fB)∧MapAt KQ w fB (vI ((p.JY.map Pg.Fn.name).take fi))∧¬ CG c.b g lv fB∧w0.heap.size≤fB
 ne:c.gm≠c.fm
 gG:Ju KG U w0 p.globals (J c.GA c.ng c.gc)
 lt:∀ k,U k→k<w0.heap.size
def YG (c c':Cn):Prop:=∃ sm sz lo,c'={c with sm:=sm,sz:=sz,lo:=lo}
theorem YG.refl (c:Cn):YG c c:=⟨c.sm,c.sz,c.lo,rfl⟩
theorem YG.trans {a b c:Cn}(d:YG a b)(k:YG b c):YG a c:=by
 obtain⟨_,_,_,rfl⟩:=d;obtain⟨x,e,z,rfl⟩:=k;exact⟨x,e,z,rfl⟩
section
variable {p:JQ}{U:Nat→Prop}{w0 w w' W1:Y}{c c':Cn}{gi fi:Nat}{g g':Option Nat}{lv PG:h}{l l':Bs}{lb lb':Nat}
theorem FW.nu (a:FW p U w0 c gi fi g lv l lb w):∀ k,U k→¬ CG c.b g lv k:=fun k d q=>by have:=a.ge k q;have:=a.lt k d;omega
theorem FW.step (a:FW p U w0 c gi fi g lv l lb w)(r:CW c' g' l' lb' 0 [] PG w')(i:K9 c.b g lv w g' PG w')(hc:YG c c'):FW p U w0 c' gi fi g' PG l' lb' w':=by
 obtain⟨sm,sz,lo,rfl⟩:=hc;have j:∀ {val:ByteArray→Option h} {v:h},(∃d,v=Bj (some d)∧MapAt KQ w d val∧¬ CG c.b g lv d∧w0.heap.size≤d)→∃ d,v=Bj (some d)∧MapAt KQ w' d val∧¬ CG c.b g' PG d∧w0.heap.size≤d:=by
  rintro val v ⟨d,e,m,n,s⟩;have o:=MapAt.lt KQ m;exact⟨d,e,MapAt.keep KQ m (i.upd.block d o n),i.bg o n,s⟩
 refine⟨r,⟨i.upd.os.trans a.x.os,i.upd.tape.trans a.x.tape,i.upd.output.trans a.x.output,AL a.x.size i.upd.size,fun k f=>?_⟩,?_,j a.gm,j a.fm,a.ne,a.gG,a.lt⟩
 ·rw [i.upd.block k (Ar f a.x.size) (fun q=>by have:=a.ge k q;omega)];exact a.x.block k f
 ·intro k f;rcases f with rfl|f|f
  ·exact a.ge _ (AO rfl)
  ·rcases i.ng with e|⟨m,e,j⟩
   ·exact a.ge k (AB (AO (e▸f)))
   ·rw [f]at e;cases e;exact AL a.x.size j
  ·rcases i.nl with e|⟨m,e,j⟩
   ·exact a.ge k (AB (AB (e▸f)))
   ·rw [f]at e;cases e;exact AL a.x.size j
theorem FW.ext (a:FW p U w0 c gi fi g lv l lb w)(x:Ext w w'):FW p U w0 c gi fi g lv l lb w':=a.step (a.cw.ext x) (K9.ext x) (YG.refl c)
theorem FW.cell (a:FW p U w0 c gi fi g lv l lb w){q:Bi}{u:h}(hc:w0.cell? q=some u):w.cell? q=some u:=Ext.cell a.x hc
def FQ (p:JQ)(U:Nat→Prop)(w0:Y)(c:Cn)(gi fi:Nat)(lv:h)(l:Bs)(lb:Nat)(e:BX)(w':Y):Prop:=e=Ak (AZ #[])∧∃ g',AA (FW p U w0 c gi fi g' lv l lb w')
theorem FW.fq (a:FW p U w0 c gi fi g lv l lb w){e:BX}(b:ny c g lv w l' lb' 0 [] e w'):FQ p U w0 c gi fi lv l' lb' e w':=by
 obtain⟨h1,d,f,h⟩:=b;exact⟨h1,d,D (a.step f h (YG.refl c))⟩
theorem zp8 (d:FW p U w0 c gi fi g lv l lb w)(ws:List Bs)(f:l.length+(JD ws).length≤1000000)(i:ws≠[])(j:ws.length≤1000)(k:W1=w.alloc (Ab (Jw ws).toArray 9)){v:h}(m:v=J (some ⟨w.heap.size,0,none⟩) ws.length ws.length):
 As prog 57 #[Ae (some ⟨c.b,0,none⟩),v] W1 (FQ p U w0 c gi fi lv (l++JD ws) lb):=by
 subst k m;have a:=d.ext ((Ext.refl w).alloc (Ab (Jw ws).toArray 9));exact(zl0 a.cw (RJ (W:=w) (e:=9) rfl (Jw ws)) (Aw _) i f j).mono fun e w' n=>a.fq n
theorem yz2 (a:FW p U w0 c gi fi g lv l lb w)(name:Bs)(n:Nat)(d:l.length+(JS name n).length≤1000000)(f:n≤9223372036854775807){s v:h}(i:s=Aa (str name))(j:v=V Ad n):
 As prog 59 #[Ae (some ⟨c.b,0,none⟩),s,v] w (FQ p U w0 c gi fi lv (l++JS name n) lb):=by
 subst i j;exact(rY a.cw f d).mono fun e w' k=>a.fq k
theorem yH3 (a:FW p U w0 c gi fi g lv l lb w)(s:Bs)(d:l.length+(JU s).length≤1000000){v:h}(f:v=Aa (str s)):
 As prog 62 #[Ae (some ⟨c.b,0,none⟩),v] w (FQ p U w0 c gi fi lv (l++JU s) lb):=by
 subst f;exact(kP a.cw d).mono fun e w' i=>a.fq i
theorem yi6 (a:FW p U w0 c gi fi g lv l lb w)(d:iX p)(f:l.length+(Me 0 p.globals).length≤1000000):
 As prog 61 #[Ae (some ⟨c.b,0,none⟩)] w fun e w'=>e=Ak (AZ #[])∧∃ g' PG,AA (FW p U w0 c gi fi g' PG (l++Me 0 p.globals) lb w'):=by
 have h:TT p c U g lv w g lv l lb w:=⟨a.cw,K9.refl _ _ _ _,a.gG.ext a.x,a.nu,fun k i=>Ar (a.lt k i) a.x.size⟩;refine(yF8 p d c U g lv w l lb h f).mono ?_
 rintro e w' ⟨h1,j,m,n,o⟩;exact⟨h1,j,m,D (a.step n o (YG.refl c))⟩
theorem yz3 (a:FW p U w0 c p.globals.length p.JY.length g lv l lb w)(j:iX p)(n:OJ p=true)(hc:∀ f∈p.JY,ND p f f.body 0=true){k:Nat}{f:Pg.Fn}(m:p.JY[k]?= some f){cs:List h}(s:KF.rep U w f cs)(t:lb+2*Jv f.body≤80000)(u:l.length+(Oy p k f lb).1.length≤1000000){i v:h}(y:i=V Ad k)(z:v=AN cs.toArray):
 As prog 60 #[Ae (some ⟨c.b,0,none⟩),i,v] w fun e w'=>e=Ak (AZ #[])∧∃ c' g' PG,YG c c'∧AA (FW p U w0 c' p.globals.length p.JY.length g' PG (l++(Oy p k f lb).1) (Oy p k f lb).2 w'):=by
 subst y z;have d:=AD m;have L:=(Ao.1 m).1;obtain⟨A,B⟩:=j.cnt;obtain⟨h1,o,q⟩:=V9 p.JY 0 A (by omega) B f d;have M:=bJ h1;have C:M4 (f.params++f.JE)=true:=by
  unfold OJ at n;rw [Ah,Ah]at n;exact A7.1 n.1.2 f d
 have N:=j.nf;obtain⟨E,m1,r,F, -⟩:=a.gm;obtain⟨G,H,q2,q3, -⟩:=a.fm;rw [←AI (f:=KJ.name),BN]at r;rw [←AI (f:=Pg.Fn.name),BN]at q2;refine(xC p j f k d (by omega) (zV7 p j f d (hc f d)) C (by omega) (by omega) c U g lv w l lb cs a.cw (a.gG.ext a.x) a.nu (fun k m=>Ar (a.lt k m) a.x.size) ⟨E,m1,r,F⟩ ⟨G,H,q2,q3⟩ s t u).mono ?_
 rintro e w' ⟨h1,sm,sz,lo,I,K,o,q⟩;exact⟨h1,_,I,K,⟨sm,sz,lo,rfl⟩,D (a.step o q ⟨sm,sz,lo,rfl⟩)⟩
def FX (p:JQ)(U:Nat→Prop)(w0:Y)(c:Cn)(gi fi:Nat)(lv:h)(lb:Nat)(W:Y):Prop:=∃ g' l',FW p U w0 c gi fi g' lv l' lb W
theorem FX.Kv (a:FX p U w0 c gi fi lv lb w){i:Nat}{u:h}(d:(c.xs lb 0 lv)[i]?= some u):w.cell? ⟨c.b,i+2,none⟩=some u:=by
 obtain⟨g',l',a⟩:=a;exact a.cw.Kv d
theorem FX.fm (d:FX p U w0 c gi fi lv lb w):∃ b,c.fm=Bj (some b)∧MapAt KQ w b (vI ((p.JY.map Pg.Fn.name).take fi)):=by
 obtain⟨g',l',d⟩:=d;obtain⟨b,e,q2, -, -⟩:=d.fm;exact⟨b,e,q2⟩
theorem FW.upd (d:FW p U w0 c gi fi g lv l lb w){f:Nat}(j:w0.heap.size≤f)(m:13≤w0.heap.size)(h:¬ CG c.b g lv f)(x:w.grownBy w' (some f)):CW c g l lb 0 [] lv w'∧Ext w0 w':=by
 refine⟨d.cw.upd (G:=fun k=>k=f) ⟨x.os,x.tape,x.output,x.size,fun k a i=>x.block k a (fun e=>i (by injection e with e))⟩ (fun k a=>by subst a;omega) (fun k a e=>by subst e;exact h a),?_⟩;exact⟨x.os.trans d.x.os,x.tape.trans d.x.tape,x.output.trans d.x.output,AL d.x.size x.size,fun k a=>by
  rw [x.block k (Ar a d.x.size) (fun e=>by injection e with e;omega)]
  exact d.x.block k a⟩
theorem FW.yz4 {f:Nat}{h:Bs}(a:FW p U w0 c gi fi g lv l lb w)(r:13≤w0.heap.size)(b:c.gm=Bj (some f))(hy:(p.globals.map KJ.name)[gi]?= some h)(m:Ur KQ w w' f (vI ((p.globals.map KJ.name).take gi)) (str h) (V Ad (gi:Nat))):FW p U w0 c (gi+1) fi g lv l lb w':=by
 obtain⟨i,d,m1,j,s1⟩:=a.gm;obtain⟨e,n,o,s,t⟩:=a.fm;rw [d]at b;injection b with b;injection b with b;subst b
 have u:e≠i:=fun q=>a.ne (by rw [d,n,q])
 obtain⟨v,x⟩:=a.upd s1 r j m.grown;refine⟨v,x,a.ge,⟨i,d,?_,j,s1⟩,⟨e,n,MapAt.keep KQ o (m.grown.block e (MapAt.lt KQ o) (fun q=>u (by injection q))),s,t⟩,a.ne,a.gG,a.lt⟩;obtain⟨y,k,A,B⟩:=m.at_
 exact⟨y,k,A,fun z=>(B z).trans (xL hy z)⟩
theorem FW.yz5 {f:Nat}{h:Bs}(a:FW p U w0 c gi fi g lv l lb w)(r:13≤w0.heap.size)(b:c.fm=Bj (some f))(hy:(p.JY.map Pg.Fn.name)[fi]?= some h)(m:Ur KQ w w' f (vI ((p.JY.map Pg.Fn.name).take fi)) (str h) (V Ad (fi:Nat))):FW p U w0 c gi (fi+1) g lv l lb w':=by
 obtain⟨d,i,m1,s,s1⟩:=a.gm;obtain⟨j,e,B,n,o⟩:=a.fm;rw [e]at b;injection b with b;injection b with b;subst b
 have t:d≠j:=fun q=>a.ne (by rw [i,e,q])
 obtain⟨u,v⟩:=a.upd o r n m.grown;refine⟨u,v,a.ge,⟨d,i,MapAt.keep KQ m1 (m.grown.block d (MapAt.lt KQ m1) (fun q=>t (by injection q))),s,s1⟩,⟨j,e,?_,n,o⟩,a.ne,a.gG,a.lt⟩;obtain⟨x,k,y,A⟩:=m.at_
 exact⟨x,k,y,fun z=>(A z).trans (xL hy z)⟩
end
theorem FW.start (p:JQ)(U:Nat→Prop)(W1:Y)(a e:Option Bi)(b c f g:Nat)(j:Mg W1)(m:Ju KG U W1 p.globals (J a b c))(n:∀ k,U k→k<W1.heap.size):FW p U W1 ⟨W1.heap.size+1+1,a,b,c,e,f,g,Bj (some W1.heap.size),Bj (some (W1.heap.size+1)),Bj none,0,0⟩ 0 0 none (J none 0 0) [] 0 (((W1.alloc (Eu #[] 0)).alloc (Eu #[] 0)).alloc (Ab #[Ae none,J none 0 0,V Ad 0,J a b c,J e f g,Bj (some W1.heap.size),Bj (some (W1.heap.size+1)),Bj none,V Ad 0,V Ad 0,V Ad 0,J none 0 0] 130)):=by
 have l:=SE W1 (Eu #[] 0) (Eu #[] 0) (Ab #[Ae none,J none 0 0,V Ad 0,J a b c,J e f g,Bj (some W1.heap.size),Bj (some (W1.heap.size+1)),Bj none,V Ad 0,V Ad 0,V Ad 0,J none 0 0] 130);have o:=Nj W1 (Eu #[] 0) (Eu #[] 0) (Ab #[Ae none,J none 0 0,V Ad 0,J a b c,J e f g,Bj (some W1.heap.size),Bj (some (W1.heap.size+1)),Bj none,V Ad 0,V Ad 0,V Ad 0,J none 0 0] 130);have s:=j.lt;have h:∀ k,CG (W1.heap.size+1+1) none (J none 0 0) k→k=W1.heap.size+1+1:=by
  rintro k (d|d|d)
  ·exact d
  ·cases d
  ·cases d
 have m1:=Ti (K:=KQ) W1;have i:=Ti (K:=KQ) (W1.alloc (Eu #[] 0));rw [show(W1.alloc (Eu #[] 0)).heap.size=W1.heap.size+1 by simp]at i;refine⟨⟨⟨⟨Ae none,J none 0 0,AO rfl,o,CQ _ _ _ _,rfl⟩,by simp⟩,CQ _ _ _ _,by simp [CF],by simp,j.ext l,by show 13≤W1.heap.size+1+1;omega,by simp,by simp [CF]⟩,l,fun k r=>by rw [h k r];omega,⟨_,rfl,?_,fun q=>by have:=h _ q;omega,Aw _⟩,⟨_,rfl,?_,fun q=>by have:=h _ q;omega,CA _⟩,fun q=>by injection q with q;injection q with q;omega,m,n⟩
 ·exact MapAt.keep KQ (val:=fun _=>none) m1 (((Ext.refl (W1.alloc (Eu #[] 0))).alloc _).alloc _ |>.block _ (MapAt.lt KQ m1))
 ·exact MapAt.keep KQ (val:=fun _=>none) i (((Ext.refl ((W1.alloc (Eu #[] 0)).alloc (Eu #[] 0))).alloc _).block _ (MapAt.lt KQ i))
theorem xM:∀ (l:List Pg.Fn),30*(l.map fun f=>Jv f.body).sum≤(l.map sF).sum
 |[]=>Aw _
 |f::l=>by
  have:=xM l;simp only [B7,List.sum_cons];unfold sF;unfold sF at this;omega
theorem zV8 {p:JQ}(a:OJ p=true):∃ i,JR [109,97,105,110] (p.JY.map Pg.Fn.name)=some i∧i<p.JY.length:=by
 unfold OJ dK at a;rw [Ah]at a;have b:=a.2;split at b
 ·cases b
 ·rename_i i c;exact⟨i,c,by have:=lastIdx_lt c;rwa [AI]at this⟩
theorem zD0 {p:JQ}{b:Nat}(a:(OY p).length≤1000000)(c:JR [109,97,105,110] (p.JY.map Pg.Fn.name)=some b):(JD [Ug,Q0]).length+(JD [OX,Mc b]).length+(JS Kz 0).length+(JD [PR]).length+(Q3 p 0 p.JY 0).length+(Me 0 p.globals).length+(JU Q0).length≤1000000:=by
 unfold OY at a;rw [c]at a;simp only [M,CU]at a;omega
theorem zD1 (p:JQ)(k:Nat)(f:Pg.Fn)(l:List Pg.Fn)(lb:Nat):Q3 p k (f::l) lb=(Oy p k f lb).1++Q3 p (k+1) l (Oy p k f lb).2:=by rw [Q3]
theorem yH4 (p:JQ)(k:Nat)(f:Pg.Fn)(lb:Nat):(Oy p k f lb).2≤lb+2*Jv f.body:=(Tj ⟨p,f.params,f.JE⟩ f.body ([],[]) lb).2
theorem yH5 (p:JQ)(U:Nat→Prop)(G F:h)(w:Y)(hm:Ju KG U w p.globals G)(hn:Ju KF U w p.JY F)(x3:Mg w)(x4:∀ k,U k→k<w.heap.size)(h0:iX p)(x5:OJ p=true)(hc:∀ f∈p.JY,ND p f f.body 0=true)(x6:QB p≤49152)(xu:(OY p).length≤1000000):
 As prog 35 #[AN #[G,F]] w fun e w'=>e=Ak (AZ #[Aa (str (OY p)),AN #[V Ad 0,V Ad 0]])∧Ext w w':=by
 have ho:=D (fun W (x:Ext w W)=>yF5 p U G F W (hm.ext x) (hn.ext x) (x3.ext x) (fun k h2=>Ar (x4 k h2) x.size) h0 x5 hc (fun g yp=>(h0.tx.gn g yp).1) x6);have yq:=h0.ng;have yr:=h0.nf;have xv:=D hm;have xw:=D hn;have ys:=D x3;have yt:=D x4;have xx:=D h0;have xy:=D x5;have yu:=D hc;have xz:=D xu;have yv:=D x6;obtain⟨E,H,rfl⟩:=JB hm;obtain⟨I,L,rfl⟩:=JB hn;obtain⟨r,x7⟩:=JH p.globals.length;obtain⟨t,x8⟩:=JH p.JY.length;have hp:=D x7;have y:=D x8;rw [←x7]at ho xv yq ⊢;rw [←x8]at ho xw yr ⊢;obtain⟨zw,y0⟩:=JH (QB p);rw [←y0]at ho x6;clear hm hn x3 x4 h0 x5 hc x7 x8 y0 xu;go_enter func35,ntmps35;have yw:= @DF prog;go_upto_region 1 with fail;have h7:=D (((Ext.refl w).alloc (Ab #[J E r H,J I t L] 56)).alloc (Ab #[V Ad 0,V Ad 0] 26));have hq:=D (AP w (Ab #[J E r H,J I t L] 56) (Ab #[V Ad 0,V Ad 0] 26));have x9:=D (Ay w (Ab #[J E r H,J I t L] 56) (Ab #[V Ad 0,V Ad 0] 26));generalize(w.alloc (Ab #[J E r H,J I t L] 56)).alloc (Ab #[V Ad 0,V Ad 0] 26)=W0 at h7 hq x9 ⊢;go_upto_region 2 with(first|refine LH rfl Cw rfl hq Sy ?_|(go_at_call 55;refine(ho _ h7).mono ?_;rintro e hr ⟨rfl,h8⟩));have h3:=D (h7.trans (h8.alloc (Ab #[V Ad 0,V Ad 0] 26)));have hs:=D (CE (h8.alloc (Ab #[V Ad 0,V Ad 0] 26)) hq);have y1:=D (CE (h8.alloc (Ab #[V Ad 0,V Ad 0] 26)) x9);have h9:=D (Aj hr (Ab #[V Ad 0,V Ad 0] 26));have yx:AA (w.heap.size≤hr.heap.size):=D (AL h7.size h8.size);clear hq x9 h8 h7;obtain⟨zx,y2⟩:=JH hr.heap.size;rw [←y2]at h9 yx ⊢;clear y2;generalize hr.alloc (Ab #[V Ad 0,V Ad 0] 26)=W1 at h3 hs y1 h9 ⊢;have yy:=bk h9 0;have z1:=bk h9 1;go_upto_region 7 with(refine LH rfl Cw rfl hs Sy ?_);clear yy z1 h9;have y3:=D (ys.ext h3);have y4:=D (xv.ext h3);have y5:=D (xw.ext h3);have xa:=FW.start p U W1 E I r H t L y3 y4 (fun k h2=>Ar (yt k h2) h3.size);obtain⟨c,hc⟩:=JH (⟨W1.heap.size+1+1,E,r,H,I,t,L,Bj (some W1.heap.size),Bj (some (W1.heap.size+1)),Bj none,0,0⟩:Cn);rw [←hc]at xa;have ha:W1.heap.size+1+1=c.b:=by rw [hc]
 have ht:AA (c.gm=Bj (some W1.heap.size)):=D (by rw [hc]);have h4:AA (c.fm=Bj (some (W1.heap.size+1))):=D (by rw [hc]);obtain⟨y6,xb⟩:=JH W1.heap.size;obtain⟨hu,xc⟩:=JH (W1.heap.size+1);have a:=D xa;clear xa hc;rw [ha];generalize(((W1.alloc (Eu #[] 0)).alloc (Eu #[] 0)).alloc (Ab #[Ae none,J none 0 0,V Ad 0,J E r H,J I t L,Bj (some W1.heap.size),Bj (some (W1.heap.size+1)),Bj none,V Ad 0,V Ad 0,V Ad 0,J none 0 0] 130))=W2 at a ⊢;rw [←xc,←xb];rw [←xb]at ht;rw [←xc]at h4;clear xb xc ha;have y7:=bk hs 0;have xd:=bk hs 1;have y8:=D y3.lt;have yz:=a.cell y7;go_wp2;go_loopw [33] (fun s hb=>∃ i:Nat,s=V Ad i∧i≤r∧AA (FW p U W1 c i 0 none (J none 0 0) [] 0 hb)) (fun s _=>r - (AX s).toNat)
 case atStart=>exact⟨0,rfl,by omega,a⟩
 case round=>
  clear a yz;obtain⟨i,rfl,zy,a⟩:=hrel;by_cases z0:i<r
  ·obtain⟨x,n⟩:∃ x,p.globals[i]?= some x:=⟨_,Al (show i<p.globals.length by rw [←hp];exact z0)⟩
   obtain⟨b,o,y9,cs,B, -,N,C⟩:=(y4.ext a.x).elem n;obtain⟨zz,rfl,ya⟩:=N;obtain⟨hv,hw,rfl⟩:=JB ya;rw [←hp]at B;injection B with hd yb he
   subst hd he;have O:=D C;have xe:AA ((p.globals.map KJ.name)[i]?= some x.name):=D (by rw [Bh,n];rfl);have z2:AA ((c.xs 0 0 (J none 0 0))[3]?= some (Bj (some y6))):=D (by show some c.gm=_;rw [ht]);clear C ya n;generalize x.init.length=ni at*
   generalize x.name=xn at*
   generalize x.kind=xk at*
   generalize x.num=xm at*
   have P:=D (Aj wr (Ab #[V Ad xk,Aa (str xn),V Af xm,J hv ni hw] 112));have z:=D (a.ext ((Ext.refl wr).alloc (Ab #[V Ad xk,Aa (str xn),V Af xm,J hv ni hw] 112)));go_wp2_with (refine KV rfl Bm rfl O Oe ?_);clear O;generalize wr.alloc (Ab #[V Ad xk,Aa (str xn),V Af xm,J hv ni hw] 112)=W8 at P z ⊢;refine JX.go (fun W=>FW p U W1 c i 0 none (J none 0 0) [] 0 W∧W.heap[wr.heap.size]?= some (Ab #[V Ad xk,Aa (str xn),V Af xm,J hv ni hw] 112 (0,0))) [7] (⟨z.ext ((Ext.refl _).drew),CE ((Ext.refl _).drew) P⟩) (fun d=>?_)
   iterate 3 refine JC d ?_
   refine JP d (fun w u=>u.1.cw.Kv (i:=3) z2) ?_
   refine JC d ?_
   refine JP d (fun w u=>JA u.2 1) ?_
   refine JC d ?_
   refine JX.fn (fun K l=>?_);obtain⟨z3,m,xf, -, -⟩:=d.1.gm;rw [ht]at m;injection m with m;injection m with m;subst m
   refine RN Yu (by rfl) _ _ _ (by rfl) y6 _ xf (by rfl) (str xn) (by rfl) (V Ad (i:Nat)) (by rfl) ?_
   intro z4 xg;refine l _ _ ?_
   clear l K;refine JV ?_
   go_wp2_with fail;go_roundw
   case rel=>exact⟨i+1,by go_num,by omega,D ((z.ext ((Ext.refl _).drew)).yz4 y8 ht xe xg)⟩
   case measure=>simp [AX];omega
  ·have z5:i=r:=by omega
   subst z5;have z6:=a.cell xd;go_wp2;go_loopw [49] (fun s hb=>∃ j:Nat,s=V Ad j∧j≤t∧AA (FW p U W1 c i j none (J none 0 0) [] 0 hb)) (fun s _=>t - (AX s).toNat)
   case atStart=>exact⟨0,rfl,by omega,a⟩
   case round=>
    clear a z6;obtain⟨j,rfl,u0,a⟩:=hrel;by_cases z7:j<t
    ·obtain⟨x,n⟩:∃ x,p.JY[j]?= some x:=⟨_,Al (show j<p.JY.length by rw [←y];exact z7)⟩
     obtain⟨b,o,y9,cs,B, -,N,C⟩:=(y5.ext a.x).elem n;obtain⟨z8,z9,za,rfl,hf,hg,hh⟩:=N;obtain⟨PA,Q,rfl⟩:=JB hf;obtain⟨R,S,rfl⟩:=JB hg;obtain⟨T,X,rfl⟩:=JB hh;rw [←y]at B;injection B with hd yb he
     subst hd he;have O:=D C;have xe:AA ((p.JY.map Pg.Fn.name)[j]?= some x.name):=D (by rw [Bh,n];rfl);have xh:AA ((c.xs 0 0 (J none 0 0))[4]?= some (Bj (some hu))):=D (by show some c.fm=_;rw [h4]);clear C hf hg hh n;generalize x.params.length=np at*
     generalize x.JE.length=nl at*
     generalize x.body.length=nb at*
     generalize x.name=xn at*
     have P:=D (Aj wr (Ab #[Aa (str xn),J PA np Q,J R nl S,J T nb X] 109));have z:=D (a.ext ((Ext.refl wr).alloc (Ab #[Aa (str xn),J PA np Q,J R nl S,J T nb X] 109)));go_wp2_with (refine KV rfl Bg rfl O Nb ?_);clear O;generalize wr.alloc (Ab #[Aa (str xn),J PA np Q,J R nl S,J T nb X] 109)=W8 at P z ⊢;refine JX.go (fun W=>FW p U W1 c i j none (J none 0 0) [] 0 W∧W.heap[wr.heap.size]?= some (Ab #[Aa (str xn),J PA np Q,J R nl S,J T nb X] 109 (0,0))) [7] (⟨z.ext ((Ext.refl _).drew),CE ((Ext.refl _).drew) P⟩) (fun d=>?_)
     iterate 3 refine JC d ?_
     refine JP d (fun w u=>u.1.cw.Kv (i:=4) xh) ?_
     refine JC d ?_
     refine JP d (fun w u=>JA u.2 0) ?_
     refine JC d ?_
     refine JX.fn (fun K l=>?_);obtain⟨z3,m,xf, -, -⟩:=d.1.fm;rw [h4]at m;injection m with m;injection m with m;subst m
     refine RN Yu (by rfl) _ _ _ (by rfl) hu _ xf (by rfl) (str xn) (by rfl) (V Ad (j:Nat)) (by rfl) ?_
     intro z4 xg;refine l _ _ ?_
     clear l K;refine JV ?_
     go_wp2_with fail;go_roundw
     case rel=>exact⟨j+1,by go_num,by omega,D ((z.ext ((Ext.refl _).drew)).yz5 y8 h4 xe xg)⟩
     case measure=>simp [AX];omega
    ·have zb:j=t:=by omega
     subst zb;clear yw;obtain⟨hi,xi,u1⟩:=zV8 xy;have yc:=zD0 xz xi;have hj:=D yc;have yd:=D xi;clear yc xi;go_wp2_with (go_at_call 57;refine(zp8 a [Ug,Q0] (by have:=hj.out;simp only [Av];omega) (by simp) (by simp) rfl rfl).mono ?_;rintro e xj ⟨rfl,ye,h5⟩);have xh:AA ((c.xs 0 0 (J none 0 0))[4]?= some (Bj (some hu))):=D (by show some c.fm=_;rw [h4]);have zc:AA (vI ((p.JY.map Pg.Fn.name).take j) (str [109,97,105,110])=some (V Ad hi)):=D (by
      rw [y.out,←AI (f:=Pg.Fn.name),BN]
      unfold vI
      rw [L6,yd.out];rfl)
     have zd:hi≤9223372036854775807:=by have:=y.out;omega
     refine JX.go (FX p U W1 c i j (J none 0 0) 0) [] (⟨_,_,h5.out.ext ((Ext.refl xj).drew)⟩) (fun d=>?_)
     iterate 6 refine JC d ?_
     refine JP d (fun w u=>u.Kv xh) ?_
     refine JX.take (i:=7) (oi:={dst:=some 74,op:=_,type:=_,pos:=_,after:=_,guard:=_}) (v:=?vq1) rfl (by kernel_rfl) (by kernel_rfl) (by kernel_rfl) (by kernel_rfl) (fun _ _ _ ze=>ze) (AO ⟨by rfl,?ax⟩) d ?jJ
     case ax=>(intro w u;obtain⟨u2,h1,hx⟩:=u.fm;rw [h4]at h1;injection h1 with h1;injection h1 with h1;subst h1;exact QY Yu _ _ rfl hu _ hx rfl (str [109,97,105,110]) rfl _ (by rw [zc];first|done|rfl))
     refine JX.rd 8 (fun K l=>?_);go_simp;refine(rZ hi _ zd (h5.cw.tab.ext ((Ext.refl xj).drew))).mono ?_
     rintro e u3 ⟨rfl,yf⟩;have hy:=D ((h5.ext ((Ext.refl xj).drew)).ext yf);clear yf;refine l _ _ ?_ (fun d=>?_)
     ·exact⟨_,_,hy⟩
     clear l K;refine JX.rd 9 (fun K l=>?_);go_simp;refine l _ _ ?_ (fun d=>?_)
     ·exact⟨_,_,hy.ext ((Ext.refl _).alloc _)⟩
     clear l K
     try simp only [Au,pA,pB,pC]
     refine JX.rd 10 (fun K l=>?_);go_simp;refine(zp8 hy [OX,Mc hi] (by have:=hj.out;simp only [M,Av];omega) (by simp) (by simp) rfl rfl).mono ?_
     rintro e u4 ⟨rfl,u5,xl⟩;refine l _ _ ?_ (fun d=>?_)
     ·exact⟨_,_,xl⟩
     clear l K
     try simp only [Au,pA,pB,pC]
     refine JV ?_
     go_wp2_with (first|(go_at_call 59;refine(yz2 xl Kz 0 (by have:=hj.out;simp only [M,Av];omega) (by omega) rfl rfl).mono ?_;rintro e u6 ⟨rfl,u7,yg⟩)|(go_at_call 57;refine(zp8 yg [PR] (by have:=hj.out;simp only [M,Av];omega) (by simp) (by simp) rfl rfl).mono ?_;rintro e u8 ⟨rfl,zf,xo⟩;have zg:=xo.cell xd));obtain⟨yh,hz⟩:=JH ((([]:Bs)++JD [Ug,Q0]++JD [OX,Mc hi]++JS Kz 0++JD [PR]));have a:=xo;clear xo;rw [←hz]at a;have zh:=D hz;have yi:AA (yh.length+(Q3 p 0 p.JY 0).length+(Me 0 p.globals).length+(JU Q0).length≤1000000):=D (by have:=hj.out;rw [hz];simp only [M,Av];omega);clear h5 hy xl yg hz;have hk:AA (0+2*((p.JY.drop 0).map fun f=>Jv f.body).sum≤70000):=D (by
      have h1:=xM p.JY
      have hx:100+((p.globals.map ky).sum+(p.JY.map sF).sum)=QB p:=rfl
      have u9:=yv.out
      rw [FI]
      omega)
     go_loopw [90] (fun s hb=>∃ (k:Nat) (c1:Cn) (xp:Option Nat) (xq:h) (h6:Bs) (Z:Nat),s=V Ad k∧k≤j∧AA (c1.b=c.b)∧AA (FW p U W1 c1 i j xp xq h6 Z hb)∧AA (h6++Q3 p k (p.JY.drop k) Z=yh++Q3 p 0 p.JY 0)∧AA (Z+2*((p.JY.drop k).map fun f=>Jv f.body).sum≤70000)) (fun s _=>j - (AX s).toNat)
     case atStart=>exact⟨0,c,zf,_,_,0,rfl,by omega,D rfl,a,D rfl,hk⟩
     case round=>
      clear a hk;obtain⟨k,c1,xp,xq,h6,Z,rfl,h2,x0,a,xr,hk⟩:=hrel;by_cases zi:k<j
      ·obtain⟨x,n⟩:∃ x,p.JY[k]?= some x:=⟨_,Al (show k<p.JY.length by rw [←y];exact zi)⟩
       have xt:p.JY.drop k=x::p.JY.drop (k+1):=by
        obtain⟨h1,hx⟩:=Ao.1 n;rw [AR h1,hx]
       obtain⟨b,o,y9,cs,B, -,N,C⟩:=(y5.ext a.x).elem n;have zj:=N;obtain⟨z8,z9,za,rfl,hf,hg,hh⟩:=zj;obtain⟨PA,Q,rfl⟩:=JB hf;obtain⟨R,S,rfl⟩:=JB hg;obtain⟨T,X,rfl⟩:=JB hh;rw [←y]at B;injection B with hd yb he
       subst hd he;have O:=D C;have A:=xr.out;rw [xt,zD1]at A;have yj:=hk.out;rw [xt,B7,List.sum_cons]at yj;have yk:=congrArg De A;simp only [M]at yk;have zk:=yH4 p k x Z;have yl:=D (fun(W:Y) (ym:Ext wr W)=>yz3 (i:=V Ad k) (v:=AN #[Aa (str x.name),J PA x.params.length Q,J R x.JE.length S,J T x.body.length X]) (show FW p U W1 c1 p.globals.length p.JY.length xp xq h6 Z W by rw [←hp,←y];exact a.ext ym) xx xy yu n (KF.upd N (Gl (G:=fun _=>False) ym) (fun _ _ q=>q) (fun _ q=>q)) (by omega) (by have:=yi.out;omega) rfl rfl);rw [←hp,←y,x0]at yl;have zl:=D A;have zm:AA ((Oy p k x Z).2+2*((p.JY.drop (k+1)).map fun f=>Jv f.body).sum≤70000):=D (by omega);clear C hf hg hh n xt A yj yk zk N;have zn:=x0;generalize x.params.length=np at*
       generalize x.JE.length=nl at*
       generalize x.body.length=nb at*
       generalize str x.name=xn at*
       have P:=D (Aj wr (Ab #[Aa xn,J PA np Q,J R nl S,J T nb X] 109));go_wp2_with (first|refine KV rfl Bg rfl O Nb ?_|refine LH rfl Bg rfl P Nb ?_|(go_at_call 60;refine(yl _ ((Ext.refl wr).alloc _)).mono ?_;rintro e zo ⟨rfl,zp,ye,zq,zr,h5⟩));go_roundw
       case rel=>exact⟨k+1,zp,ye,zq,_,_,by go_num,by omega,D (by obtain⟨_,_,_,rfl⟩:=zr;exact zn),h5,D (by rw [←zl];simp only [AG]),zm⟩
       case measure=>simp [AX];omega
      ·have zs:k=j:=by omega
       subst zs;have A:=xr.out;rw [show p.JY.drop k=[]from by rw [y,Cu],Q3,BP]at A;have ha:=x0.out;rw [←ha];have yn:AA (h6.length+(Me 0 p.globals).length+(JU Q0).length≤1000000):=D (by rw [A];simp only [M];have:=yi.out;omega);have zt:AA (h6++Me 0 p.globals++JU Q0=OY p):=D (by
        rw [A,zh]
        unfold OY
        rw [yd]
        simp only [AG,B9,CU])
       clear A ha xr hk x0 zg;have ua:=a.cw.Kv (i:=7) rfl;go_wp2_with (first|(go_at_call 61;refine(yi6 a xx (by have:=yn.out;omega)).mono ?_;rintro e zo ⟨rfl,ub,uc,z⟩)|(go_at_call 62;refine(yH3 z Q0 (by have:=yn.out;simp only [M];omega) rfl).mono ?_;rintro e ud ⟨rfl,ue,x1⟩;rw [zt]at x1)|(go_at_call 63;refine(pI x1.cw.eb (by unfold OY JD;simp) xz x1.x (fun k h2=>x1.ge k (AB (AO h2)))).mono ?_;rintro e uf ⟨rfl,yo⟩;have zu:=D (h3.trans yo);have hl:=D (CE yo y1);have y7:=bk hl 0;have xd:=bk hl 1;have ug:=JF hl 0;have f1:=JF hl 1;have x2:=JJ hl 0 (V Ad 0);have uh:=bk x2 1;have ui:=JF x2 1;have zv:=D (JJ x2 1 (V Ad 0));clear x2));refine Rx results35 Bd Pk zv ?_
       exact⟨rfl,(zu.setCell (p:=⟨w.heap.size+1,0,none⟩) (CA _) _).setCell (p:=⟨w.heap.size+1,1,none⟩) (CA _) _⟩
def Ww (w:Y)(L:List Nat)(e:BX)(w':Y):Prop:=∃ A c,e=Ak (AZ #[J A L.length c,AN NU])∧Ext w w'∧w'.ownsRow w.heap.size 24 1 (J A L.length c) L.length (L.map fun n:Nat=>V Af n)
theorem zq2 (G F:h)(C:ByteArray)(L:List Nat)(w:Y)
 (E:∀ W,Ext w W→As prog 35 #[AN #[G,F]] W fun e w'=>e=Ak (AZ #[Aa C,AN NU])∧Ext W w')
 (H:∀ W,Ext w W→As prog 14 #[] W fun e w'=>∃ A c,e=Ak (AN #[V Ad 65536,J A 32 c])∧Ext W w'∧∀ v,Ext w' v→As prog 36 #[AN #[V Ad 65536,J A 32 c],Aa C] v (Ww v L)) (Q:∃ A n c R m d,G=J A n c∧F=J R m d):
 As prog 19 #[AN #[G,F]] w (Ww w L):=by
 obtain⟨b,f,i,j,fn,l,rfl,rfl⟩:=Q;have S:=D E;have x:=D H;unfold Ww at x ⊢;have o:=D (AP w (Ab #[J b f i,J j fn l] 56) (Ab NU 26));have r:=D (Ay w (Ab #[J b f i,J j fn l] 56) (Ab NU 26));have y:=D (((Ext.refl w).alloc (Ab #[J b f i,J j fn l] 56)).alloc (Ab NU 26));obtain⟨n,I⟩:=JH L.length;rw [←I]at x ⊢;clear E H I;go_enter func19,ntmps19;go_upto_region 1 with fail;generalize(w.alloc (Ab #[J b f i,J j fn l] 56)).alloc (Ab NU 26)=W0 at o r y ⊢;obtain⟨a,K⟩:=JH w.heap.size;have M:AA (w.heap.size≤a+1):=D (by omega);rw [←K]at o r ⊢;clear K;have T:=bk o 0;have t1:=bk o 1;go_upto_region 4 with(go_at_call 35;refine(S _ y).mono ?_;rintro e z ⟨rfl,s⟩);have t:=D (y.trans (s.alloc (Ab NU 26)));have B:=D (CE (s.alloc (Ab NU 26)) r);have h6:AA (a+1<W0.heap.size∧W0.heap.size≤z.heap.size+1):=D ⟨(Ag.1 r).1,by have:=s.size;omega⟩;have N:AA (a+1<(z.alloc (Ab NU 26)).heap.size):=D (Ag.1 B).1;generalize z.alloc (Ab NU 26)=W1 at t B N ⊢;clear T t1 s;go_wp2_with (first|(go_at_call 14;refine(x _ t).mono ?_;rintro e h7 ⟨h8,h9,rfl,u,U⟩)|(go_at_call 36;refine(U _ (Ext.refl _)).mono ?_;rintro e X ⟨A,c,rfl,O,P⟩;obtain⟨ha,hb,z1,f1,Z⟩:=RG (CE (u.trans O) B) (V Ad 0) (V Ad 0)));refine Rx results19 Bd Pk Z ?_
 refine⟨A,c,rfl,(((t.trans (u.trans O)).setCell (p:=⟨a+1,0,none⟩) M _).setCell (p:=⟨a+1,1,none⟩) M _),?_⟩;have hc:=u.size;have h0:=KX (w':=(X.setCell ⟨a+1,0,none⟩ (V Ad 0)).setCell ⟨a+1,1,none⟩ (V Ad 0)) P (fun k q=>by
  have:=(Kc P q).1
  have:=N.out
  rw [AY _ _ _ _ (show k≠a+1 by omega),AY _ _ _ _ (show k≠a+1 by omega)])
 have h1:=(t.trans u).size;obtain⟨h2,h3⟩:=h0;exact⟨h2,h3.imp id (fun⟨g,cap,cur,e,h4,h5⟩=>⟨g,cap,cur,e,AL h1 h4,h5⟩)⟩
theorem lT {text:Bs}{L:List Nat}(b:Vp text=some L):text.length≤400000∧(∀c∈text,c.toNat<128)∧∃ a,Rk ⟨[],0,[]⟩ (Kg [] text)=some a∧Oz a.J2 a.items []=some L:=by
 unfold Vp at b;split at b
 ·rename_i q;rw [Ah]at q;split at b
  ·cases b
  ·rename_i a d;exact⟨Ai q.1,fun c hc=>Ai (A7.1 q.2 c hc),a,d,b⟩
 ·cases b
abbrev oO:Array h:= #[V Ad 0,V Ad 0]
theorem AM.start {W:Y}{c:h}{b a:Nat}(d:W.heap[b]?= some (Ab #[V Ad 65536,c,J none 0 0,J none 0 0,Bj (some a),J none 0 0] 143))(e:MapAt KQ W a (fun _=>none))(f:b≠a):AM W c b a ⟨[],0,[]⟩ W:=
 ⟨_,_,_,[],⟨JK.refl _,d,CQ _ _ _ _,⟨0,[],CQ _ _ _ _,Aw _⟩,CQ _ _ _ _,e,f,⟨by simp [CF],by simp [CF],by simp [CF]⟩,⟨by simp [CF],by simp [CF],by simp [CF]⟩,by simp [CF],by simp [CF]⟩,rfl,Yk.nil⟩
theorem AM.upd {w0 w:Y}{e:h}{b d:Nat}{a:Sq}(c:AM w0 e b d a w):JK (fun k=>k=b∨k=d) w0 w:=by
 obtain⟨_,_,_,_,c,_⟩:=c;exact c.x
theorem P8.upd {w w':Y}{m:Int}{G:Nat→Prop}(a:P8 w m)(u:JK G w w')(b:∀ k,G k→13≤k):P8 w' m:=⟨a.tab.upd u b,u.cell a.c7 (fun q=>by have:=b 7 q;omega)⟩
theorem xO {a d:Sq}{s:Bs}{e:List Bs}(c:Rk a (s::e)=some d):∃ l b,Pp s=some l∧QS a l=some b∧Rk b e=some d:=by
 rw [Rk]at c;split at c
 ·cases c
 ·rename_i l f;split at c
  ·cases c
  ·rename_i b g;exact⟨l,b,f,g,c⟩
theorem zD2 {a b:Sq}{l:WO}(c:QS a l=some b):b.J2.length≤a.J2.length+1:=by
 unfold QS at c
 repeat' split at c
 all_goals first|(cases c;simp;done)|(cases c;simp)|cases c
theorem AW.put {w0 w:Y}{j:h}{b c:Nat}{d lv l:h}{ws:List Nat}{m:List (Bs×Nat)}{rs:List (Nat×Nat×Bs)}(a:AW w0 j b c d lv l ws m rs w){i:Nat}(o:i<ws.length):
 ∃g cap,d=J (some ⟨g,0,none⟩) ws.length cap∧w.cell? ⟨g,i,none⟩=some (V Af (ws[i]?.getD 0:Nat))∧w.frozen? ⟨g,i,none⟩=false∧g≠b∧∀ v:Nat,AW w0 j b c d lv l (ws.set i v) m rs (w.setCell ⟨g,i,none⟩ (V Af v)):=by
 obtain⟨h1,t⟩:=a.wr;rcases t with⟨_,F⟩|⟨g,cap,cur,e,p,f,u,y,z,r⟩
 ·omega
 ·subst e;obtain⟨G,H,I,K,L⟩:=a.blt;obtain⟨A,xs,B,C⟩:=a.lr;have s:g≠b:=fun q=>a.nb.1 (by rw [q];rfl)
  have D:g≠c:=fun q=>a.nm.1 (by rw [q];rfl)
  have set:∀ (v:h) k,k≠g→(w.setCell ⟨g,i,none⟩ v).heap[k]?= w.heap[k]? :=fun v k q=>AY _ _ _ _ q
  have E:cur[i]?= some (V Af (ws[i]?.getD 0:Nat)):=by
   have:(cur.toList.take (ws.length*1))[i]?= (ws.map fun n:Nat=>V Af n)[i]? :=by rw [r]
   rw [Dc,if_pos (by omega),CP,Bh,Al o]at this;rw [this,Al o];rfl
  refine⟨g,cap,rfl,by rw [JA f,E],JF f i,s,fun v=>?_⟩;refine⟨a.x.setCell (AO p) _,(set _ b (fun q=>s q.symm)).trans a.hb,⟨by simp,AB ⟨g,cap,cur.setIfInBounds i (V Af v),by simp,p,JJ f i _,by simpa using u,y,by simpa using z,?_⟩⟩,⟨A,xs,KX B (fun k q=>set _ k (fun e=>(a.nw g rfl).1 (e▸q))),C⟩,KX a.rr (fun k q=>set _ k (fun e=>(a.nw g rfl).2 (e▸q))),MapAt.keep KQ a.mp (set _ c (fun q=>D q.symm)),a.bm,a.nb,a.nm,a.nw,a.nl⟩;rw [Array.toList_setIfInBounds,Gx,List.take_set,r,List.map_set]
theorem eZ:∀ {rs:List (Nat×Nat×Bs)}{j:Nat}{a:Nat×Nat×Bs},rs[j]?= some a→∀ (q:Nat) u,(XB a)[q]?= some u→(rs.flatMap XB)[j*4+q]?= some u
 |[],j,a,b,_,_,_=>by simp at b
 |x::l,0,a,b,q,u,c=>by
  have e:x=a:=by simpa using b
  subst e;rw [Hw,FG,BF,Ce (Ao.1 c).1];exact c
 |x::l,j+1,a,b,q,u,c=>by
  rw [Hw,Cs (by show 4≤_;omega),show(j+1)*4+q - (XB x).length=j*4+q by show _ - 4=_;omega];exact eZ (by simpa using b) q u c
theorem zL9:(prog.info? 193).map (·.size)=some 4:=by kernel_rfl
theorem zq3 {w i c:Y}{m:h}{b d a j:Nat}{l:Option Bi}{wc:Nat}{lv o:h}{ws:List Nat}{t:List (Bs×Nat)}{rs:List (Nat×Nat×Bs)}(r:Ext w i)(f:AW i m b d (J l j wc) lv o ws t rs c)(D:b≠d∧w.heap.size≤d∧w.heap.size≤b∧a+1<d∧a+1<b)(E:a=w.heap.size)(F:a+1<i.heap.size)(u v:h):
 Ext w ((c.setCell ⟨a+1,0,none⟩ u).setCell ⟨a+1,1,none⟩ v)∧((c.setCell ⟨a+1,0,none⟩ u).setCell ⟨a+1,1,none⟩ v).heap[b]?= some (Ab #[V Ad 65536,m,J l j wc,lv,Bj (some d),o] 143)∧((c.setCell ⟨a+1,0,none⟩ u).setCell ⟨a+1,1,none⟩ v).ownsRow w.heap.size 24 1 (J l j wc) ws.length (ws.map fun n:Nat=>V Af n):=by
 have set:∀ k,k≠a+1→((c.setCell ⟨a+1,0,none⟩ u).setCell ⟨a+1,1,none⟩ v).heap[k]?= c.heap[k]? :=fun k q=>by
  rw [AY _ _ _ _ q,AY _ _ _ _ q]
 have y:=((Gl (G:=fun k=>k=b∨k=d) r).trans f.x).ext (fun k s q=>by omega);have s:=KX (w':=(c.setCell ⟨a+1,0,none⟩ u).setCell ⟨a+1,1,none⟩ v) f.wr (fun k q=>set k (by have:=(Kc f.wr q).1;omega));obtain⟨z,A⟩:=s;exact⟨(y.setCell (p:=⟨a+1,0,none⟩) (by show w.heap.size≤a+1;omega) _).setCell (p:=⟨a+1,1,none⟩) (by show w.heap.size≤a+1;omega) _,(set b (by omega)).trans f.hb,z,A.imp id (fun⟨g,cap,cur,e,B,C⟩=>⟨g,cap,cur,e,AL r.size B,C⟩)⟩
theorem Zj:∀ (s acc:Bs),(Kg acc s).length≤s.length+1
 |[],acc=>by simp [Kg]
 |c::a,acc=>by
  rw [Kg];split
  ·have:=Zj a [];simp only [Am];omega
  ·have:=Zj a (c::acc);simp only [Am];omega
theorem YH:∀ (s acc x:Bs),x∈Kg acc s→x.length≤acc.length+s.length
 |[],acc,x,a=>by
  have e:x=acc.reverse:=by simpa [Kg]using a
  rw [e];simp
 |c::b,acc,x,a=>by
  rw [Kg]at a;split at a
  ·rcases AH.1 a with e|e
   ·rw [e];simp
   ·have:=YH b [] x e;simp only [Am,Av]at*;omega
  ·have:=YH b (c::acc) x a;simp only [Am]at*;omega
theorem xP (h4:h)(U:Nat→Prop)(text:Bs)(L:List Nat)(w:Y)(m:Int)(ho:P8 w m)(hp:Ju KI U w J3 h4)(xm:∀ k,U k→k<w.heap.size)(xn:Vp text=some L)
 (xo:∀ W,Ext w W→As prog 37 #[AN #[V Ad 65536,h4]] W fun e w'=>e=Ak (AN oO)∧Ext W w'):
 As prog 64 #[AN #[V Ad 65536,h4],Aa (str text)] w fun e w'=>∃ b A c yr ys yt,e=Ak (AZ #[Ae (some ⟨b,0,none⟩),AN oO])∧Ext w w'∧w'.heap[b]?= some (Ab #[V Ad 65536,h4,J A L.length c,yr,ys,yt] 143)∧w.heap.size≤b∧w'.ownsRow w.heap.size 24 1 (J A L.length c) L.length (L.map fun n:Nat=>V Af n):=by
 obtain⟨hlen,xp,xq,xr,xs⟩:=lT xn;have T:=D (fun W (x:Ext w W)=>strings_Split (str text) (str [10]) m W (by rw [KO];omega) (ho.ext x).c7 (by rw [KO];exact Aw _));rw [(lC text).1,(lC text).2]at T;have yu:=D xo;have xt:=D hp;have hq:=D ho;have xu:=D xm;have xv:AA (∀x∈Kg [] text,(∀c∈x,c.toNat<128)):=D (fun x o c hc=>by rcases Wp o c hc with q|q;exact xp c q;simp at q);have xw:=D xr;have xx:=D xs;have yv:(str text).size≤400000:=by rw [KO];exact hlen
 obtain⟨r,c0,xy⟩:=JB hp;rw [show J3.length=32 from rfl]at xy;subst xy;obtain⟨z,h5⟩:=JH (Kg [] text);rw [←h5]at T xv xw;have yw:AA (∀x∈z,x.length≤400000):=D (fun x o=>by rw [h5]at o;have:=YH text [] x o;simp only [Av]at this;omega);have hr:AA (z.length≤400001):=D (by rw [h5];have:=Zj text [];omega);obtain⟨H,hs⟩:=JH (((z.map str).map Aa).toArray);rw [←hs]at T;have yx:AA (∀(i:Nat) x,z[i]?= some x→H[i]?= some (Aa (str x))):=D (fun i x o=>by rw [hs];simp [o]);clear hs;obtain⟨zu,xz⟩:=JH (str text);rw [←xz]at T yv ⊢;have I:=D (AP w (Ab #[V Ad 65536,J r 32 c0] 47) (Ab oO 26));have h6:=D (Ay w (Ab #[V Ad 65536,J r 32 c0] 47) (Ab oO 26));have h7:=D (((Ext.refl w).alloc (Ab #[V Ad 65536,J r 32 c0] 47)).alloc (Ab oO 26));clear xn xo hp ho xm hlen xp xr xs h5 xz;go_enter func64,ntmps64;go_upto_region 1 with fail;generalize(w.alloc (Ab #[V Ad 65536,J r 32 c0] 47)).alloc (Ab oO 26)=W0 at I h6 h7 ⊢;obtain⟨y0,ht⟩:=JH w.heap.size;have yy:=D ht;rw [←ht]at I h6 ⊢;clear ht;have hu:=bk I.out 0;have t1:=bk I.out 1;go_upto_region 6 with(go_at_call 37;refine(yu.out _ h7.out).mono ?_;rintro e yz ⟨rfl,h8⟩);have h9:=D (h7.out.trans (h8.alloc (Ab oO 26)));have ha:=D (CE (h8.alloc (Ab oO 26)) I.out);have Z:=D (CE (h8.alloc (Ab oO 26)) h6.out);generalize yz.alloc (Ab oO 26)=W1 at h9 ha Z ⊢;clear hu t1 I h6 h7 h8;have hu:=bk ha.out 0;have t1:=bk ha.out 1;have z0:= @DF prog;go_upto_region 7 with fail;have hd:=D (((Ext.refl W1).alloc (Eu #[] 0)).alloc (Ab #[V Ad 65536,J r 32 c0,J none 0 0,J none 0 0,Bj (some W1.heap.size),J none 0 0] 143));have h0:=D (Ay W1 (Eu #[] 0) (Ab #[V Ad 65536,J r 32 c0,J none 0 0,J none 0 0,Bj (some W1.heap.size),J none 0 0] 143));have M:AA (MapAt KQ ((W1.alloc (Eu #[] 0)).alloc (Ab #[V Ad 65536,J r 32 c0,J none 0 0,J none 0 0,Bj (some W1.heap.size),J none 0 0] 143)) W1.heap.size (fun _=>none)):=D (MapAt.keep KQ (Ti KQ W1) (heap_alloc_old _ _ (by simp)));generalize(W1.alloc (Eu #[] 0)).alloc (Ab #[V Ad 65536,J r 32 c0,J none 0 0,J none 0 0,Bj (some W1.heap.size),J none 0 0] 143)=B at hd h0 M ⊢;have hv:=D h9.out.size;have hw:=D (h9.out.trans hd.out);have y1:=D (CE hd.out Z.out);obtain⟨t,he⟩:=JH W1.heap.size;obtain⟨b,y2⟩:=JH (W1.heap.size+1);have N:AA (b≠t∧w.heap.size≤t∧w.heap.size≤b∧y0+1<t∧y0+1<b):=D ⟨by omega,by rw [he];exact hv.out,by have:=hv.out;omega,by have:=(Ag.1 Z.out).1;omega,by have:=(Ag.1 Z.out).1;omega⟩;rw [←y2,←he]at h0 ⊢;rw [←he]at M;clear hu t1 z0 he y2 hd h9 ha Z hv;go_wp2_with (go_at_call 109;refine(T.out _ hw.out).mono ?_;rintro e zv ⟨rfl,rfl⟩);have hf:=D (hw.out.alloc (Ab H 9));have hx:=D (MX (q:=Ab H 9) y1.out);have hz:AA (∀i x,z[i]?= some x→(B.alloc (Ab H 9)).cell? ⟨B.heap.size,i,none⟩=some (Aa (str x))):=D (fun i x o=>by
  rw [JA (Aj B _)]
  exact yx.out i x o)
 have y3:=D (AM.start (MX (q:=Ab H 9) h0.out) (MapAt.keep KQ M.out (heap_alloc_old B _ (MapAt.lt KQ M.out))) N.out.1);have x0:AA (B.heap.size≠b∧B.heap.size≠t):=D ⟨fun q=>by have:=(Ag.1 h0.out).1;omega,fun q=>by have:=MapAt.lt KQ M.out;omega⟩;generalize B.alloc (Ab H 9)=W3 at hf hx hz y3 ⊢;have y4:=D (hq.out.ext hf.out);have y5:=D (xt.out.ext hf.out);have z2:AA (∀k,(k=b∨k=t)→13≤k):=D (fun k q=>by have:=hq.out.tab.lt;have:=N.out;omega);have z3:AA (∀k,U k→¬ (k=b∨k=t)):=D (fun k q c=>by have:=xu.out k q;have:=N.out;omega);obtain⟨zw,y6⟩:=JH B.heap.size;rw [←y6]at hz x0 ⊢;clear y6 y1 h0 M hw hq xu xt;obtain⟨hg,O⟩:=JH z.length;have y7:=D O;rw [←O]at hr ⊢;clear O;have zx:=hr.out;go_loopw [32] (fun s x1=>∃ (i:Nat) (a:Sq),s=V Ad i∧i≤hg∧AA (AM W3 (J r 32 c0) b t a x1)∧AA (Rk a (z.drop i)=some xq)∧AA (a.J2.length≤i)) (fun s _=>hg - (AX s).toNat)
 case atStart=>exact⟨0,_,rfl,by omega,y3,D (by rw [FI];exact xw.out),D (Dd _)⟩
 case round=>
  obtain⟨i,a,rfl,zy,E,hh,hi⟩:=hrel;by_cases x2:i<hg
  ·obtain⟨x,o⟩:∃ x,z[i]?= some x:=⟨_,Al (show i<z.length by rw [←y7.out];exact x2)⟩
   have x3:=AD o;obtain⟨l,x4,y8,x5,y9⟩:=xO (by have:=hh.out;rw [AR (Ao.1 o).1,(Ao.1 o).2]at this;exact this);have hc:=E.out.upd.cell (hz.out i x o) (fun q=>q.elim x0.out.1 x0.out.2);have z4:=D (zC9 W3 (J r 32 c0) U m b t a x4 wr E.out (y4.out.upd E.out.upd z2.out) (y5.out.upd E.out.upd z3.out (fun k q=>q)) i x l (xv.out x x3) (yw.out x x3) y8 x5 (by have:=hi.out;have:=hr.out;omega));have z5:=D y9;have z6:AA (x4.J2.length≤i+1):=D (by have:=zD2 x5;have:=hi.out;omega);clear o x3 y8 x5 y9 E hh hi;go_wp2_with (go_at_call 110;refine z4.out.mono ?_;rintro e zz ⟨rfl,z7⟩);go_roundw
   case rel=>exact⟨i+1,x4,by go_num,by omega,D z7,z5,z6⟩
   case measure=>simp [AX];omega
  ·have z8:i=hg:=by omega
   subst z8;have z9:a=xq:=by
    have:=hh.out;rw [y7.out,Cu,Rk]at this;injection this
   subst z9;obtain⟨u0,lv,u1,rs,ya,hj,P⟩:=E.out;obtain⟨x6,yb⟩:=Ty xx.out;rw [BP]at x6;have Q:AA ((rs.map fun d=>d.2).foldl (Uu a.J2) (a.items.reverse.map Ee)=L):=D (by
    have:=Vi a.J2 a.items.reverse []
    rw [B9,Av]at this
    rw [hj,this,x6];rfl)
   have yc:AA (∀d∈rs,d.2.1<(a.items.reverse.map Ee).length∧∃ k,Ml d.2.2 a.J2=some k∧k≤65536):=D (fun d C=>by
    have za:d.2∈Kw 0 a.items.reverse:=by rw [←hj];exact List.mem_map_of_mem C
    obtain⟨zb,n,q2⟩:=Wu za
    obtain⟨k,F⟩:=yb n d.2.2 (by simpa using q2)
    exact⟨by simpa using zb,k,F,P.lab _ _ F⟩)
   have yd:AA (rs.length≤65536):=D (by
    have:=congrArg De hj
    rw [AI]at this
    have zc:=Wv a.items.reverse 0
    rw [GF,P.n]at zc
    have:=P.le
    omega)
   have zd:AA ((a.items.reverse.map Ee).length≤65536):=D (by simp [P.n];exact P.le);have v:=D ya;clear ya hj P x6 yb E hh hi xx y4 y5;generalize a.items.reverse.map Ee=ws at*
   generalize a.J2=J2 at*
   obtain⟨R,x7⟩:=JH rs.length;have ye:=D x7;obtain⟨ze,zf,yf, -⟩:=K7 v.out.rr;rw [←x7]at yf yd;subst yf;obtain⟨x8,x9⟩:=JH ws.length;obtain⟨yg,wc,yh, -⟩:=K7 v.out.wr;rw [←x9]at yh yc zd;have zg:=D x9;subst yh;clear x7 x9;have zh:=bk v.out.hb 5;have u2:=yd.out;go_wp2;clear zh;go_loopw [52] (fun s x1=>∃ (j:Nat) (y:List Nat),s=V Ad j∧j≤R∧AA (AW W3 (J r 32 c0) b t (J yg x8 wc) lv (J ze R zf) y J2 rs x1)∧AA (((rs.drop j).map fun d=>d.2).foldl (Uu J2) y=L)∧AA (y.length=x8)) (fun s _=>R - (AX s).toNat)
   case atStart=>exact⟨0,ws,rfl,by omega,v,D (by rw [FI];exact Q.out),D zg.out.symm⟩
   case round=>
    clear v Q;obtain⟨j,y,rfl,u3,v,Q,hk⟩:=hrel;by_cases x2:j<R
    ·obtain⟨d,C⟩:∃ d,rs[j]?= some d:=⟨_,Al (show j<rs.length by rw [←ye.out];exact x2)⟩
     obtain⟨yi,k,F,u4⟩:=yc.out d (AD C);obtain⟨hl,at_,nm⟩:=d;dsimp only at yi F;obtain⟨u5,u6,zi, -, -, -,xa⟩:=K7 v.out.rr;injection zi with xb xc xd
     subst xb xd;clear xc;obtain⟨zj,zk,zl⟩:=xa.base (by have:=eZ C 0 _ rfl;exact Ey (Dd _) (Ao.1 this).1);subst zl;have xe:AA (∀(q:Nat) u,[V Ad hl,V Ad at_,Aa (str nm),V Af 0][q]?= some u→wr.cell? ⟨zj,zk+j*4+q,none⟩=some u):=D (fun q u zm=>by
      obtain⟨u7,e,hc⟩:=xa _ u (eZ C q u zm)
      cases e
      rw [MW]at hc
      rw [H8];exact hc)
     have xf:AA (WC J2 (str nm)=some (V Af k)):=D (by unfold WC;rw [L6,F];rfl);have h1:AA (((rs.drop (j+1)).map fun d=>d.2).foldl (Uu J2) (y.set at_ ((y[at_]?.getD 0+k) %4294967296))=L):=D (by
      have:=Q.out
      rw [AR (Ao.1 C).1,(Ao.1 C).2,B7,IP]at this
      unfold Uu at this
      rw [F]at this
      exact this)
     obtain⟨hm,xg⟩:=JH ((y[at_]?.getD 0+k) %4294967296);have yj:=D xg;rw [←xg]at h1;clear xg;obtain⟨S,p⟩:=JH (str nm);rw [←p]at xe xf;clear p xa C F Q;have yk:=D (((Ext.refl wr).alloc (Ab zRf 193)).setRow (Aw _) #[V Ad hl,V Ad at_,Aa S,V Af 0]);have h2:=D (Bo (wr.alloc (Ab zRf 193)) wr.heap.size zRf #[V Ad hl,V Ad at_,Aa S,V Af 0] 193 (0,0) (Aj wr _));go_upto_region 17 with(first|(refine KV rfl underlying193 rfl xe.out zL9 ?_)|(refine L8 rfl rfl rfl (Aj wr _) zL9 ?_));have G:=D (v.out.ext yk.out);obtain⟨X,yl⟩:=JH wr.heap.size;rw [←yl]at h2 G ⊢;generalize(wr.alloc (Ab zRf 193)).setRow X #[V Ad hl,V Ad at_,Aa S,V Af 0]=hn at G h2 ⊢;clear yl yk v xe;refine JX.go (fun xh=>Ext hn xh) [] (Ext.drew (Ext.refl _)) (fun f=>?_)
     iterate 3 refine JC f ?_
     refine JP f (fun w p=>JA (CE p G.out.hb) 4) ?_
     iterate 2 refine JC f ?_
     refine JP f (fun w p=>JA (CE p h2.out) 2) ?_
     refine JC f ?_ (hy:=by intro w p;exact XD mtU _ _ rfl t _ (MapAt.keep KQ G.out.mp (p.block t G.out.blt.2.1)) (by rfl) S (by rfl) (V Af k) true (by rw [xf.out];rfl) (by rw [xf.out];rfl))
     iterate 5 refine JC f ?_
     refine JV ?_
     have xi:=D (G.out.ext ((Ext.refl hn).drew));have ym:=D (CE ((Ext.refl hn).drew) h2.out);clear G h2;generalize hn.drew=W6 at xi ym ⊢;go_wp2;obtain⟨g,cap,yn,xj,zn,u8,yo⟩:=xi.out.put (i:=at_) (by rw [hk.out];exact yi);rw [hk.out]at yn;injection yn with xb xc xd
     subst xb xd
     try clear xc
     have yp:=D (yo hm);obtain⟨old,hold⟩:=JH (y[at_]?.getD 0);rw [←hold]at xj;have zo:Af.wrap ((old:Int)+(k:Int))=(hm:Int):=by rw [yj.out,←hold,Eg];omega
     clear yo hold yj;refine JX.go (fun xh=>Ext W6 xh) [11] (Ext.drew (Ext.refl _)) (fun f=>?_)
     iterate 3 refine JC f ?_
     refine JP f (fun w p=>JA (CE p xi.out.hb) 2) ?_
     refine JC f ?_
     refine JP f (fun w p=>JA (CE p ym.out) 1) ?_
     refine JC f ?_
     refine JP f (fun w p=>Ext.cell p xj) ?_
     iterate 2 refine JC f ?_
     refine JM (fun K h3=>?_);go_simp;refine h3.out _ _ (f) (fun f=>?_);clear h3;refine JX.fn (fun K h3=>?_);go_simp;refine h3.out _ _ ?_
     clear h3;refine JV ?_
     have xk:=D (yp.out.ext ((Ext.refl _).drew));have yq:AA ((y.set at_ hm).length=x8):=D (by rw [Gx];exact hk.out);generalize(W6.setCell ⟨g,at_,none⟩ (V Af hm)).drew=W7 at xk ⊢;clear yp xj zn zo;go_wp2;go_roundw
     case rel=>first|exact⟨j+1,_,by go_num,by omega,xk,by first|exact h1|exact D (by rw [←List.map_drop];exact h1.out),yq⟩|exact⟨_,_,_,_,_,⟨j+1,by go_num,by omega,_,xk,by first|exact h1|exact D (by rw [←List.map_drop];exact h1.out),yq⟩,rfl,rfl,rfl,rfl,rfl⟩
     case measure=>simp [AX];omega
    ·have zp:j=R:=by omega
     subst zp;have zq:y=L:=by
      have:=Q.out;rw [ye.out,Cu]at this;exact this
     subst zq;have O:=hk.out;have zr:=D (v.out.x.heap hx.out (fun q=>by have:=N.out;omega));obtain⟨u9,ua,z1,f1,zs⟩:=RG zr.out (V Ad 0) (V Ad 0);have zt:=D (Ag.1 hx.out).1;go_wp2;refine Rx results64 Bd Pk zs.out ?_
     have xl:=zq3 hf.out v.out N.out yy.out zt.out (V Ad 0) (V Ad 0);exact⟨b,yg,wc,_,_,_,rfl,xl.1,by rw [O];exact xl.2.1,N.out.2.2.1,by have:=xl.2.2;rw [O]at this ⊢;exact this⟩
theorem YI {fn:Func}{a b c:Tmp}(d:fn.results= #[Jt a,Jt b,Jt c])(tmps:Array h)(P:BR)(w:Y):
 (El fn tmps).run P w=Ez (AZ #[tmps.getD a Ca,tmps.getD b Ca,tmps.getD c Ca]) w:=by simp [El,d]
def Uw (k:Nat):Bool×Bool×Bool:=if k=14∨k=18 then(false,true,true)else if k=16∨k=17 then(false,true,false)else if k=15 then(true,false,false)else if k=0∨k=13 then(true,true,false)else(true,true,true)
theorem yI1 (k:Nat)(w:Y):As prog 151 #[V Ad k] w fun e w'=>e=Ak (AZ #[AE (Uw k).1,AE (Uw k).2.1,AE (Uw k).2.2])∧w'=w:=by
 have c:(k=14∨k=18∨k=16∨k=17∨k=15∨k=0∨k=13)∨(((k:Int)==14)=false∧((k:Int)==18)=false∧((k:Int)==16)=false∧((k:Int)==17)=false∧((k:Int)==15)=false∧((k:Int)==0)=false∧((k:Int)==13)=false∧Uw k=(true,true,true)):=by
  by_cases b:k=14∨k=18∨k=16∨k=17∨k=15∨k=0∨k=13
  ·exact AO b
  ·refine AB ⟨?_,?_,?_,?_,?_,?_,?_,?_⟩
   all_goals first|(simp;omega)|(unfold Uw;rw [if_neg (by omega),if_neg (by omega),if_neg (by omega),if_neg (by omega)])
 rcases c with b|⟨f,g,h,i,j,l,m,d⟩
 ·rcases b with rfl|rfl|rfl|rfl|rfl|rfl|rfl
  all_goals
   go_enter func151,ntmps151;go_wp2;refine B1 (YI results151 _ _ _) rfl ?_
   exact⟨rfl,rfl⟩
 ·rw [d];go_enter func151,ntmps151;go_wp2;refine B1 (YI results151 _ _ _) rfl ?_
  exact⟨rfl,rfl⟩
def vtB (t:Tm)(used op:Bool):Bool:=if used then(t.kind==0||(t.kind==1&&A6 t.val 4)||(t.kind==2&&t.val==0&&op))else(t.kind==0&&t.val==0)
theorem bY (t:Tm)(used op:Bool)(w:Y)(a:vtB t used op=true):As prog 152 #[AN #[V Ad t.kind,V Af t.val],AE used,AE op] w fun e w'=>e=Ak (AE true)∧Ext w w':=by
 obtain⟨b,c⟩:=t;dsimp only;unfold vtB at a;cases used with
 |false=>
  have h1:b=0∧c=0:=by simpa using a
  obtain⟨rfl,rfl⟩:=h1;go_enter func152,ntmps152;go_wp2;go_ret;exact⟨rfl,(Ext.refl w).alloc _⟩
 |true=>
  have h1:b=0∨(b=1∧c≤4)∨(b=2∧c=0∧op=true):=by
   simp only [if_true,DZ,Ah,beq_iff_eq,Nat.ble_eq]at a;rcases a with(a|a)|⟨⟨h1,d⟩,f⟩
   ·exact AO a
   ·exact AB (AO a)
   ·exact AB (AB ⟨h1,d,f⟩)
  clear a;rcases h1 with rfl|⟨rfl,g⟩|⟨rfl,rfl,rfl⟩
  all_goals
   go_enter func152,ntmps152;go_wp2;go_ret
   first|exact⟨rfl,(Ext.refl w).alloc _⟩|exact⟨by simp;omega,(Ext.refl w).alloc _⟩
def caB (a:Ac)(op:Bool):Bool:=Be a.kind 20&&A6 a.eQ 4&&((Uw a.kind).1||a.eQ==0)&&vtB a.x (Uw a.kind).2.1 op&&vtB a.y (Uw a.kind).2.2 op
theorem lV (a:Ac)(op:Bool)(w:Y)(g:caB a op=true):As prog 112 #[AN (QL a).toArray,AE op] w fun e w'=>e=Ak (V Ad 0)∧Ext w w':=by
 unfold caB at g;simp only [Ah]at g;obtain⟨⟨⟨⟨h1,h⟩,i⟩,m⟩,n⟩:=g;have h1:=Ai h1;have h:=Ai h;have o:=D (fun W=>yI1 a.kind W);have p:=D (fun W=>bY a.x _ op W m);have r:=D (fun W=>bY a.y _ op W n);obtain⟨k,t,⟨s,v⟩,z,A⟩:=a;unfold QL;dsimp only at*
 generalize(Uw k).1=B at*
 generalize(Uw k).2.1=ux at*
 generalize(Uw k).2.2=uy at*
 have L:¬ (k:Int)≥20:=by omega
 have M:¬ (t:Int)>4:=by omega
 have N:((t:Int) != 0)= !(t==0):=by cases t<;>rfl
 have c:AA (∀(W:Y) (q d:Nat) (u:Bool),(q=s∧d=v∧u=ux)∨(q=z∧d=A∧u=uy)→As prog 152 #[AN #[V Ad q,V Af d],AE u,AE op] W fun e w'=>e=Ak (AE true)∧Ext W w'):=D (fun W q d u C=>by
  rcases C with⟨rfl,rfl,rfl⟩|⟨rfl,rfl,rfl⟩
  ·exact p W
  ·exact r W)
 clear p r;have f:=D (Aj w (Ab #[V Ad k,V Ad t,V Ad s,V Af v,V Ad z,V Af A] 76));clear m n h1 h;cases B with
 |true=>
  clear i;go_enter func112,ntmps112;go_wp2_with (first|(go_at_call 151;refine(o _).mono ?_;rintro e E ⟨rfl,rfl⟩)|(go_at_call 152;refine(c _ _ _ _ (by first|exact AO ⟨rfl,rfl,rfl⟩|exact AB ⟨rfl,rfl,rfl⟩)).mono ?_;rintro e F ⟨rfl,b⟩;have G:=bk (CE b f) 4;have H:=bk (CE b f) 5;have j:=D b;clear b)|(go_at_call 152;refine(c _ _ _ _ (AB ⟨rfl,rfl,rfl⟩)).mono ?_;rintro e I ⟨rfl,l⟩));go_ret;exact⟨rfl,((Ext.refl w).alloc _).trans (j.trans l)⟩
 |false=>
  have K:t=0:=by simpa using i
  subst K;clear i;go_enter func112,ntmps112;go_wp2_with (first|(go_at_call 151;refine(o _).mono ?_;rintro e E ⟨rfl,rfl⟩)|(go_at_call 152;refine(c _ _ _ _ (by first|exact AO ⟨rfl,rfl,rfl⟩|exact AB ⟨rfl,rfl,rfl⟩)).mono ?_;rintro e F ⟨rfl,b⟩;have G:=bk (CE b f) 4;have H:=bk (CE b f) 5;have j:=D b;clear b)|(go_at_call 152;refine(c _ _ _ _ (AB ⟨rfl,rfl,rfl⟩)).mono ?_;rintro e I ⟨rfl,l⟩));go_ret;exact⟨rfl,((Ext.refl w).alloc _).trans (j.trans l)⟩
theorem sP (nm:Bs)(code:Int)(op:Bool)(acts:List Ac)(U:Nat→Prop)(v:h)(w:Y)(p:Ju KA U w acts v)(h0:acts.length≤8)(F:∀ a∈acts,caB a op=true)
 (G:∀ W,As prog 111 #[Aa (str nm)] W fun e w'=>e=Ak (AE true)∧Ext W w'):
 As prog 65 #[AN #[Aa (str nm),V Af code,AE op,v]] w fun e w'=>e=Ak (V Ad 0)∧Ext w w':=by
 have h1:=D p;have H:=D G;have h2:=D (fun a h3 W=>lV a op W (F a h3));obtain⟨A,c,rfl⟩:=JB p;obtain⟨S,I⟩:=JH (str nm);rw [←I]at H ⊢;obtain⟨n,q⟩:=JH acts.length;have K:=D q;rw [←q]at h0 ⊢;have L:=D ((Ext.refl w).alloc (Ab #[Aa S,V Af code,AE op,J A n c] 72));have r:=D (Aj w (Ab #[Aa S,V Af code,AE op,J A n c] 72));clear I q p G F;go_enter func65,ntmps65;go_upto_region 5 with(go_at_call 111;refine(H _).mono ?_;rintro e hd ⟨rfl,l⟩;have M:=bk (CE l r) 3);have h4:=D (L.trans l);have N:=D (CE l r);obtain⟨X,O⟩:=JH w.heap.size;rw [←O]at N M ⊢;clear O l r L;go_wp2;go_loopw [19] (fun s P=>∃ i:Nat,s=V Ad i∧i≤n∧AA (Ext w P)∧AA (P.heap[X]?= some (Ab #[Aa S,V Af code,AE op,J A n c] 72))) (fun s _=>n - (AX s).toNat)
 case atStart=>exact⟨0,rfl,by omega,h4,N⟩
 case round=>
  obtain⟨i,rfl,he,u,h5⟩:=hrel;clear M;by_cases h6:i<n
  ·obtain⟨x,y⟩:∃ x,acts[i]?= some x:=⟨_,Al (show i<acts.length by rw [←K];exact h6)⟩
   obtain⟨b,o,hf,cs,Q, -,rfl,R⟩:=(h1.ext u).elem y;rw [←K]at Q;injection Q with h7 h8 h9
   subst h7 h9;clear h8;have ha:=D R;have z:=D (h2 x (AD y));unfold QL at z;obtain⟨k,t,⟨d,f⟩,g,j⟩:=x;clear R y;dsimp only at z;have B:=D (((Ext.refl wr).alloc (Ab bQ 76)).setRow (Aw _) #[V Ad k,V Ad t,V Ad d,V Af f,V Ad g,V Af j]);have C:=D (Bo (wr.alloc (Ab bQ 76)) wr.heap.size bQ #[V Ad k,V Ad t,V Ad d,V Af f,V Ad g,V Af j] 76 (0,0) (Aj wr _));go_upto_region 8 with(first|(refine Pn rfl 76 _ rfl b (o+i*6) rfl _ [V Ad k,V Ad t,V Ad d,V Af f,V Ad g,V Af j] ha FO rfl Yj ?_)|(refine CK rfl 76 _ _ rfl wr.heap.size #[V Ad k,V Ad t,V Ad d,V Af f,V Ad g,V Af j] rfl rfl 76 bQ (Aj wr _) Yj rfl (by simp [CT]) ?_));have m:=D (CE B h5);obtain⟨hb,T⟩:=JH wr.heap.size;have E:=D (u.trans B);rw [←T]at C m E ⊢;generalize(wr.alloc (Ab bQ 76)).setRow hb #[V Ad k,V Ad t,V Ad d,V Af f,V Ad g,V Af j]=W4 at C m E ⊢;clear T B;have hg:=bk m 2;go_wp2_with (first|(refine LH rfl FO rfl C Yj ?_)|(go_at_call 112;refine(z _).mono ?_;rintro e hh ⟨rfl,Z⟩));go_roundw
   case rel=>exact⟨i+1,by go_num,by omega,D (E.trans Z),D (CE Z m)⟩
   case measure=>simp [AX];omega
  ·have hc:i=n:=by omega
   subst hc;go_wp2;go_ret;exact⟨rfl,u⟩
theorem yI3 (S:ByteArray)(w:Y)(n:Nat)(x:S.size=n)(y:0<n)(l:n≤6)(d:∀ i (c:i<S.size),97≤((S[i]'c).toNat:Int)∧((S[i]'c).toNat:Int)≤122)(f:¬ S.toList=[119,111,114,100])(g:¬ S.toList=[115,112,97,99,101]):
 As prog 111 #[Aa S] w fun e w'=>e=Ak (AE true)∧Ext w w':=by
 have m:¬ S.toList=[]:=by
  intro q;rw [Br]at q;have:S.size=0:=by rw [←ByteArray.size_data];simpa using congrArg De q
  omega
 have z:S.toList.isEmpty=false:=by cases q:S.toList with|nil=>exact absurd q m|cons a b=>rfl
 have A:(S.toList==[119,111,114,100])=false:=beq_false_of_ne f;have B:(S.toList==[115,112,97,99,101])=false:=beq_false_of_ne g;have l:(n:Int)≤6:=by omega
 have o:=D d;clear d f g;go_enter func111,ntmps111;go_wp2;go_loopw [23] (fun s p=>∃ i:Nat,s=V Ad i∧i≤n∧AA (Ext w p)) (fun s _=>n - (AX s).toNat)
 case atStart=>exact⟨0,rfl,by omega,D (Ext.refl _)⟩
 case round=>
  obtain⟨i,rfl,c,h⟩:=hrel;by_cases C:i<n
  ·have hlen:i<S.size:=by omega
   obtain⟨k,j⟩:=JH ((S[i]'hlen).toNat);have hc:(((S[i]'hlen).toNat:Nat):Int)=(k:Int):=by rw [j]
   obtain⟨r,t⟩:=o i hlen;rw [hc]at r t;have E:48≤(k:Int):=by omega
   have F:¬ ((k:Int)≤57):=by omega
   clear j;go_upto_region 6 with fail;refine JX.go (fun X=>True) [] trivial (fun u=>?_)
   iterate 22 refine JC u ?_
   refine JV ?_
   try simp only [Au,pA,pB,pC]
   go_wp2;go_roundw
   case rel=>exact⟨i+1,by go_num,by omega,D (Ext.drew h)⟩
   case measure=>simp [AX];omega
  ·have v:i=n:=by omega
   subst v;go_wp2;go_ret;exact⟨rfl,h⟩
def mnB (s:Bs):Bool:= !s.isEmpty&&A6 s.length 6&&s.all (fun c=>A6 97 c.toNat&&A6 c.toNat 122)&& !(s==[119,111,114,100])&& !(s==[115,112,97,99,101])
theorem yI5 (s:Bs)(c:mnB s=true)(w:Y):As prog 111 #[Aa (str s)] w fun e w'=>e=Ak (AE true)∧Ext w w':=by
 unfold mnB at c;simp only [Ah,A7,Dl]at c;obtain⟨⟨⟨⟨h1,j⟩,k⟩,d⟩,f⟩:=c;have g:(str s).toList=s:=by rw [Br]
 refine yI3 (str s) w s.length (KO s) ?_ (Ai j) (fun i h=>?_) ?_ ?_
 ·exact List.length_pos_iff.2 (fun q=>by rw [q]at h1;cases h1)
 ·have l:i<s.length:=by rw [←KO];exact h
  have m:(str s)[i]'h=s[i]:=rfl;have:=k s[i] (F7 l);rw [m];have a:=Ai this.1;have b:=Ai this.2;omega
 ·rw [g];exact fun q=>by rw [q]at d;cases d
 ·rw [g];exact fun q=>by rw [q]at f;cases f
def apB:Bool:=(Cv 32).all fun i=>(Cv i).all fun j=>match J3[i]?,J3[j]? with
 |some x,some a=> !(x.1.name==a.1.name)&& !Az x.2 a.2
 |_,_=>true
theorem yj5:apB=true:=by kernel_rfl
theorem zD4 {i j:Nat}{x b:In×Nat}(c:J3[i]?= some x)(hy:J3[j]?= some b)(d:j<i):((str x.1.name).toList==(str b.1.name).toList)=false∧¬ (x.2:Int)=b.2:=by
 have e:i<32:=(Ao.1 c).1;have h1:=yj5;unfold apB at h1;have a:=A7.1 (A7.1 h1 i (Dt.2 e)) j (Dt.2 d);rw [c,hy]at a;simp only [Ah,Dl]at a;rw [Br,Br];have f:=FP a.2;exact⟨a.1,by omega⟩
theorem yI6 {i:Nat}{x:In×Nat}(b:J3[i]?= some x):mnB x.1.name=true∧x.1.acts.length≤8∧∀ a∈x.1.acts,caB a x.1.operand=true:=by
 have c:J3.all (fun x=>mnB x.1.name&&A6 x.1.acts.length 8&&x.1.acts.all fun a=>caB a x.1.operand)=true:=by kernel_rfl
 have h1:=A7.1 c x (AD b);simp only [Ah]at h1;exact⟨h1.1.1,Ai h1.1.2,A7.1 h1.2⟩
theorem yj6 (b d:ByteArray)(a c:Int)(f j:Bool)(g k:h)(nb:Nat)(w:Y)(l:w.heap[nb]?= some (Ab #[Aa d,V Af c,AE j,k] 72))(m:(d.toList==b.toList)=false)(hc:¬ c=a):
 As prog 67 #[AN #[Aa b,V Af a,AE f,g],Ae (some ⟨nb,0,none⟩)] w fun e w'=>e=Ak (AE false)∧Ext w w':=by
 have i:=CE ((Ext.refl w).alloc (Ab #[Aa b,V Af a,AE f,g] 72)) l;have n:=JA i 0;have z1:=JA i 1;have o:(c==a)=false:=beq_false_of_ne hc;go_enter func67,ntmps67;go_wp2;go_ret;exact⟨rfl,(Ext.refl w).alloc _⟩
theorem zW0 (U:Nat→Prop)(i:Nat)(x:In×Nat)(f:J3[i]?= some x)(nb:Nat)(k:h)(w:Y)(A:Option Bi)(c B:Nat)(l:Ju KI U w J3 (J A 32 c))(m:w.heap[nb]?= some (Ab #[Aa (str x.1.name),V Af x.2,AE x.1.operand,k] 72)):
 As prog 113 #[J A i B,ER (.func 67) #[] #[Ae (some ⟨nb,0,none⟩)]] w fun e w'=>e=Ak (V Ad (-1))∧Ext w w':=by
 have C:=D l;have E:=D m;have F:=D f;have P:i<32:=(Ao.1 f).1;clear l m f;go_enter func113,ntmps113;go_wp2;go_loopw [8] (fun g G=>∃ j:Nat,g=V Ad j∧j≤i∧AA (Ext w G)) (fun g _=>i - (AX g).toNat)
 case atStart=>exact⟨0,rfl,by omega,D (Ext.refl w)⟩
 case round=>
  obtain⟨j,rfl,Q,d⟩:=hrel;by_cases H:j<i
  ·obtain⟨a,hy⟩:∃ a,J3[j]?= some a:=⟨_,Al (show j<J3.length by have:J3.length=32:=rfl;omega)⟩
   obtain⟨b,o,R,cs,n, -,⟨v,rfl,I⟩,p⟩:=(C.ext d).elem hy;rw [show J3.length=32 from rfl]at n;injection n with K L M
   subst K M;obtain⟨q,r⟩:=zD4 F hy H;have s:=D p;have t:=D (yj6 (str a.1.name) (str x.1.name) a.2 x.2 a.1.operand x.1.operand v k nb wr (CE d E) q r);clear p I q r hy;obtain⟨S,u⟩:=JH (str a.1.name);obtain⟨T,y⟩:=JH ((a.2:Int));obtain⟨W,z⟩:=JH a.1.operand;rw [←u,←y,←z]at t s;clear u y z L;go_wp2_with (first|(refine KV rfl Cj rfl s NT ?_)|(go_at_call 67;refine t.mono ?_;rintro e X ⟨rfl,N⟩));go_roundw
   case rel=>exact⟨j+1,by go_num,by omega,D (d.trans N)⟩
   case measure=>simp [AX];omega
  ·have O:j=i:=by omega
   subst O;go_wp2;go_ret;exact⟨rfl,d⟩
theorem zW1 (U:Nat→Prop)(i:Nat)(x:In×Nat)(g:J3[i]?= some x)(nb:Nat)(a:h)(w:Y)(A:Option Bi)(c b:Nat)(d:Ju KI U w J3 (J A 32 c))(f:w.heap[nb]?= some (Ab #[Aa (str x.1.name),V Af x.2,AE x.1.operand,a] 72)):
 As prog 66 #[J A i b,ER (.func 67) #[] #[Ae (some ⟨nb,0,none⟩)]] w fun e w'=>e=Ak (AE false)∧Ext w w':=by
 have j:=D (zW0 U i x g nb a w A c b d f);clear d f;go_enter func66,ntmps66;go_wp2_with (go_at_call 113;refine j.mono ?_;rintro e l ⟨rfl,k⟩);go_ret;exact⟨rfl,k⟩
theorem ed (G:h)(U:Nat→Prop)(w:Y)(n:Ju KI U w J3 G):As prog 37 #[AN #[V Ad 65536,G]] w fun e w'=>e=Ak (AN #[V Ad 0,V Ad 0])∧Ext w w':=by
 have g:=D n;obtain⟨A,c,rfl⟩:=JB n;rw [show J3.length=32 from rfl]at g ⊢;have j:=D (((Ext.refl w).alloc (Ab #[V Ad 65536,J A 32 c] 47)).alloc (Ab #[V Ad 0,V Ad 0] 26));have q:=D (AP w (Ab #[V Ad 65536,J A 32 c] 47) (Ab #[V Ad 0,V Ad 0] 26));have r:=D (Ay w (Ab #[V Ad 65536,J A 32 c] 47) (Ab #[V Ad 0,V Ad 0] 26));clear n;have hg:32≤c:=by
  obtain⟨hh,c',xs,e,h5, -⟩:=g;injection e with H I t
  subst t;exact h5
 go_enter func37,ntmps37;go_wp2;obtain⟨X,K⟩:=JH w.heap.size;have L:AA (w.heap.size≤X+1):=D (by omega);rw [←K]at q r ⊢;clear K;generalize(w.alloc (Ab #[V Ad 65536,J A 32 c] 47)).alloc (Ab #[V Ad 0,V Ad 0] 26)=W2 at j q r ⊢;go_loopw [25] (fun s h6=>∃ i:Nat,s=V Ad i∧i≤32∧AA (Ext W2 h6)) (fun s _=>32 - (AX s).toNat)
 case atStart=>exact⟨0,rfl,by omega,D (Ext.refl _)⟩
 case round=>
  obtain⟨i,rfl,hi,a⟩:=hrel;by_cases h7:i<32
  ·obtain⟨x,k⟩:∃ x,J3[i]?= some x:=⟨_,Al (show i<J3.length by exact h7)⟩
   obtain⟨b,o,hj,cs,M, -,⟨v,rfl,u⟩,N⟩:=(g.ext (j.trans a)).elem k;rw [show J3.length=32 from rfl]at M;injection M with H I t
   subst H t;obtain⟨l,m,rfl⟩:=JB u;obtain⟨O,P,Q⟩:=yI6 k;have R:=D N;have S:=D (fun W (e:Ext wr W)=>sP x.1.name x.2 x.1.operand x.1.acts U _ W (u.ext e) P Q (yI5 x.1.name O));have T:=D (fun W (e:Ext wr W) nb h8=>zW1 U i x k nb (J l x.1.acts.length m) W (some ⟨b,o,none⟩) c c (g.ext ((j.trans a).trans e)) h8);clear N u k I O P Q;obtain⟨y,Z⟩:=JH (str x.1.name);obtain⟨z,h0⟩:=JH ((x.2:Int));obtain⟨B,h1⟩:=JH x.1.operand;obtain⟨C,h2⟩:=JH x.1.acts.length;rw [←Z,←h0,←h1,←h2]at S R T;clear Z h0 h1 h2;have d:=D (((Ext.refl wr).alloc (Ab Qa 72)).setRow (Aw _) #[Aa y,V Af z,AE B,J l C m]);have f:=D (Bo (wr.alloc (Ab Qa 72)) wr.heap.size Qa #[Aa y,V Af z,AE B,J l C m] 72 (0,0) (Aj wr _));go_upto_region 8 with(first|(refine KV rfl Cj rfl R NT ?_)|(refine L8 rfl rfl rfl (Aj wr _) NT ?_));obtain⟨h3,h4⟩:=JH wr.heap.size;rw [←h4]at f d ⊢;generalize(wr.alloc (Ab Qa 72)).setRow h3 #[Aa y,V Af z,AE B,J l C m]=W4 at f d ⊢;clear h4;go_upto_region 11 with(first|(refine LH rfl Cj rfl f NT ?_)|(go_at_call 65;refine(S _ d).mono ?_;rintro e hk ⟨rfl,E⟩));have F:=D (d.trans E);have h9:=D (CE E f);have ha:=bk (CE (a.trans F) q) 1;clear E d f;have hl:(i:Int)≤(c:Int):=by omega
   go_wp2_with (go_at_call 66;refine(T _ F h3 h9).mono ?_;rintro e hm ⟨rfl,hb⟩);go_roundw
   case rel=>exact⟨i+1,by go_num,by omega,D ((a.trans F).trans hb)⟩
   case measure=>simp [AX];omega
  ·have hc:i=32:=by omega
   subst hc;have hd:=D (CE a r);have he:=D (j.trans a);obtain⟨hn,ho,ha,f1,hf⟩:=QI (i:=0) hd rfl rfl (V Ad 0) (V Ad 0);go_wp2;refine B1 (FZ results37 _ _ (X+1) 26 #[V Ad 0,V Ad 0] (0,0) _ rfl hf Bd rfl (by kernel_rfl)) rfl ?_
   exact⟨rfl,(he.setCell (p:=⟨X+1,0,none⟩) L _).setCell (p:=⟨X+1,1,none⟩) L _⟩
end Go.Proofs.YtmkomefmgcpnbaaGreatDoor

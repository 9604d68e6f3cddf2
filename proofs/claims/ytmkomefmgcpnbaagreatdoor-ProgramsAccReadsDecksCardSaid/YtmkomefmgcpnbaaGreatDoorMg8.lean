import Derived.Test.YtmkomefmgcpnbaaGreatDoorMg7
set_option linter.all false
set_option maxHeartbeats 12800000
set_option maxRecDepth 100000
namespace Go.Proofs.YtmkomefmgcpnbaaGreatDoor
open Tryz Pg Go Go.Proofs Go.RowKit
open _root_.Array renaming getElem?_eq_some_iff→Ag
open _root_.Bool renaming eq_false_iff→AJ,false_eq_true→BL
open Go renaming Act→CY,Calls→As,Exit→EY,Operand→CC,Oper→B5,Program→BR,TypeDesc→DK,TypeId→AK,Value→h,World→Y,execOp→CS,heap_alloc_new→Aj,run_loadVar_row→DI,setRow_heap→Bo,setRow_other→C7,undef→Ca,yielded→BW,Addr→Bi,Ending→BX,maxLen→Bk,heap_alloc2_new→Ay,heap_alloc2_old→AP
open Go.Act renaming put→Au
open Go.Instr renaming loadAt→Ir,sureAddr→GQ,build→D8
open Go.IntKind renaming i64→Ad,u32→Af
open Go.Lib renaming hid→D
open Go.Next renaming value→F5
open Go.Obj renaming cells→Ab
open Go.Op renaming load→IK
open Go.Oper renaming wp→Cb
open Go.Operand renaming tmp→Eh
open Go.Proofs.Tryz renaming underlying287→Ax,results174→IQ,underlying227→AV,results173→IU
open Go.Region renaming wanted→AQ
open Go.Result renaming andThen_ok→C3,ok→Ez
open Go.RowKit renaming Hid→AA
open Go.Sem renaming run_bind→Di,run_pure→D3
open Go.TypeDesc renaming array→DX,struct→DA
open Go.Value renaming agg→AN,int→V,pointer→Ae,slice→J,string→Aa,tuple→AZ
open _root_.Nat renaming beq→Az,blt_eq→Dm,blt→Be,eq_of_beq_eq_true→Ap,le_refl→Aw,lt_of_lt_of_le→Ar,strongRecOn→D1
open _root_.Or renaming inl→AO,inr→AB
open Go.Ending renaming returned→Ak
open _root_.List renaming length_append→M,mem_cons→AH,not_mem_nil→Ba
open Go.RowKit.Below renaming heap_setCell→AY
theorem R5 {P:BR}{w:Y}{o:B5}{a:CY}(b:AK)(x:CC)(e:o.op=IK b x)(g:Nat)(f:a.eval x=Ae (some ⟨g,0,none⟩))(t:AK)(cs:Array h)(c:Nat×Nat)(d:DK)
 (i:w.heap[g]?= some (Ab cs t c)) (j:P.underlying b=some d) (k:(match d with|DA _|DX _ _=>true|_=>false)=true) (l:(P.info? b).map (·.size)=some cs.size):(CS a.eval o).run P w=Ez (F5 (AN cs)) w:=by
 unfold CS;simp only [e,f,Ir,GQ,Di,D3,C3,DI w g t b cs c d i j k l]
theorem Ov {P:BR}{W:Y}{ops:Array B5}{o:B5}{a:CY}{K:CY→Y→Prop}{Q:EY→CY→Y→Prop}{d:Prop}(e:AQ o (BW ops a.tmps)=true)(b:AK)(x c:CC)(f:o.op=.store b x c)
 (g:Nat) (cells:Array h) (i:a.eval x=Ae (some ⟨g,0,none⟩)) (hy:a.eval c=AN cells) (t:AK) (old:Array h) (j:W.heap[g]?= some (Ab old t (0,0))) (k:(P.info? b).map (·.size)=some cells.size)
 (hold:old.size=cells.size) (h1:cells.all (·.oneCell')=true) (l:K (a.put o.dst Ca) (W.setRow g cells)):if AQ o (BW ops a.tmps)=true then Cb P o a W K Q else d:=by
 rw [if_pos e];exact wp_store_row b x c f g cells i hy t old j k hold h1 l
theorem PW.upd {w w':Y}{g:Nat}{S:ByteArray}{p:PS}{G:Nat→Prop}(a:PW w g S p)(u:JK G w w')(b:¬ G g)(c:∀ k,G k→13≤k):PW w' g S p:=⟨a.at_.upd u b,a.tab.upd u c,a.g13,a.hs⟩
theorem zc4 {w:Y}{X:Nat}{o:Obj}{cs:Array h}:JK (fun k=>k=X) w ((w.alloc o).setRow X cs):=((Gl ((Ext.refl w).alloc o)).setRow (G:=fun k=>k=X) (AB rfl) cs)
theorem wrap_small (n:Nat)(a:n≤1000):Ad.wrap ((n:Int)+1)=(n:Int)+1:=by
 simp [IntKind.wrap,IntKind.signed,IntKind.bits];omega
theorem z99 {g:Nat}{S:ByteArray}{n:Nat}(hk:∀ m,m<n→je g S m)(hl:∀ m,m<n→Ps g S m):Ps g S n:=by
 intro least p e q w B h7;cases n with
 |zero=>cases B
 |succ n=>
  rw [M3]at B;split at B
  ·cases B
  ·rename_i h8 hm hn;have ho:=h7.lt;have hp:=D B;have hq:=D (hk n (by omega) p h8 hm);have hr:=D h7;have hs:=D hl;have ht:=D hn;clear B hn h7 hl hk;go_enter func176,ntmps176;go_wp2_with fail;refine(hq.out _ ht.out (hr.out.ext ((Ext.refl w).alloc _))).mono ?_
   rintro y7 v ⟨⟨cs,rfl,C⟩,hu,Y⟩;obtain⟨d,f,i,xs,j,l,r,rfl⟩:=Nq C;have h9:=D hu;have hv:=D ((Gl ((Ext.refl w).alloc (Ab zE 287))).trans Y);have hw:=D (Y.heap (Aj w _) (by show ¬w.heap.size=g;omega));have y8:w.heap.size+1≤v.heap.size:=by have:=Y.size;simpa using this
   have hx:=D C;clear C hu Y;obtain⟨X,ha⟩:=JH v.heap.size;have hz:X≠g:=by omega
   have y9:w.heap.size<X:=by omega
   go_wp2_with fail;rw [←ha];refine(fV (h9.out.ext ((Ext.refl v).alloc _))).mono ?_
   rintro ya s ⟨rfl,t⟩;have Z:=D (h9.out.ext (((Ext.refl v).alloc _).trans t));have h0:=D (hv.out.trans (Gl (((Ext.refl v).alloc _).trans t)));have h2:=D (CE (((Ext.refl v).alloc _).trans t) hw.out);have x0:AA (s.heap[X]?= some (Ab #[V Ad d,V Ad f,V Af i,Aa (str xs),J j l r] 287 (0,0))):=D (by rw [ha];exact CE t (Aj v _));have yb:v.heap.size+1≤s.heap.size:=by have:=t.size;simpa using this
   have x1:AA (OV (fun k=>w.heap.size<k∧k≠X∧k<s.heap.size) s h8 [V Ad d,V Ad f,V Af i,Aa (str xs),J j l r]):=D (KE.upd hx.out (Gl (G:=fun _=>False) (((Ext.refl v).alloc _).trans t)) (fun _ _ q=>q) (by intro k q;have q2:w.heap.size+1≤k:=(by simpa using q.1);exact⟨by omega,by omega,by omega⟩));clear t ha hx hw hv h9 hq ht hr;go_wp2_with fail
   go_loopg [6] n (fun gf xf O=>∃ (m:Nat) (x:Ex) (z:PS) (cs:List h),m≤gf∧m≤n∧xf=V Ad (Po z:Nat)∧AA (YT m least x z=some (e,q))∧AA (PW O g S z)∧AA (PX g w O)∧AA (O.heap[w.heap.size]?= some (Ab zE 287 (0,0)))∧AA (O.heap[X]?= some (Ab cs.toArray 287 (0,0)))∧AA (OV (fun k=>w.heap.size<k∧k≠X∧k<O.heap.size) O x cs))
   case atStart=>exact⟨n,h8,hm,_,Aw _,Aw _,rfl,hp,Z,h0,h2,x0,x1⟩
   case round=>
    clear hp Z h0 h2 x0 x1;obtain⟨m,x,z,cs,B,yc,rfl,xg,hb,hc,T,hd,h3⟩:=hrel;obtain⟨d,f,i,xs,j,l,r,rfl⟩:=Nq h3.out;have b:=xg.out;have x2:=z88 z;cases m with
    |zero=>cases b
    |succ m=>
     rw [YT]at b;obtain⟨op,U⟩:=JH (Po z);rw [←U]at b x2;rw [←U];have h4:=D (fun W=>VF op W x2);have yd:J5 op≤5:=by unfold J5;(repeat' split)<;>omega
     by_cases x3:op=0
     ·subst x3;have he:(x,z)=(e,q):=by simpa using b
      cases he;clear b U h4;go_wp2_with (first|refine Qx rfl Ax rfl hd.out Ki ?_|refine L8 rfl rfl rfl T.out Ki ?_ (h1:=(VG _ _ _ _ _ _ _)));refine K3 results176 Ax Ki (PO T.out) ?_
      exact UG (cs:=[V Ad d,V Ad f,V Af i,Aa (str xs),J j l r]) hc.out hb.out ho (KE.upd h3.out (JK.refl (G:=fun _=>False) _) (fun _ _ q=>q) (fun k q=>⟨q.1,q.2.2⟩))
     ·have ye:((op:Int) != 0)=true:=by simp;omega
      have x4:Az op 0=false:=by rw [AJ];intro c;exact x3 (Ap c)
      by_cases x5:J5 op<least
      ·have he:(x,z)=(e,q):=by
        rw [x4,show Be (J5 op) least=true from by rw [Dm];exact x5]at b;simpa using b
       cases he;have xh:((J5 op:Nat):Int)<(least:Int):=by omega
       generalize J5 op=h5 at*
       clear b U;go_wp2_with (first|(go_at_call 225;refine(h4.out _).mono ?_;rintro xi xj ⟨rfl,rfl⟩)|refine Qx rfl Ax rfl hd.out Ki ?_|refine L8 rfl rfl rfl T.out Ki ?_ (h1:=(VG _ _ _ _ _ _ _)));refine K3 results176 Ax Ki (PO T.out) ?_
       exact UG (cs:=[V Ad d,V Ad f,V Af i,Aa (str xs),J j l r]) hc.out hb.out ho (KE.upd h3.out (JK.refl (G:=fun _=>False) _) (fun _ _ q=>q) (fun k q=>⟨q.1,q.2.2⟩))
      ·have xh:(least:Int)≤((J5 op:Nat):Int):=by omega
       rw [x4,show Be (J5 op) least=false from by rw [AJ];intro c;exact x5 (by rwa [Dm]at c)]at b;simp only [Bool.or_self,BL,if_false]at b;split at b
       ·cases b
       ·rename_i x6 x7;split at b
        ·cases b
        ·rename_i hf hg hy;have xk:=D b;have xl:=D (Uh hb.out x7);have xm:=D (fun W (xn:PW W g S x6)=>(show As prog 176 #[Ae (some ⟨g,0,none⟩),V Ad (((J5 op:Nat):Int)+1)] W (Su W g S hg hf)from by
          have xo:(((J5 op+1:Nat)):Int)=((J5 op:Nat):Int)+1:=by omega
          rw [←xo]
          exact hs.out m (by omega) (J5 op+1) x6 hf hg W hy xn))
         obtain⟨hh,rfl⟩:∃ hh,gk=hh+1:=⟨gk - 1,by omega⟩;clear b x7 hy U hs;generalize J5 op=h5 at*
         have yf:Ad.wrap ((h5:Int)+1)=(h5:Int)+1:=wrap_small h5 (by omega);go_wp2_with (go_at_call 225;refine(h4.out _).mono ?_;rintro xi xj ⟨rfl,rfl⟩);refine xl.out.mono ?_
         rintro yg s ⟨rfl,x8,t⟩;have Z:=D x8;have h0:=D (hc.out.trans t);have hi:=D (t.heap hd.out hz);have h2:=D (t.heap T.out (by show ¬w.heap.size=g;omega));have xp:=D (KE.upd h3.out t (fun k q c=>by have P:k=g:=c;omega) (U':=fun k=>w.heap.size<k∧k≠X∧k<s.heap.size) (fun k q=>⟨q.1,q.2.1,Ar q.2.2 t.size⟩));have yh:X<s.heap.size:=(Ag.1 hi.out).1;clear x8 t;go_upto_region 6 with(fail);refine JX.go (fun w'=>w'.heap[X]?= some (Ab #[V Ad d,V Ad f,V Af i,Aa (str xs),J j l r] 287 (0,0))) [9] hi.out (fun y=>?_);refine JC y ?_
         refine JC y ?_ (hy:=by(intro w xq;refine R5 287 (Eh 5) ?_ X ?_ 287 #[V Ad d,V Ad f,V Af i,Aa (str xs),J j l r] (0,0) _ xq Ax rfl Ki<;>rfl))
         iterate 2 refine JC y ?_
         try simp only [Au,pA,pB,pC]
         refine JM (fun K u=>?_);go_simp;refine(h4.out _).mono ?_
         rintro e v ⟨rfl,rfl⟩;refine u.out _ _ ?_ (fun y=>?_)
         ·exact y
         clear u K
         try simp only [Au,pA,pB,pC]
         refine JC y ?_
         try simp only [Au,pA,pB,pC]
         refine JM (fun K u=>?_);go_simp;(with_reducible refine(xm.out _ (Z.out.ext ((Ext.refl s).drew))).mono ?_)
         rintro e a ⟨⟨cs,rfl,C⟩,x9,Q⟩;obtain⟨E,F,H,I,L,M,N,rfl⟩:=Nq C;have xa:=D x9;have xr:=D (((h0.out).trans (Gl ((Ext.refl s).drew))).trans Q);have xb:=D (Q.heap (w:=s.drew) hi.out (by show ¬X=g;omega));have xc:=D (Q.heap (w:=s.drew) h2.out (by show ¬w.heap.size=g;omega));have yi:s.heap.size≤a.heap.size:=Q.size;have xt:=D C;have xu:=D (KE.upd xp.out ((Gl (G:=fun k=>k=g) ((Ext.refl s).drew)).trans Q) (fun k q c=>by have P:k=g:=c;omega) (U':=fun k=>w.heap.size<k∧k≠X∧k<a.heap.size) (fun k q=>⟨q.1,q.2.1,by omega⟩));clear C x9 Q;refine u.out _ _ ?_ (fun y=>?_)
         ·exact xb.out
         clear u K
         try simp only [Au,pA,pB,pC]
         refine JM (fun K u=>?_);go_simp;have hj:=D (CE ((Ext.refl a).alloc (Ab #[V Ad d,V Ad f,V Af i,Aa (str xs),J j l r,V Ad E,V Ad F,V Af H,Aa (str I),J L M N] 287)) xb.out);have yj:=D (CE ((Ext.refl a).alloc (Ab #[V Ad d,V Ad f,V Af i,Aa (str xs),J j l r,V Ad E,V Ad F,V Af H,Aa (str I),J L M N] 287)) xc.out);have xv:=D (Aj a (Ab #[V Ad d,V Ad f,V Af i,Aa (str xs),J j l r,V Ad E,V Ad F,V Af H,Aa (str I),J L M N] 287));refine u.out _ _ ?_ (fun y=>?_)
         ·exact hj.out
         clear u K
         try simp only [Au,pA,pB,pC]
         refine JC y ?_
         try simp only [Au,pA,pB,pC]
         refine JX.fn (fun K u=>?_);refine Ov rfl 287 _ _ rfl X #[V Ad 7,V Ad op,V Af 0,Aa ⟨#[]⟩,J (some ⟨a.heap.size,0,none⟩) 2 2] (by rfl) (by rfl) 287 #[V Ad d,V Ad f,V Af i,Aa (str xs),J j l r] hj.out Ki rfl (VG _ _ _ _ _ _ _) ?_
         refine u.out _ _ ?_
         clear u K
         try simp only [Au,pA,pB,pC]
         refine JV ?_
         go_wp2_with fail;have h6:=D (zc4 (w:=a) (X:=X) (o:=Ab #[V Ad d,V Ad f,V Af i,Aa (str xs),J j l r,V Ad E,V Ad F,V Af H,Aa (str I),J L M N] 287) (cs:= #[V Ad 7,V Ad op,V Af 0,Aa ⟨#[]⟩,J (some ⟨a.heap.size,0,none⟩) 2 2]));have xw:=D (Bo (a.alloc (Ab #[V Ad d,V Ad f,V Af i,Aa (str xs),J j l r,V Ad E,V Ad F,V Af H,Aa (str I),J L M N] 287)) X _ #[V Ad 7,V Ad op,V Af 0,Aa ⟨#[]⟩,J (some ⟨a.heap.size,0,none⟩) 2 2] _ _ hj.out);have xx:=D (h6.out.heap xc.out (by show ¬w.heap.size=X;omega));have xy:=D ((C7 _ X a.heap.size #[V Ad 7,V Ad op,V Af 0,Aa ⟨#[]⟩,J (some ⟨a.heap.size,0,none⟩) 2 2] (by omega)).trans xv.out);have xd:=D (xa.out.upd h6.out (fun c=>hz c.symm) (fun k c=>by have P:k=X:=c;have:=xa.out.g13;omega));have yk:a.heap.size<((a.alloc (Ab #[V Ad d,V Ad f,V Af i,Aa (str xs),J j l r,V Ad E,V Ad F,V Af H,Aa (str I),J L M N] 287)).setRow X #[V Ad 7,V Ad op,V Af 0,Aa ⟨#[]⟩,J (some ⟨a.heap.size,0,none⟩) 2 2]).heap.size:=by simp
         generalize((a.alloc (Ab #[V Ad d,V Ad f,V Af i,Aa (str xs),J j l r,V Ad E,V Ad F,V Af H,Aa (str I),J L M N] 287)).setRow X #[V Ad 7,V Ad op,V Af 0,Aa ⟨#[]⟩,J (some ⟨a.heap.size,0,none⟩) 2 2])=w4 at*
         refine(fV xd.out).mono ?_
         rintro yl R ⟨rfl,A⟩;have ym:=A.size;have xz:=D (xd.out.ext A);have y0:AA (PX g w R):=D ((((xr.out.mono (G':=fun k=>k=g∨k=X) (fun k _ c=>AO c)).trans (h6.out.mono (fun k _ c=>AB c))).mono (fun k yn c=>c.elim id (fun P=>by have yo:k=X:=P;omega))).trans (Gl A));have y1:=D (CE A xx.out);have y2:=D (CE A xw.out);have y3:=D (CE A xy.out);have xe:AA (JK (fun k=>k=X) a R):=D (h6.out.trans (Gl A));have y4:=D (KE.upd xu.out xe.out (fun k q c=>by have P:k=X:=c;omega) (U':=fun k=>w.heap.size<k∧k≠X∧k<R.heap.size) (fun k q=>⟨q.1,q.2.1,by omega⟩));have y5:=D (KE.upd xt.out xe.out (fun k q c=>by have P:k=X:=c;have q2:s.heap.size≤k:=q.1;omega) (U':=fun k=>w.heap.size<k∧k≠X∧k<R.heap.size) (fun k q=>by have q2:s.heap.size≤k:=q.1;exact⟨by omega,by omega,by have:=q.2;omega⟩));have y6:AA (OV (fun k=>w.heap.size<k∧k≠X∧k<R.heap.size) R (.mk 7 op 0 [] [x,hf]) [V Ad (7:Nat),V Ad op,V Af (0:Nat),Aa (str []),J (some ⟨a.heap.size,0,none⟩) 2 2]):=D (Yc (uO y3.out y4.out y5.out ⟨by omega,by omega,by omega⟩));clear A;go_wp2_with fail
         go_roundg hh
         case measure=>omega
         case rel=>exact⟨m,_,hg,_,by omega,by omega,rfl,xk,xz,y0,y1,y2,y6⟩
theorem oz (g:Nat)(S:ByteArray)(n:Nat):n≤1000→Ps g S n∧je g S n∧TQ g S n:=by
 induction n using D1 with
 |_ n b=>
  intro c;exact⟨z99 (fun m a=>(b m a (by omega)).2.1) (fun m a=>(b m a (by omega)).1),yW4 (fun m a=>(b m a (by omega)).1) (fun m a=>(b m a (by omega)).2.1) (fun m a=>(b m a (by omega)).2.2),z94 c (fun m a=>(b m a (by omega)).1)⟩
mutual
def Q5 (U:Nat→Prop)(w:Y):Sm→List h→Prop
 |.mk k name g body els,cs=>∃ d c a e L b f,cs=[V Ad k,Aa (str name),d,J c body.length a,J L els.length b]∧Ju KE U w g d∧
  (body.length≤a∧a≤Bk∧(c=none→a=0)∧mq U w c e∧VU U w body e)∧(els.length≤b∧b≤Bk∧(L=none→b=0)∧mq U w L f∧VU U w els f)
def VU (U:Nat→Prop)(w:Y):List Sm→List h→Prop
 |[],xs=>xs=[]
 |e::l,xs=>∃ x a,xs=x++a∧Q5 U w e x∧VU U w l a
end
mutual
theorem Vv {U U' G:Nat→Prop}{w w':Y}(u:JK G w w')(a:∀ k,U k→¬ G k)(b:∀ k,U k→U' k):∀ (e:Sm)(cs:List h),Q5 U w e cs→Q5 U' w' e cs
 |.mk k name z body els,cs,c=>by
  rw [Q5]at c ⊢;obtain⟨g,i,j,d,L,l,f,h1,m,⟨n,o,p,q,r⟩,⟨s,t,v,x,y⟩⟩:=c;exact⟨g,i,j,d,L,l,f,h1,m.upd u a b,⟨n,o,p,q.upd u a b,ZU u a b body d r⟩,⟨s,t,v,x.upd u a b,ZU u a b els f y⟩⟩
theorem ZU {U U' G:Nat→Prop}{w w':Y}(u:JK G w w')(b:∀ k,U k→¬ G k)(c:∀ k,U k→U' k):∀ (l:List Sm)(xs:List h),VU U w l xs→VU U' w' l xs
 |[],xs,a=>by rw [VU]at a ⊢;exact a
 |e::l,xs,a=>by
  rw [VU]at a ⊢;obtain⟨x,d,h1,f,g⟩:=a;exact⟨x,d,h1,Vv u b c e x f,ZU u b c l d g⟩
end
theorem JB {α:Type}{K:Kind α}{U:Nat→Prop}{w:Y}{l:List α}{v:h}(a:Ju K U w l v):∃ A c,v=J A l.length c:=by
 obtain⟨A,c,xs,a,_⟩:=a;exact⟨A,c,a⟩
def KS:Kind Sm where
 size:=5
 pos:=by omega
 rep:=Q5
 len:=by
  intro U w x cs a;cases x;rw [Q5]at a;obtain⟨d,e,f,g,L,h,i,rfl,_⟩:=a;rfl
 one:=by
  intro U w x cs a u b;cases x;rw [Q5]at a;obtain⟨d,e,f,g,L,h,i,rfl,j,_⟩:=a;obtain⟨A,c,rfl⟩:=JB j;simp only [AH,Ba,or_false]at b;rcases b with rfl|rfl|rfl|rfl|rfl<;>rfl
 upd:=fun a u k b=>Vv u k b _ _ a
theorem UW (U:Nat→Prop)(w:Y):∀ (l:List Sm)(xs:List h),VU U w l xs↔NF KS U w l xs
 |[],xs=>by rw [VU];exact Iff.rfl
 |e::l,xs=>by
  rw [VU];constructor
  ·rintro⟨x,a,h1,b,c⟩;exact⟨x,a,h1,b,(UW U w l a).1 c⟩
  ·rintro⟨x,a,h1,b,c⟩;exact⟨x,a,h1,b,(UW U w l a).2 c⟩
theorem Qk {U:Nat→Prop}{w:Y}{k:Nat}{name:Bs}{v:List Ex}{body els:List Sm}{cs:List h}:
 Q5 U w (.mk k name v body els) cs↔∃ a d e,cs=[V Ad k,Aa (str name),a,d,e]∧Ju KE U w v a∧Ju KS U w body d∧Ju KS U w els e:=by
 rw [Q5];constructor
 ·rintro⟨a,f,g,b,L,i,c,h1,j,⟨l,m,n,o,p⟩,⟨q,r,s,t,u⟩⟩;exact⟨a,_,_,h1,j,⟨f,g,b,rfl,l,m,n,o,(UW U w body b).1 p⟩,⟨L,i,c,rfl,q,r,s,t,(UW U w els c).1 u⟩⟩
 ·rintro⟨a,d,e,h1,j,⟨f,g,b,rfl,l,m,n,o,p⟩,⟨L,i,c,rfl,q,r,s,t,u⟩⟩;exact⟨a,f,g,b,L,i,c,h1,j,⟨l,m,n,o,(UW U w body b).2 p⟩,⟨q,r,s,t,(UW U w els c).2 u⟩⟩
theorem Vw {U:Nat→Prop}{w:Y}{e:Sm}{cs:List h}(a:Q5 U w e cs):∃ (k:Nat)(nm:Bs)(A:Option Bi)(n c:Nat)(b:Option Bi)(m d:Nat)(C:Option Bi)(p f:Nat),cs=[V Ad k,Aa (str nm),J A n c,J b m d,J C p f]:=by
 cases e;rw [Qk]at a;obtain⟨j,l,o,rfl,h1,g,i⟩:=a;obtain⟨A,c,rfl⟩:=JB h1;obtain⟨b,d,rfl⟩:=JB g;obtain⟨C,f,rfl⟩:=JB i;exact⟨_,_,_,_,_,_,_,_,_,_,_,rfl⟩
def Uk (w:Y)(g:Nat)(S:ByteArray)(q:PS)(x:Sm)(e:BX)(w':Y):Prop:=
 (∃cs:List h,e=Ak (AN cs.toArray)∧Q5 (fun k=>w.heap.size≤k∧k<w'.heap.size) w' x cs)∧PW w' g S q∧PX g w w'
def ql (g:Nat)(S:ByteArray)(n:Nat):Prop:=∀ (p:PS)(x:Sm)(q:PS)(w:Y),dJ n p=some (x,q)→PW w g S p→As prog 130 #[Ae (some ⟨g,0,none⟩)] w (Uk w g S q x)
def aH (g:Nat)(S:ByteArray)(n:Nat):Prop:=∀ (p:PS)(l:List Sm)(q:PS)(w:Y),Sg n [] p=some (l,q)→PW w g S p→As prog 92 #[Ae (some ⟨g,0,none⟩)] w (zb8 KS w g S q l)
def zS:Array h:= #[V Ad 0,Aa ⟨#[]⟩,J none 0 0,J none 0 0,J none 0 0]
theorem yW6:(prog.info? 227).map (fun i=>(i.zero,i.size,i.bytes))=some (some (AN zS),5,96):=by kernel_rfl
theorem MH:(prog.info? 227).map (·.size)=some 5:=by kernel_rfl
theorem VH (k:Int)(s:ByteArray)(A:Option Bi)(n c:Nat)(b:Option Bi)(m d:Nat)(C:Option Bi)(p f:Nat):∀ u∈([V Ad k,Aa s,J A n c,J b m d,J C p f]:List h),u.oneCell'=true:=by
 intro u a;simp only [AH,Ba,or_false]at a;rcases a with rfl|rfl|rfl|rfl|rfl<;>rfl
theorem yA2 {g:Nat}{S:ByteArray}{n:Nat}(h1:n≤1000)(h2:∀ m,m<n→ql g S m):aH g S n:=by
 intro p l q w h3 H;obtain⟨hn,h4,h5,h6,h7⟩:=info_parts yW6;have ho:=D h4;have hp:=D h5;have hq:=D h6;have hr:=D h7;have xd:=H.lt;have E:=D h3;have h8:=D H;have hs:=D h2;clear h4 h5 h6 h7 h3 H h2;go_enter func92,ntmps92;go_wp2
 go_loopg [3] n (fun gf I K=>∃ (m:Nat) (acc:List Sm) (r:PS) (v:h),v=I∧m≤gf∧acc.length+m≤n∧AA (Sg m acc r=some (l,q))∧AA (PW K g S r)∧AA (PX g w K)∧AA (RowK KS 227 w.heap.size K acc v))
 case atStart=>exact⟨n,[],p,_,rfl,Aw _,by simp,E,h8,D (JK.refl _),D (RowK.nil _ _ _ _)⟩
 case round=>
  clear E h8;obtain⟨m,acc,r,I,ht,xe,xf,E,L,N,O⟩:=hrel;subst ht;have b:=E.out;cases m with
  |zero=>cases b
  |succ m=>
   rw [Sg]at b;split at b
   ·rename_i s;split at b
    ·cases b
    ·rename_i P h9;cases b;have Q:=D (LU L s h9);clear h9 s;go_wp2_with fail;refine Q.mono ?_
     rintro e ha ⟨rfl,hb,R⟩;have hu:=D hb;have hv:=D (N.trans R);have hw:=D (O.upd R (fun k hx c=>by have d:k=g:=c;omega));clear hb R;go_wp2_with fail;go_ret;exact⟨⟨_,rfl,hw.sl⟩,hu,hv⟩
   ·rename_i s;split at b
    ·cases b
    ·rename_i x P hc;have hd:JZ [125] r=false:=by simpa using s
     have hy:=D b;have Q:=D (J8 L hd);have hz:=D (hs m (by omega) r x P wr hc L);obtain⟨T,rfl⟩:∃ T,gk=T+1:=⟨gk - 1,by omega⟩;clear b s hd hc;go_wp2_with fail;refine Q.mono ?_
     rintro e ha ⟨rfl,rfl⟩;go_wp2_with fail;refine hz.mono ?_
     rintro e f ⟨⟨cs,rfl,U⟩,he,F⟩;obtain⟨k,nm,A,t,u,y,z,B,C,c1,d,rfl⟩:=Vw U;have x0:=D (N.trans F);have hf:=D he;have xg:=N.size;have xh:=F.size;have x1:=D ((O.upd F (fun k hx c=>by have d:k=g:=c;omega)).upd (Gl (G:=fun _=>False) ((Ext.refl f).alloc (Ab #[V Ad k,Aa (str nm),J A t u,J y z B,J C c1 d] 227))) (fun _ _ q=>q));obtain⟨xi,hg⟩:=O.own;have x2:=D U;have hh:∀ j,I.ownBlock=some j→j<ha.heap.size:=fun j o=>(Kc hg o).2
     have x3:=D hh;clear U he F hg hh;obtain⟨xs,X,hi⟩:=x1;have x4:=D hi;have hj:=D X;obtain⟨Y,c0,x5, -⟩:=K7 X;subst x5;clear X hi;have x6:=D (RJ (W:=f) (e:=227) rfl [V Ad k,Aa (str nm),J A t u,J y z B,J C c1 d]);have x7:AA (acc.length+1≤Bk):=D (by unfold Bk;omega);have x8:AA ((acc.length+1)*96≤140737488355328):=D (by omega);have x9:AA (w.heap.size≤(f.alloc (Ab #[V Ad k,Aa (str nm),J A t u,J y z B,J C c1 d] 227)).heap.size):=D (by simp;omega);go_wp2_with (at_builtin;refine Lp rfl _ _ 107 rfl w.heap.size 227 hn (AN zS) 5 96 underlying107 ho hp hq hr rfl (by decide) (J Y acc.length c0) acc.length xs rfl hj (some ⟨f.heap.size,0,none⟩) 1 1 [V Ad k,Aa (str nm),J A t u,J y z B,J C c1 d] rfl x6 rfl (VH _ _ _ _ _ _ _ _ _ _ _) x7 x8 x9 ?_;intro xj hk hl i hm);have xa:=D (RowK.snoc (a:=x) x4 (KS.upd x2 (Gl (G:=fun _=>False) ((Ext.refl f).alloc (Ab #[V Ad k,Aa (str nm),J A t u,J y z B,J C c1 d] 227))) (fun _ _ q=>q) (fun j q=>⟨by have:=q.1;omega,by have:=q.2;simp;omega,fun c=>by have:=x3 j c;have:=q.1;omega⟩)) hl i hm);have Z:JK (fun j=>(J Y acc.length c0).ownBlock=some j) f hk:=(Gl ((Ext.refl f).alloc _)).trans ⟨i.os,i.tape,i.output,i.size,fun j o h1=>i.block j o (fun q=>h1 q.symm)⟩;have h0:∀ j,(J Y acc.length c0).ownBlock=some j→w.heap.size≤j:=fun j o=>(Kc hj o).1
     have xb:=D (hf.upd Z (fun c=>by have:=h0 g c;omega) (fun j c=>by have:=h0 j c;have:=hf.g13;omega));have xc:AA (PX g w hk):=D (((x0.mono (G':=fun j=>j=g∨w.heap.size≤j) (fun j _ c=>AO c)).trans (Z.mono (fun j _ c=>AB (h0 j c)))).mono (fun j o c=>c.elim id (fun d=>by omega)));clear hl i hm Z;go_wp2_with fail
     go_roundg T
     case measure=>omega
     case rel=>exact⟨m,_,P,_,rfl,by omega,by rw [M];simp;omega,hy,xb,xc,xa⟩
def zc7 (w:Y)(g X:Nat)(S:ByteArray)(q:PS)(d f lv:h)(x:Ex)(b:List Sm)(e:BX)(w':Y):Prop:=
 e=Ak (AZ #[])∧PW w' g S q∧JK (fun k=>k=g∨k=X) w w'∧∃ a c,w'.heap[X]?= some (Ab #[d,f,a,c,lv] 227 (0,0))∧
  Ju KE (fun k=>w.heap.size≤k∧k<w'.heap.size) w' [x] a∧Ju KS (fun k=>w.heap.size≤k∧k<w'.heap.size) w' b c
def aJ (g:Nat)(S:ByteArray)(n:Nat):Prop:=∀ (p:PS)(x:Ex)(b:List Sm)(q:PS)(w:Y)(X:Nat)(a c d e lv:h),Vm n p=some ((x,b),q)→PW w g S p→X≠g→13≤X→w.heap[X]?= some (Ab #[a,c,d,e,lv] 227 (0,0))→
 As prog 175 #[Ae (some ⟨g,0,none⟩),Ae (some ⟨X,0,none⟩)] w (zc7 w g X S q a c lv x b)
theorem yA4 {g:Nat}{S:ByteArray}{n:Nat}(P:∀ m,m<n→Ps g S m)(Q:∀ m,m<n→aH g S m):aJ g S n:=by
 intro p x b q w X hj hk xd hl lv d I t xe K;cases n with
 |zero=>cases d
 |succ n=>
  rw [Vm]at d;split at d
  ·cases d
  ·rename_i p1 h1;split at d
   ·cases d
   ·rename_i xf hm R;split at d
    ·cases d
    ·rename_i xg T;split at d
     ·cases d
     ·rename_i Y Z;split at d
      ·cases d
      ·rename_i xh xi h0;cases d;have xj:=I.lt;have xk:X<w.heap.size:=(Ag.1 K).1;have hn:=D K;have ho:=D I;have hp:=D (fun W (L:PW W g S p1)=>P n (by omega) 1 p1 x hm W R L);have hq:=D (fun W (L:PW W g S Y)=>Q n (by omega) Y b q W h0 L);have hr:=D h1;have hs:=D T;have ht:=D Z;clear h1 R T Z h0 P Q I K;go_enter func175,ntmps175;go_wp2_with fail;refine(Mh (ho.ext ((Ext.refl w).alloc _)) hr (b:=w.heap.size) (Aj w _) (by omega)).mono ?_
       rintro e h2 ⟨rfl,h3,h4⟩;have B:PX g w h2:=(Gl ((Ext.refl w).alloc _)).trans h4;have hu:=D B;have hv:=D h3;have hw:=D (B.heap hn t);have xl:=B.size;clear h3 h4 B;go_wp2_with fail;refine(hp h2 hv).mono ?_
       rintro e a ⟨⟨cs,rfl,M⟩,h5,C⟩;obtain⟨f,h,i,j,l,o,r,rfl⟩:=Nq M;have hx:=D (hu.trans C);have h6:=D h5;have xm:=C.size;have h7:=C.heap hw t;have E:=CE ((Ext.refl a).alloc (Ab #[V Ad f,V Ad h,V Af i,Aa (str j),J l o r] 287)) h7;have h8:=D E;have s:=bk E 2;have f2:=JF E 2;have hy:=D M;have h9:=D (Aj a (Ab #[V Ad f,V Ad h,V Af i,Aa (str j),J l o r] 287));have ha:=D ((Ext.refl a).alloc (Ab #[V Ad f,V Ad h,V Af i,Aa (str j),J l o r] 287));have hz:(a.alloc (Ab #[V Ad f,V Ad h,V Af i,Aa (str j),J l o r] 287)).heap.size=a.heap.size+1:=by simp
       clear h5 C h7 E M;go_upto_region 2 with fail;have F:JK (fun k=>k=X) a ((a.alloc (Ab #[V Ad f,V Ad h,V Af i,Aa (str j),J l o r] 287)).setCell ⟨X,2,none⟩ (J (some ⟨a.heap.size,0,none⟩) 1 1)):=(Gl ha).setCell (G:=fun k=>k=X) (p:=⟨X,2,none⟩) (AB rfl) _;have hb:((a.alloc (Ab #[V Ad f,V Ad h,V Af i,Aa (str j),J l o r] 287)).setCell ⟨X,2,none⟩ (J (some ⟨a.heap.size,0,none⟩) 1 1)).heap[X]?= some (Ab #[hj,hk,J (some ⟨a.heap.size,0,none⟩) 1 1,hl,lv] 227 (0,0)):=JJ h8 2 _
       have hc:((a.alloc (Ab #[V Ad f,V Ad h,V Af i,Aa (str j),J l o r] 287)).setCell ⟨X,2,none⟩ (J (some ⟨a.heap.size,0,none⟩) 1 1)).heap[a.heap.size]?= some (Ab #[V Ad f,V Ad h,V Af i,Aa (str j),J l o r] 287 (0,0)):=(AY _ _ _ _ (by show a.heap.size≠X;omega)).trans h9
       have x0:((a.alloc (Ab #[V Ad f,V Ad h,V Af i,Aa (str j),J l o r] 287)).setCell ⟨X,2,none⟩ (J (some ⟨a.heap.size,0,none⟩) 1 1)).heap.size=a.heap.size+1:=by simp
       clear s f2 h8 h9 ha hz;generalize((a.alloc (Ab #[V Ad f,V Ad h,V Af i,Aa (str j),J l o r] 287)).setCell ⟨X,2,none⟩ (J (some ⟨a.heap.size,0,none⟩) 1 1))=w4 at*
       have x1:=D (h6.upd F (fun c=>t c.symm) (fun k c=>by have s:k=X:=c;have:=h6.g13;omega));have hd:AA (JK (fun k=>k=g∨k=X) w w4):=D ((hx.mono (fun k _ c=>AO c)).trans (F.mono (fun k _ c=>AB c)));have x2:=D hb;have x3:=D (Vr (U:=fun k=>w.heap.size≤k∧k<w4.heap.size) hc (KE.upd hy F (fun k q c=>by have s:k=X:=c;have:=q.1;omega) (fun k q=>⟨by have:=q.1;omega,by have:=q.2;omega⟩)) ⟨by omega,by omega⟩);clear F hb hc x0;go_wp2_with fail;refine(aD (x1.ext ((Ext.refl w4).alloc _)) hs ht (b:=w4.heap.size) (Aj w4 _) (by have:=hd.size;omega)).mono ?_
       rintro e N ⟨rfl,he,hf⟩;have u:PX g w4 N:=(Gl ((Ext.refl w4).alloc _)).trans hf;have hg:=D (hd.trans (u.mono (fun k _ c=>AO c)));have x4:=D he;have x5:=D (u.heap x2 t);have x6:=D (x3.upd u (fun k q c=>by have s:k=g:=c;omega) (U':=fun k=>w.heap.size≤k∧k<N.heap.size) (fun k q=>⟨q.1,Ar q.2 u.size⟩));have xn:=u.size;clear he hf u;go_wp2_with fail;refine(hq N x4).mono ?_
       rintro e y ⟨⟨v,rfl,O⟩,hh,A⟩;obtain⟨x7,x8,rfl⟩:=JB O;have hi:=D hh;have x9:=D (hg.trans (A.mono (fun k _ c=>AO c)));have H:=A.heap x5 t;have xa:=D H;have xb:=D (x6.upd A (fun k q c=>by have s:k=g:=c;omega) (U':=fun k=>w.heap.size≤k∧k<y.heap.size) (fun k q=>⟨q.1,Ar q.2 A.size⟩));have xo:=hg.size;have xc:=D (O.upd (JK.refl (G:=fun _=>False) y) (fun _ _ q=>q) (U':=fun k=>w.heap.size≤k∧k<y.heap.size) (fun k q=>⟨by omega,q.2⟩));have xp:=bk H 3;have xq:=JF H 3;clear hh A H O;go_wp2_with fail;go_end0;have z:JK (fun k=>k=X) y (y.setCell ⟨X,3,none⟩ (J x7 b.length x8)):=(JK.refl y).setCell (G:=fun k=>k=X) (p:=⟨X,3,none⟩) (AB rfl) _;exact⟨rfl,hi.upd z (fun c=>t c.symm) (fun k c=>by have s:k=X:=c;have:=hi.g13;omega),x9.trans (z.mono (fun k _ c=>AB c)),_,_,JJ xa 3 _,
        xb.upd z (fun k q c=>by have s:k=X:=c;omega) (fun k q=>⟨q.1,Ar q.2 z.size⟩),xc.upd z (fun k q c=>by have s:k=X:=c;omega) (fun k q=>⟨q.1,Ar q.2 z.size⟩)⟩
theorem jD {w W:Y}{g:Nat}{S:ByteArray}{q:PS}{e:Sm}{cs:List h}(f:PX g w W)(a:PW W g S q)(j:g<w.heap.size)(i:Q5 (fun k=>w.heap.size<k∧k<W.heap.size) W e cs):
 Uk w g S q e (Ak (AN cs.toArray)) (W.setRow w.heap.size cs.toArray):=by
 have b:JK (fun k=>k=w.heap.size) W (W.setRow w.heap.size cs.toArray):=JK.setRow (G:=fun k=>k=w.heap.size) (JK.refl W) (AB rfl) _;refine⟨⟨cs,rfl,Vv b (fun k q c=>by have d:k=w.heap.size:=c;omega) (fun k q=>⟨by omega,Ar q.2 b.size⟩) e cs i⟩,?_,f.setRow (AO (Aw _)) _⟩;exact⟨a.at_.upd b (fun c=>by have d:g=w.heap.size:=c;omega),a.tab.upd b (fun k c=>by have d:k=w.heap.size:=c;have:=a.g13;omega),a.g13,a.hs⟩
theorem zI7 {U:Nat→Prop}{W:Y}{k:Nat}{nm:Bs}{d:List Ex}{body els:List Sm}{a b c:h}(h1:Ju KE U W d a)(e:Ju KS U W body b)(f:Ju KS U W els c):Q5 U W (.mk k nm d body els) [V Ad k,Aa (str nm),a,b,c]:=by
 rw [Qk];exact⟨a,b,c,rfl,h1,e,f⟩
theorem nG (k:Int)(w:Y):(D8 227 #[(0,V Ad k)]).run prog w=Ez (AN #[V Ad k,Aa ⟨#[]⟩,J none 0 0,J none 0 0,J none 0 0]) w:=by kernel_rfl
def uQ (g:Nat)(S:ByteArray)(n:Nat):Prop:=∀ (p:PS)(x:Sm)(q:PS)(w:Y),Zu n p=some (x,q)→PW w g S p→As prog 174 #[Ae (some ⟨g,0,none⟩)] w (Uk w g S q x)
structure Vx (w W:Y) (g:Nat) (S:ByteArray) (q:PS) (cs:Array h):Prop where
 x:W.heap[w.heap.size+1]?= some (Ab cs 227 (0,0))
 r:W.heap[w.heap.size]?= some (Ab zS 227 (0,0))
 pw:PW W g S q
 px:PX g w W
theorem Vx.step {w W a:Y}{g:Nat}{S:ByteArray}{p q:PS}{cs:Array h}(b:Vx w W g S p cs)(i:g<w.heap.size)(d:PX g W a)(e:PW a g S q):Vx w a g S q cs:=
 ⟨d.heap b.x (fun c=>by have f:w.heap.size+1=g:=c;omega),d.heap b.r (fun c=>by have f:w.heap.size=g:=c;omega),e,b.px.trans d⟩
theorem Vx.lt {w W:Y}{g:Nat}{S:ByteArray}{q:PS}{cs:Array h}(a:Vx w W g S q cs):w.heap.size+1<W.heap.size:=(Ag.1 a.x).1
theorem Vx.set {w W:Y}{g:Nat}{S:ByteArray}{q:PS}{cs:Array h}(a:Vx w W g S q cs)(e:g<w.heap.size)(i:Nat)(v:h):Vx w (W.setCell ⟨w.heap.size+1,i,none⟩ v) g S q (cs.setIfInBounds i v):=by
 have b:JK (fun k=>k=w.heap.size+1) W (W.setCell ⟨w.heap.size+1,i,none⟩ v):=(JK.refl W).setCell (G:=fun k=>k=w.heap.size+1) (p:=⟨w.heap.size+1,i,none⟩) (AB rfl) v;exact⟨JJ a.x i v,b.heap a.r (fun c=>by have d:w.heap.size=w.heap.size+1:=c;omega),a.pw.upd b (fun c=>by have d:g=w.heap.size+1:=c;omega) (fun k c=>by have d:k=w.heap.size+1:=c;have:=a.pw.g13;omega),a.px.setCell (p:=⟨w.heap.size+1,i,none⟩) (AO (by show w.heap.size≤w.heap.size+1;omega)) v⟩
theorem Vx.alloc {w W:Y}{g:Nat}{S:ByteArray}{q:PS}{cs:Array h}(b:Vx w W g S q cs)(c:g<w.heap.size)(o:Obj):Vx w (W.alloc o) g S q cs:=b.step c (Gl ((Ext.refl W).alloc o)) (b.pw.ext ((Ext.refl W).alloc o))
theorem zc8 {α:Type}{K:Kind α}{w W:Y}{l:List α}{v u:h}{i:Nat}{U:Nat→Prop}(a:Ju K U W l v)(b:∀ k,U k→w.heap.size+1<k):Ju K U (W.setCell ⟨w.heap.size+1,i,none⟩ u) l v:=
 a.upd ((JK.refl W).setCell (G:=fun k=>k=w.heap.size+1) (p:=⟨w.heap.size+1,i,none⟩) (AB rfl) u) (fun k q c=>by have:=b k q;have d:k=w.heap.size+1:=c;omega) (fun k q=>q)
abbrev UX (w W:Y):Nat→Prop:=fun k=>w.heap.size+1<k∧k<W.heap.size
theorem Qm {α:Type}{K:Kind α}{w W a:Y}{g:Nat}{l:List α}{v:h}(d:Ju K (UX w W) W l v)(e:g<w.heap.size)(b:PX g W a):Ju K (UX w a) a l v:=
 d.upd b (fun k q c=>by have f:k=g:=c;have:=q.1;omega) (fun k q=>⟨q.1,Ar q.2 b.size⟩)
theorem Rm {α:Type}{K:Kind α}{w W:Y}{l:List α}{v u:h}{i:Nat}(a:Ju K (UX w W) W l v):Ju K (UX w (W.setCell ⟨w.heap.size+1,i,none⟩ u)) (W.setCell ⟨w.heap.size+1,i,none⟩ u) l v:=
 (zc8 a (fun _ q=>q.1)).upd (JK.refl (G:=fun _=>False) _) (fun _ _ q=>q) (fun k q=>⟨q.1,by simpa using q.2⟩)
theorem aK {α:Type}{K:Kind α}{w W a:Y}{l:List α}{v:h}(b:Ju K (fun k=>a.heap.size≤k∧k<W.heap.size) W l v)(c:w.heap.size+1<a.heap.size):Ju K (UX w W) W l v:=
 b.upd (JK.refl (G:=fun _=>False) _) (fun _ _ q=>q) (fun k q=>⟨by omega,q.2⟩)
theorem dS {w W:Y}{g:Nat}{S:ByteArray}{q:PS}{k:Nat}{nm:Bs}{d:List Ex}{body els:List Sm}{a b c:h}(e:Vx w W g S q #[V Ad k,Aa (str nm),a,b,c])(f:g<w.heap.size)(h1:Ju KE (UX w W) W d a)(i:Ju KS (UX w W) W body b)(l:Ju KS (UX w W) W els c):
 Uk w g S q (.mk k nm d body els) (Ak (AN #[V Ad k,Aa (str nm),a,b,c])) (W.setRow w.heap.size #[V Ad k,Aa (str nm),a,b,c]):=
 jD (cs:=[V Ad k,Aa (str nm),a,b,c]) e.px e.pw f (Vv (JK.refl (G:=fun _=>False) W) (fun _ _ q=>q) (fun j q=>⟨by have:=q.1;omega,q.2⟩) _ _ (zI7 h1 i l))
theorem yq2 {g:Nat}{S:ByteArray}{n:Nat}(hk:∀ m,m<n→aJ g S m)(hl:∀ m,m<n→uQ g S m)(hm:∀ m,m<n→aH g S m):uQ g S n:=by
 intro p xt q w d Y;cases n with
 |zero=>cases d
 |succ n=>
  rw [Zu]at d;split at d
  ·cases d
  ·rename_i x b p1 h1;have a:=Y.lt;have xu:=Y.g13;have hn:=D Y;have xv:=fun W=>nG 3 W
   have ho:=D (fun W (M:PW W g S p) (x4:W.heap[w.heap.size+1]?= some (Ab #[V Ad 3,Aa ⟨#[]⟩,J none 0 0,J none 0 0,J none 0 0] 227 (0,0)))=>hk n (by omega) p x b p1 W (w.heap.size+1) _ _ _ _ _ h1 M (by omega) (by omega) x4);have x5:=D (hl n (by omega));have x6:=D (hm n (by omega));have hp:=D d;clear h1 Y hk hl hm d;go_enter func174,ntmps174;go_wp2_with fail;have hq:Vx w ((w.alloc (Ab zS 227)).alloc (Ab #[V Ad 3,Aa ⟨#[]⟩,J none 0 0,J none 0 0,J none 0 0] 227)) g S p #[V Ad 3,Aa ⟨#[]⟩,J none 0 0,J none 0 0,J none 0 0]:=
    ⟨Ay w _ _,AP w _ _,hn.ext (((Ext.refl w).alloc _).alloc _),Gl (((Ext.refl w).alloc _).alloc _)⟩
   have N:=D hq;clear hq;refine(ho _ N.pw N.x).mono ?_
   rintro e x7 ⟨rfl,hr,h6,xw,xx,hs,h7,h8⟩;obtain⟨x8,x9,rfl⟩:=JB h7;obtain⟨xa,xb,rfl⟩:=JB h8;have y:AA (Vx w x7 g S p1 #[V Ad 3,Aa ⟨#[]⟩,J x8 [x].length x9,J xa b.length xb,J none 0 0]):=D ⟨hs,h6.heap N.r (fun c=>by rcases c with c|c<;>omega),hr,(N.px.mono (G':=fun k=>k=g∨k=w.heap.size+1) (fun k _ c=>AO c)).trans h6 |>.mono (fun k xy c=>by rcases c with c|c;exact c;omega)⟩;have ht:=D (aK (w:=w) h7 (by simp));have hu:=D (aK (w:=w) h8 (by simp));clear hr h6 hs h7 h8 N ho hn;have d:=hp.out;clear hp;split at d
   ·rename_i O;split at d
    ·cases d
    ·rename_i xz hv;have h9:=D (LU y.pw O hv);clear O hv;go_wp2_with fail;refine h9.mono ?_
     rintro e xc ⟨rfl,hw,Z⟩;have z:=D (y.step a Z hw);have hx:=D (Qm ht a Z);have hy:=D (Qm hu a Z);clear hw Z;split at d
     ·rename_i P;split at d
      ·cases d
      ·rename_i Q R;split at d
       ·cases d
       ·rename_i xd xe T;cases d;have ha:=D (LU z.pw P R);have xf:=D (fun W (M:PW W g S Q)=>x5 Q xd q W T M);clear P R T;go_wp2_with fail;refine ha.mono ?_
        rintro e j ⟨rfl,hz,h0⟩;have hb:=D (z.step a h0 hz);have xg:=D (Qm hx a h0);have xh:=D (Qm hy a h0);clear hz h0;go_wp2_with fail;refine(xf j hb.pw).mono ?_
        rintro e f ⟨⟨cs,rfl,hc⟩,X,h⟩;obtain⟨k,nm,A,B,E,F,H,I,C,c1,L,rfl⟩:=Vw hc;have o:=D ((hb.step a h X).alloc a (Ab #[V Ad k,Aa (str nm),J A B E,J F H I,J C c1 L] 227));have hd:=D (Qm (Qm xg a h) a (Gl ((Ext.refl f).alloc (Ab #[V Ad k,Aa (str nm),J A B E,J F H I,J C c1 L] 227))));have he:=D (Qm (Qm xh a h) a (Gl ((Ext.refl f).alloc (Ab #[V Ad k,Aa (str nm),J A B E,J F H I,J C c1 L] 227))));have y0:=hb.lt;have y1:=h.size;have xi:=D (Vr (K:=KS) (U:=UX w (f.alloc (Ab #[V Ad k,Aa (str nm),J A B E,J F H I,J C c1 L] 227))) (Aj f (Ab #[V Ad k,Aa (str nm),J A B E,J F H I,J C c1 L] 227)) (KS.upd hc (Gl (G:=fun _=>False) ((Ext.refl f).alloc (Ab #[V Ad k,Aa (str nm),J A B E,J F H I,J C c1 L] 227))) (fun _ _ q=>q) (fun k q=>⟨by have:=q.1;omega,by have:=q.2;simp;omega⟩)) ⟨by omega,by simp⟩);have xj:=bk o.x 4;have xk:=JF o.x 4;have t:=D (o.set a 4 (J (some ⟨f.heap.size,0,none⟩) 1 1));have xl:=D t.x;have x0:=D t.r;have hf:=D (Rm (i:=4) (u:=J (some ⟨f.heap.size,0,none⟩) 1 1) hd);have hg:=D (Rm (i:=4) (u:=J (some ⟨f.heap.size,0,none⟩) 1 1) he);have hh:=D (Rm (i:=4) (u:=J (some ⟨f.heap.size,0,none⟩) 1 1) xi);clear X h hc;go_wp2_with (first|refine Qx rfl AV rfl xl MH ?_|refine L8 rfl rfl rfl x0 MH ?_ (h1:=(Np (VH _ _ _ _ _ _ _ _ _ _ _))));refine K3 IQ AV MH (PO x0) ?_
        exact dS (nm:=[]) t a hf hg hh
     ·rename_i P;split at d
      ·cases d
      ·rename_i Q R;split at d
       ·cases d
       ·rename_i l xe T;cases d;have ha:=D (J8 z.pw (s:=[105,102]) (by simpa using P));have xm:=D R;have xn:=D (fun W (M:PW W g S Q)=>x6 Q l q W T M);clear P R T;go_wp2_with fail;refine ha.mono ?_
        rintro e j ⟨rfl,rfl⟩;go_wp2_with fail;refine(Mh (z.pw.ext ((Ext.refl j).alloc _)) xm (b:=j.heap.size) (Aj j _) (by have:=z.lt;omega)).mono ?_
        rintro e f ⟨rfl,X,h⟩;have h2:PX g j f:=(Gl ((Ext.refl j).alloc _)).trans h;have o:=D (z.step a h2 X);have hd:=D (Qm hx a h2);have he:=D (Qm hy a h2);clear X h h2;go_wp2_with fail;refine(xn f o.pw).mono ?_
        rintro e y2 ⟨⟨v,rfl,hi⟩,x1,h3⟩;obtain⟨h4,h5,rfl⟩:=JB hi;have t:=D (o.step a h3 x1);have hf:=D (Qm hd a h3);have hg:=D (Qm he a h3);have hh:=D (aK (w:=w) hi o.lt);have xj:=bk t.x 4;have xk:=JF t.x 4;have hj:=D (t.set a 4 (J h4 l.length h5));have xo:=D hj.x;have x2:=D hj.r;have xp:=D (Rm (i:=4) (u:=J h4 l.length h5) hf);have xq:=D (Rm (i:=4) (u:=J h4 l.length h5) hg);have xr:=D (Rm (i:=4) (u:=J h4 l.length h5) hh);clear x1 h3 hi;go_wp2_with (first|refine Qx rfl AV rfl xo MH ?_|refine L8 rfl rfl rfl x2 MH ?_ (h1:=(Np (VH _ _ _ _ _ _ _ _ _ _ _))));refine K3 IQ AV MH (PO x2) ?_
        exact dS (nm:=[]) hj a xp xq xr
   ·rename_i O;cases d;have h9:=D (J8 y.pw (s:=[101,108,115,101]) (by simpa using O));have xs:=D y.x;have x3:=D y.r;clear O;go_wp2_with fail;refine h9.mono ?_
    rintro e xc ⟨rfl,rfl⟩;go_wp2_with (first|refine Qx rfl AV rfl xs MH ?_|refine L8 rfl rfl rfl x3 MH ?_);refine K3 IQ AV MH (PO x3) ?_
    exact dS (nm:=[]) y a ht hu (Ju.nil _ _ _)
def aM (g:Nat)(S:ByteArray)(n:Nat):Prop:=∀ (p:PS)(x:Sm)(q:PS)(w:Y),WJ n p=some (x,q)→PW w g S p→As prog 173 #[Ae (some ⟨g,0,none⟩)] w (Uk w g S q x)
structure dV (w W:Y) (X g:Nat) (S:ByteArray) (q:PS) (cs:Array h):Prop where
 x:W.heap[X]?= some (Ab cs 227 (0,0))
 r:W.heap[w.heap.size]?= some (Ab zS 227 (0,0))
 pw:PW W g S q
 px:PX g w W
section
variable {w W W':Y}{X g:Nat}{S:ByteArray}{p q:PS}{cs:Array h}
theorem dV.lt (a:dV w W X g S q cs):X<W.heap.size:=(Ag.1 a.x).1
theorem dV.step (a:dV w W X g S p cs)(f:g<X)(h:g<w.heap.size)(b:PX g W W')(d:PW W' g S q):dV w W' X g S q cs:=
 ⟨b.heap a.x (fun c=>by have e:X=g:=c;omega),b.heap a.r (fun c=>by have e:w.heap.size=g:=c;omega),d,a.px.trans b⟩
theorem dV.alloc (a:dV w W X g S q cs)(b:g<X)(c:g<w.heap.size)(o:Obj):dV w (W.alloc o) X g S q cs:=a.step b c (Gl ((Ext.refl W).alloc o)) (a.pw.ext ((Ext.refl W).alloc o))
theorem dV.set (a:dV w W X g S q cs)(e:g<X)(f:w.heap.size<X)(i:Nat)(v:h):dV w (W.setCell ⟨X,i,none⟩ v) X g S q (cs.setIfInBounds i v):=by
 have b:=(JK.refl W).setCell (G:=fun k=>k=X) (p:=⟨X,i,none⟩) (AB rfl) v;exact⟨JJ a.x i v,b.heap a.r (fun c=>by have d:w.heap.size=X:=c;omega),a.pw.upd b (fun c=>by have d:g=X:=c;omega) (fun k c=>by have d:k=X:=c;have:=a.pw.g13;omega),a.px.setCell (p:=⟨X,i,none⟩) (AO (by show w.heap.size≤X;omega)) v⟩
end
abbrev UZ (X:Nat)(W:Y):Nat→Prop:=fun k=>X<k∧k<W.heap.size
theorem OG {α:Type}{K:Kind α}{X g:Nat}{W W':Y}{l:List α}{v:h}(b:Ju K (UZ X W) W l v)(d:g<X)(a:PX g W W'):Ju K (UZ X W') W' l v:=
 b.upd a (fun k q c=>by have e:k=g:=c;have:=q.1;omega) (fun k q=>⟨q.1,Ar q.2 a.size⟩)
theorem NI {α:Type}{K:Kind α}{X:Nat}{W:Y}{l:List α}{v u:h}{i:Nat}(a:Ju K (UZ X W) W l v):Ju K (UZ X (W.setCell ⟨X,i,none⟩ u)) (W.setCell ⟨X,i,none⟩ u) l v:=
 a.upd ((JK.refl W).setCell (G:=fun k=>k=X) (p:=⟨X,i,none⟩) (AB rfl) u) (fun k q c=>by have:=q.1;have b:k=X:=c;omega) (fun k q=>⟨q.1,by simpa using q.2⟩)
theorem Xh {α:Type}{K:Kind α}{X:Nat}{W a:Y}{l:List α}{v:h}(b:Ju K (fun k=>a.heap.size≤k∧k<W.heap.size) W l v)(c:X<a.heap.size):Ju K (UZ X W) W l v:=
 b.upd (JK.refl (G:=fun _=>False) _) (fun _ _ q=>q) (fun k q=>⟨by omega,q.2⟩)
theorem zA {w W:Y}{X g:Nat}{S:ByteArray}{q:PS}{k:Nat}{nm:Bs}{d:List Ex}{body els:List Sm}{a b c:h}(e:dV w W X g S q #[V Ad k,Aa (str nm),a,b,c])(m:w.heap.size<X)(f:g<w.heap.size)(h1:Ju KE (UZ X W) W d a)(i:Ju KS (UZ X W) W body b)(l:Ju KS (UZ X W) W els c):
 Uk w g S q (.mk k nm d body els) (Ak (AN #[V Ad k,Aa (str nm),a,b,c])) (W.setRow w.heap.size #[V Ad k,Aa (str nm),a,b,c]):=
 jD (cs:=[V Ad k,Aa (str nm),a,b,c]) e.px e.pw f (Vv (JK.refl (G:=fun _=>False) W) (fun _ _ q=>q) (fun j q=>⟨by have:=q.1;omega,q.2⟩) _ _ (zI7 h1 i l))
theorem zd0 {g:Nat}{S:ByteArray}{n:Nat}(x8:∀ m,m<n→Ps g S m)(x9:∀ m,m<n→TQ g S m):aM g S n:=by
 intro p yh q w a hx;cases n with
 |zero=>cases a
 |succ n=>
  rw [WJ]at a;split at a
  ·cases a
  ·rename_i s p1 h1;have A:=hx.lt;have xa:=D (TM (hx.ext ((Ext.refl w).alloc (Ab zS 227))) h1);have hz:=D (x8 n (by omega));have xz:=D (x9 n (by omega));have xb:=D a;clear h1 hx x8 x9 a;go_enter func173,ntmps173;go_wp2_with fail;refine xa.mono ?_
   rintro e M ⟨rfl,xc,hw⟩;have yi:w.heap.size+1≤M.heap.size:=by have:=hw.size;simpa using this
   have xd:=hw.heap (Aj w (Ab zS 227)) (by show ¬w.heap.size=g;omega);have E:AA (dV w (M.alloc (Ab #[V Ad 0,Aa (str s),J none 0 0,J none 0 0,J none 0 0] 227)) M.heap.size g S p1 #[V Ad 0,Aa (str s),J none 0 0,J none 0 0,J none 0 0]):=
    D ⟨Aj M _,CE ((Ext.refl M).alloc _) xd,xc.ext ((Ext.refl M).alloc _),((Gl ((Ext.refl w).alloc (Ab zS 227))).trans hw).alloc _⟩
   obtain⟨X,hf⟩:=JH M.heap.size;have d:g<X:=by omega
   have P:w.heap.size<X:=by omega
   clear xc hw xd xa;have a:=xb.out;clear xb;split at a
   ·rename_i heq;split at a
    ·cases a
    ·rename_i Q R;split at a
     ·cases a
     ·rename_i x hi T;split at a
      ·cases a
      ·rename_i xe Y;cases a;have x0:=D (LU E.pw heq R);have hj:=D (fun W (ha:PW W g S Q)=>hz 1 Q x hi W T ha);have hk:=D Y;clear heq R T Y;go_upto_region 4 with fail;rw [←hf]at E ⊢;clear hf;generalize(M.alloc (Ab #[V Ad 0,Aa (str s),J none 0 0,J none 0 0,J none 0 0] 227))=w2 at*
       go_wp2_with fail;refine x0.mono ?_
       rintro e N ⟨rfl,hl,hm⟩;have hb:=D (E.step d A hm hl);clear hl hm;go_wp2_with fail;refine(hj N hb.pw).mono ?_
       rintro e F ⟨⟨cs,rfl,hc⟩,hn,hg⟩;obtain⟨f,h,j,o,t,y,z,rfl⟩:=Nq hc;have yj:=hb.lt;have yk:=hg.size;have B:=D ((hb.step d A hg hn).alloc d A (Ab #[V Ad f,V Ad h,V Af j,Aa (str o),J t y z] 287));have y0:=D (Vr (K:=KE) (U:=UZ X (F.alloc (Ab #[V Ad f,V Ad h,V Af j,Aa (str o),J t y z] 287))) (Aj F (Ab #[V Ad f,V Ad h,V Af j,Aa (str o),J t y z] 287)) (KE.upd hc (Gl (G:=fun _=>False) ((Ext.refl F).alloc (Ab #[V Ad f,V Ad h,V Af j,Aa (str o),J t y z] 287))) (fun _ _ q=>q) (fun k q=>⟨by have:=q.1;omega,by have:=q.2;simp;omega⟩)) ⟨by omega,by simp⟩);have xf:=bk B.x 0;have xg:=JF B.x 0;have xh:=bk B.x 2;have xi:=JF B.x 2;have C:=D ((B.set d P 0 (V Ad 1)).set d P 2 (J (some ⟨F.heap.size,0,none⟩) 1 1));have x1:=D (NI (i:=2) (u:=J (some ⟨F.heap.size,0,none⟩) 1 1) (NI (i:=0) (u:=V Ad 1) y0));clear hn hg hc;go_upto_region 11 with fail;generalize(((F.alloc (Ab #[V Ad f,V Ad h,V Af j,Aa (str o),J t y z] 287)).setCell ⟨X,0,none⟩ (V Ad 1)).setCell ⟨X,2,none⟩ (J (some ⟨F.heap.size,0,none⟩) 1 1))=O at*
       go_wp2_with fail;refine(Mh (C.pw.ext ((Ext.refl _).alloc _)) hk (b:=O.heap.size) (Aj O _) (by have:=C.lt;omega)).mono ?_
       rintro e xj ⟨rfl,Z,h0⟩;have H:=(Gl ((Ext.refl _).alloc _)).trans h0;have I:=D (C.step d A H Z);have ho:=D (OG x1 d H);have hp:=D I.x;have h2:=D I.r;clear Z h0 H;go_wp2_with (first|refine Qx rfl AV rfl hp MH ?_|refine L8 rfl rfl rfl h2 MH ?_ (h1:=(Np (VH _ _ _ _ _ _ _ _ _ _ _))));refine K3 IU AV MH (PO h2) ?_
       exact zA I P A ho (Ju.nil _ _ _) (Ju.nil _ _ _)
   ·rename_i heq;have xk:=D (J8 E.pw (s:=[61]) (by simpa using heq));clear heq;split at a
    ·rename_i hq;split at a
     ·cases a
     ·rename_i Q R;split at a
      ·cases a
      ·rename_i i hi T;split at a
       ·cases a
       ·rename_i xe Y;split at a
        ·cases a
        ·rename_i xl xm;split at a
         ·cases a
         ·rename_i x y1 xn;split at a
          ·cases a
          ·rename_i yl xo;cases a;have x0:=D (LU E.pw hq R);have hj:=D (fun W (ha:PW W g S Q)=>hz 1 Q i hi W T ha);have y2:=D (fun W (ha:PW W g S xl)=>hz 1 xl x y1 W xn ha);have y3:=D Y;have y4:=D xm;have hk:=D xo;clear hq R T Y xm xn xo;go_upto_region 4 with fail;rw [←hf]at E ⊢;clear hf;generalize(M.alloc (Ab #[V Ad 0,Aa (str s),J none 0 0,J none 0 0,J none 0 0] 227))=w2 at*
           go_wp2_with fail;refine xk.mono ?_
           rintro e N ⟨rfl,rfl⟩;go_wp2_with fail;refine x0.mono ?_
           rintro e N ⟨rfl,hl,hm⟩;have hb:=D (E.step d A hm hl);have xf:=bk hb.x 0;have xg:=JF hb.x 0;have B:=D (hb.set d P 0 (V Ad 2));clear hl hm;go_upto_region 8 with fail;generalize(N.setCell ⟨X,0,none⟩ (V Ad 2))=F at*
           go_wp2_with fail;refine(hj F B.pw).mono ?_
           rintro e O ⟨⟨cs,rfl,hc⟩,hr,hh⟩;obtain⟨f,h,j,o,t,y,z,rfl⟩:=Nq hc;have ym:=B.lt;have yn:=hh.size;have C:=D ((B.step d A hh hr).alloc d A (Ab #[V Ad f,V Ad h,V Af j,Aa (str o),J t y z] 287));have xp:=D (Aj O (Ab #[V Ad f,V Ad h,V Af j,Aa (str o),J t y z] 287));have y5:=D (KE.upd hc (Gl (G:=fun _=>False) ((Ext.refl O).alloc (Ab #[V Ad f,V Ad h,V Af j,Aa (str o),J t y z] 287))) (fun _ _ q=>q) (U':=UZ X (O.alloc (Ab #[V Ad f,V Ad h,V Af j,Aa (str o),J t y z] 287))) (fun k q=>⟨by have:=q.1;omega,by have:=q.2;simp;omega⟩));obtain⟨hs,xq⟩:=JH O.heap.size;have yo:hs≠g:=by omega
           clear hr hh hc;go_upto_region 9 with fail;rw [←xq]at xp ⊢;clear xq;generalize(O.alloc (Ab #[V Ad f,V Ad h,V Af j,Aa (str o),J t y z] 287))=w5b at*
           go_wp2_with fail;refine(aD (C.pw.ext ((Ext.refl w5b).alloc _)) y3 y4 (b:=w5b.heap.size) (Aj w5b _) (by have:=C.lt;omega)).mono ?_
           rintro e hd ⟨rfl,xr,xs⟩;have ht:=(Gl ((Ext.refl w5b).alloc _)).trans xs;have he:=D (C.step d A ht xr);have xt:=D (ht.heap xp (by show ¬hs=g;omega));have y6:=D (KE.upd y5 ht (fun k q c=>by have y7:k=g:=c;have:=q.1;omega) (U':=UZ X hd) (fun k q=>⟨q.1,Ar q.2 ht.size⟩));clear xr xs ht;go_upto_region 10 with fail;refine JX.go (fun w'=>w'.heap[hs]?= some (Ab #[V Ad f,V Ad h,V Af j,Aa (str o),J t y z] 287 (0,0))) [5] xt.out (fun hu=>?_);refine JC hu ?_ (hy:=by(intro w y8;refine R5 287 (Eh 4) ?_ hs ?_ 287 #[V Ad f,V Ad h,V Af j,Aa (str o),J t y z] (0,0) _ y8 Ax rfl Ki<;>rfl))
           refine JC hu ?_
           refine JM (fun K h3=>?_);go_simp;refine(y2 _ (he.pw.ext ((Ext.refl hd).drew))).mono ?_
           rintro e L ⟨⟨yp,rfl,x2⟩,xu,xv⟩;obtain⟨h4,h5,fn,h6,h7,h8,h9,rfl⟩:=Nq x2;have hv:=(Gl ((Ext.refl hd).drew)).trans xv;have xw:=D (he.step d A hv xu);have xx:=D (hv.heap xt (by show ¬hs=g;omega));have y9:=D (KE.upd y6 hv (fun k q c=>by have y7:k=g:=c;have:=q.1;omega) (U':=UZ X L) (fun k q=>⟨q.1,Ar q.2 hv.size⟩));have yq:=he.lt;have ya:=D (KE.upd x2 (JK.refl (G:=fun _=>False) _) (fun _ _ q=>q) (U':=UZ X L) (fun k q=>⟨by have q2:hd.heap.size≤k:=q.1;omega,q.2⟩));clear x2 xu xv hv;refine h3 _ _ ?_ (fun hu=>?_)
           ·exact xx
           clear h3 K;refine JM (fun K h3=>?_);go_simp;have x3:=D (xw.alloc d A (Ab #[V Ad f,V Ad h,V Af j,Aa (str o),J t y z,V Ad h4,V Ad h5,V Af fn,Aa (str h6),J h7 h8 h9] 287));have yb:=D (uO (K:=KE) (U:=UZ X (L.alloc (Ab #[V Ad f,V Ad h,V Af j,Aa (str o),J t y z,V Ad h4,V Ad h5,V Af fn,Aa (str h6),J h7 h8 h9] 287))) (cs:=[V Ad f,V Ad h,V Af j,Aa (str o),J t y z]) (ds:=[V Ad h4,V Ad h5,V Af fn,Aa (str h6),J h7 h8 h9]) (Aj L (Ab #[V Ad f,V Ad h,V Af j,Aa (str o),J t y z,V Ad h4,V Ad h5,V Af fn,Aa (str h6),J h7 h8 h9] 287)) (KE.upd y9 (Gl (G:=fun _=>False) ((Ext.refl L).alloc (Ab #[V Ad f,V Ad h,V Af j,Aa (str o),J t y z,V Ad h4,V Ad h5,V Af fn,Aa (str h6),J h7 h8 h9] 287))) (fun _ _ q=>q) (fun k q=>⟨q.1,by have:=q.2;simp;omega⟩)) (KE.upd ya (Gl (G:=fun _=>False) ((Ext.refl L).alloc (Ab #[V Ad f,V Ad h,V Af j,Aa (str o),J t y z,V Ad h4,V Ad h5,V Af fn,Aa (str h6),J h7 h8 h9] 287))) (fun _ _ q=>q) (fun k q=>⟨q.1,by have:=q.2;simp;omega⟩)) ⟨by have:=xw.lt;omega,by simp⟩);have yc:=D (CE ((Ext.refl L).alloc (Ab #[V Ad f,V Ad h,V Af j,Aa (str o),J t y z,V Ad h4,V Ad h5,V Af fn,Aa (str h6),J h7 h8 h9] 287)) xx);have xh:=bk x3.x 2;have xi:=JF x3.x 2;refine h3 _ _ ?_ (fun hu=>?_)
           ·exact yc
           clear h3 K;refine JC hu ?_
           refine JX.fn (fun K h3=>?_);go_simp;refine h3 _ _ ?_
           clear h3 K;refine JV ?_
           have x4:=D (x3.set d P 2 (J (some ⟨L.heap.size,0,none⟩) 2 2));have yd:=D (NI (i:=2) (u:=J (some ⟨L.heap.size,0,none⟩) 2 2) yb);generalize((L.alloc (Ab #[V Ad f,V Ad h,V Af j,Aa (str o),J t y z,V Ad h4,V Ad h5,V Af fn,Aa (str h6),J h7 h8 h9] 287)).setCell ⟨X,2,none⟩ (J (some ⟨L.heap.size,0,none⟩) 2 2))=w9 at*
           go_wp2_with fail;refine(Mh (x4.pw.ext ((Ext.refl _).alloc _)) hk (b:=w9.heap.size) (Aj w9 _) (by have:=x4.lt;omega)).mono ?_
           rintro e xj ⟨rfl,Z,h0⟩;have H:=(Gl ((Ext.refl _).alloc _)).trans h0;have I:=D (x4.step d A H Z);have ho:=D (OG yd d H);have hp:=D I.x;have h2:=D I.r;clear Z h0 H;go_wp2_with (first|refine Qx rfl AV rfl hp MH ?_|refine L8 rfl rfl rfl h2 MH ?_ (h1:=(Np (VH _ _ _ _ _ _ _ _ _ _ _))));refine K3 IU AV MH (PO h2) ?_
           exact zA I P A ho (Ju.nil _ _ _) (Ju.nil _ _ _)
    ·rename_i hq;split at a
     ·cases a
     ·rename_i Q R;split at a
      ·cases a
      ·rename_i l hi T;split at a
       ·cases a
       ·rename_i xe Y;cases a;have ye:=D (J8 E.pw (s:=[91]) (by simpa using hq));have hj:=D (fun W (ha:PW W g S Q)=>xz Q l hi W T ha);have yf:=D R;have hk:=D Y;clear hq R T Y;go_upto_region 4 with fail;rw [←hf]at E ⊢;clear hf;generalize(M.alloc (Ab #[V Ad 0,Aa (str s),J none 0 0,J none 0 0,J none 0 0] 227))=w2 at*
        go_wp2_with fail;refine xk.mono ?_
        rintro e N ⟨rfl,rfl⟩;go_wp2_with fail;refine ye.mono ?_
        rintro e N ⟨rfl,rfl⟩;go_wp2_with fail;refine(Mh (E.pw.ext ((Ext.refl N).alloc _)) yf (b:=N.heap.size) (Aj N _) (by have:=E.lt;omega)).mono ?_
        rintro e F ⟨rfl,hn,hg⟩;have xy:=(Gl ((Ext.refl N).alloc _)).trans hg;have B:=D (E.step d A xy hn);clear hn hg xy;go_wp2_with fail;refine(hj F B.pw).mono ?_
        rintro e O ⟨⟨v,rfl,x5⟩,hr,hh⟩;obtain⟨x6,x7,rfl⟩:=JB x5;have C:=D (B.step d A hh hr);have x1:=D (Xh (X:=X) x5 B.lt);have xf:=bk C.x 0;have xg:=JF C.x 0;have xh:=bk C.x 2;have xi:=JF C.x 2;have he:=D ((C.set d P 0 (V Ad 5)).set d P 2 (J x6 l.length x7));have yg:=D (NI (i:=2) (u:=J x6 l.length x7) (NI (i:=0) (u:=V Ad 5) x1));clear hr hh x5;go_upto_region 11 with fail;generalize((O.setCell ⟨X,0,none⟩ (V Ad 5)).setCell ⟨X,2,none⟩ (J x6 l.length x7))=hd at*
        go_wp2_with fail;refine(Mh (he.pw.ext ((Ext.refl _).alloc _)) hk (b:=hd.heap.size) (Aj hd _) (by have:=he.lt;omega)).mono ?_
        rintro e xj ⟨rfl,Z,h0⟩;have H:=(Gl ((Ext.refl _).alloc _)).trans h0;have I:=D (he.step d A H Z);have ho:=D (OG yg d H);have hp:=D I.x;have h2:=D I.r;clear Z h0 H;go_wp2_with (first|refine Qx rfl AV rfl hp MH ?_|refine L8 rfl rfl rfl h2 MH ?_ (h1:=(Np (VH _ _ _ _ _ _ _ _ _ _ _))));refine K3 IU AV MH (PO h2) ?_
        exact zA I P A ho (Ju.nil _ _ _) (Ju.nil _ _ _)
end Go.Proofs.YtmkomefmgcpnbaaGreatDoor

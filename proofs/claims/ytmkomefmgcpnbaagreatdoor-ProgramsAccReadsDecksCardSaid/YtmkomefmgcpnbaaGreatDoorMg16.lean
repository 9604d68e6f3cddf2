import Derived.Test.YtmkomefmgcpnbaaGreatDoorMg15
set_option linter.all false
set_option maxHeartbeats 12800000
set_option maxRecDepth 100000
namespace Go.Proofs.YtmkomefmgcpnbaaGreatDoor
open Tryz Pg Go Go.Proofs Go.RowKit
open Go renaming Addr→Bi,Calls→As,Value→h,World→Y,maxLen→Bk
open Go.Act renaming put→Au
open Go.IntKind renaming i64→Ad
open Go.IntWalk renaming i64_in→AU
open Go.Lib renaming hid→D,idxOfS→Iz
open Go.Obj renaming cells→Ab
open Go.Operand renaming tmp→Eh
open Go.Proofs.Tryz renaming func146→DQ,ntmps146→DB,underlying287→Ax,underlying227→AV,underlying34→Bu
open Go.RowKit renaming Hid→AA
open Go.Value renaming agg→AN,int→V,map→Bj,pointer→Ae,slice→J,string→Aa,bool→AE
open _root_.List renaming append_assoc→AG,getElem?_eq_some_iff→Ao,length_append→M,length_map→AI,mem_of_getElem?→AD,length_take→BD,map_take→EG,map_append→Dv,mem_cons→AH,not_mem_nil→Ba,append_nil→BP,drop_eq_getElem_cons→AR,drop_length→Cu,getElem?_eq_getElem→Al,length→De,eq_nil_of_length_eq_zero→BZ,isEmpty_iff→CL,length_cons→Am,length_nil→Av,mem_cons_of_mem→DE,mem_cons_self→Bb,sizeOf_lt_of_mem→BQ,getD_eq_getElem?_getD→B0,getElem?_take→Dc,take_of_length_le→DN,take_succ_cons→DL
open _root_.Or renaming inl→AO,inr→AB
open _root_.Array renaming getElem?_eq_some_iff→Ag
open Go.Instr renaming slice→Hs
open Go.Result renaming ok→Ez
open _root_.Nat renaming zero_le→Dd,eq_of_beq_eq_true→Ap,le_of_lt→Ev,min_eq_left→CJ
open _root_.And renaming intro→Ct
open Go.Proofs renaming intOf→AX
open _root_.Bool renaming and_eq_true→Ah,eq_false_iff→AJ
open _root_.SizeOf renaming sizeOf→Aq
open Go.Ending renaming returned→Ak
open _root_.ByteArray renaming empty→Fh
theorem vg (p:JQ)(f:Pg.Fn)(W:Ph p f)(name:Bs)(E X i:Nat)(A C:Bs)(a b:Ex)(gl:KJ)(c:Cn)(U:Nat→Prop)(g:Option Nat)(lv:h)(w:Y)(l:Bs)(lb:Nat)(lp:List Bs)(u:CW c g l lb 0 lp lv w)(x:Lc (JI p f) c U g lv w)(SB SC:Option Bi)(nb Z h0 h2:Nat)(F H I:Nat)(L:Ju KE U w [a,b] (J (some ⟨F,H,none⟩) 2 I))(h3:XT p f c U a 0 lb A E)(h4:XT p f c U b (0+1) E C X)(N:JR name (p.globals.map KJ.name)=some i)(y:p.globals[i]?= some gl)(O:l.length+(A.length+(JS Nh gl.num).length+(JD [KL]).length+C.length+(JD [RU,Lf i]).length)≤1000000∧lb≤800000):
 As prog 146 #[Ae (some ⟨c.b,0,none⟩),AN #[V Ad 2,Aa (str name),J (some ⟨F,H,none⟩) 2 I,J SB nb Z,J SC h0 h2]] w (MB c g lv w (l++(A++((JS Nh gl.num)++((JD [KL])++(C++(JD [RU,Lf i])))))) X 0 lp):=by
 have h5:=D h3;have h6:=D h4;obtain⟨x3,n⟩:=JH A.length;obtain⟨x4,o⟩:=JH ((JS Nh gl.num).length);obtain⟨x5,r⟩:=JH ((JD [KL]).length);obtain⟨x6,s⟩:=JH C.length;obtain⟨x7,t⟩:=JH ((JD [RU,Lf i]).length);rw [←n,←o,←r,←s,←t]at O;have z:=D O;obtain⟨h7,x8,B,P⟩:=alw w (Ab #[V Ad 2,Aa (str name),J (some ⟨F,H,none⟩) 2 I,J SB nb Z,J SC h0 h2] 227);have h8:AA (¬CG c.b g lv w.heap.size):=D (fun q=>by have:=u.lt q;omega);have hk:=D x.nu;have d:=D (SS.start (u.ext B) (x.ext B));have x9:=bk P 0;have hl:=bk P 1;have hm:=bk P 2;obtain⟨xa,h9,hn,ha⟩:=KW (L.ext B) 0 (show [a,b][0]?= some a from rfl);have Q:=D h9;have ho:=D ha;have hp:=D (L.ext B);clear L h9 ha;obtain⟨R,S, -⟩:=x.gm;have hq:=D S;have hr:AA (vI ((JI p f).pr.globals.map KJ.name) (str name)=some (V Ad i)):=D (by unfold vI;rw [L6];show(JR name (p.globals.map KJ.name)).map _=_;rw [N];rfl);have hb:=lastIdx_lt N;obtain⟨hs,go,xb,xc,ht,hc, -, -⟩:=x.gG.elem y;injection ht with hd he hu
 have hf:=D hd;have hv:=D (show(JI p f).pr.globals[i]?= some gl from y);have xd:i<c.ng:=by rw [he];exact(Ao.1 y).1
 have xe:=W.gn gl (AD y);have xf:Ad.wrap (gl.num:Int)=(gl.num:Int):=AU _ (by omega);have xg:i≤9223372036854775807:=by unfold Bk at hc;have xh:(JI p f).pr.globals.length=p.globals.length:=rfl;rw [AI]at hb;omega
 have hw:AA ((c.xs lb 0 lv)[3]?= some (Bj (some R))):=D (by show some c.gm=_;rw [S]);clear S N y hb hc hd he hu W;clear u x O h3 h4;have xi:Stp 0:=⟨⟩;go_enter DQ,DB;go_wp2;refine M5 [] d (fun j=>?_)
 iterate 3 refine JC j ?_
 refine JP j (fun w m=>m.Kv hw) ?_
 refine JC j ?_
 refine JP j (fun w m=>m.cell hl h8) ?_
 refine JX.take (i:=6) (oi:={dst:=some 64,op:=_,type:=_,pos:=_,after:=_,guard:=_}) (v:=?vq1) rfl (by kernel_rfl) (by kernel_rfl) (by kernel_rfl) (by kernel_rfl) (fun _ _ _ u=>u) (AO ⟨by rfl,?ax⟩) j ?jJ
 case ax=>(intro w m;have q:=m;obtain⟨xj,h1,T⟩:=m.gm;rw [hq]at h1;injection h1 with h1;injection h1 with h1;subst h1;have T:MapAt KQ w R (vI (List.map KJ.name p.globals)):=T;refine QY Yu (Eh 61) (Eh 63) ?_ R _ T ?_ (str name) ?_ _ ?_<;>first|(rw [hr];first|done|rfl)|rfl)
 refine KM 7 j ?_
 try simp only [Au,pA,pB,pC]
 refine JV ?_
 have d:=D (d.ext ((Ext.refl h7).drew));have Q:=D (KE.upd Q (Gl (G:=fun _=>False) ((Ext.refl h7).drew)) (fun _ _ q=>q) (fun _ q=>q));go_wp2_with (first|(refine KV rfl Ax rfl ho hn ?_)|(go_at_call 192;refine(h5 _ _ _ _ _ _ _ _ _ _ d Q (by have:=z.out;simp only [M,←n,←o,←r,←s,←t];omega) rfl).mono ?_;clear d h5;rintro e hx ⟨rfl,xk,hy,d⟩));have hz:AA ((c.xs E 0 hy)[1]?= some (J (some ⟨hs,go,none⟩) c.ng c.gc)):=D (by show some (J c.GA c.ng c.gc)=_;rw [hf]);refine M5 [] d (fun j=>?_)
 iterate 7 refine JC j ?_
 refine JP j (fun w m=>m.Kv hz) ?_
 iterate 3 refine JC j ?_
 refine JP j (fun w m=>m.zm0 hf hv) ?_
 refine JC j ?_
 try simp only [Au,pA,pB,pC]
 refine JM (fun K k=>?_);go_simp;refine(Us (d.ext ((Ext.refl hx).drew)) Nh gl.num (by have:=z.out;simp only [M,←n,←o,←r,←s,←t];omega) (by omega) rfl rfl).mono ?_
 clear d;rintro e xl ⟨rfl,xm,d⟩;refine k _ _ ?_ (fun j=>?_)
 ·exact SX.of d
 clear k K
 try simp only [Au,pA,pB,pC]
 refine JV ?_
 go_wp2_with (first|(go_at_call 193;refine(kR d (by omega) (by have:=z.out;simp only [M,←n,←o,←r,←s,←t];omega)).mono ?_;clear d;rintro e xn ⟨rfl,xo,d⟩;obtain⟨xp,hg,x0,hh⟩:=KW (d.arg hk hp) 1 (show [a,b][1]?= some b from rfl);have x1:=D hg;have x2:=D hh;clear hg hh;have xq:=d.cell hm h8)|(refine KV rfl Ax rfl x2 x0 ?_)|(go_at_call 192;refine(h6 _ _ _ _ _ _ _ _ _ _ d x1 (by have:=z.out;simp only [M,←n,←o,←r,←s,←t];omega) rfl).mono ?_;clear d h6;rintro e hi ⟨rfl,xr,xt,d⟩));refine M5 [] d (fun j=>?_)
 iterate 4 refine JC j ?_
 try simp only [Au,pA,pB,pC]
 refine JM (fun K k=>?_);go_simp;refine(ak i _ (by omega) (d.cw.tab.ext ((Ext.refl hi).drew))).mono ?_
 rintro e xu ⟨rfl,hj⟩;have d:=D ((d.ext ((Ext.refl hi).drew)).ext hj);clear hj;refine k _ _ ?_ (fun j=>?_)
 ·exact SX.of d
 clear k K
 try simp only [Au,pA,pB,pC]
 refine JM (fun K k=>?_);go_simp;refine k _ _ ?_ (fun j=>?_)
 ·exact(SX.of d).ext ((Ext.refl _).alloc _)
 clear k K
 try simp only [Au,pA,pB,pC]
 refine JM (fun K k=>?_);go_simp;refine(TD d [RU,Lf i] (by have:=z.out;simp only [M,←n,←o,←r,←s,←t];omega) (by simp) (by simp) rfl rfl).mono ?_
 clear d;rintro e xv ⟨rfl,xw,d⟩;refine k _ _ ?_ (fun j=>?_)
 ·exact SX.of d
 clear k K
 try simp only [Au,pA,pB,pC]
 refine JV ?_
 have xx:=d;have xy:=d.cw.Kv (i:=8) rfl;have f10:=d.cw.QX 10;go_wp2_with fail;go_end0;have:=((d.p9 0 (v:=V Ad (0:Int)) rfl).fin).of (K9.ext B);simp only [AG]at this;exact this
theorem vk (p:JQ)(f:Pg.Fn)(h9:Ph p f)(name:Bs)(e:Bs)(c:Cn)(U:Nat→Prop)(g:Option Nat)(lv:h)(w:Y)(l:Bs)(lb:Nat)(lp:List Bs)(s:CW c g l lb 0 lp lv w)(t:Lc (JI p f) c U g lv w)(SB SC:Option Bi)(nb B C E:Nat)(F:Option Bi)(G H:Nat){z u:Int}{j:Nat}(W:z=9∧j=1∧u=1∨z=10∧j=2∧u=2)(hle:lp[lp.length - j]?= some e)(I:j≤lp.length)(v:l.length+((JD [MN,e]).length)≤1000000∧lb≤800000):
 As prog 146 #[Ae (some ⟨c.b,0,none⟩),AN #[V Ad z,Aa (str name),J F G H,J SB nb B,J SC C E]] w (MB c g lv w (l++(JD [MN,e])) lb 0 lp):=by
 obtain⟨ha,L⟩:=JH ((JD [MN,e]).length);rw [←L]at v;have X:=D v;obtain⟨N,hb,x,O⟩:=alw w (Ab #[V Ad z,Aa (str name),J F G H,J SB nb B,J SC C E] 227);have hc:AA (¬CG c.b g lv w.heap.size):=D (fun q=>by have:=s.lt q;omega);have hd:=D t.nu;have i:=D (SS.start (s.ext x) (t.ext x));have he:=bk O 0;have P:=bk O 1;obtain⟨hf,cap,Q,Z,h0,h1,y⟩:=NQ s.lo;obtain⟨h2,h3, -⟩:=y _ _ (RV hle);subst h3;obtain⟨k,o,h4⟩:∃ k o,h2=(⟨k,o,none⟩:Bi):=by
  obtain⟨P,h5,A⟩:=y.base (by rw [Jw,AI];omega);injection A with A
  exact⟨P,h5,A⟩
 subst h4;obtain⟨n,R⟩:=JH lp.length;rw [←R]at Q hle I Z;subst Q;have hg:n≤9223372036854775807:=by unfold Bk at h0;omega
 have S:AA ((c.xs lb 0 (J (some ⟨k,o,none⟩) n cap))[9]?= some (J (some ⟨k,o,none⟩) n cap)):=D rfl;obtain⟨m,T⟩:=JH (n - j);rw [←T]at hle;have hh:m<n:=by omega
 have hi:Ad.wrap ((n:Int) - u)=(m:Int):=by rw [AU _ (by omega)];omega
 have h6:=D hle;have h7:AA ((⟨k,o,none⟩:Bi).add m=⟨k,o+m,none⟩):=D (MW _ _ _);clear hle y h1 R T I;clear s t v;rcases W with⟨rfl,rfl,rfl⟩|⟨rfl,rfl,rfl⟩
 all_goals
  have hj:Stp 0:=⟨⟩;go_enter DQ,DB;go_wp2;have h8:=D (i.ext ((Ext.refl N).drew));refine M5 [] i (fun a=>?_)
  iterate 6 refine JC a ?_
  refine JP a (fun w r=>r.Kv S) ?_
  iterate 3 refine JC a ?_
  refine JP a (fun w r=>r.Kv S) ?_
  try simp only [Au,pA,pB,pC]
  refine JM (fun K d=>?_);go_simp;refine d _ _ ?_ (fun a=>?_)
  ·trivial
  clear d K
  try simp only [Au,pA,pB,pC]
  iterate 2 refine JC a ?_
  refine JC a ?_ (hy:=by(intro w r;have q:=r.yc8 h6.out;rw [h7.out]at q;go_simp;(try with_reducible rfl)))
  try simp only [Au,pA,pB,pC]
  refine JM (fun K d=>?_);go_simp;refine d _ _ ?_ (fun a=>?_)
  ·exact(SX.of i).ext (Ext.drew ((Ext.refl N).alloc _))
  clear d K
  try simp only [Au,pA,pB,pC]
  refine JM (fun K d=>?_);go_simp;refine(TD h8 [MN,e] (by have:=X.out;simp only [M,←L];omega) (by simp) (by simp) rfl rfl).mono ?_
  clear i;rintro e hk ⟨rfl,hl,i⟩;refine d _ _ ?_ (fun a=>?_)
  ·exact SX.of i
  clear d K
  try simp only [Au,pA,pB,pC]
  refine JV ?_
  go_wp2_with fail;go_end0;have:=(i.fin).of (K9.ext x);exact this
def BT (p:JQ)(f:Pg.Fn)(c:Cn)(U:Nat→Prop)(x:List Sm)(lb:Nat)(lp:List Bs)(A:Bs)(lb':Nat):Prop:=
 ∀(g0 g:Option Nat) (a lv:h) (w0 w:Y) (l:Bs) (v:h),SS (JI p f) c U g0 a w0 g lv l lb 0 lp w→Ju KS U w x v→l.length+A.length≤1000000→
  As prog 106 #[Ae (some ⟨c.b,0,none⟩),v] w (SR (JI p f) c U g0 a w0 (l++A) lb' 0 lp)
theorem zT2 (p:JQ)(f:Pg.Fn)(hg:Ph p f)(name:Bs)(h3 h4:Nat)(A K:Bs)(a:Ex)(h5:List Sm)(c:Cn)(U:Nat→Prop)(g:Option Nat)(lv:h)(w:Y)(l:Bs)(lb:Nat)(lp:List Bs)(R:CW c g l lb 0 lp lv w)(S:Lc (JI p f) c U g lv w)(SB SC:Option Bi)(nb T W h6:Nat)(X Z h0:Nat)(h1:Ju KE U w [a] (J (some ⟨X,Z,none⟩) 1 h0))(h7:XT p f c U a 0 (lb+1) A h3)(h8:BT p f c U h5 h3 lp K h4)(h9:Ju KS U w h5 (J SB nb T))(hh:((W:Int)==0)=true)(h2:l.length+(A.length+(JD [Kb,JL (lb+1)]).length+K.length+(JU (JL (lb+1))).length)≤1000000∧lb≤800000):
 As prog 194 #[Ae (some ⟨c.b,0,none⟩),AN #[V Ad 3,Aa (str name),J (some ⟨X,Z,none⟩) 1 h0,J SB nb T,J SC W h6]] w (MB c g lv w (l++(A++((JD [Kb,JL (lb+1)])++(K++(JU (JL (lb+1))))))) h4 0 lp):=by
 have ha:=D h7;obtain⟨hi,v⟩:=JH A.length;obtain⟨hj,x⟩:=JH ((JD [Kb,JL (lb+1)]).length);obtain⟨hk,y⟩:=JH K.length;obtain⟨hl,z⟩:=JH ((JU (JL (lb+1))).length);rw [←v,←x,←y,←z]at h2;have B:=D h2;obtain⟨hm,hn,o,C⟩:=alw w (Ab #[V Ad 3,Aa (str name),J (some ⟨X,Z,none⟩) 1 h0,J SB nb T,J SC W h6] 227);have i:AA (¬CG c.b g lv w.heap.size):=D (fun q=>by have:=R.lt q;omega);have r:=D S.nu;have d:=D (SS.start (R.ext o) (S.ext o));have ho:=bk C 0;have hp:=bk C 1;have E:=bk C 2;have F:=bk C 3;have G:=bk C 4;obtain⟨H,hb,s,hc⟩:=KW (h1.ext o) 0 (show [a][0]?= some a from rfl);have t:=D hb;have u:=D hc;have I:=D (h1.ext o);clear h1 hb hc;have hd:=D h8;have he:=D (h9.ext o);clear h8 h9;clear R S h2 h7;have j:Stp 0:=⟨⟩;go_enter func194,ntmps194;go_wp2_with (first|(refine KV rfl Ax rfl u s ?_)|(go_at_call 235;have n:Stp 0:=j;refine(kQ d (by have:=B.out;omega)).mono ?_;clear d;rintro e L ⟨rfl,N,d⟩;clear j n;have j:Stp 1:=⟨⟩;have O:=d.cell E i;have P:=d.cell F i;have Q:=d.cell G i;obtain⟨H,k,s,m⟩:=KW (d.arg r I) 0 (show [a][0]?= some a from rfl);have t:=D k;have u:=D m;clear k m)|(go_at_call 192;have n:Stp 1:=j;refine(ha _ _ _ _ _ _ _ _ _ _ d t (by have:=B.out;simp only [M,←v,←x,←y,←z];omega) rfl).mono ?_;clear d ha;rintro e L ⟨rfl,N,hf,d⟩;clear j n;have j:Stp 2:=⟨⟩;have O:=d.cell E i;have P:=d.cell F i;have Q:=d.cell G i;obtain⟨H,k,s,m⟩:=KW (d.arg r I) 0 (show [a][0]?= some a from rfl);have t:=D k;have u:=D m;clear k m)|(go_at_call 57;have n:Stp 2:=j;refine(TD d [Kb,JL (lb+1)] (by have:=B.out;simp only [M,←v,←x,←y,←z];omega) (by simp) (by simp) rfl rfl).mono ?_;clear d;rintro e L ⟨rfl,N,d⟩;clear j n;have j:Stp 3:=⟨⟩;have O:=d.cell E i;have P:=d.cell F i;have Q:=d.cell G i;obtain⟨H,k,s,m⟩:=KW (d.arg r I) 0 (show [a][0]?= some a from rfl);have t:=D k;have u:=D m;clear k m)|(go_at_call 106;have n:Stp 3:=j;refine(hd _ _ _ _ _ _ _ _ d (d.arg r he) (by have:=B.out;simp only [M,←v,←x,←y,←z];omega)).mono ?_;clear d;rintro e L ⟨rfl,N,hf,d⟩;clear j n;have j:Stp 4:=⟨⟩;have O:=d.cell E i;have P:=d.cell F i;have Q:=d.cell G i;obtain⟨H,k,s,m⟩:=KW (d.arg r I) 0 (show [a][0]?= some a from rfl);have t:=D k;have u:=D m;clear k m)|(go_at_call 62;have n:Stp 4:=j;refine(VK d (JL (lb+1)) (by have:=B.out;simp only [M,←v,←x,←y,←z];omega) rfl).mono ?_;clear d;rintro e L ⟨rfl,N,d⟩;clear j n;have j:Stp 5:=⟨⟩;have O:=d.cell E i;have P:=d.cell F i;have Q:=d.cell G i;obtain⟨H,k,s,m⟩:=KW (d.arg r I) 0 (show [a][0]?= some a from rfl);have t:=D k;have u:=D m;clear k m));go_end0;have:=(d.fin).of (K9.ext o);simp only [AG]at this;exact this
theorem zT3 (p:JQ)(f:Pg.Fn)(hq:Ph p f)(name:Bs)(h9 o ha:Nat)(A W X:Bs)(a:Ex)(hb hc:List Sm)(c:Cn)(U:Nat→Prop)(g:Option Nat)(lv:h)(w:Y)(l:Bs)(lb:Nat)(lp:List Bs)(h0:CW c g l lb 0 lp lv w)(h1:Lc (JI p f) c U g lv w)(SB SC:Option Bi)(nb h2 Z h3:Nat)(h4 h5 h6:Nat)(h7:Ju KE U w [a] (J (some ⟨h4,h5,none⟩) 1 h6))(hd:XT p f c U a 0 (lb+1) A h9)(he:BT p f c U hb h9 lp W o)(hf:BT p f c U hc (o+1) lp X ha)(hg:Ju KS U w hb (J SB nb h2))(hh:Ju KS U w hc (J SC Z h3))(hr:((Z:Int)==0)=false)(hs:o≤900000)(h8:l.length+(A.length+(JD [Kb,JL (lb+1)]).length+W.length+(JD [MN,JL (o+1)]).length+(JU (JL (lb+1))).length+X.length+(JU (JL (o+1))).length)≤1000000∧lb≤800000):
 As prog 194 #[Ae (some ⟨c.b,0,none⟩),AN #[V Ad 3,Aa (str name),J (some ⟨h4,h5,none⟩) 1 h6,J SB nb h2,J SC Z h3]] w (MB c g lv w (l++(A++((JD [Kb,JL (lb+1)])++(W++((JD [MN,JL (o+1)])++((JU (JL (lb+1)))++(X++(JU (JL (o+1)))))))))) ha 0 lp):=by
 have hi:=D hd;obtain⟨ht,E⟩:=JH A.length;obtain⟨hu,F⟩:=JH ((JD [Kb,JL (lb+1)]).length);obtain⟨hv,G⟩:=JH W.length;obtain⟨hw,H⟩:=JH ((JD [MN,JL (o+1)]).length);obtain⟨hx,I⟩:=JH ((JU (JL (lb+1))).length);obtain⟨hy,K⟩:=JH X.length;obtain⟨hz,L⟩:=JH ((JU (JL (o+1))).length);rw [←E,←F,←G,←H,←I,←K,←L]at h8;have v:=D h8;obtain⟨x0,x1,S,T⟩:=alw w (Ab #[V Ad 3,Aa (str name),J (some ⟨h4,h5,none⟩) 1 h6,J SB nb h2,J SC Z h3] 227);have i:AA (¬CG c.b g lv w.heap.size):=D (fun q=>by have:=h0.lt q;omega);have r:=D h1.nu;have d:=D (SS.start (h0.ext S) (h1.ext S));have x2:=bk T 0;have x3:=bk T 1;have x:=bk T 2;have y:=bk T 3;have z:=bk T 4;obtain⟨B,hj,s,hk⟩:=KW (h7.ext S) 0 (show [a][0]?= some a from rfl);have t:=D hj;have u:=D hk;have C:=D (h7.ext S);clear h7 hj hk;have hm:=D he;have hn:=D (hg.ext S);clear he hg;have ho:=D hf;have hp:=D (hh.ext S);clear hf hh;clear h0 h1 h8 hd;have j:Stp 0:=⟨⟩;go_enter func194,ntmps194;go_wp2_with (first|(refine KV rfl Ax rfl u s ?_)|(go_at_call 235;have n:Stp 0:=j;refine(kQ d (by have:=v.out;omega)).mono ?_;clear d;rintro e N ⟨rfl,O,d⟩;clear j n;have j:Stp 1:=⟨⟩;have P:=d.cell x i;have Q:=d.cell y i;have R:=d.cell z i;obtain⟨B,k,s,m⟩:=KW (d.arg r C) 0 (show [a][0]?= some a from rfl);have t:=D k;have u:=D m;clear k m)|(go_at_call 192;have n:Stp 1:=j;refine(hi _ _ _ _ _ _ _ _ _ _ d t (by have:=v.out;simp only [M,←E,←F,←G,←H,←I,←K,←L];omega) rfl).mono ?_;clear d hi;rintro e N ⟨rfl,O,hl,d⟩;clear j n;have j:Stp 2:=⟨⟩;have P:=d.cell x i;have Q:=d.cell y i;have R:=d.cell z i;obtain⟨B,k,s,m⟩:=KW (d.arg r C) 0 (show [a][0]?= some a from rfl);have t:=D k;have u:=D m;clear k m)|(go_at_call 57;have n:Stp 2:=j;refine(TD d [Kb,JL (lb+1)] (by have:=v.out;simp only [M,←E,←F,←G,←H,←I,←K,←L];omega) (by simp) (by simp) rfl rfl).mono ?_;clear d;rintro e N ⟨rfl,O,d⟩;clear j n;have j:Stp 3:=⟨⟩;have P:=d.cell x i;have Q:=d.cell y i;have R:=d.cell z i;obtain⟨B,k,s,m⟩:=KW (d.arg r C) 0 (show [a][0]?= some a from rfl);have t:=D k;have u:=D m;clear k m)|(go_at_call 106;have n:Stp 3:=j;refine(hm _ _ _ _ _ _ _ _ d (d.arg r hn) (by have:=v.out;simp only [M,←E,←F,←G,←H,←I,←K,←L];omega)).mono ?_;clear d;rintro e N ⟨rfl,O,hl,d⟩;clear j n;have j:Stp 4:=⟨⟩;have P:=d.cell x i;have Q:=d.cell y i;have R:=d.cell z i;obtain⟨B,k,s,m⟩:=KW (d.arg r C) 0 (show [a][0]?= some a from rfl);have t:=D k;have u:=D m;clear k m)|(go_at_call 235;have n:Stp 4:=j;refine(kQ d (by have:=v.out;omega)).mono ?_;clear d;rintro e N ⟨rfl,O,d⟩;clear j n;have j:Stp 5:=⟨⟩;have P:=d.cell x i;have Q:=d.cell y i;have R:=d.cell z i;obtain⟨B,k,s,m⟩:=KW (d.arg r C) 0 (show [a][0]?= some a from rfl);have t:=D k;have u:=D m;clear k m)|(go_at_call 57;have n:Stp 5:=j;refine(TD d [MN,JL (o+1)] (by have:=v.out;simp only [M,←E,←F,←G,←H,←I,←K,←L];omega) (by simp) (by simp) rfl rfl).mono ?_;clear d;rintro e N ⟨rfl,O,d⟩;clear j n;have j:Stp 6:=⟨⟩;have P:=d.cell x i;have Q:=d.cell y i;have R:=d.cell z i;obtain⟨B,k,s,m⟩:=KW (d.arg r C) 0 (show [a][0]?= some a from rfl);have t:=D k;have u:=D m;clear k m)|(go_at_call 62;have n:Stp 6:=j;refine(VK d (JL (lb+1)) (by have:=v.out;simp only [M,←E,←F,←G,←H,←I,←K,←L];omega) rfl).mono ?_;clear d;rintro e N ⟨rfl,O,d⟩;clear j n;have j:Stp 7:=⟨⟩;have P:=d.cell x i;have Q:=d.cell y i;have R:=d.cell z i;obtain⟨B,k,s,m⟩:=KW (d.arg r C) 0 (show [a][0]?= some a from rfl);have t:=D k;have u:=D m;clear k m)|(go_at_call 106;have n:Stp 7:=j;refine(ho _ _ _ _ _ _ _ _ d (d.arg r hp) (by have:=v.out;simp only [M,←E,←F,←G,←H,←I,←K,←L];omega)).mono ?_;clear d;rintro e N ⟨rfl,O,hl,d⟩;clear j n;have j:Stp 8:=⟨⟩;have P:=d.cell x i;have Q:=d.cell y i;have R:=d.cell z i;obtain⟨B,k,s,m⟩:=KW (d.arg r C) 0 (show [a][0]?= some a from rfl);have t:=D k;have u:=D m;clear k m)|(go_at_call 62;have n:Stp 8:=j;refine(VK d (JL (o+1)) (by have:=v.out;simp only [M,←E,←F,←G,←H,←I,←K,←L];omega) rfl).mono ?_;clear d;rintro e N ⟨rfl,O,d⟩;clear j n;have j:Stp 9:=⟨⟩;have P:=d.cell x i;have Q:=d.cell y i;have R:=d.cell z i;obtain⟨B,k,s,m⟩:=KW (d.arg r C) 0 (show [a][0]?= some a from rfl);have t:=D k;have u:=D m;clear k m));go_end0;have:=(d.fin).of (K9.ext S);simp only [AG]at this;exact this
theorem vv (p:JQ)(f:Pg.Fn)(A:Ph p f)(name s:Bs)(t:Nat)(c:Cn)(U:Nat→Prop)(g:Option Nat)(lv:h)(w:Y)(l:Bs)(lb wt:Nat)(lp:List Bs)(d:CW c g l lb wt lp lv w)(i:Lc (JI p f) c U g lv w)(j SB SC:Option Bi)(k m nb n o r:Nat)(u:∀ W,Ext w W→As prog 194 #[Ae (some ⟨c.b,0,none⟩),AN #[V Ad 3,Aa (str name),J j k m,J SB nb n,J SC o r]] W (MB c g lv W (l++s) t wt lp)):
 As prog 146 #[Ae (some ⟨c.b,0,none⟩),AN #[V Ad 3,Aa (str name),J j k m,J SB nb n,J SC o r]] w (MB c g lv w (l++s) t wt lp):=by
 obtain⟨x,B,a,v⟩:=alw w (Ab #[V Ad 3,Aa (str name),J j k m,J SB nb n,J SC o r] 227);have C:AA (¬CG c.b g lv w.heap.size):=D (fun q=>by have:=d.lt q;omega);have E:=D i.nu;have F:=D (SS.start (d.ext a) (i.ext a));have G:=bk v 0;have y:=D (u x a);clear d i u;go_enter DQ,DB;go_wp2_with (first|refine LH rfl AV rfl v MH ?_|(go_at_call 194;refine y.mono ?_;rintro e H ⟨rfl,z⟩));go_end0;exact MB.of ⟨rfl,z⟩ (K9.ext a)
theorem vw (p:JQ)(f:Pg.Fn)(A:Ph p f)(name s:Bs)(t:Nat)(c:Cn)(U:Nat→Prop)(g:Option Nat)(lv:h)(w:Y)(l:Bs)(lb wt:Nat)(lp:List Bs)(d:CW c g l lb wt lp lv w)(i:Lc (JI p f) c U g lv w)(j SB SC:Option Bi)(k m nb n o r:Nat)(u:∀ W,Ext w W→As prog 195 #[Ae (some ⟨c.b,0,none⟩),AN #[V Ad 4,Aa (str name),J j k m,J SB nb n,J SC o r]] W (MB c g lv W (l++s) t wt lp)):
 As prog 146 #[Ae (some ⟨c.b,0,none⟩),AN #[V Ad 4,Aa (str name),J j k m,J SB nb n,J SC o r]] w (MB c g lv w (l++s) t wt lp):=by
 obtain⟨x,B,a,v⟩:=alw w (Ab #[V Ad 4,Aa (str name),J j k m,J SB nb n,J SC o r] 227);have C:AA (¬CG c.b g lv w.heap.size):=D (fun q=>by have:=d.lt q;omega);have E:=D i.nu;have F:=D (SS.start (d.ext a) (i.ext a));have G:=bk v 0;have y:=D (u x a);clear d i u;go_enter DQ,DB;go_wp2_with (first|refine LH rfl AV rfl v MH ?_|(go_at_call 195;refine y.mono ?_;rintro e H ⟨rfl,z⟩));go_end0;exact MB.of ⟨rfl,z⟩ (K9.ext a)
section
variable {E:Ke}{c:Cn}{U:Nat→Prop}{g0 g:Option Nat}{Ld lv:h}{w0 W:Y}{l:Bs}{lb wt:Nat}{lp:List Bs}
theorem SS.app (m:SS E c U g0 Ld w0 g lv l lb wt lp W){i f:Y}(x:Ext W i){d:h}{more:List Bs}(n:f.ownsRow 0 9 1 d (lp++more).length (Jw (lp++more)))(o:i.grownBy f lv.ownBlock)(j:d.ownBlock=lv.ownBlock∨d.ownBlock=some i.heap.size):
 SS E c U g0 Ld w0 g d l lb wt (lp++more) (f.setCell ⟨c.b,11,none⟩ d):=by
 have h1:=m.cw.ext x;have r:JK (fun k=>lv.ownBlock=some k) i f:=(JK.refl i).grown o (fun k a=>AB a);have s:d.ownBlock≠some c.b:=by
  rcases j with q|q
  ·rw [q];exact h1.nb
  ·rw [q];intro e;injection e with e;have:=h1.lt (AO rfl);omega
 have w:∀ k,g=some k→d.ownBlock≠some k:=fun k a=>by
  rcases j with q|q
  ·rw [q];exact h1.ng k a
  ·rw [q];intro e;injection e with e;have:=h1.lt (AB (AO a));omega
 have y:EB 130 c.b g l (c.xs lb wt lv) f:=h1.eb.upd r h1.nb (fun k a=>h1.ng k a);have t:=y.Xr 9 d;have u:JK (fun k=>k=c.b) f (f.setCell ⟨c.b,11,none⟩ d):=JK.setCell (G:=fun k=>k=c.b) (p:=⟨c.b,11,none⟩) (JK.refl f) (AB rfl) d;have z:Mg f:=h1.tab.upd r (fun k a=>h1.zx k a);have A:∀ k,d.ownBlock=some k→13≤k:=fun k a=>by
  rcases j with q|q
  ·exact h1.zx k (by rw [←q];exact a)
  ·rw [q]at a;cases a;exact h1.tab.lt
 have B:CW c g l lb wt (lp++more) d (f.setCell ⟨c.b,11,none⟩ d):=by
  refine⟨?_,KX n (fun k a=>u.block k (Kc n a).2 (fun q=>s (by rw [a,q]))),s,w,z.upd u (fun k a=>by rw [a];exact h1.b13),h1.b13,h1.g13,A⟩;have C:(c.xs lb wt lv).set 9 d=c.xs lb wt d:=rfl;rw [C]at t;exact t
 have v:K9 c.b g lv W g d (f.setCell ⟨c.b,11,none⟩ d):=by
  refine⟨(((Gl (G:=CG c.b g lv) x).grown o (fun k a=>AB (AB (AB a)))).setCell (p:=⟨c.b,11,none⟩) (AB (AO rfl)) _),AO rfl,?_⟩;rcases j with q|q
  ·exact AO q
  ·exact AB ⟨_,q,x.size⟩
 exact⟨B,m.rl.trans v,m.env.rel v⟩
theorem zT4 {w:Y}{b:Nat}{v:h}{A:Option Bi}{n m cap:Nat}{xs:List h}(a:w.ownsRow b 9 1 v n xs)(c:v=J A n cap)(p:0<n)(q:m≤n):w.ownsRow b 9 1 (J A m cap) m (xs.take m)∧(J A m cap).ownBlock=v.ownBlock:=by
 subst c;have r:xs.length=n:=by simpa using a.1
 rcases a.2 with⟨_,s⟩|⟨g,t,cur,d,e,f,u,i,j,k⟩
 ·omega
 ·injection d with l x o
  subst l o;refine⟨⟨by rw [BD];simp;omega,AB ⟨g,cap,cur,rfl,e,f,by omega,i,j,?_⟩⟩,rfl⟩;rw [←k,List.take_take];congr 1;omega
theorem SS.cut {more:List Bs}(a:SS E c U g0 Ld w0 g lv l lb wt (lp++more) W){A:Option Bi}{n cap:Nat}(o:lv=J A n cap)(u:0<n):
 SS E c U g0 Ld w0 g (J A lp.length cap) l lb wt lp (W.setCell ⟨c.b,11,none⟩ (J A lp.length cap)):=by
 have h:=a.cw.lo;have r:(lp++more).length=n:=by
  obtain⟨y,z,e,_⟩:=NQ h;rw [o]at e;injection e with _ v _
  exact v.symm
 rw [r]at h;obtain⟨i,f⟩:=zT4 h o u (m:=lp.length) (by rw [←r,M];omega);rw [show(Jw (lp++more)).take lp.length=Jw lp from by unfold Jw;rw [←EG,List.take_left'];rfl]at i;have j:JK (fun k=>k=c.b) W (W.setCell ⟨c.b,11,none⟩ (J A lp.length cap)):=JK.setCell (G:=fun k=>k=c.b) (p:=⟨c.b,11,none⟩) (JK.refl W) (AB rfl) _;have s:=a.cw.eb.Xr 9 (J A lp.length cap);have w:CW c g l lb wt lp (J A lp.length cap) (W.setCell ⟨c.b,11,none⟩ (J A lp.length cap)):=by
  refine⟨?_,KX i (fun k d=>j.block k (Kc i d).2 (fun q=>a.cw.nb (by rw [←f,d,q]))),by rw [f];exact a.cw.nb,fun k d=>by rw [f];exact a.cw.ng k d,a.cw.tab.upd j (fun k d=>by rw [d];exact a.cw.b13),a.cw.b13,a.cw.g13,fun k d=>a.cw.zx k (by rw [←f];exact d)⟩;have x:(c.xs lb wt lv).set 9 (J A lp.length cap)=c.xs lb wt (J A lp.length cap):=rfl;rw [x]at s;exact s
 have t:K9 c.b g lv W g (J A lp.length cap) (W.setCell ⟨c.b,11,none⟩ (J A lp.length cap)):=⟨j.mono (fun k _ q=>AO q),AO rfl,AO f⟩;exact⟨w,a.rl.trans t,a.env.rel t⟩
end
theorem SS.zm5 {k:Ke}{c:Cn}{U:Nat→Prop}{g0 g:Option Nat}{m lv:h}{w0 W d a:Y}{l:Bs}{lb wt:Nat}{lp:List Bs}(f:SS k c U g0 m w0 g lv l lb wt lp W)(x:Ext W d)(n:d.grownBy a lv.ownBlock):a.cell? ⟨c.b,11,none⟩=some lv∧a.frozen? ⟨c.b,11,none⟩=false:=by
 obtain⟨p,u,i⟩:=(f.cw.ext x).row;have j:a.heap[c.b]?= some (Ab (p::u::c.xs lb wt lv).toArray 130 (0,0)):=by
  rw [n.block c.b (Ag.1 i).1 (fun e=>f.cw.nb e.symm)];exact i
 exact⟨JA j 11,JF j 11⟩
theorem zA4 (p:JQ)(f:Pg.Fn)(xo:Ph p f)(name:Bs)(ho h9:Nat)(A h7:Bs)(a:Ex)(hp:List Sm)(c:Cn)(U:Nat→Prop)(g:Option Nat)(lv:h)(w:Y)(l:Bs)(lb:Nat)(lp:List Bs)(h8:CW c g l lb 0 lp lv w)(ha:Lc (JI p f) c U g lv w)(SB SC:Option Bi)(nb hb hq hr:Nat)(hc hd he:Nat)(hf:Ju KE U w [a] (J (some ⟨hc,hd,none⟩) 1 he))(hs:XT p f c U a 0 (lb+1+1) A ho)(ht:BT p f c U hp ho (lp++[(JL (lb+1)),(JL (lb+1+1))]) h7 h9)(hu:Ju KS U w hp (J SB nb hb))(xd:lp.length≤100000)(hg:l.length+((JU (JL (lb+1))).length+A.length+(JD [Kb,JL (lb+1+1)]).length+h7.length+(JD [MN,JL (lb+1)]).length+(JU (JL (lb+1+1))).length)≤1000000∧lb≤800000):
 As prog 195 #[Ae (some ⟨c.b,0,none⟩),AN #[V Ad 4,Aa (str name),J (some ⟨hc,hd,none⟩) 1 he,J SB nb hb,J SC hq hr]] w (MB c g lv w (l++((JU (JL (lb+1)))++(A++((JD [Kb,JL (lb+1+1)])++(h7++((JD [MN,JL (lb+1)])++(JU (JL (lb+1+1))))))))) h9 0 lp):=by
 have hv:=D hs;obtain⟨xp,x⟩:=JH ((JU (JL (lb+1))).length);obtain⟨xq,y⟩:=JH A.length;obtain⟨xr,z⟩:=JH ((JD [Kb,JL (lb+1+1)]).length);obtain⟨xt,B⟩:=JH h7.length;obtain⟨xu,C⟩:=JH ((JD [MN,JL (lb+1)]).length);obtain⟨xv,E⟩:=JH ((JU (JL (lb+1+1))).length);rw [←x,←y,←z,←B,←C,←E]at hg;have v:=D hg;obtain⟨hw,xw,P,h0⟩:=alw w (Ab #[V Ad 4,Aa (str name),J (some ⟨hc,hd,none⟩) 1 he,J SB nb hb,J SC hq hr] 227);have j:AA (¬CG c.b g lv w.heap.size):=D (fun q=>by have:=h8.lt q;omega);have F:=D ha.nu;have d:=D (SS.start (h8.ext P) (ha.ext P));have xx:=bk h0 0;have xy:=bk h0 1;have Q:=bk h0 2;have R:=bk h0 3;have S:=bk h0 4;obtain⟨T,hx,G,hy⟩:=KW (hf.ext P) 0 (show [a][0]?= some a from rfl);have H:=D hx;have I:=D hy;have X:=D (hf.ext P);clear hf hx hy;have xe:=D ht;have xf:=D (hu.ext P);obtain⟨hz,x0,x1,x2,x3⟩:=info_parts R6;have x4:=D x0;have xg:=D x1;have xh:=D x2;have xi:=D x3;obtain⟨hh,hi,x5, -⟩:=NQ h8.lo;obtain⟨n,hj⟩:=JH lp.length;have h1:=D hj;rw [←hj]at x5 xd;subst x5;clear ht hu x0 x1 x2 x3 hj;clear h8 ha hg hs;have k:Stp 0:=⟨⟩;go_enter func195,ntmps195;go_wp2;refine JX.go (fun W=>∃ xj,SX (JI p f) c U g (J hh n hi) hw (J hh n hi) xj 0 lp W) [] (⟨_,(SX.of d).ext ((Ext.refl _).drew)⟩) (fun s=>?_)
 iterate 3 refine JC s ?_
 refine KM 4 s ?_
 refine KM 5 s ?_
 refine KM 6 s ?_
 try simp only [Au,pA,pB,pC]
 refine JX.rd 3 (fun K m=>?_);go_simp;refine(kQ (d.ext ((Ext.refl hw).drew)) (by have:=v.out;omega)).mono ?_
 clear d;rintro e L ⟨rfl,Z,d⟩;refine m _ _ ?_ (fun s=>?_)
 ·exact⟨_,SX.of d⟩
 clear m K
 try simp only [Au,pA,pB,pC]
 refine JM (fun K m=>?_);go_simp;refine(kQ d (by have:=v.out;omega)).mono ?_
 clear d;rintro e N ⟨rfl,xz,d⟩;refine m _ _ ?_ (fun s=>?_)
 ·exact⟨_,SX.of d⟩
 clear m K
 try simp only [Au,pA,pB,pC]
 iterate 2 refine JC s ?_
 try simp only [Au,pA,pB,pC]
 refine JV ?_
 have xk:=d.cw.Kv (i:=9) rfl;have x6:AA (Ol (N.alloc (Ab #[Aa (str (JL (lb+1))),Aa (str (JL (lb+1+1)))] 9)) (some ⟨N.heap.size,0,none⟩) [Aa (str (JL (lb+1))),Aa (str (JL (lb+1+1)))]):=D (RJ (W:=N) (e:=9) rfl [Aa (str (JL (lb+1))),Aa (str (JL (lb+1+1)))]);have x7:AA ((N.alloc (Ab #[Aa (str (JL (lb+1))),Aa (str (JL (lb+1+1)))] 9)).ownsRow 0 9 1 (J hh n hi) n (Jw lp)):=D (by have:=(d.ext ((Ext.refl N).alloc (Ab #[Aa (str (JL (lb+1))),Aa (str (JL (lb+1+1)))] 9))).cw.lo;rw [←h1]at this;exact this);go_wp2_with (at_builtin;refine Lp rfl _ _ 34 rfl 0 9 hz (Aa ⟨#[]⟩) 1 16 Bu x4 xg xh xi rfl (by decide) _ n (Jw lp) rfl x7 _ 2 2 [Aa (str (JL (lb+1))),Aa (str (JL (lb+1+1)))] rfl x6 rfl (by intro u x8;simp only [AH,Ba,or_false]at x8;rcases x8 with rfl|rfl<;>rfl) (by unfold Bk;omega) (by omega) (Dd _) ?_;intro y0 y1 hk hl x9;obtain⟨y2,f11⟩:=d.zm5 ((Ext.refl N).alloc (Ab #[Aa (str (JL (lb+1))),Aa (str (JL (lb+1+1)))] 9)) hl;have xa:=D (d.app (more:=[(JL (lb+1)),(JL (lb+1+1))]) ((Ext.refl N).alloc (Ab #[Aa (str (JL (lb+1))),Aa (str (JL (lb+1+1)))] 9)) (by rw [M,←h1];unfold Jw;rw [Dv];exact hk) hl x9);obtain⟨y3,y4,rfl, -, -, -, -⟩:=NQ hk;clear hk hl x9);clear d x6 x7;have d:=xa;clear xa;have h2:=d.cell Q j;have h3:=d.cell R j;have h4:=d.cell S j;obtain⟨T,o,G,r⟩:=KW (d.arg F X) 0 (show [a][0]?= some a from rfl);have H:=D o;have I:=D r;clear o r;go_wp2_with (first|(refine KV rfl Ax rfl I G ?_)|(go_at_call 62;have t:Stp 0:=k;refine(VK d (JL (lb+1)) (by have:=v.out;simp only [M,←x,←y,←z,←B,←C,←E];omega) rfl).mono ?_;clear d;rintro e L ⟨rfl,Z,d⟩;clear k t;have k:Stp 1:=⟨⟩;have h2:=d.cell Q j;have h3:=d.cell R j;have h4:=d.cell S j;obtain⟨T,o,G,r⟩:=KW (d.arg F X) 0 (show [a][0]?= some a from rfl);have H:=D o;have I:=D r;clear o r)|(go_at_call 192;have t:Stp 1:=k;refine(hv _ _ _ _ _ _ _ _ _ _ d H (by have:=v.out;simp only [M,←x,←y,←z,←B,←C,←E];omega) rfl).mono ?_;clear d hv;rintro e L ⟨rfl,Z,xl,d⟩;clear k t;have k:Stp 2:=⟨⟩;have h2:=d.cell Q j;have h3:=d.cell R j;have h4:=d.cell S j;obtain⟨T,o,G,r⟩:=KW (d.arg F X) 0 (show [a][0]?= some a from rfl);have H:=D o;have I:=D r;clear o r)|(go_at_call 57;have t:Stp 2:=k;refine(TD d [Kb,JL (lb+1+1)] (by have:=v.out;simp only [M,←x,←y,←z,←B,←C,←E];omega) (by simp) (by simp) rfl rfl).mono ?_;clear d;rintro e L ⟨rfl,Z,d⟩;clear k t;have k:Stp 3:=⟨⟩;have h2:=d.cell Q j;have h3:=d.cell R j;have h4:=d.cell S j;obtain⟨T,o,G,r⟩:=KW (d.arg F X) 0 (show [a][0]?= some a from rfl);have H:=D o;have I:=D r;clear o r)|(go_at_call 106;have t:Stp 3:=k;refine(xe _ _ _ _ _ _ _ _ d (d.arg F xf) (by have:=v.out;simp only [M,←x,←y,←z,←B,←C,←E];omega)).mono ?_;clear d;rintro e L ⟨rfl,Z,xl,d⟩;clear k t;have k:Stp 4:=⟨⟩;have h2:=d.cell Q j;have h3:=d.cell R j;have h4:=d.cell S j;obtain⟨T,o,G,r⟩:=KW (d.arg F X) 0 (show [a][0]?= some a from rfl);have H:=D o;have I:=D r;clear o r)|(go_at_call 57;have t:Stp 4:=k;refine(TD d [MN,JL (lb+1)] (by have:=v.out;simp only [M,←x,←y,←z,←B,←C,←E];omega) (by simp) (by simp) rfl rfl).mono ?_;clear d;rintro e L ⟨rfl,Z,d⟩;clear k t;have k:Stp 5:=⟨⟩;have h2:=d.cell Q j;have h3:=d.cell R j;have h4:=d.cell S j;obtain⟨T,o,G,r⟩:=KW (d.arg F X) 0 (show [a][0]?= some a from rfl);have H:=D o;have I:=D r;clear o r)|(go_at_call 62;have t:Stp 5:=k;refine(VK d (JL (lb+1+1)) (by have:=v.out;simp only [M,←x,←y,←z,←B,←C,←E];omega) rfl).mono ?_;clear d;rintro e L ⟨rfl,Z,d⟩;clear k t;have k:Stp 6:=⟨⟩));obtain⟨h5,h6,rfl,xb,y5, -, -⟩:=NQ d.cw.lo;obtain⟨O,hm⟩:=JH ((lp++[(JL (lb+1)),(JL (lb+1+1))]).length);have xm:O=n+2:=by rw [hm,M,←h1];rfl
 rw [←hm]at d xb;have xc:AA ((c.xs h9 0 (J h5 O h6))[9]?= some (J h5 O h6)):=D rfl;have xk:=d.cw.Kv (i:=9) rfl;have f11:=d.cw.QX 11;have y6:Ad.wrap ((O:Int) - 2)=(lp.length:Int):=by rw [←h1,AU _ (by omega)];omega
 have y7:∀ (W:Y),(Hs 34 (J h5 O h6) none (some (V Ad (lp.length:Int))) none).run prog W=Ez (J h5 lp.length h6) W:=fun W=>VX W _ _ hz Bu x4 h5 O h6 lp.length Ad (by rw [←h1];omega)
 have xn:0<O:=by omega
 clear hm xm xb;refine M5 [14] d (fun s=>?_)
 iterate 4 refine JC s ?_
 refine JP s (fun w hn=>hn.Kv xc) ?_
 iterate 3 refine JC s ?_
 refine JP s (fun w hn=>hn.Kv xc) ?_
 try simp only [Au,pA,pB,pC]
 refine JM (fun K m=>?_);go_simp;refine m _ _ ?_ (fun s=>?_)
 ·trivial
 clear m K
 try simp only [Au,pA,pB,pC]
 iterate 2 refine JC s ?_
 try simp only [Au,pA,pB,pC]
 refine JM (fun K m=>?_);go_simp;refine m _ _ ?_ (fun s=>?_)
 ·trivial
 clear m K
 try simp only [Au,pA,pB,pC]
 refine JM (fun K m=>?_);go_simp;refine m _ _ ?_ (fun s=>?_)
 ·trivial
 clear m K
 try simp only [Au,pA,pB,pC]
 refine JX.fn (fun K m=>?_);go_simp;refine m _ _ ?_
 clear m K
 try simp only [Au,pA,pB,pC]
 refine JV ?_
 go_wp2_with fail;go_end0;have:=((d.ext ((Ext.refl L).drew)).cut rfl xn).fin.of (K9.ext P);simp only [AG]at this;exact this
def zK7 (loops:Nat)(lp:List Bs)(NY:Bs×Bs):Prop:=loops≠0→∃ b,lp=b++[NY.1,NY.2]
def SC (p:JQ)(f:Pg.Fn)(loops:Nat)(x:Sm):Prop:=
 ∀(c:Cn) (U:Nat→Prop) (g:Option Nat) (lv:h) (w:Y) (l:Bs) (lb:Nat) (lp:List Bs) (NY:Bs×Bs) (cs:List h),
  CW c g l lb 0 lp lv w→Lc (JI p f) c U g lv w→KS.rep U w x cs→zK7 loops lp NY→lb+2*OE x≤80000→lp.length+2*OE x≤80000→l.length+(Li (JI p f) x NY lb).1.length≤1000000→
  As prog 146 #[Ae (some ⟨c.b,0,none⟩),AN cs.toArray] w (MB c g lv w (l++(Li (JI p f) x NY lb).1) (Li (JI p f) x NY lb).2 0 lp)
theorem SC.s {p:JQ}{f:Pg.Fn}{loops:Nat}{x:Sm}(i:SC p f loops x){c:Cn}{U:Nat→Prop}{g0 g:Option Nat}{d lv:h}{w0 w:Y}{l:Bs}{lb:Nat}{lp:List Bs}{NY:Bs×Bs}{cs:List h}(a:SS (JI p f) c U g0 d w0 g lv l lb 0 lp w)(j:KS.rep U w x cs)(k:zK7 loops lp NY)(h1:lb+2*OE x≤80000)(m:lp.length+2*OE x≤80000)(n:l.length+(Li (JI p f) x NY lb).1.length≤1000000){v:h}(o:v=AN cs.toArray):
 As prog 146 #[Ae (some ⟨c.b,0,none⟩),v] w (SR (JI p f) c U g0 d w0 (l++(Li (JI p f) x NY lb).1) (Li (JI p f) x NY lb).2 0 lp):=by
 subst o;exact(i c U g lv w l lb lp NY cs a.cw a.env j k h1 m n).mono fun e w' q=>a.sr q
theorem zK8 (p:JQ)(f:Pg.Fn)(loops:Nat)(args:List Sm)(S:∀ x∈args,SC p f loops x)(c:Cn)(U:Nat→Prop)(g:Option Nat)(lv:h)(w:Y)(l:Bs)(lb:Nat)(lp:List Bs)(NY:Bs×Bs)(v:h)
 (T:CW c g l lb 0 lp lv w) (F:Lc (JI p f) c U g lv w) (z:Ju KS U w args v) (W:zK7 loops lp NY) (X:lb+2*Jv args≤80000) (Z:lp.length+2*Jv args≤80000) (h0:l.length+(KY (JI p f) args NY lb).1.length≤1000000):
 As prog 106 #[Ae (some ⟨c.b,0,none⟩),v] w (MB c g lv w (l++(KY (JI p f) args NY lb).1) (KY (JI p f) args NY lb).2 0 lp):=by
 have h2:=SS.start T F;obtain⟨A,x3,rfl⟩:=JB z;obtain⟨n,H⟩:=JH args.length;have hg:=D z;have hh:=D S;have I:=D H;have hi:=D F.nu;have hj:=D h2;have hk:=D W;have hl:=D (Ct X Z);have hm:=D h0;have x4:n≤9223372036854775807:=by
  obtain⟨x5,hn,xs,e,h1,K,_⟩:=z;unfold Bk at K;omega
 rw [←H];clear T F z S h2 W X Z h0 H;go_enter func106,ntmps106;go_wp2;go_loopw [8] (fun s ho=>∃ (i:Nat) (h3:Option Nat) (h4:h) (B:Bs) (d:Nat),s=V Ad i∧i≤n∧AA (SS (JI p f) c U g lv w h3 h4 B d 0 lp ho)∧AA (B++(KY (JI p f) (args.drop i) NY d).1=l++(KY (JI p f) args NY lb).1∧(KY (JI p f) (args.drop i) NY d).2=(KY (JI p f) args NY lb).2∧d+2*Jv (args.drop i)≤lb+2*Jv args∧Jv (args.drop i)≤Jv args)) (fun s _=>n - (AX s).toNat)
 case atStart=>exact⟨0,g,lv,l,lb,rfl,by omega,hj,D (by simp)⟩
 case round=>
  obtain⟨i,h3,h4,B,d,rfl,x6,L,N⟩:=hrel;by_cases hp:i<n
  ·obtain⟨x,C⟩:∃ x,args[i]?= some x:=⟨_,Al (show i<args.length by rw [←I.out];exact hp)⟩
   obtain⟨b,o,hn,cs,h5, -,O,h6⟩:=(hg.out.upd L.out.rl.upd hi.out (fun _ q=>q)).elem C;have P:args.drop i=x::args.drop (i+1):=by
    obtain⟨h1,K⟩:=Ao.1 C;rw [AR h1,K]
   obtain⟨a,j,Q,R⟩:=N.out;rw [P,KY]at a j;dsimp only at a j;rw [P,Jv]at Q R;have h7:=hh.out x (AD C);have h8:=O;obtain⟨k,u,m,r,t⟩:=x;rw [show KS.rep=Q5 from rfl,Qk]at h8;obtain⟨x7,x8,x9,rfl,h9,ha,hb⟩:=h8;obtain⟨hq,hr,rfl⟩:=JB h9;obtain⟨hs,ht,rfl⟩:=JB ha;obtain⟨hu,hv,rfl⟩:=JB hb;rw [←I.out]at h5;injection h5 with hw xa hx
   subst hw hx;have hy:=D h6;have hc:=D (KS.upd O (Gl (G:=fun _=>False) ((Ext.refl wr).alloc (Ab #[V Ad k,Aa (str u),J hq m.length hr,J hs r.length ht,J hu t.length hv] 227))) (fun _ _ q=>q) (fun _ q=>q));have hd:=D h7;have y:=D (Ct a (Ct j (Ct Q R)));have he:=congrArg De a;simp only [M]at he;have E:AA (B.length+(Li (JI p f) (.mk k u m r t) NY d).1.length≤1000000∧d+2*OE (.mk k u m r t)≤80000∧lp.length+2*OE (.mk k u m r t)≤80000):=D (by have:=hl.out;have:=hm.out;omega);have hf:=D (kT (JI p f) (.mk k u m r t) NY d);clear h6 O h9 ha hb C P a j Q R h7 he N;generalize m.length=nx at*
   generalize r.length=nb at*
   generalize t.length=ne at*
   generalize(.mk k u m r t:Sm)=x at hc hd y E hf;go_wp2_with (first|refine KV rfl AV rfl hy.out MH ?_|(go_at_call 146;refine(hd.out.s (L.out.ext ((Ext.refl wr).alloc _)) hc.out hk.out E.out.2.1 E.out.2.2 E.out.1 rfl).mono ?_;rintro e xb ⟨rfl,hz,x0,x1⟩));go_roundw
   case rel=>exact⟨i+1,hz,x0,_,_,by go_num,by omega,x1,D ⟨by rw [←y.out.1];simp only [AG],by rw [←y.out.2.1],by have:=y.out.2.2.1;have:=hf.out.2;omega,by have:=y.out.2.2.2;omega⟩⟩
   case measure=>simp [AX];omega
  ·have x2:i=n:=by omega
   subst x2;obtain⟨a,j, -, -⟩:=N.out;rw [show args.drop i=[]from by rw [I.out,Cu],KY]at a j;rw [BP]at a;dsimp only at j;subst a j;go_wp2;go_end0;exact L.out.fin
theorem Wl.form {k:Nat}{name:Bs}{b:List Ex}{body els l:List Sm}(a:Wl (.mk k name b body els::l)):Sk k name b.length body.length els.length=true:=by
 obtain⟨lv,n,m,a⟩:=a;rw [K5,Qy]at a;split at a
 ·cases a
 ·rename_i q c;split at c
  ·rename_i d;rw [Ah]at d;exact d.2
  ·cases c
theorem Wl.head {x:Sm}{l:List Sm}(a:Wl (x::l)):Wl [x]:=by
 obtain⟨lv,n,m,a⟩:=a;rw [K5]at a;split at a
 ·cases a
 ·rename_i q b;exact⟨lv,n,q,by rw [K5,b];rfl⟩
theorem Wl.tail {x:Sm}{l:List Sm}(a:Wl (x::l)):Wl l:=by
 obtain⟨lv,n,m,a⟩:=a;rw [K5]at a;split at a
 ·cases a
 ·rename_i q b;exact⟨_,_,_,a⟩
structure SOk (p:JQ) (f:Pg.Fn) (loops:Nat) (x:Sm):Prop where
 ck:Zw p f x loops=true
 fm:Wl [x]
 nb:Yd x=true
theorem zK9 {p:JQ}{f:Pg.Fn}{loops:Nat}:∀ {l:List Sm},ND p f l loops=true→Wl l→O7 l=true→∀ x∈l,SOk p f loops x
 |[],_,_,_,x,a=>by cases a
 |d::l,h1,c,b,x,a=>by
  rw [ND,Ah]at h1;rw [O7,Ah]at b;rcases AH.1 a with rfl|a
  ·exact⟨h1.1,c.head,b.1⟩
  ·exact zK9 h1.2 c.tail b.2 x a
theorem zA5 {p:JQ}{f:Pg.Fn}{loops:Nat}{args:List Sm}(b:∀ x∈args,SC p f loops x)(c:Cn)(U:Nat→Prop){lb:Nat}{lp:List Bs}{NY:Bs×Bs}(d:zK7 loops lp NY)(h:lb+2*Jv args≤80000)(i:lp.length+2*Jv args≤80000):BT p f c U args lb lp (KY (JI p f) args NY lb).1 (KY (JI p f) args NY lb).2:=
 fun g0 g n lv w0 w l v a j k=>(zK8 p f loops args b c U g lv w l lb lp NY v a.cw a.env j d h i k).mono fun e w' m=>a.sr m
theorem yE6 (p:JQ)(f:Pg.Fn)(o:Ph p f):∀ (N:Nat)(loops:Nat)(x:Sm),Aq x<N→SOk p f loops x→SC p f loops x:=by
 intro N
 induction N with
 |zero=>intro loops x r;omega
 |succ N h0=>
  rintro loops ⟨k,name,D,d,j⟩ h8 I c U g lv w l lb lp NY cs r s h9 T h1 h2 h;have hj:Aq d<N∧Aq j<N:=by
   have hu:Aq (Sm.mk k name D d j)=1+Aq k+Aq name+Aq D+Aq d+Aq j:=by simp
   omega
  have ha:=I.ck;have K:=I.nb;have L:=I.fm.form;obtain⟨hv,hw,h3,hb,hd, -⟩:=I.fm.cons;rw [Zw,Ah,Ah,Ah]at ha;rw [Yd,Ah,Ah]at K;obtain⟨⟨⟨F,h4⟩,he⟩,hf⟩:=ha;have G:∀ a∈D,XC p f a:=fun a E=>yE5 p f o (Aq a+1) a (by omega) (zm2 h4 h3 K.1.1 a E)
  have X:∀ a∈d,SC p f (if k=4 then loops+1 else loops) a:=fun a E=>h0 _ a (by have:=BQ E;omega) (zK9 he hb K.1.2 a E)
  have hg:∀ a∈j,SC p f (if k=4 then loops+1 else loops) a:=fun a E=>h0 _ a (by have:=BQ E;omega) (zK9 hf hd K.2 a E)
  rw [show KS.rep=Q5 from rfl,Qk]at h9;obtain⟨hk,hx,hy,rfl,m,Y,hh⟩:=h9;obtain⟨u,v,rfl⟩:=JB Y;obtain⟨y,z,rfl⟩:=JB hh;rw [OE]at h1 h2;unfold Sk at L;simp only [Ah]at L;have H:=L.2;have O:∀ a∈D,LY a≤Jz D:=fun a E=>by
   clear I K L h3 G m h1 h2 h F H h8 h4
   induction D with
   |nil=>cases E
   |cons hz l hl=>
    rw [Jz];rcases AH.1 E with rfl|E
    ·omega
    ·have:=hl E;omega
  have x0:=L.1.2;clear L K h3 hb hd I h4 he hf h0 h8 hj;have hm:k=1∨k=2∨k=3∨k=4∨k=5∨k=6∨k=7∨k=8∨k=9∨k=10:=by omega
  rcases hm with rfl|rfl|rfl|rfl|rfl|rfl|rfl|rfl|rfl|rfl
  ·obtain⟨a,rfl⟩:=gJ (Ap (by simpa using H));obtain⟨A,B,n,rfl⟩:=QD m (by simp);have hc:=O a Bb;have R:Ma p f name 1 0=true:=by unfold PQ at F;rwa [if_pos rfl]at F
   have C:=(G a Bb).t c U (wt:=0) (lb:=lb) (by omega) (by omega);rcases pg R (AO rfl)with⟨i,S,hn⟩|⟨S,i,gl,P,Q⟩
   ·have e:Li (JI p f) (.mk 1 name [a] d j) NY lb=((JW (JI p f) a 0 lb).1++JS QQ ((JI p f).size - i),(JW (JI p f) a 0 lb).2):=by
     rw [Li,if_pos rfl];simp only [LM];rw [show(JI p f).slot name=some i from S]
    rw [e]at h ⊢;simp only [M]at h;exact zS9 p f o name _ i _ a c U g lv w l lb lp r s u y _ v _ z A B n m C S hn ⟨by omega,by omega⟩
   ·have e:Li (JI p f) (.mk 1 name [a] d j) NY lb=((JW (JI p f) a 0 lb).1++JD [RQ,Lf i],(JW (JI p f) a 0 lb).2):=by
     rw [Li,if_pos rfl];simp only [LM];rw [show(JI p f).slot name=none from S,(Xu P Q).1]
    rw [e]at h ⊢;simp only [M]at h;exact zT0 p f o name _ i _ a gl c U g lv w l lb lp r s u y _ v _ z A B n m C S P Q ⟨by omega,by omega⟩
  ·obtain⟨a,b,rfl⟩:=yP8 (Ap (by simpa using H));obtain⟨A,B,n,rfl⟩:=QD m (by simp);have R:Ma p f name 3 0=true:=by unfold PQ at F;rwa [if_neg (by decide),if_pos rfl]at F
   obtain⟨i,gl,P,Q⟩:=vW R;have hi:=RY (JI p f) a 0 lb;rw [Jz,Jz,Jz]at h1 h2;have C:=(G a Bb).t c U (wt:=0) (lb:=lb) (by omega) (by omega);have ho:=(G b (DE _ Bb)).t c U (wt:=0+1) (lb:=(JW (JI p f) a 0 lb).2) (by omega) (by omega);have e:Li (JI p f) (.mk 2 name [a,b] d j) NY lb=((JW (JI p f) a 0 lb).1++(JS Nh gl.num++(JD [KL]++((JW (JI p f) b (0+1) (JW (JI p f) a 0 lb).2).1++JD [RU,Lf i]))),(JW (JI p f) b (0+1) (JW (JI p f) a 0 lb).2).2):=by
    rw [Li,if_neg (by decide),if_pos rfl];simp only [LM,RL];rw [(Xu P Q).1,(Xu P Q).2]
   rw [e]at h ⊢;simp only [M]at h;exact vg p f o name _ _ i _ _ a b gl c U g lv w l lb lp r s u y _ v _ z A B n m C ho P Q ⟨by omega,by omega⟩
  ·obtain⟨a,rfl⟩:=gJ (Ap (by simpa using H));obtain⟨A,B,n,rfl⟩:=QD m (by simp);have hc:=O a Bb;have hi:=RY (JI p f) a 0 (lb+1);have C:=(G a Bb).t c U (wt:=0) (lb:=lb+1) (by omega) (by omega);rw [if_neg (by decide)]at X hg;have Z:=zA5 X c U (lb:=(JW (JI p f) a 0 (lb+1)).2) T (by omega) (by omega);have x1:=Tj (JI p f) d NY (JW (JI p f) a 0 (lb+1)).2;by_cases h5:j.length=0
   ·have hp:j=[]:=BZ h5;subst hp;have e:Li (JI p f) (.mk 3 name [a] d []) NY lb=((JW (JI p f) a 0 (lb+1)).1++(JD [Kb,JL (lb+1)]++((KY (JI p f) d NY (JW (JI p f) a 0 (lb+1)).2).1++JU (JL (lb+1)))),(KY (JI p f) d NY (JW (JI p f) a 0 (lb+1)).2).2):=by
     rw [Li,if_neg (by decide),if_neg (by decide),if_pos rfl];simp only [LM];rfl
    rw [e]at h ⊢;simp only [M]at h;exact vv p f o name _ _ c U g lv w l lb 0 lp r s _ u y _ _ _ v _ z fun W x=>zT2 p f o name _ _ _ _ a d c U g lv W l lb lp (r.ext x) (s.ext x) u y _ v _ z A B n (m.ext x) C Z (Y.ext x) (by simp) ⟨by omega,by omega⟩
   ·have hq:=zA5 hg c U (lb:=(KY (JI p f) d NY (JW (JI p f) a 0 (lb+1)).2).2+1) T (by omega) (by omega);have e:Li (JI p f) (.mk 3 name [a] d j) NY lb=((JW (JI p f) a 0 (lb+1)).1++(JD [Kb,JL (lb+1)]++((KY (JI p f) d NY (JW (JI p f) a 0 (lb+1)).2).1++(JD [MN,JL ((KY (JI p f) d NY (JW (JI p f) a 0 (lb+1)).2).2+1)]++(JU (JL (lb+1))++((KY (JI p f) j NY ((KY (JI p f) d NY (JW (JI p f) a 0 (lb+1)).2).2+1)).1++JU (JL ((KY (JI p f) d NY (JW (JI p f) a 0 (lb+1)).2).2+1))))))),(KY (JI p f) j NY ((KY (JI p f) d NY (JW (JI p f) a 0 (lb+1)).2).2+1)).2):=by
     rw [Li,if_neg (by decide),if_neg (by decide),if_pos rfl];simp only [LM];rw [if_neg (by intro q;rw [CL]at q;exact h5 (by rw [q];rfl))]
    rw [e]at h ⊢;simp only [M]at h;exact vv p f o name _ _ c U g lv w l lb 0 lp r s _ u y _ _ _ v _ z fun W x=>zT3 p f o name _ _ _ _ _ _ a d j c U g lv W l lb lp (r.ext x) (s.ext x) u y _ v _ z A B n (m.ext x) C Z hq (Y.ext x) (hh.ext x) (by simp;intro q;exact h5 (by rw [q];rfl)) (by omega) ⟨by omega,by omega⟩
  ·obtain⟨a,rfl⟩:=gJ (Ap (by simpa using H));obtain⟨A,B,n,rfl⟩:=QD m (by simp);have hc:=O a Bb;have hi:=RY (JI p f) a 0 (lb+1+1);have C:=(G a Bb).t c U (wt:=0) (lb:=lb+1+1) (by omega) (by omega);rw [if_pos rfl]at X;have Z:=zA5 X c U (lb:=(JW (JI p f) a 0 (lb+1+1)).2) (lp:=lp++[JL (lb+1),JL (lb+1+1)]) (NY:=(JL (lb+1),JL (lb+1+1))) (fun _=>⟨lp,rfl⟩) (by omega) (by simp only [M,Am,Av];omega);have e:Li (JI p f) (.mk 4 name [a] d j) NY lb=(JU (JL (lb+1))++((JW (JI p f) a 0 (lb+1+1)).1++(JD [Kb,JL (lb+1+1)]++((KY (JI p f) d (JL (lb+1),JL (lb+1+1)) (JW (JI p f) a 0 (lb+1+1)).2).1++(JD [MN,JL (lb+1)]++JU (JL (lb+1+1)))))),(KY (JI p f) d (JL (lb+1),JL (lb+1+1)) (JW (JI p f) a 0 (lb+1+1)).2).2):=by
    rw [Li,if_neg (by decide),if_neg (by decide),if_neg (by decide),if_pos rfl];simp only [LM]
   rw [e]at h ⊢;simp only [M]at h;exact vw p f o name _ _ c U g lv w l lb 0 lp r s _ u y _ _ _ v _ z fun W x=>zA4 p f o name _ _ _ _ a d c U g lv W l lb lp (r.ext x) (s.ext x) u y _ v _ z A B n (m.ext x) C Z (Y.ext x) (by omega) ⟨by omega,by omega⟩
  ·have R:Ma p f name 4 D.length=true:=by unfold PQ at F;rwa [if_neg (by decide),if_neg (by decide),if_pos rfl]at F
   obtain⟨hr,hs, -⟩:=vX R;have e:Li (JI p f) (.mk 5 name D d j) NY lb=Pz (JI p f) name D 0 lb:=by
    rw [Li,if_neg (by decide),if_neg (by decide),if_neg (by decide),if_neg (by decide),if_pos rfl];rfl
   rw [e]at h ⊢;exact zA3 p f o name D hk G c U g lv w l lb 0 lp r s u y _ v _ z m ⟨hr,hs⟩ (by omega) (by omega) h
  ·obtain⟨a,rfl⟩:=gJ (Ap (by simpa using H));obtain⟨A,B,n,rfl⟩:=QD m (by simp);have hc:=O a Bb;have C:=(G a Bb).t c U (wt:=0) (lb:=lb) (by omega) (by omega);have e:Li (JI p f) (.mk 6 name [a] d j) NY lb=((JW (JI p f) a 0 lb).1++JS Od (f.JE.length+1),(JW (JI p f) a 0 lb).2):=by
    rw [Li,if_neg (by decide),if_neg (by decide),if_neg (by decide),if_neg (by decide),if_neg (by decide),if_pos rfl];simp only [LM]
   rw [e]at h ⊢;simp only [M]at h;exact zS8 p f o name _ _ a c U g lv w l lb lp r s u y _ v _ z A B n m C ⟨by omega,by omega⟩
  ·obtain⟨a,rfl⟩:=gJ (Ap (by simpa using H));obtain⟨A,B,n,rfl⟩:=QD m (by simp);have hc:=O a Bb;have C:=(G a Bb).t c U (wt:=0) (lb:=lb) (by omega) (by omega);have e:Li (JI p f) (.mk 7 name [a] d j) NY lb=((JW (JI p f) a 0 lb).1++JD [Uf],(JW (JI p f) a 0 lb).2):=by
    rw [Li,if_neg (by decide),if_neg (by decide),if_neg (by decide),if_neg (by decide),if_neg (by decide),if_neg (by decide),if_pos rfl];simp only [LM]
   rw [e]at h ⊢;simp only [M]at h;exact zS7 p f o name _ _ a c U g lv w l lb lp r s u y _ v _ z A B n m C ⟨by omega,by omega⟩
  ·obtain⟨a,rfl⟩:=gJ (Ap (by simpa using H));obtain⟨A,B,n,rfl⟩:=QD m (by simp);have hc:=O a Bb;have C:=(G a Bb).t c U (wt:=0) (lb:=lb) (by omega) (by omega);have e:Li (JI p f) (.mk 8 name [a] d j) NY lb=((JW (JI p f) a 0 lb).1++JD [PR],(JW (JI p f) a 0 lb).2):=by
    rw [Li,if_neg (by decide),if_neg (by decide),if_neg (by decide),if_neg (by decide),if_neg (by decide),if_neg (by decide),if_neg (by decide),if_pos rfl];simp only [LM]
   rw [e]at h ⊢;simp only [M]at h;exact zA2 p f o name _ _ a c U g lv w l lb lp r s u y _ v _ z A B n m C ⟨by omega,by omega⟩
  ·obtain⟨h6,n,rfl⟩:=JB m;have h7:loops≠0:=by intro q;subst q;unfold PQ at F;simp at F
   obtain⟨ht,rfl⟩:=T h7;have e:Li (JI p f) (.mk 9 name D d j) NY lb=(JD [MN,NY.2],lb):=by
    rw [Li,if_neg (by decide),if_neg (by decide),if_neg (by decide),if_neg (by decide),if_neg (by decide),if_neg (by decide),if_neg (by decide),if_neg (by decide),if_pos rfl]
   rw [e]at h ⊢;exact vk p f o name NY.2 c U g lv w l lb _ r s u y _ v _ z h6 _ n (AO ⟨rfl,rfl,rfl⟩) (by simp) (by simp) ⟨h,by omega⟩
  ·obtain⟨h6,n,rfl⟩:=JB m;have h7:loops≠0:=by intro q;subst q;unfold PQ at F;simp at F
   obtain⟨ht,rfl⟩:=T h7;have e:Li (JI p f) (.mk 10 name D d j) NY lb=(JD [MN,NY.1],lb):=by
    rw [Li,if_neg (by decide),if_neg (by decide),if_neg (by decide),if_neg (by decide),if_neg (by decide),if_neg (by decide),if_neg (by decide),if_neg (by decide),if_neg (by decide)]
   rw [e]at h ⊢;exact vk p f o name NY.1 c U g lv w l lb _ r s u y _ v _ z h6 _ n (AB ⟨rfl,rfl,rfl⟩) (by simp) (by simp) ⟨h,by omega⟩
def sA:List Ex→Nat
 |[]=>0
 |.mk _ _ _ _ args::l=>Jz args+sA l
theorem zm7:∀ l:List Ex,Jz l=l.length+sA l
 |[]=>by rw [Jz];rfl
 |.mk k op num name args::l=>by rw [Jz,LY,zm7 l,sA,Am];omega
def sS:List Sm→Nat
 |[]=>0
 |.mk _ _ a b c::l=>Jz a+(Jv b+Jv c)+sS l
theorem zm8:∀ l:List Sm,Jv l=l.length+sS l
 |[]=>by rw [Jv];rfl
 |.mk k name a b c::l=>by rw [Jv,OE,zm8 l,sS,Am];omega
def yQ0 (l:List Ex):Prop:=∀ (U:Nat→Prop)(v:h)(w:Y),Ju KE U w l v→Jz l≤1000000→As prog 143 #[v] w fun e w'=>e=Ak (V Ad (Jz l:Nat))∧Ext w w'
theorem zT5:∀ (N:Nat)(l:List Ex),Aq l<N→yQ0 l:=by
 intro N
 induction N with
 |zero=>intro l h3;omega
 |succ N p=>
  intro l r U v w h hc;obtain⟨A,h4,rfl⟩:=JB h;obtain⟨L,j⟩:=JH l.length;have G:=D h;have c:=D j;have H:=D p;have I:=D r;have d:=D (zm7 l);have h5:L≤1000000:=by have:=d.out;omega
  have t:=D hc;rw [←j];clear h j p r hc;go_enter func143,ntmps143;go_wp2;go_loopw [3,10] (fun K s M=>∃ (i a:Nat),K=V Ad a∧s=V Ad i∧i≤L∧a+sA (l.drop i)=L+sA l∧AA (Ext w M)) (fun _ s _=>L - (AX s).toNat)
  case atStart=>exact⟨0,L,rfl,rfl,by omega,by simp,D (Ext.refl _)⟩
  case round=>
   obtain⟨i,a,rfl,rfl,h6,f,m⟩:=hrel;by_cases O:i<L
   ·obtain⟨x,g⟩:∃ x,l[i]?= some x:=⟨_,Al (show i<l.length by rw [←c];exact O)⟩
    have u:l.drop i=x::l.drop (i+1):=by
     obtain⟨h1,y⟩:=Ao.1 g;rw [AR h1,y]
    obtain⟨b,o,h7,cs,z, -,B,C⟩:=(G.ext m).elem g;have E:=AD g;obtain⟨k,op,num,name,args⟩:=x;rw [u,sA]at f;rw [show KE.rep=OV from rfl,OZ]at B;obtain⟨P,rfl,n⟩:=B;have F:Aq args<N:=by
     have y:=BQ E;have h8:Aq (Ex.mk k op num name args)=1+Aq k+Aq op+Aq num+Aq name+Aq args:=by simp
     have:=I.out;omega
    have hle:Jz args≤1000000:=by have:=d.out;have:=t.out;have:=c.out;omega
    have h9:a+Jz args≤1000000:=by have:=d.out;have:=t.out;have:=c.out;omega
    have Q:=D (fun(W:Y) (x:Ext wr W)=>H.out args F U P W (n.ext x) hle);obtain⟨ha,hb,rfl⟩:=JB n;rw [←c.out]at z;injection z with R hd S
    subst R S;have T:=D C;have X:=D f;clear C n g u E f F;generalize Jz args=q at*
    generalize args.length=na at*
    go_wp2_with (first|refine KV rfl Ax rfl T Ki ?_|(go_at_call 143;refine(Q _ ((Ext.refl wr).alloc _)).mono ?_;rintro e he ⟨rfl,Z⟩));go_roundw
    case rel=>exact⟨i+1,a+q,by go_num,by go_num,by omega,by have:=X.out;omega,D ((m.alloc _).trans Z)⟩
    case measure=>simp [AX];omega
   ·have h0:i=L:=by omega
    subst h0;have h2:a=Jz l:=by
     rw [show l.drop i=[]from by rw [c,Cu],sA]at f;rw [d,←c];omega
    go_wp2;go_ret;rw [←h2];exact⟨rfl,m⟩
theorem yE8 (l:List Ex):yQ0 l:=zT5 (Aq l+1) l (by omega)
def yQ1 (l:List Sm):Prop:=∀ (U:Nat→Prop)(v:h)(w:Y),Ju KS U w l v→Jv l≤1000000→As prog 103 #[v] w fun e w'=>e=Ak (V Ad (Jv l:Nat))∧Ext w w'
theorem zT6:∀ (N:Nat)(l:List Sm),Aq l<N→yQ1 l:=by
 intro N
 induction N with
 |zero=>intro l hz;omega
 |succ N O=>
  intro l P U v w u hc;obtain⟨A,x0,rfl⟩:=JB u;obtain⟨L,y⟩:=JH l.length;have h4:=D u;have m:=D y;have Q:=D O;have h5:=D P;have z:=D (zm8 l);have x1:L≤1000000:=by have:=z.out;omega
  have h6:=D hc;rw [←y];clear u y O P hc;go_enter func103,ntmps103;go_wp2;go_loopw [3,10] (fun h7 s h8=>∃ (i a:Nat),h7=V Ad a∧s=V Ad i∧i≤L∧a+sS (l.drop i)=L+sS l∧AA (Ext w h8)) (fun _ s _=>L - (AX s).toNat)
  case atStart=>exact⟨0,L,rfl,rfl,by omega,by simp,D (Ext.refl _)⟩
  case round=>
   obtain⟨i,a,rfl,rfl,x2,p,B⟩:=hrel;by_cases h9:i<L
   ·obtain⟨x,q⟩:∃ x,l[i]?= some x:=⟨_,Al (show i<l.length by rw [←m];exact h9)⟩
    have R:l.drop i=x::l.drop (i+1):=by
     obtain⟨h1,S⟩:=Ao.1 q;rw [AR h1,S]
    obtain⟨b,o,x3,cs,T, -,X,Z⟩:=(h4.ext B).elem q;have h0:=AD q;obtain⟨k,name,j,f,g⟩:=x;rw [R,sS]at p;rw [show KS.rep=Q5 from rfl,Qk]at X;obtain⟨ha,hb,hd,rfl,C,E,F⟩:=X;have G:Aq f<N∧Aq g<N:=by
     have S:=BQ h0;have x4:Aq (Sm.mk k name j f g)=1+Aq k+Aq name+Aq j+Aq f+Aq g:=by simp
     have:=h5.out;omega
    have x5:a+(Jz j+(Jv f+Jv g))≤1000000:=by have:=z.out;have:=h6.out;have:=m.out;omega
    have he:=D (fun(W:Y) (x:Ext wr W)=>yE8 j U ha W (C.ext x) (by omega));have hf:=D (fun(W:Y) (x:Ext wr W)=>Q.out f G.1 U hb W (E.ext x) (by omega));have hg:=D (fun(W:Y) (x:Ext wr W)=>Q.out g G.2 U hd W (F.ext x) (by omega));obtain⟨hh,hi,rfl⟩:=JB C;obtain⟨hj,hk,rfl⟩:=JB E;obtain⟨hl,hm,rfl⟩:=JB F;rw [←m]at T;injection T with hn x6 ho
    subst hn ho;have hp:=D Z;have hq:=D p;clear Z C E F q R h0 p G;generalize Jz j=h at*
    generalize Jv f=q2 at*
    generalize Jv g=q3 at*
    generalize j.length=nx at*
    generalize f.length=nb at*
    generalize g.length=ne at*
    obtain⟨r,h2,t,H⟩:=alw wr (Ab #[V Ad k,Aa (str name),J hh nx hi,J hj nb hk,J hl ne hm] 227);have hr:=bk H 2;have hs:=bk H 3;have ht:=bk H 4;have x7:Ad.wrap ((h:Int)+(q2:Int))=(h:Int)+(q2:Int):=AU _ (by omega);have x8:Ad.wrap ((h:Int)+(q2:Int)+(q3:Int))=(h:Int)+(q2:Int)+(q3:Int):=AU _ (by omega);have x9:Ad.wrap ((a:Int)+((h:Int)+(q2:Int)+(q3:Int)))=(a:Int)+((h:Int)+(q2:Int)+(q3:Int)):=AU _ (by omega);go_wp2_with (refine KV rfl AV rfl hp MH ?_)
    try rw [h2]
    clear h2;refine JX.go (Ext r) [] ((Ext.refl r).drew) (fun c=>?_)
    iterate 2 refine JC c ?_
    refine JP c (fun w n=>Ext.cell n hr) ?_
    refine KM 4 c ?_
    refine QM 5 c (fun w n=>Ext.cell n hs) ?_
    refine KM 8 c ?_
    refine QM 9 c (fun w n=>Ext.cell n ht) ?_
    try simp only [Au,pA,pB,pC]
    refine JX.rd 3 (fun K d=>?_);go_simp;refine(he _ (t.trans ((Ext.refl r).drew))).mono ?_
    rintro e xa ⟨rfl,hu⟩;have I:=Ext.trans ((Ext.refl r).drew) hu;refine d _ _ ?_ (fun c=>?_)
    ·exact I
    clear d K
    try simp only [Au,pA,pB,pC]
    refine JX.rd 6 (fun K d=>?_);go_simp;refine(hf _ (t.trans I)).mono ?_
    rintro e xb ⟨rfl,hv⟩;have M:=Ext.trans I hv;refine d _ _ ?_ (fun c=>?_)
    ·exact M
    clear d K
    try simp only [Au,pA,pB,pC]
    refine KM 7 c ?_
    try simp only [Au,pA,pB,pC]
    refine JM (fun K d=>?_);go_simp;refine(hg _ (t.trans M)).mono ?_
    rintro e xc ⟨rfl,hw⟩;have h3:=Ext.trans M hw;refine d _ _ ?_ (fun c=>?_)
    ·exact h3
    clear d K
    try simp only [Au,pA,pB,pC]
    iterate 3 refine JC c ?_
    try simp only [Au,pA,pB,pC]
    refine JV ?_
    go_wp2_with fail;go_roundw
    case rel=>exact⟨i+1,a+(h+(q2+q3)),by go_num,by go_num,by omega,by have:=hq.out;omega,D ((B.trans t).trans h3)⟩
    case measure=>simp [AX];omega
   ·have hx:i=L:=by omega
    subst hx;have hy:a=Jv l:=by
     rw [show l.drop i=[]from by rw [m,Cu],sS]at p;rw [z,←m];omega
    go_wp2;go_ret;rw [←hy];exact⟨rfl,B⟩
theorem yE9 (l:List Sm):yQ1 l:=zT6 (Aq l+1) l (by omega)
theorem kW (A:Option Bi)(c:Nat)(s:ByteArray)(w:Y):As prog 158 #[J A 0 c,Aa s] w fun e w'=>e=Ak (V Ad (-1))∧w'=w:=by
 go_enter func158,ntmps158;go_wp2;go_loopw [8] (fun a b=>a=V Ad 0∧b=w) (fun _ _=>0)
 case atStart=>exact⟨rfl,rfl⟩
 case round=>
  obtain⟨rfl,rfl⟩:=hrel;go_wp2;go_ret;exact⟨rfl,rfl⟩
theorem contains_nil (A:Option Bi)(c:Nat)(s:ByteArray)(w:Y):As prog 120 #[J A 0 c,Aa s] w fun e w'=>e=Ak (AE false)∧w'=w:=by
 go_enter func120,ntmps120;go_wp2_with (go_at_call 158;refine(kW A c s w).mono ?_;rintro e w' ⟨rfl,rfl⟩);go_ret;exact⟨rfl,rfl⟩
theorem bB {w:Y}{b o:Nat}{l:List Bs}(d:Ol w (some ⟨b,o,none⟩) (Jw l)):∀ j,j<(l.map str).length→w.cell? ⟨b,o+j,none⟩=some (Aa ((l.map str).getD j Fh)):=by
 intro j c;rw [AI]at c;rw [ZM,B0,Al c];obtain⟨a,e,hc⟩:=d j _ (RV (Al c));cases e;rw [MW]at hc;exact hc
theorem Xv (A:Option Bi)(c:Nat)(l:List Bs)(s:Bs)(w:Y)(f:l.length≤2000)(a:Ol w A (Jw l)):As prog 120 #[J A l.length c,Aa (str s)] w fun e w'=>e=Ak (AE (Oc s l))∧w'=w:=by
 cases l with
 |nil=>exact contains_nil A c (str s) w
 |cons x d=>
  obtain⟨b,o,rfl⟩:=a.base (by simp [Jw]);have:=slices_Contains_string b o (x::d).length c ((x::d).map str) (str s) w (by simp) (by omega) (bB a);rw [DN (by simp),XW]at this;exact this
def qD (s:Bs)(l:List Bs):Int:=match MG s l with
 |some i=>(i:Int)
 |none=> -1
theorem vz (A:Option Bi)(c:Nat)(l:List Bs)(s:Bs)(w:Y)(g:l.length≤2000)(d:Ol w A (Jw l)):As prog 158 #[J A l.length c,Aa (str s)] w fun e w'=>e=Ak (V Ad (qD s l))∧w'=w:=by
 cases l with
 |nil=>exact kW A c (str s) w
 |cons x a=>
  obtain⟨b,o,rfl⟩:=d.base (by simp [Jw]);have:=slices_Index_string b o (x::a).length c ((x::a).map str) (str s) w (by simp) (by omega) (bB d);rw [DN (by simp)]at this;have e:qD s (x::a)=Iz ((x::a).map str) (str s):=by
   unfold qD MG;cases f:LK s (x::a) 0 with
   |none=>exact(Z6 f).symm
   |some i=>exact(Z7 f).symm
  rw [e];exact this
theorem wB (A:Option Bi)(c:Nat)(l:List Bs)(w:Y)(t:l.length≤2000)(hc:l.length≤c)(h:Ol w A (Jw l))(k:M4 l=true):As prog 184 #[J A l.length c] w fun e w'=>e=Ak (AE false)∧w'=w:=by
 have n:=D h;have v:AA (∀i s,l[i]?= some s→As prog 120 #[J A i c,Aa (str s)] w fun e w'=>e=Ak (AE false)∧w'=w):=D (fun i s d=>by
  have y:=(Ao.1 d).1
  have F:Oc s (l.take i)=false:=by
   clear t hc h n
   induction i generalizing l with
   |zero=>rfl
   |succ i G=>
    cases l with
    |nil=>rfl
    |cons x m=>
     rw [M4,Ah]at k
     have z:=G m k.2 (by simpa using d) (by simpa using y)
     have H:s∈m:=AD (show m[i]?= some s by simpa using d)
     have I:LJ s x=false:=by
      rw [AJ]
      intro q
      have:=(Ko _ _).1 q
      subst this
      have B:=k.1
      rw [(Rl s m).2 H]at B
      cases B
     unfold Oc at z ⊢
     rw [DL,List.any_cons,I,z]
     rfl
  have:=Xv A c (l.take i) s w (by rw [BD];omega) (by
   intro j u f
   apply h j u
   unfold Jw at f ⊢
   rw [EG,Dc]at f
   split at f
   ·exact f
   ·cases f)
  rw [BD,CJ (Ev y),F]at this
  exact this)
 obtain⟨L,p⟩:=JH l.length;have C:=D p;rw [←p]at t hc ⊢;have E:∀ (W:Y) (i:Nat),i≤c→(Hs 34 (J A L c) none (some (V Ad (i:Int))) none).run prog W=Ez (J A i c) W:=fun W i d=>by
  obtain⟨g,K⟩:∃ g,prog.info? 9=some g:=by
   have:=R6;cases M:prog.info? 9 with
   |none=>rw [M]at this;cases this
   |some g=>exact⟨g,rfl⟩
  exact VX W _ _ g Bu K A L c i Ad d
 clear h p k;go_enter func184,ntmps184;go_wp2;go_loopw [7] (fun N O=>∃ i:Nat,N=V Ad i∧i≤L∧O=w) (fun s _=>L - (AX s).toNat)
 case atStart=>exact⟨0,rfl,by omega,rfl⟩
 case round=>
  obtain⟨i,rfl,d,rfl⟩:=hrel;by_cases P:i<L
  ·obtain⟨s,r⟩:∃ s,l[i]?= some s:=⟨_,Al (show i<l.length by rw [←C];exact P)⟩
   obtain⟨b,o,rfl⟩:=n.base (by rw [Jw,AI,←C];omega);obtain⟨a,Q,R⟩:=n i (Aa (str s)) (RV r);cases Q;rw [MW]at R;have S:=D (v i s r);have U:=E wr i (by omega);clear r v E;generalize str s=ss at*
   go_wp2_with (go_at_call 120;refine S.mono ?_;rintro e w' ⟨rfl,rfl⟩);go_roundw
   case rel=>exact⟨i+1,by go_num,by omega,trivial⟩
   case measure=>simp [AX];omega
  ·have T:i=L:=by omega
   subst T;go_wp2;go_ret;simp
end Go.Proofs.YtmkomefmgcpnbaaGreatDoor

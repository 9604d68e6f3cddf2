import Derived.Test.YtmkomefmgcpnbaaGreatDoorMg19
set_option linter.all false
set_option maxHeartbeats 12800000
set_option maxRecDepth 100000
namespace Go.Proofs.YtmkomefmgcpnbaaGreatDoor
open Tryz Pg Go Go.Proofs Go.RowKit
open Pm (Tm Ac In)
open _root_.Bool renaming eq_iff_iff→Bl,eq_false_iff→AJ
open Go renaming Calls→As,Value→h,World→Y,heap_alloc2_new→Ay,heap_alloc2_old→AP,Ending→BX,heap_alloc_new→Aj,setRow_heap→Bo,Act→CY,Exit→EY,Operand→CC,Oper→B5,TypeId→AK,execOp→CS,maxLen→Bk,wpList_store_row→CK,yielded→BW,Addr→Bi
open Go.Act renaming put→Au
open Go.ByteArray renaming toList_eq→Br
open Go.Ending renaming returned→Ak
open Go.IntKind renaming i64→Ad,u32→Af,wrap_u32→Eg
open Go.IntWalk renaming i64_in→AU
open Go.Lib renaming hid→D
open Go.Obj renaming cells→Ab
open Go.RowKit renaming Hid→AA
open Go.Value renaming agg→AN,bool→AE,int→V,map→Bj,pointer→Ae,slice→J,string→Aa,tuple→AZ,oneCell'→CT
open _root_.List renaming append_nil→BP,length_append→M,replicate→BK,mem_cons→AH,not_mem_nil→Ba,all_eq_true→A7,getElem?_zipIdx→Gp,length_cons→Am,length_map→AI,length_reverse→GF,length→De,replicate_succ→GB
open _root_.Or renaming inl→AO,inr→AB
open Go.Proofs.Tryz renaming func110→GN,ntmps110→Gg,underlying253→Cl,underlying72→Cj,underlying9→A8,underlying26→Bd
open _root_.Array renaming getElem?_eq_some_iff→Ag
open Go.Builtin renaming append→Iq
open Go.Callee renaming builtin→GU
open Go.Next renaming value→F5
open Go.Op renaming call→Gy,lookup→Jo
open Go.Oper renaming wp→Cb
open Go.Region renaming wanted→AQ
open Go.Result renaming andThen→BM,ok→Ez
open _root_.Nat renaming lt_of_lt_of_le→Ar,zero_add→BF,le_of_ble_eq_true→Ai,le_trans→AL
open _root_.Prod renaming fst→Ee
open Go.RowKit.Below renaming heap_setCell→AY
theorem Ng (s l:Bs):((str s).toList==l)=LJ s l:=by
 rw [Br,Bl,Ko];simp [str]
structure EA (w0:Y) (I:h) (b mB X:Nat) (lv:h) (ws:List Nat) (J2:List (Bs×Nat)) (rs:List (Nat×Nat×Bs)) (ca cb:Array h) (w:Y):Prop where
 aw:∃ wv rv,AW w0 I b mB wv lv rv ws J2 rs w∧(∀k,wv.ownBlock=some k→k≠X∧k≠X+1)∧∀ k,rv.ownBlock=some k→k≠X∧k≠X+1
 x:w.heap[X]?= some (Ab ca 253)
 i:w.heap[X+1]?= some (Ab cb 72)
 bx:b<X
 xs:X+1<w.heap.size
theorem lN {w0 W l m:Y}{n:h}{b o X:Nat}{p r c d lv v a:h}{ws w:List Nat}{s:List (Bs×Nat)}{rs y:List (Nat×Nat×Bs)}{z A:Array h}(f:EA w0 n b o X lv ws s rs z A W)(t:Ext W l)(C:AW w0 n b o c lv d w s y m)(g:Kept l m b v a)
 (D:∀ k,p.ownBlock=some k→k≠X∧k≠X+1) (E:∀ k,r.ownBlock=some k→k≠X∧k≠X+1) (hc:(v=p∧a=c∧d=r)∨(v=r∧a=d∧c=p):=by first|exact .inl ⟨rfl,rfl,rfl⟩|exact .inr ⟨rfl,rfl,rfl⟩):EA w0 n b o X lv w s y z A m:=by
 have I:=f.xs;have K:=t.size;have F:=f.bx;have new:∀ k,a.ownBlock=some k→v.ownBlock=some k∨l.heap.size≤k:=fun k q=>by
  rcases g.2.1 with e|⟨j,e,G⟩
  ·exact AO (e▸q)
  ·rw [e]at q;cases q;exact AB G
 have u:∀ k,v.ownBlock=some k→k≠X∧k≠X+1:=by rcases hc with⟨e, -, -⟩|⟨e, -, -⟩<;>(rw [e];assumption)
 have B:∀ k,a.ownBlock=some k→k≠X∧k≠X+1:=fun k q=>by
  rcases new k q with q|q
  ·exact u k q
  ·omega
 refine⟨⟨c,d,C,?_,?_⟩,g.1 X _ (CE t f.x) (by omega) (fun q=>(u X q).1 rfl),g.1 (X+1) _ (CE t f.i) (by omega) (fun q=>(u (X+1) q).2 rfl),F,by have:=g.2.2;omega⟩
 ·rcases hc with⟨-,e, -⟩|⟨-, -,e⟩
  ·rw [←e];exact B
  ·rw [e];exact D
 ·rcases hc with⟨-, -,e⟩|⟨-,e, -⟩
  ·rw [e];exact E
  ·rw [←e];exact B
def SB (b X:Nat)(a c d:Array h)(W:Y):Prop:=W.heap[b]?= some (Ab a 143)∧W.heap[X]?= some (Ab c 253)∧W.heap[X+1]?= some (Ab d 72)
theorem eX {b X:Nat}{d e f:Array h}{W:Y}{o:Obj}(c:SB b X d e f W):SB b X d e f (W.alloc o):=⟨MX c.1,MX c.2.1,MX c.2.2⟩
theorem zL5 (w0:Y)(n:h)(b o:Nat)(hk lv hl:h)(ws:List Nat)(y:List (Bs×Nat))(rs:List (Nat×Nat×Bs))(w:Y)(hm:AW w0 n b o hk lv hl ws y rs w)(F:Nat)(s:Bs)(has:Bool)(nm:Bs)(k:Nat)(g j l:h)(code:Nat)(own:Bool)
 (x3:LJ s MO=false) (x4:nm≠[]→k=0) (xg:rs.length≤65536) (hn:ws.length+(if own then 0 else 1)+(if has then 1 else 0)≤65536):
 As prog 150 #[Ae (some ⟨b,0,none⟩),V Ad F,AN (Rb [] s has nm k),AN #[g,V Af code,j,l],AE own] w fun e w'=>e=Ak (V Ad 0)∧∃ xh xi,AW w0 n b o xh lv xi (ws++(if own then []else [code])++(if has then [k]else [])) y (rs++(if has&& !nm.isEmpty then [(F,ws.length+(if own then 0 else 1),nm)]else [])) w':=by
 have xj:((str s).toList==[115,112,97,99,101])=false:=by rw [Ng];exact x3
 have ho:((str nm).toList==[])=nm.isEmpty:=by rw [Ng];cases nm<;>rfl
 obtain⟨hp,hq⟩:=JH (ws++(if own then []else [code])++(if has then [k]else []));obtain⟨RF,hr⟩:=JH (rs++(if has&& !nm.isEmpty then [(F,ws.length+(if own then 0 else 1),nm)]else []));rw [←hq,←hr];have x5:=D hq;have hs:=D hr;have xk:=D x4;have ht:=D (((Ext.refl w).alloc (Ab (Rb [] s has nm k) 253)).alloc (Ab #[g,V Af code,j,l] 72));have h0:=D (AP w (Ab (Rb [] s has nm k) 253) (Ab #[g,V Af code,j,l] 72));have h9:=D (Ay w (Ab (Rb [] s has nm k) 253) (Ab #[g,V Af code,j,l] 72));have T:=D (hm.ext ht);obtain⟨x6,xl,x7,xm,x8⟩:=hm.blt;have h1:AA (b<w.heap.size∧(∀k,hk.ownBlock=some k→k<w.heap.size)∧∀ k,hl.ownBlock=some k→k<w.heap.size):=D ⟨x6,x7,x8⟩;have ha:AA (w.heap.size+1<((w.alloc (Ab (Rb [] s has nm k) 253)).alloc (Ab #[g,V Af code,j,l] 72)).heap.size):=D (by simp);clear hm x6 xl x7 xm x8 hq hr x3 x4;unfold Rb at*
 go_enter func150,ntmps150;go_upto_region 1 with fail;generalize((w.alloc (Ab #[Aa (str []),Aa (str s),AE has,Aa (str nm),V Af k] 253)).alloc (Ab #[g,V Af code,j,l] 72))=W at ht h0 h9 T ha ⊢;obtain⟨X,x9⟩:=JH w.heap.size;rw [←x9]at h0 h9 h1 ha ⊢;clear x9;obtain⟨S,f⟩:=JH (str s);obtain⟨p,hc⟩:=JH (str nm);obtain⟨Z,xa⟩:=JH (str []);rw [←f,←hc,←xa]at h0 ⊢;rw [←f]at xj;rw [←hc]at ho;have xn:=D hc;obtain⟨L,hd⟩:=JH ws.length;have he:=D hd;rw [←hd]at hn;have xo:=JA T.hb 0;have z2:=JA T.hb 2;obtain⟨y0,c0,hu, -⟩:=K7 T.wr;rw [←hd]at hu;rw [hu]at z2;have y1:L≤65536:=by omega
 have y2:Ad.wrap (65536 - (L:Int))=65536 - (L:Int):=AU _ (by omega);clear f hc xa hd hu
 go_region
 have G:AA (EA w0 n b o X lv ws y rs #[Aa Z,Aa S,AE has,Aa p,V Af k] #[g,V Af code,j,l] W.drew):=D ⟨⟨hk,hl,T.ext ((Ext.refl W).drew),fun k q=>by have:=h1.2.1 k q;omega,fun k q=>by have:=h1.2.2 k q;omega⟩,CE ((Ext.refl W).drew) h0,CE ((Ext.refl W).drew) h9,h1.1,ha⟩;clear ht T h0 h9 xo z2 h1 ha;generalize W.drew=W1 at G ⊢;have xp:=bk G.x 1;go_upto_if 44 with fail
 obtain⟨A,hv⟩:=JH ((if own then []else [code]));have hf:=D hv;obtain⟨d,hg⟩:=JH (L+(if own then 0 else 1));have hw:AA (d=(ws++A).length):=D (by rw [hg,M,he,hv];cases own<;>rfl);have hx:=D hg;rw [←hg]at hn;clear hv hg
 go_cut [11] (fun s h2=>s=V Ad (65536 - (d:Int))∧EA w0 n b o X lv (ws++A) y rs #[Aa Z,Aa S,AE has,Aa p,V Af k] #[g,V Af code,j,l] h2)
 case first=>
  cases own with
  |true=>
   go_wp2
   go_meet
   have H:A=[]:=hf;have B:=hx.out;exact⟨by rw [B];rfl,by rw [H,BP];exact G⟩
  |false=>
   obtain⟨xb,hh,m,r,C⟩:=G.aw;obtain⟨h3,h4,rfl, -⟩:=K7 m.wr;rw [←he]at m r;have I:=D m;have E:=D r;have Q:=D C;clear m r C;go_wp2;refine JX.go (fun h5=>SB b X #[V Ad 65536,n,J h3 L h4,lv,Bj (some o),hh] #[Aa Z,Aa S,AE has,Aa p,V Af k] #[g,V Af code,j,l] h5) [11] ⟨I.hb,G.x,G.i⟩ (fun a=>?_)
   iterate 4 refine JC a ?_
   refine JP a (fun w f=>JA f.1 2) ?_
   refine JC a ?_
   refine JP a (fun w f=>JA f.2.2 1) ?_
   try simp only [Au,pA,pB,pC]
   refine JM (fun K c=>?_);go_simp;refine c _ _ (eX a) (fun a=>?_);clear c
   try simp only [Au,pA,pB,pC]
   refine JM (fun K c=>?_);refine lM (I.ext (((Ext.refl W1).drew).alloc _)) (by rfl) _ _ (by rfl) (by rfl) _ (by rfl) (code:Int) code L rfl (NR rfl) he (by omega) ?_
   intro N O P t h6 h7 u;refine c _ _ (⟨t,u X _ a.2.1 (fun q=>(E X q).1 rfl),u (X+1) _ a.2.2 (fun q=>(E (X+1) q).2 rfl)⟩) (fun a=>?_);clear c
   try simp only [Au,pA,pB,pC]
   refine JM (fun K c=>?_);go_simp;refine c _ _ (a) (fun a=>?_);clear c
   try simp only [Au,pA,pB,pC]
   refine JM (fun K c=>?_);go_simp;refine c _ _ (a) (fun a=>?_);clear c
   try simp only [Au,pA,pB,pC]
   refine JX.fn (fun K c=>?_);have z:=JA t 2;have z2:=JF t 2;go_simp;refine c _ _ ?_
   clear c;refine JV ?_
   have EB:AA (EA w0 n b o X lv (ws++[code]) y rs #[Aa Z,Aa S,AE has,Aa p,V Af k] #[g,V Af code,j,l] (P.setCell ⟨b,2,none⟩ (J N (L+1) O))):=D (lN G (((Ext.refl W1).drew).alloc _) h6 h7 E Q);generalize P.setCell ⟨b,2,none⟩ (J N (L+1) O)=W6 at EB ⊢;have y3:Ad.wrap (65536 - (L:Int) - 1)=65536 - (L:Int) - 1:=AU _ (by omega);go_wp2
   go_meet
   have B:d=L+1:=hx;have H:A=[code]:=hf;refine⟨by rw [B,show((65536:Int) - ((L+1:Nat):Int))=65536 - (L:Int) - 1 by omega],?_⟩;rw [H];exact EB
 obtain⟨rfl,xc⟩:=hcut;have v:=D xc;obtain⟨xd,rfl⟩:=JH wc;clear xc G xp;have xe:=bk v.x 2;obtain⟨h8,hz⟩:=JH (d+(if has then 1 else 0));have x0:=D hz;rw [←hz]at hn;clear hz;go_upto_if 59 with fail
 go_cut [11] (fun s h2=>s=V Ad (65536 - (h8:Int))∧EA w0 n b o X lv hp y RF #[Aa Z,Aa S,AE has,Aa p,V Af k] #[g,V Af code,j,l] h2)
 case first=>
  cases has with
  |false=>
   go_wp2
   go_meet
   have H:hp=ws++A:=by rw [x5,hf];simp
   have B:RF=rs:=by rw [hs];simp
   have hi:h8=d+0:=x0;exact⟨by rw [hi];rfl,by rw [H,B];exact v⟩
  |true=>
   have xq:=bk v.x 3;have H:hp=ws++A++[k]:=by rw [x5,hf];simp
   have xr:=D H;clear H;go_upto_if 63 with fail
   go_cut [80] (fun _ h2=>EA w0 n b o X lv (ws++A) y RF #[Aa Z,Aa S,AE true,Aa p,V Af k] #[g,V Af code,j,l] h2)
   case first=>
    cases U:nm.isEmpty with
    |true=>
     rw [U]at ho;go_wp2
     go_meet
     have B:RF=rs:=by rw [hs,U];simp
     rw [B];exact v
    |false=>
     rw [U]at ho;have u:k=0:=xk (fun q=>by rw [q]at U;cases U);have xs:AA (([V Ad F,V Ad d,Aa p,V Af k]:List h)=XB (F,d,nm)):=D (by rw [xn,u];rfl);clear u;obtain⟨xb,hh,m,r,C⟩:=v.aw;obtain⟨h3,h4,rfl, -⟩:=K7 m.rr;obtain⟨xt,xu,rfl, -⟩:=K7 m.wr;rw [←hw]at m r;obtain⟨R,x1⟩:=JH rs.length;rw [←x1]at m C xg;have xv:=D x1;have I:=D m;have E:=D r;have Q:=D C;clear m r C x1;go_wp2;refine JX.go (fun h5=>SB b X #[V Ad 65536,n,J xt d xu,lv,Bj (some o),J h3 R h4] #[Aa Z,Aa S,AE true,Aa p,V Af k] #[g,V Af code,j,l] h5) [18] ⟨I.hb,v.x,v.i⟩ (fun a=>?_)
     iterate 4 refine JC a ?_
     refine JP a (fun w f=>JA f.1 5) ?_
     iterate 4 refine JC a ?_
     refine JP a (fun w f=>JA f.1 2) ?_
     iterate 2 refine JC a ?_
     refine JC a ?_ (hy:=by intro w f;have y4:=JA f.2.1 3;have y5:=JA f.2.1 4;go_simp;(try with_reducible rfl))
     refine JC a ?_
     try simp only [Au,pA,pB,pC]
     refine JM (fun K c=>?_);go_simp;refine c _ _ (eX a) (fun a=>?_);clear c
     try simp only [Au,pA,pB,pC]
     refine JM (fun K c=>?_);refine zV3 (I.ext (((Ext.refl xd).drew).alloc _)) (by rfl) _ _ (by rfl) (by rfl) _ (by rfl) (F,d,nm) _ xs (NR rfl) R xv (by omega) ?_
     intro N O P t h6 h7 u;refine c _ _ (⟨t,u X _ a.2.1 (fun q=>(Q X q).1 rfl),u (X+1) _ a.2.2 (fun q=>(Q (X+1) q).2 rfl)⟩) (fun a=>?_);clear c
     try simp only [Au,pA,pB,pC]
     refine JM (fun K c=>?_);go_simp;refine c _ _ (a) (fun a=>?_);clear c
     try simp only [Au,pA,pB,pC]
     refine JM (fun K c=>?_);go_simp;refine c _ _ (a) (fun a=>?_);clear c
     try simp only [Au,pA,pB,pC]
     refine JX.fn (fun K c=>?_);have z:=JA t 5;have z2:=JF t 5;go_simp;refine c _ _ ?_
     clear c;refine JV ?_
     have EB:AA (EA w0 n b o X lv (ws++A) y (rs++[(F,d,nm)]) #[Aa Z,Aa S,AE true,Aa p,V Af k] #[g,V Af code,j,l] (P.setCell ⟨b,5,none⟩ (J N (R+1) O))):=D (lN v (((Ext.refl xd).drew).alloc _) h6 h7 E Q);generalize P.setCell ⟨b,5,none⟩ (J N (R+1) O)=W6 at EB ⊢;go_wp2
     go_meet
     have B:RF=rs++[(F,d,nm)]:=by rw [hs,U,hx,he];rfl
     rw [B];exact EB
   have hj:=D hcut;obtain⟨x2,rfl⟩:=JH wc;clear hcut v xq xe;obtain⟨xb,hh,m,r,C⟩:=hj.aw;obtain⟨h3,h4,rfl, -⟩:=K7 m.wr;rw [←hw]at m r;have I:=D m;have E:=D r;have Q:=D C;have y6:d≤65536:=by have hi:h8=d+1:=x0;omega
   clear m r C;go_wp2;refine JX.go (fun h5=>SB b X #[V Ad 65536,n,J h3 d h4,lv,Bj (some o),hh] #[Aa Z,Aa S,AE true,Aa p,V Af k] #[g,V Af code,j,l] h5) [12] ⟨I.hb,hj.x,hj.i⟩ (fun a=>?_)
   iterate 4 refine JC a ?_
   refine JP a (fun w f=>JA f.1 2) ?_
   iterate 2 refine JC a ?_
   refine JP a (fun w f=>JA f.2.1 4) ?_
   try simp only [Au,pA,pB,pC]
   refine JM (fun K c=>?_);go_simp;refine c _ _ (eX a) (fun a=>?_);clear c
   try simp only [Au,pA,pB,pC]
   refine JM (fun K c=>?_);refine lM (I.ext (((Ext.refl x2).drew).alloc _)) (by rfl) _ _ (by rfl) (by rfl) _ (by rfl) (k:Int) k d rfl (NR rfl) hw (by omega) ?_
   intro N O P t h6 h7 u;refine c _ _ (⟨t,u X _ a.2.1 (fun q=>(E X q).1 rfl),u (X+1) _ a.2.2 (fun q=>(E (X+1) q).2 rfl)⟩) (fun a=>?_);clear c
   try simp only [Au,pA,pB,pC]
   refine JM (fun K c=>?_);go_simp;refine c _ _ (a) (fun a=>?_);clear c
   try simp only [Au,pA,pB,pC]
   refine JM (fun K c=>?_);go_simp;refine c _ _ (a) (fun a=>?_);clear c
   try simp only [Au,pA,pB,pC]
   refine JX.fn (fun K c=>?_);have z:=JA t 2;have z2:=JF t 2;go_simp;refine c _ _ ?_
   clear c;refine JV ?_
   have EB:AA (EA w0 n b o X lv (ws++A++[k]) y RF #[Aa Z,Aa S,AE true,Aa p,V Af k] #[g,V Af code,j,l] (P.setCell ⟨b,2,none⟩ (J N (d+1) O))):=D (lN hj (((Ext.refl x2).drew).alloc _) h6 h7 E Q);generalize P.setCell ⟨b,2,none⟩ (J N (d+1) O)=W6 at EB ⊢;have y7:Ad.wrap (65536 - (d:Int) - 1)=65536 - (d:Int) - 1:=AU _ (by omega);go_wp2
   go_meet
   have hi:h8=d+1:=x0;refine⟨by rw [hi,show((65536:Int) - ((d+1:Nat):Int))=65536 - (d:Int) - 1 by omega],?_⟩;rw [xr];exact EB
 obtain⟨rfl,xf⟩:=hcut;obtain⟨x2,rfl⟩:=JH wc;clear v xe;have y8:¬ (65536 - (h8:Int))<0:=by omega
 have xw:=D xf;clear xf;go_wp2;go_ret;obtain⟨xx,xy,xz, -, -⟩:=xw.aw;exact⟨rfl,xx,xy,xz⟩
theorem yH1 (w0:Y)(t:h)(b u:Nat)(Q lv v:h)(ws:List Nat)(C:List (Bs×Nat))(rs:List (Nat×Nat×Bs))(w:Y)(x:AW w0 t b u Q lv v ws C rs w)(R:Nat)(has:Bool)(nm:Bs)(k:Nat)(g i j l:h)(own:Bool)
 (hd:k<4294967296) (T:ws.length+k≤65536):
 As prog 150 #[Ae (some ⟨b,0,none⟩),V Ad R,AN (Rb [] MO has nm k),AN #[g,i,j,l],AE own] w fun e w'=>e=Ak (V Ad 0)∧∃ U,AW w0 t b u U lv v (ws++BK k 0) C rs w':=by
 have y:=D (((Ext.refl w).alloc (Ab (Rb [] MO has nm k) 253)).alloc (Ab #[g,i,j,l] 72));have m:=D (AP w (Ab (Rb [] MO has nm k) 253) (Ab #[g,i,j,l] 72));have n:=D (Ay w (Ab (Rb [] MO has nm k) 253) (Ab #[g,i,j,l] 72));have d:=D (x.ext y);obtain⟨h0,h1,E,h2,h3⟩:=x.blt;have o:=D E;clear x h0 h1 E h2 h3;unfold Rb at*
 go_enter func150,ntmps150;go_upto_region 1 with fail;generalize((w.alloc (Ab #[Aa (str []),Aa (str MO),AE has,Aa (str nm),V Af k] 253)).alloc (Ab #[g,i,j,l] 72))=W at y m n d ⊢;obtain⟨X,F⟩:=JH w.heap.size;rw [←F]at m n o ⊢;clear F;obtain⟨S,f⟩:=JH (str MO);obtain⟨h4,G⟩:=JH (str nm);obtain⟨Z,H⟩:=JH (str []);rw [←f,←G,←H]at m ⊢;have he:(S.toList==[115,112,97,99,101])=true:=by rw [f,Ng];rfl
 obtain⟨L,p⟩:=JH ws.length;have h5:=D p;rw [←p]at T;have h6:=JA d.hb 0;have z2:=JA d.hb 2;obtain⟨I,M,rfl, -⟩:=K7 d.wr;rw [←p]at d o z2;have N:AA (∀k,(J I L M).ownBlock=some k→k≠X∧k≠X+1):=D (fun k q=>by have:=o k q;omega);have hf:Ad.wrap (65536 - (L:Int))=65536 - (L:Int):=AU _ (by omega);have hg:Ad.wrap (k:Int)=k:=AU _ (by omega);have hh:¬ (k:Int)>65536 - (L:Int):=by omega
 clear f G H p
 go_region
 have A:=D (d.ext ((Ext.refl W).drew));have r:=D (CE ((Ext.refl W).drew) m);have O:=D (CE ((Ext.refl W).drew) n);clear y d m n h6 z2 o;generalize W.drew=h7 at A r O ⊢;have hi:=bk r 1;have hj:=bk r 4;go_upto_region 5 with fail;refine JX.go (fun h8=>SB b X #[V Ad 65536,t,J I L M,lv,Bj (some u),v] #[Aa Z,Aa S,AE has,Aa h4,V Af k] #[g,i,j,l] h8) [11] ⟨A.hb,r,O⟩ (fun a=>?_)
 iterate 4 refine JC a ?_
 refine JP a (fun w f=>JA f.1 2) ?_
 iterate 2 refine JC a ?_
 refine JP a (fun w f=>JA f.2.1 4) ?_
 refine JM (fun K c=>?_);refine xI (A.ext ((Ext.refl h7).drew)) (by rfl) _ _ (by rfl) (by rfl) (k:Int) k L rfl (by rfl) h5 (by omega) ?_
 intro h9 ha hc B s hk P;refine c _ _ (⟨B,P X _ a.2.1 (fun q=>(N X q).1 rfl),P (X+1) _ a.2.2 (fun q=>(N (X+1) q).2 rfl)⟩) (fun a=>?_);clear c;refine JM (fun K c=>?_);go_simp;refine c _ _ (a) (fun a=>?_);clear c;refine JM (fun K c=>?_);go_simp;refine c _ _ (a) (fun a=>?_);clear c;refine JX.fn (fun K c=>?_);have z:=JA B 2;have z2:=JF B 2;go_simp;refine c _ _ ?_
 clear c;refine JV ?_
 have s:=D s;generalize hc.setCell ⟨b,2,none⟩ (J h9 (L+k) ha)=W6 at s ⊢;go_wp2;go_ret;exact⟨rfl,_,s⟩
theorem yi1 (w0:Y)(O:h)(b P:Nat)(Q lv T:h)(ws:List Nat)(U:List (Bs×Nat))(rs:List (Nat×Nat×Bs))(w:Y)(h0:AW w0 O b P Q lv T ws U rs w)(G:Nat)(has:Bool)(t:ByteArray)(s:Bs)(nm:Bs)(k:Nat)(d:ByteArray)(c1:Int)(v:h)(R:BX→Y→Prop)
 (H:s≠[]) (I:LJ s [119,111,114,100]=false) (hbs:LJ s [115,112,97,99,101]=false) (h1:True) (h2:∃ A n c,v=J A n c)
 (x:∀ W,Ext w W→As prog 148 #[Aa t] W fun e w'=>e=Ak (AZ #[AN (Rb [] s has nm k),AE true])∧Ext W w')
 (y:∀ W,Ext w W→As prog 149 #[Ae (some ⟨b,0,none⟩),Aa (str s)] W fun e w'=>e=Ak (AZ #[AN #[Aa d,V Af c1,AE has,v],AE true])∧Ext W w')
 (z:∀ W,Ext w W→As prog 150 #[Ae (some ⟨b,0,none⟩),V Ad G,AN (Rb [] s has nm k),AN #[Aa d,V Af c1,AE has,v],AE false] W fun e w'=>e=Ak (V Ad 0)∧R e w'):
 As prog 110 #[Ae (some ⟨b,0,none⟩),V Ad G,Aa t] w fun e w'=>e=Ak (V Ad 0)∧R e w':=by
 obtain⟨o,p,q,rfl⟩:=h2;obtain⟨S,f⟩:=JH (str s);obtain⟨B,K⟩:=JH (str nm);obtain⟨Z,C⟩:=JH (str []);have h9:(S.toList==[119,111,114,100])=false:=by rw [f,Ng];exact I
 have ha:(S.toList==[115,112,97,99,101])=false:=by rw [f,Ng];exact hbs
 have hb:(Z.toList==[])=true:=by rw [C,Ng];rfl
 have hc:(S.toList==[])=false:=by rw [f,Ng];cases s with|nil=>exact absurd rfl H|cons _ _=>rfl
 unfold Rb at*
 rw [←f,←K,←C]at x z;rw [←f]at y;have h3:=D x;have h4:=D y;have h5:=D z;clear f K C x y z H I hbs h1 h0;go_enter GN,Gg;go_upto_region 4 with(first|(go_at_call 148;refine(h3 _ (Ext.refl w)).mono ?_;rintro e g ⟨rfl,E⟩)|(refine L8 rfl rfl rfl (Aj g _) OH ?_));have r:=D ((E.alloc (Ab Oo 253)).setRow E.size #[Aa Z,Aa S,AE has,Aa B,V Af k]);have l:=D (Bo (g.alloc (Ab Oo 253)) g.heap.size Oo #[Aa Z,Aa S,AE has,Aa B,V Af k] 253 (0,0) (Aj g _));obtain⟨X,L⟩:=JH g.heap.size;rw [←L]at r l ⊢;generalize(g.alloc (Ab Oo 253)).setRow X #[Aa Z,Aa S,AE has,Aa B,V Af k]=W2 at r l ⊢;clear L E;have h6:=bk l 0;have M:=bk l 1;go_upto_region 14 with(first|(go_at_call 149;refine(h4 _ r).mono ?_;rintro e i ⟨rfl,m⟩)|(refine L8 rfl rfl rfl (Aj i _) NT ?_));have F:=D (r.trans ((m.alloc (Ab Qa 72)).setRow m.size #[Aa d,V Af c1,AE has,J o p q]));have u:=D (Bo (i.alloc (Ab Qa 72)) i.heap.size Qa #[Aa d,V Af c1,AE has,J o p q] 72 (0,0) (Aj i _));have j:=D (CE ((m.alloc (Ab Qa 72)).setRow m.size #[Aa d,V Af c1,AE has,J o p q]) l);obtain⟨h7,N⟩:=JH i.heap.size;rw [←N]at F u j ⊢;generalize(i.alloc (Ab Qa 72)).setRow h7 #[Aa d,V Af c1,AE has,J o p q]=W4 at F u j ⊢;clear N m h6 M;have M:=bk j 1;have hd:=bk j 2;have he:=bk j 3;have hf:=bk u 2;go_wp2_with (first|(refine LH rfl Cl rfl j OH ?_)|(refine LH rfl Cj rfl u NT ?_)|(go_at_call 150;refine(h5 _ F).mono ?_;rintro e hg ⟨rfl,h8⟩));go_ret;exact⟨rfl,h8⟩
theorem yi2 (w0:Y)(N:h)(b O:Nat)(P lv Q:h)(ws:List Nat)(T:List (Bs×Nat))(rs:List (Nat×Nat×Bs))(w:Y)(U:AW w0 N b O P lv Q ws T rs w)(F:Nat)(t:ByteArray)(s:Bs)(nm:Bs)(k:Nat)(a:ByteArray)(c1:Int)(u:h)(R:BX→Y→Prop)
 (G:s≠[]) (H:LJ s [119,111,114,100]=true) (hbs:LJ s [115,112,97,99,101]=false) (h0:True) (h1:∃ A n c,u=J A n c)
 (v:∀ W,Ext w W→As prog 148 #[Aa t] W fun e w'=>e=Ak (AZ #[AN (Rb [] s true nm k),AE true])∧Ext W w')
 (x:∀ W,Ext w W→As prog 149 #[Ae (some ⟨b,0,none⟩),Aa (str s)] W fun e w'=>e=Ak (AZ #[AN #[Aa a,V Af c1,AE false,u],AE false])∧Ext W w')
 (y:∀ W,Ext w W→As prog 150 #[Ae (some ⟨b,0,none⟩),V Ad F,AN (Rb [] s true nm k),AN #[Aa a,V Af c1,AE false,u],AE true] W fun e w'=>e=Ak (V Ad 0)∧R e w'):
 As prog 110 #[Ae (some ⟨b,0,none⟩),V Ad F,Aa t] w fun e w'=>e=Ak (V Ad 0)∧R e w':=by
 obtain⟨m,o,p,rfl⟩:=h1;obtain⟨S,d⟩:=JH (str s);obtain⟨z,I⟩:=JH (str nm);obtain⟨Z,B⟩:=JH (str []);have h8:(S.toList==[119,111,114,100])=true:=by rw [d,Ng];exact H
 have h9:(S.toList==[115,112,97,99,101])=false:=by rw [d,Ng];exact hbs
 have ha:(Z.toList==[])=true:=by rw [B,Ng];rfl
 have hb:(S.toList==[])=false:=by rw [d,Ng];cases s with|nil=>exact absurd rfl G|cons _ _=>rfl
 unfold Rb at*
 rw [←d,←I,←B]at v y;rw [←d]at x;have h2:=D v;have h3:=D x;have h4:=D y;clear d I B v x y G H hbs h0 U;go_enter GN,Gg;go_upto_region 4 with(first|(go_at_call 148;refine(h2 _ (Ext.refl w)).mono ?_;rintro e f ⟨rfl,C⟩)|(refine L8 rfl rfl rfl (Aj f _) OH ?_));have q:=D ((C.alloc (Ab Oo 253)).setRow C.size #[Aa Z,Aa S,AE true,Aa z,V Af k]);have j:=D (Bo (f.alloc (Ab Oo 253)) f.heap.size Oo #[Aa Z,Aa S,AE true,Aa z,V Af k] 253 (0,0) (Aj f _));obtain⟨X,K⟩:=JH f.heap.size;rw [←K]at q j ⊢;generalize(f.alloc (Ab Oo 253)).setRow X #[Aa Z,Aa S,AE true,Aa z,V Af k]=W2 at q j ⊢;clear K C;have h5:=bk j 0;have L:=bk j 1;go_upto_region 14 with(first|(go_at_call 149;refine(h3 _ q).mono ?_;rintro e g ⟨rfl,l⟩)|(refine L8 rfl rfl rfl (Aj g _) NT ?_));have E:=D (q.trans ((l.alloc (Ab Qa 72)).setRow l.size #[Aa a,V Af c1,AE false,J m o p]));have r:=D (Bo (g.alloc (Ab Qa 72)) g.heap.size Qa #[Aa a,V Af c1,AE false,J m o p] 72 (0,0) (Aj g _));have i:=D (CE ((l.alloc (Ab Qa 72)).setRow l.size #[Aa a,V Af c1,AE false,J m o p]) j);obtain⟨h6,M⟩:=JH g.heap.size;rw [←M]at E r i ⊢;generalize(g.alloc (Ab Qa 72)).setRow h6 #[Aa a,V Af c1,AE false,J m o p]=W4 at E r i ⊢;clear M l h5 L;have L:=bk i 1;have hc:=bk i 2;have hd:=bk i 3;have he:=bk r 2;go_wp2_with (first|(refine LH rfl Cl rfl i OH ?_)|(refine LH rfl Cj rfl r NT ?_)|(go_at_call 150;refine(h4 _ E).mono ?_;rintro e hf ⟨rfl,h7⟩));go_ret;exact⟨rfl,h7⟩
theorem yi3 (w0:Y)(O:h)(b P:Nat)(Q lv T:h)(ws:List Nat)(U:List (Bs×Nat))(rs:List (Nat×Nat×Bs))(w:Y)(h0:AW w0 O b P Q lv T ws U rs w)(G:Nat)(t:ByteArray)(s:Bs)(nm:Bs)(k:Nat)(a:ByteArray)(c1:Int)(v:h)(R:BX→Y→Prop)
 (H:s≠[]) (I:LJ s [119,111,114,100]=false) (hbs:LJ s [115,112,97,99,101]=true) (K:nm=[]) (h1:∃ A n c,v=J A n c)
 (x:∀ W,Ext w W→As prog 148 #[Aa t] W fun e w'=>e=Ak (AZ #[AN (Rb [] s true nm k),AE true])∧Ext W w')
 (y:∀ W,Ext w W→As prog 149 #[Ae (some ⟨b,0,none⟩),Aa (str s)] W fun e w'=>e=Ak (AZ #[AN #[Aa a,V Af c1,AE false,v],AE false])∧Ext W w')
 (z:∀ W,Ext w W→As prog 150 #[Ae (some ⟨b,0,none⟩),V Ad G,AN (Rb [] s true nm k),AN #[Aa a,V Af c1,AE false,v],AE true] W fun e w'=>e=Ak (V Ad 0)∧R e w'):
 As prog 110 #[Ae (some ⟨b,0,none⟩),V Ad G,Aa t] w fun e w'=>e=Ak (V Ad 0)∧R e w':=by
 obtain⟨m,o,p,rfl⟩:=h1;obtain⟨S,d⟩:=JH (str s);obtain⟨q,B⟩:=JH (str nm);obtain⟨Z,C⟩:=JH (str []);have h8:(S.toList==[119,111,114,100])=false:=by rw [d,Ng];exact I
 have h9:(S.toList==[115,112,97,99,101])=true:=by rw [d,Ng];exact hbs
 have ha:(Z.toList==[])=true:=by rw [C,Ng];rfl
 have hb:(S.toList==[])=false:=by rw [d,Ng];cases s with|nil=>exact absurd rfl H|cons _ _=>rfl
 have hc:(q.toList==[])=true:=by rw [B,Ng,K];rfl
 unfold Rb at*
 rw [←d,←B,←C]at x z;rw [←d]at y;have h2:=D x;have h3:=D y;have h4:=D z;clear d B C x y z H I hbs K h0;go_enter GN,Gg;go_upto_region 4 with(first|(go_at_call 148;refine(h2 _ (Ext.refl w)).mono ?_;rintro e f ⟨rfl,E⟩)|(refine L8 rfl rfl rfl (Aj f _) OH ?_));have r:=D ((E.alloc (Ab Oo 253)).setRow E.size #[Aa Z,Aa S,AE true,Aa q,V Af k]);have j:=D (Bo (f.alloc (Ab Oo 253)) f.heap.size Oo #[Aa Z,Aa S,AE true,Aa q,V Af k] 253 (0,0) (Aj f _));obtain⟨X,L⟩:=JH f.heap.size;rw [←L]at r j ⊢;generalize(f.alloc (Ab Oo 253)).setRow X #[Aa Z,Aa S,AE true,Aa q,V Af k]=W2 at r j ⊢;clear L E;have h5:=bk j 0;have M:=bk j 1;go_upto_region 14 with(first|(go_at_call 149;refine(h3 _ r).mono ?_;rintro e g ⟨rfl,l⟩)|(refine L8 rfl rfl rfl (Aj g _) NT ?_));have F:=D (r.trans ((l.alloc (Ab Qa 72)).setRow l.size #[Aa a,V Af c1,AE false,J m o p]));have u:=D (Bo (g.alloc (Ab Qa 72)) g.heap.size Qa #[Aa a,V Af c1,AE false,J m o p] 72 (0,0) (Aj g _));have i:=D (CE ((l.alloc (Ab Qa 72)).setRow l.size #[Aa a,V Af c1,AE false,J m o p]) j);obtain⟨h6,N⟩:=JH g.heap.size;rw [←N]at F u i ⊢;generalize(g.alloc (Ab Qa 72)).setRow h6 #[Aa a,V Af c1,AE false,J m o p]=W4 at F u i ⊢;clear N l h5 M;have M:=bk i 1;have hd:=bk i 2;have he:=bk i 3;have hf:=bk u 2;go_wp2_with (first|(refine LH rfl Cl rfl i OH ?_)|(refine LH rfl Cj rfl u NT ?_)|(go_at_call 150;refine(h4 _ F).mono ?_;rintro e hg ⟨rfl,h7⟩));go_ret;exact⟨rfl,h7⟩
theorem XD {c:Type} [DecidableEq c] {K:Wm c}{e g i:AK}{z:h}(j:MT K e g i z){w:Y}{o:B5}{a:CY}(m x:CC)(k:o.op=Jo e m x true)(f:Nat)(val:c→Option h)(l:MapAt K w f val)(n:a.eval m=Bj (some f))(d:c)(p:a.eval x=K.enc d)(v:h)(b:Bool)(q:(val d).getD z=v)(r:(val d).isSome=b):(CS a.eval o).run prog w=Ez (F5 (AZ #[v,AE b])) w:=by
 simp [CS,k,n,p,R8 j l d,q,r,BM]
theorem mtU:MT KQ 140 9 24 (V Af 0) where
 t:=underlying140
 k:=A8
 z:=fun w=>lI w
theorem zV4 (s:Bs)(n:Nat)(a:List (Bs×Nat))(z:ByteArray):(if z=str s then some (V Af n)else WC a z)=WC ((s,n)::a) z:=by
 unfold WC;rw [Ml];by_cases q:z=str s
 ·subst q;rw [if_pos rfl,L6,(Ko s s).2 rfl];rfl
 ·have:LJ s (bs z)=false:=by
   rw [AJ];intro c;exact q (by rw [(Ko _ _).1 c,VD])
  rw [if_neg q,this];rfl
abbrev zLb:Array h:= #[Aa ⟨#[]⟩,V Af 0]
theorem yH2:(prog.info? 257).map (fun i=>(i.zero,i.size,i.bytes))=some (some (AN zLb),2,24):=by kernel_rfl
theorem zV5 {w0 w:Y}{f:h}{b k:Nat}{l lv m:h}{ws:List Nat}{d:List (Bs×Nat)}{rs:List (Nat×Nat×Bs)}{ops:Array B5}{o:B5}{a:CY}{K:CY→Y→Prop}{Q:EY→CY→Y→Prop}{z:Prop}(p:AW w0 f b k l lv m ws d rs w)(B:o.guard=none)(s x:CC)(C:o.op=Gy {callee:=GU Iq,args:= #[s,x],argTypes:= #[139,139]})(D:a.eval s=lv)(g:Nat)(E:a.eval x=J (some ⟨g,0,none⟩) 1 1)(u v:h)(F:w.heap[g]?= some (Ab #[u,v] 257))(h1:u.oneCell'=true∧v.oneCell'=true)(n:Nat){xs:List h}(G:w.ownsRow w0.heap.size 257 2 lv n xs)(S:n<d.length)(T:d.length≤1000000)
 (H:∀ A c w',w'.heap[b]?= some (Ab #[V Ad 65536,f,l,lv,Bj (some k),m] 143)→AW w0 f b k l (J A (n+1) c) m ws d rs (w'.setCell ⟨b,3,none⟩ (J A (n+1) c))→Kept w (w'.setCell ⟨b,3,none⟩ (J A (n+1) c)) b lv (J A (n+1) c)→(∀j o,w.heap[j]?= some o→lv.ownBlock≠some j→w'.heap[j]?= some o)→K (a.put o.dst (J A (n+1) c)) w'):
 if AQ o (BW ops a.tmps)=true then Cb prog o a w K Q else z:=by
 obtain⟨I,L,M,N,O⟩:=info_parts yH2;refine MI B s x 139 C w0.heap.size 257 I (AN zLb) 2 24 underlying139 L M N O rfl (by decide) lv n _ D G (some ⟨g,0,none⟩) 1 1 [u,v] E ?_ rfl (by intro P hy;simp only [AH,Ba,or_false]at hy;rcases hy with rfl|rfl;exact h1.1;exact h1.2) (by unfold Bk;omega) (by omega) p.base ?_
 ·intro i P hy;refine⟨_,rfl,?_⟩;rw [MW,BF,JA F];simpa using hy
 ·intro U w' r e t;obtain⟨A,c,rfl, -⟩:=K7 r;exact H A c w' (p.bV (AB (AB rfl)) e) (p.yh6 e r (by omega) t) (bU e t) (fun j o y R=>by rw [e.block j (Ag.1 y).1 (fun q=>R q.symm)];exact y)
theorem zV6 (b j:Nat)(t:ByteArray)(w:Y)(h:∀ W,Ext w W→As prog 148 #[Aa t] W fun e w'=>e=Ak (AZ #[AN (Rb [] [] false [] 0),AE true])∧Ext W w'):
 As prog 110 #[Ae (some ⟨b,0,none⟩),V Ad j,Aa t] w fun e w'=>e=Ak (V Ad 0)∧Ext w w':=by
 have k:=D h;clear h;go_enter GN,Gg;go_upto_region 4 with(first|(go_at_call 148;refine(k _ (Ext.refl w)).mono ?_;rintro e c ⟨rfl,f⟩)|(refine CK rfl 253 _ _ rfl c.heap.size Oo rfl rfl 253 Oo (Aj c _) OH rfl wP ?_));have g:=D ((f.alloc (Ab Oo 253)).setRow f.size Oo);have d:=D (Bo (c.alloc (Ab Oo 253)) c.heap.size Oo Oo 253 (0,0) (Aj c _));obtain⟨X,i⟩:=JH c.heap.size;rw [←i]at g d ⊢;generalize(c.alloc (Ab Oo 253)).setRow X Oo=W2 at g d ⊢;clear i f;have l:=bk d 0;have m:=bk d 1;go_wp2;go_ret;exact⟨rfl,g⟩
theorem zp7 (w0:Y)(H:h)(b g:Nat)(U lv I:h)(ws:List Nat)(f:List (Bs×Nat))(rs:List (Nat×Nat×Bs))(w:Y)(h0:AW w0 H b g U lv I ws f rs w)(hh:Nat)(t:ByteArray)(s:Bs)(h1:s≠[])(h2:Ml s f=none)(hi:ws.length≤65536)(hj:f.length<1000000)
 (u:∀ W,Ext w W→As prog 148 #[Aa t] W fun e w'=>e=Ak (AZ #[AN (Rb s [] false [] 0),AE true])∧Ext W w'):
 As prog 110 #[Ae (some ⟨b,0,none⟩),V Ad hh,Aa t] w fun e w'=>e=Ak (V Ad 0)∧∃ hk,AW w0 H b g U hk I ws ((s,ws.length)::f) rs w':=by
 have M:AA (WC f (str s)=none):=D (by unfold WC;rw [L6,h2];rfl);have v:=D (zV4 s ws.length f);obtain⟨S,c⟩:=JH (str s);obtain⟨Z,N⟩:=JH (str []);have x5:(Z.toList==[])=true:=by rw [N,Ng];rfl
 have x6:(S.toList==[])=false:=by rw [c,Ng];cases s with|nil=>exact absurd rfl h1|cons _ _=>rfl
 rw [←c]at M v;unfold Rb at u;rw [←c,←N]at u;have hl:=D u;have O:=D h0;obtain⟨L,P⟩:=JH ws.length;have hm:=D P;rw [←P]at hi v ⊢;obtain⟨h3,x⟩:=JH ((s,L)::f);have x7:=D x;rw [←x]at v ⊢;have h4:AA (f.length<h3.length∧h3.length≤1000000):=D (by rw [x];simp;omega);have x8:Af.wrap (L:Int)=L:=by rw [Eg];omega
 clear c N u P x h1 h2 h0 hj;go_enter GN,Gg;go_upto_region 4 with(first|(go_at_call 148;refine(hl _ (Ext.refl w)).mono ?_;rintro e i ⟨rfl,y⟩)|(refine CK rfl 253 _ _ rfl i.heap.size #[Aa S,Aa Z,AE false,Aa Z,V Af 0] rfl rfl 253 Oo (Aj i _) OH rfl (by simp [CT]) ?_));have A:=D ((y.alloc (Ab Oo 253)).setRow y.size #[Aa S,Aa Z,AE false,Aa Z,V Af 0]);have l:=D (Bo (i.alloc (Ab Oo 253)) i.heap.size Oo #[Aa S,Aa Z,AE false,Aa Z,V Af 0] 253 (0,0) (Aj i _));have B:AA (∀k,k<w.heap.size→k<i.heap.size):=D (fun k q=>Ar q y.size);obtain⟨X,h5⟩:=JH i.heap.size;rw [←h5]at A l B ⊢;generalize(i.alloc (Ab Oo 253)).setRow X #[Aa S,Aa Z,AE false,Aa Z,V Af 0]=C at A l ⊢;have j:=D (O.ext A);obtain⟨h6,h7,hn,h8,ho⟩:=O.blt;have E:AA (X≠b∧X≠g∧(∀k,lv.ownBlock=some k→k≠X)):=D ⟨fun q=>by have:=B b h6;omega,fun q=>by have:=B g h7;omega,fun k q=>by have:=B k (h8 k q);omega⟩;clear h5 y h6 h7 hn h8 ho O A;obtain⟨hp,hq,h9, -⟩:=K7 j.wr;obtain⟨F,x9,ha, -⟩:=j.lr;obtain⟨hr,hs,ht, -⟩:=K7 ha;rw [←hm]at h9;subst h9 ht;clear ha;have hu:=bk l 0;go_upto_region 5 with fail;refine JX.go (fun m=>Ext C m) [] (Ext.drew (Ext.refl _)) (fun a=>?_)
 iterate 3 refine JC a ?_
 refine JP a (fun w c=>JA (CE c j.hb) 4) ?_
 refine JC a ?_
 refine JP a (fun w c=>JA (CE c l) 0) ?_
 refine JC a ?_ (hy:=by intro w c;exact XD mtU _ _ rfl g _ (MapAt.keep KQ j.mp (c.block g j.blt.2.1)) (by rfl) S (by rfl) (V Af 0) false (by rw [M];rfl) (by rw [M];rfl))
 iterate 5 refine JC a ?_
 refine JV ?_
 try simp only [Au,pA,pB,pC]
 have n:=D (j.ext ((Ext.refl C).drew));have o:=D (CE ((Ext.refl C).drew) l);clear j l hu;generalize C.drew=W3 at n o ⊢;go_wp2;refine JX.go (fun m=>Ext W3 m) [12] (Ext.drew (Ext.refl _)) (fun a=>?_)
 iterate 3 refine JC a ?_
 refine JP a (fun w c=>JA (CE c n.hb) 4) ?_
 refine JC a ?_
 refine JP a (fun w c=>JA (CE c o) 0) ?_
 iterate 3 refine JC a ?_
 refine JP a (fun w c=>JA (CE c n.hb) 2) ?_
 iterate 2 refine JC a ?_
 try simp only [Au,pA,pB,pC]
 refine JX.fn (fun K d=>?_);refine RN mtU (by rfl) _ _ _ (by rfl) g (WC f) (n.ext a).mp (by rfl) S (by rfl) (V Af L) (by rfl) ?_
 intro p r;refine d _ _ ?_
 clear d;refine JV ?_
 try simp only [Au,pA,pB,pC]
 have Q:=(n.ext a).yy6 h4.1 r v;have r:Ur KQ W3.drew p g (WC f) S (V Af L):=r;have hc:=D Q.1;obtain⟨hv,xa,R,hd⟩:=Q.2;have he:=D R;have hw:=D hd;have hx:F=hv:=by
  obtain⟨xb,xc,hz, -⟩:=K7 R;injection hz
 have hf:AA (p.heap[X]?= some (Ab #[Aa S,Aa Z,AE false,Aa Z,V Af 0] 253)):=D (by
  rw [r.grown.block X (Ag.1 o).1 (fun q=>E.2.1 (by injection q))];exact o)
 subst hx;clear Q R hd r n o;go_wp2;refine JX.go (fun m=>m.heap[b]?= some (Ab #[V Ad 65536,H,J hp L hq,J hr F hs,Bj (some g),I] 143)∧m.heap[X]?= some (Ab #[Aa S,Aa Z,AE false,Aa Z,V Af 0] 253)) [18] ⟨hc.hb,hf⟩ (fun a=>?_)
 iterate 4 refine JC a ?_
 refine JP a (fun w c=>JA c.1 3) ?_
 refine JC a ?_
 refine JP a (fun w c=>JA c.2 0) ?_
 iterate 3 refine JC a ?_
 refine JP a (fun w c=>JA c.1 2) ?_
 iterate 3 refine JC a ?_
 try simp only [Au,pA,pB,pC]
 refine JM (fun K d=>?_);go_simp;refine d _ _ (⟨MX a.1,MX a.2⟩) (fun a=>?_);clear d
 try simp only [Au,pA,pB,pC]
 refine JM (fun K d=>?_);refine zV5 (hc.ext (((Ext.refl p).drew).alloc _)) (by rfl) _ _ (by rfl) (by rfl) _ (by rfl) _ _ (NR rfl) ⟨rfl,rfl⟩ F (KX he (fun k q=>(((Ext.refl p).drew).alloc _).block k (Kc he q).2)) hw h4.2 ?_
 intro x0 x1 x2 T G x3 x4;refine d _ _ (⟨T,x4 X _ a.2 (fun q=>E.2.2 X q rfl)⟩) (fun a=>?_);clear d
 try simp only [Au,pA,pB,pC]
 refine JM (fun K d=>?_);go_simp;refine d _ _ (a) (fun a=>?_);clear d
 try simp only [Au,pA,pB,pC]
 refine JM (fun K d=>?_);go_simp;refine d _ _ (a) (fun a=>?_);clear d
 try simp only [Au,pA,pB,pC]
 refine JX.fn (fun K d=>?_);have z:=JA T 3;have z2:=JF T 3;go_simp;refine d _ _ ?_
 clear d;refine JV ?_
 try simp only [Au,pA,pB,pC]
 have hg:=D (x3.1 X _ (MX (show p.drew.heap[X]?= _ from hf.out)) E.1 (fun q=>E.2.2 X q rfl));have G:=D G;generalize x2.setCell ⟨b,3,none⟩ (J x0 (F+1) x1)=W7 at G hg ⊢;have xd:=bk hg 1;go_wp2;go_ret;exact⟨rfl,_,G⟩
def AM (w0:Y)(c:h)(b d:Nat)(a:Sq)(w:Y):Prop:=∃ e lv f rs,AW w0 c b d e lv f (a.items.reverse.map Ee) a.J2 rs w∧rs.map (fun g=>g.2)=Kw 0 a.items.reverse∧Yk a
theorem Wv:∀ (f:List (Nat×Option Bs))(o:Nat),(Kw o f).length≤f.length
 |[],_=>by simp [Kw]
 |(n,none)::f,o=>by rw [Kw];have:=Wv f (o+1);simp only [Am];omega
 |(n,some s)::f,o=>by rw [Kw];have:=Wv f (o+1);simp only [Am];omega
theorem lQ:∀ (k o:Nat),Kw o (BK k (0,none))=[]
 |0,_=>rfl
 |k+1,o=>by rw [GB,Kw,lQ k]
theorem WE {s:Bs}(a:Mk s=true):s≠[]:=fun q=>by rw [q]at a;cases a
theorem gQ:Oq Md Qg 1=none:=by decide
theorem bW:Oq MO Qg 1=none:=by decide
theorem oN {s:Bs}{l:WO}(a:Pp s=some l):match l with
 |.none_=>True
 |.lab t=>Mk t=true
 |.yX t=>Mk t=true
 |.opN t n=>Mk t=true∧n<4294967296
 |.opL t u=>Mk t=true∧Mk u=true:=by
 unfold Pp at a;split at a
 ·cases a;trivial
 ·split at a
  ·split at a
   ·rename_i q;cases a;exact q
   ·cases a
  ·split at a
   ·rename_i q;cases a;exact q
   ·cases a
 ·split at a
  ·rename_i q;split at a
   ·rename_i q2;cases a;exact⟨q,q2⟩
   ·split at a
    ·rename_i n b;split at a
     ·rename_i c;cases a;exact⟨q,(XY b (A7.1 c)).1⟩
     ·cases a
    ·cases a
  ·cases a
 ·cases a
theorem gT:∀ k x,J3[k]?= some x→x.2=1+k:=by
 intro k x b;unfold J3 at b;rw [Gp]at b;cases c:Pm.Lh[k]? with
 |none=>rw [c]at b;cases b
 |some d=>rw [c]at b;cases b;rfl
theorem zC8 {s:Bs}{c:Nat}{o:Bool}(a:Oq s Qg 1=some (c,o)):∃ (k:Nat)(x:In×Nat),J3[k]?= some x∧x.2=c∧x.1.operand=o∧x.1.name=s∧SH s J3 0=(k:Int):=by
 have:=Zi s J3 1 (fun k x b=>gT k x b);rw [←lJ,a]at this;rcases this with q|⟨k,x,h1,h,d,e,f,g⟩
 ·cases q
 ·exact⟨k,x,h1,d,e,f,by rw [g];simp⟩
theorem lS {s:Bs}(a:Oq s Qg 1=none):SH s J3 0= -1:=by
 have:=Zi s J3 1 (fun k x b=>gT k x b);rw [←lJ,a]at this;rcases this with q|q
 ·exact q
 ·cases q
theorem AM.ext {w0 w w':Y}{c:h}{b d:Nat}{a:Sq}(e:AM w0 c b d a w)(x:Ext w w'):AM w0 c b d a w':=by
 obtain⟨f,lv,g,rs,h1,i,j⟩:=e;exact⟨f,lv,g,rs,h1.ext x,i,j⟩
theorem eY (w0:Y)(a:h)(U:Nat→Prop)(b d:Nat)(m lv o:h)(ws:List Nat)(f:List (Bs×Nat))(rs:List (Nat×Nat×Bs))(w:Y)(p:AW w0 a b d m lv o ws f rs w)(y:Ju KI U w J3 a)(g:Nat)(t:ByteArray)(s:Bs)(c:Nat)(has:Bool)(nm:Bs)(k:Nat)(i:Oq s Qg 1=some (c,has))(D:s≠[])(E:nm≠[]→k=0)(F:rs.length≤65536)(G:ws.length+1+(if has then 1 else 0)≤65536)
 (H:∀ W,Ext w W→As prog 148 #[Aa t] W fun e w'=>e=Ak (AZ #[AN (Rb [] s has nm k),AE true])∧Ext W w'):
 As prog 110 #[Ae (some ⟨b,0,none⟩),V Ad g,Aa t] w fun e w'=>e=Ak (V Ad 0)∧∃ r u,AW w0 a b d r lv u (ws++[c]++(if has then [k]else [])) f (rs++(if has&& !nm.isEmpty then [(g,ws.length+1,nm)]else [])) w':=by
 obtain⟨j,x,z,rfl,rfl,rfl,I⟩:=zC8 i;have K:LJ x.1.name Md=false:=by
  rw [AJ];intro q;rw [(Ko _ _).1 q,gQ]at i;cases i
 have B:LJ x.1.name MO=false:=by
  rw [AJ];intro q;rw [(Ko _ _).1 q,bW]at i;cases i
 obtain⟨v,C, -⟩:=zp6 y z;have L:∃ A n c,v=J A n c:=by obtain⟨_,_,_,_,_,q⟩:=C;exact q
 refine yi1 w0 a b d m lv o ws f rs w p g x.1.operand t x.1.name nm k (str x.1.name) x.2 v (fun e w'=>∃ r u,AW w0 a b d r lv u (ws++[x.2]++(if x.1.operand then [k]else [])) f (rs++(if x.1.operand&& !nm.isEmpty then [(g,ws.length+1,nm)]else [])) w') D K B trivial L H ?_ ?_
 ·intro W l;exact zV1 a U x.1.name b _ _ _ _ W (y.ext l) (p.ext l).hb j x I z v (C.ext l)
 ·intro W l;exact zL5 w0 a b d m lv o ws f rs W (p.ext l) g x.1.name x.1.operand nm k (Aa (str x.1.name)) (AE x.1.operand) v x.2 false B E F G
theorem zC9 (w0:Y)(f:h)(U:Nat→Prop)(m:Int)(b g:Nat)(a E:Sq)(w:Y)(P:AM w0 f b g a w)(Q:P8 w m)(G:Ju KI U w J3 f)(o:Nat)(s:Bs)(l:WO)(R:∀ c∈s,c.toNat<128)(S:s.length≤400000)(L:Pp s=some l)(d:QS a l=some E)(T:a.J2.length<1000000):
 As prog 110 #[Ae (some ⟨b,0,none⟩),V Ad o,Aa (str s)] w fun e w'=>e=Ak (V Ad 0)∧AM w0 f b g E w':=by
 obtain⟨y,lv,r,rs,j,z,B⟩:=P;have X:=wu d B;have A:(a.items.reverse.map Ee).length=a.n:=by simp [B.n]
 have I:rs.length≤65536:=by
  have:=congrArg De z;rw [AI]at this;have K:=Wv a.items.reverse 0;rw [GF,B.n]at K;have:=B.le;omega
 have Z:∀ W,Ext w W→P8 W m:=fun W x=>Q.ext x
 have C:=fun W (x:Ext w W)=>wU s l W m (Z W x) R S L
 have F:=oN L;have fin:∀ {w':Y} {p M D:h} {N:List (Nat×Nat×Bs)} {O:List Nat},AW w0 f b g p M D O E.J2 N w'→O=E.items.reverse.map Ee→N.map (fun h0=>h0.2)=Kw 0 E.items.reverse→AM w0 f b g E w':=fun h1 K h2=>⟨_,_,_,_,K▸h1,h2,X⟩
 cases l with
 |none_=>
  cases d;refine(zV6 b o (str s) w C).mono ?_
  rintro e w' ⟨rfl,h3⟩;exact⟨rfl,fin (j.ext h3) rfl z⟩
 |lab t=>
  simp only [QS]at d;split at d
  ·cases d
  ·rename_i h4;cases d;have h5:Ml t a.J2=none:=by
    have:=B.once t;cases h6:Ml t a.J2 with
    |none=>rfl
    |some k=>rw [h6]at this;exact absurd this h4
   refine(zp7 w0 f b g y lv r _ a.J2 rs w j o (str s) t (WE F) h5 (by rw [A];exact B.le) T C).mono ?_
   rintro e w' ⟨rfl,M,i⟩;rw [A]at i;exact⟨rfl,fin i rfl z⟩
 |yX t=>
  simp only [QS]at d;split at d
  ·rename_i c H;split at d
   ·rename_i hle;cases d;have hle:=Ai hle;refine(eY w0 f U b g y lv r _ a.J2 rs w j G o (str s) t c false [] 0 H (WE F) (fun _=>rfl) I (by rw [A];simp;omega) C).mono ?_
    rintro e w' ⟨rfl,p,D,i⟩;exact⟨rfl,fin i (by simp) (by simp [z,PK,Kw])⟩
   ·cases d
  ·cases d
 |opN t k=>
  simp only [QS]at d;split at d
  ·rename_i q;have q:=(Ko _ _).1 q;subst q;split at d
   ·rename_i hle;cases d;have hle:=Ai hle;refine(yi3 w0 f b g y lv r _ a.J2 rs w j o (str s) MO [] k ⟨#[]⟩ 0 (J none 0 0) (fun e w'=>∃ p,AW w0 f b g p lv r (a.items.reverse.map Ee++BK k 0) a.J2 rs w') (by decide) (by decide) (by decide) rfl ⟨_,_,_,rfl⟩ C ?_ ?_).mono ?_
    ·intro W v;exact xE f U MO b _ _ _ _ W (G.ext v) (j.ext v).hb (lS bW)
    ·intro W v;exact yH1 w0 f b g y lv r _ a.J2 rs W (j.ext v) o true [] k (Aa ⟨#[]⟩) (V Af 0) (AE false) (J none 0 0) true F.2 (by rw [A];exact hle)
    ·rintro e w' ⟨rfl,p,i⟩;exact⟨rfl,fin i (by simp) (by simp [z,PK,lQ])⟩
   ·cases d
  ·rename_i h8;split at d
   ·rename_i q;have q:=(Ko _ _).1 q;subst q;split at d
    ·rename_i hle;cases d;have hle:=Ai hle;refine(yi2 w0 f b g y lv r _ a.J2 rs w j o (str s) Md [] k ⟨#[]⟩ 0 (J none 0 0) (fun e w'=>∃ p D,AW w0 f b g p lv D (a.items.reverse.map Ee++[]++[k]) a.J2 (rs++[]) w') (by decide) (by decide) (by decide) trivial ⟨_,_,_,rfl⟩ C ?_ ?_).mono ?_
     ·intro W v;exact xE f U Md b _ _ _ _ W (G.ext v) (j.ext v).hb (lS gQ)
     ·intro W v;exact zL5 w0 f b g y lv r _ a.J2 rs W (j.ext v) o Md true [] k (Aa ⟨#[]⟩) (AE false) (J none 0 0) 0 true (by decide) (fun q=>absurd rfl q) I (by rw [A];simp;omega)
     ·rintro e w' ⟨rfl,p,D,i⟩;rw [BP]at i;exact⟨rfl,fin i (by simp) (by simp [z,PK,Kw])⟩
    ·cases d
   ·split at d
    ·rename_i c H;split at d
     ·rename_i hle;cases d;have hle:=Ai hle;refine(eY w0 f U b g y lv r _ a.J2 rs w j G o (str s) t c true [] k H (WE F.1) (fun q=>absurd rfl q) I (by rw [A];simp;omega) C).mono ?_
      rintro e w' ⟨rfl,p,D,i⟩;exact⟨rfl,fin i (by simp) (by simp [z,PK,Kw])⟩
     ·cases d
    ·cases d
 |opL t u=>
  simp only [QS]at d;split at d
  ·rename_i c H;split at d
   ·rename_i hle;cases d;have hle:=Ai hle;have h7:u.isEmpty=false:=by have:=WE F.2;cases u with|nil=>exact absurd rfl this|cons _ _=>rfl
    refine(eY w0 f U b g y lv r _ a.J2 rs w j G o (str s) t c true u 0 H (WE F.1) (fun _=>rfl) I (by rw [A];simp;omega) C).mono ?_
    rintro e w' ⟨rfl,p,D,i⟩;rw [h7,A]at i;exact⟨rfl,fin i (by simp) (by simp [z,PK,Kw,B.n])⟩
   ·cases d
  ·cases d
abbrev NU:Array h:= #[V Ad 0,V Ad 0]
theorem xK (d:Option Bi)(c0:Nat)(o:ByteArray)(L:List Nat)(w:Y)
 (r:∀ W,Ext w W→As prog 64 #[AN #[V Ad 65536,J d 32 c0],Aa o] W fun e w'=>∃ b A c s t u,e=Ak (AZ #[Ae (some ⟨b,0,none⟩),AN NU])∧Ext W w'∧w'.heap[b]?= some (Ab #[V Ad 65536,J d 32 c0,J A L.length c,s,t,u] 143)∧w'.ownsRow W.heap.size 24 1 (J A L.length c) L.length (L.map fun n:Nat=>V Af n)):
 As prog 36 #[AN #[V Ad 65536,J d 32 c0],Aa o] w fun e w'=>∃ A c,e=Ak (AZ #[J A L.length c,AN NU])∧Ext w w'∧w'.ownsRow w.heap.size 24 1 (J A L.length c) L.length (L.map fun n:Nat=>V Af n):=by
 have v:=D r;have f:=D (AP w (Ab #[V Ad 65536,J d 32 c0] 47) (Ab NU 26));have h:=D (Ay w (Ab #[V Ad 65536,J d 32 c0] 47) (Ab NU 26));have i:=D (((Ext.refl w).alloc (Ab #[V Ad 65536,J d 32 c0] 47)).alloc (Ab NU 26));obtain⟨n,x⟩:=JH L.length;rw [←x]at v ⊢;clear r x;go_enter func36,ntmps36;go_upto_region 1 with fail;generalize(w.alloc (Ab #[V Ad 65536,J d 32 c0] 47)).alloc (Ab NU 26)=W0 at f h i ⊢;obtain⟨a,y⟩:=JH w.heap.size;have z:AA (w.heap.size≤a+1):=D (by omega);rw [←y]at f h ⊢;clear y;have H:=bk f 0;have t1:=bk f 1;go_upto_region 4 with(go_at_call 64;refine(v _ i).mono ?_;rintro e B ⟨b,A,c,s,t,u,rfl,j,C,l⟩);have E:=D (i.trans (j.alloc (Ab NU 26)));have m:=D (KX l (fun k q=>((Ext.refl B).alloc (Ab NU 26)).block k (Kc l q).2));have F:=D (MX (q:=Ab NU 26) C);have G:=D (CE (j.alloc (Ab NU 26)) h);have I:AA (a+1<W0.heap.size):=D (Ag.1 h).1;generalize B.alloc (Ab NU 26)=W1 at E m F G ⊢;have S:=bk F 2;obtain⟨T,U,z1,f1,K⟩:=RG G (V Ad 0) (V Ad 0);clear H t1 j C l;go_wp2;refine Rx results36 Bd Pk K ?_
 refine⟨A,c,rfl,((E.setCell (p:=⟨a+1,0,none⟩) z _).setCell (p:=⟨a+1,1,none⟩) z _),?_⟩;have M:=KX (w':=(W1.setCell ⟨a+1,0,none⟩ (V Ad 0)).setCell ⟨a+1,1,none⟩ (V Ad 0)) m (fun k q=>by
  have:=(Kc m q).1
  have:=I.out
  rw [AY _ _ _ _ (show k≠a+1 by omega),AY _ _ _ _ (show k≠a+1 by omega)])
 have N:=i.size;obtain⟨O,P⟩:=M;exact⟨O,P.imp id (fun⟨g,cap,cur,e,Q,R⟩=>⟨g,cap,cur,e,AL N Q,R⟩)⟩
end Go.Proofs.YtmkomefmgcpnbaaGreatDoor

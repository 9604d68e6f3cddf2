import Derived.Test.YtmkomefmgcpnbaaGreatDoorMg5
import Derived.Lib.AppendIntMem
import Derived.Lib.Walk
import Derived.Lib.ItoaMem
import Derived.BigCall
import Derived.BigGuard
import Derived.Lib.AtoiErrMem
import Derived.Deep.LoopGhost
set_option linter.all false
set_option maxHeartbeats 12800000
set_option maxRecDepth 100000
namespace Go.Proofs.YtmkomefmgcpnbaaGreatDoor
open Tryz Pg Go Go.Proofs Go.RowKit Go.Sort Go.Lib
open _root_.Array renaming length_toList→Ed,toList_extract→ES,replicate→CD,size_replicate→DD,toList_inj→F9,getElem?_eq_some_iff→Ag
open _root_.ByteArray renaming data_extract→Er,empty→Fh,ext→DS,size_extract→DO
open Go renaming Calls→As,Value→h,World→Y,TypeId→AK,heap_alloc_new→Aj,Ending→BX,heap_alloc2_old→AP,wpList_store_row→CK,Addr→Bi,callFunc→GS,maxLen→Bk
open Go.IntKind renaming i64→Ad,u64→Jc,u8→BJ,u32→Af,wrap_u32→Eg
open Go.Lib renaming hid→D,indexByte→Ck,fields→F6,idxOfS→Iz,decDigits→Df,nDigits→Ej,zeros24→Gk,parseUintB→GY,hasPrefix→Fe
open Go.Proofs renaming intOf→AX,enters_of→F8
open Go.RowKit renaming Below→IL,Hid→AA
open Go.Value renaming int→V,string→Aa,bool→AE,slice→J,pointer→Ae,agg→AN,oneCell'→CT,tuple→AZ,func→ER
open _root_.List renaming drop_drop→ET,extract_eq_take_drop→DY,length_drop→Cr,take_of_length_le→DN,all_eq_true→A7,getD_eq_getElem?_getD→B0,getElem?_eq_getElem→Al,getElem?_map→Bh,getElem?_toArray→EJ,getElem_mem→F7,length_map→AI,map_cons→B7,mem_map→D4,mem_of_getElem?→AD,append_nil→BP,length_take→BD,mem_cons→AH,take_succ_cons→DL,foldl_append→FB,foldl_cons→IP,drop_eq_getElem_cons→AR,drop_eq_nil_of_le→DM,getElem?_eq_some_iff→Ao,drop→Jn,getElem?_drop→Fq,append_assoc→AG,getElem?_append_left→Ce,getElem?_append_right→Cs,length_append→M,length_cons→Am,mem_append→Fi,not_mem_nil→Ba
open _root_.Nat renaming le_refl→Aw,le_trans→AL,lt_of_lt_of_le→Ar,zero_add→BF,blt_eq→Dm,blt→Be,eq_zero_or_pos→GW,mod_eq_of_lt→Bf,pow_succ→D6,ble→A6,lt_or_ge→Dg,min_eq_left→CJ,add_assoc→H8,eq_of_beq_eq_true→Ap,add_comm→IA,succ_mul→FD,zero_mul→FG
open _root_.Or renaming inl→AO,inr→AB
open _root_.UInt8 renaming toNat_inj→CH,ofNat→I9,toNat_lt→Fw
open _root_.Bool renaming and_eq_true→Ah,eq_false_iff→AJ,eq_iff_iff→Bl,false_eq_true→BL,not_eq_true'→Dl,or_eq_true→DZ
open Go.ByteArray renaming toList_eq→Br
open Go.Ending renaming returned→Ak
open Go.Obj renaming cells→Ab
open Go.Proofs.Tryz renaming underlying23→B8,underlying275→Fm,underlying5→B2,underlying9→A8,func47→Gm,ntmps47→Fz,results47→EU,underlying85→D7
open Go.Result renaming ok→Ez
open Go.Instr renaming build→D8
open Go.World renaming size_alloc→E3
open _root_.Option.some renaming inj→DJ
open Go.Act renaming put→Au
open Go.Addr renaming add→Fa
open Go.Next renaming enter→I8
structure Mg (w:Y):Prop where
 sp:Lib.TabBelow prog 13 w "strings.asciiSpace" BJ Lib.asciiSpaceTab
 p10:Lib.TabBelow prog 13 w "internal/strconv.uint64pow10" Jc Lib.pow10Tab
 lt:13≤w.heap.size
theorem Mg.upd {w w':Y}{G:Nat→Prop}(a:Mg w)(u:JK G w w')(c:∀ k,G k→13≤k):Mg w':=by
 have b:IL 13 w w':=⟨u.os,u.tape,u.output,u.size,fun k d=>u.block k (Ar d a.lt) fun q=>by have:=c k q;omega⟩;exact⟨Lib.TabBelow.on a.sp b,Lib.TabBelow.on a.p10 b,AL a.lt u.size⟩
theorem Mg.ext {w w':Y}(b:Mg w)(e:Ext w w'):Mg w':=b.upd (Gl (G:=fun _=>False) e) (fun _ q=>q.elim)
def Jw (l:List Bs):List h:=l.map fun s=>Aa (str s)
theorem XV:∀ l:Bs,(Ck l 10= -1∧KZ true l=l.length)∨∃ o:Nat,Ck l 10=o∧o<l.length∧KZ true l=o+KZ false (l.drop o)
 |[]=>AO ⟨rfl,rfl⟩
 |b::l=>by
  by_cases a:b=10
  ·subst a;exact AB ⟨0,rfl,by simp,by simp [KZ]⟩
  ·have e:(b==10)=false:=by simpa using a
   rcases XV l with⟨h1,c⟩|⟨o,h1,c,d⟩
   ·refine AO ⟨?_,?_⟩
    ·rw [Ck,e,h1];rfl
    ·rw [KZ,if_neg a,c];rfl
   ·refine AB ⟨o+1,?_,by simpa using c,?_⟩
    ·have:((o:Int)== -1)=false:=by simp
     rw [Ck,e,h1,this];simp
    ·rw [KZ,if_neg a,d,List.drop_succ_cons];omega
theorem fQ (S:ByteArray)(n:Nat):bs (S.extract n S.size)=(bs S).drop n:=by
 unfold bs;rw [Er,ES,DY];exact DN (by rw [Cr,Ed];exact Aw _)
theorem z16 (S:ByteArray)(at_:Nat)(w:Y)(z:at_≤S.size)(G:S.size≤100000):
 As prog 48 #[Aa S,V Ad at_] w (Ret (V Ad ((at_+KZ false ((bs S).drop at_):Nat):Int)) w):=by
 go_enter func48,ntmps48;go_wp2
 go_loop [1] (fun s=>∃ n:Nat,s=V Ad n∧n≤S.size∧AA (at_+KZ false ((bs S).drop at_)=n+KZ false ((bs S).drop n))) (fun s=>S.size - (AX s).toNat)
 case atStart=>exact⟨at_,rfl,z,D rfl⟩
 case round=>
  obtain⟨n,rfl,H,g⟩:=hrel;by_cases k:n<S.size
  ·obtain⟨c,I,hc,a⟩:=og k;have b:=D (jP k);by_cases h:c=32∨c=9∨c=10
   ·have d:AA (KZ false ((bs S).drop n)=KZ false ((bs S).drop (n+1))+1):=D (by
     rw [b,KZ,if_pos]
     rcases h with e|e|e
     ·exact AO (CH.1 (by rw [a,e];rfl))
     ·exact AB (AO (CH.1 (by rw [a,e];rfl)))
     ·exact AB (AB (CH.1 (by rw [a,e];rfl))))
    clear a;rcases h with rfl|rfl|rfl
    all_goals
     go_wp2
     go_round
     case rel=>exact⟨n+1,by go_num,by omega,D (by rw [g,d];omega)⟩
     case measure=>simp [AX];omega
   ·have r:c≠32:=fun e=>h (AO e)
    have t:c≠9:=fun e=>h (AB (AO e))
    have u:c≠10:=fun e=>h (AB (AB e))
    have K:((c:Int)==32)=false:=by simp;omega
    have L:((c:Int)==9)=false:=by simp;omega
    have M:((c:Int)==10)=false:=by simp;omega
    have l:AA (¬(S[n]=32∨S[n]=9∨S[n]=10)):=D (by
     rintro(q|q|q)
     ·exact r (by rw [←a,q];rfl)
     ·exact t (by rw [←a,q];rfl)
     ·exact u (by rw [←a,q];rfl))
    by_cases m:c=35
    ·have d:AA (KZ false ((bs S).drop n)=KZ true ((bs S).drop n)):=D (by
      have v:S[n]=35:=CH.1 (by rw [a,m];rfl)
      have A:KZ false (S[n]::(bs S).drop (n+1))=KZ true ((bs S).drop (n+1))+1:=by rw [KZ,if_neg l,if_pos v]
      have B:KZ true (S[n]::(bs S).drop (n+1))=KZ true ((bs S).drop (n+1))+1:=by rw [KZ,if_neg (by rw [v];decide)]
      rw [b,A,B])
     have C:=D (XV ((bs S).drop n));have E:AA ((S.extract n S.size).data.toList=(bs S).drop n):=D (fQ S n);have i:=D (fun W=>strings_IndexByte (S.extract n S.size) 10 W);have F:((10:Int).toNat.toUInt8)=10:=rfl;rw [E,F]at i;have x:AA (((bs S).drop n).length=S.size - n):=D (by rw [Cr,VC]);subst m;clear a r t u;rcases C with⟨f,j⟩|⟨o,f,j,y⟩
     ·rw [f]at i;have p:AA (at_+KZ false ((bs S).drop at_)=S.size):=D (by rw [g,d,j,x];omega);clear f j;go_wp2_with (go_at_call 85;refine(i _).mono ?_;rintro e w' ⟨rfl,rfl⟩);go_ret;exact tY (by have:=p.out;omega)
     ·rw [f]at i;rw [x]at j;have N:¬ ((o:Int)<0):=by omega
      have O:o≠0:=by
       intro q;subst q;have:=(Lib.indexByte_some f).1;rw [b]at this;simp at this;exact l (AB (AB this))
      have p:AA (at_+KZ false ((bs S).drop at_)=(n+o)+KZ false ((bs S).drop (n+o))):=D (by rw [g,d,y,ET];omega);clear f y;go_wp2_with (go_at_call 85;refine(i _).mono ?_;rintro e w' ⟨rfl,rfl⟩)
      go_round
      case rel=>exact⟨n+o,by go_num,by omega,p⟩
      case measure=>simp [AX];omega
    ·have d:AA (KZ false ((bs S).drop n)=0):=D (by
      rw [b,KZ,if_neg l,if_neg]
      intro q
      exact m (by rw [←a,q];rfl))
     have P:((c:Int)==35)=false:=by simp;omega
     clear a;go_wp2;go_ret;exact tY (by have:=g.out;have:=d.out;omega)
  ·have b:=D (YW k);go_wp2;go_ret;have Q:KZ false ((bs S).drop n)=0:=by rw [b,KZ]
   exact tY (by have:=g.out;omega)
theorem RV {l:List Bs}{j:Nat}{s:Bs}(b:l[j]?= some s):(Jw l)[j]?= some (Aa (str s)):=by rw [Jw,Bh,b];rfl
theorem WR {w:Y}{g:Nat}{l:List Bs}{t:AK}(a:w.heap[g]?= some (Ab (Jw l).toArray t (0,0))){j:Nat}{s:Bs}(b:l[j]?= some s):w.cell? ⟨g,j,none⟩=some (Aa (str s)):=by
 rw [JA a j,EJ,RV b]
theorem ZM (l:List Bs)(j:Nat):(l.map str).getD j Fh=str (l.getD j []):=by
 rw [B0,B0,Bh];cases l[j]? <;>rfl
theorem uA {w:Y}{g:Nat}{l:List Bs}{t:AK}(b:w.heap[g]?= some (Ab (Jw l).toArray t (0,0))):∀ j,j<(l.map str).length→w.cell? ⟨g,0+j,none⟩=some (Aa ((l.map str).getD j Fh)):=by
 intro j a;rw [AI]at a;rw [BF,ZM,B0,Al a];exact WR b (Al a)
theorem VO (s:Bs):∀ (l:List Bs)(k:Nat),(∀i,LK s l k=some i→Lib.idxFromS (l.map str) (str s) k=i)∧(LK s l k=none→Lib.idxFromS (l.map str) (str s) k= -1)
 |[],k=>⟨fun i a=>(by cases a),fun _=>rfl⟩
 |x::l,k=>by
  rw [LK,B7,Lib.idxFromS];by_cases a:x=s
  ·subst a;rw [if_pos ((Ko _ _).2 rfl)];exact⟨fun i b=>(by cases b;simp),fun b=>(by cases b)⟩
  ·have h1:LJ x s=false:=by rw [AJ];exact fun q=>a ((Ko _ _).1 q)
   have c:str x≠str s:=fun q=>a (str_inj q)
   rw [h1];simp only [BL,if_false,if_neg c];exact VO s l (k+1)
theorem Z6 {s:Bs}{l:List Bs}(a:LK s l 0=none):Iz (l.map str) (str s)= -1:=(VO s l 0).2 a
theorem Z7 {s:Bs}{l:List Bs}{i:Nat}(b:LK s l 0=some i):Iz (l.map str) (str s)=i:=(VO s l 0).1 i b
theorem YY (s:Bs)(l:List Bs)(w:Y)(a:Mg w)(d:F6 s=l)(f:s.length<4294967281)(g:∀ c∈s,c.toNat<128):
 As prog 83 #[Aa (str s)] w fun e w'=>e=Ak (J (some ⟨w.heap.size,0,none⟩) l.length l.length)∧w'=w.alloc (Ab (Jw l).toArray 9):=by
 have:=strings_Fields (str s) w (by rw [KO];exact f) (fun j b h=>g b (AD h)) a.sp.here;rw [show(str s).data.toList=s from L6 s,d]at this;exact this
def zI1:Bs:=[97,114,114,97,121,32,98,114,101,97,107,32,99,111,110,115,116,32,99,111,110,116,105,110,117,101,32,101,108,115,101,32,102,117,110,99,32,103,101,116,32,105,102,32,112,117,116,32,114,101,116,117,114,110,32,115,116,111,112,32,118,97,114,32,119,104,105,108,101]
theorem yZ:F6 zI1=UD:=by decide+kernel
theorem Rl (s:Bs)(l:List Bs):Oc s l=true↔s∈l:=by
 unfold Oc;rw [List.any_eq_true];constructor
 ·rintro⟨x,a,b⟩;rw [(Ko _ _).1 b];exact a
 ·intro c;exact⟨s,c,(Ko _ _).2 rfl⟩
theorem XW (s:Bs)(l:List Bs):Lib.containsS (l.map str) (str s)=Oc s l:=by
 rw [Bl,Lib.containsS_iff,Rl,D4];constructor
 ·rintro⟨x,a,b⟩;rw [←str_inj b];exact a
 ·intro c;exact⟨s,c,rfl⟩
theorem ZN (s:Bs)(w:Y)(b:Mg w):As prog 79 #[Aa (str s)] w fun e w'=>e=Ak (AE (UE s))∧w'=w.alloc (Ab (Jw UD).toArray 9):=by
 have c:=D (YY zI1 UD w b yZ (by decide) (by decide));have a:=D (slices_Contains_string w.heap.size 0 13 13 (UD.map str) (str s) (w.alloc (Ab (Jw UD).toArray 9)) (by decide) (by omega) (uA (Aj w _)));rw [show(UD.map str).take 13=UD.map str from rfl,XW]at a;go_enter func79,ntmps79;go_wp2_with (first|(go_at_call 83;refine c.mono ?_;rintro e w' ⟨rfl,rfl⟩)|(go_at_call 120;refine a.mono ?_;rintro e w' ⟨rfl,rfl⟩));go_ret;exact⟨rfl,rfl⟩
def Wz (x:Nat):Bool:= !(decide (97≤x)&&decide (x≤122)||decide (48≤x)&&decide (x≤57))
theorem yg (x:Nat)(W:Y):As prog 160 #[V .i32 x] W fun e w'=>e=Ak (AE (Wz x))∧∃ q,w'=W.drewN q:=by
 have a:AA (Wz x= !(decide (97≤x)&&decide (x≤122)||decide (48≤x)&&decide (x≤57))):=D rfl;by_cases h1:x<97<;>by_cases g:122<x<;>by_cases h:x<48<;>by_cases i:57<x
 all_goals first|(exfalso;omega)|skip
 all_goals
  have b:decide (97≤x)= !decide (x<97):=by rw [Bl];simp
  have c:decide (x≤122)= !decide (122<x):=by rw [Bl];simp
  have d:decide (48≤x)= !decide (x<48):=by rw [Bl];simp
  have f:decide (x≤57)= !decide (57<x):=by rw [Bl];simp
  rw [b,c,d,f]at a;clear b c d f;go_enter func160,ntmps160;go_wp2;go_ret;refine⟨?_,0,rfl⟩;rw [a];simp [h1,g,h,i]
  try omega
theorem VP (s:Bs)(b:∀ c∈s,c.toNat<128∧Wz c.toNat=false):∀ (f pos:Nat),Lib.idxFuncFrom Wz true (str s) f pos= -1
 |0,_=>rfl
 |f+1,pos=>by
  unfold Lib.idxFuncFrom;by_cases a:pos<(str s).size
  ·rw [if_pos a];have g:pos<s.length:=by rw [←KO];exact a
   have d:=b s[pos] (F7 g);have e:(str s)[pos]'a=s[pos]:=rfl;rw [decode_ascii (str s) pos a (by rw [e];exact d.1),e];simp only [d.2,BL,if_false];exact VP s b f (pos+1)
  ·rw [if_neg a]
theorem jV {s:Bs}(a:Si s=true):s≠[]∧(∀c∈s,c.toNat<128∧Wz c.toNat=false)∧∀ c b,s=c::b→97≤c.toNat∧c.toNat≤122:=by
 unfold Si at a;cases s with
 |nil=>cases a
 |cons c b=>
  simp only [Ah,A7]at a;obtain⟨h1,d⟩:=a;refine⟨by simp,fun x f=>?_,fun c' g e=>?_⟩
  ·have:=d x f;unfold K4 OC at this;simp only [DZ,Ah,decide_eq_true_eq]at this;refine⟨by omega,?_⟩;unfold Wz;rcases this with q|q<;>simp [q.1,q.2]
  ·cases e;unfold OC at h1;simpa using h1
theorem zO4 (s:Bs)(w:Y)(b:Si s=true):As prog 121 #[Aa (str s)] w fun e w'=>e=Ak (AE true)∧Ext w w':=by
 obtain⟨h1,d,f⟩:=jV b;have g:=D (fun W=>strings_ContainsFunc 160 #[] (F8 func160 (by kernel_rfl) rfl) Wz (str s) W (fun l x _=>yg x l));have h:Lib.idxFunc Wz true (str s)= -1:=VP s d _ _;rw [h]at g;obtain⟨c,a,rfl⟩:∃ c a,s=c::a:=by cases s with|nil=>exact absurd rfl h1|cons c a=>exact⟨c,a,rfl⟩
 have i:=f c a rfl;have hlen:0<(str (c::a)).size:=by rw [KO];simp
 have hc:(((str (c::a))[0]'hlen).toNat:Int)=(c.toNat:Int):=rfl;have n:¬ (str (c::a)).toList=[]:=by rw [Br];simp [str]
 have o:(str (c::a)).toList.isEmpty=false:=by rw [Br];simp [str]
 obtain⟨k,j⟩:=JH c.toNat;rw [←j]at hc i;have p:97≤(k:Int):=by omega
 have q:(k:Int)≤122:=by omega
 clear j f d h1 b h i;generalize str (c::a)=S at*
 go_enter func121,ntmps121;go_wp2_with (go_at_call 159;refine(g _).mono ?_;rintro e w' ⟨rfl,m⟩);go_ret;exact⟨rfl,m⟩
theorem Ot (s:Bs)(w:Y)(b:Mg w)(a:Mt s=true):As prog 80 #[Aa (str s)] w fun e w'=>e=Ak (AE true)∧Ext w w':=by
 unfold Mt at a;simp only [Ah,Dl]at a;obtain⟨⟨h1,c⟩,d⟩:=a;have j:(str s).size≤12:=by rw [KO];simpa using c
 have i:=D (zO4 s w h1);have f:=D (fun(W:Y) (x:Ext w W)=>ZN s W (b.ext x));rw [d]at f;clear h1 c d b;generalize str s=S at*
 go_enter func80,ntmps80;go_wp2_with fail;refine i.mono ?_
 rintro e k ⟨rfl,g⟩;have h:=D g;clear g;go_wp2_with fail;refine(f _ h).mono ?_
 rintro e l ⟨rfl,rfl⟩;go_wp2_with fail;go_ret;exact⟨rfl,h.alloc _⟩
def qa:Bs:=[33,32,45,32,126,32,42,32,47,32,37,32,60,60,32,62,62,32,38,32,43,32,45,32,124,32,94,32,61,61,32,33,61,32,60,32,60,61,32,62,32,62,61,32,38,38,32,124,124]
theorem jW:F6 qa=Pg.ops:=by decide+kernel
theorem VE (op:Nat)(w:Y)(d:Mg w)(h1:1≤op)(f:op≤21):As prog 229 #[V Ad op] w fun e w'=>e=Ak (Aa (str (MM op)))∧w'=w.alloc (Ab (Jw Pg.ops).toArray 9):=by
 have b:=D (YY qa Pg.ops w d jW (by decide) (by decide));obtain⟨k,rfl⟩:∃ k,op=k+1:=⟨op - 1,by omega⟩;have a:k<Pg.ops.length:=by show k<21;omega
 have hc:(w.alloc (Ab (Jw Pg.ops).toArray 9)).cell? ⟨w.heap.size,k,none⟩=some (Aa (str (MM (k+1)))):=by
  rw [WR (Aj w _) (Al a)];unfold MM;rw [Nat.add_sub_cancel,Al a];rfl
 generalize MM (k+1)=R at*
 generalize(Jw Pg.ops).toArray=cz at*
 have hle:k<21:=a;have c:Pg.ops.length=21:=rfl;rw [c]at b;clear a c;go_enter func229,ntmps229;go_wp2_with (go_at_call 83;refine b.mono ?_;rintro e w' ⟨rfl,rfl⟩);go_ret;exact⟨rfl,rfl⟩
theorem jX (w:Y)(k:Nat)(a:Array Obj):Ext w (Sort.grow (w.drewN k) a):=by
 refine⟨rfl,rfl,rfl,by simp [Sort.grow],fun b c=>?_⟩;show(w.heap++a)[b]?= w.heap[b]?
 rw [Array.getElem?_append_left c]
theorem zO5 (w:Y)(o:Obj)(a:Array UInt8)(k:Nat):∃ c,(putRow (fun(b:UInt8)=>V BJ (b.toNat:Int)) (w.alloc o) w.heap.size 0 a).drewN k=grow (w.drewN k) c:=by
 rw [alloc_eq_grow];obtain⟨d,_,e⟩:=putRow_grow_new (fun(b:UInt8)=>V BJ (b.toNat:Int)) w #[o] w.heap.size 0 a (Aw _);exact⟨d,by rw [e];rfl⟩
theorem jY (u:Nat)(w:Y)(d:u<18446744073709551616)(f:Mg w):
 As prog 124 #[V Jc u,V Ad 10] w fun e w'=>e=Ak (Aa ⟨(Df u).toArray⟩)∧Ext w w':=by
 by_cases o:u<100
 ·have p:=D (fun W=>internal_strconv_small u o W);clear f;go_enter func124,ntmps124;go_wp2_with (go_at_call 167;refine(p _).mono ?_;rintro e w' ⟨rfl,rfl⟩);go_ret;exact⟨rfl,Ext.refl _⟩
 ·have i:1≤u:=by omega
  have x:Ej u≤20:=by have:=Lib.numDigits_eq u i d;split at this<;>omega
  have y:Ej u≤24:=by omega
  have l:prog.arrayLen 275=24:=by kernel_rfl
  have q:prog.elem 275=prog.elem 275:=rfl;have z:∀ W,(Instr.sliceAt 275 (Ae (some ⟨w.heap.size,0,none⟩)) none (some (V Ad (Ej u:Int))) none).run prog W=Ez (J (some ⟨w.heap.size,0,none⟩) (Ej u) 24) W:=fun W=>by
   rw [run_sliceAt_array_h W 275 ⟨w.heap.size,0,none⟩ (by simp [Program.arrayLen,Program.elem,Fm]) Ad (Ej u:Int) (by omega) (by rw [l];omega)];go_simp
  have g:Holds (fun(b:UInt8)=>V BJ (b.toNat:Int)) (w.alloc (Ab Gk 275)) w.heap.size 0 (CD (Ej u) 0):=by
   intro j a;rw [DD]at a;refine⟨?_,World.frozen?_alloc_new _ _ _ _⟩;rw [World.cell?_alloc_new,BF,Lib.zeros24_at j (by omega),getElem!_pos _ j (by rw [DD];exact a),Array.getElem_replicate];rfl
  have m:=internal_strconv_formatBase10 w.heap.size 0 24 u (CD (Ej u) 0) (w.alloc (Ab Gk 275)) g (by rw [DD];exact Lib.lt_pow_nDigits u) d (by rw [DD];omega);rw [DD]at m;have r:=D g;have s:=D (fun W=>internal_strconv_numDigits u i d (w.alloc W) (f.ext ((Ext.refl w).alloc W)).p10.here);clear g l q f;go_enter func124,ntmps124;go_wp2_with (go_at_call 168;refine(s _).mono ?_;rintro e w' ⟨rfl,rfl⟩)
  go_at_call 169
  refine m.mono ?_
  rintro e w' ⟨rfl,k,A,c,rfl,h⟩;have B:(convert 23 9 (J (some ⟨w.heap.size,0,none⟩) (Ej u) 24)).run prog ((putRow (fun(b:UInt8)=>V BJ (b.toNat:Int)) (w.alloc (Ab Gk 275)) w.heap.size 0 c).drewN k)=Ez (Aa ⟨(Df u).toArray⟩) ((putRow (fun(b:UInt8)=>V BJ (b.toNat:Int)) (w.alloc (Ab Gk 275)) w.heap.size 0 c).drewN k):=by
   have n:=run_convert_bytes_back (P:=prog) ((putRow (fun(b:UInt8)=>V BJ (b.toNat:Int)) (w.alloc (Ab Gk 275)) w.heap.size 0 c).drewN k) 23 9 5 ⟨w.heap.size,0,none⟩ 24 (Df u) B8 B2 A8 (fun j a=>by
    rw [Lib.row_is_numeral h j a,Lib.add_plain,World.cell?_drewN]
    exact cell?_putRow (fun(b:UInt8)=>V BJ (b.toNat:Int)) _ w.heap.size 0 _ c r (by rw [h.size,DD]) j (by rw [h.size];rw [Lib.decDigits_length]at a;exact a))
   rw [Lib.decDigits_length]at n;exact n
  go_wp2;go_ret;obtain⟨t,v⟩:=zO5 w (Ab Gk 275) c k;refine⟨rfl,?_⟩;rw [v];exact jX w k t
theorem uC:∀ (f n:Nat)(acc:Bs),n<10 ^f→0<f→Ue f n acc=Df n++acc
 |0,_,_,_,a=>absurd a (by omega)
 |f+1,n,acc,a,_=>by
  rw [Ue,Df];by_cases q:n<10
  ·have e:Be n 10=true:=by rw [Dm];exact q
   rw [e,if_pos rfl,dif_pos q,Bf q];rfl
  ·have e:Be n 10=false:=by rw [AJ];intro c;exact q (by rwa [Dm]at c)
   have b:0<f:=by
    rcases GW f with z|z
    ·subst z;simp at a;omega
    ·exact z
   rw [e,dif_neg q,if_neg (by decide),uC f (n /10) _ (by rw [D6]at a;omega) b];simp
theorem jZ (n:Nat)(a:n<18446744073709551616):KN n=Df n:=by
 have:=uC 20 n [] (by omega) (by omega);rw [BP]at this;exact this
theorem VQ (u:Nat)(w:Y)(a:u<18446744073709551616)(b:Mg w):
 As prog 82 #[V Jc u,V Ad 10] w fun e w'=>e=Ak (Aa (str (KN u)))∧Ext w w':=by
 rw [jZ u a];have c:=D (jY u w a b);clear b;go_enter func82,ntmps82;go_wp2_with (go_at_call 124;refine c.mono ?_;rintro e w' ⟨rfl,d⟩);go_ret;exact⟨rfl,d⟩
def qc (t:Tk):Array h:= #[V Ad t.kind,Aa (str t.text),V Af t.num,V Ad t.pos]
def TK:Array h:= #[V Ad 0,Aa ⟨#[]⟩,V Af 0,V Ad 0]
theorem TL:(prog.info? 85).map (·.size)=some 4:=by kernel_rfl
def ZO (w:Y)(t:Tk)(n:Nat)(e:BX)(w':Y):Prop:=e=Ak (AZ #[AN (qc t),V Ad (n:Int)])∧Ext w w'
theorem R3 (k n a:Int)(s:ByteArray)(w:Y):(D8 85 #[(0,V Ad k),(1,Aa s),(2,V Af n),(3,V Ad a)]).run prog w=Ez (AN #[V Ad k,Aa s,V Af n,V Ad a]) w:=by kernel_rfl
theorem ja (a:Int)(w:Y):(D8 85 #[(3,V Ad a)]).run prog w=Ez (AN #[V Ad 0,Aa ⟨#[]⟩,V Af 0,V Ad a]) w:=by kernel_rfl
theorem Z8 (t:Tk):(qc t).all (·.oneCell')=true:=by simp [qc,CT]
theorem zO6 (S:ByteArray)(at_:Nat)(w:Y)(a:at_=S.size)(b:S.size≤100000):
 As prog 47 #[Aa S,V Ad at_] w (ZO w ⟨0,[],0,at_⟩ at_):=by
 subst a;have c:=fun W=>ja (S.size:Int) W
 go_enter Gm,Fz;go_wp2;refine Ow EU D7 TL (Aj w _) ⟨rfl,(Ext.refl w).alloc _⟩
theorem Z9 (S:ByteArray)(n:Nat):S.extract n S.size=str ((bs S).drop n):=by rw [←fQ,VD]
theorem dM (l:Bs)(n:Nat):(str l).extract 0 n=str (l.take n):=by
 apply DS;apply F9.1;rw [Er,ES,DY];simp [str]
theorem XX (p:UInt8→Bool):∀ l:Bs,Mx p l≤l.length
 |[]=>Aw _
 |c::a=>by
  rw [Mx];split
  ·have:=XX p a;simp;omega
  ·simp
theorem yh (S:ByteArray)(at_:Nat)(w:Y)(B:at_≤S.size)(C:S.size≤100000)(p:Mg w)(c:UInt8)(a:Bs)(g:(bs S).drop at_=c::a)(hc:OC c=true)(n:Nat)
 (d:n=Mx (Pq true) (c::a)) (r:(UE ((c::a).take n)||A6 n 12)=true):
 As prog 47 #[Aa S,V Ad at_] w (ZO w ⟨1,(c::a).take n,0,at_⟩ (at_+n)):=by
 have h:=D (Z9 S at_);have i:=D (fun W=>zH9 S at_ true W B C);have j:=D (dM ((bs S).drop at_) n);rw [g]at h i j;rw [←d]at i;have E:n≤(str (c::a)).size:=by rw [d,KO];exact XX _ _
 have hlen:0<(str (c::a)).size:=by rw [KO];simp
 have M:at_<S.size:=by
  rcases Dg at_ S.size with q|q
  ·exact q
  ·rw [YW (by omega)]at g;cases g
 have N:(str (c::a)).size≤100000:=by rw [←h,DO];omega
 have O:(((str (c::a))[0]'hlen).toNat:Int)=(c.toNat:Int):=rfl;have P:97≤(c.toNat:Int):=by unfold OC at hc;simp at hc;omega
 have Q:(c.toNat:Int)≤122:=by unfold OC at hc;simp at hc;omega
 have T:((at_:Int)==(S.size:Int))=false:=by simp;omega
 have f:=D (fun(W:Y) (x:Ext w W)=>ZN ((c::a).take n) W (p.ext x));have hid:UE ((c::a).take n)=false→Mt ((c::a).take n)=true:=by
  intro q;rw [q,Bool.false_or]at r;have U:n≤12:=by simpa using r
  have F:∀ (l:Bs),∀x∈l.take (Mx (Pq true) l),Pq true x=true:=by
   intro l
   induction l with
   |nil=>intro x b;simp at b
   |cons X m G=>
    intro x b;rw [Mx]at b;split at b
    ·rename_i hy;rw [DL]at b;rcases AH.1 b with rfl|b
     ·exact hy
     ·exact G x b
    ·simp at b
  have s:=F (c::a);rw [←d]at s;have Z:1≤n:=by
   rw [d,Mx,if_pos (by unfold Pq;rw [hc];simp)];omega
  unfold Mt;rw [q];simp only [Bool.not_false,Bool.and_true,Ah];refine⟨?_,?_⟩
  ·obtain⟨m,rfl⟩:∃ m,n=m+1:=⟨n - 1,by omega⟩;rw [DL]at s ⊢;unfold Si;simp only [Ah,A7];refine⟨hc,fun x b=>?_⟩;have:=s x b;unfold Pq at this;simpa using this
  ·simp;omega
 have y:=D (fun(q:UE ((c::a).take n)=false) (W:Y) (x:Ext w W)=>Ot ((c::a).take n) W (p.ext x) (hid q));have H:(str ((c::a).take n)).size=n:=by rw [KO,BD,CJ (by rw [←KO];exact E)]
 obtain⟨o,z⟩:=JH ((c::a).take n);rw [←z]at j f y H ⊢;have h0:=fun W=>R3 1 0 (at_:Int) (str o) W
 generalize c.toNat=k at*
 generalize str (c::a)=R at*
 clear z hid r d g hc p;generalize(Jw UD).toArray=cz at*
 have t:=D (AP w (Ab TK 85) (Ab cz 9));cases u:UE o with
 |true=>
  rw [u]at f;go_enter Gm,Fz;go_upto_region 4 with(fail);rw [h];go_wp2_with fail;refine(i _).mono ?_
  rintro e I ⟨rfl,rfl⟩;go_wp2_with fail;rw [j];refine(f _ ((Ext.refl w).alloc _)).mono ?_
  rintro e K ⟨rfl,rfl⟩;go_wp2_with (refine CK rfl 85 _ _ rfl w.heap.size (qc ⟨1,o,0,at_⟩) rfl rfl 85 TK t TL rfl (Z8 _) ?_);refine Ow EU D7 TL (PO t) ⟨rfl,(((Ext.refl w).alloc _).alloc _).setRow (Aw _) _⟩
 |false=>
  rw [u]at f;go_enter Gm,Fz;go_upto_region 4 with(fail);rw [h];go_wp2_with fail;refine(i _).mono ?_
  rintro e I ⟨rfl,rfl⟩;go_wp2_with fail;rw [j];refine(f _ ((Ext.refl w).alloc _)).mono ?_
  rintro e K ⟨rfl,rfl⟩;go_wp2_with fail;refine(y u _ (((Ext.refl w).alloc _).alloc _)).mono ?_
  rintro e h1 ⟨rfl,v⟩;have L:=D v;have A:=D (CE v t);clear v;go_wp2_with (refine CK rfl 85 _ _ rfl w.heap.size (qc ⟨1,o,0,at_⟩) rfl rfl 85 TK A TL rfl (Z8 _) ?_);refine Ow EU D7 TL (PO A) ⟨rfl,((((Ext.refl w).alloc _).alloc _).trans L).setRow (Aw _) _⟩
def PD (acc:Nat)(l:Bs):Nat:=l.foldl (fun n c=>n*10+(c.toNat - 48)) acc
theorem oh:∀ (l:Bs)(acc:Nat),acc≤PD acc l
 |[],acc=>Aw _
 |c::l,acc=>by
  have:=oh l (acc*10+(c.toNat - 48));unfold PD at this ⊢;rw [IP];omega
theorem om:∀ (l:Bs)(acc:Nat),(∀c∈l,K4 c=true)→PD acc l<4294967296→Lib.parseUintM 4294967295 acc l=.ok (PD acc l)
 |[],acc,_,_=>rfl
 |c::l,acc,a,b=>by
  have hc:=a c (by simp);unfold K4 at hc;simp only [Ah,decide_eq_true_eq]at hc;have e:PD acc (c::l)=PD (acc*10+(c.toNat - 48)) l:=rfl;have hle:=oh l (acc*10+(c.toNat - 48));rw [e]at b ⊢;rw [Lib.parseUintM,if_pos hc,if_neg (by omega),if_neg (by omega)];exact om l _ (fun x d=>a x (by simp [d])) b
theorem fT (c:UInt8)(a:K4 c=true):I9 (48+(c.toNat - 48))=c:=by
 unfold K4 at a;simp only [Ah,decide_eq_true_eq]at a;apply CH.1;rw [UInt8.toNat_ofNat'];omega
theorem zO7:∀ (k:Nat)(l:Bs),l.length=k+1→(∀c∈l,K4 c=true)→(k=0∨∀ c,l.head? =some c→c≠48)→Df (PD 0 l)=l∧(k≠0→10 ^k≤PD 0 l):=by
 intro k
 induction k with
 |zero=>
  intro l d a _;obtain⟨c,rfl⟩:=List.length_eq_one_iff.1 d;have hc:=a c (by simp);have f:=fT c hc;unfold K4 at hc;simp only [Ah,decide_eq_true_eq]at hc;refine⟨?_,fun q=>absurd rfl q⟩;have e:PD 0 [c]=c.toNat - 48:=by unfold PD;simp
  rw [e,Df,dif_pos (by omega),f]
 |succ k j=>
  intro l d a n;rcases List.eq_nil_or_concat l with rfl|⟨m,c,rfl⟩
  ·simp at d
  ·rw [List.concat_eq_append]at*
   have h:m.length=k+1:=by simpa using d
   have hc:=a c (by simp);have f:=fT c hc;unfold K4 at hc;simp only [Ah,decide_eq_true_eq]at hc;have i:∀ x,m.head? =some x→x≠48:=by
    intro x g;rcases n with q|q
    ·omega
    ·exact q x (by rw [List.head?_append,g];rfl)
   obtain⟨h1,o⟩:=j m h (fun x g=>a x (by simp [g])) (AB i);have e:PD 0 (m++[c])=PD 0 m*10+(c.toNat - 48):=by unfold PD;rw [FB];rfl
   have u:10 ^k≤PD 0 m:=by
    rcases GW k with z|z
    ·subst z;obtain⟨b,rfl⟩:=List.length_eq_one_iff.1 h;have hy:=a b (by simp);have p:=i b rfl;unfold K4 at hy;simp only [Ah,decide_eq_true_eq]at hy;have r:PD 0 [b]=b.toNat - 48:=by unfold PD;simp
     rw [r];have:b.toNat≠48:=fun q=>p (CH.1 (by rw [q];rfl))
     simp;omega
    ·exact o (by omega)
   have v:0<10 ^k:=Nat.pow_pos (by omega);refine⟨?_,fun _=>by rw [e,D6];omega⟩;rw [e,Df,dif_neg (by omega)];have s:(PD 0 m*10+(c.toNat - 48)) /10=PD 0 m:=by omega
   have t:(PD 0 m*10+(c.toNat - 48)) %10=c.toNat - 48:=by omega
   rw [s,t,h1,f]
theorem XY {d:Bs}{v:Nat}(a:Ud d=some v)(e:∀ c∈d,K4 c=true):v<4294967296∧GY 32 d=.ok v∧KN v=d:=by
 have key:v=PD 0 d∧v<4294967296∧d≠[]∧(d.length=1∨∀ c,d.head? =some c→c≠48):=by
  unfold Ud at a;split at a
  ·cases a
  ·rename_i c;cases a;have:=Fw c;exact⟨by unfold PD;simp,by omega,by simp,AO rfl⟩
  ·rename_i c l _;split at a
   ·cases a
   ·rename_i hc;split at a
    ·rename_i b;cases a;exact⟨rfl,b,by simp,AB fun x h=>by cases h;exact hc⟩
    ·cases a
 obtain⟨b,f,g,i⟩:=key;refine⟨f,?_,?_⟩
 ·unfold GY;rw [if_neg g,show(2:Nat) ^32 - 1=4294967295 from rfl,b];exact om d 0 e (by rw [←b];exact f)
 ·rw [jZ v (by omega),b];obtain⟨k,j⟩:∃ k,d.length=k+1:=⟨d.length - 1,by have:=List.length_pos_iff.2 g;omega⟩;exact(zO7 k d j e (i.imp (fun q=>by omega) id)).1
theorem aB (d:Bs)(v:Nat)(w:Y)(b:d.length≤100000)(a:GY 32 d=.ok v):
 As prog 81 #[Aa (str d),V Ad 10,V Ad 32] w fun e w'=>e=Ak (AZ #[V Jc v,.nilIface])∧Ext w w':=by
 refine(strconv_ParseUint_10_at32_ok (str d) (by rw [KO];omega) v (by rw [show(str d).data.toList=d from L6 d];exact a) w).mono ?_
 rintro e w' ⟨rfl,rfl|rfl⟩
 ·exact⟨rfl,Ext.refl _⟩
 ·exact⟨rfl,Lib.bytesWorld_below w 5 (str d)⟩
theorem dN (p:UInt8→Bool):∀ l:Bs,∀x∈l.take (Mx p l),p x=true
 |[],x,a=>by simp at a
 |b::m,x,a=>by
  rw [Mx]at a;split at a
  ·rename_i hy;rw [DL]at a;rcases AH.1 a with rfl|a
   ·exact hy
   ·exact dN p m x a
  ·simp at a
theorem zO8 (S:ByteArray)(at_:Nat)(w:Y)(F:at_≤S.size)(G:S.size≤100000)(m:Mg w)(c:UInt8)(a:Bs)(b:(bs S).drop at_=c::a)(hc:K4 c=true)(n:Nat)
 (d:n=Mx (Pq false) (c::a)) (v:Nat) (o:Ud ((c::a).take n)=some v):
 As prog 47 #[Aa S,V Ad at_] w (ZO w ⟨2,(c::a).take n,v,at_⟩ (at_+n)):=by
 have f:=D (Z9 S at_);have g:=D (fun W=>zH9 S at_ false W F G);have h:=D (dM ((bs S).drop at_) n);rw [b]at f g h;rw [←d]at g;have H:n≤(str (c::a)).size:=by rw [d,KO];exact XX _ _
 have hlen:0<(str (c::a)).size:=by rw [KO];simp
 have M:at_<S.size:=by
  rcases Dg at_ S.size with q|q
  ·exact q
  ·rw [YW (by omega)]at b;cases b
 have N:(str (c::a)).size≤100000:=by rw [←f,DO];omega
 have O:(((str (c::a))[0]'hlen).toNat:Int)=(c.toNat:Int):=rfl;have P:48≤(c.toNat:Int):=by unfold K4 at hc;simp at hc;omega
 have Q:(c.toNat:Int)≤57:=by unfold K4 at hc;simp at hc;omega
 have T:(c.toNat:Int)<97:=by omega
 have U:((at_:Int)==(S.size:Int))=false:=by simp;omega
 have p:∀ x∈(c::a).take n,K4 x=true:=by
  intro x r;rw [d]at r;have:=dN (Pq false) (c::a) x r;unfold Pq at this;simpa using this
 obtain⟨X,s,t⟩:=XY o p;have Z:Af.wrap (v:Int)=v:=by rw [Eg];omega
 have h0:((v:Int) %4294967296)=v:=by omega
 have u:(str ((c::a).take n)).size=n:=by rw [KO,BD,CJ (by rw [←KO];exact H)]
 have y:((c::a).take n).length≤100000:=by rw [←KO,u];omega
 have z:=D (fun W=>aB ((c::a).take n) v W y s);have i:=D (fun(W:Y) (x:Ext w W)=>VQ v W (by omega) (m.ext x));rw [t]at i;obtain⟨A,B⟩:=JH ((c::a).take n);rw [←B]at h z i u ⊢;have h1:=fun W=>R3 2 v (at_:Int) (str A) W
 generalize c.toNat=k at*
 generalize str (c::a)=R at*
 have I:=D (Aj w (Ab TK 85));clear B d b hc m p o s t y;go_enter Gm,Fz;go_upto_region 4 with(fail);rw [f];go_wp2_with fail;refine(g _).mono ?_
 rintro e h2 ⟨rfl,rfl⟩;go_wp2_with fail;rw [h];refine(z _).mono ?_
 rintro e h3 ⟨rfl,j⟩;have C:=D (((Ext.refl w).alloc _).trans j);have K:=D (CE j I);clear j;go_wp2_with fail;refine(i _ C).mono ?_
 rintro e h4 ⟨rfl,l⟩;have L:=D (C.trans l);have E:=D (CE l K);clear l;go_wp2_with (refine CK rfl 85 _ _ rfl w.heap.size (qc ⟨2,A,v,at_⟩) rfl rfl 85 TK E TL rfl (Z8 _) ?_);refine Ow EU D7 TL (PO E) ⟨rfl,L.setRow (Aw _) _⟩
theorem uD (S:ByteArray)(at_:Nat)(w:Y)(m:at_≤S.size)(n:S.size≤100000)(x:UInt8)(a:Bs)(b:(bs S).drop at_=39::x::39::a)(h1:32≤x.toNat)(h:x.toNat≤126)(e:x≠39)(f:x≠92):
 As prog 47 #[Aa S,V Ad at_] w (ZO w ⟨2,[39,x,39],x.toNat,at_⟩ (at_+3)):=by
 have c:=D (Z9 S at_);have d:=D (dM ((bs S).drop at_) 3);rw [b]at c d;have o:3≤(str (39::x::39::a)).size:=by rw [KO];simp
 have p:at_<S.size:=by
  rcases Dg at_ S.size with q|q
  ·exact q
  ·rw [YW (by omega)]at b;cases b
 have r:(str (39::x::39::a)).size≤100000:=by rw [←c,DO];omega
 have i:0<(str (39::x::39::a)).size:=by omega
 have j:1<(str (39::x::39::a)).size:=by omega
 have q2:2<(str (39::x::39::a)).size:=by omega
 have s:(((str (39::x::39::a))[0]'i).toNat:Int)=39:=rfl;have t:(((str (39::x::39::a))[1]'j).toNat:Int)=(x.toNat:Int):=rfl;have u:(((str (39::x::39::a))[2]'q2).toNat:Int)=39:=rfl;have v:32≤(x.toNat:Int):=by omega
 have y:(x.toNat:Int)≤126:=by omega
 have z:((x.toNat:Int) != 39)=true:=by
  have:x.toNat≠39:=fun q=>e (CH.1 q)
  simp;omega
 have A:((x.toNat:Int) != 92)=true:=by
  have:x.toNat≠92:=fun q=>f (CH.1 q)
  simp;omega
 have B:((at_:Int)==(S.size:Int))=false:=by simp;omega
 have C:Af.wrap (x.toNat:Int)=(x.toNat:Int):=by rw [Eg];omega
 have E:((x.toNat:Int) %4294967296)=(x.toNat:Int):=by omega
 have F:=fun W=>R3 2 x.toNat (at_:Int) ((str (39::x::39::a)).extract 0 3) W
 have g:(39::x::39::a).take 3=[39,x,39]:=rfl;rw [g]at d;generalize l:[39,x,39]=T at*
 generalize x.toNat=k at*
 generalize str (39::x::39::a)=R at*
 have G:=D (Aj w (Ab TK 85));clear l b h1 h e f g;go_enter Gm,Fz;go_upto_region 4 with(fail);rw [c];go_upto_region 18 with(fail)
 go_region
 all_goals go_wp2
 all_goals refine Ow EU D7 TL (by rw [qc,←d];exact Aj w _) ⟨rfl,((Ext.refl w).alloc _).drew⟩
theorem pre_eq:∀ (x l:Bs),Fe l x=OW x l
 |[],l=>by simp [Fe,OW]
 |a::x,[]=>by simp [Fe,OW,List.isPrefixOf]
 |a::x,b::l=>by
  have c:=pre_eq x l;unfold Fe at c ⊢;rw [List.isPrefixOf,OW,c];congr 1;rw [Bl,beq_iff_eq,Nat.beq_eq];exact⟨fun q=>by rw [q],fun q=>CH.1 q⟩
def zI2:Bs:=[60,60,32,62,62,32,61,61,32,33,61,32,60,61,32,62,61,32,38,38,32,124,124,32,43,32,45,32,42,32,47,32,37,32,38,32,124,32,94,32,126,32,33,32,60,32,62,32,61,32,40,32,41,32,91,32,93,32,123,32,125,32,44,32,59]
theorem yj:F6 zI2=Ry:=by decide+kernel
theorem yt {α:Type}(p:α→Bool)(l:List α)(j:Nat)(x:α)(a:l[j]?= some x):(l.drop j).find? p=if p x then some x else(l.drop (j+1)).find? p:=by
 obtain⟨h1,b⟩:=Ao.1 a;rw [AR h1,b,List.find?_cons];cases p x<;>rfl
theorem yu (S:ByteArray)(at_:Nat)(w:Y)(P:at_≤S.size)(Q:S.size≤100000)(n:Mg w)(c:UInt8)(b:Bs)(g:(bs S).drop at_=c::b)(h1:OC c=false)(h:K4 c=false)(o:c≠39)
 (x:Bs) (p:Ry.find? (fun x=>OW x (c::b))=some x):
 As prog 47 #[Aa S,V Ad at_] w (ZO w ⟨3,x,0,at_⟩ (at_+x.length)):=by
 have i:=D (Z9 S at_);rw [g]at i;have hlen:0<(str (c::b)).size:=by rw [KO];simp
 have T:at_<S.size:=by
  rcases Dg at_ S.size with q|q
  ·exact q
  ·rw [YW (by omega)]at g;cases g
 have U:(str (c::b)).size≤100000:=by rw [←i,DO];omega
 have X:(((str (c::b))[0]'hlen).toNat:Int)=(c.toNat:Int):=rfl;have Z:((at_:Int)==(S.size:Int))=false:=by simp;omega
 have h0:((c.toNat:Int)==39)=false:=by
  have:c.toNat≠39:=fun q=>o (CH.1 q)
  simp;omega
 have h2:¬ (97≤c.toNat∧c.toNat≤122):=by unfold OC at h1;simpa using h1
 have h3:¬ (48≤c.toNat∧c.toNat≤57):=by unfold K4 at h;simpa using h
 have r:=D (fun W (x:Ext w W)=>YY zI2 Ry W (n.ext x) yj (by decide) (by decide));have C:=D (fun(a:Bs) W=>strings_HasPrefix (str (c::b)) (str a) W);have E:=D (fun(a:Bs)=>(show Fe (str (c::b)).data.toList (str a).data.toList=OW a (c::b)from by rw [show(str (c::b)).data.toList=c::b from L6 _,show(str a).data.toList=a from L6 _,pre_eq]));have F:=D p;have l:Ry.length=29:=rfl;have t:=D l;rw [l]at r;generalize u:(fun x=>OW x (c::b))=pp at*
 have G:AA (∀a,OW a (c::b)=pp a):=D (fun a=>by rw [←u]);have v:∀ a∈Ry,a.length≤2:=by decide
 have H:=D v;have I:=D (fun(j:Nat) (a:Bs) (y:Ry[j]?= some a)=>WR (Aj (w.alloc (Ab TK 85)) (Ab (Jw Ry).toArray 9)) y);have z:=D (AP w (Ab TK 85) (Ab (Jw Ry).toArray 9));generalize(Jw Ry).toArray=cz at*
 generalize c.toNat=k at*
 generalize str (c::b)=R at*
 generalize Ry=L at*
 clear u g n h1 h o p v l;by_cases h4:97≤k<;>by_cases h5:48≤k<;>by_cases h6:k≤57
 all_goals first|(exfalso;omega)|skip
 all_goals
  go_enter Gm,Fz;go_upto_region 4 with(fail);rw [i]
 all_goals
  go_wp2_with fail;refine(r _ ((Ext.refl w).alloc _)).mono ?_
  rintro e h7 ⟨rfl,rfl⟩;go_wp2_with fail
  go_loop [13,136] (fun _ s=>∃ j:Nat,s=V Ad j∧j≤29∧AA ((L.drop j).find? pp=some x)) (fun _ s=>29 - (AX s).toNat)
  case atStart=>exact⟨0,rfl,by omega,F⟩
  case round=>
   obtain⟨j,rfl,y,m⟩:=hrel;by_cases K:j<29
   ·obtain⟨a,hy⟩:∃ a,L[j]?= some a:=⟨L[j]'(by rw [t];exact K),Al _⟩
    have A:=I j a hy;rw [E3]at A;unfold TK at A;have B:=D (yt pp L j a hy);have h8:=H a (AD hy);have f:=D (fun W=>C a W);rw [E a,G a]at f;have M:=KO a;have h9:=fun W=>R3 3 0 (at_:Int) (str a) W
    clear hy;cases d:pp a with
    |true=>
     have N:a=x:=by
      have:=m.out;rw [B,d,if_pos rfl]at this;exact DJ this
     subst N;rw [d]at f;clear d;go_wp2_with (first|(go_at_call 84;refine(f _).mono ?_;rintro e w' ⟨rfl,rfl⟩)|refine CK rfl 85 _ _ rfl w.heap.size (qc ⟨3,a,0,at_⟩) rfl rfl 85 TK z TL rfl (Z8 _) ?_);refine Ow EU D7 TL (PO z) ⟨?_,(((Ext.refl w).alloc _).alloc _).setRow (Aw _) _⟩;simp [M]
    |false=>
     rw [d]at f;have O:AA ((L.drop (j+1)).find? pp=some x):=D (by
      have:=m.out
      rw [B,d]at this
      simpa using this)
     clear d;go_wp2_with (go_at_call 84;refine(f _).mono ?_;rintro e w' ⟨rfl,rfl⟩)
     go_round
     case rel=>exact⟨j+1,by go_num,by omega,O⟩
     case measure=>simp [AX];omega
   ·exfalso;have:=m.out;rw [DM (by rw [t];omega)]at this;cases this
theorem uH:Pq true=fun c=>K4 c||OC c:=by funext c;simp [Pq]
theorem aC:Pq false=K4:=by funext c;simp [Pq]
theorem z19 (S:ByteArray)(at_:Nat)(w:Y)(e:at_≤S.size)(d:S.size≤100000)(f:Mg w)(t:Tk)(n:Nat)(a:Vk ((bs S).drop at_) at_=some (t,n)):
 As prog 47 #[Aa S,V Ad at_] w (ZO w t (at_+n)):=by
 obtain⟨L,b⟩:=JH ((bs S).drop at_);rw [←b]at a;unfold Vk at a;split at a
 ·cases a;have j:at_=S.size:=by
   rcases Dg at_ S.size with q|q
   ·rw [jP q]at b;cases b
   ·omega
  exact zO6 S at_ w j d
 ·rename_i c g;split at a
  ·rename_i hc;rw [←uH]at a;dsimp only at a;split at a
   ·rename_i k;cases a;exact yh S at_ w e d f c g b.symm hc _ rfl k
   ·cases a
  ·rename_i hc;split at a
   ·rename_i h;rw [←aC]at a;dsimp only at a;split at a
    ·rename_i v l;cases a;exact zO8 S at_ w e d f c g b.symm h _ rfl v l
    ·cases a
   ·rename_i h;split at a
    ·rename_i i;subst i;split at a
     ·rename_i x s m;split at a
      ·rename_i o;obtain⟨rfl,p,q2,q3,q4⟩:=o;cases a;exact uD S at_ w e d x m b.symm p q2 q3 q4
      ·cases a
     ·cases a
    ·rename_i i;split at a
     ·rename_i x r;cases a;exact yu S at_ w e d f c g b.symm (by simpa using hc) (by simpa using h) i x r
     ·cases a
theorem zP0 {l:Bs}{p:Nat}{t:Tk}{n:Nat}(d:Vk l p=some (t,n)):n≤l.length∧t.pos=p∧t.num<4294967296:=by
 unfold Vk at d;split at d
 ·cases d;exact⟨by simp,rfl,by simp⟩
 ·rename_i c g;split at d
  ·dsimp only at d;split at d
   ·cases d;exact⟨XX _ _,rfl,by simp⟩
   ·cases d
  ·split at d
   ·rename_i o;rw [←aC]at d;dsimp only at d;split at d
    ·rename_i v h;cases d;refine⟨XX _ _,rfl,?_⟩;exact(XY h (fun x e=>by have:=dN (Pq false) (c::g) x e;unfold Pq at this;simpa using this)).1
    ·cases d
   ·split at d
    ·split at d
     ·split at d
      ·rename_i x i q r;cases d;exact⟨by simp,rfl,by have:=Fw x;show x.toNat<_;omega⟩
      ·cases d
     ·cases d
    ·split at d
     ·rename_i x e;cases d;have j:=List.find?_some e;have k:∀ (a b:Bs),OW a b=true→a.length≤b.length:=by
       intro a
       induction a with
       |nil=>intro b _;simp
       |cons i a m=>
        intro b f;cases b with
        |nil=>simp [OW]at f
        |cons z b=>
         rw [OW,Ah]at f;have:=m b f.2
         simp;omega
      exact⟨k _ _ j,rfl,by simp⟩
     ·cases d
abbrev PX (g:Nat):Y→Y→Prop:=JK (fun k=>k=g)
def zI3 (w:Y)(g:Nat)(S:ByteArray)(q:PS)(e:BX)(w':Y):Prop:=e=Ak (AZ #[])∧jQ w' g S q∧PX g w w'
theorem zb4 {w a:Y}{g:Nat}{S:ByteArray}{p:PS}{t:Tk}{k n:Nat}(c:Ext w a)(d:a.heap[g]?= some (Ab (psC S p) 87 (0,0)))(e:p.rest=(bs S).drop p.off)(b:t.pos=p.off+k)(f:p.off+k+n≤S.size)(h:p.off+k≤S.size):
 zI3 w g S ⟨t,Jn n (Jn k p.rest),p.off+k+n⟩ (Ak (AZ #[])) (((((a.setCell ⟨g,1,none⟩ (V Ad t.kind)).setCell ⟨g,2,none⟩ (Aa (str t.text))).setCell ⟨g,3,none⟩ (V Af t.num)).setCell ⟨g,4,none⟩ (V Ad ((p.off:Int)+k))).setCell ⟨g,5,none⟩ (V Ad ((p.off:Int)+k+n))):=by
 refine⟨rfl,⟨?_,?_,f,by rw [b];exact h⟩,?_⟩
 ·rw [JJ (JJ (JJ (JJ (JJ d 1 _) 2 _) 3 _) 4 _) 5 _];simp [psC,b]
 ·show Jn n (Jn k p.rest)=Jn (p.off+k+n) (bs S)
  rw [e,ET,ET,H8]
 ·exact((((((Gl (G:=fun k=>k=g) c).setCell (p:=⟨g,1,none⟩) (AB rfl) _).setCell (p:=⟨g,2,none⟩) (AB rfl) _).setCell (p:=⟨g,3,none⟩) (AB rfl) _).setCell (p:=⟨g,4,none⟩) (AB rfl) _).setCell (p:=⟨g,5,none⟩) (AB rfl) _)
theorem yx (g:Nat)(S:ByteArray)(p q:PS)(w:Y)(d:jQ w g S p)(R:S.size≤12000)(y:Mg w)(i:Kh p=some q):
 As prog 32 #[Ae (some ⟨g,0,none⟩)] w (zI3 w g S q):=by
 have z:∀ (b:Bool) (l:Bs),KZ b l≤l.length:=by
  intro b l
  induction l generalizing b with
  |nil=>cases b<;>simp [KZ]
  |cons c l F=>
   cases b<;>simp only [KZ]
   all_goals (repeat' split)
   all_goals simp
   all_goals exact F _
 obtain⟨k,m⟩:=JH (KZ false p.rest);have A:=z false p.rest;rw [←m,d.r,Cr,VC]at A;have T:=d.o;unfold Kh at i;simp only [←m]at i;split at i
 ·rename_i t n s;cases i;rw [d.r,ET]at s;obtain⟨G,H,U⟩:=zP0 s;rw [Cr,VC]at G;have B:=D (fun W=>z16 S p.off W d.o (by omega));rw [←d.r,←m]at B;have v:=D (fun(W:Y) (x:Ext w W)=>z19 S (p.off+k) W (by omega) (by omega) (y.ext x) t n s);have c0:=bk d.b 0;have I:=bk d.b 5;have L:=D d.b;have M:=D d.r;have X:g<w.heap.size:=(Ag.1 d.b).1;unfold ZO qc at v;have Z:(p.off:Int)+k<100000:=by omega
  have N:((p.off+k:Nat):Int)=(p.off:Int)+k:=by omega
  rw [N]at v;have O:p.off+k≤S.size:=by omega
  have P:p.off+k+n≤S.size:=by omega
  clear m s A d z y;go_enter func32,ntmps32;have C:∀ {W:Y},Ext w W→W.cell? ⟨g,0,none⟩=some (Aa S)∧W.cell? ⟨g,5,none⟩=some (V Ad p.off):=fun x=>⟨Ext.cell x c0,Ext.cell x I⟩
  refine JX.go (fun W=>W.cell? ⟨g,0,none⟩=some (Aa S)∧W.cell? ⟨g,5,none⟩=some (V Ad p.off)) [24] (C (Ext.refl w).drew) (fun a=>?_)
  iterate 5 refine JC a ?_
  refine JP a (fun w j=>j.1) ?_
  iterate 3 refine JC a ?_
  refine JP a (fun w j=>j.1) ?_
  iterate 3 refine JC a ?_
  refine JP a (fun w j=>j.2) ?_
  try simp only [Au,pA,pB,pC]
  refine JM (fun K f=>?_);go_simp;(with_reducible refine(B.out _).mono ?_)
  rintro e h0 ⟨rfl,rfl⟩;refine f.out _ _ a (fun a=>?_);clear f
  try simp only [Au,pA,pB,pC]
  refine JM (fun K f=>?_);go_simp;(with_reducible refine(v.out _ (Ext.refl w).drew).mono ?_)
  rintro e h1 ⟨rfl,E⟩;have u:=(Ext.refl w).drew.trans E;refine f.out _ _ (C u) (fun a=>?_);clear f E
  iterate 5 refine JC a ?_
  have Q:=D u;have h:=D (CE u L.out);have h2:=bk h.out 1;have f1:=JF h.out 1;have h3:=bk h.out 2;have f2:=JF h.out 2;have h4:=bk h.out 3;have h5:=JF h.out 3;have h6:=bk h.out 4;have h7:=JF h.out 4;have h8:=bk h.out 5;have h9:=JF h.out 5;clear u a
  try simp only [Au,pA,pB,pC]
  refine JM (fun K f=>?_);go_simp;refine f.out _ _ ?_ (fun a=>?_)
  ·have d:=JJ (JJ (JJ (JJ h.out 1 (V Ad t.kind)) 2 (Aa (str t.text))) 3 (V Af t.num)) 4 (V Ad ((p.off:Int)+k));exact⟨JA d 0,JA d 5⟩
  clear f
  try simp only [Au,pA,pB,pC]
  refine JM (fun K f=>?_);go_simp;refine f.out _ _ a (fun a=>?_);clear f
  try simp only [Au,pA,pB,pC]
  refine JC a ?_
  try simp only [Au,pA,pB,pC]
  refine JX.fn (fun K f=>?_);go_simp;refine f.out _ _ ?_
  clear f
  try simp only [Au,pA,pB,pC]
  refine JV ?_
  go_wp2_with fail;go_end0;exact zb4 Q.out h.out M.out H P O
 ·cases i
structure PW (w:Y) (g:Nat) (S:ByteArray) (p:PS):Prop where
 at_:jQ w g S p
 tab:Mg w
 g13:13≤g
 hs:S.size≤12000
section
variable {w w' w'':Y}{g:Nat}{S:ByteArray}{p q:PS}
theorem PW.ext (a:PW w g S p)(e:Ext w w'):PW w' g S p:=⟨a.at_.ext e,a.tab.ext e,a.g13,a.hs⟩
theorem PW.step (b:PW w g S p)(x:PX g w w')(a:jQ w' g S q):PW w' g S q:=⟨a,b.tab.upd x (fun k c=>by rw [c];exact b.g13),b.g13,b.hs⟩
theorem PW.lt (a:PW w g S p):g<w.heap.size:=(Ag.1 a.at_.b).1
end
def fU (w:Y)(g:Nat)(S:ByteArray)(q:PS)(v:h)(e:BX)(w':Y):Prop:=e=Ak v∧PW w' g S q∧PX g w w'
theorem Uh {w:Y}{g:Nat}{S:ByteArray}{p q:PS}(a:PW w g S p)(c:Kh p=some q):As prog 32 #[Ae (some ⟨g,0,none⟩)] w (fU w g S q (AZ #[])):=
 (yx g S p q w a.at_ a.hs a.tab c).mono fun _ _ b=>⟨b.1,a.step b.2.2 b.2.1,b.2.2⟩
theorem J8 {w:Y}{g:Nat}{S:ByteArray}{p:PS}{s:Bs}(a:PW w g S p)(b:JZ s p=false):As prog 49 #[Ae (some ⟨g,0,none⟩),Aa (str s)] w (Ret (AE false) w):=by
 have c:=D (zI0 g S p s w a.at_);rw [b]at c;generalize str s=s1 at*
 clear a b;go_enter func49,ntmps49;go_wp2_with (go_at_call 86;refine c.mono ?_;rintro e w' ⟨rfl,rfl⟩);go_ret;exact⟨rfl,rfl⟩
theorem LU {w:Y}{g:Nat}{S:ByteArray}{p q:PS}{s:Bs}(a:PW w g S p)(b:JZ s p=true)(c:Kh p=some q):As prog 49 #[Ae (some ⟨g,0,none⟩),Aa (str s)] w (fU w g S q (AE true)):=by
 have d:=D (zI0 g S p s w a.at_);have f:=D (Uh a c);rw [b]at d;generalize str s=s1 at*
 clear a b c;go_enter func49,ntmps49;go_wp2_with (first|(go_at_call 86;refine d.mono ?_;rintro e w' ⟨rfl,rfl⟩)|(go_at_call 32;refine f.mono ?_;rintro e w' ⟨rfl,h,i⟩));go_ret;exact⟨rfl,h,i⟩
theorem uI {s:Bs}{p q:PS}{b:Bool}(a:QO s p=some (b,q)):(b=false∧q=p∧JZ s p=false)∨(b=true∧JZ s p=true∧Kh p=some q):=by
 unfold QO at a;split at a
 ·rename_i c;split at a
  ·rename_i e d;cases a;exact AB ⟨rfl,c,d⟩
  ·cases a
 ·rename_i c;cases a;exact AO ⟨rfl,rfl,by simpa using c⟩
theorem dO {w:Y}{g:Nat}{S:ByteArray}{p q:PS}{s:Bs}{b:Bool}(a:PW w g S p)(d:QO s p=some (b,q)):As prog 49 #[Ae (some ⟨g,0,none⟩),Aa (str s)] w (fU w g S q (AE b)):=by
 rcases uI d with⟨rfl,rfl,c⟩|⟨rfl,c,f⟩
 ·refine(J8 a c).mono ?_
  rintro e w' ⟨rfl,rfl⟩;exact⟨rfl,a,JK.refl _⟩
 ·exact LU a c f
theorem zP1 {s:Bs}{p q:PS}(a:KD s p=some q):QO s p=some (true,q):=by
 unfold KD at a;unfold QO;split at a
 ·rename_i b;rw [if_pos b,a]
 ·cases a
def WS:List Bs→PS→Option PS
 |[],p=>some p
 |s::l,p=>match KD s p with
  |none=>none
  |some q=>WS l q
theorem oq {w:Y}{g:Nat}{S:ByteArray}{p q:PS}{l:List Bs}(m:PW w g S p)(a:WS l p=some q)(b o c:Nat)(z:b≠g)(A:l.length≤10)(hc:∀ j s,l[j]?= some s→w.cell? ⟨b,o+j,none⟩=some (Aa (str s))):
 As prog 88 #[Ae (some ⟨g,0,none⟩),J (some ⟨b,o,none⟩) l.length c] w (fU w g S q (AZ #[])):=by
 have B:=D hc;have C:=D m;have E:=D a;obtain⟨n,h⟩:=JH l.length;have r:=D h;rw [←h]at A ⊢;clear hc m a h;go_enter func88,ntmps88;go_wp2;go_loopw [5,8] (fun _ s wr=>∃ (j:Nat) (d:PS),s=V Ad j∧j≤n∧PW wr g S d∧PX g w wr∧AA (WS (l.drop j) d=some q)) (fun _ s _=>n - (AX s).toNat)
 case atStart=>exact⟨0,p,rfl,by omega,C,JK.refl _,E⟩
 case round=>
  obtain⟨j,d,rfl,M,t,f,u⟩:=hrel;have v:=D t;have i:=D f;clear t f;by_cases F:j<n
  ·obtain⟨s,k⟩:∃ s,l[j]?= some s:=⟨l[j]'(by rw [←r];exact F),Al _⟩
   have N:=i.cell (B j s k) z;have x:l.drop j=s::l.drop (j+1):=by
    obtain⟨h1,G⟩:=Ao.1 k;rw [AR h1,G]
   have a:=u.out;rw [x,WS]at a;split at a
   ·cases a
   ·rename_i H y;have I:=D (dO v (zP1 y));have K:=D a;clear a x y k;generalize str s=s1 at*
    go_wp2_with (go_at_call 49;refine I.mono ?_;rintro e w' ⟨rfl,L,f⟩);go_roundw
    case rel=>exact⟨j+1,H,by go_num,by omega,L,i.trans f,K⟩
    case measure=>simp [AX];omega
  ·have a:d=q:=by
    have:=u.out;rw [DM (by rw [←r];omega)]at this;exact DJ this
   subst a;go_wp2;go_end0;exact⟨rfl,v,i⟩
theorem UT {w:Y}{g:Nat}{S:ByteArray}{p:PS}(a:PW w g S p):As prog 129 #[Ae (some ⟨g,0,none⟩)] w fun e w'=>e=Ak (AE (Nn p))∧Ext w w':=by
 have c1:w.cell? ⟨g,1,none⟩=some (V Ad p.tok.kind):=JA a.at_.b 1
 have f:w.cell? ⟨g,2,none⟩=some (Aa (str p.tok.text)):=JA a.at_.b 2
 have d:=D (fun(W:Y) (x:Ext w W)=>ZN p.tok.text W (a.tab.ext x));have c:AA (Nn p=(decide (p.tok.kind=1)&& !UE p.tok.text)):=D (by
  unfold Nn
  congr 1
  rw [Bl];simp)
 generalize str p.tok.text=T at*
 clear a;by_cases h1:p.tok.kind=1
 ·rw [h1]at c1;go_enter func129,ntmps129;go_wp2_with fail;refine(d _ (Ext.refl w)).mono ?_
  rintro e w' ⟨rfl,rfl⟩;go_wp2_with fail;go_ret;refine⟨?_,(Ext.refl w).alloc _⟩;rw [c];simp [h1]
 ·have h:((p.tok.kind:Int)==1)=false:=by simp;omega
  generalize p.tok.kind=k at*
  go_enter func129,ntmps129;go_wp2_with fail;go_ret;refine⟨?_,Ext.refl w⟩;rw [c];simp [h1]
theorem TM {w:Y}{g:Nat}{S:ByteArray}{p q:PS}{s:Bs}(c:PW w g S p)(a:M0 p=some (s,q)):As prog 87 #[Ae (some ⟨g,0,none⟩)] w (fU w g S q (Aa (str s))):=by
 unfold M0 at a;split at a
 ·rename_i h;split at a
  ·rename_i t i;cases a;have j:=D (UT c);rw [h]at j;have l:=D (fun(W:Y) (x:Ext w W)=>Uh (c.ext x) i);have d:∀ W:Y,Ext w W→W.cell? ⟨g,2,none⟩=some (Aa (str p.tok.text)):=fun W x=>JA (CE x c.at_.b) 2
   have m:=D d;clear h i c d;generalize str p.tok.text=T at*
   go_enter func87,ntmps87;go_wp2_with fail;refine j.mono ?_
   rintro e n ⟨rfl,f⟩;have d:=m n f;have k:=D f;clear f;go_wp2_with fail;refine(l _ k).mono ?_
   rintro e u ⟨rfl,o,r⟩;go_wp2_with fail;go_ret;exact⟨rfl,o,(Gl k).trans r⟩
  ·cases a
 ·cases a
theorem YZ {w:Y}{g:Nat}{S:ByteArray}{p q:PS}{n:Nat}(c:PW w g S p)(a:QP p=some (n,q)):As prog 93 #[Ae (some ⟨g,0,none⟩)] w (fU w g S q (V Af n)):=by
 unfold QP at a;split at a
 ·rename_i d;split at a
  ·rename_i l f;cases a;have h:p.tok.kind=2:=Ap d;have c1:w.cell? ⟨g,1,none⟩=some (V Ad p.tok.kind):=JA c.at_.b 1
   rw [h]at c1;have m:w.cell? ⟨g,3,none⟩=some (V Af p.tok.num):=JA c.at_.b 3
   have i:=D (Uh c f);clear d f c h;generalize p.tok.num=T at*
   go_enter func93,ntmps93;go_wp2_with (go_at_call 32;refine i.mono ?_;rintro e w' ⟨rfl,j,k⟩);go_ret;exact⟨rfl,j,k⟩
  ·cases a
 ·cases a
theorem VR (s:Bs):∀ (l:List Bs)(k d:Nat),LK s l (k+d)=(LK s l k).map (· +d)
 |[],_,_=>rfl
 |x::l,k,d=>by
  rw [LK,LK];split
  ·rfl
  ·rw [show k+d+1=(k+1)+d by omega,VR s l (k+1) d]
theorem ZQ (s:Bs):∀ (l:List Bs)(k i:Nat),LK s l k=some i→k≤i∧i<k+l.length
 |[],_,_,a=>by cases a
 |x::l,k,i,a=>by
  rw [LK]at a;split at a
  ·cases a;simp
  ·have:=ZQ s l (k+1) i a
   simp;omega
theorem z88 (p:PS):Po p≤21:=by
 unfold Po;split
 ·split
  ·rename_i i a;have:=(ZQ _ _ _ _ a).2;have e:(Pg.ops.drop 3).length=18:=rfl;omega
  ·omega
 ·omega
theorem fV {w:Y}{g:Nat}{S:ByteArray}{p:PS}(c:PW w g S p):As prog 224 #[Ae (some ⟨g,0,none⟩)] w fun e w'=>e=Ak (V Ad (Po p:Nat))∧Ext w w':=by
 have c1:w.cell? ⟨g,1,none⟩=some (V Ad p.tok.kind):=JA c.at_.b 1
 have F:w.cell? ⟨g,2,none⟩=some (Aa (str p.tok.text)):=JA c.at_.b 2
 by_cases f:p.tok.kind=3
 ·rw [f]at c1;have r:=D (fun(W:Y) (t:Ext w W) (y:W.cell? ⟨g,2,none⟩=some (Aa (str p.tok.text)))=>
   (YY qa Pg.ops W (c.tab.ext t) jW (by decide) (by decide)).mono (R':=fun e w'=>e=Ak (J (some ⟨W.heap.size,0,none⟩) 21 21)∧Ext w w'∧w'.cell? ⟨g,2,none⟩=some (Aa (str p.tok.text))∧∀ j s,Pg.ops[j]?= some s→w'.cell? ⟨W.heap.size,j,none⟩=some (Aa (str s)))
    (fun e w' q=>⟨q.1,by rw [q.2];exact t.alloc _,by rw [q.2];exact((Ext.refl W).alloc _).cell y,fun j s h=>by rw [q.2];exact WR (Aj W _) h⟩))
  obtain⟨a,l⟩:=JH (Iz ((Pg.ops.drop 3).map str) (str p.tok.text));have m:=D (fun(b:Nat) (W:Y) (q:∀ j s,Pg.ops[j]?= some s→W.cell? ⟨b,j,none⟩=some (Aa (str s)))=>
   slices_Index_string b 3 18 18 ((Pg.ops.drop 3).map str) (str p.tok.text) W (by decide) (by omega) (by
    intro j h
    rw [ZM]
    have G:j<18:=by rw [AI]at h;exact h
    have e:Pg.ops[3+j]?= some ((Pg.ops.drop 3).getD j []):=by
     rw [B0,Fq]
     rw [Al (show 3+j<Pg.ops.length by show 3+j<21;omega)]
     rfl
    exact q _ _ e))
  rw [show((Pg.ops.drop 3).map str).take 18=(Pg.ops.drop 3).map str from rfl,←l]at m;have u:(a= -1∧Po p=0)∨∃ i:Nat,a=i∧i<18∧Po p=i+4:=by
   unfold Po;rw [f,if_pos (by rfl)];have v:=VR p.tok.text (Pg.ops.drop 3) 0 4;rw [BF]at v;rw [v];cases d:LK p.tok.text (Pg.ops.drop 3) 0 with
   |none=>exact AO ⟨by rw [l];exact Z6 d,rfl⟩
   |some i=>exact AB ⟨i,by rw [l];exact Z7 d,by have:=(ZQ _ _ _ _ d).2;have e:(Pg.ops.drop 3).length=18:=rfl;omega,rfl⟩
  have x:=D u;generalize Po p=A at*
  generalize str p.tok.text=B at*
  clear c l u;have H:=Ext.refl w;have I: -1≤a∧a≤18:=by rcases x with⟨q,_⟩|⟨i,q,_,_⟩<;>omega
  go_enter func224,ntmps224;go_upto_region 3 with(fail)
  go_region_held3 (fun w'=>Ext w w'∧w'.cell? ⟨g,2,none⟩=some (Aa B)) (first|exact⟨by assumption,by assumption⟩|exact⟨Ext.drew (by assumption),by assumption⟩|go_keep) (first|(go_at_call 83;refine(r _ (by first|assumption|exact Ext.drew (by assumption)) (by assumption)).mono ?_;rintro e w' ⟨rfl,h1,K,f⟩)|(go_at_call 158;refine(m _ _ (by assumption)).mono ?_;rintro e w' ⟨rfl,rfl⟩))
  have d:Ext w w':=by assumption
  clear r m;go_wp2;go_ret;refine⟨?_,d⟩;have C:wrap64 (max (a+4) 0*min (a+1) 1)=(A:Int):=by
   rcases x with⟨rfl,rfl⟩|⟨i,rfl,L,rfl⟩
   ·have n:max ((-1:Int)+4) 0=3:=by omega
    have o:min ((-1:Int)+1) 1=0:=by omega
    rw [n,o,Int.mul_zero];unfold wrap64;omega
   ·have n:max ((i:Int)+4) 0=i+4:=by omega
    have o:min ((i:Int)+1) 1=1:=by omega
    rw [n,o,Int.mul_one];unfold wrap64;omega
  exact congrArg (fun z=>Ak (V Ad z)) C
 ·have M:((p.tok.kind:Int) != 3)=true:=by simp;omega
  have E:Po p=0:=by
   unfold Po;rw [if_neg];intro q;exact f (Ap q)
  rw [E];generalize p.tok.kind=k at*
  clear c;go_enter func224,ntmps224;go_wp2;go_ret;exact⟨rfl,Ext.refl _⟩
structure mq (U:Nat→Prop) (w:Y) (A:Option Bi) (xs:List h):Prop where
 cells:Ol w A xs
 low:∀ a,A=some a→U a.block
theorem mq.upd {U U':Nat→Prop}{w w':Y}{A:Option Bi}{xs:List h}{G:Nat→Prop}(c:mq U w A xs)(u:JK G w w')(d:∀ k,U k→¬ G k)(e:∀ k,U k→U' k):mq U' w' A xs:=by
 refine⟨fun i x f=>?_,fun a b=>e _ (c.low a b)⟩;obtain⟨a,b,hc⟩:=c.cells i x f;refine⟨a,b,u.cell hc ?_⟩;have g:(a.add i).block=a.block:=by unfold Fa;split<;>rfl
 rw [g];exact d _ (c.low a b)
theorem mq.nil (U:Nat→Prop)(w:Y):mq U w none []:=⟨Ol.nil w none,fun _ b=>by cases b⟩
structure Kind (α:Type) where
 size:Nat
 pos:0<size
 rep:(Nat→Prop)→Y→α→List h→Prop
 len:∀ {U w x cs},rep U w x cs→cs.length=size
 one:∀ {U w x cs},rep U w x cs→∀ u∈cs,u.oneCell'=true
 upd:∀ {U U' G:Nat→Prop} {w w' x cs},rep U w x cs→JK G w w'→(∀k,U k→¬ G k)→(∀k,U k→U' k)→rep U' w' x cs
def NF {α:Type}(K:Kind α)(U:Nat→Prop)(w:Y):List α→List h→Prop
 |[],xs=>xs=[]
 |e::l,xs=>∃ x a,xs=x++a∧K.rep U w e x∧NF K U w l a
section
variable {α:Type}{K:Kind α}{U U' G:Nat→Prop}{w w':Y}
theorem NF.upd (u:JK G w w')(a:∀ k,U k→¬ G k)(b:∀ k,U k→U' k):∀ {l:List α}{xs:List h},NF K U w l xs→NF K U' w' l xs
 |[],_,c=>c
 |_::_,_,⟨x,d,h1,e,f⟩=>⟨x,d,h1,K.upd e u a b,NF.upd u a b f⟩
theorem NF.len:∀ {l:List α}{xs:List h},NF K U w l xs→xs.length=l.length*K.size
 |[],_,a=>by rw [show _=_ from a];simp
 |_::l,_,⟨x,d,h1,b,c⟩=>by
  rw [h1,M,K.len b,NF.len c,Am,FD,IA]
theorem NF.one:∀ {l:List α}{xs:List h},NF K U w l xs→∀ u∈xs,u.oneCell'=true
 |[],_,b,u,a=>by rw [show _=_ from b]at a;cases a
 |_::l,_,⟨x,e,h1,c,d⟩,u,a=>by
  rw [h1]at a;rcases Fi.1 a with q|q
  ·exact K.one c u q
  ·exact NF.one d u q
theorem NF.snoc {e:α}{x:List h}(b:K.rep U w e x):∀ {l:List α}{xs:List h},NF K U w l xs→NF K U w (l++[e]) (xs++x)
 |[],_,c=>by
  rw [show _=_ from c];exact⟨x,[],by simp,b,rfl⟩
 |a::l,_,⟨d,f,h1,g,j⟩=>by
  rw [h1];exact⟨d,f++x,by rw [AG],g,NF.snoc b j⟩
theorem NF.get:∀ {l:List α}{xs:List h},NF K U w l xs→∀ (i:Nat)(e:α),l[i]?= some e→∃ cs,K.rep U w e cs∧∀ (j:Nat) u,cs[j]?= some u→xs[i*K.size+j]?= some u
 |[],_,_,i,e,b=>by simp at b
 |a::l,_,⟨f,k,h1,c,g⟩,0,e,b=>by
  have:a=e:=by simpa using b
  subst this;refine⟨f,c,fun j u d=>?_⟩;rw [h1,FG,BF,Ce (Ao.1 d).1];exact d
 |a::l,_,⟨f,k,h1,c,g⟩,i+1,e,b=>by
  obtain⟨cs,m,n⟩:=NF.get g i e (by simpa using b);refine⟨cs,m,fun j u d=>?_⟩;rw [h1,Cs (by rw [K.len c,FD];omega),K.len c,show(i+1)*K.size+j - K.size=i*K.size+j by rw [FD];omega];exact n j u d
end
def Ju {α:Type}(K:Kind α)(U:Nat→Prop)(w:Y)(l:List α)(v:h):Prop:=∃ A c xs,v=J A l.length c∧l.length≤c∧c≤Bk∧(A=none→c=0)∧mq U w A xs∧NF K U w l xs
theorem Ju.upd {α:Type}{K:Kind α}{U U' G:Nat→Prop}{w w':Y}{l:List α}{v:h}(d:Ju K U w l v)(u:JK G w w')(a:∀ k,U k→¬ G k)(b:∀ k,U k→U' k):Ju K U' w' l v:=by
 obtain⟨A,c,xs,h1,e,f,g,i,j⟩:=d;exact⟨A,c,xs,h1,e,f,g,i.upd u a b,j.upd u a b⟩
theorem Ju.nil {α:Type}(K:Kind α)(U:Nat→Prop)(w:Y):Ju K U w [] (J none 0 0):=⟨none,0,[],rfl,Aw _,by simp [Bk],fun _=>rfl,mq.nil U w,rfl⟩
mutual
def OV (U:Nat→Prop)(w:Y):Ex→List h→Prop
 |.mk k op num name args,cs=>∃ A c xs,cs=[V Ad k,V Ad op,V Af num,Aa (str name),J A args.length c]∧args.length≤c∧c≤Bk∧(A=none→c=0)∧mq U w A xs∧WT U w args xs
def WT (U:Nat→Prop)(w:Y):List Ex→List h→Prop
 |[],xs=>xs=[]
 |e::l,xs=>∃ x a,xs=x++a∧OV U w e x∧WT U w l a
end
mutual
theorem UU {U U' G:Nat→Prop}{w w':Y}(u:JK G w w')(a:∀ k,U k→¬ G k)(b:∀ k,U k→U' k):∀ (e:Ex)(cs:List h),OV U w e cs→OV U' w' e cs
 |.mk k op num name args,cs,d=>by
  rw [OV]at d ⊢;obtain⟨A,c,xs,h1,f,g,i,j,l⟩:=d;exact⟨A,c,xs,h1,f,g,i,j.upd u a b,jb u a b args xs l⟩
theorem jb {U U' G:Nat→Prop}{w w':Y}(u:JK G w w')(b:∀ k,U k→¬ G k)(c:∀ k,U k→U' k):∀ (l:List Ex)(xs:List h),WT U w l xs→WT U' w' l xs
 |[],xs,a=>by rw [WT]at a ⊢;exact a
 |e::l,xs,a=>by
  rw [WT]at a ⊢;obtain⟨x,d,h1,f,g⟩:=a;exact⟨x,d,h1,UU u b c e x f,jb u b c l d g⟩
end
def KE:Kind Ex where
 size:=5
 pos:=by omega
 rep:=OV
 len:=by
  intro U w x cs a;cases x;rw [OV]at a;obtain⟨A,c,xs,rfl,_⟩:=a;rfl
 one:=by
  intro U w x cs a u b;cases x;rw [OV]at a;obtain⟨A,c,xs,rfl,_⟩:=a;simp only [AH,Ba,or_false]at b;rcases b with rfl|rfl|rfl|rfl|rfl<;>rfl
 upd:=fun a u d b=>UU u d b _ _ a
theorem Ya (U:Nat→Prop)(w:Y):∀ (l:List Ex)(xs:List h),WT U w l xs↔NF KE U w l xs
 |[],xs=>by rw [WT];exact Iff.rfl
 |e::l,xs=>by
  rw [WT];constructor
  ·rintro⟨x,a,h1,b,c⟩;exact⟨x,a,h1,b,(Ya U w l a).1 c⟩
  ·rintro⟨x,a,h1,b,c⟩;exact⟨x,a,h1,b,(Ya U w l a).2 c⟩
theorem OZ {U:Nat→Prop}{w:Y}{k op num:Nat}{name:Bs}{args:List Ex}{cs:List h}:
 OV U w (.mk k op num name args) cs↔∃ v,cs=[V Ad k,V Ad op,V Af num,Aa (str name),v]∧Ju KE U w args v:=by
 rw [OV];constructor
 ·rintro⟨A,c,xs,h1,a,b,d,e,f⟩;exact⟨_,h1,A,c,xs,rfl,a,b,d,e,(Ya U w args xs).1 f⟩
 ·rintro⟨v,h1,A,c,xs,rfl,a,b,d,e,f⟩;exact⟨A,c,xs,h1,a,b,d,e,(Ya U w args xs).2 f⟩
def WU {α:Type}(elem:Nat→PS→Option (α×PS)):Nat→List α→PS→Option (List α×PS)
 |0,_,_=>none
 |n+1,acc,p=>match elem n p with
  |none=>none
  |some (x,q)=>match QO [44] q with
   |none=>none
   |some (true,a)=>WU elem n (acc++[x]) a
   |some (false,a)=>some (acc++[x],a)
theorem uJ {α:Type}(elem:PS→Option (α×PS)):∀ (n:Nat)(acc:List α)(p:PS),Rh elem n acc p=WU (fun _=>elem) n acc p
 |0,_,_=>rfl
 |n+1,acc,p=>by
  rw [Rh,WU];cases elem p with
  |none=>rfl
  |some x=>
   dsimp only;cases QO [44] x.2 with
   |none=>rfl
   |some a=>
    obtain⟨b,c⟩:=a;cases b
    ·rfl
    ·exact uJ elem n _ c
theorem ow:∀ (n:Nat)(acc:List Ex)(p:PS),WI n acc p=WU (fun m=>M3 m 1) n acc p
 |0,_,_=>rfl
 |n+1,acc,p=>by
  rw [WI,WU];cases M3 n 1 p with
  |none=>rfl
  |some x=>
   dsimp only;cases QO [44] x.2 with
   |none=>rfl
   |some a=>
    obtain⟨b,c⟩:=a;cases b
    ·rfl
    ·exact ow n _ c
def qg {α:Type}(elem:Nat→PS→Option (α×PS))(n:Nat)(acc:List α)(q:PS):Option (List α×PS):=match QO [44] q with
 |none=>none
 |some (true,a)=>WU elem n acc a
 |some (false,a)=>some (acc,a)
theorem fZ {α:Type}{elem:Nat→PS→Option (α×PS)}{n:Nat}{acc:List α}{p:PS}{res:List α×PS}(b:WU elem n acc p=some res):∃ m x q,n=m+1∧elem m p=some (x,q)∧qg elem m (acc++[x]) q=some res:=by
 cases n with
 |zero=>cases b
 |succ m=>
  rw [WU]at b;split at b
  ·cases b
  ·rename_i x q c;refine⟨m,x,q,rfl,c,?_⟩;unfold qg;exact b
theorem zI4 {α:Type}(elem:Nat→PS→Option (α×PS))(g:Nat)(S:ByteArray)(N:Nat)(f:Nat)(lb:Array h)(hg:∀ args w,(GS f args).run prog w=Ez (I8 f args) w)(G:Nat→Prop)(y:G g)(a:List α→Y→Prop)
 (z:∀ acc W n,a acc W→PX g W n→a acc n)
 (o:∀ m acc p x q W,acc.length+m<N→elem m p=some (x,q)→PW W g S p→a acc W→As prog f lb W fun e w'=>e=Ak (AZ #[])∧PW w' g S q∧a (acc++[x]) w'∧JK G W w')
 (p:PS) (l:List α) (q:PS) (w:Y) (A:WU elem N [] p=some (l,q)) (B:PW w g S p) (C:a [] w):
 As prog 89 #[Ae (some ⟨g,0,none⟩),ER (.func f) #[] lb] w fun e w'=>e=Ak (AZ #[])∧PW w' g S q∧a l w'∧JK G w w':=by
 obtain⟨r,h1,E,hh,F,H⟩:=fZ A;have h2:=D o;have I:=D z;have h3:=D (o r [] p h1 E w (by simp;omega) F B C);have h4:=D H;clear o z A F H B C;go_enter func89,ntmps89;go_wp2_with (go_at_fn f;refine h3.out.mono ?_;rintro e n ⟨rfl,d,K,L⟩);have h5:=D d;have h6:=D K;have h7:=D L;clear d K L
 go_loopg [] r (fun gf s=>∃ m acc t,m≤gf∧acc.length+m≤N∧AA (qg elem m acc t=some (l,q))∧PW s g S t∧AA (a acc s)∧AA (JK G w s))
 case atStart=>exact⟨r,_,E,Aw _,by simp;omega,h4,h5,h6,h7⟩
 case round=>
  obtain⟨m,acc,t,hi,hj,h8,d,O,P⟩:=hrel;have Q:=D d;clear d;have b:=h8.out;unfold qg at b;split at b
  ·cases b
  ·rename_i R i;have u:=D (dO Q i);obtain⟨T,x,U,hk,X,Z⟩:=fZ b;have h9:=D Z;have ha:=D X;obtain⟨v,rfl⟩:∃ v,gk=v+1:=⟨gk - 1,by omega⟩;clear b i Z X;go_wp2_with fail;refine u.mono ?_
   rintro e h0 ⟨rfl,j,c⟩;have hb:=D (h2 T acc R x U h0 (by omega) ha j (I acc _ _ O c));have hc:=D c;clear c j;go_wp2_with (go_at_fn f;refine hb.out.mono ?_;rintro e hl ⟨rfl,hd,he,hf⟩)
   go_roundg v
   case measure=>omega
   case rel=>exact⟨T,_,U,by omega,by rw [M];simp;omega,h9,hd,D he,D ((P.trans (hc.mono (fun k _ q=>by rw [q];exact y))).trans hf)⟩
  ·rename_i R i;have u:=D (dO Q i);cases b;clear i;go_wp2_with fail;refine u.mono ?_
   rintro e h0 ⟨rfl,j,c⟩;go_wp2_with fail;go_end0;exact⟨rfl,j,I _ _ _ O c,P.trans (c.mono (fun k _ q=>by rw [q];exact y))⟩
end Go.Proofs.YtmkomefmgcpnbaaGreatDoor

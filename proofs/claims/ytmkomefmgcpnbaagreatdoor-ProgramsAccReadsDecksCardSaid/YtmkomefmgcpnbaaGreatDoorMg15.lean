import Derived.Test.YtmkomefmgcpnbaaGreatDoorMg14
set_option linter.all false
set_option maxHeartbeats 12800000
set_option maxRecDepth 100000
namespace Pm
open _root_.List renaming getElem?_eq_getElem→Al,getElem?_eq_none→C5,getElem?_eq_some_iff→Ao
structure Tm where
 kind:Nat
 val:Nat
deriving DecidableEq
structure Ac where
 kind:Nat
 eQ:Nat
 x:Tm
 y:Tm
deriving DecidableEq
structure In where
 name:List UInt8
 operand:Bool
 acts:List Ac
deriving DecidableEq
structure TS where
 mem:Nat→Nat
 r:Nat→Nat
 inp:List Nat
 out:List Nat
 stop:Nat
 code:Nat
 operand:Nat
def Lx (s:TS)(t:Tm):Nat:=if t.kind=1 then s.r t.val else if t.kind=2 then s.operand else t.val
def MF (s:TS)(t n:Nat):TS:={s with r:=upd s.r t n}
def NZ (kind x a:Nat):Nat:=
 if kind=1 then(x+a) %4294967296 else if kind=2 then(x+4294967296 - a) %4294967296 else if kind=3 then x*a %4294967296
 else if kind=6 then Nat.land x a else if kind=7 then Nat.lor x a else if kind=8 then Nat.xor x a
 else if kind=9 then(if a<32 then x*2 ^a %4294967296 else 0)else if kind=10 then(if a<32 then x /2 ^a else 0)
 else if kind=11 then(if x=a then 1 else 0)else(if x<a then 1 else 0)
def MK (s:TS)(a:Ac):TS:=
 let x:=Lx s a.x
 let c:=Lx s a.y
 if a.kind=0 then MF s a.eQ x
 else if a.kind=19 then(if c=0 then MF s a.eQ x else s)
 else if a.kind=4 then(if c=0 then {s with stop:=4}else MF s a.eQ (x /c))
 else if a.kind=5 then(if c=0 then {s with stop:=4}else MF s a.eQ (x %c))
 else if a.kind=13 then(if x<65536 then MF s a.eQ (s.mem x)else {s with stop:=3})
 else if a.kind=14 then(if x<65536 then {s with mem:=upd s.mem x c}else {s with stop:=3})
 else if a.kind=15 then(match s.inp with|[]=>MF s a.eQ 4294967295|b::l=>{MF s a.eQ b with inp:=l})
 else if a.kind=16 then(if 20000≤s.out.length then {s with stop:=5}else {s with out:=s.out++[x %256]})
 else if a.kind=17 then {s with stop:=1,code:=x}
 else if a.kind=18 then(if c=0 then {s with stop:=1,code:=x}else s)
 else MF s a.eQ (NZ a.kind x c)
def Ls:TS→List Ac→TS
 |s,[]=>s
 |s,a::l=>if(MK s a).stop=0 then Ls (MK s a) l else MK s a
def Kr (n:Nat):Tm:=⟨1,n⟩
def Nf (n:Nat):Tm:=⟨0,n⟩
def YD:Tm:=⟨2,0⟩
def Sa (l:List Ac):List Ac:=⟨2,2,Kr 2,Nf 1⟩::⟨13,1,Kr 2,Nf 0⟩::l
def Lh:List In:=[
 ⟨[115,116,111,112],false,[⟨17,0,Kr 0,Nf 0⟩]⟩,
 ⟨[110,117,109],true,[⟨0,0,YD,Nf 0⟩]⟩,
 ⟨[108,111,97,100],true,[⟨13,0,YD,Nf 0⟩]⟩,
 ⟨[115,116,111,114,101],true,[⟨14,0,YD,Kr 0⟩]⟩,
 ⟨[108,111,99,97,108],true,[⟨2,1,Kr 2,YD⟩,⟨13,0,Kr 1,Nf 0⟩]⟩,
 ⟨[97,115,115,105,103,110],true,[⟨2,1,Kr 2,YD⟩,⟨14,0,Kr 1,Kr 0⟩]⟩,
 ⟨[102,101,116,99,104],true,[⟨1,1,Kr 0,YD⟩,⟨13,0,Kr 1,Nf 0⟩]⟩,
 ⟨[112,117,116,97,116],true,Sa [⟨1,1,Kr 1,YD⟩,⟨14,0,Kr 1,Kr 0⟩]⟩,
 ⟨[112,117,115,104],false,[⟨14,0,Kr 2,Kr 0⟩,⟨1,2,Kr 2,Nf 1⟩]⟩,
 ⟨[100,114,111,112],true,[⟨2,2,Kr 2,YD⟩]⟩,
 ⟨[97,100,100],false,Sa [⟨1,0,Kr 1,Kr 0⟩]⟩,
 ⟨[115,117,98],false,Sa [⟨2,0,Kr 1,Kr 0⟩]⟩,
 ⟨[109,117,108],false,Sa [⟨3,0,Kr 1,Kr 0⟩]⟩,
 ⟨[100,105,118],false,Sa [⟨18,0,Nf 2,Kr 0⟩,⟨4,0,Kr 1,Kr 0⟩]⟩,
 ⟨[109,111,100],false,Sa [⟨18,0,Nf 2,Kr 0⟩,⟨5,0,Kr 1,Kr 0⟩]⟩,
 ⟨[97,110,100],false,Sa [⟨6,0,Kr 1,Kr 0⟩]⟩,
 ⟨[111,114],false,Sa [⟨7,0,Kr 1,Kr 0⟩]⟩,
 ⟨[120,111,114],false,Sa [⟨8,0,Kr 1,Kr 0⟩]⟩,
 ⟨[108,101,102,116],false,Sa [⟨9,0,Kr 1,Kr 0⟩]⟩,
 ⟨[114,105,103,104,116],false,Sa [⟨10,0,Kr 1,Kr 0⟩]⟩,
 ⟨[101,113],false,Sa [⟨11,0,Kr 1,Kr 0⟩]⟩,
 ⟨[108,101,115,115],false,Sa [⟨12,0,Kr 1,Kr 0⟩]⟩,
 ⟨[109,111,114,101],false,Sa [⟨12,0,Kr 0,Kr 1⟩]⟩,
 ⟨[122,101,114,111],false,[⟨11,0,Kr 0,Nf 0⟩]⟩,
 ⟨[98,111,117,110,100],true,[⟨12,1,Kr 0,YD⟩,⟨18,0,Nf 1,Kr 1⟩]⟩,
 ⟨[106,117,109,112],true,[⟨0,4,YD,Nf 0⟩]⟩,
 ⟨[106,122,101,114,111],true,[⟨19,4,YD,Kr 0⟩]⟩,
 ⟨[99,97,108,108],true,[⟨1,3,Kr 3,Nf 1⟩,⟨12,1,Kr 3,Nf 101⟩,⟨18,0,Nf 3,Kr 1⟩,⟨14,0,Kr 2,Kr 4⟩,⟨1,2,Kr 2,Nf 1⟩,⟨0,4,YD,Nf 0⟩]⟩,
 ⟨[114,101,116],true,[⟨2,2,Kr 2,YD⟩,⟨13,4,Kr 2,Nf 0⟩,⟨2,3,Kr 3,Nf 1⟩]⟩,
 ⟨[103,101,116],false,[⟨15,0,Nf 0,Nf 0⟩]⟩,
 ⟨[112,117,116],false,[⟨16,0,Kr 0,Nf 0⟩]⟩,
 ⟨[115,116,97,99,107],true,[⟨0,2,YD,Nf 0⟩]⟩]
def Mm (k:Nat):Option In:=if k=0 then none else Lh[k - 1]?
def stepT (s:TS):TS:=
 if ¬s.r 4<65536 then {s with stop:=3}
 else match Mm (s.mem (s.r 4))with
  |none=>{s with stop:=2}
  |some x=>
   if x.operand=false then Ls (MF s 4 (s.r 4+1)) x.acts
   else if ¬s.r 4+1<65536 then {s with stop:=3}
   else Ls {MF s 4 (s.r 4+2)with operand:=s.mem (s.r 4+1)} x.acts
def UK:Nat→TS→TS
 |0,s=>s
 |k+1,s=>if s.stop=0 then UK k (stepT s)else s
structure Rel (s:TS) (m:MS):Prop where
 mem:s.mem=m.mem
 a:s.r 0=m.a
 c:s.r 2=m.c
 d:s.r 3=m.d
 p:s.r 4=m.pc
 inp:s.inp=m.inp
 out:s.out=m.out
 stop:s.stop=m.stop
 code:s.code=m.code
def Sb (s:TS)(x:In)(n:Nat):TS:=if x.operand=false then Ls (MF s 4 (s.r 4+1)) x.acts else if ¬s.r 4+1<65536 then {s with stop:=3}else Ls {MF s 4 (s.r 4+2)with operand:=n} x.acts
def Rq (k n:Nat)(m:MS):MS:=if has k=false then PL k {m with pc:=m.pc+1}else if ¬m.pc+1<65536 then bad m else Lu k n {m with pc:=m.pc+2}
def PA (s:TS)(l:List Ac)(z:Nat):TS:=if z<65536 then Ls {s with r:=upd (upd s.r 2 z) 1 (s.mem z)} l else {s with r:=upd s.r 2 z,stop:=3}
def PM (k:Nat)(m:MS)(z:Nat):MS:=if z<65536 then(if(k=14∨k=15)∧m.a=0 then {m with pc:=m.pc+1,c:=z,stop:=1,code:=2}else {m with pc:=m.pc+1,c:=z,a:=O9 k (m.mem z) m.a})else {m with pc:=m.pc+1,c:=z,stop:=3}
theorem sT {P:Prop}(a:P:=by(simp [has,PL,Lu,O9,Ls,MK,Lx,MF,NZ,upd,Kr,Nf,YD,Sa,PA,PM,bad, *];try (constructor<;>(try simp [upd])<;>try assumption))):P:=a
theorem sI (x a:Nat):NZ 2 x a=(x+4294967296 - a) %4294967296:=by
 unfold NZ;rw [if_neg (by decide),if_pos rfl]
theorem qI (s:TS)(l:List Ac)(a:s.stop=0)(z:Nat)(b:z=(s.r 2+4294967296 - 1) %4294967296):Ls s (Sa l)=PA s l z:=by
 unfold PA;unfold Sa;have h1:MK s ⟨2,2,Kr 2,Nf 1⟩={s with r:=upd s.r 2 z}:=by
  rw [show MK s ⟨2,2,Kr 2,Nf 1⟩=MF s 2 (NZ 2 (Lx s (Kr 2)) (Lx s (Nf 1)))from rfl,show Lx s (Kr 2)=s.r 2 from rfl,show Lx s (Nf 1)=1 from rfl,sI,←b];rfl
 rw [Ls,h1,if_pos a,Ls];clear b h1;by_cases q:z<65536
 ·simp [MK,Lx,Kr,upd,MF,q,a]
 ·simp [MK,Lx,Kr,upd,MF,q,a]
theorem zU4 (k n:Nat)(m:MS)(z:Nat)(a:z=(m.c+4294967296 - 1) %4294967296)(h1:11≤k)(d:k≤23):Rq k n m=PM k m z:=by
 unfold PM;have b:has k=false:=by
  have e:k=11∨k=12∨k=13∨k=14∨k=15∨k=16∨k=17∨k=18∨k=19∨k=20∨k=21∨k=22∨k=23:=by omega
  rcases e with rfl|rfl|rfl|rfl|rfl|rfl|rfl|rfl|rfl|rfl|rfl|rfl|rfl<;>rfl
 unfold Rq PL;rw [if_pos b,if_neg (by omega),if_neg (by omega),if_neg (by omega),if_neg (by omega),if_neg (by omega)];dsimp only;rw [←a]
theorem yF9 (n:Nat)(m:MS)(z:Nat)(b:z=(m.c+4294967296 - 1) %4294967296):Rq 8 n m=if m.pc+1<65536 then(if z<65536 then(if(m.mem z+n) %4294967296<65536 then {m with pc:=m.pc+2,c:=z,mem:=upd m.mem ((m.mem z+n) %4294967296) m.a}else {m with pc:=m.pc+2,c:=z,stop:=3})else {m with pc:=m.pc+2,c:=z,stop:=3})else bad m:=by
 unfold Rq Lu;rw [if_neg (by decide)];by_cases q:m.pc+1<65536
 ·rw [if_neg (fun d=>d q),if_pos q,if_neg (by decide),if_neg (by decide),if_neg (by decide),if_neg (by decide),if_neg (by decide),if_neg (by decide),if_pos rfl];dsimp only;rw [←b]
 ·rw [if_pos q,if_neg q]
def St (k:Nat):Prop:=∀ (mem a:Nat→Nat)(inp out:List Nat)(code operand n:Nat)(x:In),Mm k=some x→Rel (Sb ⟨mem,a,inp,out,0,code,operand⟩ x n) (Rq k n ⟨mem,a 4,a 0,a 2,a 3,inp,out,0,code⟩)
theorem zJ5:St 1∧St 24:=by
 refine⟨?_,?_⟩<;>(rintro mem a inp out code operand n x ⟨⟩;unfold Sb Rq;exact sT)
theorem pQ:St 2∧St 10∧St 26∧St 32:=by
 refine⟨?_,?_,?_,?_⟩<;>(rintro mem a inp out code operand n x ⟨⟩;unfold Sb Rq;by_cases b:a 4+1<65536<;>exact sT)
theorem zJ8:St 3∧St 4:=by
 refine⟨?_,?_⟩<;>(rintro mem a inp out code operand n x ⟨⟩;unfold Sb Rq;by_cases b:a 4+1<65536<;>by_cases q:n<65536<;>exact sT)
theorem zJ6:St 5∧St 6:=by
 refine⟨?_,?_⟩<;>(rintro mem a inp out code operand n x ⟨⟩;unfold Sb Rq;by_cases b:a 4+1<65536<;>by_cases q:(a 2+4294967296 - n) %4294967296<65536<;>exact sT)
theorem yx9:St 7:=by
 rintro mem a inp out code operand n x ⟨⟩;unfold Sb Rq;by_cases b:a 4+1<65536<;>by_cases q:(a 0+n) %4294967296<65536<;>exact sT
theorem yy0:St 9:=by
 rintro mem a inp out code operand n x ⟨⟩;unfold Sb Rq;by_cases q:a 2<65536<;>exact sT
theorem yg4:St 25:=by
 rintro mem a inp out code operand n x ⟨⟩;unfold Sb Rq;by_cases b:a 4+1<65536<;>by_cases q:a 0<n<;>exact sT
theorem yg5:St 27:=by
 rintro mem a inp out code operand n x ⟨⟩;unfold Sb Rq;by_cases b:a 4+1<65536<;>by_cases q:a 0=0<;>exact sT
theorem yg6:St 28:=by
 rintro mem a inp out code operand n x ⟨⟩;unfold Sb Rq;by_cases b:a 4+1<65536<;>by_cases q:(a 3+1) %4294967296<101<;>by_cases q2:a 2<65536<;>exact sT
theorem yg7:St 30:=by
 rintro mem a inp out code operand n x ⟨⟩;unfold Sb Rq;cases inp<;>exact sT
theorem yg8:St 31:=by
 rintro mem a inp out code operand n x ⟨⟩;unfold Sb Rq;by_cases q:20000≤out.length<;>exact sT
theorem yy2:St 8:=by
 rintro mem a inp out code operand n x ⟨⟩;obtain⟨z,b⟩:∃ z,z=(a 2+4294967296 - 1) %4294967296:=⟨_,rfl⟩;rw [yF9 n ⟨mem,a 4,a 0,a 2,a 3,inp,out,0,code⟩ z b];unfold Sb;rw [if_neg (by decide)];dsimp only;by_cases c:a 4+1<65536
 ·rw [if_neg (fun d=>d c),if_pos c,qI {MF ⟨mem,a,inp,out,0,code,operand⟩ 4 (a 4+2)with operand:=n} _ rfl z (by rw [show({MF ⟨mem,a,inp,out,0,code,operand⟩ 4 (a 4+2)with operand:=n}:TS).r 2=a 2 from rfl];exact b)];clear b;by_cases q:z<65536<;>by_cases q2:(mem z+n) %4294967296<65536<;>exact sT
 ·rw [if_pos c,if_neg c];clear b;exact sT
theorem Yv {k:Nat}{nm:List UInt8}{l:List Ac}(d:Mm k=some ⟨nm,false,Sa l⟩)(h1:11≤k)(e:k≤23)(f:∀ (z:Nat)(mem a:Nat→Nat)(inp out:List Nat)(code operand:Nat),Rel (PA (MF ⟨mem,a,inp,out,0,code,operand⟩ 4 (a 4+1)) l z) (PM k ⟨mem,a 4,a 0,a 2,a 3,inp,out,0,code⟩ z)):St k:=by
 intro mem a inp out code operand n x b;rw [d]at b;cases b;obtain⟨z,c⟩:∃ z,z=(a 2+4294967296 - 1) %4294967296:=⟨_,rfl⟩;rw [zU4 k n ⟨mem,a 4,a 0,a 2,a 3,inp,out,0,code⟩ z c h1 e];unfold Sb;rw [if_pos rfl,qI (MF ⟨mem,a,inp,out,0,code,operand⟩ 4 (a 4+1)) _ rfl z (by rw [show(MF ⟨mem,a,inp,out,0,code,operand⟩ 4 (a 4+1)).r 2=a 2 from rfl];exact c)];exact f z mem a inp out code operand
theorem TG:St 11∧St 12∧St 13∧St 14∧St 15∧St 16∧St 17∧St 18∧St 19∧St 20∧St 21∧St 22∧St 23:=by
 refine⟨?_,?_,?_,?_,?_,?_,?_,?_,?_,?_,?_,?_,?_⟩<;>exact Yv rfl (by decide) (by decide) fun z mem a inp out code operand=>by by_cases q:z<65536<;>by_cases q2:a 0=0<;>exact sT
theorem zo1 (n:Nat)(m:MS)(c z:Nat)(hc:c=(m.c+4294967296 - n) %4294967296)(a:z=(m.d+4294967296 - 1) %4294967296):Rq 29 n m=if m.pc+1<65536 then(if c<65536 then {m with c:=c,pc:=m.mem c,d:=z}else {m with pc:=m.pc+2,c:=c,stop:=3})else bad m:=by
 unfold Rq Lu;rw [if_neg (by decide)];by_cases q:m.pc+1<65536
 ·rw [if_neg (fun b=>b q),if_pos q,if_neg (by decide),if_neg (by decide),if_neg (by decide),if_neg (by decide),if_neg (by decide),if_neg (by decide),if_neg (by decide),if_neg (by decide),if_neg (by decide),if_neg (by decide),if_neg (by decide),if_neg (by decide),if_pos rfl];dsimp only;rw [←a,←hc]
 ·rw [if_pos q,if_neg q]
theorem wW (s:TS)(t:Nat)(x a:Tm)(z:Nat)(b:z=(Lx s x+4294967296 - Lx s a) %4294967296):MK s ⟨2,t,x,a⟩={s with r:=upd s.r t z}:=by
 rw [show MK s ⟨2,t,x,a⟩=MF s t (NZ 2 (Lx s x) (Lx s a))from rfl,sI,←b];rfl
theorem yg9:St 29:=by
 rintro mem r inp out code operand n x ⟨⟩;obtain⟨c,hc⟩:∃ c,c=(r 2+4294967296 - n) %4294967296:=⟨_,rfl⟩;obtain⟨z,b⟩:∃ z,z=(r 3+4294967296 - 1) %4294967296:=⟨_,rfl⟩;rw [zo1 n ⟨mem,r 4,r 0,r 2,r 3,inp,out,0,code⟩ c z hc b];unfold Sb;rw [if_neg (by decide)];dsimp only;by_cases d:r 4+1<65536
 ·rw [if_neg (fun e=>e d),if_pos d];obtain⟨s1,a⟩:∃ s1:TS,s1={MF ⟨mem,r,inp,out,0,code,operand⟩ 4 (r 4+2)with operand:=n}:=⟨_,rfl⟩;have h:Lx s1 (Kr 2)=r 2:=by rw [a];rfl
  have i:Lx s1 YD=n:=by rw [a];rfl
  have f:s1.stop=0:=by rw [a];rfl
  have m:s1.mem=mem:=by rw [a];rfl
  rw [←a,Ls,wW s1 2 (Kr 2) YD c (by rw [h,i];exact hc),if_pos f,Ls];have j:s1.r=upd r 4 (r 4+2):=by rw [a];rfl
  by_cases q:c<65536
  ·have g:MK {s1 with r:=upd s1.r 2 c} ⟨13,4,Kr 2,Nf 0⟩={s1 with r:=upd (upd s1.r 2 c) 4 (s1.mem c)}:=by
    simp [MK,Lx,Kr,upd,MF,q]
   rw [g,if_pos f,Ls,wW _ 3 (Kr 3) (Nf 1) z (by
    have k:Lx {s1 with r:=upd (upd s1.r 2 c) 4 (s1.mem c)} (Kr 3)=r 3:=by simp [Lx,Kr,upd,j]
    have l:Lx {s1 with r:=upd (upd s1.r 2 c) 4 (s1.mem c)} (Nf 1)=1:=rfl
    rw [k,l];exact b),if_pos f,Ls,if_pos q]
   clear b hc;subst a;constructor<;>simp [upd,MF]
  ·have g:MK {s1 with r:=upd s1.r 2 c} ⟨13,4,Kr 2,Nf 0⟩={s1 with r:=upd s1.r 2 c,stop:=3}:=by
    simp [MK,Lx,Kr,upd,MF,q]
   rw [g,if_neg (fun e=>by cases e),if_neg q];clear b hc;subst a;constructor<;>simp [upd,MF]
 ·rw [if_pos d,if_neg d];clear b hc;exact sT
theorem yG0:∀ k x,Mm k=some x→St k
 |0,_,a=>by cases a
 |1,_,_=>zJ5.1
 |2,_,_=>pQ.1
 |3,_,_=>zJ8.1
 |4,_,_=>zJ8.2
 |5,_,_=>zJ6.1
 |6,_,_=>zJ6.2
 |7,_,_=>yx9
 |8,_,_=>yy2
 |9,_,_=>yy0
 |10,_,_=>pQ.2.1
 |11,_,_=>TG.1
 |12,_,_=>TG.2.1
 |13,_,_=>TG.2.2.1
 |14,_,_=>TG.2.2.2.1
 |15,_,_=>TG.2.2.2.2.1
 |16,_,_=>TG.2.2.2.2.2.1
 |17,_,_=>TG.2.2.2.2.2.2.1
 |18,_,_=>TG.2.2.2.2.2.2.2.1
 |19,_,_=>TG.2.2.2.2.2.2.2.2.1
 |20,_,_=>TG.2.2.2.2.2.2.2.2.2.1
 |21,_,_=>TG.2.2.2.2.2.2.2.2.2.2.1
 |22,_,_=>TG.2.2.2.2.2.2.2.2.2.2.2.1
 |23,_,_=>TG.2.2.2.2.2.2.2.2.2.2.2.2
 |24,_,_=>zJ5.2
 |25,_,_=>yg4
 |26,_,_=>pQ.2.2.1
 |27,_,_=>yg5
 |28,_,_=>yg6
 |29,_,_=>yg9
 |30,_,_=>yg7
 |31,_,_=>yg8
 |32,_,_=>pQ.2.2.2
 |k+33,_,a=>by
  unfold Mm at a;have:=(Ao.1 ((if_neg (by omega)).symm.trans a)).1;simp [Lh]at this;omega
theorem wX {s:TS}{x:In}(a:s.r 4<65536)(b:Mm (s.mem (s.r 4))=some x):stepT s=Sb s x (s.mem (s.r 4+1)):=by
 unfold stepT Sb;rw [if_neg (fun c=>c a),b]
theorem wY {m:MS}(b:m.stop=0)(c:m.pc<65536)(h1:1≤m.mem m.pc)(d:m.mem m.pc≤32):LZ m=Rq (m.mem m.pc) (m.mem (m.pc+1)) m:=by
 unfold LZ Rq;rw [if_neg (fun a=>a b),if_neg (fun a=>a c)];dsimp only;rw [if_neg (by omega)]
theorem zC1 {s:TS}{m:MS}(e:Rel s m)(l:m.stop=0):Rel (stepT s) (LZ m):=by
 obtain⟨mem,b,inp,out,stop,code,operand⟩:=s;obtain⟨z,A,a,c,d,B,C,D,E⟩:=m;obtain⟨rfl,o,p,r,t,rfl,rfl,rfl,rfl⟩:=e;simp only at o p r t l;subst o p r t l;by_cases f:b 4<65536
 ·obtain⟨k,h⟩:∃ k,mem (b 4)=k:=⟨_,rfl⟩;by_cases u:k=0∨32<k
  ·have w:Mm (mem (b 4))=none:=by
    rw [h];unfold Mm;rcases u with rfl|q
    ·rfl
    ·rw [if_neg (by omega)];exact C5 (by simp [Lh];omega)
   have i:stepT ⟨mem,b,inp,out,0,code,operand⟩=⟨mem,b,inp,out,2,code,operand⟩:=by
    unfold stepT;rw [if_neg (fun e=>e f)];dsimp only;rw [w]
   have j:LZ ⟨mem,b 4,b 0,b 2,b 3,inp,out,0,code⟩=⟨mem,b 4,b 0,b 2,b 3,inp,out,2,code⟩:=by
    unfold LZ;rw [if_neg (fun e=>e rfl),if_neg (fun e=>e f)];dsimp only;rw [h,if_pos u]
   rw [i,j];exact⟨rfl,rfl,rfl,rfl,rfl,rfl,rfl,rfl,rfl⟩
  ·rw [wY (m:=⟨mem,b 4,b 0,b 2,b 3,inp,out,0,code⟩) rfl f (by show 1≤mem (b 4);omega) (by show mem (b 4)≤32;omega)];dsimp only;generalize v:mem (b 4+1)=n;have y:∀ x,Mm k=some x→stepT ⟨mem,b,inp,out,0,code,operand⟩=Sb ⟨mem,b,inp,out,0,code,operand⟩ x n:=fun x g=>by
    rw [wX (s:=⟨mem,b,inp,out,0,code,operand⟩) f (by rw [←g,←h])];dsimp only;rw [v]
   rw [h];clear v f;obtain⟨x,g⟩:∃ x,Mm k=some x:=⟨_,by unfold Mm;rw [if_neg (by omega)];exact Al (by simp [Lh];omega)⟩;rw [y x g];exact yG0 k x g mem b inp out code operand n x g
 ·have i:stepT ⟨mem,b,inp,out,0,code,operand⟩=⟨mem,b,inp,out,3,code,operand⟩:=by
   unfold stepT;rw [if_pos f]
  have j:LZ ⟨mem,b 4,b 0,b 2,b 3,inp,out,0,code⟩=⟨mem,b 4,b 0,b 2,b 3,inp,out,3,code⟩:=by
   unfold LZ;rw [if_neg (fun e=>e rfl),if_pos f];rfl
  rw [i,j];exact⟨rfl,rfl,rfl,rfl,rfl,rfl,rfl,rfl,rfl⟩
theorem wZ:∀ (k:Nat){s:TS}{m:MS},Rel s m→Rel (UK k s) (it k m)
 |0,_,_,a=>a
 |k+1,s,m,a=>by
  rw [UK,it];by_cases b:m.stop=0
  ·rw [if_pos (by rw [a.stop];exact b)];exact wZ k (zC1 a b)
  ·rw [if_neg (by rw [a.stop];exact b),show LZ m=m by simp [LZ,b],lG b k];exact a
end Pm
namespace Pm
open _root_.Bool renaming and_eq_true→Ah
open _root_.List renaming all_eq_true→A7,getElem?_eq_some_iff→Ao,length_append→M,length_cons→Am,length_nil→Av,mem_append→Fi,mem_cons_of_mem→DE,mem_of_getElem?→AD
open _root_.Nat renaming beq→Az,ble→A6,blt→Be,div_le_self→I3,le_of_ble_eq_true→Ai,lt_of_le_of_lt→Ey
structure Re (s:TS):Prop where
 mem:∀ i,s.mem i<4294967296
 r:∀ i,s.r i<4294967296
 inp:∀ x∈s.inp,x<256
 out:∀ x∈s.out,x<256
 zo2:s.out.length≤20000
 op:s.operand<4294967296
 code:s.code<4294967296
 stop:s.stop≤5
def VM (t:Tm):Bool:=A6 t.kind 2&&Be t.val 4294967296&&(Be t.val 5|| !Az t.kind 1)
def UB (a:Ac):Bool:=Be a.eQ 5&&Be a.kind 20&&VM a.x&&VM a.y
theorem yG1:Lh.all (fun x=>x.acts.all UB&&A6 x.acts.length 6)=true:=by decide
theorem bN {s:TS}(b:Re s){t:Tm}(a:VM t=true):Lx s t<4294967296:=by
 unfold VM at a;simp only [Ah]at a;have c:=Ai a.1.2;unfold Lx;split
 ·exact b.r _
 ·split
  ·exact b.op
  ·exact c
theorem zU5 (k x b:Nat)(a:x<4294967296)(hy:b<4294967296):NZ k x b<4294967296:=by
 unfold NZ;split
 ·omega
 split
 ·omega
 split
 ·exact Nat.mod_lt _ (by omega)
 split
 ·exact Ey Nat.and_le_left a
 split
 ·exact Nat.or_lt_two_pow (n:=32) a hy
 split
 ·exact Nat.xor_lt_two_pow (n:=32) a hy
 split
 ·split
  ·exact Nat.mod_lt _ (by omega)
  ·omega
 split
 ·split
  ·exact Ey (I3 _ _) a
  ·omega
 split
 ·split<;>omega
 ·split<;>omega
theorem P9 {s:TS}(a:Re s)(t n:Nat)(b:n<4294967296):Re (MF s t n):=
 ⟨a.mem,fun i=>by show upd s.r t n i<_;unfold upd;split;exact b;exact a.r i,a.inp,a.out,a.zo2,a.op,a.code,a.stop⟩
theorem bO {s:TS}(c:Re s){a:Ac}(f:UB a=true):Re (MK s a):=by
 unfold UB at f;simp only [Ah]at f;have d:=bN c f.1.2;have hy:=bN c f.2;unfold MK;dsimp only;generalize Lx s a.x=x at*
 generalize Lx s a.y=y at*
 split
 ·exact P9 c _ _ d
 split
 ·split
  ·exact P9 c _ _ d
  ·exact c
 split
 ·split
  ·exact {c with stop:=by show 4≤5;omega}
  ·exact P9 c _ _ (Ey (I3 _ _) d)
 split
 ·split
  ·exact {c with stop:=by show 4≤5;omega}
  ·exact P9 c _ _ (Ey (Nat.mod_le _ _) d)
 split
 ·split
  ·exact P9 c _ _ (c.mem _)
  ·exact {c with stop:=by show 3≤5;omega}
 split
 ·split
  ·exact {c with mem:=fun i=>by show upd s.mem x y i<_;unfold upd;split;exact hy;exact c.mem i}
  ·exact {c with stop:=by show 3≤5;omega}
 split
 ·split
  ·exact P9 c _ _ (by omega)
  ·rename_i b l e;have h1:=P9 c a.eQ b (by have:=c.inp b (by rw [e];simp);omega);exact {h1 with inp:=fun z g=>c.inp z (by rw [e];exact DE _ g)}
 split
 ·split
  ·exact {c with stop:=by show 5≤5;omega}
  ·refine {c with out:=fun z g=>?_,zo2:=?_}
   ·rcases Fi.1 g with q|q
    ·exact c.out z q
    ·have:z=x %256:=by simpa using q
     omega
   ·show(s.out++[x %256]).length≤_
    rw [M];simp only [Am,Av];omega
 split
 ·exact {c with stop:=by show 1≤5;omega,code:=d}
 split
 ·split
  ·exact {c with stop:=by show 1≤5;omega,code:=d}
  ·exact c
 ·exact P9 c _ _ (zU5 _ _ _ d hy)
theorem eT:∀ (l:List Ac){s:TS},Re s→l.all UB=true→Re (Ls s l)
 |[],_,b,_=>b
 |a::l,s,b,c=>by
  rw [List.all_cons,Ah]at c;rw [Ls];split
  ·exact eT l (bO b c.1) c.2
  ·exact bO b c.1
theorem qJ {k:Nat}{x:In}(a:Mm k=some x):x.acts.all UB=true∧x.acts.length≤6∧1≤k∧k≤32∧Lh[k - 1]?= some x:=by
 unfold Mm at a;split at a
 ·cases a
 ·have h1:=A7.1 yG1 x (AD a);rw [Ah]at h1;have b:=(Ao.1 a).1;exact⟨h1.1,Ai h1.2,by omega,by have:Lh.length=32:=rfl;omega,a⟩
theorem zU6 {s:TS}(a:Re s):Re (stepT s):=by
 unfold stepT;split
 ·exact {a with stop:=by show 3≤5;omega}
 ·split
  ·exact {a with stop:=by show 2≤5;omega}
  ·rename_i x c;have b:=(qJ c).1;split
   ·exact eT _ (P9 a _ _ (by omega)) b
   ·split
    ·exact {a with stop:=by show 3≤5;omega}
    ·refine eT _ ?_ b
     exact {P9 a 4 (s.r 4+2) (by omega)with op:=a.mem _}
end Pm
namespace Go.Proofs.YtmkomefmgcpnbaaGreatDoor
open Tryz Go Go.Proofs Go.RowKit
open Pg (Bs)
open Pm (Tm Ac In)
open _root_.Array renaming getElem?_setIfInBounds→BE
open Go renaming Calls→As,TypeId→AK,Value→h,World→Y,bodyPost_end→GM,heap_alloc2_new→Ay,heap_alloc2_old→AP,heap_alloc_new→Aj,maxLen→Bk,results_none→Dr,wpList_store_row→CK
open Go.Ending renaming returned→Ak
open Go.IntKind renaming i64→Ad,u32→Af,wrap_u32→Eg
open Go.IntWalk renaming i64_in→AU
open Go.Lib renaming hid→D
open Go.Obj renaming cells→Ab
open Go.Proofs renaming intOf→AX
open Go.Proofs.Tryz renaming underlying68→FN,underlying76→FO
open Go.RowKit renaming Hid→AA
open Go.Value renaming agg→AN,bool→AE,int→V,oneCell'→CT,pointer→Ae,slice→J,string→Aa,tuple→AZ
open _root_.List renaming flatMap_append→CO,flatMap_cons→Hw,getElem?_eq_getElem→Al,length_append→M,mem_cons→AH,nil_append→B9,not_mem_nil→Ba,take_add_one→BB,take_length→BN
open _root_.Nat renaming le_refl→Aw,le_succ→CA,le_trans→AL,lt_of_lt_of_le→Ar,lt_succ_self→Dy,zero_le→Dd
open _root_.Or renaming inl→AO,inr→AB
def oM (t:Tm):List h:=[V Ad t.kind,V Af t.val]
def QL (a:Ac):List h:=[V Ad a.kind,V Ad a.eQ,V Ad a.x.kind,V Af a.x.val,V Ad a.y.kind,V Af a.y.val]
def KA:Kind Ac where
 size:=6
 pos:=by omega
 rep:=fun _ _ a cs=>cs=QL a
 len:=by intro U w x cs b;subst b;rfl
 one:=by intro U w x cs b u c;subst b;simp only [QL,AH,Ba,or_false]at c;rcases c with rfl|rfl|rfl|rfl|rfl|rfl<;>rfl
 upd:=fun b _ _ _=>b
def KI:Kind (In×Nat) where
 size:=4
 pos:=by omega
 rep:=fun U w x cs=>∃ v,cs=[Aa (str x.1.name),V Af x.2,AE x.1.operand,v]∧Ju KA U w x.1.acts v
 len:=by intro U w x cs a;obtain⟨v,rfl,_⟩:=a;rfl
 one:=by
  intro U w x cs a u b;obtain⟨v,rfl,h1⟩:=a;obtain⟨A,c,rfl⟩:=JB h1;simp only [AH,Ba,or_false]at b;rcases b with rfl|rfl|rfl|rfl<;>rfl
 upd:=fun a u d b=>by
  obtain⟨v,h1,e⟩:=a;exact⟨v,h1,e.upd u d b⟩
theorem jL:(prog.info? 68).map (·.size)=some 2:=by kernel_rfl
theorem Yj:(prog.info? 76).map (·.size)=some 6:=by kernel_rfl
abbrev bQ:Array h:= #[V Ad 0,V Ad 0,V Ad 0,V Af 0,V Ad 0,V Af 0]
abbrev Qa:Array h:= #[Aa ⟨#[]⟩,V Af 0,AE false,J none 0 0]
theorem yG2:(prog.info? 76).map (fun i=>(i.zero,i.size,i.bytes))=some (some (AN bQ),6,48):=by kernel_rfl
theorem yG3:(prog.info? 72).map (fun i=>(i.zero,i.size,i.bytes))=some (some (AN Qa),4,48):=by kernel_rfl
theorem yh0 (n:Nat)(w:Y):As prog 23 #[V Af n] w fun e w'=>e=Ak (AN #[V Ad 1,V Af n])∧Ext w w':=by
 go_enter func23,ntmps23;go_wp2;refine K3 results23 FN jL (Aj w _) ?_
 exact⟨rfl,(Ext.refl w).alloc _⟩
theorem yh1 (n:Nat)(w:Y):As prog 26 #[V Af n] w fun e w'=>e=Ak (AN #[V Ad 0,V Af n])∧Ext w w':=by
 go_enter func26,ntmps26;go_wp2;refine K3 results26 FN jL (Aj w _) ?_
 exact⟨rfl,(Ext.refl w).alloc _⟩
theorem QI {W:Y}{b i:Nat}{u v:h}{cs:Array h}{e:AK}(a:W.heap[b]?= some (Ab cs e))(f:cs[i]?= some u)(h1:cs[i+1]?= some v)(x c:h):
 W.cell? ⟨b,i,none⟩=some u∧W.frozen? ⟨b,i,none⟩=false∧(W.setCell ⟨b,i,none⟩ x).cell? ⟨b,i+1,none⟩=some v∧(W.setCell ⟨b,i,none⟩ x).frozen? ⟨b,i+1,none⟩=false∧AA (((W.setCell ⟨b,i,none⟩ x).setCell ⟨b,i+1,none⟩ c).heap[b]?= some (Ab ((cs.setIfInBounds i x).setIfInBounds (i+1) c) e)):=by
 have d:=JJ a i x;refine⟨by rw [JA a,f],JF a i,?_,JF d (i+1),D (JJ d (i+1) c)⟩;rw [JA d,BE,if_neg (by omega),h1]
def KT:Kind Tm where
 size:=2
 pos:=by omega
 rep:=fun _ _ t cs=>cs=oM t
 len:=by intro U w x cs a;subst a;rfl
 one:=by intro U w x cs a u b;subst a;simp only [oM,AH,Ba,or_false]at b;rcases b with rfl|rfl<;>rfl
 upd:=fun a _ _ _=>a
def bR (k t:Nat)(a:List Tm):Ac:=⟨k,t,a[0]?.getD ⟨0,0⟩,a[1]?.getD ⟨0,0⟩⟩
theorem zo3 (k t:Nat)(d:List Tm)(W:d.length≤2)(U:Nat→Prop)(w:Y)(v:h)(K:Ju KT U w d v):
 As prog 25 #[V Ad k,V Ad t,v] w fun e w'=>e=Ak (AN (QL (bR k t d)).toArray)∧Ext w w':=by
 have X:=D K;obtain⟨A,c,rfl⟩:=JB K;obtain⟨n,L⟩:=JH d.length;have M:=D L;rw [←L]at W ⊢;clear K L;obtain⟨Z,N⟩:=JH ((QL (bR k t (d.take 0))).toArray);have h0:=D N;have m:=D (AP w (Ab bQ 76) (Ab Z 76));have f:=D (Ay w (Ab bQ 76) (Ab Z 76));have r:=D (((Ext.refl w).alloc (Ab bQ 76)).alloc (Ab Z 76));go_enter func25,ntmps25;go_upto_region 2 with fail;rw [show #[V Ad (k:Int),V Ad (t:Int),V Ad 0,V Af 0,V Ad 0,V Af 0]=Z from N.symm];clear N;generalize(w.alloc (Ab bQ 76)).alloc (Ab Z 76)=W0 at m f r ⊢;rw [h0]at f;go_wp2;go_loopw [15] (fun s O=>∃ i:Nat,s=V Ad i∧i≤n∧AA (O.heap[w.heap.size]?= some (Ab bQ 76))∧AA (O.heap[w.heap.size+1]?= some (Ab (QL (bR k t (d.take i))).toArray 76))∧AA (Ext w O)) (fun s _=>n - (AX s).toNat)
 case atStart=>exact⟨0,rfl,by omega,m,f,r⟩
 case round=>
  clear m f r;obtain⟨i,rfl,hb,m,f,r⟩:=hrel;by_cases h1:i<n
  ·obtain⟨x,y⟩:∃ x,d[i]?= some x:=⟨_,Al (show i<d.length by rw [←M];exact h1)⟩
   obtain⟨b,o,hc,cs,Q, -,rfl,R⟩:=(X.ext r).elem y;rw [←M]at Q;injection Q with h2 hd h3
   subst h2 h3;have h4:=D R;clear R;have h5:i=0∨i=1:=by omega
   have F:=fun o=>CE ((Ext.refl wr).alloc o) m
   have G:AA (d.take (i+1)=d.take i++[x]):=D (by rw [BB,y];rfl);have H:=fun q=>CE ((Ext.refl wr).alloc q) f
   have S:=D (r.alloc (Ab #[V Ad x.kind,V Af x.val] 68));have I:w.heap.size≤w.heap.size+1:=CA _;have T:=D (fun j u (q:(oM x)[j]?= some u)=>h4 j u q);rcases h5 with B|B
   ·have h6:((i:Int)==0)=true:=by simp;omega
    have g:AA ((QL (bR k t (d.take i))).toArray[2]?= some (V Ad 0)∧(QL (bR k t (d.take i))).toArray[2+1]?= some (V Af 0)∧(((QL (bR k t (d.take i))).toArray.setIfInBounds 2 (V Ad x.kind)).setIfInBounds (2+1) (V Af x.val))=(QL (bR k t (d.take (i+1)))).toArray):=D (by
     rw [G]
     subst B
     obtain⟨C,hy⟩:∃ C,d.take 0=C:=⟨_,rfl⟩
     exact⟨rfl,rfl,rfl⟩)
    obtain⟨h7,h8,z1,f1,E⟩:=QI (H (Ab #[V Ad x.kind,V Af x.val] 68)) (i:=2) g.1 g.2.1 (V Ad x.kind) (V Af x.val);rw [g.2.2]at E;have P:=D (Rc (i:=3) (v:=V Af x.val) (Rc (i:=2) (v:=V Ad x.kind) (F (Ab #[V Ad x.kind,V Af x.val] 68)) (Dy _)) (Dy _));clear H F G B g y;go_wp2_with (refine Pn rfl 68 _ rfl b (o+i*2) rfl _ [V Ad x.kind,V Af x.val] T FN rfl jL ?_);go_roundw
    case rel=>exact⟨i+1,by go_num,by omega,P,E,D ((S.setCell (p:=⟨w.heap.size+1,2,none⟩) I _).setCell (p:=⟨w.heap.size+1,3,none⟩) I _)⟩
    case measure=>simp [AX];omega
   ·have h6:((i:Int)==0)=false:=by simp;omega
    have g:AA ((QL (bR k t (d.take i))).toArray[4]?= some (V Ad 0)∧(QL (bR k t (d.take i))).toArray[4+1]?= some (V Af 0)∧(((QL (bR k t (d.take i))).toArray.setIfInBounds 4 (V Ad x.kind)).setIfInBounds (4+1) (V Af x.val))=(QL (bR k t (d.take (i+1)))).toArray):=D (by
     rw [G]
     subst B
     obtain⟨C,hy⟩:∃ C,d.take 1=C:=⟨_,rfl⟩
     cases d with
     |nil=>simp at y
     |cons z l=>exact⟨rfl,rfl,rfl⟩)
    obtain⟨h7,h8,z1,f1,E⟩:=QI (H (Ab #[V Ad x.kind,V Af x.val] 68)) (i:=4) g.1 g.2.1 (V Ad x.kind) (V Af x.val);rw [g.2.2]at E;have P:=D (Rc (i:=5) (v:=V Af x.val) (Rc (i:=4) (v:=V Ad x.kind) (F (Ab #[V Ad x.kind,V Af x.val] 68)) (Dy _)) (Dy _));clear H F G B g y;go_wp2_with (refine Pn rfl 68 _ rfl b (o+i*2) rfl _ [V Ad x.kind,V Af x.val] T FN rfl jL ?_);go_roundw
    case rel=>exact⟨i+1,by go_num,by omega,P,E,D ((S.setCell (p:=⟨w.heap.size+1,4,none⟩) I _).setCell (p:=⟨w.heap.size+1,5,none⟩) I _)⟩
    case measure=>simp [AX];omega
  ·have h9:i=n:=by omega
   subst h9;rw [show d.take i=d from by rw [M,BN]]at f;generalize ha:bR k t d=a at f ⊢;go_wp2_with (first|(refine U9 rfl 76 _ rfl (w.heap.size+1) rfl 76 (QL a).toArray (0,0) _ f FO rfl Yj ?_)|(refine CK rfl 76 _ _ rfl w.heap.size (QL a).toArray rfl rfl 76 bQ m Yj rfl (by simp [QL,CT]) ?_));refine K3 results25 FO Yj (PO m) ?_
   exact⟨by rw [ha],r.setRow (Aw _) _⟩
theorem WA {U:Nat→Prop}{w:Y}:∀ {l:List Ac}{xs:List h},NF KA U w l xs↔xs=l.flatMap QL
 |[],xs=>Iff.rfl
 |a::l,xs=>by
  constructor
  ·rintro⟨x,c,rfl,rfl,b⟩;rw [WA.1 b];rfl
  ·intro b;exact⟨QL a,l.flatMap QL,b,rfl,WA.2 rfl⟩
theorem yG4 {base n:Nat}{w:Y}{e:AK}{v:h}{l:List Ac}{xs:List h}(b:w.ownsRow base e 6 v n xs)(d:xs=l.flatMap QL)(f:n=l.length):Ju KA (fun k=>base≤k∧k<w.heap.size) w l v:=by
 subst f;obtain⟨A,c,rfl,g,i,j,m⟩:=K7 b;exact⟨A,c,xs,rfl,g,i,j,⟨m,fun a o=>by subst o;exact Kc b rfl⟩,WA.2 d⟩
theorem wh {l:List Ac}:∀ u∈l.flatMap QL,u.oneCell'=true:=by
 intro u b;obtain⟨a,_,c⟩:=List.mem_flatMap.1 b;exact KA.one (U:=fun _=>True) (w:=default) (x:=a) rfl u c
theorem wo (l:List Ac):(l.flatMap QL).length=l.length*6:=by
 induction l with
 |nil=>rfl
 |cons a l b=>rw [Hw,M,b];simp [QL];omega
theorem zU7 (i:Nat)(P:h)(a l:List Ac)(U:Nat→Prop)(w:Y)(v:h)(j:w.heap[i]?= some (Ab #[P] 70))(L:Ju KA U w a P)(M:Ju KA U w l v)(hf:a.length+l.length≤100):
 As prog 27 #[v,Ae (some ⟨i,0,none⟩)] w fun e w'=>∃ o,e=Ak o∧Ju KA (fun k=>w.heap.size≤k∧k<w'.heap.size) w' (a++l) o∧Ext w w':=by
 obtain⟨p,q,r,s,t⟩:=info_parts yG2;obtain⟨A,c,xs,rfl,N,O,Q,x,b⟩:=L;obtain⟨R,c',f,rfl,S,T,W,y,d⟩:=M;have b:=WA.1 b;have d:=WA.1 d;have z:=JA (CE ((Ext.refl w).alloc (Ab #[] 76)) j) 0;have hg:=z;have X:=D (x.cells.ext ((Ext.refl w).alloc (Ab #[] 76)));have Z:=D y.cells;have h0:AA ((w.alloc (Ab #[] 76)).ownsRow w.heap.size 76 6 (J (some ⟨w.heap.size,0,none⟩) 0 0) 0 []):=D ⟨rfl,AB ⟨w.heap.size,0,#[],rfl,Aw _,Aj w _,Aw _,Dd _,rfl,rfl⟩⟩;have B:=D q;have C:=D r;have E:=D s;have F:=D t;have h1:AA (xs.length=a.length*6):=D (by rw [b,wo]);have h2:AA (f.length=l.length*6):=D (by rw [d,wo]);have h3:AA (∀u∈xs,u.oneCell'=true):=D (by rw [b];exact wh);have h4:AA (∀u∈f,u.oneCell'=true):=D (by rw [d];exact wh);have G:AA (w.heap.size≤(w.alloc (Ab #[] 76)).heap.size):=D ((Ext.refl w).alloc _).size;have h5:AA (0+a.length≤Bk):=D (by unfold Bk;omega);have h6:AA ((0+a.length)*48≤140737488355328):=D (by omega);have h7:AA (0+a.length+l.length≤Bk):=D (by unfold Bk;omega);have h8:AA ((0+a.length+l.length)*48≤140737488355328):=D (by omega);have H:AA ([]++xs++f=(a++l).flatMap QL∧0+a.length+l.length=(a++l).length):=D ⟨by rw [b,d,CO,B9],by simp⟩;have I:=D ((Ext.refl w).alloc (Ab #[] 76));clear j z x y b d N O Q S T W q r s t;generalize a.length=n at*
 generalize l.length=m at*
 go_enter func27,ntmps27;go_wp2_with (at_builtin;first|(refine Lp rfl _ _ 70 rfl w.heap.size 76 p (AN bQ) 6 48 underlying70 B C E F rfl (by decide) (J (some ⟨w.heap.size,0,none⟩) 0 0) 0 [] rfl h0 A n c xs rfl X h1 h3 h5 h6 G ?_;intro h9 hh K g hi)|(refine Lp rfl _ _ 70 rfl w.heap.size 76 p (AN bQ) 6 48 underlying70 B C E F rfl (by decide) h9 (0+n) ([]++xs) rfl K R m c' f rfl (Z.out.ext (ZB I g (fun k e=>by cases e;exact Aw _))) h2 h4 h7 h8 (AL G g.size) ?_;intro ha hj hb hc hk));have hd:=ZB I g (fun k e=>by cases e;exact Aw _);have he:=ZB hd hc (fun k e=>(Kc K e).1);go_ret;exact⟨ha,rfl,yG4 hb H.1 H.2,he⟩
def TBl (base b:Nat)(l:List (In×Nat))(w:Y):Prop:=b<base∧∃ v,w.heap[b]?= some (Ab #[V Ad 65536,v] 47)∧RowK KI 72 base w l v
theorem yh2 (base b:Nat)(l:List (In×Nat))(z w:Y)(hc:TBl base b l z)(F:Ext z w)(x:In)(U:Nat→Prop)(v:h)(M:base≤z.heap.size)(H:∀ k,U k→z.heap.size≤k∧k<w.heap.size)(N:Ju KA U w x.acts v)(hd:l.length≤100){S:ByteArray}(B:S=str x.name){o:Bool}(C:o=x.operand):
 As prog 24 #[Aa S,AE o,v,Ae (some ⟨b,0,none⟩)] w fun e w'=>e=Ak (AZ #[])∧TBl base b (l++[(x,l.length+1)]) w'∧JK (fun k=>k=b∨base≤k) w w':=by
 subst B C;obtain⟨he,Z,h0,h1,h2⟩:=info_parts yG3;obtain⟨h3,hf,h4,O⟩:=hc;obtain⟨hw,P⟩:=O.own;have I:∀ j,hf.ownBlock=some j→base≤j∧j<z.heap.size:=fun j Q=>Kc P Q
 obtain⟨i,c0,rfl, -⟩:=K7 P;have R:AA (KI.rep U w (x,l.length+1) [Aa (str x.name),V Af ((l.length+1:Nat):Int),AE x.operand,v]):=D ⟨v,rfl,N⟩;obtain⟨A,c,rfl⟩:=JB N;obtain⟨m,T⟩:=JH x.acts.length;obtain⟨n,u⟩:=JH l.length;obtain⟨S,B⟩:=JH (str x.name);obtain⟨o,C⟩:=JH x.operand;have s:=D u;have K:=CE F h4;rw [←B,←C,←T,←u]at R;rw [←u]at K I hd;rw [←T,←B,←C];have hx:Ad.wrap ((n:Int)+1)=(n:Int)+1:=AU _ (by omega);have hy:Af.wrap ((n:Int)+1)=(n:Int)+1:=by rw [Eg];omega
 have h5:=CE ((Ext.refl w).alloc (Ab #[Aa S,V Af ((n:Int)+1),AE o,J A m c] 72)) K;have E:=D ((Ext.refl w).alloc (Ab #[Aa S,V Af ((n:Int)+1),AE o,J A m c] 72));have hg:=D (RowK.upd (G:=fun _=>False) (RowK.upd (G:=fun _=>False) O (Gl F) (fun _ _ q=>q)) (Gl E) (fun _ _ q=>q));have hz:=JA K 1;have h6:=F.size;have hh:AA (base≤(w.alloc (Ab #[Aa S,V Af ((n:Int)+1),AE o,J A m c] 72)).heap.size):=D (AL (AL M h6) E.size);have L:AA (KI.rep (fun k=>base≤k∧k<(w.alloc (Ab #[Aa S,V Af ((n:Int)+1),AE o,J A m c] 72)).heap.size∧(J i n c0).ownBlock≠some k) (w.alloc (Ab #[Aa S,V Af ((n:Int)+1),AE o,J A m c] 72)) (x,n+1) [Aa S,V Af ((n:Int)+1),AE o,J A m c]):=D (KI.upd R (Gl (G:=fun _=>False) E) (fun _ _ q=>q) (fun j q=>⟨AL M (H j q).1,Ar (H j q).2 E.size,fun e=>by have:=I j e;have:=H j q;omega⟩));have hi:=D (RJ (W:=w) (e:=72) rfl [Aa S,V Af ((n:Int)+1),AE o,J A m c]);have hj:=D (KI.one L);have hk:AA (n+1≤Bk):=D (by unfold Bk;omega);have hl:AA ((n+1)*48≤140737488355328):=D (by omega);have hm:=D Z;have hn:=D h0;have ho:=D h1;have hp:=D h2;have h7:AA (∀j,(J i n c0).ownBlock=some j→base≤j):=D (fun j q=>(I j q).1);have hq:=D h5;have X:=D h3;clear u T B C Z h0 h1 h2 N R F H O P h4 h6 M I K h5 h3;obtain⟨xs,hr,hs⟩:=hg;have h8:=D hr;have ht:=D hs;rw [←s]at h8;have h9:AA (∀g f,f.ownsRow base 72 4 g (n+1) (xs++[Aa S,V Af ((n:Int)+1),AE o,J A m c])→(w.alloc (Ab #[Aa S,V Af ((n:Int)+1),AE o,J A m c] 72)).grownBy f (J i n c0).ownBlock→(g.ownBlock=(J i n c0).ownBlock∨g.ownBlock=some (w.alloc (Ab #[Aa S,V Af ((n:Int)+1),AE o,J A m c] 72)).heap.size)→f.heap[b]?= some (Ab #[V Ad 65536,J i n c0] 47)∧TBl base b (l++[(x,l.length+1)]) (f.setCell ⟨b,1,none⟩ g)∧JK (fun k=>k=b∨base≤k) w (f.setCell ⟨b,1,none⟩ g)):=D (by
  intro g f r d t
  have hu:(J i n c0).ownBlock≠some b:=fun q=>by have:=h7 b q;have:=X.out;omega
  have ha:JK (fun j=>(J i n c0).ownBlock=some j) (w.alloc (Ab #[Aa S,V Af ((n:Int)+1),AE o,J A m c] 72)) f:=⟨d.os,d.tape,d.output,d.size,fun j Q u=>d.block j Q (fun q=>u q.symm)⟩
  have y:=ha.heap hq hu
  have hb:=JK.setCell (G:=fun k=>k=b) (p:=⟨b,1,none⟩) (JK.refl f) (AB rfl) g
  refine⟨y,⟨X,g,JJ y 1 g,?_⟩,((Gl E).trans (ha.mono (fun k _ q=>AB (h7 k q)))).trans (hb.mono (fun k _ q=>AO q))⟩
  rw [s]at r t L d
  have:=RowK.snoc (a:=(x,l.length+1)) ht (by rw [←s];rw [←s]at L;exact L) (by rw [←s]at r ⊢;exact r) (by rw [←s]at d ⊢;exact d) (by rw [←s]at t ⊢;exact t)
  exact this.upd hb (fun k q c=>by have x0:k=b:=c;have:=X.out;omega))
 go_enter func24,ntmps24;go_wp2_with (at_builtin;refine Lp rfl _ _ 45 rfl base 72 he (AN Qa) 4 48 underlying45 hm hn ho hp rfl (by decide) (J i n c0) n xs rfl h8 (some ⟨w.heap.size,0,none⟩) 1 1 [Aa S,V Af ((n:Int)+1),AE o,J A m c] rfl hi rfl hj hk hl hh ?_;intro g f r d t;obtain⟨x1,c1,rfl, -⟩:=K7 r;have hv:=D (h9 _ f r d t).2;have y:=(h9 _ f r d t).1;have z1:=JA y 1;have f1:=JF y 1;clear y r d t);refine GM (Dr rfl _ _ _) rfl ?_
 exact⟨rfl,hv⟩
end Go.Proofs.YtmkomefmgcpnbaaGreatDoor
namespace Pg
open _root_.Bool renaming eq_iff_iff→Bl
open _root_.List renaming append_assoc→AG,cons_append→BS,foldl_cons→IP,length_append→M,length_cons→Am,length_nil→Av,map_cons→B7,mem_cons→AH,nil_append→B9
open _root_.Nat renaming le_of_ble_eq_true→Ai
open _root_.Prod renaming fst→Ee
def Kw:Nat→List (Nat×Option Bs)→List (Nat×Bs)
 |_,[]=>[]
 |o,(_,none)::a=>Kw (o+1) a
 |o,(_,some s)::a=>(o,s)::Kw (o+1) a
def WB (a:List (Bs×Nat)):Nat×Option Bs→Nat
 |(n,none)=>n
 |(n,some s)=>(n+(Ml s a).getD 0) %4294967296
def Uu (b:List (Bs×Nat))(L:List Nat)(a:Nat×Bs):List Nat:=L.set a.1 ((L[a.1]?.getD 0+(Ml a.2 b).getD 0) %4294967296)
theorem PK:∀ (f g:List (Nat×Option Bs))(o:Nat),Kw o (f++g)=Kw o f++Kw (o+f.length) g
 |[],g,o=>by simp [Kw]
 |(n,none)::f,g,o=>by rw [BS,Kw,Kw,PK f g];simp only [Am];rw [show o+1+f.length=o+(f.length+1) by omega]
 |(n,some s)::f,g,o=>by rw [BS,Kw,Kw,PK f g,BS];simp only [Am];rw [show o+1+f.length=o+(f.length+1) by omega]
theorem Wu:∀ {f:List (Nat×Option Bs)}{o:Nat}{b:Nat×Bs},b∈Kw o f→b.1<o+f.length∧∃ n,(n,some b.2)∈f
 |[],_,_,a=>by simp [Kw]at a
 |(n,none)::f,o,b,a=>by
  obtain⟨h1,m,c⟩:=Wu (by simpa [Kw]using a);exact⟨by simp only [Am];omega,m,by simp [c]⟩
 |(n,some s)::f,o,b,a=>by
  rw [Kw]at a;rcases AH.1 a with e|a
  ·subst e;exact⟨by simp,n,by simp⟩
  ·obtain⟨h1,m,c⟩:=Wu a;exact⟨by simp only [Am];omega,m,by simp [c]⟩
theorem Vi (a:List (Bs×Nat)):∀ (f:List (Nat×Option Bs))(P:List Nat),(Kw P.length f).foldl (Uu a) (P++f.map Ee)=P++f.map (WB a)
 |[],P=>by simp [Kw]
 |(n,none)::f,P=>by
  have b:=Vi a f (P++[n]);rw [M]at b;simp only [AG,BS,B9,Am,Av]at b;rw [Kw];simpa [WB]using b
 |(n,some s)::f,P=>by
  have b:=Vi a f (P++[(n+(Ml s a).getD 0) %4294967296]);rw [M]at b;simp only [AG,BS,B9,Am,Av]at b;rw [Kw,IP];have e:Uu a (P++((n,some s)::f).map Ee) (P.length,s)=P++(n+(Ml s a).getD 0) %4294967296::f.map Ee:=by
   unfold Uu;simp
  rw [e];simpa [WB]using b
theorem Ty {c:List (Bs×Nat)}:∀ {items:List (Nat×Option Bs)}{acc L:List Nat},Oz c items acc=some L→L=items.reverse.map (WB c)++acc∧∀ n s,(n,some s)∈items→∃ k,Ml s c=some k
 |[],acc,L,a=>by rw [Oz]at a;cases a;simp
 |(n,none)::g,acc,L,a=>by
  rw [Oz]at a;obtain⟨h1,d⟩:=Ty a;refine⟨by rw [h1];simp [WB],fun m s b=>d m s (by simpa using b)⟩
 |(n,some s)::g,acc,L,a=>by
  rw [Oz]at a;split at a
  ·cases a
  ·rename_i k f;obtain⟨h1,d⟩:=Ty a;refine⟨by rw [h1];simp [WB,f],fun m t b=>?_⟩;rcases AH.1 b with e|b
   ·injection e with _ e;injection e with e;exact⟨k,by rw [e];exact f⟩
   ·exact d m t b
structure Yk (a:Sq):Prop where
 n:a.items.length=a.n
 le:a.n≤65536
 lab:∀ s k,Ml s a.J2=some k→k≤65536
 once:∀ s,Oc s (a.J2.map Ee)=(Ml s a.J2).isSome
theorem Yk.nil:Yk ⟨[],0,[]⟩:=⟨rfl,by decide,by simp [Ml],by simp [Ml,Oc]⟩
theorem sM (a b:Bs):LJ a b=LJ b a:=by
 rw [Bl,Ko,Ko];exact eq_comm
theorem wu {a b:Sq}{l:WO}(c:QS a l=some b)(d:Yk a):Yk b:=by
 unfold QS at c;split at c
 ·cases c;exact d
 ·split at c
  ·cases c
  ·cases c;refine⟨d.n,d.le,fun s k e=>?_,fun s=>?_⟩
   ·rw [Ml]at e;split at e
    ·cases e;exact d.le
    ·exact d.lab s k e
   ·rename_i t _;have:=d.once s;rw [Ml];unfold Oc at this ⊢;rw [B7,List.any_cons,this,sM s t];cases LJ t s<;>rfl
 ·split at c
  ·split at c
   ·rename_i q;cases c;have:=Ai q;exact⟨by simp [d.n],this,d.lab,d.once⟩
   ·cases c
  ·cases c
 ·split at c
  ·split at c
   ·rename_i q;cases c;have:=Ai q;exact⟨by simp [d.n];omega,this,d.lab,d.once⟩
   ·cases c
  ·split at c
   ·split at c
    ·rename_i q;cases c;have:=Ai q;exact⟨by simp [d.n],this,d.lab,d.once⟩
    ·cases c
   ·split at c
    ·split at c
     ·rename_i q;cases c;have:=Ai q;exact⟨by simp [d.n],this,d.lab,d.once⟩
     ·cases c
    ·cases c
 ·split at c
  ·split at c
   ·rename_i q;cases c;have:=Ai q;exact⟨by simp [d.n],this,d.lab,d.once⟩
   ·cases c
  ·cases c
end Pg

import Derived.Test.YtmkomefmgcpnbaaGreatDoorMg1
set_option linter.all false
set_option maxHeartbeats 12800000
set_option maxRecDepth 100000
namespace Pm
open _root_.Bool renaming and_eq_true→Ah
open _root_.Nat renaming add_mod_right→C4,beq→Az,ble_eq_true_of_le→Dw,ble→A6,blt→Be,eq_of_beq_eq_true→Ap,le_of_ble_eq_true→Ai,mod_eq_of_lt→Bf,ne_of_beq_eq_false→FP,pow_succ→D6
open _root_.Or renaming inl→AO,inr→AB
inductive Tr where
 |z
 |n (v:Nat) (l r:Tr)
def Tr.get:Tr→Nat→Nat
 |.z,_=>0
 |.n v _ _,0=>v
 |.n _ l a,j+1=>cond (Az (j %2) 0) (l.get (j /2)) (a.get (j /2))
def SQ {α:Type}:Nat→Tr→Nat→Nat→(Tr→α)→α
 |0,t,_,_,k=>k t
 |_+1,.z,0,v,k=>k (.n v .z .z)
 |f+1,.z,j+1,v,k=>cond (Az (j %2) 0) (SQ f .z (j /2) v fun l=>k (.n 0 l .z)) (SQ f .z (j /2) v fun a=>k (.n 0 .z a))
 |_+1,.n _ l a,0,v,k=>k (.n v l a)
 |f+1,.n x l a,j+1,v,k=>cond (Az (j %2) 0) (SQ f l (j /2) v fun l=>k (.n x l a)) (SQ f a (j /2) v fun a=>k (.n x l a))
def Tr.set (f:Nat)(t:Tr)(i v:Nat):Tr:=SQ f t i v id
theorem Pb {α:Type}:∀ (f:Nat)(t:Tr)(i v:Nat)(k:Tr→α),SQ f t i v k=k (Tr.set f t i v)
 |0,t,_,_,k=>rfl
 |_+1,.z,0,v,k=>rfl
 |f+1,.z,j+1,v,k=>by
  unfold Tr.set SQ;cases Az (j %2) 0<;>simp only [cond]
  ·rw [Pb f,Pb f (k:=fun a=>id (Tr.n 0 .z a))];rfl
  ·rw [Pb f,Pb f (k:=fun a=>id (Tr.n 0 a .z))];rfl
 |_+1,.n _ l a,0,v,k=>rfl
 |f+1,.n x l a,j+1,v,k=>by
  unfold Tr.set SQ;cases Az (j %2) 0<;>simp only [cond]
  ·rw [Pb f,Pb f (k:=fun b=>id (Tr.n x l b))];rfl
  ·rw [Pb f,Pb f (k:=fun b=>id (Tr.n x b a))];rfl
theorem l7 {α:Type}(n:Nat)(a b:α):cond (Az n 0) a b=if n=0 then a else b:=by
 cases n<;>rfl
theorem zX9 (f:Nat)(x:Nat)(l a:Tr)(j v:Nat):Tr.set (f+1) (.n x l a) (j+1) v=if j %2=0 then .n x (Tr.set f l (j /2) v) a else .n x l (Tr.set f a (j /2) v):=by
 show SQ _ _ _ _ _=_
 rw [SQ,l7];split<;>rw [Pb]<;>rfl
theorem zF0 (f:Nat)(j v:Nat):Tr.set (f+1) .z (j+1) v=if j %2=0 then .n 0 (Tr.set f .z (j /2) v) .z else .n 0 .z (Tr.set f .z (j /2) v):=by
 show SQ _ _ _ _ _=_
 rw [SQ,l7];split<;>rw [Pb]<;>rfl
theorem Qr (x:Nat)(l a:Tr)(j:Nat):(Tr.n x l a).get (j+1)=if j %2=0 then l.get (j /2)else a.get (j /2):=by
 rw [Tr.get,l7]
theorem sZ (i:Nat):Tr.z.get i=0:=by cases i<;>rfl
theorem YO:∀ (f:Nat)(t:Tr)(i v j:Nat),i+1<2 ^f→(Tr.set f t i v).get j=if j=i then v else t.get j
 |0,t,i,v,j,a=>by simp at a
 |f+1,.z,0,v,j,a=>by
  show(Tr.n v .z .z).get j=_
  cases j with
  |zero=>rfl
  |succ j=>rw [Qr,sZ,sZ];simp
 |f+1,.n x l c,0,v,j,a=>by
  show(Tr.n v l c).get j=_
  cases j with
  |zero=>rfl
  |succ j=>rw [Qr,Qr];simp
 |f+1,.z,i+1,v,j,a=>by
  have b:i /2+1<2 ^f:=by rw [D6]at a;omega
  rw [zF0];cases j with
  |zero=>
   split<;>(rw [if_neg (by omega)];rfl)
  |succ j=>
   split
   ·rw [Qr,YO f .z _ v _ b];simp only [sZ];by_cases q:j %2=0
    ·rw [if_pos q];by_cases e:j=i
     ·subst e;simp
     ·rw [if_neg (by omega),if_neg (by omega)]
    ·rw [if_neg q,if_neg (by omega)]
   ·rw [Qr,YO f .z _ v _ b];simp only [sZ];by_cases q:j %2=0
    ·rw [if_pos q,if_neg (by omega)]
    ·rw [if_neg q];by_cases e:j=i
     ·subst e;simp
     ·rw [if_neg (by omega),if_neg (by omega)]
 |f+1,.n x l c,i+1,v,j,a=>by
  have b:i /2+1<2 ^f:=by rw [D6]at a;omega
  rw [zX9];cases j with
  |zero=>
   split<;>(rw [if_neg (by omega)];rfl)
  |succ j=>
   split
   ·rw [Qr,Qr,YO f l _ v _ b];by_cases q:j %2=0
    ·rw [if_pos q,if_pos q];by_cases e:j=i
     ·subst e;simp
     ·rw [if_neg (by omega),if_neg (by omega)]
    ·rw [if_neg q,if_neg q,if_neg (by omega)]
   ·rw [Qr,Qr,YO f c _ v _ b];by_cases q:j %2=0
    ·rw [if_pos q,if_pos q,if_neg (by omega)]
    ·rw [if_neg q,if_neg q];by_cases e:j=i
     ·subst e;simp
     ·rw [if_neg (by omega),if_neg (by omega)]
def fN {α:Type}(n:Nat)(k:Nat→α):α:=match n with
 |0=>k 0
 |m+1=>k (m+1)
theorem zF1 {α:Type}(n:Nat)(k:Nat→α):fN n k=k n:=by cases n<;>rfl
def Uy (c n:Nat):Nat:=(c+4294967296 - n) %4294967296
def rdX {α:Type}(l:List Nat)(k:Nat→List Nat→α):α:=match l with
 |[]=>k 4294967295 []
 |x::l=>k x l
def Qc:Nat→Tr→Nat→Nat→Nat→Nat→List Nat→List Nat→Option (Nat×List Nat)
 |0,_,_,_,_,_,_,_=>none
 |f+1,t,p,a,c,d,inp,out=>
  cond (Be (p+1) 65536) (
  fN (t.get p) fun k=>fN (t.get (p+1)) fun n=>
  cond (Az k 2) (Qc f t (p+2) n c d inp out) <|
  cond (Az k 5) (fN (Uy c n) fun x=>cond (Be x 65536) (fN (t.get x) fun v=>Qc f t (p+2) v c d inp out) none) <|
  cond (Az k 9) (cond (Be c 65536) (SQ 18 t c a fun t=>Qc f t (p+1) a (c+1) d inp out) none) <|
  cond (Az k 27) (cond (Az a 0) (Qc f t n a c d inp out) (Qc f t (p+2) a c d inp out)) <|
  cond (Az k 26) (Qc f t n a c d inp out) <|
  cond (Az k 6) (fN (Uy c n) fun x=>cond (Be x 65536) (SQ 18 t x a fun t=>Qc f t (p+2) a c d inp out) none) <|
  cond (Az k 3) (cond (Be n 65536) (fN (t.get n) fun v=>Qc f t (p+2) v c d inp out) none) <|
  cond (Az k 4) (cond (Be n 65536) (SQ 18 t n a fun t=>Qc f t (p+2) a c d inp out) none) <|
  cond (Az k 7) (fN ((a+n) %4294967296) fun x=>cond (Be x 65536) (fN (t.get x) fun v=>Qc f t (p+2) v c d inp out) none) <|
  cond (Az k 8) (fN (Uy c 1) fun c=>cond (Be c 65536) (fN ((t.get c+n) %4294967296) fun x=>cond (Be x 65536) (SQ 18 t x a fun t=>Qc f t (p+2) a c d inp out) none) none) <|
  cond (Az k 10) (fN (Uy c n) fun c=>Qc f t (p+2) a c d inp out) <|
  cond (Az k 25) (cond (Be a n) (Qc f t (p+2) a c d inp out) none) <|
  cond (Az k 28) (cond (Be d 100&&Be c 65536) (SQ 18 t c (p+2) fun t=>Qc f t n a (c+1) (d+1) inp out) none) <|
  cond (Az k 29) (fN (Uy c n) fun c=>cond (Be c 65536&&Be 0 d) (fN (t.get c) fun p=>fN (d - 1) fun d=>Qc f t p a c d inp out) none) <|
  cond (Az k 32) (Qc f t (p+2) a n d inp out) <|
  cond (Az k 24) (Qc f t (p+1) (cond (Az a 0) 1 0) c d inp out) <|
  cond (Az k 30) (rdX inp fun x l=>Qc f t (p+1) x c d l out) <|
  cond (Az k 31) (cond (A6 20000 out.length) none (Qc f t (p+1) a c d inp (out++[a %256]))) <|
  cond (Az k 1) (some (a,out)) <|
  cond (A6 11 k&&A6 k 23) (fN (Uy c 1) fun c=>cond (Be c 65536&& !(Az a 0&&(Az k 14||Az k 15))) (fN (O9 k (t.get c) a) fun v=>Qc f t (p+1) v c d inp out) none)
  none) none
structure RX (t:Tr) (p a c d:Nat) (inp out:List Nat) (m:MS):Prop where
 mem:∀ i,t.get i=m.mem i
 pc:m.pc=p
 a:m.a=a
 c:m.c=c
 dd:m.d=d
 inp:m.inp=inp
 out:m.out=out
 stop:m.stop=0
 dl:d≤100
theorem MV {α:Type}{b:Bool}{x:Option α}{v:α}(a:cond b x none=some v):b=true∧x=some v:=by
 cases b with
 |true=>exact⟨rfl,a⟩
 |false=>cases a
theorem Nz {a b:Nat}(c:Be a b=true):a<b:=Ai c
theorem WH {t:Tr}{m:Nat→Nat}(a:∀ i,t.get i=m i){i:Nat}(b:i<65536)(v:Nat):∀ j,(Tr.set 18 t i v).get j=upd m i v j:=fun j=>by
 rw [YO 18 t i v j (by omega)];unfold upd;rw [a j]
theorem Qw {n:Nat}{k:Nat→Option (Nat×List Nat)}{v:Nat×List Nat}(a:fN n k=some v):k n=some v:=by rw [zF1]at a;exact a
theorem YP {t:Tr}{i x:Nat}{k:Tr→Option (Nat×List Nat)}{v:Nat×List Nat}(b:SQ 18 t i x k=some v):k (Tr.set 18 t i x)=some v:=by rw [Pb]at b;exact b
def Tp (f:Nat)(m:MS)(a:Nat×List Nat):Prop:=∃ k,k≤f∧(it k m).stop=1∧(it k m).code=a.1∧(it k m).out=a.2
def IH (f:Nat):Prop:=∀ {t:Tr}{p a c d:Nat}{inp out:List Nat}{m:MS}{b:Nat×List Nat},Qc f t p a c d inp out=some b→RX t p a c d inp out m→Tp f m b
theorem Tp.go {f:Nat}{m a:MS}{b:Nat×List Nat}(c:LZ m=a)(d:Tp f a b):Tp (f+1) m b:=by
 obtain⟨k,g,e⟩:=d;exact⟨k+1,by omega,by rw [it,c];exact e⟩
theorem y80 {d:Nat}(a:0<d)(k:d≤100):(d+4294967296 - 1) %4294967296=d - 1:=by
 rw [show d+4294967296 - 1=(d - 1)+4294967296 by omega,C4];exact Bf (by omega)
section
variable {t:Tr}{mem:Nat→Nat}{p a c d n code:Nat}{inp out:List Nat}(hm:∀ i,t.get i=mem i)(hd:d≤100)
include hm hd
theorem q2:RX t p n c d inp out (Lu 2 n ⟨mem,p,a,c,d,inp,out,0,code⟩):=by
 simp only [Lu,Nat.reduceEqDiff, ↓reduceIte];exact⟨hm,rfl,rfl,rfl,rfl,rfl,rfl,rfl,hd⟩
theorem q5 (b:Uy c n<65536):RX t p (t.get (Uy c n)) c d inp out (Lu 5 n ⟨mem,p,a,c,d,inp,out,0,code⟩):=by
 unfold Lu Uy at*
 rw [if_neg (by decide),if_neg (by decide),if_neg (by decide),if_pos rfl,if_pos b];exact⟨hm,rfl,(hm _).symm,rfl,rfl,rfl,rfl,rfl,hd⟩
theorem q6 (b:Uy c n<65536):RX (Tr.set 18 t (Uy c n) a) p a c d inp out (Lu 6 n ⟨mem,p,a,c,d,inp,out,0,code⟩):=by
 unfold Lu Uy at*
 rw [if_neg (by decide),if_neg (by decide),if_neg (by decide),if_neg (by decide),if_pos rfl,if_pos b];exact⟨WH hm b _,rfl,rfl,rfl,rfl,rfl,rfl,rfl,hd⟩
theorem q9 (b:c<65536):RX (Tr.set 18 t c a) p a (c+1) d inp out (PL 9 ⟨mem,p,a,c,d,inp,out,0,code⟩):=by
 simp only [PL,Nat.reduceEqDiff, ↓reduceIte];rw [if_pos b,Bf (show c+1<4294967296 by omega)];exact⟨WH hm b _,rfl,rfl,rfl,rfl,rfl,rfl,rfl,hd⟩
theorem q26:RX t n a c d inp out (Lu 26 n ⟨mem,p,a,c,d,inp,out,0,code⟩):=by
 simp only [Lu,Nat.reduceEqDiff, ↓reduceIte];exact⟨hm,rfl,rfl,rfl,rfl,rfl,rfl,rfl,hd⟩
theorem y81 (b:a=0):RX t n a c d inp out (Lu 27 n ⟨mem,p,a,c,d,inp,out,0,code⟩):=by
 simp only [Lu,Nat.reduceEqDiff, ↓reduceIte];rw [if_pos b];exact⟨hm,rfl,rfl,rfl,rfl,rfl,rfl,rfl,hd⟩
theorem y82 (b:¬ a=0):RX t p a c d inp out (Lu 27 n ⟨mem,p,a,c,d,inp,out,0,code⟩):=by
 simp only [Lu,Nat.reduceEqDiff, ↓reduceIte];rw [if_neg b];exact⟨hm,rfl,rfl,rfl,rfl,rfl,rfl,rfl,hd⟩
theorem q3 (b:n<65536):RX t p (t.get n) c d inp out (Lu 3 n ⟨mem,p,a,c,d,inp,out,0,code⟩):=by
 simp only [Lu,Nat.reduceEqDiff, ↓reduceIte];rw [if_pos b];exact⟨hm,rfl,(hm _).symm,rfl,rfl,rfl,rfl,rfl,hd⟩
theorem q4 (b:n<65536):RX (Tr.set 18 t n a) p a c d inp out (Lu 4 n ⟨mem,p,a,c,d,inp,out,0,code⟩):=by
 simp only [Lu,Nat.reduceEqDiff, ↓reduceIte];rw [if_pos b];exact⟨WH hm b _,rfl,rfl,rfl,rfl,rfl,rfl,rfl,hd⟩
theorem q7 (b:(a+n) %4294967296<65536):RX t p (t.get ((a+n) %4294967296)) c d inp out (Lu 7 n ⟨mem,p,a,c,d,inp,out,0,code⟩):=by
 simp only [Lu,Nat.reduceEqDiff, ↓reduceIte];rw [if_pos b];exact⟨hm,rfl,(hm _).symm,rfl,rfl,rfl,rfl,rfl,hd⟩
theorem q8 (b:Uy c 1<65536)(hy:(t.get (Uy c 1)+n) %4294967296<65536):RX (Tr.set 18 t ((t.get (Uy c 1)+n) %4294967296) a) p a (Uy c 1) d inp out (Lu 8 n ⟨mem,p,a,c,d,inp,out,0,code⟩):=by
 rw [hm]at hy ⊢;unfold Lu Uy at*
 rw [if_neg (by decide),if_neg (by decide),if_neg (by decide),if_neg (by decide),if_neg (by decide),if_neg (by decide),if_pos rfl,if_pos b,if_pos hy];exact⟨WH hm hy _,rfl,rfl,rfl,rfl,rfl,rfl,rfl,hd⟩
theorem q10:RX t p a (Uy c n) d inp out (Lu 10 n ⟨mem,p,a,c,d,inp,out,0,code⟩):=by
 unfold Lu Uy;rw [if_neg (by decide),if_neg (by decide),if_neg (by decide),if_neg (by decide),if_neg (by decide),if_neg (by decide),if_neg (by decide),if_pos rfl];exact⟨hm,rfl,rfl,rfl,rfl,rfl,rfl,rfl,hd⟩
theorem q25 (b:a<n):RX t p a c d inp out (Lu 25 n ⟨mem,p,a,c,d,inp,out,0,code⟩):=by
 simp only [Lu,Nat.reduceEqDiff, ↓reduceIte];rw [if_pos b];exact⟨hm,rfl,rfl,rfl,rfl,rfl,rfl,rfl,hd⟩
theorem q28 (h1:d<100)(b:c<65536):RX (Tr.set 18 t c p) n a (c+1) (d+1) inp out (Lu 28 n ⟨mem,p,a,c,d,inp,out,0,code⟩):=by
 simp only [Lu,Nat.reduceEqDiff, ↓reduceIte];rw [Bf (show d+1<4294967296 by omega),if_pos (show d+1<101 by omega),if_pos b,Bf (show c+1<4294967296 by omega)];exact⟨WH hm b _,rfl,rfl,rfl,rfl,rfl,rfl,rfl,h1⟩
theorem q29 (b:Uy c n<65536)(h1:0<d):RX t (t.get (Uy c n)) a (Uy c n) (d - 1) inp out (Lu 29 n ⟨mem,p,a,c,d,inp,out,0,code⟩):=by
 unfold Lu Uy at*
 rw [if_neg (by decide),if_neg (by decide),if_neg (by decide),if_neg (by decide),if_neg (by decide),if_neg (by decide),if_neg (by decide),if_neg (by decide),if_neg (by decide),if_neg (by decide),if_neg (by decide),if_neg (by decide),if_pos rfl,if_pos b,y80 h1 hd];exact⟨hm,(hm _).symm,rfl,rfl,rfl,rfl,rfl,rfl,(by omega)⟩
theorem q32:RX t p a n d inp out (Lu 32 n ⟨mem,p,a,c,d,inp,out,0,code⟩):=by
 simp only [Lu,Nat.reduceEqDiff, ↓reduceIte];exact⟨hm,rfl,rfl,rfl,rfl,rfl,rfl,rfl,hd⟩
theorem q24:RX t p (cond (Az a 0) 1 0) c d inp out (PL 24 ⟨mem,p,a,c,d,inp,out,0,code⟩):=by
 simp only [PL,Nat.reduceEqDiff, ↓reduceIte];exact⟨hm,rfl,by cases a<;>rfl,rfl,rfl,rfl,rfl,rfl,hd⟩
theorem y83:RX t p 4294967295 c d [] out (PL 30 ⟨mem,p,a,c,d,[],out,0,code⟩):=by
 simp only [PL,Nat.reduceEqDiff, ↓reduceIte];exact⟨hm,rfl,rfl,rfl,rfl,rfl,rfl,rfl,hd⟩
theorem y84 {x:Nat}:RX t p x c d inp out (PL 30 ⟨mem,p,a,c,d,x::inp,out,0,code⟩):=by
 simp only [PL,Nat.reduceEqDiff, ↓reduceIte];exact⟨hm,rfl,rfl,rfl,rfl,rfl,rfl,rfl,hd⟩
theorem q31 (b:¬ 20000≤out.length):RX t p a c d inp (out++[a %256]) (PL 31 ⟨mem,p,a,c,d,inp,out,0,code⟩):=by
 simp only [PL,Nat.reduceEqDiff, ↓reduceIte];rw [if_neg b];exact⟨hm,rfl,rfl,rfl,rfl,rfl,rfl,rfl,hd⟩
theorem qb {k X:Nat}(f:11≤k)(g:k≤23)(b:(c+4294967296 - 1) %4294967296=X)(hy:X<65536)(e:¬ ((k=14∨k=15)∧a=0)):RX t p (O9 k (t.get X) a) X d inp out (PL k ⟨mem,p,a,c,d,inp,out,0,code⟩):=by
 unfold PL;rw [if_neg (by omega),if_neg (by omega),if_neg (by omega),if_neg (by omega),if_neg (by omega),b,if_pos hy,if_neg e];exact⟨hm,rfl,by rw [hm],rfl,rfl,rfl,rfl,rfl,hd⟩
end
theorem yl9 {k:Nat}(a:11≤k)(b:k≤23):has k=false:=by
 obtain⟨j,rfl⟩:=Nat.exists_eq_add_of_le a;have:j<13:=by omega
 revert this;clear a b;revert j;decide
theorem bq {k j:Nat}{α:Type}{x c z:α}(b:cond (Az k j) x c=z):(k=j∧x=z)∨(k≠j∧c=z):=by
 cases e:Az k j with
 |true=>rw [e]at b;exact AO ⟨Ap e,b⟩
 |false=>rw [e]at b;exact AB ⟨FP e,b⟩
theorem zw0:∀ (f:Nat),IH f:=by
 intro f
 induction f with
 |zero=>intro _ _ _ _ _ _ _ _ _ e _;cases e
 |succ f h=>
  intro t p a c d inp out m L e I;unfold Qc at e
  replace e:=MV e
  obtain⟨w,e⟩:=e;have w:=Nz w
  replace e:=Qw e
  replace e:=Qw e
  obtain⟨mem,i,o,u,v,r,s,M,code⟩:=m;obtain⟨hm,h1,z,A,B,C,D,E,hd⟩:=I;simp only at hm h1 z A B C D E;subst h1 z A B C D E;have y:=hm i;have F:=hm (i+1);generalize t.get i=k at*
  generalize t.get (i+1)=n at*
  have s1:0<k∧k≤32∧has k=true→LZ ⟨mem,i,o,u,v,r,s,0,code⟩=Lu k n ⟨mem,i+2,o,u,v,r,s,0,code⟩:=fun⟨a,b,c⟩=>Wt rfl w y.symm F.symm a b c
  have j:0<k∧k≤32∧has k=false→LZ ⟨mem,i,o,u,v,r,s,0,code⟩=PL k ⟨mem,i+1,o,u,v,r,s,0,code⟩:=fun⟨a,b,c⟩=>jK rfl (show i<65536 by omega) y.symm a b c
  clear y F
  replace e:=bq e
  rcases e with⟨rfl,e⟩|⟨N,e⟩
  ·exact Tp.go (s1 (by decide)) (h e (q2 hm hd))
  replace e:=bq e
  rcases e with⟨rfl,e⟩|⟨O,e⟩
  ·obtain⟨g,e⟩:=MV (Qw e);exact Tp.go (s1 (by decide)) (h (Qw e) (q5 hm hd (Nz g)))
  replace e:=bq e
  rcases e with⟨rfl,e⟩|⟨P,e⟩
  ·obtain⟨g,e⟩:=MV (e);exact Tp.go (j (by decide)) (h (YP e) (q9 hm hd (Nz g)))
  replace e:=bq e
  rcases e with⟨rfl,e⟩|⟨n27,e⟩
  ·cases q:Az o 0 with
   |true=>rw [q]at e;exact Tp.go (s1 (by decide)) (h e (y81 hm hd (Ap q)))
   |false=>rw [q]at e;exact Tp.go (s1 (by decide)) (h e (y82 hm hd (FP q)))
  replace e:=bq e
  rcases e with⟨rfl,e⟩|⟨n26,e⟩
  ·exact Tp.go (s1 (by decide)) (h e (q26 hm hd))
  replace e:=bq e
  rcases e with⟨rfl,e⟩|⟨Q,e⟩
  ·obtain⟨g,e⟩:=MV (Qw e);exact Tp.go (s1 (by decide)) (h (YP e) (q6 hm hd (Nz g)))
  replace e:=bq e
  rcases e with⟨rfl,e⟩|⟨R,e⟩
  ·obtain⟨g,e⟩:=MV (e);exact Tp.go (s1 (by decide)) (h (Qw e) (q3 hm hd (Nz g)))
  replace e:=bq e
  rcases e with⟨rfl,e⟩|⟨S,e⟩
  ·obtain⟨g,e⟩:=MV (e);exact Tp.go (s1 (by decide)) (h (YP e) (q4 hm hd (Nz g)))
  replace e:=bq e
  rcases e with⟨rfl,e⟩|⟨T,e⟩
  ·obtain⟨g,e⟩:=MV (Qw e);exact Tp.go (s1 (by decide)) (h (Qw e) (q7 hm hd (Nz g)))
  replace e:=bq e
  rcases e with⟨rfl,e⟩|⟨U,e⟩
  ·obtain⟨g,e⟩:=MV (Qw e);obtain⟨hy,e⟩:=MV (Qw e);exact Tp.go (s1 (by decide)) (h (YP e) (q8 hm hd (Nz g) (Nz hy)))
  replace e:=bq e
  rcases e with⟨rfl,e⟩|⟨n10,e⟩
  ·exact Tp.go (s1 (by decide)) (h (Qw e) (q10 hm hd))
  replace e:=bq e
  rcases e with⟨rfl,e⟩|⟨n25,e⟩
  ·obtain⟨g,e⟩:=MV (e);exact Tp.go (s1 (by decide)) (h e (q25 hm hd (Nz g)))
  replace e:=bq e
  rcases e with⟨rfl,e⟩|⟨n28,e⟩
  ·obtain⟨g,e⟩:=MV (e);rw [Ah]at g;exact Tp.go (s1 (by decide)) (h (YP e) (q28 hm hd (Nz g.1) (Nz g.2)))
  replace e:=bq e
  rcases e with⟨rfl,e⟩|⟨n29,e⟩
  ·obtain⟨g,e⟩:=MV (Qw e);rw [Ah]at g;exact Tp.go (s1 (by decide)) (h (Qw (Qw e)) (q29 hm hd (Nz g.1) (Nz g.2)))
  replace e:=bq e
  rcases e with⟨rfl,e⟩|⟨n32,e⟩
  ·exact Tp.go (s1 (by decide)) (h e (q32 hm hd))
  replace e:=bq e
  rcases e with⟨rfl,e⟩|⟨n24,e⟩
  ·exact Tp.go (j (by decide)) (h e (q24 hm hd))
  replace e:=bq e
  rcases e with⟨rfl,e⟩|⟨n30,e⟩
  ·cases r with
   |nil=>exact Tp.go (j (by decide)) (h e (y83 hm hd))
   |cons x l=>exact Tp.go (j (by decide)) (h e (y84 hm hd))
  replace e:=bq e
  rcases e with⟨rfl,e⟩|⟨n31,e⟩
  ·cases q:A6 20000 s.length with
   |true=>rw [q]at e;cases e
   |false=>rw [q]at e;exact Tp.go (j (by decide)) (h e (q31 hm hd fun q2=>by rw [Dw q2]at q;cases q))
  replace e:=bq e
  rcases e with⟨rfl,e⟩|⟨W,e⟩
  ·cases e;exact⟨1,by omega,by rw [it,j (by decide)];exact⟨rfl,rfl,rfl⟩⟩
  obtain⟨g,e⟩:=MV e;rw [Ah]at g;have G:=Ai g.1;have H:=Ai g.2;obtain⟨hy,e⟩:=MV (Qw e);rw [Ah]at hy;have K:¬ ((k=14∨k=15)∧o=0):=by
   rintro⟨q,rfl⟩;rcases q with rfl|rfl<;>simp at hy
  exact Tp.go (j ⟨by omega,by omega,yl9 G H⟩) (h (Qw e) (qb hm hd G H rfl (Nz hy.1) K))
end Pm
namespace Pm
open _root_.Nat renaming beq→Az,ble→A6,blt→Be
inductive RE where
 |num (n:Nat)
 |loc (i:Nat)
 |gv (i:Nat)
 |ix (i:Nat) (e:RE)
 |call (f:Nat) (as:List RE)
 |get
 |qQ (e:RE)
 |neg (e:RE)
 |flip (e:RE)
 |bin (k:Nat) (z:Bool) (a b:RE)
 |land (a b:RE)
 |lor (a b:RE)
inductive RS where
 |PN (i:Nat) (e:RE)
 |TI (i:Nat) (e:RE)
 |sj (i:Nat) (a e:RE)
 |ite (e:RE) (b c:List RS)
 |dA (e:RE) (b:List RS)
 |call (f:Nat) (as:List RE)
 |ret (e:RE)
 |put (e:RE)
 |stop (e:RE)
 |brk
 |cont
structure RF where
 np:Nat
 nl:Nat
 body:List RS
structure Ctx where
 img:List Nat
 ce:Nat
 fa:List Nat
 fs:List RF
 ga:List Nat
 gl:List Nat
 sb:Nat
abbrev Pl:=Nat×List Nat
def t1 (X:Ctx)(k:Nat)(p:Pl):Option Pl:=match p.2 with
 |x::a=>if Az x k&&Be p.1 X.ce then some (p.1+1,a)else none
 |[]=>none
def t2 (X:Ctx)(k n:Nat)(p:Pl):Option Pl:=match p.2 with
 |x::a::b=>if Az x k&&Az a n&&Be (p.1+1) X.ce then some (p.1+2,b)else none
 |_=>none
def oV (X:Ctx)(k:Nat)(p:Pl):Option (Nat×Pl):=match p.2 with
 |x::a::b=>if Az x k&&Be (p.1+1) X.ce then some (a,(p.1+2,b))else none
 |_=>none
def slot (np i:Nat):Nat:=if i<np then i else i+1
mutual
def cE (X:Ctx)(np c:Nat):RE→Nat→Pl→Option Pl
 |.num n,_,p=>t2 X 2 n p
 |.loc i,sz,p=>if Be i c then t2 X 5 (sz - slot np i) p else none
 |.gv i,_,p=>X.ga[i]?.bind fun a=>if Az (X.gl[i]?.getD 0) 1 then t2 X 3 a p else none
 |.ix i e,sz,p=>X.ga[i]?.bind fun a=>(cE X np c e sz p).bind fun q=>(t2 X 25 (X.gl[i]?.getD 0) q).bind fun d=>t2 X 7 a d
 |.call f h,sz,p=>(yF X np c h sz p).bind fun q=>X.fa[f]?.bind fun a=>X.fs[f]?.bind fun F=>if Az F.np h.length then(t2 X 28 a q).bind fun d=>if Az h.length 0 then some d else t2 X 10 h.length d else none
 |.get,_,p=>t1 X 30 p
 |.qQ e,sz,p=>(cE X np c e sz p).bind fun q=>t1 X 24 q
 |.neg e,sz,p=>if Be sz 60 then(t2 X 2 0 p).bind fun q=>(t1 X 9 q).bind fun d=>(cE X np c e (sz+1) d).bind fun s=>t1 X 12 s
  else none
 |.flip e,sz,p=>if Be sz 60 then(t2 X 2 4294967295 p).bind fun q=>(t1 X 9 q).bind fun d=>(cE X np c e (sz+1) d).bind fun s=>t1 X 12 s
  else none
 |.bin k z a b,sz,p=>if Be sz 60&&A6 11 k&&A6 k 23 then(cE X np c a sz p).bind fun q=>(t1 X 9 q).bind fun d=>(cE X np c b (sz+1) d).bind fun s=>(t1 X k s).bind fun u=>if z then t1 X 24 u else some u
  else none
 |.land a b,sz,p=>(cE X np c a sz p).bind fun q=>(oV X 27 q).bind fun g=>(cE X np c b sz g.2).bind fun s=>(t1 X 24 s).bind fun u=>(t1 X 24 u).bind fun v=>if Az v.1 g.1 then some v else none
 |.lor a b,sz,p=>(cE X np c a sz p).bind fun o=>(t1 X 24 o).bind fun q=>(oV X 27 q).bind fun g=>(cE X np c b sz g.2).bind fun s=>(t1 X 24 s).bind fun u=>if Az u.1 g.1 then t1 X 24 u else none
def yF (X:Ctx)(np a:Nat):List RE→Nat→Pl→Option Pl
 |[],_,p=>some p
 |e::l,sz,p=>if Be sz 60 then(cE X np a e sz p).bind fun q=>(t1 X 9 q).bind fun b=>yF X np a l (sz+1) b
  else none
end
mutual
def cS (X:Ctx)(np d:Nat):RS→Nat×Nat→Pl→Option Pl
 |.PN i e,_,p=>if Be i d then(cE X np d e (d+1) p).bind fun q=>t2 X 6 (d+1 - slot np i) q
  else none
 |.TI i e,_,p=>X.ga[i]?.bind fun a=>if Az (X.gl[i]?.getD 0) 1 then(cE X np d e (d+1) p).bind fun q=>t2 X 4 a q else none
 |.sj i a e,_,p=>X.ga[i]?.bind fun g=>(cE X np d a (d+1) p).bind fun q=>(t2 X 25 (X.gl[i]?.getD 0) q).bind fun k=>(t1 X 9 k).bind fun s=>(cE X np d e (d+2) s).bind fun u=>t2 X 8 g u
 |.ite e b c,lp,p=>(cE X np d e (d+1) p).bind fun q=>(oV X 27 q).bind fun h=>(jC X np d b lp h.2).bind fun s=>if c.isEmpty then(if Az s.1 h.1 then some s else none)else(oV X 26 s).bind fun j=>if Az j.2.1 h.1 then(jC X np d c lp j.2).bind fun v=>if Az v.1 j.1 then some v else none
  else none
 |.dA e b,_,p=>(cE X np d e (d+1) p).bind fun q=>(oV X 27 q).bind fun h=>(jC X np d b (p.1,h.1) h.2).bind fun s=>(t2 X 26 p.1 s).bind fun u=>if Az u.1 h.1 then some u else none
 |.call f l,_,p=>cE X np d (.call f l) (d+1) p
 |.ret e,_,p=>(cE X np d e (d+1) p).bind fun q=>t2 X 29 (d - np+1) q
 |.put e,_,p=>(cE X np d e (d+1) p).bind fun q=>t1 X 31 q
 |.stop e,_,p=>(cE X np d e (d+1) p).bind fun q=>t1 X 1 q
 |.brk,lp,p=>t2 X 26 lp.2 p
 |.cont,lp,p=>t2 X 26 lp.1 p
def jC (X:Ctx)(np a:Nat):List RS→Nat×Nat→Pl→Option Pl
 |[],_,p=>some p
 |s::l,lp,p=>(cS X np a s lp p).bind fun q=>jC X np a l lp q
end
def YQ (X:Ctx):Nat→Pl→Option Pl
 |0,p=>some p
 |n+1,p=>(t1 X 9 p).bind fun q=>YQ X n q
def cF (X:Ctx)(F:RF)(p:Pl):Option Pl:=
 if A6 (F.np+F.nl+2) 60 then
  ((if Az F.nl 0 then some p else(t2 X 2 0 p).bind fun q=>YQ X F.nl q)).bind fun a=>(jC X F.np (F.np+F.nl) F.body (65536,65536) a).bind fun s=>(t2 X 2 0 s).bind fun u=>t2 X 29 (F.nl+1) u
 else none
def cFs (X:Ctx):List RF→List Nat→Pl→Bool
 |[],[],p=>Az p.1 X.ce
 |F::l,a::m,p=>Az a p.1&&match cF X F p with
  |none=>false
  |some q=>cFs X l m q
 |_,_,_=>false
def cG:Nat→Nat→List Nat→List Nat→Bool
 |at_,b,[],[]=>A6 at_ b
 |at_,b,a::l,n::m=>A6 at_ a&&A6 1 n&&cG (a+n) b l m
 |_,_,_,_=>false
def cX (X:Ctx)(main:Nat):Bool:=match X.fa[main]?,X.fs[main]? with
 |some a,some F=>match t2 X 32 X.sb (0,X.img)with
  |none=>false
  |some p=>match t2 X 28 a p with
   |none=>false
   |some q=>match t2 X 2 0 q with
    |none=>false
    |some b=>match t1 X 1 b with
     |none=>false
     |some s=>cFs X X.fs X.fa s&&cG X.ce X.sb X.ga X.gl&&A6 (X.sb+8000) 65536&&Az F.np 0
 |_,_=>false
structure Gs where
 g:List (List Nat)
 inp:List Nat
 out:List Nat
 t:Nat
def Gs.arr (G:Gs)(i:Nat):List Nat:=G.g[i]?.getD []
def Gs.Pj (G:Gs)(i j v:Nat):Gs:={G with g:=G.g.set i ((G.arr i).set j v)}
def Gs.tick (G:Gs)(k:Nat):Gs:={G with t:=G.t+k}
mutual
def OM:RE→Nat
 |.num _=>1
 |.loc _=>1
 |.gv _=>1
 |.ix _ e=>OM e+2
 |.call _ c=>gY c+2
 |.get=>1
 |.qQ e=>OM e+1
 |.neg e=>OM e+3
 |.flip e=>OM e+3
 |.bin _ _ a b=>OM a+OM b+3
 |.land a b=>OM a+OM b+3
 |.lor a b=>OM a+OM b+4
def gY:List RE→Nat
 |[]=>0
 |e::l=>OM e+1+gY l
end
mutual
def Rw:RS→Nat
 |.PN _ e=>OM e+1
 |.TI _ e=>OM e+1
 |.sj _ a e=>OM a+OM e+3
 |.ite e b c=>OM e+2+Uz b+Uz c
 |.dA e _=>OM e+1
 |.call _ d=>gY d+2
 |.ret e=>OM e+1
 |.put e=>OM e+1
 |.stop e=>OM e+1
 |.brk=>1
 |.cont=>1
def Uz:List RS→Nat
 |[]=>0
 |s::l=>Rw s+Uz l
end
def yG (e:RE)(b:List RS):Nat:=OM e+Uz b+2
def szF (F:RF):Nat:=F.nl+1+Uz F.body+2
end Pm
namespace Pm
open _root_.Bool renaming and_eq_true→Ah
open _root_.Classical renaming choose_spec→B4,choose→CN
open _root_.Nat renaming blt_eq→Dm,eq_of_beq_eq_true→Ap,lt_of_lt_of_le→Ar
structure ML (X:Ctx) (p:Pl):Prop where
 eq:p.2=X.img.drop p.1
theorem drop_cons {l:List Nat}{n x:Nat}{a:List Nat}(b:l.drop n=x::a):l[n]?= some x∧l.drop (n+1)=a:=by
 constructor
 ·have:=congrArg (fun l=>l[0]?) b;simpa using this
 ·have:=congrArg List.tail b;simpa [List.tail_drop]using this
theorem OT {X:Ctx}{k:Nat}{p q:Pl}(b:t1 X k p=some q)(c:ML X p):p.1<X.ce∧X.img[p.1]?= some k∧q.1=p.1+1∧ML X q:=by
 obtain⟨a,l⟩:=p;unfold t1 at b;cases l with
 |nil=>cases b
 |cons x g=>
  dsimp only at b;split at b
  ·rename_i hc;rw [Ah]at hc;have h1:=Ap hc.1;have d:a<X.ce:=by have:=hc.2;simpa [Dm]using this
   cases b;obtain⟨e,f⟩:=drop_cons c.eq.symm;exact⟨d,by rw [e,h1],rfl,⟨f.symm⟩⟩
  ·cases b
theorem NB {X:Ctx}{k n:Nat}{p q:Pl}(b:t2 X k n p=some q)(c:ML X p):p.1+1<X.ce∧X.img[p.1]?= some k∧X.img[p.1+1]?= some n∧q.1=p.1+2∧ML X q:=by
 obtain⟨a,l⟩:=p;unfold t2 at b
 match l,b,c with
 |[],b,_=>cases b
 |[_],b,_=>cases b
 |x::j::m,b,c=>
  dsimp only at b;split at b
  ·rename_i hc;rw [Ah,Ah]at hc;have h1:=Ap hc.1.1;have d:=Ap hc.1.2;have e:a+1<X.ce:=by have:=hc.2;simpa [Dm]using this
   cases b;obtain⟨f,g⟩:=drop_cons c.eq.symm;obtain⟨h,i⟩:=drop_cons g;exact⟨e,by rw [f,h1],by rw [h,d],rfl,⟨i.symm⟩⟩
  ·cases b
theorem Wy {X:Ctx}{k n:Nat}{p q:Pl}(b:oV X k p=some (n,q))(c:ML X p):p.1+1<X.ce∧X.img[p.1]?= some k∧X.img[p.1+1]?= some n∧q.1=p.1+2∧ML X q:=by
 obtain⟨a,l⟩:=p;unfold oV at b
 match l,b,c with
 |[],b,_=>cases b
 |[_],b,_=>cases b
 |x::i::j,b,c=>
  dsimp only at b;split at b
  ·rename_i hc;rw [Ah]at hc;have h1:=Ap hc.1;have d:a+1<X.ce:=by have:=hc.2;simpa [Dm]using this
   cases b;obtain⟨e,f⟩:=drop_cons c.eq.symm;obtain⟨g,h⟩:=drop_cons f;exact⟨d,by rw [e,h1],by rw [g],rfl,⟨h.symm⟩⟩
  ·cases b
structure Lay (X:Ctx):Prop where
 ce:∀ (i a n:Nat),X.ga[i]?= some a→X.gl[i]?= some n→X.ce≤a∧a+n≤X.sb∧1≤n
 ne:∀ (i i2 a a2 n n2:Nat),i<i2→X.ga[i]?= some a→X.gl[i]?= some n→X.ga[i2]?= some a2→X.gl[i2]?= some n2→a+n≤a2
 sb:X.sb+8000≤65536
 cs:X.ce≤X.sb
structure Mem (X:Ctx) (m:Nat→Nat) (G:Gs):Prop where
 code:∀ (i k:Nat),i<X.ce→X.img[i]?= some k→m i=k
 len:∀ (i n:Nat),X.gl[i]?= some n→(G.arr i).length=n
 QR:∀ (i a n:Nat),X.ga[i]?= some a→X.gl[i]?= some n→∀ j,j<n→m (a+j)=(G.arr i)[j]?.getD 0
structure At (X:Ctx) (np nv b0 d:Nat) (fr:List Nat) (sz:Nat) (G:Gs) (pc:Nat) (m:MS):Prop where
 stop:m.stop=0
 pc:m.pc=pc
 c:m.c=b0+sz
 d:m.d=d
 inp:m.inp=G.inp
 out:m.out=G.out
 mem:Mem X m.mem G
 fl:fr.length=nv
 fr:∀ i,i<nv→m.mem (b0+slot np i)=fr[i]?.getD 0
def NV (X:Ctx)(b:Nat)(m a:Nat→Nat):Prop:=∀ j,X.sb≤j→j<b→a j=m j
theorem NV.refl (X:Ctx)(b:Nat)(m:Nat→Nat):NV X b m m:=fun _ _ _=>rfl
theorem NV.trans {X:Ctx}{b:Nat}{m a c:Nat→Nat}(e:NV X b m a)(k:NV X b a c):NV X b m c:=fun j h1 d=>(k j h1 d).trans (e j h1 d)
theorem NV.mono {X:Ctx}{b a:Nat}{m c:Nat→Nat}(d:NV X b m c)(k:a≤b):NV X a m c:=fun j h1 e=>d j h1 (Ar e k)
def Halt (c:Nat)(G:Gs)(m:MS):Prop:=m.stop=1∧m.code=c∧m.out=G.out
def Kl (k:Nat)(G G2:Gs)(m a:MS):Prop:=∃ j,Go j m a∧j+G.t≤G2.t+k
theorem Kl.trans {a b:Nat}{G G2 c:Gs}{m d e:MS}(f:Kl a G G2 m d)(k:Kl b G2 c d e):Kl (a+b) G c m e:=by
 obtain⟨i,h1,h⟩:=f;obtain⟨j,g,l⟩:=k;exact⟨i+j,h1.trans g,by omega⟩
theorem Kl.mono {a b:Nat}{G G2:Gs}{m c:MS}(d:Kl a G G2 m c)(k:a≤b):Kl b G G2 m c:=by
 obtain⟨i,h1,e⟩:=d;exact⟨i,h1,by omega⟩
theorem Kl.one {G G2:Gs}{m a:MS}(b:LZ m=a)(c:G.t=G2.t):Kl 1 G G2 m a:=⟨1,Go.one b,by omega⟩
theorem Kl.refl (G:Gs)(m:MS):Kl 0 G G m m:=⟨0,Go.refl m,by omega⟩
def fG (X:Ctx)(n f:Nat)(vs:List Nat)(Q S:Nat→Gs→Prop)(G:Gs):Prop:=
 ∀(m:MS) (e ra d a:Nat),X.fa[f]?= some a→m.stop=0→m.pc=a→m.c=e+vs.length+1→m.d=d+1→d+1+n≤100→m.mem (e+vs.length)=ra→(∀i,i<vs.length→m.mem (e+i)=vs[i]?.getD 0)→
  Mem X m.mem G→m.inp=G.inp→m.out=G.out→X.sb≤e→e+64*(n+1)≤65536→
  ∃b G2,Kl 0 G G2 m b∧((b.stop=0∧b.pc=ra∧b.c=e+vs.length∧b.d=d∧Mem X b.mem G2∧b.inp=G2.inp∧b.out=G2.out∧NV X e m.mem b.mem∧Q b.a G2)∨∃ c,Halt c G2 b∧S c G2)
theorem qR:∃ f:Nat→Nat→Nat→Nat,f=O9:=⟨O9,rfl⟩
noncomputable def ins:Nat→Nat→Nat→Nat:=CN qR
theorem ins_eq:ins=O9:=B4 qR
mutual
def wE (X:Ctx)(n:Nat)(d:List Nat)(S:Nat→Gs→Prop):RE→(Nat→Gs→Prop)→Gs→Prop
 |.num v,Q,G=>Q v G
 |.loc i,Q,G=>Q (d[i]?.getD 0) G
 |.gv i,Q,G=>Q ((G.arr i)[0]?.getD 0) G
 |.ix i e,Q,G=>wE X n d S e (fun v c=>if v<X.gl[i]?.getD 0 then Q ((c.arr i)[v]?.getD 0) c else S 1 c) G
 |.call f h,Q,G=>wEs X n d S h (fun vs c=>0<n∧fG X (n - 1) f vs Q S c) G
 |.get,Q,G=>match G.inp with
  |[]=>Q 4294967295 G
  |b::l=>Q b {G with inp:=l}
 |.qQ e,Q,G=>wE X n d S e (fun v c=>Q (if v=0 then 1 else 0) c) G
 |.neg e,Q,G=>wE X n d S e (fun v c=>Q (ins 12 0 v) c) G
 |.flip e,Q,G=>wE X n d S e (fun v c=>Q (ins 12 4294967295 v) c) G
 |.bin k z a b,Q,G=>wE X n d S a (fun x c=>wE X n d S b (fun g G2=>if(k=14∨k=15)∧g=0 then S 2 G2 else Q (if z then(if ins k x g=0 then 1 else 0)else ins k x g) G2) c) G
 |.land a b,Q,G=>wE X n d S a (fun x c=>if x=0 then Q 0 c else wE X n d S b (fun g G2=>Q (if g=0 then 0 else 1) G2) c) G
 |.lor a b,Q,G=>wE X n d S a (fun x c=>if x=0 then wE X n d S b (fun g G2=>Q (if g=0 then 0 else 1) G2) c else Q 1 c) G
def wEs (X:Ctx)(n:Nat)(a:List Nat)(S:Nat→Gs→Prop):List RE→(List Nat→Gs→Prop)→Gs→Prop
 |[],Q,G=>Q [] G
 |e::l,Q,G=>wE X n a S e (fun v b=>wEs X n a S l (fun vs G2=>Q (v::vs) G2) b) G
end
structure Post where
 N:List Nat→Gs→Prop
 B:List Nat→Gs→Prop
 C:List Nat→Gs→Prop
 R:Nat→Gs→Prop
 S:Nat→Gs→Prop
mutual
def wS (X:Ctx)(n:Nat):RS→List Nat→Post→Gs→Prop
 |.PN i e,d,P,G=>wE X n d P.S e (fun v g=>P.N (d.set i v) g) G
 |.TI i e,d,P,G=>wE X n d P.S e (fun v g=>P.N d (g.Pj i 0 v)) G
 |.sj i a e,d,P,G=>wE X n d P.S a (fun x g=>if x<X.gl[i]?.getD 0 then wE X n d P.S e (fun v G2=>P.N d (G2.Pj i x v)) g else P.S 1 g) G
 |.ite e b c,d,P,G=>wE X n d P.S e (fun v g=>if v=0 then su X n c d P g else su X n b d P g) G
 |.dA e b,d,P,G=>∃ (l:List Nat→Gs→Prop) (m:List Nat→Gs→Nat),l d G∧∀ h g,h.length=d.length→l h g→
  wE X n h P.S e (fun v G2=>if v=0 then P.N h G2 else
   su X n b h {P with N:=fun j k=>l j k∧m j k<m h g,C:=fun j k=>l j k∧m j k<m h g,B:=P.N} (G2.tick (yG e b))) g
 |.call f o,d,P,G=>wEs X n d P.S o (fun vs g=>0<n∧fG X (n - 1) f vs (fun _ G2=>P.N d G2) P.S g) G
 |.ret e,d,P,G=>wE X n d P.S e P.R G
 |.put e,d,P,G=>wE X n d P.S e (fun v g=>g.out.length<20000∧P.N d {g with out:=g.out++[v %256]}) G
 |.stop e,d,P,G=>wE X n d P.S e P.S G
 |.brk,d,P,G=>P.B d G
 |.cont,d,P,G=>P.C d G
def su (X:Ctx)(n:Nat):List RS→List Nat→Post→Gs→Prop
 |[],a,P,G=>P.N a G
 |s::l,a,P,G=>wS X n s a {P with N:=fun b c=>su X n l b P c} G
end
end Pm
namespace Pm
open _root_.Nat renaming le_refl→Aw,mod_eq_of_lt→Bf
open _root_.Or renaming inl→AO,inr→AB
section
variable {X:Ctx}{np nv b0 d:Nat}{fr:List Nat}{sz:Nat}{G:Gs}{pc:Nat}{m:MS}
theorem Ym (m:Nat→Nat)(i v:Nat):upd m i v i=v:=by simp [upd]
theorem upd_ne (m:Nat→Nat){i j:Nat}(v:Nat)(a:j≠i):upd m i v j=m j:=by simp [upd,a]
theorem Mem.push (b:Mem X m.mem G)(L:Lay X){j:Nat}(l:X.sb≤j)(v:Nat):Mem X (upd m.mem j v) G:=by
 refine⟨fun i k e f=>?_,b.len,fun i a n c d g h=>?_⟩
 ·have:=L.cs;rw [upd_ne _ _ (by omega)];exact b.code i k e f
 ·have:=(L.ce i a n c d).2.1;rw [upd_ne _ _ (by omega)];exact b.QR i a n c d g h
theorem Uc {a:Nat→Nat}{b j:Nat}(c:b≤j∨j<X.sb)(v:Nat):NV X b a (upd a j v):=fun i h1 d=>upd_ne _ _ (by omega)
theorem At.word (a:At X np nv b0 d fr sz G pc m){k:Nat}(h1:pc<X.ce)(b:X.img[pc]?= some k):m.mem m.pc=k:=by
 rw [a.pc];exact a.mem.code _ _ h1 b
theorem At.word2 (a:At X np nv b0 d fr sz G pc m){k:Nat}(h1:pc+1<X.ce)(b:X.img[pc+1]?= some k):m.mem (m.pc+1)=k:=by
 rw [a.pc];exact a.mem.code _ _ h1 b
theorem At.step0 (a:At X np nv b0 d fr sz G pc m)(L:Lay X){k:Nat}{p q:Pl}(f:p.1=pc)(g:t1 X k p=some q)(h:ML X p)(i:0<k)(j:k≤32)(l:has k=false):
 LZ m=PL k {m with pc:=q.1}∧ML X q:=by
 obtain⟨b,c,e,n⟩:=OT g h;rw [f]at b c e;have o:=L.sb;have hc:=L.cs;refine⟨?_,n⟩;rw [jK a.stop (by rw [a.pc];omega) (a.word b c) i j l,a.pc,e]
theorem At.step1 (a:At X np nv b0 d fr sz G pc m)(L:Lay X){k n:Nat}{p q:Pl}(g:p.1=pc)(h:t2 X k n p=some q)(i:ML X p)(j:0<k)(l:k≤32)(o:has k=true):
 LZ m=Lu k n {m with pc:=q.1}∧ML X q:=by
 obtain⟨b,c,e,f,r⟩:=NB h i;rw [g]at b c f e;have s:=L.sb;have hc:=L.cs;refine⟨?_,r⟩;rw [Wt a.stop (by rw [a.pc];omega) (a.word (by omega) c) (a.word2 b e) j l o,a.pc,f]
theorem At.zN0 (a:At X np nv b0 d fr sz G pc m)(L:Lay X){k n:Nat}{p q:Pl}(g:p.1=pc)(h:oV X k p=some (n,q))(i:ML X p)(j:0<k)(l:k≤32)(o:has k=true):
 LZ m=Lu k n {m with pc:=q.1}∧ML X q:=by
 obtain⟨b,c,e,f,r⟩:=Wy h i;rw [g]at b c f e;have s:=L.sb;have hc:=L.cs;refine⟨?_,r⟩;rw [Wt a.stop (by rw [a.pc];omega) (a.word (by omega) c) (a.word2 b e) j l o,a.pc,f]
theorem At.Pj (b:At X np nv b0 d fr sz G pc m)(e v:Nat):At X np nv b0 d fr sz G e {m with pc:=e,a:=v}:=
 ⟨b.stop,rfl,b.c,b.d,b.inp,b.out,b.mem,b.fl,b.fr⟩
theorem At.Qd (a:At X np nv b0 d fr sz G pc m)(b:Nat):At X np nv b0 d fr sz G b {m with pc:=b}:=
 ⟨a.stop,rfl,a.c,a.d,a.inp,a.out,a.mem,a.fl,a.fr⟩
theorem At.tick (a:At X np nv b0 d fr sz G pc m)(k:Nat):At X np nv b0 d fr sz (G.tick k) pc m:=
 ⟨a.stop,a.pc,a.c,a.d,a.inp,a.out,⟨a.mem.code,a.mem.len,a.mem.QR⟩,a.fl,a.fr⟩
theorem At.push (b:At X np nv b0 d fr sz G pc m)(L:Lay X){p q:Pl}(g:p.1=pc)(h:t1 X 9 p=some q)(j:ML X p)(o:X.sb≤b0)(r:nv+1≤sz)(hc:b0+sz<65536):
 ∃f,LZ m=f∧At X np nv b0 d fr (sz+1) G q.1 f∧f.a=m.a∧f.mem (b0+sz)=m.a∧NV X (b0+sz) m.mem f.mem∧ML X q:=by
 obtain⟨e,k⟩:=b.step0 L g h j (by omega) (by omega) rfl;have l:(b0+sz+1) %4294967296=b0+sz+1:=Bf (by omega);refine⟨{m with pc:=q.1,mem:=upd m.mem (b0+sz) m.a,c:=b0+sz+1},?_,⟨b.stop,rfl,rfl,b.d,b.inp,b.out,b.mem.push L (by omega) _,b.fl,fun i n=>?_⟩,rfl,Ym _ _ _,Uc (AO (Aw _)) _,k⟩
 ·rw [e];simp only [PL,b.c,l];rw [if_neg (by omega),if_pos trivial,if_pos hc]
 ·show upd m.mem _ _ _=_
  rw [upd_ne _ _ (by unfold slot;split<;>omega)];exact b.fr i n
end
def Ms (X:Ctx)(n:Nat)(fr:List Nat)(S:Nat→Gs→Prop)(e:RE)(Q:Nat→Gs→Prop)(G:Gs):Prop:=
 ∀(np nv b0 d sz:Nat) (p q:Pl) (m:MS),cE X np nv e sz p=some q→ML X p→At X np nv b0 d fr sz G p.1 m→d+n≤100→X.sb≤b0→b0+64*(n+1)≤65536→sz≤60→nv+1≤sz→np≤nv→
  ∃b G2,Kl (OM e) G G2 m b∧((∃v,At X np nv b0 d fr sz G2 q.1 b∧b.a=v∧NV X (b0+sz) m.mem b.mem∧Q v G2)∨∃ c,Halt c G2 b∧S c G2)
def l8 (X:Ctx)(n:Nat)(fr:List Nat)(S:Nat→Gs→Prop)(l:List RE)(Q:List Nat→Gs→Prop)(G:Gs):Prop:=
 ∀(np nv b0 d sz:Nat) (p q:Pl) (m:MS),yF X np nv l sz p=some q→ML X p→At X np nv b0 d fr sz G p.1 m→d+n≤100→X.sb≤b0→b0+64*(n+1)≤65536→sz≤60→nv+1≤sz→np≤nv→
  ∃a G2,Kl (gY l) G G2 m a∧((∃vs,vs.length=l.length∧At X np nv b0 d fr (sz+l.length) G2 q.1 a∧(∀i,i<vs.length→a.mem (b0+sz+i)=vs[i]?.getD 0)∧sz+l.length≤60∧NV X (b0+sz) m.mem a.mem∧Q vs G2)∨∃ c,Halt c G2 a∧S c G2)
theorem JG {α a:Type}{o:Option α}{f:α→Option a}{b:a}(c:o.bind f=some b):∃ x,o=some x∧f x=some b:=Option.bind_eq_some_iff.1 c
mutual
theorem ME {X:Ctx}{np nv:Nat}:∀ (e:RE){sz:Nat}{p q:Pl},cE X np nv e sz p=some q→ML X p→ML X q
 |.num n,sz,p,q,c,d=>by rw [cE]at c;exact(NB c d).2.2.2.2
 |.loc i,sz,p,q,c,d=>by
  rw [cE]at c;split at c
  ·exact(NB c d).2.2.2.2
  ·cases c
 |.gv i,sz,p,q,c,d=>by
  rw [cE]at c;obtain⟨a,_,c⟩:=JG c;split at c
  ·exact(NB c d).2.2.2.2
  ·cases c
 |.ix i e,sz,p,q,c,d=>by
  rw [cE]at c;obtain⟨a,_,c⟩:=JG c;obtain⟨j,h1,c⟩:=JG c;obtain⟨q2,g,c⟩:=JG c;exact(NB c (NB g (ME e h1 d)).2.2.2.2).2.2.2.2
 |.call f s,sz,p,q,c,d=>by
  rw [cE]at c;obtain⟨j,h1,c⟩:=JG c;obtain⟨a,_,c⟩:=JG c;obtain⟨F,_,c⟩:=JG c;split at c
  ·obtain⟨q2,g,c⟩:=JG c;have m:=(NB g (tC s h1 d)).2.2.2.2;split at c
   ·cases c;exact m
   ·exact(NB c m).2.2.2.2
  ·cases c
 |.get,sz,p,q,c,d=>by rw [cE]at c;exact(OT c d).2.2.2
 |.qQ e,sz,p,q,c,d=>by
  rw [cE]at c;obtain⟨j,h1,c⟩:=JG c;exact(OT c (ME e h1 d)).2.2.2
 |.neg e,sz,p,q,c,d=>by
  rw [cE]at c;split at c
  ·obtain⟨j,h1,c⟩:=JG c;obtain⟨q2,g,c⟩:=JG c;obtain⟨q3,h,c⟩:=JG c;exact(OT c (ME e h (OT g (NB h1 d).2.2.2.2).2.2.2)).2.2.2
  ·cases c
 |.flip e,sz,p,q,c,d=>by
  rw [cE]at c;split at c
  ·obtain⟨j,h1,c⟩:=JG c;obtain⟨q2,g,c⟩:=JG c;obtain⟨q3,h,c⟩:=JG c;exact(OT c (ME e h (OT g (NB h1 d).2.2.2.2).2.2.2)).2.2.2
  ·cases c
 |.bin k z a b,sz,p,q,c,d=>by
  rw [cE]at c;split at c
  ·obtain⟨j,h1,c⟩:=JG c;obtain⟨q2,g,c⟩:=JG c;obtain⟨q3,h,c⟩:=JG c;obtain⟨q4,l,c⟩:=JG c;have r:=(OT l (ME b h (OT g (ME a h1 d)).2.2.2)).2.2.2;split at c
   ·exact(OT c r).2.2.2
   ·cases c;exact r
  ·cases c
 |.land a b,sz,p,q,c,d=>by
  rw [cE]at c;obtain⟨j,h1,c⟩:=JG c;obtain⟨⟨o,q2⟩,g,c⟩:=JG c;obtain⟨q3,h,c⟩:=JG c;obtain⟨q4,l,c⟩:=JG c;obtain⟨q5,t,c⟩:=JG c;split at c
  ·cases c;exact(OT t (OT l (ME b h (Wy g (ME a h1 d)).2.2.2.2)).2.2.2).2.2.2
  ·cases c
 |.lor a b,sz,p,q,c,d=>by
  rw [cE]at c;obtain⟨j,h1,c⟩:=JG c;obtain⟨v,u,c⟩:=JG c;obtain⟨⟨o,q2⟩,g,c⟩:=JG c;obtain⟨q3,h,c⟩:=JG c;obtain⟨q4,l,c⟩:=JG c;split at c
  ·exact(OT c (OT l (ME b h (Wy g (OT u (ME a h1 d)).2.2.2).2.2.2.2)).2.2.2).2.2.2
  ·cases c
theorem tC {X:Ctx}{np nv:Nat}:∀ (l:List RE){sz:Nat}{p q:Pl},yF X np nv l sz p=some q→ML X p→ML X q
 |[],sz,p,q,a,b=>by rw [yF]at a;cases a;exact b
 |e::l,sz,p,q,a,b=>by
  rw [yF]at a;split at a
  ·obtain⟨d,h1,a⟩:=JG a;obtain⟨q2,c,a⟩:=JG a;exact tC l a (OT c (ME e h1 b)).2.2.2
  ·cases a
end
mutual
theorem zw2 {X:Ctx}{np nv:Nat}:∀ (s:RS){lp:Nat×Nat}{p q:Pl},cS X np nv s lp p=some q→ML X p→ML X q
 |.PN i e,lp,p,q,d,h=>by
  rw [cS]at d;split at d
  ·obtain⟨j,h1,d⟩:=JG d;exact(NB d (ME e h1 h)).2.2.2.2
  ·cases d
 |.TI i e,lp,p,q,d,h=>by
  rw [cS]at d;obtain⟨a,_,d⟩:=JG d;split at d
  ·obtain⟨j,h1,d⟩:=JG d;exact(NB d (ME e h1 h)).2.2.2.2
  ·cases d
 |.sj i a e,lp,p,q,d,h=>by
  rw [cS]at d;obtain⟨g,_,d⟩:=JG d;obtain⟨j,h1,d⟩:=JG d;obtain⟨q2,k,d⟩:=JG d;obtain⟨q3,l,d⟩:=JG d;obtain⟨q4,m,d⟩:=JG d;exact(NB d (ME e m (OT l (NB k (ME a h1 h)).2.2.2.2).2.2.2)).2.2.2.2
 |.ite e b c,lp,p,q,d,h=>by
  rw [cS]at d;obtain⟨j,h1,d⟩:=JG d;obtain⟨⟨o,q2⟩,k,d⟩:=JG d;obtain⟨q3,l,d⟩:=JG d;have n:=UN b l (Wy k (ME e h1 h)).2.2.2.2;split at d
  ·split at d
   ·cases d;exact n
   ·cases d
  ·obtain⟨⟨u,q4⟩,m,d⟩:=JG d;split at d
   ·obtain⟨q5,r,d⟩:=JG d;split at d
    ·cases d;exact UN c r (Wy m n).2.2.2.2
    ·cases d
   ·cases d
 |.dA e b,lp,p,q,d,h=>by
  rw [cS]at d;obtain⟨j,h1,d⟩:=JG d;obtain⟨⟨o,q2⟩,k,d⟩:=JG d;obtain⟨q3,l,d⟩:=JG d;obtain⟨q4,m,d⟩:=JG d;split at d
  ·cases d;exact(NB m (UN b l (Wy k (ME e h1 h)).2.2.2.2)).2.2.2.2
  ·cases d
 |.call f t,lp,p,q,d,h=>by rw [cS]at d;exact ME _ d h
 |.ret e,lp,p,q,d,h=>by
  rw [cS]at d;obtain⟨j,h1,d⟩:=JG d;exact(NB d (ME e h1 h)).2.2.2.2
 |.put e,lp,p,q,d,h=>by
  rw [cS]at d;obtain⟨j,h1,d⟩:=JG d;exact(OT d (ME e h1 h)).2.2.2
 |.stop e,lp,p,q,d,h=>by
  rw [cS]at d;obtain⟨j,h1,d⟩:=JG d;exact(OT d (ME e h1 h)).2.2.2
 |.brk,lp,p,q,d,h=>by rw [cS]at d;exact(NB d h).2.2.2.2
 |.cont,lp,p,q,d,h=>by rw [cS]at d;exact(NB d h).2.2.2.2
theorem UN {X:Ctx}{np nv:Nat}:∀ (l:List RS){lp:Nat×Nat}{p q:Pl},jC X np nv l lp p=some q→ML X p→ML X q
 |[],lp,p,q,a,b=>by rw [jC]at a;cases a;exact b
 |s::l,lp,p,q,a,b=>by
  rw [jC]at a;obtain⟨c,h1,a⟩:=JG a;exact UN l a (zw2 s h1 b)
end
theorem Ms.mono {X:Ctx}{n:Nat}{fr:List Nat}{S:Nat→Gs→Prop}{e:RE}{Q c:Nat→Gs→Prop}{G:Gs}(f:Ms X n fr S e Q G)(k:∀ v a,Q v a→c v a):Ms X n fr S e c G:=by
 intro np nv b0 d sz p q m hc g h i j l o r s;obtain⟨m1,a,c1,b⟩:=f np nv b0 d sz p q m hc g h i j l o r s;rcases b with⟨v,t,u,w,x⟩|b
 ·exact⟨m1,a,c1,AO ⟨v,t,u,w,k _ _ x⟩⟩
 ·exact⟨m1,a,c1,AB b⟩
end Pm
namespace Pm
open _root_.Bool renaming and_eq_true→Ah
open _root_.Nat renaming add_comm→IA,add_mod_right→C4,add_zero→Dp,blt_eq→Dm,blt→Be,eq_of_beq_eq_true→Ap,le_of_ble_eq_true→Ai,mod_eq_of_lt→Bf,not_lt_zero→I5
open _root_.Or renaming inl→AO,inr→AB
section
variable {X:Ctx}{n:Nat}{fr:List Nat}{S:Nat→Gs→Prop}{Q:Nat→Gs→Prop}{G:Gs}
theorem dB {X:Ctx}{i v:Nat}(a:v<X.gl[i]?.getD 0):X.gl[i]?= some (X.gl[i]?.getD 0):=by
 cases b:X.gl[i]? with
 |none=>rw [b]at a;exact absurd a (I5 _)
 |some c=>rfl
theorem zw3 (L:Lay X)(v:Nat)(b:Q v G):Ms X n fr S (.num v) Q G:=by
 intro np f g d sz p q m hc c a _ _ _ _ _ _;rw [cE]at hc;obtain⟨e,h⟩:=a.step1 L rfl hc c (by omega) (by omega) rfl;exact⟨_,G,Kl.one e rfl,AO ⟨_,a.Pj _ v,rfl,NV.refl _ _ _,b⟩⟩
theorem mD {np i a:Nat}(b:i<a):slot np i≤a:=by unfold slot;split<;>omega
theorem zw4 (L:Lay X)(i:Nat)(g:Q (fr[i]?.getD 0) G):Ms X n fr S (.loc i) Q G:=by
 intro np h a d sz p q m hc j b _ _ l o r _;rw [cE]at hc;split at hc
 ·rename_i f;have f:i<h:=by simpa [Dm]using f
  obtain⟨e,s⟩:=b.step1 L rfl hc j (by omega) (by omega) rfl;have t:=mD (np:=np) f;have k:(a+sz+4294967296 - (sz - slot np i)) %4294967296=a+slot np i:=by
   rw [show a+sz+4294967296 - (sz - slot np i)=a+slot np i+4294967296 by omega,C4];exact Bf (by omega)
  refine⟨_,G,Kl.one (e.trans ?_) rfl,AO ⟨_,b.Pj q.1 (fr[i]?.getD 0),rfl,NV.refl _ _ _,g⟩⟩;simp only [Lu,b.c,k];rw [if_neg (by omega),if_neg (by omega),if_neg (by omega),if_pos trivial,if_pos (by omega),b.fr i f]
 ·cases hc
theorem yM0 (L:Lay X)(i:Nat)(h:Q ((G.arr i)[0]?.getD 0) G):Ms X n fr S (.gv i) Q G:=by
 intro np k l d sz p q m hc j b _ _ o r s _;rw [cE]at hc;obtain⟨a,f,hc⟩:=JG hc;split at hc
 ·rename_i c;have c:=Ap c;have g:X.gl[i]?= some 1:=by rw [dB (v:=0) (by omega),c]
  obtain⟨e,t⟩:=b.step1 L rfl hc j (by omega) (by omega) rfl;have u:=L.ce i a 1 f g;have w:=L.sb;refine⟨_,G,Kl.one (e.trans ?_) rfl,AO ⟨_,b.Pj q.1 ((G.arr i)[0]?.getD 0),rfl,NV.refl _ _ _,h⟩⟩;simp only [Lu];rw [if_neg (by omega),if_pos trivial,if_pos (by omega)];have:=b.mem.QR i a 1 f g 0 (by omega);rw [Dp]at this;rw [this]
 ·cases hc
theorem run_get (L:Lay X)(g:match G.inp with|[]=>Q 4294967295 G|b::l=>Q b {G with inp:=l}):Ms X n fr S .get Q G:=by
 intro np j k d sz p q m hc i f _ _ o r s _;rw [cE]at hc;obtain⟨e,t⟩:=f.step0 L rfl hc i (by omega) (by omega) rfl;cases h:G.inp with
 |nil=>
  rw [h]at g;refine⟨_,G,Kl.one (e.trans ?_) rfl,AO ⟨_,f.Pj q.1 4294967295,rfl,NV.refl _ _ _,g⟩⟩;simp only [PL,f.inp,h];rw [if_neg (by omega),if_neg (by omega),if_neg (by omega),if_pos trivial]
 |cons b l=>
  rw [h]at g;dsimp only at g;refine⟨{m with pc:=q.1,a:=b,inp:=l},{G with inp:=l},Kl.one (e.trans ?_) rfl,AO ⟨b,?_,rfl,NV.refl _ _ _,g⟩⟩
  ·simp only [PL,f.inp,h];rw [if_neg (by omega),if_neg (by omega),if_neg (by omega),if_pos trivial]
  ·exact⟨f.stop,rfl,f.c,f.d,rfl,f.out,⟨f.mem.code,f.mem.len,f.mem.QR⟩,f.fl,f.fr⟩
theorem At.bound {np b c d sz:Nat}{pc:Nat}{m:MS}(f:At X np b c d fr sz G pc m)(L:Lay X){k:Nat}{p q:Pl}(g:p.1=pc)(h:t2 X 25 k p=some q)(i:ML X p):
 LZ m=(if m.a<k then {m with pc:=q.1}else {m with pc:=q.1,stop:=1,code:=1}):=by
 obtain⟨e,j⟩:=f.step1 L g h i (by omega) (by omega) rfl;rw [e];simp only [Lu];rw [if_neg (by omega),if_neg (by omega),if_neg (by omega),if_neg (by omega),if_neg (by omega),if_neg (by omega),if_neg (by omega),if_neg (by omega),if_pos trivial]
theorem yM1 (L:Lay X)(i:Nat)(e:RE)(s:Ms X n fr S e (fun v b=>if v<X.gl[i]?.getD 0 then Q ((b.arr i)[v]?.getD 0) b else S 1 b) G):Ms X n fr S (.ix i e) Q G:=by
 intro np t u d sz p q m hc k w x y z A B C;rw [cE]at hc;obtain⟨a,l,hc⟩:=JG hc;obtain⟨D,h1,hc⟩:=JG hc;obtain⟨q2,o,hc⟩:=JG hc;have p1:=ME _ h1 k;obtain⟨m1,b,c1,E⟩:=s np t u d sz p D m h1 k w x y z A B C;rcases E with⟨_,f,rfl,F,g⟩|⟨c,H,I⟩
 ·have h:=f.bound L rfl o p1;have K:=(NB o p1).2.2.2.2;by_cases j:m1.a<X.gl[i]?.getD 0
  ·rw [if_pos j]at g h;have r:=dB j;have W:=L.ce i a _ l r;have Y:=L.sb;have M:=f.Qd q2.1;obtain⟨N,Z⟩:=M.step1 L rfl hc K (by omega) (by omega) rfl;have O:(m1.a+a) %4294967296=a+m1.a:=by rw [IA];exact Bf (by omega)
   have P:LZ {m1 with pc:=q2.1}={m1 with pc:=q.1,a:=(b.arr i)[m1.a]?.getD 0}:=by
    rw [N];simp only [Lu,O];rw [if_neg (by omega),if_neg (by omega),if_neg (by omega),if_neg (by omega),if_neg (by omega),if_pos trivial,if_pos (by omega),f.mem.QR i a _ l r m1.a j]
   have R:=Kl.one (G:=b) (G2:=b) h rfl;have T:=Kl.one (G:=b) (G2:=b) P rfl;have U:=c1.trans (R.trans T);exact⟨_,b,U.mono (by simp only [OM];omega),AO ⟨_,f.Pj q.1 ((b.arr i)[m1.a]?.getD 0),rfl,F,g⟩⟩
  ·rw [if_neg j]at g h;exact⟨_,b,(c1.trans (Kl.one h rfl)).mono (by simp only [OM];omega),AB ⟨1,⟨rfl,rfl,f.out⟩,g⟩⟩
 ·exact⟨m1,b,c1.mono (by simp only [OM];omega),AB ⟨c,H,I⟩⟩
theorem At.zero {np b c d sz:Nat}{pc:Nat}{m:MS}(f:At X np b c d fr sz G pc m)(L:Lay X){p q:Pl}(g:p.1=pc)(h:t1 X 24 p=some q)(i:ML X p):
 LZ m={m with pc:=q.1,a:=if m.a=0 then 1 else 0}∧At X np b c d fr sz G q.1 {m with pc:=q.1,a:=if m.a=0 then 1 else 0}∧ML X q:=by
 obtain⟨e,j⟩:=f.step0 L g h i (by omega) (by omega) rfl;refine⟨?_,f.Pj _ _,j⟩;rw [e];simp only [PL];rw [if_neg (by omega),if_neg (by omega),if_pos trivial]
theorem zw5 (L:Lay X)(e:RE)(f:Ms X n fr S e (fun v a=>Q (if v=0 then 1 else 0) a) G):Ms X n fr S (.qQ e) Q G:=by
 intro np g h d sz p q m hc b i j k l o r s;rw [cE]at hc;obtain⟨t,h1,hc⟩:=JG hc;have p1:=ME _ h1 b;obtain⟨m1,a,c1,u⟩:=f np g h d sz p t m h1 b i j k l o r s;rcases u with⟨v,w,x,y,z⟩|⟨c,B,C⟩
 ·obtain⟨e,D,E⟩:=w.zero L rfl hc p1;exact⟨_,a,(c1.trans (Kl.one e rfl)).mono (by simp only [OM];omega),AO ⟨_,D,rfl,y,by dsimp only;rw [x];exact z⟩⟩
 ·exact⟨m1,a,c1.mono (by simp only [OM];omega),AB ⟨c,B,C⟩⟩
theorem At.bin {np g b d sz:Nat}{pc:Nat}{m:MS}(f:At X np g b d fr (sz+1) G pc m)(L:Lay X){k:Nat}{p q:Pl}(h:p.1=pc)(i:t1 X k p=some q)(j:ML X p)(s:11≤k)(t:k≤23)(l:b+sz<65536):
 LZ m=(if(k=14∨k=15)∧m.a=0 then {m with pc:=q.1,c:=b+sz,stop:=1,code:=2}else {m with pc:=q.1,c:=b+sz,a:=O9 k (m.mem (b+sz)) m.a})∧At X np g b d fr sz G q.1 {m with pc:=q.1,c:=b+sz,a:=O9 k (m.mem (b+sz)) m.a}∧ML X q:=by
 have n:has k=false:=by
  have:k=11∨k=12∨k=13∨k=14∨k=15∨k=16∨k=17∨k=18∨k=19∨k=20∨k=21∨k=22∨k=23:=by omega
  rcases this with rfl|rfl|rfl|rfl|rfl|rfl|rfl|rfl|rfl|rfl|rfl|rfl|rfl<;>rfl
 obtain⟨e,o⟩:=f.step0 L h i j (by omega) (by omega) n;refine⟨?_,⟨f.stop,rfl,rfl,f.d,f.inp,f.out,f.mem,f.fl,f.fr⟩,o⟩;have r:(b+(sz+1)+4294967296 - 1) %4294967296=b+sz:=by
  rw [show b+(sz+1)+4294967296 - 1=b+sz+4294967296 by omega,C4];exact Bf (by omega)
 rw [e];simp only [PL,f.c,r];rw [if_neg (by omega),if_neg (by omega),if_neg (by omega),if_neg (by omega),if_neg (by omega),if_pos l]
theorem zw6 (L:Lay X)(k:Nat)(z:Bool)(a b:RE)(O:Ms X n fr S a (fun x e=>Ms X n fr S b (fun h G2=>if(k=14∨k=15)∧h=0 then S 2 G2 else Q (if z then(if O9 k x h=0 then 1 else 0)else O9 k x h) G2) e) G):Ms X n fr S (.bin k z a b) Q G:=by
 intro np A i d sz p q m hc B P C s D R E F;rw [cE]at hc;split at hc
 ·rename_i l;rw [Ah,Ah]at l;have hg:sz<60:=by have:=l.1.1;simpa [Dm]using this
  have T:=Ai l.1.2;have U:=Ai l.2;obtain⟨W,h1,hc⟩:=JG hc;obtain⟨q2,Y,hc⟩:=JG hc;obtain⟨q3,H,hc⟩:=JG hc;obtain⟨q4,Z,hc⟩:=JG hc;have p1:=ME _ h1 B;obtain⟨m1,e,c1,t⟩:=O np A i d sz p W m h1 B P C s D R E F;rcases t with⟨x,h0,h2,h3,h4⟩|⟨c,u,v⟩
  ·obtain⟨h5,o,h6,hh,h7,h8,I⟩:=h0.push L rfl Y p1 s E (by omega);have h9:=ME _ H I;obtain⟨w,j,r,t⟩:=h4 np A i d (sz+1) q2 q3 h5 H I h6 C s D (by omega) (by omega) F;rcases t with⟨h,K,ha,M,f⟩|⟨c,u,v⟩
   ·obtain⟨g,y,hb⟩:=K.bin L rfl Z h9 T U (by omega);have hd:w.mem (i+sz)=x:=by rw [M (i+sz) (by omega) (by omega),h7,h2]
    rw [ha,hd]at g y;by_cases hy:(k=14∨k=15)∧h=0
    ·rw [if_pos hy]at g f;exact⟨_,j,(c1.trans ((Kl.one (G2:=e) o rfl).trans (r.trans (Kl.one g rfl)))).mono (by simp only [OM];omega),AB ⟨2,⟨rfl,rfl,K.out⟩,f⟩⟩
    ·rw [if_neg hy]at g f;have N:NV X (i+sz) m.mem w.mem:=h3.trans (h8.trans (M.mono (by omega)));cases z with
     |false=>
      rw [if_neg (by simp)]at hc f;cases hc;exact⟨_,j,(c1.trans ((Kl.one (G2:=e) o rfl).trans (r.trans (Kl.one g rfl)))).mono (by simp only [OM];omega),AO ⟨_,y,rfl,N,f⟩⟩
     |true=>
      rw [if_pos rfl]at hc f;obtain⟨he,hf,hi⟩:=y.zero L rfl hc hb;exact⟨_,j,(c1.trans ((Kl.one (G2:=e) o rfl).trans (r.trans ((Kl.one (G2:=j) g rfl).trans (Kl.one he rfl))))).mono (by simp only [OM];omega),AO ⟨_,hf,rfl,N,f⟩⟩
   ·exact⟨w,j,(c1.trans ((Kl.one (G2:=e) o rfl).trans r)).mono (by simp only [OM];omega),AB ⟨c,u,v⟩⟩
  ·exact⟨m1,e,c1.mono (by simp only [OM];omega),AB ⟨c,u,v⟩⟩
 ·cases hc
theorem yH (L:Lay X)(h:Nat)(e:RE)(B:Ms X n fr S e (fun v C=>Q (O9 12 h v) C) G):
 ∀(np f b d sz:Nat) (p q:Pl) (m:MS),(if Be sz 60 then(t2 X 2 h p).bind fun q=>(t1 X 9 q).bind fun i=>(cE X np f e (sz+1) i).bind fun s=>t1 X 12 s
 else none)=some q→ML X p→At X np f b d fr sz G p.1 m→d+n≤100→X.sb≤b→b+64*(n+1)≤65536→sz≤60→f+1≤sz→np≤f→
 ∃g G2,Kl (OM e+3) G G2 m g∧((∃v,At X np f b d fr sz G2 q.1 g∧g.a=v∧NV X (b+sz) m.mem g.mem∧Q v G2)∨∃ c,Halt c G2 g∧S c G2):=by
 intro np f b d sz p q m hc D k E l F h4 H I;split at hc
 ·rename_i K;have h5:sz<60:=by simpa [Dm]using K
  obtain⟨M,h1,hc⟩:=JG hc;obtain⟨q2,N,hc⟩:=JG hc;obtain⟨q3,o,hc⟩:=JG hc;obtain⟨r,p1⟩:=k.step1 L rfl h1 D (by omega) (by omega) rfl;have O:=k.Pj M.1 h;obtain⟨g,t,P,h6,R,T,u⟩:=O.push L rfl N p1 l H (by omega);have U:=ME _ o u;obtain⟨w,x,y,i⟩:=B np f b d (sz+1) q2 q3 g o u P E l F (by omega) (by omega) I;rcases i with⟨h7,W,Y,z,Z⟩|⟨c,h0,h2⟩
  ·obtain⟨j,A,h8⟩:=W.bin L rfl hc U (by omega) (by omega) (by omega);have h3:w.mem (b+sz)=h:=by rw [z (b+sz) (by omega) (by omega),R]
   rw [Y,h3]at j A;rw [if_neg (by omega)]at j;exact⟨_,x,((Kl.one (G2:=G) r rfl).trans ((Kl.one (G2:=G) t rfl).trans (y.trans (Kl.one j rfl)))).mono (by omega),AO ⟨_,A,rfl,T.trans (z.mono (by omega)),Z⟩⟩
  ·exact⟨w,x,((Kl.one (G2:=G) r rfl).trans ((Kl.one (G2:=G) t rfl).trans y)).mono (by omega),AB ⟨c,h0,h2⟩⟩
 ·cases hc
theorem zw9 (L:Lay X)(e:RE)(a:Ms X n fr S e (fun v b=>Q (O9 12 0 v) b) G):Ms X n fr S (.neg e) Q G:=by
 intro np c f d sz p q m hc;rw [cE]at hc;exact yH L 0 e a np c f d sz p q m hc
theorem zY1 (L:Lay X)(e:RE)(a:Ms X n fr S e (fun v b=>Q (O9 12 4294967295 v) b) G):Ms X n fr S (.flip e) Q G:=by
 intro np c f d sz p q m hc;rw [cE]at hc;exact yH L 4294967295 e a np c f d sz p q m hc
theorem At.jz {np b c d sz:Nat}{pc:Nat}{m:MS}(f:At X np b c d fr sz G pc m)(L:Lay X){o:Nat}{p q:Pl}(g:p.1=pc)(h:oV X 27 p=some (o,q))(i:ML X p):
 LZ m={m with pc:=if m.a=0 then o else q.1}∧ML X q:=by
 obtain⟨e,j⟩:=f.zN0 L g h i (by omega) (by omega) rfl;refine⟨?_,j⟩;rw [e];simp only [Lu];rw [if_neg (by omega),if_neg (by omega),if_neg (by omega),if_neg (by omega),if_neg (by omega),if_neg (by omega),if_neg (by omega),if_neg (by omega),if_neg (by omega),if_neg (by omega),if_pos trivial];split<;>rfl
theorem zx0 (L:Lay X)(a b:RE)(O:Ms X n fr S a (fun x e=>if x=0 then Q 0 e else Ms X n fr S b (fun j G2=>Q (if j=0 then 0 else 1) G2) e) G):Ms X n fr S (.land a b) Q G:=by
 intro np z A d sz p q m hc B P C D E F H I;rw [cE]at hc;obtain⟨R,h1,hc⟩:=JG hc;obtain⟨⟨o,q2⟩,T,hc⟩:=JG hc;obtain⟨q3,l,hc⟩:=JG hc;obtain⟨q4,U,hc⟩:=JG hc;obtain⟨q5,W,hc⟩:=JG hc;dsimp only at l hc;split at hc
 ·rename_i r;have r:=Ap r;cases hc;have p1:=ME _ h1 B;obtain⟨m1,e,c1,s⟩:=O np z A d sz p R m h1 B P C D E F H I;rcases s with⟨x,t,u,K,h⟩|⟨c,v,w⟩
  ·obtain⟨f,M⟩:=t.jz L rfl T p1;by_cases g:x=0
   ·rw [if_pos g]at h;rw [if_pos (u.trans g),←r]at f;exact⟨_,e,(c1.trans (Kl.one f rfl)).mono (by simp only [OM];omega),AO ⟨_,t.Qd q.1,rfl,K,by show Q m1.a e;rw [u,g];exact h⟩⟩
   ·rw [if_neg g]at h;rw [if_neg (fun k=>g (u.symm.trans k))]at f;have Y:=t.Qd q2.1;have Z:=ME _ l M;obtain⟨h0,y,N,s⟩:=h np z A d sz q2 q3 _ l M Y C D E F H I;rcases s with⟨j,h2,h3,h4,i⟩|⟨c,v,w⟩
    ·obtain⟨h5,h6,h7⟩:=h2.zero L rfl U Z;obtain⟨h8,h9,ha⟩:=h6.zero L rfl W h7;refine⟨_,y,(c1.trans ((Kl.one (G2:=e) f rfl).trans (N.trans ((Kl.one (G2:=y) h5 rfl).trans (Kl.one h8 rfl))))).mono (by simp only [OM];omega),AO ⟨_,h9,rfl,K.trans h4,?_⟩⟩;dsimp only;rw [h3];by_cases hy:j=0
     ·rw [if_pos hy]at i ⊢;exact i
     ·rw [if_neg hy]at i ⊢;exact i
    ·exact⟨h0,y,(c1.trans ((Kl.one (G2:=e) f rfl).trans N)).mono (by simp only [OM];omega),AB ⟨c,v,w⟩⟩
  ·exact⟨m1,e,c1.mono (by simp only [OM];omega),AB ⟨c,v,w⟩⟩
 ·cases hc
theorem yM2 (L:Lay X)(a b:RE)(Z:Ms X n fr S a (fun x e=>if x=0 then Ms X n fr S b (fun r G2=>Q (if r=0 then 0 else 1) G2) e else Q 1 e) G):Ms X n fr S (.lor a b) Q G:=by
 intro np D E d sz p q m hc F h0 H I K M N O;rw [cE]at hc;obtain⟨h2,h1,hc⟩:=JG hc;obtain⟨hf,h3,hc⟩:=JG hc;obtain⟨⟨o,q2⟩,h4,hc⟩:=JG hc;obtain⟨q3,s,hc⟩:=JG hc;obtain⟨q4,P,hc⟩:=JG hc;dsimp only at s hc;split at hc
 ·rename_i t;have t:=Ap t;have p1:=ME _ h1 F;obtain⟨m1,e,c1,u⟩:=Z np D E d sz p h2 m h1 F h0 H I K M N O;rcases u with⟨x,h5,R,T,i⟩|⟨c,v,w⟩
  ·obtain⟨g,h,h6⟩:=h5.zero L rfl h3 p1;obtain⟨f,U⟩:=h.jz L rfl h4 h6;have W:=ME _ s U;have y:=(OT P W).2.2.2;by_cases j:x=0
   ·rw [if_pos j]at i;rw [if_pos (R.trans j)]at g h f;rw [if_neg (by show ¬(1:Nat)=0;omega)]at f;have z:=h.Qd q2.1;obtain⟨h7,A,Y,u⟩:=i np D E d sz q2 q3 _ s U z H I K M N O;rcases u with⟨r,h8,h9,ha,l⟩|⟨c,v,w⟩
    ·obtain⟨hb,hd,y⟩:=h8.zero L rfl P W;obtain⟨B,C,he⟩:=hd.zero L rfl hc y;refine⟨_,A,(c1.trans ((Kl.one (G2:=e) g rfl).trans ((Kl.one (G2:=e) f rfl).trans (Y.trans ((Kl.one (G2:=A) hb rfl).trans (Kl.one B rfl)))))).mono (by simp only [OM];omega),AO ⟨_,C,rfl,T.trans ha,?_⟩⟩;dsimp only;rw [h9];by_cases hy:r=0
     ·rw [if_pos hy]at l ⊢;exact l
     ·rw [if_neg hy]at l ⊢;exact l
    ·exact⟨h7,A,(c1.trans ((Kl.one (G2:=e) g rfl).trans ((Kl.one (G2:=e) f rfl).trans Y))).mono (by simp only [OM];omega),AB ⟨c,v,w⟩⟩
   ·rw [if_neg j]at i;rw [if_neg (fun k=>j (R.symm.trans k))]at g h f;rw [if_pos rfl,←t]at f;have z:=h.Qd q4.1;obtain⟨B,C,he⟩:=z.zero L rfl hc y;refine⟨_,e,(c1.trans ((Kl.one (G2:=e) g rfl).trans ((Kl.one (G2:=e) f rfl).trans (Kl.one B rfl)))).mono (by simp only [OM];omega),AO ⟨_,C,rfl,T,?_⟩⟩;exact i
  ·exact⟨m1,e,c1.mono (by simp only [OM];omega),AB ⟨c,v,w⟩⟩
 ·cases hc
end
end Pm

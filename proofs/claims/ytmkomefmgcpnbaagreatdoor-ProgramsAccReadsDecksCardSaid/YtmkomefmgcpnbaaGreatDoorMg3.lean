import Derived.Test.YtmkomefmgcpnbaaGreatDoorMg2
set_option linter.all false
set_option maxHeartbeats 12800000
set_option maxRecDepth 100000
namespace Pm
open _root_.List renaming length_cons→Am
open _root_.Nat renaming add_mod_right→C4,add_zero→Dp,blt_eq→Dm,eq_of_beq_eq_true→Ap,mod_eq_of_lt→Bf,not_lt_zero→I5
open _root_.Or renaming inl→AO,inr→AB
theorem NV.push {X:Ctx}{b j:Nat}{a c:Nat→Nat}(d:NV X b a c)(e:b≤j)(v:Nat):NV X b a (upd c j v):=d.trans (Uc (AO e) v)
section
variable {X:Ctx}{n:Nat}{fr:List Nat}{S:Nat→Gs→Prop}{G:Gs}
theorem zx2 {Q:List Nat→Gs→Prop}(a:Q [] G):l8 X n fr S [] Q G:=by
 intro np f g d sz p q m hc h b j k l c o r;rw [yF]at hc;cases hc;exact⟨m,G,Kl.refl _ _,AO ⟨[],rfl,b,fun i e=>absurd e (I5 _),c,NV.refl _ _ _,a⟩⟩
theorem zY2 (L:Lay X){Q:List Nat→Gs→Prop}(e:RE)(l:List RE)(C:Ms X n fr S e (fun v f=>l8 X n fr S l (fun vs G2=>Q (v::vs) G2) f) G):l8 X n fr S (e::l) Q G:=by
 intro np r g d sz p q m hc s D t h u E w x;rw [yF]at hc;split at hc
 ·rename_i F;have h5:sz<60:=by simpa [Dm]using F
  obtain⟨H,h1,hc⟩:=JG hc;obtain⟨q2,I,hc⟩:=JG hc;have p1:=ME _ h1 s;obtain⟨m1,f,c1,j⟩:=C np r g d sz p H m h1 s D t h u E w x;rcases j with⟨_,K,rfl,M,N⟩|⟨c,k,o⟩
  ·obtain⟨O,P,R,h6,T,U,W⟩:=K.push L rfl I p1 h w (by omega);obtain⟨y,z,Y,j⟩:=N np r g d (sz+1) q2 q O hc W R t h u (by omega) (by omega) x;have A:=(c1.trans ((Kl.one (G:=f) (G2:=f) P rfl).trans Y)).mono (b:=gY (e::l)) (by simp only [gY];omega);rcases j with⟨vs,Z,h0,h2,h7,B,h3⟩|⟨c,k,o⟩
   ·refine⟨y,z,A,AO ⟨m1.a::vs,by simp [Z],?_,?_,by simp only [Am];omega,M.trans (U.trans (B.mono (by omega))),h3⟩⟩
    ·rw [Am,show sz+(l.length+1)=sz+1+l.length by omega];exact h0
    ·intro i h4;cases i with
     |zero=>rw [Dp,B (g+sz) (by omega) (by omega),T];rfl
     |succ i=>
      rw [show g+sz+(i+1)=g+(sz+1)+i by omega,h2 i (by simpa using h4)];rfl
   ·exact⟨y,z,A,AB ⟨c,k,o⟩⟩
  ·exact⟨m1,f,c1.mono (by simp only [gY];omega),AB ⟨c,k,o⟩⟩
 ·cases hc
theorem qU (L:Lay X){Q:Nat→Gs→Prop}(f:Nat)(e:List RE)(D:l8 X n fr S e (fun vs l=>0<n∧fG X (n - 1) f vs Q S l) G):Ms X n fr S (.call f e) Q G:=by
 intro np z b d sz p q m hc A r E H I K M N;rw [cE]at hc;obtain⟨O,h1,hc⟩:=JG hc;obtain⟨a,P,hc⟩:=JG hc;obtain⟨F,hh,hc⟩:=JG hc;split at hc
 ·rename_i B;have B:=Ap B;obtain⟨q2,R,hc⟩:=JG hc;have p1:=tC _ h1 A;obtain⟨m1,l,c1,s⟩:=D np z b d sz p O m h1 A r E H I K M N;rcases s with⟨vs,t,h,T,hi,U,hj,W⟩|⟨c,u,v⟩
  ·obtain⟨Y,Z⟩:=h.step1 L rfl R p1 (by omega) (by omega) rfl;have h0:(d+1) %4294967296=d+1:=Bf (by omega);have h2:(b+(sz+e.length)+1) %4294967296=b+(sz+e.length)+1:=Bf (by omega);have h3:LZ m1={m1 with d:=d+1,mem:=upd m1.mem (b+(sz+e.length)) q2.1,c:=b+(sz+e.length)+1,pc:=a}:=by
    rw [Y];simp only [Lu,h.d,h.c,h0,h2];rw [if_neg (by omega),if_neg (by omega),if_neg (by omega),if_neg (by omega),if_neg (by omega),if_neg (by omega),if_neg (by omega),if_neg (by omega),if_neg (by omega),if_neg (by omega),if_neg (by omega),if_pos trivial,if_pos (by omega),if_pos (by omega)]
   obtain⟨j,k,h4,s⟩:=W {m1 with d:=d+1,mem:=upd m1.mem (b+(sz+e.length)) q2.1,c:=b+(sz+e.length)+1,pc:=a} (b+sz) q2.1 d a P h.stop rfl (by show _+_=_;rw [t];omega) rfl (by omega)
    (by show upd _ _ _ _=_;rw [t,show b+sz+e.length=b+(sz+e.length) by omega];exact Ym _ _ _) (fun i o=>by show upd _ _ _ _=_;rw [upd_ne _ _ (by omega)];exact T i o)
    (h.mem.push L (by omega) _) h.inp h.out (by omega) (by omega)
   have w:=c1.trans ((Kl.one (G:=l) (G2:=l) h3 rfl).trans h4);rcases s with⟨h5,h6,h7,h8,h9,ha,hb,hd,C⟩|⟨c,u,v⟩
   ·have x:NV X (b+sz) m.mem j.mem:=U.trans (NV.trans (Uc (AO (by omega)) _) (hd.mono (by omega)));have g:At X np z b d fr (sz+e.length) k q2.1 j:=⟨h5,h6,by rw [h7,t];omega,h8,ha,hb,h9,r.fl,fun i o=>by rw [x _ (by omega) (by have:=mD (np:=np) o;omega)];exact r.fr i o⟩;by_cases y:e.length=0
    ·rw [if_pos (by simp [y])]at hc;cases hc;rw [y,Dp]at g;exact⟨j,k,w.mono (by simp only [OM];omega),AO ⟨_,g,rfl,x,C⟩⟩
    ·rw [if_neg (by simp [y])]at hc;obtain⟨he,hk⟩:=g.step1 L rfl hc Z (by omega) (by omega) rfl;have hf:(b+(sz+e.length)+4294967296 - e.length) %4294967296=b+sz:=by
      rw [show b+(sz+e.length)+4294967296 - e.length=b+sz+4294967296 by omega,C4];exact Bf (by omega)
     have hg:LZ j={j with pc:=q.1,c:=b+sz}:=by
      rw [he];simp only [Lu,g.c,hf];rw [if_neg (by omega),if_neg (by omega),if_neg (by omega),if_neg (by omega),if_neg (by omega),if_neg (by omega),if_neg (by omega),if_pos trivial]
     exact⟨_,k,(w.trans (Kl.one (G:=k) (G2:=k) hg rfl)).mono (by simp only [OM];omega),AO ⟨_,⟨g.stop,rfl,rfl,g.d,g.inp,g.out,g.mem,g.fl,g.fr⟩,rfl,x,C⟩⟩
   ·exact⟨j,k,w.mono (by simp only [OM];omega),AB ⟨c,u,v⟩⟩
  ·exact⟨m1,l,c1.mono (by simp only [OM];omega),AB ⟨c,u,v⟩⟩
 ·cases hc
end
mutual
theorem Pd {X:Ctx}(L:Lay X){n:Nat}{fr:List Nat}{S:Nat→Gs→Prop}:∀ (e:RE){Q:Nat→Gs→Prop}{G:Gs},wE X n fr S e Q G→Ms X n fr S e Q G
 |.num v,_,_,c=>zw3 L v (by rw [wE]at c;exact c)
 |.loc i,_,_,c=>zw4 L i (by rw [wE]at c;exact c)
 |.gv i,_,_,c=>yM0 L i (by rw [wE]at c;exact c)
 |.ix i e,_,_,c=>yM1 L i e (Pd L e (by rw [wE]at c;exact c))
 |.call f g,_,_,c=>qU L f g (tF L g (by rw [wE]at c;exact c))
 |.get,_,_,c=>run_get L (by rw [wE]at c;exact c)
 |.qQ e,_,_,c=>zw5 L e (Pd L e (by rw [wE]at c;exact c))
 |.neg e,_,_,c=>zw9 L e (Pd L e (by rw [wE,ins_eq]at c;exact c))
 |.flip e,_,_,c=>zY1 L e (Pd L e (by rw [wE,ins_eq]at c;exact c))
 |.bin k z a b,_,_,c=>by
  rw [wE]at c;rw [ins_eq]at c;refine zw6 L k z a b ?_
  have h1:=Pd L a c;exact Ms.mono h1 (fun x h d=>Pd L b d)
 |.land a b,_,_,c=>by
  rw [wE]at c;refine zx0 L a b ?_
  refine Ms.mono (Pd L a c) (fun x h d=>?_);split
  ·rename_i q;rw [if_pos q]at d;exact d
  ·rename_i q;rw [if_neg q]at d;exact Pd L b d
 |.lor a b,_,_,c=>by
  rw [wE]at c;refine yM2 L a b ?_
  refine Ms.mono (Pd L a c) (fun x h d=>?_);split
  ·rename_i q;rw [if_pos q]at d;exact Pd L b d
  ·rename_i q;rw [if_neg q]at d;exact d
theorem tF {X:Ctx}(L:Lay X){n:Nat}{fr:List Nat}{S:Nat→Gs→Prop}:∀ (l:List RE){Q:List Nat→Gs→Prop}{G:Gs},wEs X n fr S l Q G→l8 X n fr S l Q G
 |[],_,_,a=>zx2 (by rw [wEs]at a;exact a)
 |e::l,_,_,a=>by
  rw [wEs]at a;exact zY2 L e l (Ms.mono (Pd L e a) (fun v c b=>tF L l b))
end
end Pm
namespace Pm
open _root_.List renaming getElem?_eq_none→C5,getElem?_set_ne→Gr,getElem?_set_self→FR,length_set→Gx
open _root_.Nat renaming add_comm→IA,add_mod_right→C4,add_zero→Dp,blt_eq→Dm,eq_of_beq_eq_true→Ap,le_refl→Aw,lt_or_ge→Dg,mod_eq_of_lt→Bf
open _root_.Or renaming inl→AO,inr→AB
def Fin (X:Ctx)(np g e d ra:Nat)(lp:Nat×Nat)(m:Nat→Nat)(P:Post)(h:Nat)(G2:Gs)(b:MS):Prop:=
 (NV X e m b.mem∧
  ((∃f,At X np g e d f (g+1) G2 h b∧b.mem (e+np)=ra∧P.N f G2)∨
   (∃f,At X np g e d f (g+1) G2 lp.2 b∧b.mem (e+np)=ra∧P.B f G2)∨
   (∃f,At X np g e d f (g+1) G2 lp.1 b∧b.mem (e+np)=ra∧P.C f G2)∨
   (b.stop=0∧b.pc=ra∧b.c=e+np∧b.d+1=d∧Mem X b.mem G2∧b.inp=G2.inp∧b.out=G2.out∧P.R b.a G2)))∨
 ∃c,Halt c G2 b∧P.S c G2
def Tq (X:Ctx)(n:Nat)(s:RS)(fr:List Nat)(P:Post)(G:Gs):Prop:=
 ∀(np a b d ra:Nat) (lp:Nat×Nat) (p q:Pl) (m:MS),cS X np a s lp p=some q→ML X p→At X np a b d fr (a+1) G p.1 m→m.mem (b+np)=ra→1≤d→d+n≤100→X.sb≤b→b+64*(n+1)≤65536→a+2≤60→np≤a→
  ∃c G2,Kl (Rw s) G G2 m c∧Fin X np a b d ra lp m.mem P q.1 G2 c
def T9 (X:Ctx)(n:Nat)(l:List RS)(fr:List Nat)(P:Post)(G:Gs):Prop:=
 ∀(np a b d ra:Nat) (lp:Nat×Nat) (p q:Pl) (m:MS),jC X np a l lp p=some q→ML X p→At X np a b d fr (a+1) G p.1 m→m.mem (b+np)=ra→1≤d→d+n≤100→X.sb≤b→b+64*(n+1)≤65536→a+2≤60→np≤a→
  ∃c G2,Kl (Uz l) G G2 m c∧Fin X np a b d ra lp m.mem P q.1 G2 c
section
variable {X:Ctx}{n:Nat}{fr:List Nat}{P:Post}{G:Gs}
theorem SY {a np sz:Nat}{m b:Nat→Nat}(k:NV X (a+sz) m b)(c:X.sb≤a)(d:np<sz):b (a+np)=m (a+np):=k _ (by omega) (by omega)
theorem zY3 {np i j:Nat}(a:slot np i=slot np j):i=j:=by unfold slot at a;split at a<;>split at a<;>omega
theorem zx3 (np i:Nat):slot np i≠np:=by unfold slot;split<;>omega
theorem zx4 (L:Lay X)(i:Nat)(e:RE)(t:Ms X n fr P.S e (fun v g=>P.N (fr.set i v) g) G):Tq X n (.PN i e) fr P G:=by
 intro np f h d ra lp p q m hc o u w R x r y T z;rw [cS]at hc;split at hc
 ·rename_i k;have k:i<f:=by simpa [Dm]using k
  obtain⟨B,h1,hc⟩:=JG hc;have p1:=ME _ h1 o;obtain⟨m1,g,c1,C⟩:=t np f h d (f+1) p B m h1 o u x r y (by omega) (Aw _) z;rcases C with⟨_,b,rfl,s,D⟩|⟨c,E,F⟩
  ·obtain⟨H,U⟩:=b.step1 L rfl hc p1 (by omega) (by omega) rfl;have W:=mD (np:=np) k;have I:(h+(f+1)+4294967296 - (f+1 - slot np i)) %4294967296=h+slot np i:=by
    rw [show h+(f+1)+4294967296 - (f+1 - slot np i)=h+slot np i+4294967296 by omega,C4];exact Bf (by omega)
   have K:LZ m1={m1 with pc:=q.1,mem:=upd m1.mem (h+slot np i) m1.a}:=by
    rw [H];simp only [Lu,b.c,I];rw [if_neg (by omega),if_neg (by omega),if_neg (by omega),if_neg (by omega),if_pos trivial,if_pos (by omega)]
   have M:(fr.set i m1.a).length=f:=by rw [Gx];exact b.fl
   have O:i<fr.length:=by rw [b.fl];exact k
   refine⟨_,g,(c1.trans (Kl.one (G:=g) (G2:=g) K rfl)).mono (by simp only [Rw];omega),AO ⟨(s.mono (by omega)).trans (Uc (AO (by omega)) _),AO ⟨fr.set i m1.a,⟨b.stop,rfl,b.c,b.d,b.inp,b.out,b.mem.push L (by omega) _,M,fun j Q=>?_⟩,?_,D⟩⟩⟩
   ·show upd _ _ _ _=_
    by_cases l:j=i
    ·subst l;rw [Ym,FR O];rfl
    ·rw [upd_ne _ _ (fun q=>l (zY3 (np:=np) (by omega))),Gr (fun q=>l q.symm)];exact b.fr j Q
   ·show upd _ _ _ _=_
    rw [upd_ne _ _ (fun q=>zx3 np i (by omega)),SY s r (by omega)];exact w
  ·exact⟨m1,g,c1.mono (by simp only [Rw];omega),AB ⟨c,E,F⟩⟩
 ·cases hc
theorem Mem.Pj {m:Nat→Nat}(d:Mem X m G)(L:Lay X){i a len:Nat}(f:X.ga[i]?= some a)(o:X.gl[i]?= some len){x:Nat}(w:x<len)(v:Nat):Mem X (upd m (a+x) v) (G.Pj i x v):=by
 have y:=L.ce i a len f o;have u:i<G.g.length:=by
  rcases Dg i G.g.length with q|q
  ·exact q
  ·have:=d.len i len o;unfold Gs.arr at this;rw [C5 q]at this;have z:(0:Nat)=len:=this;omega
 have r:(G.Pj i x v).arr i=(G.arr i).set x v:=by
  unfold Gs.Pj Gs.arr;rw [FR u];rfl
 have s:∀ k,k≠i→(G.Pj i x v).arr k=G.arr k:=fun k p=>by
  unfold Gs.Pj Gs.arr;rw [Gr (fun q=>p q.symm)]
 refine⟨fun j k h p=>?_,fun k n c=>?_,fun k b n l c j h=>?_⟩
 ·rw [upd_ne _ _ (by omega)];exact d.code j k h p
 ·by_cases e:k=i
  ·subst e;rw [r,Gx];exact d.len k n c
  ·rw [s k e];exact d.len k n c
 ·by_cases e:k=i
  ·subst e;rw [f]at l;cases l;rw [r];by_cases t:j=x
   ·subst t;rw [Ym,FR (by rw [d.len k n c];exact h)];rfl
   ·rw [upd_ne _ _ (by omega),Gr (fun q=>t q.symm)];exact d.QR k a n f c j h
  ·rw [s k e,upd_ne _ _ ?_]
   ·exact d.QR k b n l c j h
   ·rcases Nat.lt_or_gt_of_ne e with q|q
    ·have:=L.ne k i b a n len q l c f o;omega
    ·have:=L.ne i k a b len n q f o l c;omega
theorem zN2 {np c b a:Nat}{m:Nat→Nat}(v:Nat){fr:List Nat}(d:∀ i,i<c→m (b+slot np i)=fr[i]?.getD 0)(f:a<b):∀ i,i<c→upd m a v (b+slot np i)=fr[i]?.getD 0:=fun i e=>by rw [upd_ne _ _ (by omega)];exact d i e
theorem zx5 (L:Lay X)(i:Nat)(e:RE)(s:Ms X n fr P.S e (fun v f=>P.N fr (f.Pj i 0 v)) G):Tq X n (.TI i e) fr P G:=by
 intro np h t d ra lp p q m hc j u w I x k y K z;rw [cS]at hc;obtain⟨a,l,hc⟩:=JG hc;split at hc
 ·rename_i g;have g:=Ap g;have o:X.gl[i]?= some 1:=by rw [dB (v:=0) (by omega),g]
  obtain⟨A,h1,hc⟩:=JG hc;have p1:=ME _ h1 j;obtain⟨m1,f,c1,B⟩:=s np h t d (h+1) p A m h1 j u x k y (by omega) (Aw _) z;rcases B with⟨_,b,rfl,r,C⟩|⟨c,D,E⟩
  ·obtain⟨F,M⟩:=b.step1 L rfl hc p1 (by omega) (by omega) rfl;have O:=L.ce i a 1 l o;have H:LZ m1={m1 with pc:=q.1,mem:=upd m1.mem (a+0) m1.a}:=by
    rw [F];simp only [Lu,Dp];rw [if_neg (by omega),if_neg (by omega),if_pos trivial,if_pos (by omega)]
   refine⟨_,f.Pj i 0 m1.a,(c1.trans (Kl.one (G:=f) (G2:=f.Pj i 0 m1.a) H rfl)).mono (by simp only [Rw];omega),AO ⟨(r.mono (by omega)).trans (Uc (AB (by omega)) _),AO ⟨fr,⟨b.stop,rfl,b.c,b.d,b.inp,b.out,b.mem.Pj L l o (by omega) _,b.fl,zN2 _ b.fr (by omega)⟩,?_,C⟩⟩⟩;show upd _ _ _ _=_
   rw [upd_ne _ _ (by omega),SY r k (by omega)];exact w
  ·exact⟨m1,f,c1.mono (by simp only [Rw];omega),AB ⟨c,D,E⟩⟩
 ·cases hc
theorem zx6 (L:Lay X)(i:Nat)(a e:RE)(T:Ms X n fr P.S a (fun x f=>if x<X.gl[i]?.getD 0 then Ms X n fr P.S e (fun v G2=>P.N fr (G2.Pj i x v)) f else P.S 1 f) G):Tq X n (.sj i a e) fr P G:=by
 intro np b h d ra lp p q m hc A U W hj B l C Y D;rw [cS]at hc;obtain⟨g,E,hc⟩:=JG hc;obtain⟨Z,h1,hc⟩:=JG hc;obtain⟨q2,F,hc⟩:=JG hc;obtain⟨q3,h0,hc⟩:=JG hc;obtain⟨q4,H,hc⟩:=JG hc;have p1:=ME _ h1 A;obtain⟨m1,f,c1,u⟩:=T np b h d (b+1) p Z m h1 A U B l C (by omega) (Aw _) D;rcases u with⟨_,w,rfl,h2,o⟩|⟨c,y,z⟩
 ·have r:=w.bound L rfl F p1;have h3:=(NB F p1).2.2.2.2;by_cases s:m1.a<X.gl[i]?.getD 0
  ·rw [if_pos s]at o r;have I:=dB s;have hk:=L.ce i g _ E I;have h4:=w.Qd q2.1;obtain⟨h5,h6,h7,hl,h8,h9,K⟩:=h4.push L rfl h0 h3 l (Aw _) (by omega);have ha:=ME _ H K;by_cases M:b+1+1≤60
   ·obtain⟨j,t,hb,u⟩:=o np b h d (b+1+1) q3 q4 h5 H K h7 B l C M (by omega) D;have O:=c1.trans ((Kl.one (G:=f) (G2:=f) r rfl).trans ((Kl.one (G:=f) (G2:=f) h6 rfl).trans hb));rcases u with⟨_,k,rfl,Q,hd⟩|⟨c,y,z⟩
    ·obtain⟨he,hm⟩:=k.step1 L rfl hc ha (by omega) (by omega) rfl;have R:NV X (h+(b+1)) m.mem j.mem:=h2.trans (NV.trans h9 (Q.mono (by omega)));have hf:j.mem (h+(b+1))=m1.a:=by rw [Q (h+(b+1)) (by omega) (by omega),h8]
     have hg:(h+(b+1+1)+4294967296 - 1) %4294967296=h+(b+1):=by
      rw [show h+(b+1+1)+4294967296 - 1=h+(b+1)+4294967296 by omega,C4];exact Bf (by omega)
     have hh:(m1.a+g) %4294967296=g+m1.a:=by rw [IA];exact Bf (by omega)
     have hi:LZ j={j with pc:=q.1,c:=h+(b+1),mem:=upd j.mem (g+m1.a) j.a}:=by
      rw [he];simp only [Lu,k.c,hg,hf,hh];rw [if_neg (by omega),if_neg (by omega),if_neg (by omega),if_neg (by omega),if_neg (by omega),if_neg (by omega),if_pos trivial,if_pos (by omega),if_pos (by omega)]
     refine⟨_,t.Pj i m1.a j.a,(O.trans (Kl.one (G:=t) (G2:=t.Pj i m1.a j.a) hi rfl)).mono (by simp only [Rw];omega),AO ⟨(R.mono (by omega)).trans (Uc (AB (by omega)) _),AO ⟨fr,⟨k.stop,rfl,rfl,k.d,k.inp,k.out,k.mem.Pj L E I s _,k.fl,zN2 _ k.fr (by omega)⟩,?_,hd⟩⟩⟩;show upd _ _ _ _=_
     rw [upd_ne _ _ (by omega),SY R l (by omega)];exact W
    ·exact⟨j,t,O.mono (by simp only [Rw];omega),AB ⟨c,y,z⟩⟩
   ·exact absurd Y M
  ·rw [if_neg s]at o r;exact⟨_,f,(c1.trans (Kl.one (G:=f) (G2:=f) r rfl)).mono (by simp only [Rw];omega),AB ⟨1,⟨rfl,rfl,w.out⟩,o⟩⟩
 ·exact⟨m1,f,c1.mono (by simp only [Rw];omega),AB ⟨c,y,z⟩⟩
end
end Pm
namespace Pm
open _root_.Nat renaming add_mod_right→C4,eq_of_beq_eq_true→Ap,le_refl→Aw,mod_eq_of_lt→Bf
open _root_.Or renaming inl→AO,inr→AB
section
variable {X:Ctx}{n:Nat}{fr:List Nat}{P:Post}{G:Gs}
theorem Fin.of {np c b d ra:Nat}{lp:Nat×Nat}{m m1:Nat→Nat}{e:Nat}{G2:Gs}{f:MS}(a:Fin X np c b d ra lp m1 P e G2 f)(k:NV X b m m1):Fin X np c b d ra lp m P e G2 f:=by
 rcases a with⟨g,a⟩|a
 ·exact AO ⟨k.trans g,a⟩
 ·exact AB a
theorem fH (L:Lay X){np a b d:Nat}{m1:MS}{pc:Nat}(c:At X np a b d fr (a+1) G pc m1){o:Nat}{p q:Pl}(e:p.1=pc)(f:t2 X 26 o p=some q)(g:ML X p):LZ m1={m1 with pc:=o}∧ML X q:=by
 obtain⟨h,i⟩:=c.step1 L e f g (by omega) (by omega) rfl;refine⟨?_,i⟩;rw [h];simp only [Lu];rw [if_neg (by omega),if_neg (by omega),if_neg (by omega),if_neg (by omega),if_neg (by omega),if_neg (by omega),if_neg (by omega),if_neg (by omega),if_neg (by omega),if_pos trivial]
theorem zF4 (L:Lay X){np a b d:Nat}{m1:MS}{pc:Nat}(c:At X np a b d fr (a+1) G pc m1){o:Nat}{p q:Pl}(e:p.1=pc)(f:oV X 26 p=some (o,q))(g:ML X p):LZ m1={m1 with pc:=o}∧ML X q:=by
 obtain⟨h,i⟩:=c.zN0 L e f g (by omega) (by omega) rfl;refine⟨?_,i⟩;rw [h];simp only [Lu];rw [if_neg (by omega),if_neg (by omega),if_neg (by omega),if_neg (by omega),if_neg (by omega),if_neg (by omega),if_neg (by omega),if_neg (by omega),if_neg (by omega),if_pos trivial]
theorem zx7 (L:Lay X)(b:P.B fr G):Tq X n .brk fr P G:=by
 intro np f g d ra lp p q m hc c a e h i j k l o;rw [cS]at hc;obtain⟨s,_⟩:=fH L a rfl hc c;exact⟨_,G,Kl.one s rfl,AO ⟨NV.refl _ _ _,AB (AO ⟨fr,a.Qd _,e,b⟩)⟩⟩
theorem zY4 (L:Lay X)(b:P.C fr G):Tq X n .cont fr P G:=by
 intro np f g d ra lp p q m hc c a e h i j k l o;rw [cS]at hc;obtain⟨s,_⟩:=fH L a rfl hc c;exact⟨_,G,Kl.one s rfl,AO ⟨NV.refl _ _ _,AB (AB (AO ⟨fr,a.Qd _,e,b⟩))⟩⟩
theorem zF5 (f:Nat)(a:List RE)(h:Ms X n fr P.S (.call f a) (fun _ G2=>P.N fr G2) G):Tq X n (.call f a) fr P G:=by
 intro np b i d ra lp p q m hc j k l z o e r A s;rw [cS]at hc;obtain⟨m1,t,c1,u⟩:=h np b i d (b+1) p q m hc j k o e r (by omega) (Aw _) s;refine⟨m1,t,c1.mono (by simp only [Rw,OM];omega),?_⟩;rcases u with⟨_,v,rfl,g,w⟩|⟨c,x,y⟩
 ·exact AO ⟨g.mono (by omega),AO ⟨fr,v,by rw [SY g e (by omega)];exact l,w⟩⟩
 ·exact AB ⟨c,x,y⟩
theorem At.ret {np a b d ra:Nat}{pc:Nat}{m1:MS}(e:At X np a b d fr (a+1) G pc m1)(L:Lay X){p q:Pl}(f:p.1=pc)(g:t2 X 29 (a - np+1) p=some q)(h:ML X p)(i:m1.mem (b+np)=ra)(m:1≤d)(n:d≤100)(o:b+64≤65536)(r:a+2≤60)(s:np≤a):
 LZ m1={m1 with pc:=ra,c:=b+np,d:=d - 1}:=by
 obtain⟨j,t⟩:=e.step1 L f g h (by omega) (by omega) rfl;have k:(b+(a+1)+4294967296 - (a - np+1)) %4294967296=b+np:=by
  rw [show b+(a+1)+4294967296 - (a - np+1)=b+np+4294967296 by omega,C4];exact Bf (by omega)
 have l:(d+4294967296 - 1) %4294967296=d - 1:=by
  rw [show d+4294967296 - 1=d - 1+4294967296 by omega,C4];exact Bf (by omega)
 rw [j];simp only [Lu,e.c,k,e.d,l,i];rw [if_neg (by omega),if_neg (by omega),if_neg (by omega),if_neg (by omega),if_neg (by omega),if_neg (by omega),if_neg (by omega),if_neg (by omega),if_neg (by omega),if_neg (by omega),if_neg (by omega),if_neg (by omega),if_pos trivial,if_pos (by omega)]
theorem zx8 (L:Lay X)(e:RE)(k:Ms X n fr P.S e P.R G):Tq X n (.ret e) fr P G:=by
 intro np f l d ra lp p q m hc g o r s t h u v i;rw [cS]at hc;obtain⟨w,h1,hc⟩:=JG hc;have p1:=ME _ h1 g;obtain⟨m1,b,c1,x⟩:=k np f l d (f+1) p w m h1 g o t h u (by omega) (Aw _) i;rcases x with⟨_,a,rfl,j,y⟩|⟨c,z,A⟩
 ·have B:=a.ret L rfl hc p1 (ra:=ra) (by rw [SY j h (by omega)];exact r) s (by omega) (by omega) v i;exact⟨_,b,(c1.trans (Kl.one (G:=b) (G2:=b) B rfl)).mono (by simp only [Rw];omega),AO ⟨j.mono (by omega),AB (AB (AB ⟨a.stop,rfl,rfl,by show d - 1+1=d;omega,a.mem,a.inp,a.out,y⟩))⟩⟩
 ·exact⟨m1,b,c1.mono (by simp only [Rw];omega),AB ⟨c,z,A⟩⟩
theorem zx9 (L:Lay X)(e:RE)(k:Ms X n fr P.S e (fun v f=>f.out.length<20000∧P.N fr {f with out:=f.out++[v %256]}) G):Tq X n (.put e) fr P G:=by
 intro np g l d ra lp p q m hc h o r D s i t E u;rw [cS]at hc;obtain⟨w,h1,hc⟩:=JG hc;have p1:=ME _ h1 h;obtain⟨m1,f,c1,x⟩:=k np g l d (g+1) p w m h1 h o s i t (by omega) (Aw _) u;rcases x with⟨_,b,rfl,j,F,y⟩|⟨c,z,A⟩
 ·obtain⟨B,H⟩:=b.step0 L rfl hc p1 (by omega) (by omega) rfl;have C:LZ m1={m1 with pc:=q.1,out:=m1.out++[m1.a %256]}:=by
   rw [B];simp only [PL];rw [if_neg (by omega),if_neg (by omega),if_neg (by omega),if_neg (by omega),if_pos trivial,if_neg (by rw [b.out];omega)]
  exact⟨_,{f with out:=f.out++[m1.a %256]},(c1.trans (Kl.one (G:=f) (G2:={f with out:=f.out++[m1.a %256]}) C rfl)).mono (by simp only [Rw];omega),
   AO ⟨j.mono (by omega),AO ⟨fr,⟨b.stop,rfl,b.c,b.d,b.inp,by show m1.out++_=_;rw [b.out],⟨b.mem.code,b.mem.len,b.mem.QR⟩,b.fl,b.fr⟩,by show m1.mem _=_;rw [SY j i (by omega)];exact r,y⟩⟩⟩
 ·exact⟨m1,f,c1.mono (by simp only [Rw];omega),AB ⟨c,z,A⟩⟩
theorem zY5 (L:Lay X)(e:RE)(i:Ms X n fr P.S e P.S G):Tq X n (.stop e) fr P G:=by
 intro np f j d ra lp p q m hc g k A B l o r C s;rw [cS]at hc;obtain⟨t,h1,hc⟩:=JG hc;have p1:=ME _ h1 g;obtain⟨m1,b,c1,u⟩:=i np f j d (f+1) p t m h1 g k l o r (by omega) (Aw _) s;rcases u with⟨_,h,rfl,D,v⟩|⟨c,w,x⟩
 ·obtain⟨y,E⟩:=h.step0 L rfl hc p1 (by omega) (by omega) rfl;have z:LZ m1={m1 with pc:=q.1,stop:=1,code:=m1.a}:=by
   rw [y];simp only [PL];rw [if_pos trivial]
  exact⟨_,b,(c1.trans (Kl.one (G:=b) (G2:=b) z rfl)).mono (by simp only [Rw];omega),AB ⟨m1.a,⟨rfl,rfl,h.out⟩,v⟩⟩
 ·exact⟨m1,b,c1.mono (by simp only [Rw];omega),AB ⟨c,w,x⟩⟩
theorem zY6 (a:P.N fr G):T9 X n [] fr P G:=by
 intro np e f d ra lp p q m hc g b c h i j k l o;rw [jC]at hc;cases hc;exact⟨m,G,Kl.refl _ _,AO ⟨NV.refl _ _ _,AO ⟨fr,b,c,a⟩⟩⟩
theorem zF6 (s:RS)(l:List RS)(B:Tq X n s fr {P with N:=fun C e=>T9 X n l C P e} G):T9 X n (s::l) fr P G:=by
 intro np o r d ra lp p q m hc t D E u v w x y z;rw [jC]at hc;obtain⟨A,h1,hc⟩:=JG hc;have p1:=zw2 _ h1 t;obtain⟨m1,e,c1,k⟩:=B np o r d ra lp p A m h1 t D E u v w x y z;have h:=c1.mono (b:=Uz (s::l)) (by simp only [Uz];omega);rcases k with⟨i,⟨j,f,g,a⟩|⟨j,f,g,a⟩|⟨j,f,g,a⟩|a⟩|⟨c,F,H⟩
 ·obtain⟨I,G2,K,k⟩:=a np o r d ra lp A q m1 hc p1 f g u v w x y z;exact⟨I,G2,(c1.trans K).mono (by simp only [Uz];omega),k.of i⟩
 ·exact⟨m1,e,h,AO ⟨i,AB (AO ⟨j,f,g,a⟩)⟩⟩
 ·exact⟨m1,e,h,AO ⟨i,AB (AB (AO ⟨j,f,g,a⟩))⟩⟩
 ·exact⟨m1,e,h,AO ⟨i,AB (AB (AB a))⟩⟩
 ·exact⟨m1,e,h,AB ⟨c,F,H⟩⟩
theorem run_ite (L:Lay X)(e:RE)(b c:List RS)(Z:Ms X n fr P.S e (fun v g=>if v=0 then T9 X n c fr P g else T9 X n b fr P g) G):Tq X n (.ite e b c) fr P G:=by
 intro np s l d ra lp p q m hc N h0 h2 D z t A E B;rw [cS]at hc;obtain⟨h3,h1,hc⟩:=JG hc;obtain⟨⟨o,q2⟩,h4,hc⟩:=JG hc;obtain⟨q3,F,hc⟩:=JG hc;dsimp only at F hc;have p1:=ME _ h1 N;obtain⟨m1,g,c1,f⟩:=Z np s l d (s+1) p h3 m h1 N h0 z t A (by omega) (Aw _) B;rcases f with⟨_,C,rfl,O,w⟩|⟨h5,h6,h7⟩
 ·obtain⟨h,Q⟩:=C.jz L rfl h4 p1;have H:=UN _ F Q;have I:m1.mem (l+np)=ra:=by rw [SY O t (by omega)];exact h2
  have x:NV X l m.mem m1.mem:=O.mono (by omega);by_cases R:m1.a=0
  ·rw [if_pos R]at w h;split at hc
   ·rename_i h8;split at hc
    ·rename_i i;have i:=Ap i;cases hc;have h9:c=[]:=by simpa using h8
     subst h9;have j:=C.Qd o;rw [←i]at j h;have ha:T9 X n [] fr P g:=w;obtain⟨k,G2,y,f⟩:=ha np s l d ra lp q q _ (by rw [jC]) H j I D z t A E B;exact⟨k,G2,(c1.trans ((Kl.one (G:=g) (G2:=g) h rfl).trans y)).mono (by simp only [Rw,Uz];omega),f.of x⟩
    ·cases hc
   ·obtain⟨⟨u,q4⟩,K,hc⟩:=JG hc;dsimp only at hc;split at hc
    ·rename_i i;have i:=Ap i;obtain⟨q5,T,hc⟩:=JG hc;split at hc
     ·rename_i r;have r:=Ap r;cases hc;have hb:=(Wy K H).2.2.2.2;have j:=C.Qd o;rw [←i]at j h;obtain⟨k,G2,y,f⟩:=w np s l d ra lp q4 q _ T hb j I D z t A E B;exact⟨k,G2,(c1.trans ((Kl.one (G:=g) (G2:=g) h rfl).trans y)).mono (by simp only [Rw];omega),f.of x⟩
     ·cases hc
    ·cases hc
  ·rw [if_neg R]at w h;have j:=C.Qd q2.1;obtain⟨k,G2,y,f⟩:=w np s l d ra lp q2 q3 _ F Q j I D z t A E B;have U:=c1.trans ((Kl.one (G:=g) (G2:=g) h rfl).trans y);have M:=U.mono (b:=Rw (.ite e b c)) (by simp only [Rw];omega);split at hc
   ·split at hc
    ·cases hc;exact⟨k,G2,M,f.of x⟩
    ·cases hc
   ·obtain⟨⟨u,q4⟩,K,hc⟩:=JG hc;dsimp only at hc;split at hc
    ·obtain⟨q5,T,hc⟩:=JG hc;split at hc
     ·rename_i r;have r:=Ap r;cases hc;rcases f with⟨W,⟨hd,Y,he,hf⟩|f⟩|f
      ·obtain⟨hg,_⟩:=zF4 L Y rfl K H;refine⟨_,G2,(U.trans (Kl.one (G:=G2) (G2:=G2) hg rfl)).mono (by simp only [Rw];omega),AO ⟨x.trans W,AO ⟨hd,?_,he,hf⟩⟩⟩;rw [←r];exact Y.Qd q.1
      ·exact⟨k,G2,M,AO ⟨x.trans W,AB f⟩⟩
      ·exact⟨k,G2,M,AB f⟩
     ·cases hc
    ·cases hc
 ·exact⟨m1,g,c1.mono (by simp only [Rw];omega),AB ⟨h5,h6,h7⟩⟩
end
end Pm
namespace Pm
open _root_.Nat renaming eq_of_beq_eq_true→Ap,le_refl→Aw
open _root_.Or renaming inl→AO,inr→AB
theorem T9.mono {X:Ctx}{n:Nat}{l:List RS}{k:List Nat}{P f:Post}{G:Gs}(e:T9 X n l k P G)(o:∀ a b,P.N a b→f.N a b)(r:∀ a b,P.B a b→f.B a b)(s:∀ a b,P.C a b→f.C a b)(t:∀ a b,P.R a b→f.R a b)(u:∀ a b,P.S a b→f.S a b):T9 X n l k f G:=by
 intro np v w d ra lp p q m hc x y z A D E F H I;obtain⟨m1,K,c1,L⟩:=e np v w d ra lp p q m hc x y z A D E F H I;refine⟨m1,K,c1,?_⟩;rcases L with⟨j,⟨g,h,i,e⟩|⟨g,h,i,e⟩|⟨g,h,i,e⟩|⟨M,O,Q,T,U,W,Y,e⟩⟩|⟨c,Z,e⟩
 ·exact AO ⟨j,AO ⟨g,h,i,o _ _ e⟩⟩
 ·exact AO ⟨j,AB (AO ⟨g,h,i,r _ _ e⟩)⟩
 ·exact AO ⟨j,AB (AB (AO ⟨g,h,i,s _ _ e⟩))⟩
 ·exact AO ⟨j,AB (AB (AB ⟨M,O,Q,T,U,W,Y,t _ _ e⟩))⟩
 ·exact AB ⟨c,Z,u _ _ e⟩
theorem Tq.mono {X:Ctx}{n:Nat}{l:RS}{k:List Nat}{P f:Post}{G:Gs}(e:Tq X n l k P G)(o:∀ a b,P.N a b→f.N a b)(r:∀ a b,P.B a b→f.B a b)(s:∀ a b,P.C a b→f.C a b)(t:∀ a b,P.R a b→f.R a b)(u:∀ a b,P.S a b→f.S a b):Tq X n l k f G:=by
 intro np v w d ra lp p q m hc x y z A D E F H I;obtain⟨m1,K,c1,L⟩:=e np v w d ra lp p q m hc x y z A D E F H I;refine⟨m1,K,c1,?_⟩;rcases L with⟨j,⟨g,h,i,e⟩|⟨g,h,i,e⟩|⟨g,h,i,e⟩|⟨M,O,Q,T,U,W,Y,e⟩⟩|⟨c,Z,e⟩
 ·exact AO ⟨j,AO ⟨g,h,i,o _ _ e⟩⟩
 ·exact AO ⟨j,AB (AO ⟨g,h,i,r _ _ e⟩)⟩
 ·exact AO ⟨j,AB (AB (AO ⟨g,h,i,s _ _ e⟩))⟩
 ·exact AO ⟨j,AB (AB (AB ⟨M,O,Q,T,U,W,Y,t _ _ e⟩))⟩
 ·exact AB ⟨c,Z,u _ _ e⟩
section
variable {X:Ctx}{n:Nat}{P:Post}
theorem zy0 (L:Lay X)(e:RE)(b:List RS)(hd:List Nat→Gs→Prop)(h2:List Nat→Gs→Nat)
 (ht:∀ F f,hd F f→Ms X n F P.S e (fun v G2=>if v=0 then P.N F G2 else T9 X n b F {P with N:=fun H h3=>H.length=F.length→hd H h3∧h2 H h3<h2 F f,C:=fun H h3=>H.length=F.length→hd H h3∧h2 H h3<h2 F f,B:=P.N} (G2.tick (yG e b))) f):
 ∀(k:Nat) (u:List Nat) (G:Gs),h2 u G≤k→hd u G→Tq X n (.dA e b) u P G:=by
 intro k
 induction k with
 |zero=>
  intro u G x0 hg np w r d ra lp p q m hc I K hh h4 M x O h5 Q;have hi:=hc;rw [cS]at hc;obtain⟨hj,h1,hc⟩:=JG hc;obtain⟨⟨o,q2⟩,hk,hc⟩:=JG hc;obtain⟨q3,R,hc⟩:=JG hc;obtain⟨q4,hu,hc⟩:=JG hc;dsimp only at R hc;split at hc
  ·rename_i y;have y:=Ap y;cases hc;have p1:=ME _ h1 I;obtain⟨m1,f,c1,T⟩:=ht u G hg np w r d (w+1) p hj m h1 I K M x O (by omega) (Aw _) Q;rcases T with⟨_,U,rfl,h6,z⟩|⟨hl,W,Y⟩
   ·obtain⟨l,h7⟩:=U.jz L rfl hk p1;have hv:=UN _ R h7;have h8:m1.mem (r+np)=ra:=by rw [SY h6 x (by omega)];exact hh
    have A:NV X r m.mem m1.mem:=h6.mono (by omega);by_cases h9:m1.a=0
    ·rw [if_pos h9]at z l;rw [←y]at l;exact⟨_,f,(c1.trans (Kl.one (G:=f) (G2:=f) l rfl)).mono (by simp only [Rw];omega),AO ⟨A,AO ⟨u,U.Qd q.1,h8,z⟩⟩⟩
    ·rw [if_neg h9]at z l;have hm:=(U.Qd q2.1).tick (yG e b);obtain⟨s,G2,he,T⟩:=z np w r d ra (p.1,o) q2 q3 _ R h7 hm h8 h4 M x O h5 Q;have hf:Kl 0 G G2 m s:=by
      obtain⟨i,ha,hw⟩:=c1;obtain⟨j,hb,hx⟩:=he;have hy:(f.tick (yG e b)).t=f.t+(OM e+Uz b+2):=rfl;exact⟨i+(1+j),ha.trans ((Go.one l).trans hb),by omega⟩
     have Z:=hf.mono (b:=Rw (.dA e b)) (by omega);rcases T with⟨h0,⟨D,g,E,h⟩|⟨D,g,E,h⟩|⟨D,g,E,h⟩|h⟩|⟨c,W,Y⟩
     ·have:=(h (by rw [g.fl,K.fl])).2;omega
     ·dsimp only at g;rw [←y]at g;exact⟨s,G2,Z,AO ⟨A.trans h0,AO ⟨D,g,E,h⟩⟩⟩
     ·have:=(h (by rw [g.fl,K.fl])).2;omega
     ·exact⟨s,G2,Z,AO ⟨A.trans h0,AB (AB (AB h))⟩⟩
     ·exact⟨s,G2,Z,AB ⟨c,W,Y⟩⟩
   ·exact⟨m1,f,c1.mono (by simp only [Rw];omega),AB ⟨hl,W,Y⟩⟩
  ·cases hc
 |succ k hz=>
  intro u G x0 hg np w r d ra lp p q m hc I K hh h4 M x O h5 Q;have hi:=hc;rw [cS]at hc;obtain⟨hj,h1,hc⟩:=JG hc;obtain⟨⟨o,q2⟩,hk,hc⟩:=JG hc;obtain⟨q3,R,hc⟩:=JG hc;obtain⟨q4,hu,hc⟩:=JG hc;dsimp only at R hc;split at hc
  ·rename_i y;have y:=Ap y;cases hc;have p1:=ME _ h1 I;obtain⟨m1,f,c1,T⟩:=ht u G hg np w r d (w+1) p hj m h1 I K M x O (by omega) (Aw _) Q;rcases T with⟨_,U,rfl,h6,z⟩|⟨hl,W,Y⟩
   ·obtain⟨l,h7⟩:=U.jz L rfl hk p1;have hv:=UN _ R h7;have h8:m1.mem (r+np)=ra:=by rw [SY h6 x (by omega)];exact hh
    have A:NV X r m.mem m1.mem:=h6.mono (by omega);by_cases h9:m1.a=0
    ·rw [if_pos h9]at z l;rw [←y]at l;exact⟨_,f,(c1.trans (Kl.one (G:=f) (G2:=f) l rfl)).mono (by simp only [Rw];omega),AO ⟨A,AO ⟨u,U.Qd q.1,h8,z⟩⟩⟩
    ·rw [if_neg h9]at z l;have hm:=(U.Qd q2.1).tick (yG e b);obtain⟨s,G2,he,T⟩:=z np w r d ra (p.1,o) q2 q3 _ R h7 hm h8 h4 M x O h5 Q;have hf:Kl 0 G G2 m s:=by
      obtain⟨i,ha,hw⟩:=c1;obtain⟨j,hb,hx⟩:=he;have hy:(f.tick (yG e b)).t=f.t+(OM e+Uz b+2):=rfl;exact⟨i+(1+j),ha.trans ((Go.one l).trans hb),by omega⟩
     have x1:∀ hn,LZ s=hn→Kl 0 G G2 m hn:=by
      intro hn x2;obtain⟨i,ha,hw⟩:=c1;obtain⟨j,hb,hx⟩:=he;have hy:(f.tick (yG e b)).t=f.t+(OM e+Uz b+2):=rfl;exact⟨i+(1+(j+1)),ha.trans ((Go.one l).trans (hb.trans (Go.one x2))),by omega⟩
     have Z:=hf.mono (b:=Rw (.dA e b)) (by omega);rcases T with⟨h0,⟨D,g,E,h⟩|⟨D,g,E,h⟩|⟨D,g,E,h⟩|h⟩|⟨c,W,Y⟩
     ·obtain⟨ho,x3⟩:=h (by rw [g.fl,K.fl]);obtain⟨x4,_⟩:=fH L g rfl hu hv;obtain⟨hp,hq,hr,hs⟩:=hz D G2 (by omega) ho np w r d ra lp p q _ hi I (g.Qd p.1) E h4 M x O h5 Q;exact⟨hp,hq,((x1 _ x4).trans hr).mono (by omega),hs.of (A.trans h0)⟩
     ·dsimp only at g;rw [←y]at g;exact⟨s,G2,Z,AO ⟨A.trans h0,AO ⟨D,g,E,h⟩⟩⟩
     ·obtain⟨ho,x3⟩:=h (by rw [g.fl,K.fl]);obtain⟨hp,hq,hr,hs⟩:=hz D G2 (by omega) ho np w r d ra lp p q _ hi I g E h4 M x O h5 Q;exact⟨hp,hq,(hf.trans hr).mono (by omega),hs.of (A.trans h0)⟩
     ·exact⟨s,G2,Z,AO ⟨A.trans h0,AB (AB (AB h))⟩⟩
     ·exact⟨s,G2,Z,AB ⟨c,W,Y⟩⟩
   ·exact⟨m1,f,c1.mono (by simp only [Rw];omega),AB ⟨hl,W,Y⟩⟩
  ·cases hc
end
mutual
theorem ym0 {X:Ctx}(L:Lay X){n:Nat}:∀ (s:RS){h:List Nat}{P:Post}{G:Gs},wS X n s h P G→Tq X n s h P G
 |.PN i e,_,_,_,d=>zx4 L i e (Pd L e (by rw [wS]at d;exact d))
 |.TI i e,_,_,_,d=>zx5 L i e (Pd L e (by rw [wS]at d;exact d))
 |.sj i a e,h,P,_,d=>by
  rw [wS]at d;refine zx6 L i a e (Ms.mono (Pd L a d) (fun x j g=>?_));split
  ·rename_i q;rw [if_pos q]at g;exact Pd L e g
  ·rename_i q;rw [if_neg q]at g;exact g
 |.ite e b c,h,P,_,d=>by
  rw [wS]at d;refine run_ite L e b c (Ms.mono (Pd L e d) (fun x j g=>?_));split
  ·rename_i q;rw [if_pos q]at g;exact dG L c g
  ·rename_i q;rw [if_neg q]at g;exact dG L b g
 |.dA e b,h,P,G,d=>by
  rw [wS]at d;obtain⟨r,p,t,d⟩:=d;refine zy0 L e b (fun l j=>l.length=h.length∧r l j) p (fun l j m=>?_) (p h G) h G (Aw _) ⟨rfl,t⟩;refine Ms.mono (Pd L e (d l j m.1 m.2)) (fun x G2 g=>?_);split
  ·rename_i q;rw [if_pos q]at g;exact g
  ·rename_i q;rw [if_neg q]at g;exact T9.mono (dG L b g) (fun a b c k=>⟨⟨k.trans m.1,c.1⟩,c.2⟩) (fun a b c=>c) (fun a b c k=>⟨⟨k.trans m.1,c.1⟩,c.2⟩) (fun a b c=>c) (fun a b c=>c)
 |.call f o,_,_,_,d=>zF5 f o (qU L f o (tF L o (by rw [wS]at d;exact d)))
 |.ret e,_,_,_,d=>zx8 L e (Pd L e (by rw [wS]at d;exact d))
 |.put e,_,_,_,d=>zx9 L e (Pd L e (by rw [wS]at d;exact d))
 |.stop e,_,_,_,d=>zY5 L e (Pd L e (by rw [wS]at d;exact d))
 |.brk,_,_,_,d=>zx7 L (by rw [wS]at d;exact d)
 |.cont,_,_,_,d=>zY4 L (by rw [wS]at d;exact d)
theorem dG {X:Ctx}(L:Lay X){n:Nat}:∀ (l:List RS){e:List Nat}{P:Post}{G:Gs},su X n l e P G→T9 X n l e P G
 |[],_,_,_,d=>zY6 (by rw [su]at d;exact d)
 |s::l,_,P,_,d=>by
  rw [su]at d;exact zF6 s l (Tq.mono (ym0 L s d) (fun a b c=>dG L l c) (fun a b c=>c) (fun a b c=>c) (fun a b c=>c) (fun a b c=>c))
end
end Pm
namespace Pm
open _root_.Bool renaming and_eq_true→Ah
open _root_.List renaming getElem?_append_left→Ce,getElem?_append_right→Cs,replicate→BK
open _root_.Nat renaming eq_of_beq_eq_true→Ap,le_of_ble_eq_true→Ai,le_refl→Aw,mod_eq_of_lt→Bf
open _root_.Or renaming inl→AO,inr→AB
def wF (X:Ctx)(n:Nat)(F:RF)(vs:List Nat)(Q S:Nat→Gs→Prop)(G:Gs):Prop:=
 su X n F.body (vs++BK F.nl 0) {N:=fun _ a=>Q 0 a,B:=fun _ _=>False,C:=fun _ _=>False,R:=Q,S:=S} (G.tick (szF F))
def zy1 (X:Ctx)(f:Nat)(F:RF)(a:Nat):Prop:=X.fa[f]?= some a∧X.fs[f]?= some F∧∃ q,cF X F (a,X.img.drop a)=some q
theorem zY7 {X:Ctx}(L:Lay X):∀ (k:Nat){p q:Pl}{m:MS}{c:Nat},YQ X k p=some q→ML X p→m.stop=0→m.pc=p.1→m.c=c→m.a=0→(∀i w,i<X.ce→X.img[i]?= some w→m.mem i=w)→X.sb≤c→c+k≤65536→
 ∃b,Go k m b∧b.stop=0∧b.pc=q.1∧b.c=c+k∧b.a=0∧b.d=m.d∧b.inp=m.inp∧b.out=m.out∧(∀i,i<c∨c+k≤i→b.mem i=m.mem i)∧(∀i,c≤i→i<c+k→b.mem i=0)∧ML X q:=by
 intro k
 induction k with
 |zero=>
  intro p q m c hc j e f l h n t u;rw [YQ]at hc;cases hc;exact⟨m,Go.refl m,e,f,by rw [l];rfl,h,rfl,rfl,rfl,fun i _=>rfl,fun i h1 v=>by omega,j⟩
 |succ k x=>
  intro p q m c hc j e f l h n t u;rw [YQ]at hc;obtain⟨o,h1,hc⟩:=JG hc;obtain⟨y,z,A,p1⟩:=OT h1 j;have N:=L.sb;have O:=L.cs;have s1:LZ m={m with pc:=o.1,mem:=upd m.mem c 0,c:=c+1}:=by
   rw [jK (k:=9) e (show m.pc<65536 by omega) (show m.mem m.pc=9 by rw [f];exact n _ _ y z) (by omega) (by omega) rfl];simp only [PL,l,h];rw [if_neg (by omega),if_pos trivial,if_pos (by omega),Bf (by omega),f,A]
  obtain⟨b,g,B,C,P,D,E,F,G,r,H,I⟩:=x (m:={m with pc:=o.1,mem:=upd m.mem c 0,c:=c+1}) (c:=c+1) hc p1 e rfl rfl h (fun i w s K=>by show upd _ _ _ _=_;rw [upd_ne _ _ (by omega)];exact n i w s K) (by omega) (by omega);refine⟨b,((Go.one s1).trans g).mono (by omega),B,C,by omega,D,E,F,G,fun i s=>?_,fun i h1 v=>?_,I⟩
  ·rw [r i (by omega)];exact upd_ne _ _ (by omega)
  ·by_cases M:i=c
   ·subst M;rw [r i (by omega)];exact Ym _ _ _
   ·exact H i (by omega) (by omega)
theorem yM4 {X:Ctx}(L:Lay X){n f:Nat}{F:RF}{a:Nat}(hf:zy1 X f F a){vs:List Nat}{Q S:Nat→Gs→Prop}{G:Gs}(s:vs.length=F.np)(P:wF X n F vs Q S G):fG X n f vs Q S G:=by
 intro m l ra d xh R z w hc hg xi hh hi u hj hk hl xj;obtain⟨f1,f2,q,e⟩:=hf;rw [f1]at R;cases R;have xk:=e;unfold cF at e;split at e
 ·rename_i T;have T:=Ai T;obtain⟨p1,h1,e⟩:=JG e;obtain⟨hm,x,e⟩:=JG e;obtain⟨A,U,e⟩:=JG e;have W:ML X (a,X.img.drop a):=⟨rfl⟩;have xl:=L.sb;have xm:=L.cs;have hn:∃ b,Go (F.nl+1) m b∧b.stop=0∧b.pc=p1.1∧b.c=l+F.np+1+F.nl∧b.d=m.d∧b.inp=m.inp∧b.out=m.out∧(∀i,i<l+F.np+1∨l+F.np+1+F.nl≤i→b.mem i=m.mem i)∧(∀i,l+F.np+1≤i→i<l+F.np+1+F.nl→b.mem i=0)∧ML X p1:=by
   split at h1
   ·rename_i B;have B:=Ap B;cases h1;exact⟨m,(Go.refl m).mono (by omega),z,w,by rw [hc,s,B],rfl,rfl,rfl,fun i _=>rfl,fun i h1 x=>by omega,W⟩
   ·obtain⟨Y,ho,h1⟩:=JG h1;obtain⟨Z,h0,h2,h3,hp⟩:=NB ho W;have s1:LZ m={m with pc:=Y.1,a:=0}:=by
     have hq:a+1<X.ce:=Z;have hr:X.img[a]?= some 2:=h0
     have hs:X.img[a+1]?= some 0:=h2
     rw [Wt (k:=2) (n:=0) z (show m.pc+1<65536 by omega) (show m.mem m.pc=2 by rw [w];exact u.code _ _ (by omega) hr) (show m.mem (m.pc+1)=0 by rw [w];exact u.code _ _ hq hs) (by omega) (by omega) rfl];simp only [Lu];rw [if_pos trivial,w,h3]
    obtain⟨b,g,C,D,o,xn,E,H,I,p,K,ht⟩:=zY7 L F.nl (m:={m with pc:=Y.1,a:=0}) (c:=l+F.np+1) h1 hp z rfl (by show m.c=_;rw [hc,s]) rfl u.code (by omega) (by omega);exact⟨b,((Go.one s1).trans g).mono (by omega),C,D,o,E,H,I,p,K,ht⟩
  obtain⟨b,hu,C,D,o,E,H,I,p,K,h4⟩:=hn;have M:Mem X b.mem G:=by
   refine⟨fun i k h5 hv=>?_,u.len,fun i h h6 h7 h8 j h9=>?_⟩
   ·rw [p i (by omega)];exact u.code i k h5 hv
   ·have:=(L.ce i h h6 h7 h8).2.1;rw [p _ (by omega)];exact u.QR i h h6 h7 h8 j h9
  have hw:At X F.np (F.np+F.nl) l (d+1) (vs++BK F.nl 0) (F.np+F.nl+1) (G.tick (szF F)) p1.1 b:=by
   refine⟨C,D,by rw [o];omega,by rw [E,hg],by rw [H,hj];rfl,by rw [I,hk];rfl,⟨M.code,M.len,M.QR⟩,by simp [s],fun i h5=>?_⟩;unfold slot;split
   ·rename_i hx;rw [p _ (by omega),hi i (by omega),Ce (by omega)]
   ·rename_i hx;rw [K _ (by omega) (by omega),Cs (by omega),List.getElem?_replicate];rw [if_pos (by omega)];rfl
  have hy:b.mem (l+F.np)=ra:=by rw [p _ (by omega),←s];exact hh
  have ha:NV X l m.mem b.mem:=fun j h1 x=>p j (by omega)
  unfold wF at P;obtain⟨v,y,hz,x0⟩:=dG L F.body P F.np (F.np+F.nl) l (d+1) ra (65536,65536) p1 hm b x h4 hw hy (by omega) (by omega) hl (by omega) (by omega) (by omega);have hb:=UN _ x h4;obtain⟨Z,h0,h2,h3,x1⟩:=NB U hb;have N:∀ j O,j≤2→Go j v O→Kl 0 G y m O:=by
   intro j O h9 x2;obtain⟨i,x3,xo⟩:=hz;have xp:(G.tick (szF F)).t=G.t+(F.nl+1+Uz F.body+2):=rfl;exact⟨F.nl+1+(i+j),hu.trans (x3.trans x2),by omega⟩
  rcases x0 with⟨hd,⟨he,h,o,r⟩|⟨he,h,o,r⟩|⟨he,h,o,r⟩|⟨x4,x5,x6,xq,x7,x8,x9,r⟩⟩|⟨c,xa,xb⟩
  ·obtain⟨xc,_⟩:=h.step1 L rfl U hb (by omega) (by omega) rfl;have xd:LZ v={v with pc:=A.1,a:=0}:=by
    rw [xc];simp only [Lu];rw [if_pos trivial]
   have xe:=h.Pj A.1 0;have xf:t2 X 29 (F.np+F.nl - F.np+1) A=some q:=by rw [show F.np+F.nl - F.np+1=F.nl+1 by omega];exact e
   have xg:=xe.ret L rfl xf x1 (ra:=ra) o (by omega) (by omega) (by omega) (by omega) (by omega);refine⟨_,y,N 2 _ (Aw _) ((Go.one xd).trans (Go.one xg)),AO ⟨h.stop,rfl,by rw [s],by show d+1 - 1=d;omega,h.mem,h.inp,h.out,ha.trans hd,r⟩⟩
  ·exact absurd r (fun q=>q)
  ·exact absurd r (fun q=>q)
  ·exact⟨v,y,N 0 _ (by omega) (Go.refl _),AO ⟨x4,x5,by rw [x6,s],by omega,x7,x8,x9,ha.trans hd,r⟩⟩
  ·exact⟨v,y,N 0 _ (by omega) (Go.refl _),AB ⟨c,xa,xb⟩⟩
 ·cases e
theorem zN3:∀ (e gl:List Nat){at_ g:Nat},cG at_ g e gl=true→at_≤g∧(∀(i a n:Nat),e[i]?= some a→gl[i]?= some n→at_≤a∧a+n≤g∧1≤n)∧
 ∀(i c a f n h:Nat),i<c→e[i]?= some a→gl[i]?= some n→e[c]?= some f→gl[c]?= some h→a+n≤f
 |[],[],at_,g,d=>⟨Ai d,fun i a n h1=>by simp at h1,fun i c a f n h _ h1=>by simp at h1⟩
 |[],_::_,_,_,d=>by cases d
 |_::_,[],_,_,d=>by cases d
 |b::e,k::gl,at_,g,d=>by
  rw [cG,Ah,Ah]at d;obtain⟨⟨h1,m⟩,r⟩:=d;have h1:=Ai h1;have m:=Ai m;obtain⟨s,o,t⟩:=zN3 e gl r;refine⟨by omega,fun i a n j l=>?_,fun i c a f n h w j l p q=>?_⟩
  ·cases i with
   |zero=>cases j;cases l;exact⟨h1,s,m⟩
   |succ i=>obtain⟨x,u,v⟩:=o i a n (by simpa using j) (by simpa using l);exact⟨by omega,u,v⟩
  ·cases c with
   |zero=>omega
   |succ c=>
    cases i with
    |zero=>cases j;cases l;exact(o c f h (by simpa using p) (by simpa using q)).1
    |succ i=>exact t i c a f n h (by omega) (by simpa using j) (by simpa using l) (by simpa using p) (by simpa using q)
end Pm
namespace Pm
open _root_.Bool renaming and_eq_true→Ah
open _root_.List renaming getElem?_drop→Fq,getElem?_eq_getElem→Al,getElem?_eq_some_iff→Ao,getElem?_take→Dc
open _root_.Nat renaming beq→Az,eq_of_beq_eq_true→Ap,le_of_ble_eq_true→Ai,le_refl→Aw,mod_eq_of_lt→Bf,not_lt_zero→I5
theorem qV {X:Ctx}:∀ (k:Nat){p q:Pl},YQ X k p=some q→ML X p→ML X q
 |0,_,_,a,b=>by rw [YQ]at a;cases a;exact b
 |k+1,_,_,a,b=>by
  rw [YQ]at a;obtain⟨c,h1,a⟩:=JG a;exact qV k a (OT h1 b).2.2.2
theorem ym2 {X:Ctx}{F:RF}{p q:Pl}(a:cF X F p=some q)(b:ML X p):ML X q:=by
 unfold cF at a;split at a
 ·obtain⟨p1,h1,a⟩:=JG a;obtain⟨g,c,a⟩:=JG a;obtain⟨h,d,a⟩:=JG a;have e:ML X p1:=by
   split at h1
   ·cases h1;exact b
   ·obtain⟨i,f,h1⟩:=JG h1;exact qV _ h1 (NB f b).2.2.2.2
  exact(NB a (NB d (UN _ c e)).2.2.2.2).2.2.2.2
 ·cases a
theorem zN4 {X:Ctx}:∀ (b:List RF)(c:List Nat){p:Pl},cFs X b c p=true→ML X p→∀ (f:Nat)(F:RF),b[f]?= some F→∃ a,c[f]?= some a∧∃ q,cF X F (a,X.img.drop a)=some q
 |[],_,_,_,_,f,F,d=>by simp at d
 |_::_,[],_,e,_,_,_,_=>by simp [cFs]at e
 |i::b,a::c,p,e,h,f,F,d=>by
  rw [cFs,Ah]at e;obtain⟨h1,g⟩:=e;have h1:=Ap h1;cases hc:cF X i p with
  |none=>rw [hc]at g;cases g
  |some q=>
   rw [hc]at g;cases f with
   |zero=>
    cases d;refine⟨a,rfl,q,?_⟩;rw [h1,←h.eq];exact hc
   |succ f=>exact zN4 b c g (ym2 hc h) f F (by simpa using d)
def cI (img:List Nat):List Nat→List Nat→List (List Nat)→Bool
 |[],[],[]=>true
 |a::b,n::gl,l::g=>decide ((img.drop a).take n=l)&&Az l.length n&&cI img b gl g
 |_,_,_=>false
theorem zF8 {img:List Nat}:∀ (d gl:List Nat)(g:List (List Nat)),cI img d gl g=true→∀ (i a n:Nat),d[i]?= some a→gl[i]?= some n→((g[i]?.getD []).length=n∧∀ j,j<n→img[a+j]?.getD 0=(g[i]?.getD [])[j]?.getD 0)
 |[],_,_,_,i,a,n,e,_=>by simp at e
 |_::_,[],_,c,_,_,_,_,f=>by simp at f
 |_::_,_::_,[],c,_,_,_,_,_=>by simp [cI]at c
 |b::d,k::gl,l::g,c,i,a,n,e,f=>by
  rw [cI,Ah,Ah]at c;obtain⟨⟨h1,h⟩,m⟩:=c;have h1:=of_decide_eq_true h1;have h:=Ap h;cases i with
  |zero=>
   cases e;cases f;refine⟨h,fun j o=>?_⟩;show _=l[j]?.getD 0
   rw [←h1,Dc,if_pos o,Fq]
  |succ i=>exact zF8 d gl g m i a n (by simpa using e) (by simpa using f)
theorem zN5 {img:List Nat}:∀ (b gl:List Nat)(g:List (List Nat)),cI img b gl g=true→b.length=gl.length
 |[],[],_,_=>rfl
 |[],_::_,_,a=>by simp [cI]at a
 |_::_,[],_,a=>by simp [cI]at a
 |_::_,_::_,[],a=>by simp [cI]at a
 |_::b,_::gl,_::g,a=>by
  rw [cI,Ah]at a;simp [zN5 b gl g a.2]
def ms0 (img inp:List Nat):MS:={mem:=fun i=>img[i]?.getD 0,pc:=0,a:=0,c:=0,d:=0,inp:=inp,out:=[],stop:=0,code:=0}
structure Prog (X:Ctx) (main:Nat) (g0:List (List Nat)):Prop where
 x:cX X main=true
 i:cI X.img X.ga X.gl g0=true
theorem Prog.parts {X:Ctx}{main:Nat}{g0:List (List Nat)}(b:Prog X main g0):∃ a F p q c s,X.fa[main]?= some a∧X.fs[main]?= some F∧t2 X 32 X.sb (0,X.img)=some p∧t2 X 28 a p=some q∧t2 X 2 0 q=some c∧t1 X 1 c=some s∧cFs X X.fs X.fa s=true∧cG X.ce X.sb X.ga X.gl=true∧X.sb+8000≤65536∧F.np=0:=by
 have b:=b.x;unfold cX at b;split at b
 ·rename_i a F d e;split at b
  ·cases b
  rename_i p f;split at b
  ·cases b
  rename_i q g;split at b
  ·cases b
  rename_i c h;split at b
  ·cases b
  rename_i s i;rw [Ah,Ah,Ah]at b;exact⟨a,F,p,q,c,s,d,e,f,g,h,i,b.1.1.1,b.1.1.2,Ai b.1.2,Ap b.2⟩
 ·cases b
theorem Prog.lay {X:Ctx}{main:Nat}{g0:List (List Nat)}(b:Prog X main g0):Lay X:=by
 obtain⟨a,F,p,q,g,s,_,_,_,_,_,_,_,c,d,_⟩:=b.parts;obtain⟨h1,e,f⟩:=zN3 _ _ c;exact⟨e,f,d,h1⟩
theorem Prog.fun {X:Ctx}{main:Nat}{g0:List (List Nat)}(c:Prog X main g0){f:Nat}{F:RF}(b:X.fs[f]?= some F):∃ a,zy1 X f F a:=by
 obtain⟨a,n,p,q,o,s,_,_,d,e,g,h,i,_,_,_⟩:=c.parts;have j:ML X (0,X.img):=⟨by simp⟩;have k:=(OT h (NB g (NB e (NB d j).2.2.2.2).2.2.2.2).2.2.2.2).2.2.2;obtain⟨l,h1,m⟩:=zN4 _ _ i k f F b;exact⟨l,h1,b,m⟩
theorem Prog.call {X:Ctx}{main:Nat}{g0:List (List Nat)}(b:Prog X main g0){n f:Nat}{F:RF}(c:X.fs[f]?= some F){vs:List Nat}{Q S:Nat→Gs→Prop}{G:Gs}(d:vs.length=F.np)(e:wF X n F vs Q S G):fG X n f vs Q S G:=by
 obtain⟨a,g⟩:=b.fun c
 exact yM4 b.lay g d e
theorem Prog.run {X:Ctx}{main:Nat}{g0:List (List Nat)}(h:Prog X main g0){S:Nat→Gs→Prop}{inp:List Nat}{n:Nat}(f:n≤98)(K:fG X n main [] (fun _ G=>S 0 G) S ⟨g0,inp,[],5⟩):
 ∃k v c G2,it k (ms0 X.img inp)=v∧k≤G2.t∧Halt c G2 v∧S c G2:=by
 have L:=h.lay;obtain⟨a,F,p,q,M,s,N,hj,O,P,Q,R,_,_,hk,hl⟩:=h.parts;have T:ML X (0,X.img):=⟨by simp⟩;obtain⟨hm,U,W,Y,Z⟩:=NB O T;obtain⟨h0,x,y,hn,h1⟩:=NB P Z;obtain⟨c1,z,A,ho,h2⟩:=NB Q h1;obtain⟨B,C,hp,hq⟩:=OT R h2;have hr:=L.cs;have w:∀ {i k:Nat},X.img[i]?= some k→(ms0 X.img inp).mem i=k:=fun l=>by show X.img[_]?.getD 0=_;rw [l];rfl
 have h3:p.1=2:=Y;have h4:q.1=4:=by omega
 have h5:M.1=6:=by omega
 rw [h3]at h0 x y;rw [h4]at c1 z A;rw [h5]at B C;have s1:LZ (ms0 X.img inp)={ms0 X.img inp with pc:=2,c:=X.sb}:=by
  rw [Wt (k:=32) (n:=X.sb) rfl (show 0+1<65536 by omega) (w U) (w W) (by omega) (by omega) rfl];simp only [Lu];rw [if_neg (by omega),if_neg (by omega),if_neg (by omega),if_neg (by omega),if_neg (by omega),if_neg (by omega),if_neg (by omega),if_neg (by omega),if_neg (by omega),if_neg (by omega),if_neg (by omega),if_neg (by omega),if_neg (by omega)];rfl
 have h6:LZ {ms0 X.img inp with pc:=2,c:=X.sb}={ms0 X.img inp with pc:=a,c:=X.sb+1,d:=1,mem:=upd (ms0 X.img inp).mem X.sb 4}:=by
  rw [Wt (m:={ms0 X.img inp with pc:=2,c:=X.sb}) (k:=28) (n:=a) rfl (show 2+1<65536 by omega) (w x) (w y) (by omega) (by omega) rfl];simp only [Lu];rw [if_neg (by omega),if_neg (by omega),if_neg (by omega),if_neg (by omega),if_neg (by omega),if_neg (by omega),if_neg (by omega),if_neg (by omega),if_neg (by omega),if_neg (by omega),if_neg (by omega),if_pos trivial,
   if_pos (by show(0+1) %4294967296<101;omega),if_pos (by omega),Bf (show X.sb+1<4294967296 by omega)]
  rfl
 have h7:Mem X (upd (ms0 X.img inp).mem X.sb 4) ⟨g0,inp,[],5⟩:=by
  have h8:=zN5 _ _ _ h.i;refine⟨fun i k o l=>?_,fun i n f=>?_,fun i b n D f j h9=>?_⟩
  ·rw [upd_ne _ _ (by omega)];exact w l
  ·have o:i<X.ga.length:=by rw [h8];exact(Ao.1 f).1
   exact(zF8 _ _ _ h.i i _ n (Al o) f).1
  ·have:=(L.ce i b n D f).2.1;rw [upd_ne _ _ (by omega)];exact(zF8 _ _ _ h.i i b n D f).2 j h9
 obtain⟨e,g,⟨j,ha,E⟩,hb⟩:=K {ms0 X.img inp with pc:=a,c:=X.sb+1,d:=1,mem:=upd (ms0 X.img inp).mem X.sb 4} X.sb 4 0 a N rfl rfl rfl rfl (by omega) (Ym _ _ _) (fun i o=>absurd o (I5 _)) h7 rfl rfl (Aw _) (by omega);have H:Go (2+j) (ms0 X.img inp) e:=(((Go.one s1).trans (Go.one h6)).trans ha);rcases hb with⟨I,r,hs,ht,u,hu,hc,hv,hd⟩|⟨c,he,hf⟩
 ·have hg:LZ e={e with pc:=6,a:=0}:=by
   rw [Wt (k:=2) (n:=0) I (by omega) (by rw [r];exact u.code _ _ (by omega) z) (by rw [r];exact u.code _ _ c1 A) (by omega) (by omega) rfl];simp only [Lu];rw [if_pos trivial,r]
  have hh:LZ {e with pc:=6,a:=0}={e with pc:=7,a:=0,stop:=1,code:=0}:=by
   rw [jK (k:=1) (m:={e with pc:=6,a:=0}) I (by show 6<65536;omega) (u.code _ _ B C) (by omega) (by omega) rfl];simp only [PL];rw [if_pos trivial]
  obtain⟨k,l,hit⟩:=(H.trans ((Go.one hg).trans (Go.one hh)));have hi:j+5≤g.t:=by have:j+5≤g.t+0:=E;omega
  exact⟨k,_,0,g,hit,by omega,⟨rfl,rfl,hc⟩,hd⟩
 ·obtain⟨k,l,hit⟩:=H;have hi:j+5≤g.t:=by have:j+5≤g.t+0:=E;omega
  exact⟨k,e,c,g,hit,by omega,he,hf⟩
end Pm
namespace Pm
open _root_.Classical renaming choose_spec→B4,choose→CN
open _root_.Nat renaming add_mod_right→C4,mod_eq_of_lt→Bf
set_option linter.unusedSimpArgs false
set_option linter.unusedVariables false
theorem gZ:∃ f:Nat→Nat→Nat,f=fun x a=>(x+a) %4294967296:=⟨_,rfl⟩
theorem gq:∃ f:Nat→Nat→Nat,f=fun x a=>(x+4294967296 - a) %4294967296:=⟨_,rfl⟩
theorem gu:∃ f:Nat→Nat→Nat,f=fun x a=>x*a %4294967296:=⟨_,rfl⟩
theorem gy:∃ f:Nat→Nat→Nat,f=fun x a=>if a<32 then x*2 ^a %4294967296 else 0:=⟨_,rfl⟩
theorem gz:∃ f:Nat→Nat→Nat,f=fun x a=>if a<32 then x /2 ^a else 0:=⟨_,rfl⟩
theorem iB:∃ f:Nat→Nat→Nat,f=fun x a=>Nat.land x a:=⟨_,rfl⟩
theorem mE:∃ f:Nat→Nat→Nat,f=fun x a=>Nat.lor x a:=⟨_,rfl⟩
theorem iC:∃ f:Nat→Nat→Nat,f=fun x a=>Nat.xor x a:=⟨_,rfl⟩
theorem iD:∃ f:Nat→Nat→Nat,f=fun x a=>x /a:=⟨_,rfl⟩
theorem iE:∃ f:Nat→Nat→Nat,f=fun x a=>x %a:=⟨_,rfl⟩
noncomputable def add32:Nat→Nat→Nat:=CN gZ
noncomputable def fI:Nat→Nat→Nat:=CN gq
noncomputable def fJ:Nat→Nat→Nat:=CN gu
noncomputable def zy2:Nat→Nat→Nat:=CN gy
noncomputable def zy3:Nat→Nat→Nat:=CN gz
noncomputable def zy4:Nat→Nat→Nat:=CN iB
noncomputable def yU1:Nat→Nat→Nat:=CN mE
noncomputable def zy5:Nat→Nat→Nat:=CN iC
noncomputable def zy6:Nat→Nat→Nat:=CN iD
noncomputable def zy7:Nat→Nat→Nat:=CN iE
theorem mF (x a:Nat):add32 x a=(x+a) %4294967296:=congrFun (congrFun (B4 gZ) x) a
theorem Zn (x a:Nat):fI x a=(x+4294967296 - a) %4294967296:=congrFun (congrFun (B4 gq) x) a
theorem mG (x a:Nat):fJ x a=x*a %4294967296:=congrFun (congrFun (B4 gu) x) a
theorem zF9 (x a:Nat):zy2 x a=if a<32 then x*2 ^a %4294967296 else 0:=congrFun (congrFun (B4 gy) x) a
theorem zG0 (x a:Nat):zy3 x a=if a<32 then x /2 ^a else 0:=congrFun (congrFun (B4 gz) x) a
theorem zG1 (x a:Nat):zy4 x a=x &&&a:=congrFun (congrFun (B4 iB) x) a
theorem zY8 (x a:Nat):yU1 x a=x |||a:=congrFun (congrFun (B4 mE) x) a
theorem zG2 (x a:Nat):zy5 x a=x ^^^ a:=congrFun (congrFun (B4 iC) x) a
theorem zG3 (x a:Nat):zy6 x a=x /a:=congrFun (congrFun (B4 iD) x) a
theorem zG4 (x a:Nat):zy7 x a=x %a:=congrFun (congrFun (B4 iE) x) a
theorem i11 (x a:Nat):ins 11 x a=add32 x a:=by rw [ins_eq,mF];simp only [O9,reduceIte,Nat.reduceEqDiff]
theorem i12 (x a:Nat):ins 12 x a=fI x a:=by rw [ins_eq,Zn];simp only [O9,reduceIte,Nat.reduceEqDiff]
theorem i13 (x a:Nat):ins 13 x a=fJ x a:=by rw [ins_eq,mG];simp only [O9,reduceIte,Nat.reduceEqDiff]
theorem i14 (x a:Nat):ins 14 x a=zy6 x a:=by rw [ins_eq,zG3];simp only [O9,reduceIte,Nat.reduceEqDiff]
theorem i15 (x a:Nat):ins 15 x a=zy7 x a:=by rw [ins_eq,zG4];simp only [O9,reduceIte,Nat.reduceEqDiff]
theorem i16 (x a:Nat):ins 16 x a=zy4 x a:=by rw [ins_eq,zG1];simp only [O9,reduceIte,Nat.reduceEqDiff];rfl
theorem i17 (x a:Nat):ins 17 x a=yU1 x a:=by rw [ins_eq,zY8];simp only [O9,reduceIte,Nat.reduceEqDiff];rfl
theorem i18 (x a:Nat):ins 18 x a=zy5 x a:=by rw [ins_eq,zG2];simp only [O9,reduceIte,Nat.reduceEqDiff];rfl
theorem i19 (x a:Nat):ins 19 x a=zy2 x a:=by rw [ins_eq,zF9];simp only [O9,reduceIte,Nat.reduceEqDiff]
theorem i20 (x a:Nat):ins 20 x a=zy3 x a:=by rw [ins_eq,zG0];simp only [O9,reduceIte,Nat.reduceEqDiff]
theorem i21 (x a:Nat):ins 21 x a=if x=a then 1 else 0:=by rw [ins_eq];simp only [O9,reduceIte,Nat.reduceEqDiff]
theorem i22 (x a:Nat):ins 22 x a=if x<a then 1 else 0:=by rw [ins_eq];simp only [O9,reduceIte,Nat.reduceEqDiff]
theorem i23 (x a:Nat):ins 23 x a=if a<x then 1 else 0:=by rw [ins_eq];simp only [O9,reduceIte,Nat.reduceEqDiff]
theorem add_eq {x a:Nat}(b:x+a<4294967296):add32 x a=x+a:=by rw [mF];exact Bf b
theorem mul_eq {x a:Nat}(b:x*a<4294967296):fJ x a=x*a:=by rw [mG];exact Bf b
theorem sub_eq {x a:Nat}(b:a≤x)(c:x<4294967296):fI x a=x - a:=by
 rw [Zn];have:x+4294967296 - a=x - a+4294967296:=by omega
 rw [this,C4];exact Bf (by omega)
theorem sub_lt {x a:Nat}(b:x<a)(hy:a≤4294967296):fI x a=x+4294967296 - a:=by rw [Zn];exact Bf (by omega)
theorem zY9 {p:Prop} [Decidable p]:((if p then 1 else 0)=0)=¬ p:=by split<;>simp [*]
attribute [simp] su wS wE wEs szF yG Uz Rw OM gY Gs.tick Gs.Pj Gs.arr zY9 i11 i12 i13 i14 i15 i16 i17 i18 i19 i20 i21 i22 i23
end Pm
namespace Pm.Acc
open _root_.List renaming replicate→BK
set_option maxRecDepth 100000
def tH:RF:={np:=0,nl:=1,body:=[
 .PN 0 .get,
 .ite (.bin 23 false (.loc 0) (.num 255)) [.stop (.num 16)] [],
 .ret (.loc 0)]}
def tJ:RF:={np:=1,nl:=0,body:=[
 .stop (.bin 11 false (.num 32) (.loc 0))]}
def ym3:RF:={np:=1,nl:=0,body:=[
 .ret (.bin 20 false (.loc 0) (.num 31))]}
def fK:RF:={np:=2,nl:=0,body:=[
 .ite (.loc 1) [.ret (.neg (.loc 0))] [],
 .ret (.loc 0)]}
def ym4:RF:={np:=1,nl:=0,body:=[
 .ret (.call 3 [.loc 0,.bin 20 false (.loc 0) (.num 31)])]}
def ym5:RF:={np:=2,nl:=0,body:=[
 .PN 0 (.bin 11 false (.loc 0) (.loc 1)),
 .PN 1 (.call 4 [.loc 0]),
 .ite (.bin 22 true (.loc 1) (.num 100000)) [.TI 5 (.num 1)] [],
 .ret (.call 3 [.bin 15 false (.loc 1) (.num 100000),.call 2 [.loc 0]])]}
def mH:RF:={np:=0,nl:=1,body:=[
 .PN 0 (.bin 12 false (.call 0 []) (.num 48)),
 .ite (.bin 23 false (.loc 0) (.num 9)) [.stop (.num 16)] [],
 .ret (.loc 0)]}
def tK:RF:={np:=0,nl:=4,body:=[
 .PN 0 (.bin 11 false (.bin 13 false (.call 6 []) (.num 10)) (.call 6 [])),
 .ite (.bin 21 true (.call 0 []) (.num 32)) [.stop (.num 16)] [],
 .PN 1 (.call 0 []),
 .dA (.bin 22 false (.loc 3) (.num 5)) [.PN 2 (.bin 11 false (.bin 13 false (.loc 2) (.num 10)) (.call 6 [])),.PN 3 (.bin 11 false (.loc 3) (.num 1))],
 .ite (.lor (.lor (.lor (.bin 21 true (.call 0 []) (.num 10)) (.land (.bin 21 true (.loc 1) (.num 43)) (.bin 21 true (.loc 1) (.num 45)))) (.bin 21 false (.loc 2) (.num 0))) (.bin 22 false (.loc 0) (.gv 7))) [.stop (.num 16)] [],
 .TI 7 (.bin 11 false (.loc 0) (.num 1)),
 .sj 0 (.loc 0) (.call 3 [.loc 2,.bin 21 false (.loc 1) (.num 45)])]}
def zy8:RF:={np:=1,nl:=5,body:=[
 .PN 1 (.call 4 [.gv 2]),
 .PN 2 (.call 4 [.loc 0]),
 .PN 3 (.bin 18 false (.call 2 [.gv 2]) (.call 2 [.loc 0])),
 .PN 4 (.bin 13 false (.loc 1) (.bin 14 false (.loc 2) (.num 1000))),
 .PN 5 (.bin 11 false (.bin 13 false (.bin 15 false (.loc 4) (.num 100)) (.num 1000)) (.bin 13 false (.loc 1) (.bin 15 false (.loc 2) (.num 1000)))),
 .TI 2 (.call 3 [.bin 15 false (.loc 5) (.num 100000),.loc 3]),
 .TI 3 (.call 3 [.bin 11 false (.bin 14 false (.loc 4) (.num 100)) (.bin 14 false (.loc 5) (.num 100000)),.loc 3])]}
def zZ0:RF:={np:=1,nl:=2,body:=[
 .ite (.bin 21 false (.loc 0) (.num 0)) [.call 1 [.num 6]] [],
 .PN 1 (.call 4 [.gv 2]),
 .PN 2 (.call 4 [.loc 0]),
 .TI 3 (.call 3 [.bin 15 false (.loc 1) (.loc 2),.call 2 [.gv 2]]),
 .TI 2 (.call 3 [.bin 14 false (.loc 1) (.loc 2),.bin 18 false (.call 2 [.gv 2]) (.call 2 [.loc 0])])]}
def zy9:RF:={np:=0,nl:=3,body:=[
 .PN 0 (.call 4 [.gv 2]),
 .PN 1 (.num 10),
 .PN 2 (.bin 11 false (.num 2) (.call 2 [.gv 2])),
 .dA (.bin 22 true (.loc 0) (.loc 1)) [.PN 1 (.bin 13 false (.loc 1) (.num 10)),.PN 2 (.bin 11 false (.loc 2) (.num 1))],
 .ite (.bin 23 false (.bin 11 false (.gv 6) (.loc 2)) (.num 1000)) [.call 1 [.num 7]] [],
 .TI 6 (.bin 11 false (.gv 6) (.loc 2)),
 .ite (.call 2 [.gv 2]) [.put (.num 45)] [],
 .PN 1 (.bin 14 false (.loc 1) (.num 10)),
 .dA (.loc 1) [.put (.bin 11 false (.bin 15 false (.bin 14 false (.loc 0) (.loc 1)) (.num 10)) (.num 48)),.PN 1 (.bin 14 false (.loc 1) (.num 10))],
 .put (.num 10)]}
def zz0:RF:={np:=2,nl:=1,body:=[
 .ite (.bin 23 false (.loc 0) (.num 4)) [.TI 2 (.num 0),.ret (.num 0)] [],
 .PN 2 (.num 1),
 .dA (.loc 0) [.PN 2 (.bin 13 false (.loc 2) (.num 10)),.PN 0 (.bin 12 false (.loc 0) (.num 1))],
 .PN 0 (.call 4 [.gv 2]),
 .ite (.loc 1) [.TI 2 (.call 3 [.bin 15 false (.bin 13 false (.loc 0) (.loc 2)) (.num 100000),.call 2 [.gv 2]])] [.TI 2 (.call 3 [.bin 14 false (.loc 0) (.loc 2),.call 2 [.gv 2]])]]}
def yM6:RF:={np:=2,nl:=0,body:=[
 .ite (.loc 0) [.TI 1 (.loc 1)] []]}
def zz2:RF:={np:=3,nl:=0,body:=[
 .ite (.bin 21 false (.loc 0) (.num 9)) [.call 12 [.bin 21 false (.gv 2) (.num 0),.loc 1]] [],
 .ite (.bin 21 false (.loc 0) (.num 10)) [.call 12 [.gv 5,.loc 1],.TI 5 (.num 0)] [],
 .ite (.bin 21 false (.loc 0) (.num 11)) [.TI 4 (.loc 2)] [],
 .ite (.bin 21 false (.loc 0) (.num 12)) [.TI 4 (.call 5 [.gv 4,.neg (.num 1)]),.call 12 [.gv 4,.loc 1]] [],
 .ite (.bin 21 false (.loc 0) (.num 13)) [.sj 0 (.loc 1) .get] [],
 .ite (.bin 21 false (.loc 0) (.num 14)) [.call 10 []] [],
 .ite (.lor (.bin 21 false (.loc 0) (.num 15)) (.bin 21 false (.loc 0) (.num 16))) [.call 11 [.loc 1,.bin 21 false (.loc 0) (.num 15)]] [],
 .ite (.bin 21 false (.loc 0) (.num 17)) [.PN 2 (.gv 2),.TI 2 (.gv 3),.TI 3 (.loc 2)] []]}
def zG5:RF:={np:=3,nl:=0,body:=[
 .ite (.bin 23 false (.loc 0) (.num 8)) [.call 13 [.loc 0,.loc 1,.loc 2],.ret (.num 0)] [],
 .ite (.bin 21 false (.loc 0) (.num 0)) [.call 1 [.num 1]] [],
 .ite (.bin 21 false (.loc 0) (.num 1)) [.TI 2 (.loc 2)] [],
 .ite (.bin 21 false (.loc 0) (.num 2)) [.sj 0 (.loc 1) (.gv 2)] [],
 .ite (.bin 21 false (.loc 0) (.num 3)) [.TI 2 (.call 5 [.gv 2,.loc 2])] [],
 .ite (.bin 21 false (.loc 0) (.num 4)) [.TI 2 (.call 5 [.gv 2,.neg (.loc 2)])] [],
 .ite (.bin 21 false (.loc 0) (.num 5)) [.call 8 [.loc 2]] [],
 .ite (.bin 21 false (.loc 0) (.num 6)) [.call 9 [.loc 2]] [],
 .ite (.bin 21 false (.loc 0) (.num 7)) [.TI 1 (.loc 1)] [],
 .ite (.bin 21 false (.loc 0) (.num 8)) [.call 12 [.call 2 [.gv 2],.loc 1]] []]}
def yM7:RF:={np:=0,nl:=3,body:=[
 .ite (.bin 21 false (.gv 1) (.num 100)) [.call 1 [.num 3]] [],
 .PN 0 (.ix 0 (.gv 1)),
 .PN 1 (.bin 15 false (.bin 14 false (.loc 0) (.num 100)) (.num 100)),
 .ite (.lor (.bin 23 false (.loc 0) (.num 19999)) (.bin 23 false (.loc 1) (.num 17))) [.call 1 [.num 2]] [],
 .PN 2 (.bin 15 false (.loc 0) (.num 100)),
 .ite (.bin 23 false (.loc 0) (.num 9999)) [.PN 2 (.bin 11 false (.loc 2) (.gv 4))] [],
 .ite (.bin 23 false (.loc 2) (.num 99)) [.call 1 [.num 3]] [],
 .TI 1 (.bin 11 false (.gv 1) (.num 1)),
 .call 14 [.loc 1,.loc 2,.ix 0 (.loc 2)]]}
def tL:RF:={np:=0,nl:=2,body:=[
 .PN 1 (.call 0 []),
 .PN 1 (.bin 11 false (.loc 1) (.bin 13 false (.call 0 []) (.num 256))),
 .PN 0 (.call 0 []),
 .ite (.bin 23 false (.loc 0) (.num 100)) [.stop (.num 16)] [],
 .dA (.loc 0) [.call 7 [],.PN 0 (.bin 12 false (.loc 0) (.num 1))],
 .dA (.loc 1) [.call 15 [],.PN 1 (.bin 12 false (.loc 1) (.num 1))],
 .call 1 [.num 0]]}
def img:List Nat:=[32,1486,28,1301,2,0,1,2,0,9,30,6,1,5,1,9,2,255,23,27,24,2,16,1,5,1,29,2,2,0,29,2,2,32,9,5,3,11,1,2,0,29,1,5,2,9,2,31,20,29,1,2,0,29,1,5,2,27,67,2,0,9,5,4,12,29,1,5,3,29,1,2,0,29,1,5,2,9,5,3,9,2,31,20,9,28,55,10,2,29,1,2,0,29,1,5,3,9,5,3,11,6,3,5,3,9,28,75,10,1,6,2,5,2,9,2,100000,22,24,27,125,2,1,4,1483,5,2,9,2,100000,15,9,5,4,9,28,43,10,1,9,28,55,10,2,29,1,2,0,29,1,2,0,9,28,7,9,2,48,12,6,1,5,1,9,2,9,23,27,172,2,16,1,5,1,29,2,2,0,29,2,2,0,9,9,9,9,28,150,9,2,10,13,9,28,150,11,6,4,28,7,9,2,32,21,24,27,210,2,16,1,28,7,6,3,5,1,9,2,5,22,27,244,5,2,9,2,10,13,9,28,150,11,6,2,5,1,9,2,1,11,6,1,26,214,28,7,9,2,10,21,24,24,27,273,5,3,9,2,43,21,24,27,272,5,3,9,2,45,21,24,24,24,24,24,24,27,284,5,2,9,2,0,21,24,24,24,27,295,5,4,9,3,1485,22,24,24,27,301,2,16,1,5,4,9,2,1,11,4,1485,5,4,25,100,9,5,3,9,5,5,9,2,45,21,9,28,55,10,2,8,1379,2,0,29,5,2,0,9,9,9,9,9,3,1480,9,28,75,10,1,6,5,5,7,9,28,75,10,1,6,4,3,1480,9,28,43,10,1,9,5,8,9,28,43,10,1,18,6,3,5,5,9,5,5,9,2,1000,14,13,6,2,5,2,9,2,100,15,9,2,1000,13,9,5,6,9,5,6,9,2,1000,15,13,11,6,1,5,1,9,2,100000,15,9,5,4,9,28,55,10,2,4,1480,5,2,9,2,100,14,9,5,2,9,2,100000,14,11,9,5,4,9,28,55,10,2,4,1481,2,0,29,6,2,0,9,9,5,4,9,2,0,21,27,476,2,6,9,28,32,10,1,3,1480,9,28,75,10,1,6,2,5,4,9,28,75,10,1,6,1,5,2,9,5,2,15,9,3,1480,9,28,43,10,1,9,28,55,10,2,4,1481,5,2,9,5,2,14,9,3,1480,9,28,43,10,1,9,5,6,9,28,43,10,1,18,9,28,55,10,2,4,1480,2,0,29,3,2,0,9,9,9,3,1480,9,28,75,10,1,6,3,2,10,6,2,2,2,9,3,1480,9,28,43,10,1,11,6,1,5,3,9,5,3,22,24,27,607,5,2,9,2,10,13,6,2,5,1,9,2,1,11,6,1,26,580,3,1484,9,5,2,11,9,2,1000,23,27,626,2,7,9,28,32,10,1,3,1484,9,5,2,11,4,1484,3,1480,9,28,43,10,1,27,646,2,45,31,5,2,9,2,10,14,6,2,5,2,27,683,5,3,9,5,3,14,9,2,10,15,9,2,48,11,31,5,2,9,2,10,14,6,2,26,654,2,10,31,2,0,29,4,2,0,9,5,4,9,2,4,23,27,709,2,0,4,1480,2,0,29,2,2,1,6,1,5,4,27,735,5,1,9,2,10,13,6,1,5,4,9,2,1,12,6,4,26,713,3,1480,9,28,75,10,1,6,4,5,3,27,775,5,4,9,5,2,13,9,2,100000,15,9,3,1480,9,28,43,10,1,9,28,55,10,2,4,1480,26,796,5,4,9,5,2,14,9,3,1480,9,28,43,10,1,9,28,55,10,2,4,1480,2,0,29,2,5,3,27,808,5,2,4,1479,2,0,29,1,5,4,9,2,9,21,27,834,3,1480,9,2,0,21,9,5,4,9,28,800,10,2,5,4,9,2,10,21,27,856,3,1483,9,5,4,9,28,800,10,2,2,0,4,1483,5,4,9,2,11,21,27,868,5,2,4,1482,5,4,9,2,12,21,27,902,3,1482,9,2,0,9,2,1,12,9,28,95,10,2,4,1482,3,1482,9,5,4,9,28,800,10,2,5,4,9,2,13,21,27,918,5,3,25,100,9,30,8,1379,5,4,9,2,14,21,27,928,28,549,5,4,9,2,15,21,24,27,944,5,4,9,2,16,21,24,24,27,961,5,3,9,5,5,9,2,15,21,9,28,690,10,2,5,4,9,2,17,21,27,981,3,1480,6,2,3,1481,4,1480,5,2,4,1481,2,0,29,1,5,4,9,2,8,23,27,1010,5,4,9,5,4,9,5,4,9,28,812,10,3,2,0,29,1,5,4,9,2,0,21,27,1025,2,1,9,28,32,10,1,5,4,9,2,1,21,27,1037,5,2,4,1480,5,4,9,2,2,21,27,1054,5,3,25,100,9,3,1480,8,1379,5,4,9,2,3,21,27,1074,3,1480,9,5,3,9,28,95,10,2,4,1480,5,4,9,2,4,21,27,1098,3,1480,9,2,0,9,5,4,12,9,28,95,10,2,4,1480,5,4,9,2,5,21,27,1113,5,2,9,28,334,10,1,5,4,9,2,6,21,27,1128,5,2,9,28,457,10,1,5,4,9,2,7,21,27,1140,5,3,4,1479,5,4,9,2,8,21,27,1163,3,1480,9,28,43,10,1,9,5,4,9,28,800,10,2,2,0,29,1,2,0,9,9,9,3,1479,9,2,100,21,27,1187,2,3,9,28,32,10,1,3,1479,25,100,7,1379,6,3,5,3,9,2,100,14,9,2,100,15,6,2,5,3,9,2,19999,23,24,27,1223,5,2,9,2,17,23,24,24,27,1233,2,2,9,28,32,10,1,5,3,9,2,100,15,6,1,5,3,9,2,9999,23,27,1257,5,1,9,3,1482,11,6,1,5,1,9,2,99,23,27,1272,2,3,9,28,32,10,1,3,1479,9,2,1,11,4,1479,5,2,9,5,2,9,5,3,25,100,7,1379,9,28,985,10,3,2,0,29,4,2,0,9,9,28,7,6,1,5,1,9,28,7,9,2,256,13,11,6,1,28,7,6,2,5,2,9,2,100,23,27,1336,2,16,1,5,2,27,1352,28,180,5,2,9,2,1,12,6,2,26,1336,5,1,27,1368,28,1167,5,1,9,2,1,12,6,1,26,1352,2,0,9,28,32,10,1,2,0,29,3]++BK 107 0
def g0:List (List Nat):=[BK 100 0,[0],[0],[0],[0],[0],[0],[0]]
def X:Ctx:={img:=img,ce:=1379,fa:=[7,32,43,55,75,95,150,180,334,457,549,690,800,812,985,1167,1301],fs:=[tH,tJ,ym3,fK,ym4,ym5,mH,tK,zy8,zZ0,zy9,zz0,yM6,zz2,zG5,yM7,tL],ga:=[1379,1479,1480,1481,1482,1483,1484,1485],gl:=[100,1,1,1,1,1,1,1],sb:=1486}
theorem prog:Prog X 16 g0:=⟨by decide+kernel,by decide+kernel⟩
theorem zz4:X.fs[0]?= some tH:=rfl
theorem zz5:X.fs[1]?= some tJ:=rfl
theorem zG6:X.fs[3]?= some fK:=rfl
theorem zZ1:X.fs[6]?= some mH:=rfl
theorem zz6:X.fs[7]?= some tK:=rfl
theorem zz7:X.fs[16]?= some tL:=rfl
theorem zZ2:X.gl[0]?.getD 0=100:=rfl
theorem zz8:X.gl[7]?.getD 0=1:=rfl
end Pm.Acc

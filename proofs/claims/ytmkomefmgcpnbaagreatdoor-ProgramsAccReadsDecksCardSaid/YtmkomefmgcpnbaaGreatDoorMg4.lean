import Derived.Test.YtmkomefmgcpnbaaGreatDoorMg3
set_option linter.all false
set_option maxHeartbeats 12800000
set_option maxRecDepth 100000
namespace Pm.Acc
open _root_.List renaming cons_append→BS,drop_eq_getElem_cons→AR,getElem?_cons_succ→DG,getElem?_cons_zero→Ei,getElem_mem→F7,mem_append→Fi,mem_cons→AH,not_mem_nil→Ba,set_cons_succ→Eo,set_cons_zero→En,take_succ_eq_append_getElem→FT
open _root_.Nat renaming lt_of_lt_of_le→Ar,pow_succ→D6
open _root_.Option renaming getD_some→CU
open _root_.Or renaming inl→AO,inr→AB
set_option maxRecDepth 100000
set_option maxHeartbeats 1600000
theorem U5 {n:Nat}{Q S:Nat→Gs→Prop}{g:List (List Nat)}{inp out:List Nat}{t:Nat}(a:match inp with|[]=>∀ t2,t2≤t+20→S 16 ⟨g,[],out,t2⟩|b::l=>b<256∧∀ t2,t2≤t+20→Q b ⟨g,l,out,t2⟩):fG X n 0 [] Q S ⟨g,inp,out,t⟩:=by
 refine prog.call zz4 rfl ?_
 unfold wF tH;simp;cases inp with
 |nil=>simpa using a _ (by omega)
 |cons b l=>
  simp only at a ⊢;rw [if_pos (by omega)];exact a.2 _ (by omega)
theorem fM {n:Nat}(f:1≤n){Q S:Nat→Gs→Prop}{g:List (List Nat)}{b:Nat}{l out:List Nat}{t:Nat}(h:b<256)(c:if 48≤b∧b≤57 then ∀t2,t2≤t+50→Q (b - 48) ⟨g,l,out,t2⟩else ∀t2,t2≤t+50→S 16 ⟨g,l,out,t2⟩):fG X n 6 [] Q S ⟨g,b::l,out,t⟩:=by
 refine prog.call zZ1 rfl ?_
 unfold wF mH;simp;refine⟨f,U5 ⟨h,fun t2 i=>?_⟩⟩;split at c
 ·rename_i d;rw [sub_eq d.1 (by omega),if_pos (by omega)];exact c _ (by omega)
 ·rename_i d;have e:9<fI b 48:=by
   by_cases h1:b<48
   ·rw [sub_lt h1 (by omega)];omega
   ·rw [sub_eq (by omega) (by omega)];omega
  rw [if_neg (by omega)];exact c _ (by omega)
noncomputable def sgn (v m:Nat):Nat:=if m=0 then v else fI 0 v
theorem zG7 {n:Nat}{Q S:Nat→Gs→Prop}{v m:Nat}{g:List (List Nat)}{inp out:List Nat}{t:Nat}(a:∀ t2,t2≤t+20→Q (sgn v m) ⟨g,inp,out,t2⟩):fG X n 3 [v,m] Q S ⟨g,inp,out,t⟩:=by
 refine prog.call zG6 rfl ?_
 unfold wF fK;simp;unfold sgn at a;split
 ·rename_i b;rw [if_pos b]at a;exact a _ (by omega)
 ·rename_i b;rw [if_neg b]at a;exact a _ (by omega)
theorem zz9 {n:Nat}{Q S:Nat→Gs→Prop}{k:Nat}{g:List (List Nat)}{inp out:List Nat}{t:Nat}(b:k<100)(a:∀ t2,t2≤t+20→S (32+k) ⟨g,inp,out,t2⟩):fG X n 1 [k] Q S ⟨g,inp,out,t⟩:=by
 refine prog.call zz5 rfl ?_
 unfold wF tJ;simp;rw [add_eq (by omega)];exact a _ (by omega)
def gs (ws:List Nat)(b a q x c wr nx:Nat)(inp out:List Nat)(t:Nat):Gs:=⟨[ws,[b],[a],[q],[x],[c],[wr],[nx]],inp,out,t⟩
def dg (c:Nat):Prop:=48≤c∧c≤57
instance (c:Nat):Decidable (dg c):=by unfold dg;exact inferInstance
def iH (a b c d e:Nat):Nat:=(((((a - 48)*10+(b - 48))*10+(c - 48))*10+(d - 48))*10+(e - 48))
def qW:Nat→List Nat→Nat→Nat
 |0,_,v=>v
 |k+1,c::l,v=>qW k l (v*10+(c - 48))
 |_+1,[],v=>v
def UO (nx:Nat)(c0 c1 g a b c d e f h:Nat):Prop:=
 dg c0∧dg c1∧g=32∧(a=43∨a=45)∧(dg b∧dg c∧dg d∧dg e∧dg f)∧h=10∧iH b c d e f≠0∧nx≤(c0 - 48)*10+(c1 - 48)
instance (nx c0 c1 b c d e f g h i:Nat):Decidable (UO nx c0 c1 b c d e f g h i):=by unfold UO;exact inferInstance
theorem more {v c:Nat}(a:v<100000)(hc:dg c):add32 (fJ v 10) (c - 48)=v*10+(c - 48):=by
 unfold dg at hc;rw [mul_eq (by omega),add_eq (by omega)]
theorem z00 {n:Nat}(ho:2≤n){Q S:Nat→Gs→Prop}{ws:List Nat}{D a q x E wr nx:Nat}{c0 c1 F o b f h j m s:Nat}{l out:List Nat}{t:Nat}
 (h3:c0<256∧c1<256∧F<256∧o<256∧b<256∧f<256∧h<256∧j<256∧m<256∧s<256)
 (A:¬ UO nx c0 c1 F o b f h j m s→∀ G2,G2.t≤t+1000→S 16 G2)
 (h4:UO nx c0 c1 F o b f h j m s→∀ t2,t2≤t+1000→Q 0 (gs (ws.set ((c0 - 48)*10+(c1 - 48)) (sgn (iH b f h j m) (if o=45 then 1 else 0))) D a q x E wr ((c0 - 48)*10+(c1 - 48)+1) l out t2)):
 fG X n 7 [] Q S (gs ws D a q x E wr nx (c0::c1::F::o::b::f::h::j::m::s::l) out t):=by
 refine prog.call zz6 rfl ?_
 unfold wF tK gs;simp [zZ2,zz8];have u:0<n:=by omega
 obtain⟨h5,h6,h7,h8,hp,hq,hr,hs,ht,h9⟩:=h3;refine⟨u,fM (by omega) h5 ?_⟩;split
 case isFalse M=>exact fun t2 ha=>A (fun k=>M k.1) _ (by simp;omega)
 rename_i M;intro hu hv;refine⟨u,fM (by omega) h6 ?_⟩;split
 case isFalse h1=>exact fun t2 ha=>A (fun k=>h1 k.2.1) _ (by simp;omega)
 rename_i h1;intro t1 hw;refine⟨u,U5 ⟨h7,fun t2 hx=>?_⟩⟩;split
 case isFalse N=>exact A (fun k=>N k.2.2.1) _ (by simp;omega)
 rename_i N;refine⟨u,U5 ⟨h8,fun U hy=>?_⟩⟩;have hb:add32 (fJ (c0 - 48) 10) (c1 - 48)=(c0 - 48)*10+(c1 - 48):=more (by omega) h1;rw [hb];generalize hz:(c0 - 48)*10+(c1 - 48)=i at*
 have W:i<100:=by omega
 refine⟨fun H G=>∃ k v,k≤5∧H=[i,o,v,k]∧v=qW k [b,f,h,j,m] 0∧(∀c∈[b,f,h,j,m].take k,dg c)∧v<10 ^k∧∃ O,O≤U+80*k∧G=⟨[ws,[D],[a],[q],[x],[E],[wr],[nx]],[b,f,h,j,m].drop k++s::l,out,O⟩,
  ⟨0,0,by omega,rfl,rfl,by simp,by omega,U,by omega,rfl⟩,fun H _=>5 - H[3]?.getD 0,?_⟩
 rintro H G x0 ⟨k,v,x1,rfl,Y,Z,hd,O,x2,rfl⟩;simp only [DG,Ei,CU,Eo,En];by_cases I:5≤k
 ·rw [if_pos I];have I:k=5:=by omega
  subst I;have P:v=iH b f h j m:=by rw [Y];simp [qW,iH]
  have he:dg b∧dg f∧dg h∧dg j∧dg m:=by simpa using Z
  refine⟨u,U5 ⟨h9,fun K h0=>?_⟩⟩;have z:¬ (s=10∧(o=43∨o=45)∧v≠0∧nx≤i)→∀ G2:Gs,G2.t≤t+1000→S 16 G2:=fun hf G2 hg=>A (fun k=>hf ⟨k.2.2.2.2.2.1,k.2.2.2.1,by rw [P];exact k.2.2.2.2.2.2.1,by have:=k.2.2.2.2.2.2.2;omega⟩) G2 hg
  have h2:(o=43∨o=45)→s=10→v≠0→nx≤i→0<n∧fG X (n - 1) 3 [v,if o=45 then 1 else 0] (fun v G2=>Q 0 {g:=G2.g.set 0 ((G2.g[0]?.getD []).set i v),inp:=G2.inp,out:=G2.out,t:=G2.t}) S {g:=[ws,[D],[a],[q],[x],[E],[wr],[add32 i 1]],inp:=l,out:=out,t:=K}:=by
   intro hh w p r;refine⟨u,zG7 fun hi x3=>?_⟩;have:=h4 ⟨M,h1,N,hh,he,w,by rw [←P];exact p,by omega⟩ hi (by omega);rw [add_eq (by omega),P];exact this
  simp only [DG,Ei,CU,Eo,En];by_cases w:s=10
  ·rw [if_pos w];by_cases R:o=43
   ·rw [if_pos R];by_cases p:v=0
    ·rw [if_pos p];exact z (fun k=>k.2.2.1 p) _ (by simp;omega)
    ·rw [if_neg p];by_cases r:nx≤i
     ·rw [if_pos r,if_pos W];exact h2 (AO R) w p r
     ·rw [if_neg r];exact z (fun k=>r k.2.2.2) _ (by simp;omega)
   ·rw [if_neg R];by_cases B:o=45
    ·rw [if_pos B];by_cases p:v=0
     ·rw [if_pos p];exact z (fun k=>k.2.2.1 p) _ (by simp;omega)
     ·rw [if_neg p];by_cases r:nx≤i
      ·rw [if_pos r,if_pos W];have:=h2 (AB B) w p r;rw [if_pos B]at this;rw [if_pos B];exact this
      ·rw [if_neg r];exact z (fun k=>r k.2.2.2) _ (by simp;omega)
    ·rw [if_neg B];exact z (fun k=>by rcases k.2.1 with e|e<;>omega) _ (by simp;omega)
  ·rw [if_neg w];exact z (fun k=>w k.1) _ (by simp;omega)
 ·rw [if_neg I];have hlen:k<[b,f,h,j,m].length:=by simp;omega
  obtain⟨c,hc⟩:∃ c,c=[b,f,h,j,m][k]:=⟨_,rfl⟩;have hj:[b,f,h,j,m].drop k=c::[b,f,h,j,m].drop (k+1):=by rw [hc];exact AR hlen
  have hk:[b,f,h,j,m].take (k+1)=[b,f,h,j,m].take k++[c]:=by rw [hc];exact FT hlen
  have T:c∈[b,f,h,j,m]:=by rw [hc];exact F7 hlen
  have hl:c<256:=by simp only [AH,Ba,or_false]at T;omega
  have hm:qW (k+1) [b,f,h,j,m] 0=qW k [b,f,h,j,m] 0*10+(c - 48):=by
   have:k=0∨k=1∨k=2∨k=3∨k=4:=by omega
   rcases this with rfl|rfl|rfl|rfl|rfl<;>(rw [hc];simp [qW])
  rw [hj,BS];refine⟨u,fM (by omega) hl ?_⟩;split
  ·rename_i L;intro K h0;have hn:v<100000:=Ar hd (by
    have:k=0∨k=1∨k=2∨k=3∨k=4:=by omega
    rcases this with rfl|rfl|rfl|rfl|rfl<;>decide)
   rw [more hn L,add_eq (by omega)];refine⟨⟨k+1,_,by omega,rfl,by rw [hm,←Y],?_,?_,K,by omega,rfl⟩,by simp;omega⟩
   ·intro d y;rw [hk,Fi]at y;rcases y with y|y
    ·exact Z d y
    ·simp at y;subst y;exact L
   ·rw [D6];omega
  ·rename_i L;intro K h0;refine A (fun q=>L ?_) _ (by simp;omega);have C:=q.2.2.2.2.1;simp only [AH,Ba,or_false]at T;rcases T with e|e|e|e|e<;>rw [e]
   ·exact C.1
   ·exact C.2.1
   ·exact C.2.2.1
   ·exact C.2.2.2.1
   ·exact C.2.2.2.2
end Pm.Acc
namespace Pm.Acc
open _root_.List renaming getElem?_cons_succ→DG,getElem?_cons_zero→Ei,mem_cons→AH,replicate→BK,set_cons_succ→Eo,set_cons_zero→En
open _root_.Option renaming getD_some→CU
open _root_.Or renaming inl→AO,inr→AB
set_option maxRecDepth 100000
set_option maxHeartbeats 1600000
set_option linter.unusedSimpArgs false
set_option linter.unusedVariables false
def Mf:Nat→Nat→List Nat→Prop
 |0,_,_=>True
 |k+1,nx,c0::c1::a::b::c::d::e::f::c8::c9::l=>UO nx c0 c1 a b c d e f c8 c9∧Mf k ((c0 - 48)*10+(c1 - 48)+1) l
 |_+1,_,_=>False
theorem ten {l:List Nat}{k:Nat}(a:l.length=10*(k+1)):∃ c0 c1 c d e f g h i j b,l=c0::c1::c::d::e::f::g::h::i::j::b∧b.length=10*k:=by
 match l,a with
 |c0::c1::c::d::e::f::g::h::i::j::b,a=>exact⟨c0,c1,c,d,e,f,g,h,i,j,b,rfl,by simp at a;omega⟩
 |[],a=>simp at a
 |[_],a=>simp at a;omega
 |[_,_],a=>simp at a;omega
 |[_,_,_],a=>simp at a;omega
 |[_,_,_,_],a=>simp at a;omega
 |[_,_,_,_,_],a=>simp at a;omega
 |[_,_,_,_,_,_],a=>simp at a;omega
 |[_,_,_,_,_,_,_],a=>simp at a;omega
 |[_,_,_,_,_,_,_,_],a=>simp at a;omega
 |[_,_,_,_,_,_,_,_,_],a=>simp at a;omega
theorem yI {S:Nat→Gs→Prop}{k:Nat}{b:List Nat}(p:k≤100)(r:b.length=10*k)(s:∀ c∈b,c<256)
 (u:¬ Mf k 0 b→∀ G,G.t≤200000→S 16 G) (v:Mf k 0 b→∀ G,G.t≤200000→S 32 G):
 fG X 4 16 [] (fun _ G=>S 0 G) S ⟨g0,0::0::k::b,[],5⟩:=by
 refine prog.call zz7 rfl ?_
 unfold wF tL;simp;refine U5 ⟨by omega,fun t1 R=>U5 ⟨by omega,fun t2 T=>U5 ⟨by omega,fun m U=>?_⟩⟩⟩;rw [if_pos p];have w:add32 0 (fJ 0 256)=0:=by rw [mul_eq (by omega),add_eq (by omega)]
 rw [w];refine⟨fun e G=>∃ (j:Nat) (ws:List Nat) (nx:Nat) (d:List Nat) (f:Nat),j≤k∧e=[j,0]∧d.length=10*j∧(∀c∈d,c<256)∧(Mf j nx d↔Mf k 0 b)∧f≤m+1100*(k - j)∧G=gs ws 0 0 0 0 0 0 nx d [] f,
  ⟨k,BK 100 0,0,b,m,by omega,rfl,r,s,Iff.rfl,by omega,rfl⟩,fun e _=>e[0]?.getD 0,?_⟩
 rintro e G x ⟨j,ws,nx,d,f,W,rfl,y,z,g,Y,rfl⟩;simp only [DG,Ei,CU,Eo,En];by_cases h:j=0
 ·rw [if_pos h];subst h;have A:Mf k 0 b:=g.1 trivial;refine⟨fun e G=>e=[0,0]∧G=gs ws 0 0 0 0 0 0 nx d [] f,⟨rfl,rfl⟩,fun _ _=>0,?_⟩;rintro e G x ⟨rfl,rfl⟩;simp only [DG,Ei,CU,if_true];unfold gs;exact zz9 (by omega) fun l n=>v A _ (by show l≤_;omega)
 ·rw [if_neg h];obtain⟨i,rfl⟩:∃ i,j=i+1:=⟨j - 1,by omega⟩;obtain⟨c0,c1,Z,h0,h1,h2,h3,h4,h5,h6,B,rfl,C⟩:=ten y;have o:=z;simp only [AH,forall_eq_or_imp]at o;obtain⟨D,m1,E,F,H,I,K,L,M,N,O⟩:=o;refine z00 (by omega) ⟨D,m1,E,F,H,I,K,L,M,N⟩ (fun P G2 Q=>u (fun q=>P ((g.2 q).1)) G2 ?_) (fun hc l n=>?_)
  ·simp only [gs]at Q;omega
  ·rw [sub_eq (by omega) (by omega)];refine⟨⟨i,_,_,B,l,by omega,rfl,C,O,⟨fun q=>g.1 ⟨hc,q⟩,fun q=>(g.2 q).2⟩,?_,rfl⟩,by simp⟩;simp only [gs]at n;omega
theorem zG8 {k:Nat}{a:List Nat}(g:k≤100)(h:a.length=10*k)(i:∀ c∈a,c<256):
 ∃j b c,it j (ms0 img (0::0::k::a))=b∧j≤200000∧b.stop=1∧b.code=c∧((¬Mf k 0 a∧c=16)∨(Mf k 0 a∧c=32)):=by
 obtain⟨j,b,c,G2,h1,m,f,l⟩:=prog.run (n:=4) (S:=fun c G=>G.t≤200000∧((¬Mf k 0 a∧c=16)∨(Mf k 0 a∧c=32))) (inp:=0::0::k::a) (by omega)
  (yI (S:=fun c G=>G.t≤200000∧((¬Mf k 0 a∧c=16)∨(Mf k 0 a∧c=32))) g h i (fun d G e=>⟨e,AO ⟨d,rfl⟩⟩) (fun d G e=>⟨e,AB ⟨d,rfl⟩⟩))
 exact⟨j,b,c,h1,by omega,f.1,f.2.1,l.2⟩
end Pm.Acc

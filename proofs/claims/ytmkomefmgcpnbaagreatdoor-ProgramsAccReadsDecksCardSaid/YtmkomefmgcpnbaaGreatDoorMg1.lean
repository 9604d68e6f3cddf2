set_option linter.all false
set_option maxHeartbeats 12800000
set_option maxRecDepth 100000
namespace Pg
open _root_.Bool renaming and_eq_true→Ah
open _root_.List.cons renaming injEq→Fg
open _root_.Nat renaming beq→Az,ble→A6,blt→Be,eq_of_beq_eq_true→Ap
open _root_.UInt8 renaming toNat_inj→CH
abbrev Bs:=List UInt8
structure Tk where
 kind:Nat
 text:Bs
 num:Nat
 pos:Nat
deriving DecidableEq
def OC (c:UInt8):Bool:=97≤c.toNat&&c.toNat≤122
def K4 (c:UInt8):Bool:=48≤c.toNat&&c.toNat≤57
def LJ:Bs→Bs→Bool
 |[],[]=>true
 |a::l,b::m=>Az a.toNat b.toNat&&LJ l m
 |_,_=>false
theorem Ko:∀ (a b:Bs),LJ a b=true↔a=b
 |[],[]=>by simp [LJ]
 |[],_::_=>by simp [LJ]
 |_::_,[]=>by simp [LJ]
 |a::l,b::m=>by
  simp only [LJ,Ah,Ko l m,Fg];constructor
  ·rintro⟨c,d⟩;exact⟨CH.1 (Ap c),d⟩
  ·rintro⟨c,d⟩;exact⟨by rw [c];exact Nat.beq_refl _,d⟩
def Oc (s:Bs)(l:List Bs):Bool:=l.any (LJ s)
def UD:List Bs:=[[97,114,114,97,121],[98,114,101,97,107],[99,111,110,115,116],[99,111,110,116,105,110,117,101],[101,108,115,101],[102,117,110,99],[103,101,116],[105,102],[112,117,116],[114,101,116,117,114,110],[115,116,111,112],[118,97,114],[119,104,105,108,101]]
def UE (s:Bs):Bool:=Oc s UD
def Ry:List Bs:=[[60,60],[62,62],[61,61],[33,61],[60,61],[62,61],[38,38],[124,124],[43],[45],[42],[47],[37],[38],[124],[94],[126],[33],[60],[62],[61],[40],[41],[91],[93],[123],[125],[44],[59]]
def ops:List Bs:=[[33],[45],[126],[42],[47],[37],[60,60],[62,62],[38],[43],[45],[124],[94],[61,61],[33,61],[60],[60,61],[62],[62,61],[38,38],[124,124]]
def KZ:Bool→Bs→Nat
 |_,[]=>0
 |true,c::a=>if c=10 then KZ false a+1 else KZ true a+1
 |false,c::a=>if c=32∨c=9∨c=10 then KZ false a+1 else if c=35 then KZ true a+1 else 0
def Mx (p:UInt8→Bool):Bs→Nat
 |[]=>0
 |c::a=>if p c then Mx p a+1 else 0
def OW:Bs→Bs→Bool
 |[],_=>true
 |_::_,[]=>false
 |a::l,b::m=>Az a.toNat b.toNat&&OW l m
def tX (l:Bs):Nat:=l.foldl (fun n c=>n*10+(c.toNat - 48)) 0
def Ud (l:Bs):Option Nat:=
 match l with
 |[]=>none
 |[c]=>some (c.toNat - 48)
 |c::_=>if c=48 then none else if tX l<4294967296 then some (tX l)else none
def Vk (rest:Bs)(pos:Nat):Option (Tk×Nat):=
 match rest with
 |[]=>some (⟨0,[],0,pos⟩,0)
 |c::b=>
  if OC c then
   let n:=Mx (fun c=>K4 c||OC c) rest
   let w:=rest.take n
   if UE w||A6 n 12 then some (⟨1,w,0,pos⟩,n)else none
  else if K4 c then
   let n:=Mx K4 rest
   let d:=rest.take n
   match Ud d with
   |some v=>some (⟨2,d,v,pos⟩,n)
   |none=>none
  else if c=39 then
   match b with
   |x::e::_=>if e=39∧32≤x.toNat∧x.toNat≤126∧x≠39∧x≠92 then some (⟨2,rest.take 3,x.toNat,pos⟩,3)else none
   |_=>none
  else match Ry.find? (fun x=>OW x rest)with
   |some x=>some (⟨3,x,0,pos⟩,x.length)
   |none=>none
structure PS where
 tok:Tk
 rest:Bs
 off:Nat
def Kh (p:PS):Option PS:=
 let k:=KZ false p.rest
 let rest:=p.rest.drop k
 match Vk rest (p.off+k)with
 |some (t,n)=>some ⟨t,rest.drop n,p.off+k+n⟩
 |none=>none
inductive Ex where
 |mk (kind op num:Nat) (name:Bs) (args:List Ex)
inductive Sm where
 |mk (kind:Nat) (name:Bs) (exprs:List Ex) (body els:List Sm)
structure KJ where
 kind:Nat
 name:Bs
 num:Nat
 init:List Nat
structure Fn where
 name:Bs
 params:List Bs
 JE:List Bs
 body:List Sm
structure JQ where
 globals:List KJ
 JY:List Fn
def JZ (s:Bs)(p:PS):Bool:=(Az p.tok.kind 3||Az p.tok.kind 1)&&LJ p.tok.text s
def QO (s:Bs)(p:PS):Option (Bool×PS):=
 if JZ s p then match Kh p with
  |some q=>some (true,q)
  |none=>none
 else some (false,p)
def KD (s:Bs)(p:PS):Option PS:=if JZ s p then Kh p else none
def Nn (p:PS):Bool:=Az p.tok.kind 1&& !UE p.tok.text
def M0 (p:PS):Option (Bs×PS):=
 if Nn p then match Kh p with
  |some q=>some (p.tok.text,q)
  |none=>none
 else none
def QP (p:PS):Option (Nat×PS):=
 if Az p.tok.kind 2 then match Kh p with
  |some q=>some (p.tok.num,q)
  |none=>none
 else none
def Rh {α:Type}(elem:PS→Option (α×PS)):Nat→List α→PS→Option (List α×PS)
 |0,_,_=>none
 |n+1,acc,p=>match elem p with
  |none=>none
  |some (x,q)=>match QO [44] q with
   |none=>none
   |some (true,a)=>Rh elem n (acc++[x]) a
   |some (false,a)=>some (acc++[x],a)
def LK (s:Bs):List Bs→Nat→Option Nat
 |[],_=>none
 |x::l,i=>if LJ x s then some i else LK s l (i+1)
def Po (p:PS):Nat:=if Az p.tok.kind 3 then(match LK p.tok.text (ops.drop 3) 4 with|some i=>i|none=>0)else 0
def J5 (op:Nat):Nat:=if op=21 then 1 else if op=20 then 2 else if 14≤op∧op≤19 then 3 else if 10≤op∧op≤13 then 4 else 5
mutual
def M3:Nat→Nat→PS→Option (Ex×PS)
 |0,_,_=>none
 |n+1,least,p=>match XP n p with
  |none=>none
  |some (x,q)=>YT n least x q
def YT:Nat→Nat→Ex→PS→Option (Ex×PS)
 |0,_,_,_=>none
 |n+1,least,x,p=>
  if Az (Po p) 0||Be (J5 (Po p)) least then some (x,p)
  else match Kh p with
   |none=>none
   |some q=>match M3 n (J5 (Po p)+1) q with
    |none=>none
    |some (a,b)=>YT n least (.mk 7 (Po p) 0 [] [x,a]) b
def XP:Nat→PS→Option (Ex×PS)
 |0,_=>none
 |n+1,p=>
  if JZ [33] p then Zt n 1 p
  else if JZ [45] p then Zt n 2 p
  else if JZ [126] p then Zt n 3 p
  else if Az p.tok.kind 2 then match Kh p with
   |none=>none
   |some q=>some (.mk 1 0 p.tok.num [] [],q)
  else if JZ [103,101,116] p then match Kh p with
   |none=>none
   |some q=>some (.mk 5 0 0 [] [],q)
  else if JZ [40] p then match Kh p with
   |none=>none
   |some q=>match M3 n 1 q with
    |none=>none
    |some (x,a)=>match KD [41] a with
     |none=>none
     |some t=>some (x,t)
  else match M0 p with
   |none=>none
   |some (s,q)=>
    if JZ [91] q then match Kh q with
     |none=>none
     |some a=>match M3 n 1 a with
      |none=>none
      |some (x,t)=>match KD [93] t with
       |none=>none
       |some u=>some (.mk 3 0 0 s [x],u)
    else if JZ [40] q then match Kh q with
     |none=>none
     |some a=>match Vl n a with
      |none=>none
      |some (l,t)=>some (.mk 4 0 0 s l,t)
    else some (.mk 2 0 0 s [],q)
def Zt:Nat→Nat→PS→Option (Ex×PS)
 |0,_,_=>none
 |n+1,op,p=>match Kh p with
  |none=>none
  |some q=>match XP n q with
   |none=>none
   |some (x,a)=>some (.mk 6 op 0 [] [x],a)
def Vl:Nat→PS→Option (List Ex×PS)
 |0,_=>none
 |n+1,p=>
  if JZ [41] p then match Kh p with
   |none=>none
   |some q=>some ([],q)
  else match WI n [] p with
   |none=>none
   |some (l,q)=>match KD [41] q with
    |none=>none
    |some a=>some (l,a)
def WI:Nat→List Ex→PS→Option (List Ex×PS)
 |0,_,_=>none
 |n+1,acc,p=>match M3 n 1 p with
  |none=>none
  |some (x,q)=>match QO [44] q with
   |none=>none
   |some (true,a)=>WI n (acc++[x]) a
   |some (false,a)=>some (acc++[x],a)
end
mutual
def Sg:Nat→List Sm→PS→Option (List Sm×PS)
 |0,_,_=>none
 |n+1,acc,p=>
  if JZ [125] p then match Kh p with
   |none=>none
   |some q=>some (acc,q)
  else match dJ n p with
   |none=>none
   |some (x,q)=>Sg n (acc++[x]) q
def Vm:Nat→PS→Option ((Ex×List Sm)×PS)
 |0,_=>none
 |n+1,p=>match KD [40] p with
  |none=>none
  |some q=>match M3 n 1 q with
   |none=>none
   |some (x,a)=>match KD [41] a with
    |none=>none
    |some t=>match KD [123] t with
     |none=>none
     |some u=>match Sg n [] u with
      |none=>none
      |some (b,v)=>some ((x,b),v)
def dJ:Nat→PS→Option (Sm×PS)
 |0,_=>none
 |n+1,p=>
  if Nn p then WJ n p
  else if JZ [105,102] p then match Kh p with
   |none=>none
   |some q=>Zu n q
  else if JZ [119,104,105,108,101] p then match Kh p with
   |none=>none
   |some q=>match Vm n q with
    |none=>none
    |some ((x,b),a)=>some (.mk 4 [] [x] b [],a)
  else if JZ [114,101,116,117,114,110] p then XQ n 6 p
  else if JZ [112,117,116] p then XQ n 7 p
  else if JZ [115,116,111,112] p then XQ n 8 p
  else if JZ [98,114,101,97,107] p then YU 9 p
  else if JZ [99,111,110,116,105,110,117,101] p then YU 10 p
  else none
def XQ:Nat→Nat→PS→Option (Sm×PS)
 |0,_,_=>none
 |n+1,k,p=>match Kh p with
  |none=>none
  |some q=>match M3 n 1 q with
   |none=>none
   |some (x,a)=>match KD [59] a with
    |none=>none
    |some t=>some (.mk k [] [x] [] [],t)
def YU (k:Nat)(p:PS):Option (Sm×PS):=match Kh p with
 |none=>none
 |some q=>match KD [59] q with
  |none=>none
  |some a=>some (.mk k [] [] [] [],a)
def Zu:Nat→PS→Option (Sm×PS)
 |0,_=>none
 |n+1,p=>match Vm n p with
  |none=>none
  |some ((x,b),q)=>
   if JZ [101,108,115,101] q then match Kh q with
    |none=>none
    |some a=>
     if JZ [105,102] a then match Kh a with
      |none=>none
      |some t=>match Zu n t with
       |none=>none
       |some (e,u)=>some (.mk 3 [] [x] b [e],u)
     else match KD [123] a with
      |none=>none
      |some t=>match Sg n [] t with
       |none=>none
       |some (e,u)=>some (.mk 3 [] [x] b e,u)
   else some (.mk 3 [] [x] b [],q)
def WJ:Nat→PS→Option (Sm×PS)
 |0,_=>none
 |n+1,p=>match M0 p with
  |none=>none
  |some (s,q)=>
   if JZ [61] q then match Kh q with
    |none=>none
    |some c=>match M3 n 1 c with
     |none=>none
     |some (x,t)=>match KD [59] t with
      |none=>none
      |some u=>some (.mk 1 s [x] [] [],u)
   else if JZ [91] q then match Kh q with
    |none=>none
    |some c=>match M3 n 1 c with
     |none=>none
     |some (i,t)=>match KD [93] t with
      |none=>none
      |some u=>match KD [61] u with
       |none=>none
       |some v=>match M3 n 1 v with
        |none=>none
        |some (x,a)=>match KD [59] a with
         |none=>none
         |some b=>some (.mk 2 s [i,x] [] [],b)
   else match KD [40] q with
    |none=>none
    |some c=>match Vl n c with
     |none=>none
     |some (l,t)=>match KD [59] t with
      |none=>none
      |some u=>some (.mk 5 s l [] [],u)
end
def XR (n:Nat)(p:PS):Option (KJ×PS):=
 if JZ [99,111,110,115,116] p then match Kh p with
  |none=>none
  |some q=>match M0 q with
   |none=>none
   |some (s,d)=>match KD [61] d with
    |none=>none
    |some t=>match QP t with
     |none=>none
     |some (k,u)=>match KD [59] u with
      |none=>none
      |some v=>some (⟨1,s,k,[]⟩,v)
 else if JZ [118,97,114] p then match Kh p with
  |none=>none
  |some q=>match M0 q with
   |none=>none
   |some (s,d)=>match KD [59] d with
    |none=>none
    |some v=>some (⟨2,s,0,[]⟩,v)
 else match KD [97,114,114,97,121] p with
  |none=>none
  |some q=>match M0 q with
   |none=>none
   |some (s,d)=>match KD [91] d with
    |none=>none
    |some t=>match QP t with
     |none=>none
     |some (k,u)=>match KD [93] u with
      |none=>none
      |some v=>
       if JZ [61] v then match Kh v with
        |none=>none
        |some a=>match Rh QP n [] a with
         |none=>none
         |some (l,b)=>match KD [59] b with
          |none=>none
          |some c=>some (⟨3,s,k,l⟩,c)
       else match KD [59] v with
        |none=>none
        |some c=>some (⟨3,s,k,[]⟩,c)
def fP (n:Nat)(p:PS):Option (List Bs×PS):=if JZ [41] p then some ([],p)else Rh M0 n [] p
def XU (n:Nat)(p:PS):Option (List Bs×PS):=
 if JZ [118,97,114] p then match Kh p with
  |none=>none
  |some q=>match Rh M0 n [] q with
   |none=>none
   |some (l,a)=>match KD [59] a with
    |none=>none
    |some t=>some (l,t)
 else some ([],p)
def jM (n:Nat)(p:PS):Option (Fn×PS):=
 match M0 p with
 |none=>none
 |some (s,q)=>match KD [40] q with
  |none=>none
  |some d=>match fP n d with
   |none=>none
   |some (e,t)=>match KD [41] t with
    |none=>none
    |some u=>match KD [123] u with
     |none=>none
     |some v=>match XU n v with
      |none=>none
      |some (f,a)=>match Sg n [] a with
       |none=>none
       |some (b,c)=>some (⟨s,e,f,b⟩,c)
def UR:Nat→List KJ→List Fn→PS→Option JQ
 |0,_,_,_=>none
 |n+1,gs,a,p=>
  if Az p.tok.kind 0 then some ⟨gs,a⟩
  else if JZ [102,117,110,99] p then match Kh p with
   |none=>none
   |some q=>match jM n q with
    |none=>none
    |some (f,b)=>UR n gs (a++[f]) b
  else match XR n p with
   |none=>none
   |some (g,b)=>UR n (gs++[g]) a b
def WK (n:Nat)(text:Bs):Option JQ:=match Kh ⟨⟨0,[],0,0⟩,text,0⟩with
 |none=>none
 |some p=>UR n [] [] p
end Pg
namespace Pg
open _root_.List renaming replicate→BK
open _root_.Nat renaming beq→Az,ble→A6,blt→Be
open _root_.UInt8 renaming ofNat→I9
def Ue:Nat→Nat→Bs→Bs
 |0,_,acc=>acc
 |f+1,n,acc=>if Be n 10 then I9 (48+n %10)::acc else Ue f (n /10) (I9 (48+n %10)::acc)
def KN (n:Nat):Bs:=Ue 20 n []
def Ex.kind:Ex→Nat|.mk k _ _ _ _=>k
def Ex.op:Ex→Nat|.mk _ o _ _ _=>o
def Ex.num:Ex→Nat|.mk _ _ n _ _=>n
def Ex.name:Ex→Bs|.mk _ _ _ s _=>s
def Ex.args:Ex→List Ex|.mk _ _ _ _ l=>l
def Sm.kind:Sm→Nat|.mk k _ _ _ _=>k
def Sm.name:Sm→Bs|.mk _ s _ _ _=>s
def yn4:Sm→List Ex|.mk _ _ l _ _=>l
def Sm.body:Sm→List Sm|.mk _ _ _ b _=>b
def xA5:Sm→List Sm|.mk _ _ _ _ e=>e
def Si (s:Bs):Bool:=match s with
 |[]=>false
 |c::_=>OC c&&s.all fun c=>K4 c||OC c
def Mt (s:Bs):Bool:=Si s&&A6 s.length 12&& !UE s
def MM (op:Nat):Bs:=ops[op - 1]?.getD []
def Jy:List Bs→Bs
 |[]=>[]
 |[x]=>x
 |x::l=>x++44::32::Jy l
def P5 (x:Ex)(t:Bs)(a:Bool):Bs:=if Az x.kind 7&&a then 40::(t++[41])else t
mutual
def Kt:Ex→Bs
 |.mk k op num name args=>
  if k=1 then KN num
  else if k=2 then name
  else if k=3 then name++91::((NC args)[0]?.getD []++[93])
  else if k=4 then name++40::(Jy (NC args)++[41])
  else if k=5 then [103,101,116]
  else if k=6 then MM op++(match args[0]? with|some a=>P5 a ((NC args)[0]?.getD []) true|none=>[])
  else match args[0]?,args[1]? with
   |some a,some b=>P5 a ((NC args)[0]?.getD []) (Be (J5 a.op) (J5 op))++32::(MM op++32::P5 b ((NC args)[1]?.getD []) (A6 (J5 b.op) (J5 op)))
   |_,_=>[]
def NC:List Ex→List Bs
 |[]=>[]
 |x::l=>Kt x::NC l
end
def Ky (n:Nat):Bs:=BK (2*n) 32
def OO (l:List Ex)(i:Nat):Bs:=(l[i]?.map Kt).getD []
mutual
def Mv:Sm→Nat→Bs
 |.mk k name a body els,lv=>
  if k=1 then name++32::61::32::(OO a 0++[59])
  else if k=2 then name++91::(OO a 0++93::32::61::32::(OO a 1++[59]))
  else if k=3 then([105,102,32,40]:Bs)++(OO a 0++(([41,32,123,10]:Bs)++(KR body (lv+1)++(Ky lv++(([125]:Bs)++
   (match els with
    |[]=>([]:Bs)
    |x::l=>if Az x.kind 3&&l.isEmpty then([32,101,108,115,101,32]:Bs)++jN els lv else([32,101,108,115,101,32,123,10]:Bs)++(KR els (lv+1)++(Ky lv++[125]))))))))
  else if k=4 then 119::104::105::108::101::32::40::(OO a 0++41::32::123::10::(KR body (lv+1)++(Ky lv++[125])))
  else if k=5 then name++40::(Jy (a.map Kt)++[41,59])
  else if k=6 then 114::101::116::117::114::110::32::(OO a 0++[59])
  else if k=7 then 112::117::116::32::(OO a 0++[59])
  else if k=8 then 115::116::111::112::32::(OO a 0++[59])
  else if k=9 then [98,114,101,97,107,59]
  else if k=10 then [99,111,110,116,105,110,117,101,59]
  else []
def KR:List Sm→Nat→Bs
 |[],_=>[]
 |x::l,lv=>Ky lv++(Mv x lv++10::KR l lv)
def jN:List Sm→Nat→Bs
 |[],_=>[]
 |x::_,lv=>Mv x lv
end
def J9 (lv:Nat)(s:Bs):Bs:=Ky lv++(s++[10])
def OD (g:KJ):Bs:=
 if g.kind=1 then J9 0 (99::111::110::115::116::32::(g.name++32::61::32::(KN g.num++[59])))
 else if g.kind=2 then J9 0 (118::97::114::32::(g.name++[59]))
 else if g.init.isEmpty then J9 0 (97::114::114::97::121::32::(g.name++91::(KN g.num++[93,59])))
 else J9 0 (97::114::114::97::121::32::(g.name++91::(KN g.num++93::32::61::32::(Jy (g.init.map KN)++[59]))))
def Ox (f:Fn):Bs:=
 J9 0 (102::117::110::99::32::(f.name++40::(Jy f.params++[41,32,123])))++
 ((if f.JE.isEmpty then []else J9 1 (118::97::114::32::(Jy f.JE++[59])))++(KR f.body 1++J9 0 [125]))
def QH (p:JQ):Bs:=p.globals.flatMap OD++p.JY.flatMap Ox
def Sj (k op num:Nat)(name:Bs)(n:Nat):Bool:=
 A6 1 k&&A6 k 7&&
 (if k=6 then A6 1 op&&A6 op 3 else if k=7 then A6 4 op&&A6 op 21 else Az op 0)&&
 (if k=2∨k=3∨k=4 then Mt name else name.isEmpty)&&
 (if k=1 then true else Az num 0)&&
 (if k=3∨k=6 then Az n 1 else if k=7 then Az n 2 else if k=4 then A6 n 6 else Az n 0)
mutual
def P6:Ex→Nat→Nat→Option Nat
 |.mk k op num name args,lv,n=>if A6 lv 16&&A6 (n+1) 2000&&Sj k op num name args.length then L9 args (lv+1) (n+1)else none
def L9:List Ex→Nat→Nat→Option Nat
 |[],_,n=>some n
 |x::l,lv,n=>match P6 x lv n with
  |none=>none
  |some m=>L9 l lv m
end
def Sk (k:Nat)(name:Bs)(a nb b:Nat):Bool:=
 A6 1 k&&A6 k 10&&
 (if k=1∨k=2∨k=5 then Mt name else name.isEmpty)&&
 (if k=3∨k=4 then true else Az nb 0)&&(if k=3 then true else Az b 0)&&
 (if k=2 then Az a 2 else if k=5 then A6 a 6 else if k=9∨k=10 then Az a 0 else Az a 1)
mutual
def Qy:Sm→Nat→Nat→Option Nat
 |.mk k name a body els,lv,n=>if A6 lv 16&&A6 (n+1) 2000&&Sk k name a.length body.length els.length then
  match L9 a 1 (n+1)with
  |none=>none
  |some m=>match K5 body (lv+1) m with
   |none=>none
   |some q=>K5 els (lv+1) q
  else none
def K5:List Sm→Nat→Nat→Option Nat
 |[],_,n=>some n
 |x::l,lv,n=>match Qy x lv n with
  |none=>none
  |some m=>K5 l lv m
end
def VB (g:KJ):Bool:=
 A6 1 g.kind&&A6 g.kind 3&&Mt g.name&&(Az g.kind 3||g.init.isEmpty)&&(!(Az g.kind 2)||Az g.num 0)&&
 (!(Az g.kind 3)||(A6 1 g.num&&A6 g.num 40000&&A6 g.init.length g.num))
def Rz (f:Fn):Bool:=Mt f.name&&A6 f.params.length 6&&A6 f.JE.length 12&&(f.params++f.JE).all Mt
def QA:List Fn→Nat→Option Nat
 |[],n=>some n
 |f::l,n=>if Rz f then match K5 f.body 1 n with
  |none=>none
  |some m=>QA l m
  else none
def jO (p:JQ):Bool:=
 A6 p.globals.length 64&&A6 p.JY.length 64&&p.globals.all VB&&A6 (p.globals.foldl (fun n g=>n+g.init.length) 0) 1000&&
 (QA p.JY 0).isSome&&A6 (QH p).length 12000
inductive yU5 where
 |par|loc|glo (i:Nat)|yM9 (i:Nat)
def MG (s:Bs)(l:List Bs):Option Nat:=LK s l 0
def JR (s:Bs)(l:List Bs):Option Nat:=(LK s l.reverse 0).map fun i=>l.length - 1 - i
def Vn (p:JQ)(f:Fn)(s:Bs):Option yU5:=
 match MG s f.params with
 |some _=>some .par
 |none=>match MG s f.JE with
  |some _=>some .loc
  |none=>match JR s (p.JY.map Fn.name)with
   |some i=>some (.yM9 i)
   |none=>(JR s (p.globals.map KJ.name)).map .glo
def Ma (p:JQ)(f:Fn)(s:Bs)(u n:Nat):Bool:=
 match Vn p f s with
 |none=>false
 |some .par=>Az u 1||Az u 2
 |some .loc=>Az u 1||Az u 2
 |some (.yM9 i)=>Az u 4&&(match p.JY[i]? with|some g=>Az g.params.length n|none=>false)
 |some (.glo i)=>match p.globals[i]? with
  |none=>false
  |some g=>if g.kind=1 then Az u 2 else if g.kind=2 then Az u 1||Az u 2 else Az u 3
def Ri (p:JQ)(f:Fn)(k:Nat)(name:Bs)(n:Nat):Bool:=
 if k=2 then Ma p f name 2 0 else if k=3 then Ma p f name 3 0 else if k=4 then Ma p f name 4 n else true
mutual
def Zv (p:JQ)(f:Fn):Ex→Bool
 |.mk k _ _ name args=>Ri p f k name args.length&&Qf p f args
def Qf (p:JQ)(f:Fn):List Ex→Bool
 |[]=>true
 |x::l=>Zv p f x&&Qf p f l
end
def PQ (p:JQ)(f:Fn)(k:Nat)(name:Bs)(n loops:Nat):Bool:=
 if k=1 then Ma p f name 1 0 else if k=2 then Ma p f name 3 0 else if k=5 then Ma p f name 4 n
 else if k=9∨k=10 then !(Az loops 0)else true
mutual
def Zw (p:JQ)(f:Fn):Sm→Nat→Bool
 |.mk k name a body els,lp=>PQ p f k name a.length lp&&Qf p f a&&ND p f body (if k=4 then lp+1 else lp)&&ND p f els (if k=4 then lp+1 else lp)
def ND (p:JQ)(f:Fn):List Sm→Nat→Bool
 |[],_=>true
 |x::l,lp=>Zw p f x lp&&ND p f l lp
end
def M4:List Bs→Bool
 |[]=>true
 |x::l=> !Oc x l&&M4 l
def dK (p:JQ):Bool:=match JR [109,97,105,110] (p.JY.map Fn.name)with
 |none=>false
 |some i=>match p.JY[i]? with
  |none=>false
  |some f=>f.params.isEmpty
def OJ (p:JQ):Bool:=M4 (p.globals.map KJ.name++p.JY.map Fn.name)&&p.JY.all (fun f=>M4 (f.params++f.JE))&&dK p
def WM (p:JQ):Bool:=jO p&&OJ p&&p.JY.all fun f=>ND p f f.body 0
end Pg
namespace Pg
open _root_.List renaming replicate→BK
open _root_.Nat renaming ble→A6,blt→Be
open _root_.Prod renaming fst→Ee
def JD:List Bs→Bs
 |[]=>[10]
 |x::l=>32::(x++JD l)
def JS (name:Bs)(n:Nat):Bs:=JD [name,KN n]
def JU (l:Bs):Bs:=l++[58,10]
def JL (n:Nat):Bs:=108::KN n
def Lf (i:Nat):Bs:=103::KN i
def Mc (i:Nat):Bs:=102::KN i
def Kz:Bs:=[110,117,109]
def WN:Bs:=[108,111,99,97,108]
def YV:Bs:=[108,111,97,100]
def Nh:Bs:=[98,111,117,110,100]
def RP:Bs:=[102,101,116,99,104]
def KL:Bs:=[112,117,115,104]
def OX:Bs:=[99,97,108,108]
def Rj:Bs:=[100,114,111,112]
def Vo:Bs:=[103,101,116]
def Ka:Bs:=[122,101,114,111]
def Qz:Bs:=[115,117,98]
def Kb:Bs:=[106,122,101,114,111]
def MN:Bs:=[106,117,109,112]
def QQ:Bs:=[97,115,115,105,103,110]
def RQ:Bs:=[115,116,111,114,101]
def RU:Bs:=[112,117,116,97,116]
def Od:Bs:=[114,101,116]
def Uf:Bs:=[112,117,116]
def PR:Bs:=[115,116,111,112]
def Ug:Bs:=[115,116,97,99,107]
def Q0:Bs:=[101,110,100]
def Md:Bs:=[119,111,114,100]
def MO:Bs:=[115,112,97,99,101]
def Lt (op:Nat):List Bs:=
 if op=4 then [[109,117,108]]else if op=5 then [[100,105,118]]else if op=6 then [[109,111,100]]else if op=7 then [[108,101,102,116]]
 else if op=8 then [[114,105,103,104,116]]else if op=9 then [[97,110,100]]else if op=10 then [[97,100,100]]else if op=11 then [Qz]
 else if op=12 then [[111,114]]else if op=13 then [[120,111,114]]else if op=14 then [[101,113]]else if op=15 then [[101,113],Ka]
 else if op=16 then [[108,101,115,115]]else if op=17 then [[109,111,114,101],Ka]else if op=18 then [[109,111,114,101]]else if op=19 then [[108,101,115,115],Ka]else []
structure Ke where
 pr:JQ
 params:List Bs
 JE:List Bs
def Ke.size (c:Ke):Nat:=c.params.length+1+c.JE.length
def Ke.slot (c:Ke)(s:Bs):Option Nat:=match MG s c.params with
 |some k=>some k
 |none=>(MG s c.JE).map fun k=>c.params.length+1+k
def Ke.QR (c:Ke)(s:Bs):Nat:=(JR s (c.pr.globals.map KJ.name)).getD 0
def Ke.func (c:Ke)(s:Bs):Nat:=(JR s (c.pr.JY.map Fn.name)).getD 0
def Ke.gl (c:Ke)(s:Bs):KJ:=c.pr.globals[c.QR s]?.getD ⟨0,[],0,[]⟩
def MQ (c:Ke)(s:Bs)(w:Nat):Bs:=match c.slot s with
 |some k=>JS WN (c.size+w - k)
 |none=>if(c.gl s).kind=1 then JS Kz (c.gl s).num else JD [YV,Lf (c.QR s)]
mutual
def JW (c:Ke):Ex→Nat→Nat→Bs×Nat
 |.mk k op num name args,w,lb=>
  if k=1 then(JS Kz num,lb)
  else if k=2 then(MQ c name w,lb)
  else if k=3 then
   let a:=LM c args w lb
   (a.1++(JS Nh (c.gl name).num++JD [RP,Lf (c.QR name)]),a.2)
  else if k=4 then
   let a:=Lb c args w lb
   (a.1++(JD [OX,Mc (c.func name)]++(if args.isEmpty then []else JS Rj args.length)),a.2)
  else if k=5 then(JD [Vo],lb)
  else if k=6 then
   if op=1 then let a:=LM c args w lb;(a.1++JD [Ka],a.2)
   else let a:=LM c args (w+1) lb;(JS Kz (if op=3 then 4294967295 else 0)++(JD [KL]++(a.1++JD [Qz])),a.2)
  else if op=20 then
   let a:=LM c args w lb
   let b:=RL c args w (a.2+1)
   (a.1++(JD [Kb,JL (a.2+1)]++(b.1++(JD [Ka]++(JD [Ka]++JU (JL (a.2+1)))))),b.2)
  else if op=21 then
   let a:=LM c args w lb
   let b:=RL c args w (a.2+1)
   (a.1++(JD [Ka]++(JD [Kb,JL (a.2+1)]++(b.1++(JD [Ka]++(JU (JL (a.2+1))++JD [Ka]))))),b.2)
  else
   let a:=LM c args w lb
   let b:=RL c args (w+1) a.2
   (a.1++(JD [KL]++(b.1++(Lt op).flatMap fun s=>JD [s])),b.2)
def LM (c:Ke):List Ex→Nat→Nat→Bs×Nat
 |[],_,lb=>([],lb)
 |x::_,w,lb=>JW c x w lb
def RL (c:Ke):List Ex→Nat→Nat→Bs×Nat
 |[],_,lb=>([],lb)
 |_::l,w,lb=>LM c l w lb
def Lb (c:Ke):List Ex→Nat→Nat→Bs×Nat
 |[],_,lb=>([],lb)
 |x::l,w,lb=>
  let a:=JW c x w lb
  let b:=Lb c l (w+1) a.2
  (a.1++(JD [KL]++b.1),b.2)
end
mutual
def Li (c:Ke):Sm→Bs×Bs→Nat→Bs×Nat
 |.mk k name e body els,lp,lb=>
  if k=1 then
   let a:=LM c e 0 lb
   (a.1++(match c.slot name with|some i=>JS QQ (c.size - i)|none=>JD [RQ,Lf (c.QR name)]),a.2)
  else if k=2 then
   let a:=LM c e 0 lb
   let b:=RL c e 1 a.2
   (a.1++(JS Nh (c.gl name).num++(JD [KL]++(b.1++JD [RU,Lf (c.QR name)]))),b.2)
  else if k=3 then
   let a:=LM c e 0 (lb+1)
   let b:=KY c body lp a.2
   if els.isEmpty then(a.1++(JD [Kb,JL (lb+1)]++(b.1++JU (JL (lb+1)))),b.2)
   else
    let d:=KY c els lp (b.2+1)
    (a.1++(JD [Kb,JL (lb+1)]++(b.1++(JD [MN,JL (b.2+1)]++(JU (JL (lb+1))++(d.1++JU (JL (b.2+1))))))),d.2)
  else if k=4 then
   let a:=LM c e 0 (lb+2)
   let b:=KY c body (JL (lb+1),JL (lb+2)) a.2
   (JU (JL (lb+1))++(a.1++(JD [Kb,JL (lb+2)]++(b.1++(JD [MN,JL (lb+1)]++JU (JL (lb+2)))))),b.2)
  else if k=5 then
   let a:=Lb c e 0 lb
   (a.1++(JD [OX,Mc (c.func name)]++(if e.isEmpty then []else JS Rj e.length)),a.2)
  else if k=6 then let a:=LM c e 0 lb;(a.1++JS Od (c.JE.length+1),a.2)
  else if k=7 then let a:=LM c e 0 lb;(a.1++JD [Uf],a.2)
  else if k=8 then let a:=LM c e 0 lb;(a.1++JD [PR],a.2)
  else if k=9 then(JD [MN,lp.2],lb)
  else(JD [MN,lp.1],lb)
def KY (c:Ke):List Sm→Bs×Bs→Nat→Bs×Nat
 |[],_,lb=>([],lb)
 |x::l,lp,lb=>
  let a:=Li c x lp lb
  let b:=KY c l lp a.2
  (a.1++b.1,b.2)
end
def Oy (p:JQ)(i:Nat)(f:Fn)(lb:Nat):Bs×Nat:=
 let b:=KY ⟨p,f.params,f.JE⟩ f.body ([],[]) lb
 (JU (Mc i)++((if f.JE.isEmpty then []else JS Kz 0)++(f.JE.flatMap (fun _=>JD [KL])++(b.1++(JS Kz 0++JS Od (f.JE.length+1))))),b.2)
def Q3 (p:JQ):Nat→List Fn→Nat→Bs
 |_,[],_=>[]
 |i,f::l,lb=>let a:=Oy p i f lb;a.1++Q3 p (i+1) l a.2
def Me:Nat→List KJ→Bs
 |_,[]=>[]
 |i,g::l=>(if g.kind=1 then []else JU (Lf i)++(g.init.flatMap (JS Md)++JS MO (max g.num 1 - g.init.length)))++Me (i+1) l
def OY (p:JQ):Bs:=
 JD [Ug,Q0]++(JD [OX,Mc ((JR [109,97,105,110] (p.JY.map Fn.name)).getD 0)]++(JS Kz 0++(JD [PR]++(Q3 p 0 p.JY 0++(Me 0 p.globals++JU Q0)))))
mutual
def LY:Ex→Nat
 |.mk _ _ _ _ args=>1+Jz args
def Jz:List Ex→Nat
 |[]=>0
 |x::l=>LY x+Jz l
end
mutual
def OE:Sm→Nat
 |.mk _ _ a body els=>1+(Jz a+(Jv body+Jv els))
def Jv:List Sm→Nat
 |[]=>0
 |x::l=>OE x+Jv l
end
def QB (p:JQ):Nat:=100+((p.globals.map fun g=>if g.kind=2 then 1 else if g.kind=3 then g.num else 0).sum+(p.JY.map fun f=>60+30*Jv f.body).sum)
def Kg:Bs→Bs→List Bs
 |acc,[]=>[acc.reverse]
 |acc,c::b=>if c=10 then acc.reverse::Kg [] b else Kg (c::acc) b
def K8:Bs→Bs→List Bs
 |acc,[]=>if acc.isEmpty then []else [acc.reverse]
 |acc,c::a=>if c=32 then(if acc.isEmpty then K8 [] a else acc.reverse::K8 [] a)else K8 (c::acc) a
def Mk (s:Bs):Bool:=Si s&&A6 s.length 6
inductive WO where
 |none_|lab (s:Bs)|yX (s:Bs)|opN (s:Bs) (n:Nat)|opL (s l:Bs)
def Pp (s:Bs):Option WO:=match K8 [] s with
 |[]=>some .none_
 |[a]=>if(a.getLast?.getD 0)=58 then(if Mk a.dropLast then some (.lab a.dropLast)else none)else if Mk a then some (.yX a)else none
 |[a,b]=>if Mk a then(if Mk b then some (.opL a b)else match Ud b with
  |some n=>if b.all K4 then some (.opN a n)else none
  |none=>none)else none
 |_=>none
def Qg:List (Bs×Bool):=[(PR,false),(Kz,true),(YV,true),(RQ,true),(WN,true),(QQ,true),(RP,true),(RU,true),(KL,false),(Rj,true),([97,100,100],false),(Qz,false),([109,117,108],false),([100,105,118],false),([109,111,100],false),([97,110,100],false),([111,114],false),([120,111,114],false),([108,101,102,116],false),([114,105,103,104,116],false),([101,113],false),([108,101,115,115],false),([109,111,114,101],false),(Ka,false),(Nh,true),(MN,true),(Kb,true),(OX,true),(Od,true),(Vo,false),(Uf,false),(Ug,true)]
def Oq (s:Bs):List (Bs×Bool)→Nat→Option (Nat×Bool)
 |[],_=>none
 |x::l,i=>if LJ x.1 s then some (i,x.2)else Oq s l (i+1)
structure Sq where
 items:List (Nat×Option Bs)
 n:Nat
 J2:List (Bs×Nat)
def QS (a:Sq)(l:WO):Option Sq:=match l with
 |.none_=>some a
 |.lab s=>if Oc s (a.J2.map Ee)then none else some {a with J2:=(s,a.n)::a.J2}
 |.yX s=>match Oq s Qg 1 with
  |some (c,false)=>if A6 (a.n+1) 65536 then some {a with items:=(c,none)::a.items,n:=a.n+1}else none
  |_=>none
 |.opN s k=>
  if LJ s MO then(if A6 (a.n+k) 65536 then some {a with items:=BK k (0,none)++a.items,n:=a.n+k}else none)
  else if LJ s Md then(if A6 (a.n+1) 65536 then some {a with items:=(k,none)::a.items,n:=a.n+1}else none)
  else match Oq s Qg 1 with
   |some (c,true)=>if A6 (a.n+2) 65536 then some {a with items:=(k,none)::(c,none)::a.items,n:=a.n+2}else none
   |_=>none
 |.opL s t=>match Oq s Qg 1 with
  |some (c,true)=>if A6 (a.n+2) 65536 then some {a with items:=(0,some t)::(c,none)::a.items,n:=a.n+2}else none
  |_=>none
def Rk:Sq→List Bs→Option Sq
 |a,[]=>some a
 |a,s::c=>match Pp s with
  |none=>none
  |some l=>match QS a l with
   |none=>none
   |some b=>Rk b c
def Ml (s:Bs):List (Bs×Nat)→Option Nat
 |[]=>none
 |x::l=>if LJ x.1 s then some x.2 else Ml s l
def Oz (a:List (Bs×Nat)):List (Nat×Option Bs)→List Nat→Option (List Nat)
 |[],acc=>some acc
 |(n,none)::b,acc=>Oz a b (n::acc)
 |(n,some s)::b,acc=>match Ml s a with
  |none=>none
  |some k=>Oz a b ((n+k) %4294967296::acc)
def Vp (text:Bs):Option (List Nat):=if A6 text.length 400000&&text.all (fun c=>Be c.toNat 128)then match Rk ⟨[],0,[]⟩ (Kg [] text)with
 |none=>none
 |some a=>Oz a.J2 a.items []
 else none
end Pg
namespace Pg
open _root_.Nat renaming blt→Be
mutual
def Wh:Ex→Bool
 |.mk _ _ num _ args=>Be num 4294967296&&Q8 args
def Q8:List Ex→Bool
 |[]=>true
 |x::l=>Wh x&&Q8 l
end
mutual
def Yd:Sm→Bool
 |.mk _ _ a body els=>Q8 a&&O7 body&&O7 els
def O7:List Sm→Bool
 |[]=>true
 |x::l=>Yd x&&O7 l
end
def jG (p:JQ):Bool:=p.globals.all (fun g=>Be g.num 4294967296&&g.init.all fun n=>Be n 4294967296)&&p.JY.all fun f=>O7 f.body
end Pg
namespace Pg
def c0:List Ex→Nat
 |[]=>0
 |x::_=>LY x
def c1:List Ex→Nat
 |[]=>0
 |_::l=>c0 l
theorem zK5 (l:List Ex):c0 l+c1 l≤Jz l:=by
 match l with
 |[]=>simp [c0,c1,Jz]
 |[x]=>simp [c0,c1,Jz]
 |x::a::l=>simp only [c0,c1,Jz];omega
mutual
theorem RY (c:Ke):∀ (x:Ex)(w lb:Nat),lb≤(JW c x w lb).2∧(JW c x w lb).2≤lb+LY x
 |.mk k op num name args,w,lb=>by
  have d:=fun w lb=>Ze c args w lb
  have h1:=fun w lb=>kS c args w lb
  have e:=Ve c args w lb;have hc:=zK5 args;rw [JW,LY];dsimp only;split
  ·simp only;omega
  ·split
   ·simp only;omega
   ·split
    ·have:=d w lb;simp only;omega
    ·split
     ·simp only;omega
     ·split
      ·simp only;omega
      ·split
       ·split
        ·have:=d w lb;simp only;omega
        ·have:=d (w+1) lb;simp only;omega
       ·split
        ·have a:=d w lb;have b:=h1 w ((LM c args w lb).2+1);simp only;omega
        ·split
         ·have a:=d w lb;have b:=h1 w ((LM c args w lb).2+1);simp only;omega
         ·have a:=d w lb;have b:=h1 (w+1) (LM c args w lb).2;simp only;omega
theorem Ze (a:Ke):∀ (l:List Ex)(w lb:Nat),lb≤(LM a l w lb).2∧(LM a l w lb).2≤lb+c0 l
 |[],w,lb=>by rw [LM];simp [c0]
 |x::l,w,lb=>by rw [LM];exact RY a x w lb
theorem kS (a:Ke):∀ (l:List Ex)(w lb:Nat),lb≤(RL a l w lb).2∧(RL a l w lb).2≤lb+c1 l
 |[],w,lb=>by rw [RL];simp [c1]
 |x::l,w,lb=>by rw [RL];exact Ze a l w lb
theorem Ve (c:Ke):∀ (l:List Ex)(w lb:Nat),lb≤(Lb c l w lb).2∧(Lb c l w lb).2≤lb+Jz l
 |[],w,lb=>by rw [Lb];simp [Jz]
 |x::l,w,lb=>by
  have a:=RY c x w lb;have b:=Ve c l (w+1) (JW c x w lb).2;rw [Lb,Jz];simp only;omega
end
mutual
theorem kT (c:Ke):∀ (x:Sm)(lp:Bs×Bs)(lb:Nat),lb≤(Li c x lp lb).2∧(Li c x lp lb).2≤lb+2*OE x
 |.mk k name e body els,lp,lb=>by
  have f:=fun w lb=>Ze c e w lb
  have h1:=fun w lb=>kS c e w lb
  have h:=fun w lb=>Ve c e w lb
  have g:=fun lp lb=>Tj c body lp lb
  have i:=fun lp lb=>Tj c els lp lb
  have hc:=zK5 e;rw [Li,OE];dsimp only;split
  ·have:=f 0 lb;simp only;omega
  ·split
   ·have a:=f 0 lb;have b:=h1 1 (LM c e 0 lb).2;simp only;omega
   ·split
    ·have a:=f 0 (lb+1);have b:=g lp (LM c e 0 (lb+1)).2;split
     ·simp only;omega
     ·have d:=i lp ((KY c body lp (LM c e 0 (lb+1)).2).2+1);simp only;omega
    ·split
     ·have a:=f 0 (lb+2);have b:=g (JL (lb+1),JL (lb+2)) (LM c e 0 (lb+2)).2;simp only;omega
     ·split
      ·have:=h 0 lb;simp only;omega
      ·split
       ·have:=f 0 lb;simp only;omega
       ·split
        ·have:=f 0 lb;simp only;omega
        ·split
         ·have:=f 0 lb;simp only;omega
         ·split<;>(simp only;omega)
theorem Tj (c:Ke):∀ (l:List Sm)(lp:Bs×Bs)(lb:Nat),lb≤(KY c l lp lb).2∧(KY c l lp lb).2≤lb+2*Jv l
 |[],lp,lb=>by rw [KY];simp [Jv]
 |x::l,lp,lb=>by
  have a:=kT c x lp lb;have b:=Tj c l lp (Li c x lp lb).2;rw [KY,Jv];simp only;omega
end
end Pg
namespace Pm
open _root_.Nat renaming le_refl→Aw
structure MS where
 mem:Nat→Nat
 pc:Nat
 a:Nat
 c:Nat
 d:Nat
 inp:List Nat
 out:List Nat
 stop:Nat
 code:Nat
def upd (m:Nat→Nat)(i v:Nat):Nat→Nat:=fun j=>if j=i then v else m j
def O9 (k x b:Nat):Nat:=
 if k=11 then(x+b) %4294967296 else if k=12 then(x+4294967296 - b) %4294967296 else if k=13 then x*b %4294967296 else if k=14 then x /b else if k=15 then x %b
 else if k=16 then Nat.land x b else if k=17 then Nat.lor x b else if k=18 then Nat.xor x b
 else if k=19 then(if b<32 then x*2 ^b %4294967296 else 0)else if k=20 then(if b<32 then x /2 ^b else 0)
 else if k=21 then(if x=b then 1 else 0)else if k=22 then(if x<b then 1 else 0)else(if b<x then 1 else 0)
def bad (m:MS):MS:={m with stop:=3}
def PL (k:Nat)(m:MS):MS:=
 if k=1 then {m with stop:=1,code:=m.a}
 else if k=9 then(if m.c<65536 then {m with mem:=upd m.mem m.c m.a,c:=(m.c+1) %4294967296}else bad m)
 else if k=24 then {m with a:=if m.a=0 then 1 else 0}
 else if k=30 then(match m.inp with|[]=>{m with a:=4294967296 - 1}|x::l=>{m with a:=x,inp:=l})
 else if k=31 then(if 20000≤m.out.length then {m with stop:=5}else {m with out:=m.out++[m.a %256]})
 else
  let c:=(m.c+4294967296 - 1) %4294967296
  if c<65536 then
   (if(k=14∨k=15)∧m.a=0 then {m with c:=c,stop:=1,code:=2}else {m with c:=c,a:=O9 k (m.mem c) m.a})
  else {m with c:=c,stop:=3}
def Lu (k n:Nat)(m:MS):MS:=
 if k=2 then {m with a:=n}
 else if k=3 then(if n<65536 then {m with a:=m.mem n}else bad m)
 else if k=4 then(if n<65536 then {m with mem:=upd m.mem n m.a}else bad m)
 else if k=5 then(if(m.c+4294967296 - n) %4294967296<65536 then {m with a:=m.mem ((m.c+4294967296 - n) %4294967296)}else bad m)
 else if k=6 then(if(m.c+4294967296 - n) %4294967296<65536 then {m with mem:=upd m.mem ((m.c+4294967296 - n) %4294967296) m.a}else bad m)
 else if k=7 then(if(m.a+n) %4294967296<65536 then {m with a:=m.mem ((m.a+n) %4294967296)}else bad m)
 else if k=8 then
  let c:=(m.c+4294967296 - 1) %4294967296
  if c<65536 then(if(m.mem c+n) %4294967296<65536 then {m with c:=c,mem:=upd m.mem ((m.mem c+n) %4294967296) m.a}else {m with c:=c,stop:=3})
  else {m with c:=c,stop:=3}
 else if k=10 then {m with c:=(m.c+4294967296 - n) %4294967296}
 else if k=25 then(if m.a<n then m else {m with stop:=1,code:=1})
 else if k=26 then {m with pc:=n}
 else if k=27 then(if m.a=0 then {m with pc:=n}else m)
 else if k=28 then
  if(m.d+1) %4294967296<101 then(if m.c<65536 then {m with d:=(m.d+1) %4294967296,mem:=upd m.mem m.c m.pc,c:=(m.c+1) %4294967296,pc:=n}else {m with d:=(m.d+1) %4294967296,stop:=3})
  else {m with d:=(m.d+1) %4294967296,stop:=1,code:=3}
 else if k=29 then
  let c:=(m.c+4294967296 - n) %4294967296
  if c<65536 then {m with c:=c,pc:=m.mem c,d:=(m.d+4294967296 - 1) %4294967296}else {m with c:=c,stop:=3}
 else {m with c:=n}
def has (k:Nat):Bool:=(2≤k&&k≤8)||k=10||(25≤k&&k≤29)||k=32
def LZ (m:MS):MS:=
 if m.stop≠0 then m
 else if ¬m.pc<65536 then bad m
 else
  let k:=m.mem m.pc
  if k=0∨32<k then {m with stop:=2}
  else if has k=false then PL k {m with pc:=m.pc+1}
  else if ¬m.pc+1<65536 then bad m
  else Lu k (m.mem (m.pc+1)) {m with pc:=m.pc+2}
def it:Nat→MS→MS
 |0,m=>m
 |k+1,m=>it k (LZ m)
theorem zL4 (a b:Nat)(m:MS):it (a+b) m=it b (it a m):=by
 induction a generalizing m with
 |zero=>simp [it]
 |succ a c=>rw [Nat.succ_add,it,it,c]
theorem lG {m:MS}(a:m.stop≠0):∀ k,it k m=m
 |0=>rfl
 |k+1=>by rw [it,show LZ m=m by simp [LZ,a],lG a k]
def Go (k:Nat)(m a:MS):Prop:=∃ j,j≤k∧it j m=a
theorem Go.refl (m:MS):Go 0 m m:=⟨0,Aw _,rfl⟩
theorem Go.trans {a b:Nat}{m d e:MS}(c:Go a m d)(k:Go b d e):Go (a+b) m e:=by
 obtain⟨i,f,c⟩:=c;obtain⟨j,g,k⟩:=k;exact⟨i+j,by omega,by rw [zL4,c,k]⟩
theorem Go.mono {a b:Nat}{m d:MS}(c:Go a m d)(k:a≤b):Go b m d:=by
 obtain⟨i,e,c⟩:=c;exact⟨i,by omega,c⟩
theorem Go.one {m a:MS}(b:LZ m=a):Go 1 m a:=⟨1,Aw _,b⟩
theorem jK {m:MS}{k:Nat}(a:m.stop=0)(b:m.pc<65536)(c:m.mem m.pc=k)(h1:0<k)(e:k≤32)(d:has k=false):LZ m=PL k {m with pc:=m.pc+1}:=by
 unfold LZ;rw [if_neg (by simp [a]),if_neg (fun q=>q b)];simp only [c];rw [if_neg (by omega),if_pos d]
theorem Wt {m:MS}{k n:Nat}(a:m.stop=0)(e:m.pc+1<65536)(b:m.mem m.pc=k)(c:m.mem (m.pc+1)=n)(h1:0<k)(f:k≤32)(d:has k=true):LZ m=Lu k n {m with pc:=m.pc+2}:=by
 unfold LZ;rw [if_neg (by simp [a]),if_neg (fun q=>q (by omega))];simp only [b,c];rw [if_neg (by omega),if_neg (by simp [d]),if_neg (fun q=>q (by omega))]
end Pm
namespace Pm
open _root_.List renaming getElem?_eq_getElem→Al,getElem?_eq_none→C5,getElem?_eq_some_iff→Ao
structure Tm where
 kind:Nat
 val:Nat
deriving DecidableEq
structure Ac where
 kind:Nat
 eQ:Nat
 x:Tm
 y:Tm
deriving DecidableEq
structure In where
 name:List UInt8
 operand:Bool
 acts:List Ac
deriving DecidableEq
structure TS where
 mem:Nat→Nat
 r:Nat→Nat
 inp:List Nat
 out:List Nat
 stop:Nat
 code:Nat
 operand:Nat
def Lx (s:TS)(t:Tm):Nat:=if t.kind=1 then s.r t.val else if t.kind=2 then s.operand else t.val
def MF (s:TS)(t n:Nat):TS:={s with r:=upd s.r t n}
def NZ (kind x a:Nat):Nat:=
 if kind=1 then(x+a) %4294967296 else if kind=2 then(x+4294967296 - a) %4294967296 else if kind=3 then x*a %4294967296
 else if kind=6 then Nat.land x a else if kind=7 then Nat.lor x a else if kind=8 then Nat.xor x a
 else if kind=9 then(if a<32 then x*2 ^a %4294967296 else 0)else if kind=10 then(if a<32 then x /2 ^a else 0)
 else if kind=11 then(if x=a then 1 else 0)else(if x<a then 1 else 0)
def MK (s:TS)(a:Ac):TS:=
 let x:=Lx s a.x
 let c:=Lx s a.y
 if a.kind=0 then MF s a.eQ x
 else if a.kind=19 then(if c=0 then MF s a.eQ x else s)
 else if a.kind=4 then(if c=0 then {s with stop:=4}else MF s a.eQ (x /c))
 else if a.kind=5 then(if c=0 then {s with stop:=4}else MF s a.eQ (x %c))
 else if a.kind=13 then(if x<65536 then MF s a.eQ (s.mem x)else {s with stop:=3})
 else if a.kind=14 then(if x<65536 then {s with mem:=upd s.mem x c}else {s with stop:=3})
 else if a.kind=15 then(match s.inp with|[]=>MF s a.eQ 4294967295|b::l=>{MF s a.eQ b with inp:=l})
 else if a.kind=16 then(if 20000≤s.out.length then {s with stop:=5}else {s with out:=s.out++[x %256]})
 else if a.kind=17 then {s with stop:=1,code:=x}
 else if a.kind=18 then(if c=0 then {s with stop:=1,code:=x}else s)
 else MF s a.eQ (NZ a.kind x c)
def Ls:TS→List Ac→TS
 |s,[]=>s
 |s,a::l=>if(MK s a).stop=0 then Ls (MK s a) l else MK s a
def Kr (n:Nat):Tm:=⟨1,n⟩
def Nf (n:Nat):Tm:=⟨0,n⟩
def YD:Tm:=⟨2,0⟩
def Sa (l:List Ac):List Ac:=⟨2,2,Kr 2,Nf 1⟩::⟨13,1,Kr 2,Nf 0⟩::l
def Lh:List In:=[
 ⟨[115,116,111,112],false,[⟨17,0,Kr 0,Nf 0⟩]⟩,
 ⟨[110,117,109],true,[⟨0,0,YD,Nf 0⟩]⟩,
 ⟨[108,111,97,100],true,[⟨13,0,YD,Nf 0⟩]⟩,
 ⟨[115,116,111,114,101],true,[⟨14,0,YD,Kr 0⟩]⟩,
 ⟨[108,111,99,97,108],true,[⟨2,1,Kr 2,YD⟩,⟨13,0,Kr 1,Nf 0⟩]⟩,
 ⟨[97,115,115,105,103,110],true,[⟨2,1,Kr 2,YD⟩,⟨14,0,Kr 1,Kr 0⟩]⟩,
 ⟨[102,101,116,99,104],true,[⟨1,1,Kr 0,YD⟩,⟨13,0,Kr 1,Nf 0⟩]⟩,
 ⟨[112,117,116,97,116],true,Sa [⟨1,1,Kr 1,YD⟩,⟨14,0,Kr 1,Kr 0⟩]⟩,
 ⟨[112,117,115,104],false,[⟨14,0,Kr 2,Kr 0⟩,⟨1,2,Kr 2,Nf 1⟩]⟩,
 ⟨[100,114,111,112],true,[⟨2,2,Kr 2,YD⟩]⟩,
 ⟨[97,100,100],false,Sa [⟨1,0,Kr 1,Kr 0⟩]⟩,
 ⟨[115,117,98],false,Sa [⟨2,0,Kr 1,Kr 0⟩]⟩,
 ⟨[109,117,108],false,Sa [⟨3,0,Kr 1,Kr 0⟩]⟩,
 ⟨[100,105,118],false,Sa [⟨18,0,Nf 2,Kr 0⟩,⟨4,0,Kr 1,Kr 0⟩]⟩,
 ⟨[109,111,100],false,Sa [⟨18,0,Nf 2,Kr 0⟩,⟨5,0,Kr 1,Kr 0⟩]⟩,
 ⟨[97,110,100],false,Sa [⟨6,0,Kr 1,Kr 0⟩]⟩,
 ⟨[111,114],false,Sa [⟨7,0,Kr 1,Kr 0⟩]⟩,
 ⟨[120,111,114],false,Sa [⟨8,0,Kr 1,Kr 0⟩]⟩,
 ⟨[108,101,102,116],false,Sa [⟨9,0,Kr 1,Kr 0⟩]⟩,
 ⟨[114,105,103,104,116],false,Sa [⟨10,0,Kr 1,Kr 0⟩]⟩,
 ⟨[101,113],false,Sa [⟨11,0,Kr 1,Kr 0⟩]⟩,
 ⟨[108,101,115,115],false,Sa [⟨12,0,Kr 1,Kr 0⟩]⟩,
 ⟨[109,111,114,101],false,Sa [⟨12,0,Kr 0,Kr 1⟩]⟩,
 ⟨[122,101,114,111],false,[⟨11,0,Kr 0,Nf 0⟩]⟩,
 ⟨[98,111,117,110,100],true,[⟨12,1,Kr 0,YD⟩,⟨18,0,Nf 1,Kr 1⟩]⟩,
 ⟨[106,117,109,112],true,[⟨0,4,YD,Nf 0⟩]⟩,
 ⟨[106,122,101,114,111],true,[⟨19,4,YD,Kr 0⟩]⟩,
 ⟨[99,97,108,108],true,[⟨1,3,Kr 3,Nf 1⟩,⟨12,1,Kr 3,Nf 101⟩,⟨18,0,Nf 3,Kr 1⟩,⟨14,0,Kr 2,Kr 4⟩,⟨1,2,Kr 2,Nf 1⟩,⟨0,4,YD,Nf 0⟩]⟩,
 ⟨[114,101,116],true,[⟨2,2,Kr 2,YD⟩,⟨13,4,Kr 2,Nf 0⟩,⟨2,3,Kr 3,Nf 1⟩]⟩,
 ⟨[103,101,116],false,[⟨15,0,Nf 0,Nf 0⟩]⟩,
 ⟨[112,117,116],false,[⟨16,0,Kr 0,Nf 0⟩]⟩,
 ⟨[115,116,97,99,107],true,[⟨0,2,YD,Nf 0⟩]⟩]
def Mm (k:Nat):Option In:=if k=0 then none else Lh[k - 1]?
def stepT (s:TS):TS:=
 if ¬s.r 4<65536 then {s with stop:=3}
 else match Mm (s.mem (s.r 4))with
  |none=>{s with stop:=2}
  |some x=>
   if x.operand=false then Ls (MF s 4 (s.r 4+1)) x.acts
   else if ¬s.r 4+1<65536 then {s with stop:=3}
   else Ls {MF s 4 (s.r 4+2)with operand:=s.mem (s.r 4+1)} x.acts
def UK:Nat→TS→TS
 |0,s=>s
 |k+1,s=>if s.stop=0 then UK k (stepT s)else s
structure Rel (s:TS) (m:MS):Prop where
 mem:s.mem=m.mem
 a:s.r 0=m.a
 c:s.r 2=m.c
 d:s.r 3=m.d
 p:s.r 4=m.pc
 inp:s.inp=m.inp
 out:s.out=m.out
 stop:s.stop=m.stop
 code:s.code=m.code
def Sb (s:TS)(x:In)(n:Nat):TS:=if x.operand=false then Ls (MF s 4 (s.r 4+1)) x.acts else if ¬s.r 4+1<65536 then {s with stop:=3}else Ls {MF s 4 (s.r 4+2)with operand:=n} x.acts
def Rq (k n:Nat)(m:MS):MS:=if has k=false then PL k {m with pc:=m.pc+1}else if ¬m.pc+1<65536 then bad m else Lu k n {m with pc:=m.pc+2}
def PA (s:TS)(l:List Ac)(z:Nat):TS:=if z<65536 then Ls {s with r:=upd (upd s.r 2 z) 1 (s.mem z)} l else {s with r:=upd s.r 2 z,stop:=3}
def PM (k:Nat)(m:MS)(z:Nat):MS:=if z<65536 then(if(k=14∨k=15)∧m.a=0 then {m with pc:=m.pc+1,c:=z,stop:=1,code:=2}else {m with pc:=m.pc+1,c:=z,a:=O9 k (m.mem z) m.a})else {m with pc:=m.pc+1,c:=z,stop:=3}
theorem sT {P:Prop}(a:P:=by(simp [has,PL,Lu,O9,Ls,MK,Lx,MF,NZ,upd,Kr,Nf,YD,Sa,PA,PM,bad, *];try (constructor<;>(try simp [upd])<;>try assumption))):P:=a
theorem sI (x a:Nat):NZ 2 x a=(x+4294967296 - a) %4294967296:=by
 unfold NZ;rw [if_neg (by decide),if_pos rfl]
theorem qI (s:TS)(l:List Ac)(a:s.stop=0)(z:Nat)(b:z=(s.r 2+4294967296 - 1) %4294967296):Ls s (Sa l)=PA s l z:=by
 unfold PA;unfold Sa;have h1:MK s ⟨2,2,Kr 2,Nf 1⟩={s with r:=upd s.r 2 z}:=by
  rw [show MK s ⟨2,2,Kr 2,Nf 1⟩=MF s 2 (NZ 2 (Lx s (Kr 2)) (Lx s (Nf 1)))from rfl,show Lx s (Kr 2)=s.r 2 from rfl,show Lx s (Nf 1)=1 from rfl,sI,←b];rfl
 rw [Ls,h1,if_pos a,Ls];clear b h1;by_cases q:z<65536
 ·simp [MK,Lx,Kr,upd,MF,q,a]
 ·simp [MK,Lx,Kr,upd,MF,q,a]
theorem zU4 (k n:Nat)(m:MS)(z:Nat)(a:z=(m.c+4294967296 - 1) %4294967296)(h1:11≤k)(d:k≤23):Rq k n m=PM k m z:=by
 unfold PM;have b:has k=false:=by
  have e:k=11∨k=12∨k=13∨k=14∨k=15∨k=16∨k=17∨k=18∨k=19∨k=20∨k=21∨k=22∨k=23:=by omega
  rcases e with rfl|rfl|rfl|rfl|rfl|rfl|rfl|rfl|rfl|rfl|rfl|rfl|rfl<;>rfl
 unfold Rq PL;rw [if_pos b,if_neg (by omega),if_neg (by omega),if_neg (by omega),if_neg (by omega),if_neg (by omega)];dsimp only;rw [←a]
theorem yF9 (n:Nat)(m:MS)(z:Nat)(b:z=(m.c+4294967296 - 1) %4294967296):Rq 8 n m=if m.pc+1<65536 then(if z<65536 then(if(m.mem z+n) %4294967296<65536 then {m with pc:=m.pc+2,c:=z,mem:=upd m.mem ((m.mem z+n) %4294967296) m.a}else {m with pc:=m.pc+2,c:=z,stop:=3})else {m with pc:=m.pc+2,c:=z,stop:=3})else bad m:=by
 unfold Rq Lu;rw [if_neg (by decide)];by_cases q:m.pc+1<65536
 ·rw [if_neg (fun d=>d q),if_pos q,if_neg (by decide),if_neg (by decide),if_neg (by decide),if_neg (by decide),if_neg (by decide),if_neg (by decide),if_pos rfl];dsimp only;rw [←b]
 ·rw [if_pos q,if_neg q]
def St (k:Nat):Prop:=∀ (mem a:Nat→Nat)(inp out:List Nat)(code operand n:Nat)(x:In),Mm k=some x→Rel (Sb ⟨mem,a,inp,out,0,code,operand⟩ x n) (Rq k n ⟨mem,a 4,a 0,a 2,a 3,inp,out,0,code⟩)
theorem zJ5:St 1∧St 24:=by
 refine⟨?_,?_⟩<;>(rintro mem a inp out code operand n x ⟨⟩;unfold Sb Rq;exact sT)
theorem pQ:St 2∧St 10∧St 26∧St 32:=by
 refine⟨?_,?_,?_,?_⟩<;>(rintro mem a inp out code operand n x ⟨⟩;unfold Sb Rq;by_cases b:a 4+1<65536<;>exact sT)
theorem zJ8:St 3∧St 4:=by
 refine⟨?_,?_⟩<;>(rintro mem a inp out code operand n x ⟨⟩;unfold Sb Rq;by_cases b:a 4+1<65536<;>by_cases q:n<65536<;>exact sT)
theorem zJ6:St 5∧St 6:=by
 refine⟨?_,?_⟩<;>(rintro mem a inp out code operand n x ⟨⟩;unfold Sb Rq;by_cases b:a 4+1<65536<;>by_cases q:(a 2+4294967296 - n) %4294967296<65536<;>exact sT)
theorem yx9:St 7:=by
 rintro mem a inp out code operand n x ⟨⟩;unfold Sb Rq;by_cases b:a 4+1<65536<;>by_cases q:(a 0+n) %4294967296<65536<;>exact sT
theorem yy0:St 9:=by
 rintro mem a inp out code operand n x ⟨⟩;unfold Sb Rq;by_cases q:a 2<65536<;>exact sT
theorem yg4:St 25:=by
 rintro mem a inp out code operand n x ⟨⟩;unfold Sb Rq;by_cases b:a 4+1<65536<;>by_cases q:a 0<n<;>exact sT
theorem yg5:St 27:=by
 rintro mem a inp out code operand n x ⟨⟩;unfold Sb Rq;by_cases b:a 4+1<65536<;>by_cases q:a 0=0<;>exact sT
theorem yg6:St 28:=by
 rintro mem a inp out code operand n x ⟨⟩;unfold Sb Rq;by_cases b:a 4+1<65536<;>by_cases q:(a 3+1) %4294967296<101<;>by_cases q2:a 2<65536<;>exact sT
theorem yg7:St 30:=by
 rintro mem a inp out code operand n x ⟨⟩;unfold Sb Rq;cases inp<;>exact sT
theorem yg8:St 31:=by
 rintro mem a inp out code operand n x ⟨⟩;unfold Sb Rq;by_cases q:20000≤out.length<;>exact sT
theorem yy2:St 8:=by
 rintro mem a inp out code operand n x ⟨⟩;obtain⟨z,b⟩:∃ z,z=(a 2+4294967296 - 1) %4294967296:=⟨_,rfl⟩;rw [yF9 n ⟨mem,a 4,a 0,a 2,a 3,inp,out,0,code⟩ z b];unfold Sb;rw [if_neg (by decide)];dsimp only;by_cases c:a 4+1<65536
 ·rw [if_neg (fun d=>d c),if_pos c,qI {MF ⟨mem,a,inp,out,0,code,operand⟩ 4 (a 4+2)with operand:=n} _ rfl z (by rw [show({MF ⟨mem,a,inp,out,0,code,operand⟩ 4 (a 4+2)with operand:=n}:TS).r 2=a 2 from rfl];exact b)];clear b;by_cases q:z<65536<;>by_cases q2:(mem z+n) %4294967296<65536<;>exact sT
 ·rw [if_pos c,if_neg c];clear b;exact sT
theorem Yv {k:Nat}{nm:List UInt8}{l:List Ac}(d:Mm k=some ⟨nm,false,Sa l⟩)(h1:11≤k)(e:k≤23)(f:∀ (z:Nat)(mem a:Nat→Nat)(inp out:List Nat)(code operand:Nat),Rel (PA (MF ⟨mem,a,inp,out,0,code,operand⟩ 4 (a 4+1)) l z) (PM k ⟨mem,a 4,a 0,a 2,a 3,inp,out,0,code⟩ z)):St k:=by
 intro mem a inp out code operand n x b;rw [d]at b;cases b;obtain⟨z,c⟩:∃ z,z=(a 2+4294967296 - 1) %4294967296:=⟨_,rfl⟩;rw [zU4 k n ⟨mem,a 4,a 0,a 2,a 3,inp,out,0,code⟩ z c h1 e];unfold Sb;rw [if_pos rfl,qI (MF ⟨mem,a,inp,out,0,code,operand⟩ 4 (a 4+1)) _ rfl z (by rw [show(MF ⟨mem,a,inp,out,0,code,operand⟩ 4 (a 4+1)).r 2=a 2 from rfl];exact c)];exact f z mem a inp out code operand
theorem TG:St 11∧St 12∧St 13∧St 14∧St 15∧St 16∧St 17∧St 18∧St 19∧St 20∧St 21∧St 22∧St 23:=by
 refine⟨?_,?_,?_,?_,?_,?_,?_,?_,?_,?_,?_,?_,?_⟩<;>exact Yv rfl (by decide) (by decide) fun z mem a inp out code operand=>by by_cases q:z<65536<;>by_cases q2:a 0=0<;>exact sT
theorem zo1 (n:Nat)(m:MS)(c z:Nat)(hc:c=(m.c+4294967296 - n) %4294967296)(a:z=(m.d+4294967296 - 1) %4294967296):Rq 29 n m=if m.pc+1<65536 then(if c<65536 then {m with c:=c,pc:=m.mem c,d:=z}else {m with pc:=m.pc+2,c:=c,stop:=3})else bad m:=by
 unfold Rq Lu;rw [if_neg (by decide)];by_cases q:m.pc+1<65536
 ·rw [if_neg (fun b=>b q),if_pos q,if_neg (by decide),if_neg (by decide),if_neg (by decide),if_neg (by decide),if_neg (by decide),if_neg (by decide),if_neg (by decide),if_neg (by decide),if_neg (by decide),if_neg (by decide),if_neg (by decide),if_neg (by decide),if_pos rfl];dsimp only;rw [←a,←hc]
 ·rw [if_pos q,if_neg q]
theorem wW (s:TS)(t:Nat)(x a:Tm)(z:Nat)(b:z=(Lx s x+4294967296 - Lx s a) %4294967296):MK s ⟨2,t,x,a⟩={s with r:=upd s.r t z}:=by
 rw [show MK s ⟨2,t,x,a⟩=MF s t (NZ 2 (Lx s x) (Lx s a))from rfl,sI,←b];rfl
theorem yg9:St 29:=by
 rintro mem r inp out code operand n x ⟨⟩;obtain⟨c,hc⟩:∃ c,c=(r 2+4294967296 - n) %4294967296:=⟨_,rfl⟩;obtain⟨z,b⟩:∃ z,z=(r 3+4294967296 - 1) %4294967296:=⟨_,rfl⟩;rw [zo1 n ⟨mem,r 4,r 0,r 2,r 3,inp,out,0,code⟩ c z hc b];unfold Sb;rw [if_neg (by decide)];dsimp only;by_cases d:r 4+1<65536
 ·rw [if_neg (fun e=>e d),if_pos d];obtain⟨s1,a⟩:∃ s1:TS,s1={MF ⟨mem,r,inp,out,0,code,operand⟩ 4 (r 4+2)with operand:=n}:=⟨_,rfl⟩;have h:Lx s1 (Kr 2)=r 2:=by rw [a];rfl
  have i:Lx s1 YD=n:=by rw [a];rfl
  have f:s1.stop=0:=by rw [a];rfl
  have m:s1.mem=mem:=by rw [a];rfl
  rw [←a,Ls,wW s1 2 (Kr 2) YD c (by rw [h,i];exact hc),if_pos f,Ls];have j:s1.r=upd r 4 (r 4+2):=by rw [a];rfl
  by_cases q:c<65536
  ·have g:MK {s1 with r:=upd s1.r 2 c} ⟨13,4,Kr 2,Nf 0⟩={s1 with r:=upd (upd s1.r 2 c) 4 (s1.mem c)}:=by
    simp [MK,Lx,Kr,upd,MF,q]
   rw [g,if_pos f,Ls,wW _ 3 (Kr 3) (Nf 1) z (by
    have k:Lx {s1 with r:=upd (upd s1.r 2 c) 4 (s1.mem c)} (Kr 3)=r 3:=by simp [Lx,Kr,upd,j]
    have l:Lx {s1 with r:=upd (upd s1.r 2 c) 4 (s1.mem c)} (Nf 1)=1:=rfl
    rw [k,l];exact b),if_pos f,Ls,if_pos q]
   clear b hc;subst a;constructor<;>simp [upd,MF]
  ·have g:MK {s1 with r:=upd s1.r 2 c} ⟨13,4,Kr 2,Nf 0⟩={s1 with r:=upd s1.r 2 c,stop:=3}:=by
    simp [MK,Lx,Kr,upd,MF,q]
   rw [g,if_neg (fun e=>by cases e),if_neg q];clear b hc;subst a;constructor<;>simp [upd,MF]
 ·rw [if_pos d,if_neg d];clear b hc;exact sT
theorem yG0:∀ k x,Mm k=some x→St k
 |0,_,a=>by cases a
 |1,_,_=>zJ5.1
 |2,_,_=>pQ.1
 |3,_,_=>zJ8.1
 |4,_,_=>zJ8.2
 |5,_,_=>zJ6.1
 |6,_,_=>zJ6.2
 |7,_,_=>yx9
 |8,_,_=>yy2
 |9,_,_=>yy0
 |10,_,_=>pQ.2.1
 |11,_,_=>TG.1
 |12,_,_=>TG.2.1
 |13,_,_=>TG.2.2.1
 |14,_,_=>TG.2.2.2.1
 |15,_,_=>TG.2.2.2.2.1
 |16,_,_=>TG.2.2.2.2.2.1
 |17,_,_=>TG.2.2.2.2.2.2.1
 |18,_,_=>TG.2.2.2.2.2.2.2.1
 |19,_,_=>TG.2.2.2.2.2.2.2.2.1
 |20,_,_=>TG.2.2.2.2.2.2.2.2.2.1
 |21,_,_=>TG.2.2.2.2.2.2.2.2.2.2.1
 |22,_,_=>TG.2.2.2.2.2.2.2.2.2.2.2.1
 |23,_,_=>TG.2.2.2.2.2.2.2.2.2.2.2.2
 |24,_,_=>zJ5.2
 |25,_,_=>yg4
 |26,_,_=>pQ.2.2.1
 |27,_,_=>yg5
 |28,_,_=>yg6
 |29,_,_=>yg9
 |30,_,_=>yg7
 |31,_,_=>yg8
 |32,_,_=>pQ.2.2.2
 |k+33,_,a=>by
  unfold Mm at a;have:=(Ao.1 ((if_neg (by omega)).symm.trans a)).1;simp [Lh]at this;omega
theorem wX {s:TS}{x:In}(a:s.r 4<65536)(b:Mm (s.mem (s.r 4))=some x):stepT s=Sb s x (s.mem (s.r 4+1)):=by
 unfold stepT Sb;rw [if_neg (fun c=>c a),b]
theorem wY {m:MS}(b:m.stop=0)(c:m.pc<65536)(h1:1≤m.mem m.pc)(d:m.mem m.pc≤32):LZ m=Rq (m.mem m.pc) (m.mem (m.pc+1)) m:=by
 unfold LZ Rq;rw [if_neg (fun a=>a b),if_neg (fun a=>a c)];dsimp only;rw [if_neg (by omega)]
theorem zC1 {s:TS}{m:MS}(e:Rel s m)(l:m.stop=0):Rel (stepT s) (LZ m):=by
 obtain⟨mem,b,inp,out,stop,code,operand⟩:=s;obtain⟨z,A,a,c,d,B,C,D,E⟩:=m;obtain⟨rfl,o,p,r,t,rfl,rfl,rfl,rfl⟩:=e;simp only at o p r t l;subst o p r t l;by_cases f:b 4<65536
 ·obtain⟨k,h⟩:∃ k,mem (b 4)=k:=⟨_,rfl⟩;by_cases u:k=0∨32<k
  ·have w:Mm (mem (b 4))=none:=by
    rw [h];unfold Mm;rcases u with rfl|q
    ·rfl
    ·rw [if_neg (by omega)];exact C5 (by simp [Lh];omega)
   have i:stepT ⟨mem,b,inp,out,0,code,operand⟩=⟨mem,b,inp,out,2,code,operand⟩:=by
    unfold stepT;rw [if_neg (fun e=>e f)];dsimp only;rw [w]
   have j:LZ ⟨mem,b 4,b 0,b 2,b 3,inp,out,0,code⟩=⟨mem,b 4,b 0,b 2,b 3,inp,out,2,code⟩:=by
    unfold LZ;rw [if_neg (fun e=>e rfl),if_neg (fun e=>e f)];dsimp only;rw [h,if_pos u]
   rw [i,j];exact⟨rfl,rfl,rfl,rfl,rfl,rfl,rfl,rfl,rfl⟩
  ·rw [wY (m:=⟨mem,b 4,b 0,b 2,b 3,inp,out,0,code⟩) rfl f (by show 1≤mem (b 4);omega) (by show mem (b 4)≤32;omega)];dsimp only;generalize v:mem (b 4+1)=n;have y:∀ x,Mm k=some x→stepT ⟨mem,b,inp,out,0,code,operand⟩=Sb ⟨mem,b,inp,out,0,code,operand⟩ x n:=fun x g=>by
    rw [wX (s:=⟨mem,b,inp,out,0,code,operand⟩) f (by rw [←g,←h])];dsimp only;rw [v]
   rw [h];clear v f;obtain⟨x,g⟩:∃ x,Mm k=some x:=⟨_,by unfold Mm;rw [if_neg (by omega)];exact Al (by simp [Lh];omega)⟩;rw [y x g];exact yG0 k x g mem b inp out code operand n x g
 ·have i:stepT ⟨mem,b,inp,out,0,code,operand⟩=⟨mem,b,inp,out,3,code,operand⟩:=by
   unfold stepT;rw [if_pos f]
  have j:LZ ⟨mem,b 4,b 0,b 2,b 3,inp,out,0,code⟩=⟨mem,b 4,b 0,b 2,b 3,inp,out,3,code⟩:=by
   unfold LZ;rw [if_neg (fun e=>e rfl),if_pos f];rfl
  rw [i,j];exact⟨rfl,rfl,rfl,rfl,rfl,rfl,rfl,rfl,rfl⟩
theorem wZ:∀ (k:Nat){s:TS}{m:MS},Rel s m→Rel (UK k s) (it k m)
 |0,_,_,a=>a
 |k+1,s,m,a=>by
  rw [UK,it];by_cases b:m.stop=0
  ·rw [if_pos (by rw [a.stop];exact b)];exact wZ k (zC1 a b)
  ·rw [if_neg (by rw [a.stop];exact b),show LZ m=m by simp [LZ,b],lG b k];exact a
end Pm
namespace Pm
open _root_.Bool renaming and_eq_true→Ah
open _root_.List renaming all_eq_true→A7,getElem?_eq_some_iff→Ao,length_append→M,length_cons→Am,length_nil→Av,mem_append→Fi,mem_cons_of_mem→DE,mem_of_getElem?→AD
open _root_.Nat renaming beq→Az,ble→A6,blt→Be,div_le_self→I3,le_of_ble_eq_true→Ai,lt_of_le_of_lt→Ey
structure Re (s:TS):Prop where
 mem:∀ i,s.mem i<4294967296
 r:∀ i,s.r i<4294967296
 inp:∀ x∈s.inp,x<256
 out:∀ x∈s.out,x<256
 zo2:s.out.length≤20000
 op:s.operand<4294967296
 code:s.code<4294967296
 stop:s.stop≤5
def VM (t:Tm):Bool:=A6 t.kind 2&&Be t.val 4294967296&&(Be t.val 5|| !Az t.kind 1)
def UB (a:Ac):Bool:=Be a.eQ 5&&Be a.kind 20&&VM a.x&&VM a.y
theorem yG1:Lh.all (fun x=>x.acts.all UB&&A6 x.acts.length 6)=true:=by decide
theorem bN {s:TS}(b:Re s){t:Tm}(a:VM t=true):Lx s t<4294967296:=by
 unfold VM at a;simp only [Ah]at a;have c:=Ai a.1.2;unfold Lx;split
 ·exact b.r _
 ·split
  ·exact b.op
  ·exact c
theorem zU5 (k x b:Nat)(a:x<4294967296)(hy:b<4294967296):NZ k x b<4294967296:=by
 unfold NZ;split
 ·omega
 split
 ·omega
 split
 ·exact Nat.mod_lt _ (by omega)
 split
 ·exact Ey Nat.and_le_left a
 split
 ·exact Nat.or_lt_two_pow (n:=32) a hy
 split
 ·exact Nat.xor_lt_two_pow (n:=32) a hy
 split
 ·split
  ·exact Nat.mod_lt _ (by omega)
  ·omega
 split
 ·split
  ·exact Ey (I3 _ _) a
  ·omega
 split
 ·split<;>omega
 ·split<;>omega
theorem P9 {s:TS}(a:Re s)(t n:Nat)(b:n<4294967296):Re (MF s t n):=
 ⟨a.mem,fun i=>by show upd s.r t n i<_;unfold upd;split;exact b;exact a.r i,a.inp,a.out,a.zo2,a.op,a.code,a.stop⟩
theorem bO {s:TS}(c:Re s){a:Ac}(f:UB a=true):Re (MK s a):=by
 unfold UB at f;simp only [Ah]at f;have d:=bN c f.1.2;have hy:=bN c f.2;unfold MK;dsimp only;generalize Lx s a.x=x at*
 generalize Lx s a.y=y at*
 split
 ·exact P9 c _ _ d
 split
 ·split
  ·exact P9 c _ _ d
  ·exact c
 split
 ·split
  ·exact {c with stop:=by show 4≤5;omega}
  ·exact P9 c _ _ (Ey (I3 _ _) d)
 split
 ·split
  ·exact {c with stop:=by show 4≤5;omega}
  ·exact P9 c _ _ (Ey (Nat.mod_le _ _) d)
 split
 ·split
  ·exact P9 c _ _ (c.mem _)
  ·exact {c with stop:=by show 3≤5;omega}
 split
 ·split
  ·exact {c with mem:=fun i=>by show upd s.mem x y i<_;unfold upd;split;exact hy;exact c.mem i}
  ·exact {c with stop:=by show 3≤5;omega}
 split
 ·split
  ·exact P9 c _ _ (by omega)
  ·rename_i b l e;have h1:=P9 c a.eQ b (by have:=c.inp b (by rw [e];simp);omega);exact {h1 with inp:=fun z g=>c.inp z (by rw [e];exact DE _ g)}
 split
 ·split
  ·exact {c with stop:=by show 5≤5;omega}
  ·refine {c with out:=fun z g=>?_,zo2:=?_}
   ·rcases Fi.1 g with q|q
    ·exact c.out z q
    ·have:z=x %256:=by simpa using q
     omega
   ·show(s.out++[x %256]).length≤_
    rw [M];simp only [Am,Av];omega
 split
 ·exact {c with stop:=by show 1≤5;omega,code:=d}
 split
 ·split
  ·exact {c with stop:=by show 1≤5;omega,code:=d}
  ·exact c
 ·exact P9 c _ _ (zU5 _ _ _ d hy)
theorem eT:∀ (l:List Ac){s:TS},Re s→l.all UB=true→Re (Ls s l)
 |[],_,b,_=>b
 |a::l,s,b,c=>by
  rw [List.all_cons,Ah]at c;rw [Ls];split
  ·exact eT l (bO b c.1) c.2
  ·exact bO b c.1
theorem qJ {k:Nat}{x:In}(a:Mm k=some x):x.acts.all UB=true∧x.acts.length≤6∧1≤k∧k≤32∧Lh[k - 1]?= some x:=by
 unfold Mm at a;split at a
 ·cases a
 ·have h1:=A7.1 yG1 x (AD a);rw [Ah]at h1;have b:=(Ao.1 a).1;exact⟨h1.1,Ai h1.2,by omega,by have:Lh.length=32:=rfl;omega,a⟩
theorem zU6 {s:TS}(a:Re s):Re (stepT s):=by
 unfold stepT;split
 ·exact {a with stop:=by show 3≤5;omega}
 ·split
  ·exact {a with stop:=by show 2≤5;omega}
  ·rename_i x c;have b:=(qJ c).1;split
   ·exact eT _ (P9 a _ _ (by omega)) b
   ·split
    ·exact {a with stop:=by show 3≤5;omega}
    ·refine eT _ ?_ b
     exact {P9 a 4 (s.r 4+2) (by omega)with op:=a.mem _}
end Pm
namespace Pg
open _root_.Bool renaming eq_iff_iff→Bl
open _root_.List renaming append_assoc→AG,cons_append→BS,foldl_cons→IP,length_append→M,length_cons→Am,length_nil→Av,map_cons→B7,mem_cons→AH,nil_append→B9
open _root_.Nat renaming le_of_ble_eq_true→Ai
open _root_.Prod renaming fst→Ee
def Kw:Nat→List (Nat×Option Bs)→List (Nat×Bs)
 |_,[]=>[]
 |o,(_,none)::a=>Kw (o+1) a
 |o,(_,some s)::a=>(o,s)::Kw (o+1) a
def WB (a:List (Bs×Nat)):Nat×Option Bs→Nat
 |(n,none)=>n
 |(n,some s)=>(n+(Ml s a).getD 0) %4294967296
def Uu (b:List (Bs×Nat))(L:List Nat)(a:Nat×Bs):List Nat:=L.set a.1 ((L[a.1]?.getD 0+(Ml a.2 b).getD 0) %4294967296)
theorem PK:∀ (f g:List (Nat×Option Bs))(o:Nat),Kw o (f++g)=Kw o f++Kw (o+f.length) g
 |[],g,o=>by simp [Kw]
 |(n,none)::f,g,o=>by rw [BS,Kw,Kw,PK f g];simp only [Am];rw [show o+1+f.length=o+(f.length+1) by omega]
 |(n,some s)::f,g,o=>by rw [BS,Kw,Kw,PK f g,BS];simp only [Am];rw [show o+1+f.length=o+(f.length+1) by omega]
theorem Wu:∀ {f:List (Nat×Option Bs)}{o:Nat}{b:Nat×Bs},b∈Kw o f→b.1<o+f.length∧∃ n,(n,some b.2)∈f
 |[],_,_,a=>by simp [Kw]at a
 |(n,none)::f,o,b,a=>by
  obtain⟨h1,m,c⟩:=Wu (by simpa [Kw]using a);exact⟨by simp only [Am];omega,m,by simp [c]⟩
 |(n,some s)::f,o,b,a=>by
  rw [Kw]at a;rcases AH.1 a with e|a
  ·subst e;exact⟨by simp,n,by simp⟩
  ·obtain⟨h1,m,c⟩:=Wu a;exact⟨by simp only [Am];omega,m,by simp [c]⟩
theorem Vi (a:List (Bs×Nat)):∀ (f:List (Nat×Option Bs))(P:List Nat),(Kw P.length f).foldl (Uu a) (P++f.map Ee)=P++f.map (WB a)
 |[],P=>by simp [Kw]
 |(n,none)::f,P=>by
  have b:=Vi a f (P++[n]);rw [M]at b;simp only [AG,BS,B9,Am,Av]at b;rw [Kw];simpa [WB]using b
 |(n,some s)::f,P=>by
  have b:=Vi a f (P++[(n+(Ml s a).getD 0) %4294967296]);rw [M]at b;simp only [AG,BS,B9,Am,Av]at b;rw [Kw,IP];have e:Uu a (P++((n,some s)::f).map Ee) (P.length,s)=P++(n+(Ml s a).getD 0) %4294967296::f.map Ee:=by
   unfold Uu;simp
  rw [e];simpa [WB]using b
theorem Ty {c:List (Bs×Nat)}:∀ {items:List (Nat×Option Bs)}{acc L:List Nat},Oz c items acc=some L→L=items.reverse.map (WB c)++acc∧∀ n s,(n,some s)∈items→∃ k,Ml s c=some k
 |[],acc,L,a=>by rw [Oz]at a;cases a;simp
 |(n,none)::g,acc,L,a=>by
  rw [Oz]at a;obtain⟨h1,d⟩:=Ty a;refine⟨by rw [h1];simp [WB],fun m s b=>d m s (by simpa using b)⟩
 |(n,some s)::g,acc,L,a=>by
  rw [Oz]at a;split at a
  ·cases a
  ·rename_i k f;obtain⟨h1,d⟩:=Ty a;refine⟨by rw [h1];simp [WB,f],fun m t b=>?_⟩;rcases AH.1 b with e|b
   ·injection e with _ e;injection e with e;exact⟨k,by rw [e];exact f⟩
   ·exact d m t b
structure Yk (a:Sq):Prop where
 n:a.items.length=a.n
 le:a.n≤65536
 lab:∀ s k,Ml s a.J2=some k→k≤65536
 once:∀ s,Oc s (a.J2.map Ee)=(Ml s a.J2).isSome
theorem Yk.nil:Yk ⟨[],0,[]⟩:=⟨rfl,by decide,by simp [Ml],by simp [Ml,Oc]⟩
theorem sM (a b:Bs):LJ a b=LJ b a:=by
 rw [Bl,Ko,Ko];exact eq_comm
theorem wu {a b:Sq}{l:WO}(c:QS a l=some b)(d:Yk a):Yk b:=by
 unfold QS at c;split at c
 ·cases c;exact d
 ·split at c
  ·cases c
  ·cases c;refine⟨d.n,d.le,fun s k e=>?_,fun s=>?_⟩
   ·rw [Ml]at e;split at e
    ·cases e;exact d.le
    ·exact d.lab s k e
   ·rename_i t _;have:=d.once s;rw [Ml];unfold Oc at this ⊢;rw [B7,List.any_cons,this,sM s t];cases LJ t s<;>rfl
 ·split at c
  ·split at c
   ·rename_i q;cases c;have:=Ai q;exact⟨by simp [d.n],this,d.lab,d.once⟩
   ·cases c
  ·cases c
 ·split at c
  ·split at c
   ·rename_i q;cases c;have:=Ai q;exact⟨by simp [d.n];omega,this,d.lab,d.once⟩
   ·cases c
  ·split at c
   ·split at c
    ·rename_i q;cases c;have:=Ai q;exact⟨by simp [d.n],this,d.lab,d.once⟩
    ·cases c
   ·split at c
    ·split at c
     ·rename_i q;cases c;have:=Ai q;exact⟨by simp [d.n],this,d.lab,d.once⟩
     ·cases c
    ·cases c
 ·split at c
  ·split at c
   ·rename_i q;cases c;have:=Ai q;exact⟨by simp [d.n],this,d.lab,d.once⟩
   ·cases c
  ·cases c
end Pg

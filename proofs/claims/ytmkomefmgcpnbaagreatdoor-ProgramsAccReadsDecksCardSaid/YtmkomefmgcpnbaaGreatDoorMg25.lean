import Derived.Test.YtmkomefmgcpnbaaGreatDoorMg24
set_option linter.all false
set_option maxHeartbeats 12800000
set_option maxRecDepth 100000
namespace Pm
open _root_.Classical renaming choose_spec→B4,choose→CN
open _root_.Nat renaming add_mod_right→C4,mod_eq_of_lt→Bf
set_option linter.unusedSimpArgs false
set_option linter.unusedVariables false
theorem gZ:∃ f:Nat→Nat→Nat,f=fun x a=>(x+a) %4294967296:=⟨_,rfl⟩
theorem gq:∃ f:Nat→Nat→Nat,f=fun x a=>(x+4294967296 - a) %4294967296:=⟨_,rfl⟩
theorem gu:∃ f:Nat→Nat→Nat,f=fun x a=>x*a %4294967296:=⟨_,rfl⟩
theorem gy:∃ f:Nat→Nat→Nat,f=fun x a=>if a<32 then x*2 ^a %4294967296 else 0:=⟨_,rfl⟩
theorem gz:∃ f:Nat→Nat→Nat,f=fun x a=>if a<32 then x /2 ^a else 0:=⟨_,rfl⟩
theorem iB:∃ f:Nat→Nat→Nat,f=fun x a=>Nat.land x a:=⟨_,rfl⟩
theorem mE:∃ f:Nat→Nat→Nat,f=fun x a=>Nat.lor x a:=⟨_,rfl⟩
theorem iC:∃ f:Nat→Nat→Nat,f=fun x a=>Nat.xor x a:=⟨_,rfl⟩
theorem iD:∃ f:Nat→Nat→Nat,f=fun x a=>x /a:=⟨_,rfl⟩
theorem iE:∃ f:Nat→Nat→Nat,f=fun x a=>x %a:=⟨_,rfl⟩
noncomputable def add32:Nat→Nat→Nat:=CN gZ
noncomputable def fI:Nat→Nat→Nat:=CN gq
noncomputable def fJ:Nat→Nat→Nat:=CN gu
noncomputable def zy2:Nat→Nat→Nat:=CN gy
noncomputable def zy3:Nat→Nat→Nat:=CN gz
noncomputable def zy4:Nat→Nat→Nat:=CN iB
noncomputable def yU1:Nat→Nat→Nat:=CN mE
noncomputable def zy5:Nat→Nat→Nat:=CN iC
noncomputable def zy6:Nat→Nat→Nat:=CN iD
noncomputable def zy7:Nat→Nat→Nat:=CN iE
theorem mF (x a:Nat):add32 x a=(x+a) %4294967296:=congrFun (congrFun (B4 gZ) x) a
theorem Zn (x a:Nat):fI x a=(x+4294967296 - a) %4294967296:=congrFun (congrFun (B4 gq) x) a
theorem mG (x a:Nat):fJ x a=x*a %4294967296:=congrFun (congrFun (B4 gu) x) a
theorem zF9 (x a:Nat):zy2 x a=if a<32 then x*2 ^a %4294967296 else 0:=congrFun (congrFun (B4 gy) x) a
theorem zG0 (x a:Nat):zy3 x a=if a<32 then x /2 ^a else 0:=congrFun (congrFun (B4 gz) x) a
theorem zG1 (x a:Nat):zy4 x a=x &&&a:=congrFun (congrFun (B4 iB) x) a
theorem zY8 (x a:Nat):yU1 x a=x |||a:=congrFun (congrFun (B4 mE) x) a
theorem zG2 (x a:Nat):zy5 x a=x ^^^ a:=congrFun (congrFun (B4 iC) x) a
theorem zG3 (x a:Nat):zy6 x a=x /a:=congrFun (congrFun (B4 iD) x) a
theorem zG4 (x a:Nat):zy7 x a=x %a:=congrFun (congrFun (B4 iE) x) a
theorem i11 (x a:Nat):ins 11 x a=add32 x a:=by rw [ins_eq,mF];simp only [O9,reduceIte,Nat.reduceEqDiff]
theorem i12 (x a:Nat):ins 12 x a=fI x a:=by rw [ins_eq,Zn];simp only [O9,reduceIte,Nat.reduceEqDiff]
theorem i13 (x a:Nat):ins 13 x a=fJ x a:=by rw [ins_eq,mG];simp only [O9,reduceIte,Nat.reduceEqDiff]
theorem i14 (x a:Nat):ins 14 x a=zy6 x a:=by rw [ins_eq,zG3];simp only [O9,reduceIte,Nat.reduceEqDiff]
theorem i15 (x a:Nat):ins 15 x a=zy7 x a:=by rw [ins_eq,zG4];simp only [O9,reduceIte,Nat.reduceEqDiff]
theorem i16 (x a:Nat):ins 16 x a=zy4 x a:=by rw [ins_eq,zG1];simp only [O9,reduceIte,Nat.reduceEqDiff];rfl
theorem i17 (x a:Nat):ins 17 x a=yU1 x a:=by rw [ins_eq,zY8];simp only [O9,reduceIte,Nat.reduceEqDiff];rfl
theorem i18 (x a:Nat):ins 18 x a=zy5 x a:=by rw [ins_eq,zG2];simp only [O9,reduceIte,Nat.reduceEqDiff];rfl
theorem i19 (x a:Nat):ins 19 x a=zy2 x a:=by rw [ins_eq,zF9];simp only [O9,reduceIte,Nat.reduceEqDiff]
theorem i20 (x a:Nat):ins 20 x a=zy3 x a:=by rw [ins_eq,zG0];simp only [O9,reduceIte,Nat.reduceEqDiff]
theorem i21 (x a:Nat):ins 21 x a=if x=a then 1 else 0:=by rw [ins_eq];simp only [O9,reduceIte,Nat.reduceEqDiff]
theorem i22 (x a:Nat):ins 22 x a=if x<a then 1 else 0:=by rw [ins_eq];simp only [O9,reduceIte,Nat.reduceEqDiff]
theorem i23 (x a:Nat):ins 23 x a=if a<x then 1 else 0:=by rw [ins_eq];simp only [O9,reduceIte,Nat.reduceEqDiff]
theorem add_eq {x a:Nat}(b:x+a<4294967296):add32 x a=x+a:=by rw [mF];exact Bf b
theorem mul_eq {x a:Nat}(b:x*a<4294967296):fJ x a=x*a:=by rw [mG];exact Bf b
theorem sub_eq {x a:Nat}(b:a≤x)(c:x<4294967296):fI x a=x - a:=by
 rw [Zn];have:x+4294967296 - a=x - a+4294967296:=by omega
 rw [this,C4];exact Bf (by omega)
theorem sub_lt {x a:Nat}(b:x<a)(hy:a≤4294967296):fI x a=x+4294967296 - a:=by rw [Zn];exact Bf (by omega)
theorem zY9 {p:Prop} [Decidable p]:((if p then 1 else 0)=0)=¬ p:=by split<;>simp [*]
attribute [simp] su wS wE wEs szF yG Uz Rw OM gY Gs.tick Gs.Pj Gs.arr zY9 i11 i12 i13 i14 i15 i16 i17 i18 i19 i20 i21 i22 i23
end Pm
namespace Pm.Acc
open _root_.List renaming replicate→BK
set_option maxRecDepth 100000
def tH:RF:={np:=0,nl:=1,body:=[
 .PN 0 .get,
 .ite (.bin 23 false (.loc 0) (.num 255)) [.stop (.num 16)] [],
 .ret (.loc 0)]}
def tJ:RF:={np:=1,nl:=0,body:=[
 .stop (.bin 11 false (.num 32) (.loc 0))]}
def ym3:RF:={np:=1,nl:=0,body:=[
 .ret (.bin 20 false (.loc 0) (.num 31))]}
def fK:RF:={np:=2,nl:=0,body:=[
 .ite (.loc 1) [.ret (.neg (.loc 0))] [],
 .ret (.loc 0)]}
def ym4:RF:={np:=1,nl:=0,body:=[
 .ret (.call 3 [.loc 0,.bin 20 false (.loc 0) (.num 31)])]}
def ym5:RF:={np:=2,nl:=0,body:=[
 .PN 0 (.bin 11 false (.loc 0) (.loc 1)),
 .PN 1 (.call 4 [.loc 0]),
 .ite (.bin 22 true (.loc 1) (.num 100000)) [.TI 5 (.num 1)] [],
 .ret (.call 3 [.bin 15 false (.loc 1) (.num 100000),.call 2 [.loc 0]])]}
def mH:RF:={np:=0,nl:=1,body:=[
 .PN 0 (.bin 12 false (.call 0 []) (.num 48)),
 .ite (.bin 23 false (.loc 0) (.num 9)) [.stop (.num 16)] [],
 .ret (.loc 0)]}
def tK:RF:={np:=0,nl:=4,body:=[
 .PN 0 (.bin 11 false (.bin 13 false (.call 6 []) (.num 10)) (.call 6 [])),
 .ite (.bin 21 true (.call 0 []) (.num 32)) [.stop (.num 16)] [],
 .PN 1 (.call 0 []),
 .dA (.bin 22 false (.loc 3) (.num 5)) [.PN 2 (.bin 11 false (.bin 13 false (.loc 2) (.num 10)) (.call 6 [])),.PN 3 (.bin 11 false (.loc 3) (.num 1))],
 .ite (.lor (.lor (.lor (.bin 21 true (.call 0 []) (.num 10)) (.land (.bin 21 true (.loc 1) (.num 43)) (.bin 21 true (.loc 1) (.num 45)))) (.bin 21 false (.loc 2) (.num 0))) (.bin 22 false (.loc 0) (.gv 7))) [.stop (.num 16)] [],
 .TI 7 (.bin 11 false (.loc 0) (.num 1)),
 .sj 0 (.loc 0) (.call 3 [.loc 2,.bin 21 false (.loc 1) (.num 45)])]}
def zy8:RF:={np:=1,nl:=5,body:=[
 .PN 1 (.call 4 [.gv 2]),
 .PN 2 (.call 4 [.loc 0]),
 .PN 3 (.bin 18 false (.call 2 [.gv 2]) (.call 2 [.loc 0])),
 .PN 4 (.bin 13 false (.loc 1) (.bin 14 false (.loc 2) (.num 1000))),
 .PN 5 (.bin 11 false (.bin 13 false (.bin 15 false (.loc 4) (.num 100)) (.num 1000)) (.bin 13 false (.loc 1) (.bin 15 false (.loc 2) (.num 1000)))),
 .TI 2 (.call 3 [.bin 15 false (.loc 5) (.num 100000),.loc 3]),
 .TI 3 (.call 3 [.bin 11 false (.bin 14 false (.loc 4) (.num 100)) (.bin 14 false (.loc 5) (.num 100000)),.loc 3])]}
def zZ0:RF:={np:=1,nl:=2,body:=[
 .ite (.bin 21 false (.loc 0) (.num 0)) [.call 1 [.num 6]] [],
 .PN 1 (.call 4 [.gv 2]),
 .PN 2 (.call 4 [.loc 0]),
 .TI 3 (.call 3 [.bin 15 false (.loc 1) (.loc 2),.call 2 [.gv 2]]),
 .TI 2 (.call 3 [.bin 14 false (.loc 1) (.loc 2),.bin 18 false (.call 2 [.gv 2]) (.call 2 [.loc 0])])]}
def zy9:RF:={np:=0,nl:=3,body:=[
 .PN 0 (.call 4 [.gv 2]),
 .PN 1 (.num 10),
 .PN 2 (.bin 11 false (.num 2) (.call 2 [.gv 2])),
 .dA (.bin 22 true (.loc 0) (.loc 1)) [.PN 1 (.bin 13 false (.loc 1) (.num 10)),.PN 2 (.bin 11 false (.loc 2) (.num 1))],
 .ite (.bin 23 false (.bin 11 false (.gv 6) (.loc 2)) (.num 1000)) [.call 1 [.num 7]] [],
 .TI 6 (.bin 11 false (.gv 6) (.loc 2)),
 .ite (.call 2 [.gv 2]) [.put (.num 45)] [],
 .PN 1 (.bin 14 false (.loc 1) (.num 10)),
 .dA (.loc 1) [.put (.bin 11 false (.bin 15 false (.bin 14 false (.loc 0) (.loc 1)) (.num 10)) (.num 48)),.PN 1 (.bin 14 false (.loc 1) (.num 10))],
 .put (.num 10)]}
def zz0:RF:={np:=2,nl:=1,body:=[
 .ite (.bin 23 false (.loc 0) (.num 4)) [.TI 2 (.num 0),.ret (.num 0)] [],
 .PN 2 (.num 1),
 .dA (.loc 0) [.PN 2 (.bin 13 false (.loc 2) (.num 10)),.PN 0 (.bin 12 false (.loc 0) (.num 1))],
 .PN 0 (.call 4 [.gv 2]),
 .ite (.loc 1) [.TI 2 (.call 3 [.bin 15 false (.bin 13 false (.loc 0) (.loc 2)) (.num 100000),.call 2 [.gv 2]])] [.TI 2 (.call 3 [.bin 14 false (.loc 0) (.loc 2),.call 2 [.gv 2]])]]}
def yM6:RF:={np:=2,nl:=0,body:=[
 .ite (.loc 0) [.TI 1 (.loc 1)] []]}
def zz2:RF:={np:=3,nl:=0,body:=[
 .ite (.bin 21 false (.loc 0) (.num 9)) [.call 12 [.bin 21 false (.gv 2) (.num 0),.loc 1]] [],
 .ite (.bin 21 false (.loc 0) (.num 10)) [.call 12 [.gv 5,.loc 1],.TI 5 (.num 0)] [],
 .ite (.bin 21 false (.loc 0) (.num 11)) [.TI 4 (.loc 2)] [],
 .ite (.bin 21 false (.loc 0) (.num 12)) [.TI 4 (.call 5 [.gv 4,.neg (.num 1)]),.call 12 [.gv 4,.loc 1]] [],
 .ite (.bin 21 false (.loc 0) (.num 13)) [.sj 0 (.loc 1) .get] [],
 .ite (.bin 21 false (.loc 0) (.num 14)) [.call 10 []] [],
 .ite (.lor (.bin 21 false (.loc 0) (.num 15)) (.bin 21 false (.loc 0) (.num 16))) [.call 11 [.loc 1,.bin 21 false (.loc 0) (.num 15)]] [],
 .ite (.bin 21 false (.loc 0) (.num 17)) [.PN 2 (.gv 2),.TI 2 (.gv 3),.TI 3 (.loc 2)] []]}
def zG5:RF:={np:=3,nl:=0,body:=[
 .ite (.bin 23 false (.loc 0) (.num 8)) [.call 13 [.loc 0,.loc 1,.loc 2],.ret (.num 0)] [],
 .ite (.bin 21 false (.loc 0) (.num 0)) [.call 1 [.num 1]] [],
 .ite (.bin 21 false (.loc 0) (.num 1)) [.TI 2 (.loc 2)] [],
 .ite (.bin 21 false (.loc 0) (.num 2)) [.sj 0 (.loc 1) (.gv 2)] [],
 .ite (.bin 21 false (.loc 0) (.num 3)) [.TI 2 (.call 5 [.gv 2,.loc 2])] [],
 .ite (.bin 21 false (.loc 0) (.num 4)) [.TI 2 (.call 5 [.gv 2,.neg (.loc 2)])] [],
 .ite (.bin 21 false (.loc 0) (.num 5)) [.call 8 [.loc 2]] [],
 .ite (.bin 21 false (.loc 0) (.num 6)) [.call 9 [.loc 2]] [],
 .ite (.bin 21 false (.loc 0) (.num 7)) [.TI 1 (.loc 1)] [],
 .ite (.bin 21 false (.loc 0) (.num 8)) [.call 12 [.call 2 [.gv 2],.loc 1]] []]}
def yM7:RF:={np:=0,nl:=3,body:=[
 .ite (.bin 21 false (.gv 1) (.num 100)) [.call 1 [.num 3]] [],
 .PN 0 (.ix 0 (.gv 1)),
 .PN 1 (.bin 15 false (.bin 14 false (.loc 0) (.num 100)) (.num 100)),
 .ite (.lor (.bin 23 false (.loc 0) (.num 19999)) (.bin 23 false (.loc 1) (.num 17))) [.call 1 [.num 2]] [],
 .PN 2 (.bin 15 false (.loc 0) (.num 100)),
 .ite (.bin 23 false (.loc 0) (.num 9999)) [.PN 2 (.bin 11 false (.loc 2) (.gv 4))] [],
 .ite (.bin 23 false (.loc 2) (.num 99)) [.call 1 [.num 3]] [],
 .TI 1 (.bin 11 false (.gv 1) (.num 1)),
 .call 14 [.loc 1,.loc 2,.ix 0 (.loc 2)]]}
def tL:RF:={np:=0,nl:=2,body:=[
 .PN 1 (.call 0 []),
 .PN 1 (.bin 11 false (.loc 1) (.bin 13 false (.call 0 []) (.num 256))),
 .PN 0 (.call 0 []),
 .ite (.bin 23 false (.loc 0) (.num 100)) [.stop (.num 16)] [],
 .dA (.loc 0) [.call 7 [],.PN 0 (.bin 12 false (.loc 0) (.num 1))],
 .dA (.loc 1) [.call 15 [],.PN 1 (.bin 12 false (.loc 1) (.num 1))],
 .call 1 [.num 0]]}
def img:List Nat:=[32,1486,28,1301,2,0,1,2,0,9,30,6,1,5,1,9,2,255,23,27,24,2,16,1,5,1,29,2,2,0,29,2,2,32,9,5,3,11,1,2,0,29,1,5,2,9,2,31,20,29,1,2,0,29,1,5,2,27,67,2,0,9,5,4,12,29,1,5,3,29,1,2,0,29,1,5,2,9,5,3,9,2,31,20,9,28,55,10,2,29,1,2,0,29,1,5,3,9,5,3,11,6,3,5,3,9,28,75,10,1,6,2,5,2,9,2,100000,22,24,27,125,2,1,4,1483,5,2,9,2,100000,15,9,5,4,9,28,43,10,1,9,28,55,10,2,29,1,2,0,29,1,2,0,9,28,7,9,2,48,12,6,1,5,1,9,2,9,23,27,172,2,16,1,5,1,29,2,2,0,29,2,2,0,9,9,9,9,28,150,9,2,10,13,9,28,150,11,6,4,28,7,9,2,32,21,24,27,210,2,16,1,28,7,6,3,5,1,9,2,5,22,27,244,5,2,9,2,10,13,9,28,150,11,6,2,5,1,9,2,1,11,6,1,26,214,28,7,9,2,10,21,24,24,27,273,5,3,9,2,43,21,24,27,272,5,3,9,2,45,21,24,24,24,24,24,24,27,284,5,2,9,2,0,21,24,24,24,27,295,5,4,9,3,1485,22,24,24,27,301,2,16,1,5,4,9,2,1,11,4,1485,5,4,25,100,9,5,3,9,5,5,9,2,45,21,9,28,55,10,2,8,1379,2,0,29,5,2,0,9,9,9,9,9,3,1480,9,28,75,10,1,6,5,5,7,9,28,75,10,1,6,4,3,1480,9,28,43,10,1,9,5,8,9,28,43,10,1,18,6,3,5,5,9,5,5,9,2,1000,14,13,6,2,5,2,9,2,100,15,9,2,1000,13,9,5,6,9,5,6,9,2,1000,15,13,11,6,1,5,1,9,2,100000,15,9,5,4,9,28,55,10,2,4,1480,5,2,9,2,100,14,9,5,2,9,2,100000,14,11,9,5,4,9,28,55,10,2,4,1481,2,0,29,6,2,0,9,9,5,4,9,2,0,21,27,476,2,6,9,28,32,10,1,3,1480,9,28,75,10,1,6,2,5,4,9,28,75,10,1,6,1,5,2,9,5,2,15,9,3,1480,9,28,43,10,1,9,28,55,10,2,4,1481,5,2,9,5,2,14,9,3,1480,9,28,43,10,1,9,5,6,9,28,43,10,1,18,9,28,55,10,2,4,1480,2,0,29,3,2,0,9,9,9,3,1480,9,28,75,10,1,6,3,2,10,6,2,2,2,9,3,1480,9,28,43,10,1,11,6,1,5,3,9,5,3,22,24,27,607,5,2,9,2,10,13,6,2,5,1,9,2,1,11,6,1,26,580,3,1484,9,5,2,11,9,2,1000,23,27,626,2,7,9,28,32,10,1,3,1484,9,5,2,11,4,1484,3,1480,9,28,43,10,1,27,646,2,45,31,5,2,9,2,10,14,6,2,5,2,27,683,5,3,9,5,3,14,9,2,10,15,9,2,48,11,31,5,2,9,2,10,14,6,2,26,654,2,10,31,2,0,29,4,2,0,9,5,4,9,2,4,23,27,709,2,0,4,1480,2,0,29,2,2,1,6,1,5,4,27,735,5,1,9,2,10,13,6,1,5,4,9,2,1,12,6,4,26,713,3,1480,9,28,75,10,1,6,4,5,3,27,775,5,4,9,5,2,13,9,2,100000,15,9,3,1480,9,28,43,10,1,9,28,55,10,2,4,1480,26,796,5,4,9,5,2,14,9,3,1480,9,28,43,10,1,9,28,55,10,2,4,1480,2,0,29,2,5,3,27,808,5,2,4,1479,2,0,29,1,5,4,9,2,9,21,27,834,3,1480,9,2,0,21,9,5,4,9,28,800,10,2,5,4,9,2,10,21,27,856,3,1483,9,5,4,9,28,800,10,2,2,0,4,1483,5,4,9,2,11,21,27,868,5,2,4,1482,5,4,9,2,12,21,27,902,3,1482,9,2,0,9,2,1,12,9,28,95,10,2,4,1482,3,1482,9,5,4,9,28,800,10,2,5,4,9,2,13,21,27,918,5,3,25,100,9,30,8,1379,5,4,9,2,14,21,27,928,28,549,5,4,9,2,15,21,24,27,944,5,4,9,2,16,21,24,24,27,961,5,3,9,5,5,9,2,15,21,9,28,690,10,2,5,4,9,2,17,21,27,981,3,1480,6,2,3,1481,4,1480,5,2,4,1481,2,0,29,1,5,4,9,2,8,23,27,1010,5,4,9,5,4,9,5,4,9,28,812,10,3,2,0,29,1,5,4,9,2,0,21,27,1025,2,1,9,28,32,10,1,5,4,9,2,1,21,27,1037,5,2,4,1480,5,4,9,2,2,21,27,1054,5,3,25,100,9,3,1480,8,1379,5,4,9,2,3,21,27,1074,3,1480,9,5,3,9,28,95,10,2,4,1480,5,4,9,2,4,21,27,1098,3,1480,9,2,0,9,5,4,12,9,28,95,10,2,4,1480,5,4,9,2,5,21,27,1113,5,2,9,28,334,10,1,5,4,9,2,6,21,27,1128,5,2,9,28,457,10,1,5,4,9,2,7,21,27,1140,5,3,4,1479,5,4,9,2,8,21,27,1163,3,1480,9,28,43,10,1,9,5,4,9,28,800,10,2,2,0,29,1,2,0,9,9,9,3,1479,9,2,100,21,27,1187,2,3,9,28,32,10,1,3,1479,25,100,7,1379,6,3,5,3,9,2,100,14,9,2,100,15,6,2,5,3,9,2,19999,23,24,27,1223,5,2,9,2,17,23,24,24,27,1233,2,2,9,28,32,10,1,5,3,9,2,100,15,6,1,5,3,9,2,9999,23,27,1257,5,1,9,3,1482,11,6,1,5,1,9,2,99,23,27,1272,2,3,9,28,32,10,1,3,1479,9,2,1,11,4,1479,5,2,9,5,2,9,5,3,25,100,7,1379,9,28,985,10,3,2,0,29,4,2,0,9,9,28,7,6,1,5,1,9,28,7,9,2,256,13,11,6,1,28,7,6,2,5,2,9,2,100,23,27,1336,2,16,1,5,2,27,1352,28,180,5,2,9,2,1,12,6,2,26,1336,5,1,27,1368,28,1167,5,1,9,2,1,12,6,1,26,1352,2,0,9,28,32,10,1,2,0,29,3]++BK 107 0
def g0:List (List Nat):=[BK 100 0,[0],[0],[0],[0],[0],[0],[0]]
def X:Ctx:={img:=img,ce:=1379,fa:=[7,32,43,55,75,95,150,180,334,457,549,690,800,812,985,1167,1301],fs:=[tH,tJ,ym3,fK,ym4,ym5,mH,tK,zy8,zZ0,zy9,zz0,yM6,zz2,zG5,yM7,tL],ga:=[1379,1479,1480,1481,1482,1483,1484,1485],gl:=[100,1,1,1,1,1,1,1],sb:=1486}
theorem prog:Prog X 16 g0:=⟨by decide+kernel,by decide+kernel⟩
theorem zz4:X.fs[0]?= some tH:=rfl
theorem zz5:X.fs[1]?= some tJ:=rfl
theorem zG6:X.fs[3]?= some fK:=rfl
theorem zZ1:X.fs[6]?= some mH:=rfl
theorem zz6:X.fs[7]?= some tK:=rfl
theorem zz7:X.fs[16]?= some tL:=rfl
theorem zZ2:X.gl[0]?.getD 0=100:=rfl
theorem zz8:X.gl[7]?.getD 0=1:=rfl
end Pm.Acc
namespace Pm.Acc
open _root_.List renaming cons_append→BS,drop_eq_getElem_cons→AR,getElem?_cons_succ→DG,getElem?_cons_zero→Ei,getElem_mem→F7,mem_append→Fi,mem_cons→AH,not_mem_nil→Ba,set_cons_succ→Eo,set_cons_zero→En,take_succ_eq_append_getElem→FT
open _root_.Nat renaming lt_of_lt_of_le→Ar,pow_succ→D6
open _root_.Option renaming getD_some→CU
open _root_.Or renaming inl→AO,inr→AB
set_option maxRecDepth 100000
set_option maxHeartbeats 1600000
theorem U5 {n:Nat}{Q S:Nat→Gs→Prop}{g:List (List Nat)}{inp out:List Nat}{t:Nat}(a:match inp with|[]=>∀ t2,t2≤t+20→S 16 ⟨g,[],out,t2⟩|b::l=>b<256∧∀ t2,t2≤t+20→Q b ⟨g,l,out,t2⟩):fG X n 0 [] Q S ⟨g,inp,out,t⟩:=by
 refine prog.call zz4 rfl ?_
 unfold wF tH;simp;cases inp with
 |nil=>simpa using a _ (by omega)
 |cons b l=>
  simp only at a ⊢;rw [if_pos (by omega)];exact a.2 _ (by omega)
theorem fM {n:Nat}(f:1≤n){Q S:Nat→Gs→Prop}{g:List (List Nat)}{b:Nat}{l out:List Nat}{t:Nat}(h:b<256)(c:if 48≤b∧b≤57 then ∀t2,t2≤t+50→Q (b - 48) ⟨g,l,out,t2⟩else ∀t2,t2≤t+50→S 16 ⟨g,l,out,t2⟩):fG X n 6 [] Q S ⟨g,b::l,out,t⟩:=by
 refine prog.call zZ1 rfl ?_
 unfold wF mH;simp;refine⟨f,U5 ⟨h,fun t2 i=>?_⟩⟩;split at c
 ·rename_i d;rw [sub_eq d.1 (by omega),if_pos (by omega)];exact c _ (by omega)
 ·rename_i d;have e:9<fI b 48:=by
   by_cases h1:b<48
   ·rw [sub_lt h1 (by omega)];omega
   ·rw [sub_eq (by omega) (by omega)];omega
  rw [if_neg (by omega)];exact c _ (by omega)
noncomputable def sgn (v m:Nat):Nat:=if m=0 then v else fI 0 v
theorem zG7 {n:Nat}{Q S:Nat→Gs→Prop}{v m:Nat}{g:List (List Nat)}{inp out:List Nat}{t:Nat}(a:∀ t2,t2≤t+20→Q (sgn v m) ⟨g,inp,out,t2⟩):fG X n 3 [v,m] Q S ⟨g,inp,out,t⟩:=by
 refine prog.call zG6 rfl ?_
 unfold wF fK;simp;unfold sgn at a;split
 ·rename_i b;rw [if_pos b]at a;exact a _ (by omega)
 ·rename_i b;rw [if_neg b]at a;exact a _ (by omega)
theorem zz9 {n:Nat}{Q S:Nat→Gs→Prop}{k:Nat}{g:List (List Nat)}{inp out:List Nat}{t:Nat}(b:k<100)(a:∀ t2,t2≤t+20→S (32+k) ⟨g,inp,out,t2⟩):fG X n 1 [k] Q S ⟨g,inp,out,t⟩:=by
 refine prog.call zz5 rfl ?_
 unfold wF tJ;simp;rw [add_eq (by omega)];exact a _ (by omega)
def gs (ws:List Nat)(b a q x c wr nx:Nat)(inp out:List Nat)(t:Nat):Gs:=⟨[ws,[b],[a],[q],[x],[c],[wr],[nx]],inp,out,t⟩
def dg (c:Nat):Prop:=48≤c∧c≤57
instance (c:Nat):Decidable (dg c):=by unfold dg;exact inferInstance
def iH (a b c d e:Nat):Nat:=(((((a - 48)*10+(b - 48))*10+(c - 48))*10+(d - 48))*10+(e - 48))
def qW:Nat→List Nat→Nat→Nat
 |0,_,v=>v
 |k+1,c::l,v=>qW k l (v*10+(c - 48))
 |_+1,[],v=>v
def UO (nx:Nat)(c0 c1 g a b c d e f h:Nat):Prop:=
 dg c0∧dg c1∧g=32∧(a=43∨a=45)∧(dg b∧dg c∧dg d∧dg e∧dg f)∧h=10∧iH b c d e f≠0∧nx≤(c0 - 48)*10+(c1 - 48)
instance (nx c0 c1 b c d e f g h i:Nat):Decidable (UO nx c0 c1 b c d e f g h i):=by unfold UO;exact inferInstance
theorem more {v c:Nat}(a:v<100000)(hc:dg c):add32 (fJ v 10) (c - 48)=v*10+(c - 48):=by
 unfold dg at hc;rw [mul_eq (by omega),add_eq (by omega)]
theorem z00 {n:Nat}(ho:2≤n){Q S:Nat→Gs→Prop}{ws:List Nat}{D a q x E wr nx:Nat}{c0 c1 F o b f h j m s:Nat}{l out:List Nat}{t:Nat}
 (h3:c0<256∧c1<256∧F<256∧o<256∧b<256∧f<256∧h<256∧j<256∧m<256∧s<256)
 (A:¬ UO nx c0 c1 F o b f h j m s→∀ G2,G2.t≤t+1000→S 16 G2)
 (h4:UO nx c0 c1 F o b f h j m s→∀ t2,t2≤t+1000→Q 0 (gs (ws.set ((c0 - 48)*10+(c1 - 48)) (sgn (iH b f h j m) (if o=45 then 1 else 0))) D a q x E wr ((c0 - 48)*10+(c1 - 48)+1) l out t2)):
 fG X n 7 [] Q S (gs ws D a q x E wr nx (c0::c1::F::o::b::f::h::j::m::s::l) out t):=by
 refine prog.call zz6 rfl ?_
 unfold wF tK gs;simp [zZ2,zz8];have u:0<n:=by omega
 obtain⟨h5,h6,h7,h8,hp,hq,hr,hs,ht,h9⟩:=h3;refine⟨u,fM (by omega) h5 ?_⟩;split
 case isFalse M=>exact fun t2 ha=>A (fun k=>M k.1) _ (by simp;omega)
 rename_i M;intro hu hv;refine⟨u,fM (by omega) h6 ?_⟩;split
 case isFalse h1=>exact fun t2 ha=>A (fun k=>h1 k.2.1) _ (by simp;omega)
 rename_i h1;intro t1 hw;refine⟨u,U5 ⟨h7,fun t2 hx=>?_⟩⟩;split
 case isFalse N=>exact A (fun k=>N k.2.2.1) _ (by simp;omega)
 rename_i N;refine⟨u,U5 ⟨h8,fun U hy=>?_⟩⟩;have hb:add32 (fJ (c0 - 48) 10) (c1 - 48)=(c0 - 48)*10+(c1 - 48):=more (by omega) h1;rw [hb];generalize hz:(c0 - 48)*10+(c1 - 48)=i at*
 have W:i<100:=by omega
 refine⟨fun H G=>∃ k v,k≤5∧H=[i,o,v,k]∧v=qW k [b,f,h,j,m] 0∧(∀c∈[b,f,h,j,m].take k,dg c)∧v<10 ^k∧∃ O,O≤U+80*k∧G=⟨[ws,[D],[a],[q],[x],[E],[wr],[nx]],[b,f,h,j,m].drop k++s::l,out,O⟩,
  ⟨0,0,by omega,rfl,rfl,by simp,by omega,U,by omega,rfl⟩,fun H _=>5 - H[3]?.getD 0,?_⟩
 rintro H G x0 ⟨k,v,x1,rfl,Y,Z,hd,O,x2,rfl⟩;simp only [DG,Ei,CU,Eo,En];by_cases I:5≤k
 ·rw [if_pos I];have I:k=5:=by omega
  subst I;have P:v=iH b f h j m:=by rw [Y];simp [qW,iH]
  have he:dg b∧dg f∧dg h∧dg j∧dg m:=by simpa using Z
  refine⟨u,U5 ⟨h9,fun K h0=>?_⟩⟩;have z:¬ (s=10∧(o=43∨o=45)∧v≠0∧nx≤i)→∀ G2:Gs,G2.t≤t+1000→S 16 G2:=fun hf G2 hg=>A (fun k=>hf ⟨k.2.2.2.2.2.1,k.2.2.2.1,by rw [P];exact k.2.2.2.2.2.2.1,by have:=k.2.2.2.2.2.2.2;omega⟩) G2 hg
  have h2:(o=43∨o=45)→s=10→v≠0→nx≤i→0<n∧fG X (n - 1) 3 [v,if o=45 then 1 else 0] (fun v G2=>Q 0 {g:=G2.g.set 0 ((G2.g[0]?.getD []).set i v),inp:=G2.inp,out:=G2.out,t:=G2.t}) S {g:=[ws,[D],[a],[q],[x],[E],[wr],[add32 i 1]],inp:=l,out:=out,t:=K}:=by
   intro hh w p r;refine⟨u,zG7 fun hi x3=>?_⟩;have:=h4 ⟨M,h1,N,hh,he,w,by rw [←P];exact p,by omega⟩ hi (by omega);rw [add_eq (by omega),P];exact this
  simp only [DG,Ei,CU,Eo,En];by_cases w:s=10
  ·rw [if_pos w];by_cases R:o=43
   ·rw [if_pos R];by_cases p:v=0
    ·rw [if_pos p];exact z (fun k=>k.2.2.1 p) _ (by simp;omega)
    ·rw [if_neg p];by_cases r:nx≤i
     ·rw [if_pos r,if_pos W];exact h2 (AO R) w p r
     ·rw [if_neg r];exact z (fun k=>r k.2.2.2) _ (by simp;omega)
   ·rw [if_neg R];by_cases B:o=45
    ·rw [if_pos B];by_cases p:v=0
     ·rw [if_pos p];exact z (fun k=>k.2.2.1 p) _ (by simp;omega)
     ·rw [if_neg p];by_cases r:nx≤i
      ·rw [if_pos r,if_pos W];have:=h2 (AB B) w p r;rw [if_pos B]at this;rw [if_pos B];exact this
      ·rw [if_neg r];exact z (fun k=>r k.2.2.2) _ (by simp;omega)
    ·rw [if_neg B];exact z (fun k=>by rcases k.2.1 with e|e<;>omega) _ (by simp;omega)
  ·rw [if_neg w];exact z (fun k=>w k.1) _ (by simp;omega)
 ·rw [if_neg I];have hlen:k<[b,f,h,j,m].length:=by simp;omega
  obtain⟨c,hc⟩:∃ c,c=[b,f,h,j,m][k]:=⟨_,rfl⟩;have hj:[b,f,h,j,m].drop k=c::[b,f,h,j,m].drop (k+1):=by rw [hc];exact AR hlen
  have hk:[b,f,h,j,m].take (k+1)=[b,f,h,j,m].take k++[c]:=by rw [hc];exact FT hlen
  have T:c∈[b,f,h,j,m]:=by rw [hc];exact F7 hlen
  have hl:c<256:=by simp only [AH,Ba,or_false]at T;omega
  have hm:qW (k+1) [b,f,h,j,m] 0=qW k [b,f,h,j,m] 0*10+(c - 48):=by
   have:k=0∨k=1∨k=2∨k=3∨k=4:=by omega
   rcases this with rfl|rfl|rfl|rfl|rfl<;>(rw [hc];simp [qW])
  rw [hj,BS];refine⟨u,fM (by omega) hl ?_⟩;split
  ·rename_i L;intro K h0;have hn:v<100000:=Ar hd (by
    have:k=0∨k=1∨k=2∨k=3∨k=4:=by omega
    rcases this with rfl|rfl|rfl|rfl|rfl<;>decide)
   rw [more hn L,add_eq (by omega)];refine⟨⟨k+1,_,by omega,rfl,by rw [hm,←Y],?_,?_,K,by omega,rfl⟩,by simp;omega⟩
   ·intro d y;rw [hk,Fi]at y;rcases y with y|y
    ·exact Z d y
    ·simp at y;subst y;exact L
   ·rw [D6];omega
  ·rename_i L;intro K h0;refine A (fun q=>L ?_) _ (by simp;omega);have C:=q.2.2.2.2.1;simp only [AH,Ba,or_false]at T;rcases T with e|e|e|e|e<;>rw [e]
   ·exact C.1
   ·exact C.2.1
   ·exact C.2.2.1
   ·exact C.2.2.2.1
   ·exact C.2.2.2.2
end Pm.Acc
namespace Pm.Acc
open _root_.List renaming getElem?_cons_succ→DG,getElem?_cons_zero→Ei,mem_cons→AH,replicate→BK,set_cons_succ→Eo,set_cons_zero→En
open _root_.Option renaming getD_some→CU
open _root_.Or renaming inl→AO,inr→AB
set_option maxRecDepth 100000
set_option maxHeartbeats 1600000
set_option linter.unusedSimpArgs false
set_option linter.unusedVariables false
def Mf:Nat→Nat→List Nat→Prop
 |0,_,_=>True
 |k+1,nx,c0::c1::a::b::c::d::e::f::c8::c9::l=>UO nx c0 c1 a b c d e f c8 c9∧Mf k ((c0 - 48)*10+(c1 - 48)+1) l
 |_+1,_,_=>False
theorem ten {l:List Nat}{k:Nat}(a:l.length=10*(k+1)):∃ c0 c1 c d e f g h i j b,l=c0::c1::c::d::e::f::g::h::i::j::b∧b.length=10*k:=by
 match l,a with
 |c0::c1::c::d::e::f::g::h::i::j::b,a=>exact⟨c0,c1,c,d,e,f,g,h,i,j,b,rfl,by simp at a;omega⟩
 |[],a=>simp at a
 |[_],a=>simp at a;omega
 |[_,_],a=>simp at a;omega
 |[_,_,_],a=>simp at a;omega
 |[_,_,_,_],a=>simp at a;omega
 |[_,_,_,_,_],a=>simp at a;omega
 |[_,_,_,_,_,_],a=>simp at a;omega
 |[_,_,_,_,_,_,_],a=>simp at a;omega
 |[_,_,_,_,_,_,_,_],a=>simp at a;omega
 |[_,_,_,_,_,_,_,_,_],a=>simp at a;omega
theorem yI {S:Nat→Gs→Prop}{k:Nat}{b:List Nat}(p:k≤100)(r:b.length=10*k)(s:∀ c∈b,c<256)
 (u:¬ Mf k 0 b→∀ G,G.t≤200000→S 16 G) (v:Mf k 0 b→∀ G,G.t≤200000→S 32 G):
 fG X 4 16 [] (fun _ G=>S 0 G) S ⟨g0,0::0::k::b,[],5⟩:=by
 refine prog.call zz7 rfl ?_
 unfold wF tL;simp;refine U5 ⟨by omega,fun t1 R=>U5 ⟨by omega,fun t2 T=>U5 ⟨by omega,fun m U=>?_⟩⟩⟩;rw [if_pos p];have w:add32 0 (fJ 0 256)=0:=by rw [mul_eq (by omega),add_eq (by omega)]
 rw [w];refine⟨fun e G=>∃ (j:Nat) (ws:List Nat) (nx:Nat) (d:List Nat) (f:Nat),j≤k∧e=[j,0]∧d.length=10*j∧(∀c∈d,c<256)∧(Mf j nx d↔Mf k 0 b)∧f≤m+1100*(k - j)∧G=gs ws 0 0 0 0 0 0 nx d [] f,
  ⟨k,BK 100 0,0,b,m,by omega,rfl,r,s,Iff.rfl,by omega,rfl⟩,fun e _=>e[0]?.getD 0,?_⟩
 rintro e G x ⟨j,ws,nx,d,f,W,rfl,y,z,g,Y,rfl⟩;simp only [DG,Ei,CU,Eo,En];by_cases h:j=0
 ·rw [if_pos h];subst h;have A:Mf k 0 b:=g.1 trivial;refine⟨fun e G=>e=[0,0]∧G=gs ws 0 0 0 0 0 0 nx d [] f,⟨rfl,rfl⟩,fun _ _=>0,?_⟩;rintro e G x ⟨rfl,rfl⟩;simp only [DG,Ei,CU,if_true];unfold gs;exact zz9 (by omega) fun l n=>v A _ (by show l≤_;omega)
 ·rw [if_neg h];obtain⟨i,rfl⟩:∃ i,j=i+1:=⟨j - 1,by omega⟩;obtain⟨c0,c1,Z,h0,h1,h2,h3,h4,h5,h6,B,rfl,C⟩:=ten y;have o:=z;simp only [AH,forall_eq_or_imp]at o;obtain⟨D,m1,E,F,H,I,K,L,M,N,O⟩:=o;refine z00 (by omega) ⟨D,m1,E,F,H,I,K,L,M,N⟩ (fun P G2 Q=>u (fun q=>P ((g.2 q).1)) G2 ?_) (fun hc l n=>?_)
  ·simp only [gs]at Q;omega
  ·rw [sub_eq (by omega) (by omega)];refine⟨⟨i,_,_,B,l,by omega,rfl,C,O,⟨fun q=>g.1 ⟨hc,q⟩,fun q=>(g.2 q).2⟩,?_,rfl⟩,by simp⟩;simp only [gs]at n;omega
theorem zG8 {k:Nat}{a:List Nat}(g:k≤100)(h:a.length=10*k)(i:∀ c∈a,c<256):
 ∃j b c,it j (ms0 img (0::0::k::a))=b∧j≤200000∧b.stop=1∧b.code=c∧((¬Mf k 0 a∧c=16)∨(Mf k 0 a∧c=32)):=by
 obtain⟨j,b,c,G2,h1,m,f,l⟩:=prog.run (n:=4) (S:=fun c G=>G.t≤200000∧((¬Mf k 0 a∧c=16)∨(Mf k 0 a∧c=32))) (inp:=0::0::k::a) (by omega)
  (yI (S:=fun c G=>G.t≤200000∧((¬Mf k 0 a∧c=16)∨(Mf k 0 a∧c=32))) g h i (fun d G e=>⟨e,AO ⟨d,rfl⟩⟩) (fun d G e=>⟨e,AB ⟨d,rfl⟩⟩))
 exact⟨j,b,c,h1,by omega,f.1,f.2.1,l.2⟩
end Pm.Acc

/- The program acc refuses a deck exactly if ReadDeck reports an error: for every text. The package variables hold what the program's text lays; digest.initial may hold anything. -/
import Derived.Test.YtmkomefmgcpnbaaGreatDoorMg28
import Derived.Test.YtmkomefmgcpnbaaGreatDoorMg29
import Derived.Test.YtmkomefmgcpnbaaGreatDoorMg30
import Derived.Test.YtmkomefmgcpnbaaGreatDoorMg31
set_option linter.all false
namespace Go.Proofs.YtmkomefmgcpnbaaGreatDoor
open _root_.Array renaming getElem?_eq_some_iff→Ag,toList_inj→F9
open Go renaming Calls→As,IntKind→Fv,TypeId→AK,Value→h,World→Y,laidMetH→Jl
open Go.DataW renaming TrodAll→Gh
open Go.Ending renaming returned→Ak
open Go.IntKind renaming i64→Ad
open Go.Lib renaming TabIs→Jm
open Go.Proofs.Tryz renaming f3→E8,func3→Hk,underlying3→Bq,underlying4→By,underlying9→A8
open Go.TypeDesc renaming array→DX
open Go.Value renaming int→V,pointer→Ae
open Go.World renaming laidAll→Ec
open _root_.Option.some renaming inj→DJ
open Go Go.ChangeShapes Go.WideShapes Go.ChangeAt Go.RowKit Go.Clock
set_option maxRecDepth 100000
theorem yS {name:String}{g n:Nat}{k:Fv}{b:List Int}{c:DataW Unit}{W:Y}(f:Jl Tryz.prog OU W)(h:OU.filter (fun x=>x.1==name)=[(name,c)])(i:c=Lib.tabData k b)(d:Tryz.prog.globalNamed name=some g)(j:g<13)(l:b.length=n)
 (m:∃ t e,(Tryz.prog.globals[g]?).map (·.type)=some t∧Tryz.prog.underlying t=some (DX n e)∧Tryz.prog.underlying e=some (.int k)∧Tryz.prog.cellsOf e=1∧Tryz.prog.cellsOf t=n):Lib.TabBelow Tryz.prog 13 W name k b:=by
 have o:laidMet Tryz.prog OU W:=f;have p:laidMet Tryz.prog [(name,c)] W:=by rw [←h];exact o.filter (fun x=>x.1==name)
 subst i l;obtain⟨t,e,t1,t2,q,r,s⟩:=m;have a:Jm Tryz.prog W name k b:=Lib.tabIs_of_head d t1 t2 q r s p;intro w' u;unfold Jm World.var? at a ⊢;simp only [d,Option.bind_some]at a ⊢;rw [u.block g j];exact a
theorem z15 {W:Y}(a:Jl Tryz.prog OU W)(b:W.ShapedOpen Tryz.prog):∃ m,P8 W m:=by
 obtain⟨m,c⟩:=cell_of_shapedOpen_int (g:=7) (zero:= #[V Ad 0]) (t:=3) b (of_decide_eq_true (by kernel_rfl)) (by kernel_rfl) rfl (by kernel_rfl) (by kernel_rfl) Bq;obtain⟨cs,d, -⟩:=b.1 12 #[Ae none] 284 (of_decide_eq_true (by kernel_rfl)) (by kernel_rfl);exact⟨m,⟨⟨yS (g:=2) (n:=256) a rfl (by kernel_rfl) (by kernel_rfl) (by decide) (by kernel_rfl) ⟨_,_,rfl,rfl,rfl,by kernel_rfl,by kernel_rfl⟩,yS (g:=6) (n:=20) a rfl (by kernel_rfl) (by kernel_rfl) (by decide) (by kernel_rfl) ⟨_,_,rfl,rfl,rfl,by kernel_rfl,by kernel_rfl⟩,(Ag.1 d).1⟩,c⟩⟩
theorem yT:∀ t∈E8.params.toList,Tryz.prog.readableRec t=true∧t<Tryz.prog.types.size:=by
 rw [Tryz.params3];intro t a;obtain rfl:t=9:=by simpa using a
 exact⟨by kernel_rfl,of_decide_eq_true (by kernel_rfl)⟩
theorem oW (b:Type)(enc:AK×h→b)(W:Y)(base:Nat)(args:Array h)(ds gs:List (DataW b))(before:List MemPlace)
 (c:∀ (j:Nat) t v,E8.params[j]?= some t→args[j]?= some v→Value.okWide Tryz.prog W .any base t v)
 (d:DataW.Whole enc Tryz.prog E8.params.toList Rows.programsAccReadsDecksSpec.vars false W args.toList ds gs before) (k:Jl Tryz.prog OU W) (l:W.ShapedOpen Tryz.prog):
 As Tryz.prog 3 args W fun e a=>∃ v,e=Ak v∧Rows.programsAccReadsDecksSpec.post enc Tryz.prog E8 false true false false W args v {a with os:=W.os}∧Later W.os a.os:=by
 have n:=d;obtain⟨p,q,o,C,rfl,D,E⟩:=d;have f:Gh enc Tryz.prog W 0 (fun _=>true) true E8.params.toList args.toList ds p:=o;rw [Tryz.params3]at f c;obtain⟨g,F,G,H,I,K,r,rfl,rfl,s,u⟩:=trodAll_cons f;obtain⟨rfl,rfl,rfl⟩:=trodAll_nil u;have w:args= #[g]:=by
  apply F9.1;exact r
 subst w;obtain⟨x,rfl,L,M,y⟩:=Go.ChangeMaps.open_string A8 (c 0 9 g rfl rfl) s;obtain⟨m,z⟩:=z15 k l;refine(yn0 x m W z y).mono fun e a ⟨A,B⟩=>?_
 subst A;have i:=Since.of_below B;exact⟨_,rfl,za3 laidOut yT rfl By rfl rfl n i.2,i.1⟩
theorem yU (a:Os)(started:a.Started)(b:Type)(enc:AK×h→b)(F:Stop.Interp):
 ReturnsInHanded {calm:=true} Tryz.checked a 3 .any ((OpenSpec.ofChange Rows.programsAccReadsDecksSpec).preRow enc Tryz.prog E8 [] false OU)
  ((OpenSpec.ofChange Rows.programsAccReadsDecksSpec).postWith enc Tryz.prog E8 F (outsideKept [.timePasses]) false true false):=by
 refine returns_of_change (C:=Tryz.checked) (X:=fun w _=>Jl Tryz.prog OU w) (fun _ _ _ c d=>d.of_heap c) own started (by kernel_rfl) Hk
  (witness_at (enc:=enc) (C:=Tryz.checked) (X:=fun w _=>Jl Tryz.prog OU w) (Ec Tryz.prog a OU) RI 8 (World.laidAll_os _ _ _) (World.shaped_of_ZipB (z1 a) (z2 a)) (o1 a) (p1 a enc) (s1 a enc) (m1 a)) ?_
 intro W base args ds gs before e f _ _ g i;exact oW b enc W base args ds gs before e f g i
theorem za4:Rows.ProgramsAccReadsDecksSaid:=
 holds_of_wide_time 3 E8 rfl rfl rfl rfl rfl rfl rfl ⟨rfl,rfl,rfl,rfl,rfl⟩ rfl rfl rfl rfl rfl za0 Hk yR za1 za2
  (fun a started b enc _ F=>by rw [OpenClaim.pre_eq_preRow];exact yU a started b enc F)
theorem zH8 (f:FuncId)(fn:Func)(b:Tryz.pinned.checked.prog.funcNamed "scriptorium/scriptoriumlaw8.ProgramsAccReadsDecks" =some f)(c:Tryz.pinned.checked.prog.funcs[f]?= some fn):
 true=Tryz.pinned.checked.prog.looks []∧∀ (j:Nat) t,fn.params[j]?= some t→Tryz.pinned.checked.prog.wantsStandIn t=false:=by
 obtain rfl:f=3:=DJ ((show Tryz.prog.funcNamed "scriptorium/scriptoriumlaw8.ProgramsAccReadsDecks" =some 3 by kernel_rfl).symm.trans b) |>.symm
 obtain rfl:fn=E8:=(DJ (Hk.symm.trans c)).symm;refine⟨by kernel_rfl,fun j t a=>?_⟩;rw [Tryz.params3]at a;obtain rfl:t=9:=by simpa using Array.mem_of_getElem? a
 exact(show Tryz.prog.wantsStandIn 9=false by kernel_rfl)
theorem dck_card:Rows.ProgramsAccReadsDecksCardSaid:=
 Claim7.holds_tied_plain_at .later [] _ _ _ _ za4 (fun _ a=>by cases a) (by kernel_rfl) (fun _ a=>by cases a) programsAccReadsDecks_row_tie rfl ⟨rfl,rfl⟩ (by kernel_rfl) rfl zH8 (by kernel_rfl)
end Go.Proofs.YtmkomefmgcpnbaaGreatDoor

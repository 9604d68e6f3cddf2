import Derived.Test.YtmkomefmgcpnbaaGreatDoorMg5
import Derived.Carry
import Derived.ChangeSlices
import Derived.OpenShut
import Derived.ProofKit
set_option linter.all false
set_option maxHeartbeats 12800000
set_option maxRecDepth 100000
namespace Go.Proofs.YtmkomefmgcpnbaaGreatDoor
open Go Go.RowKit Go.WideShapes Go.ChangeShapes
open Go renaming Program→BR,TypeId→AK,Value→h,World→Y
open Go.DataW renaming TrodAll→Gh
open Go.RowKit renaming Below→IL
open Go.Value renaming bool→AE
open _root_.List renaming append_nil→BP
open _root_.Or renaming inr→AB
section
variable {H:Type}{enc:AK×h→H}{P:BR}
theorem ZA (i:laidOutB P=true){W j:Y}(k:IL W.heap.size W j)(e:Nat→Bool):∀ {c:List AK}{vs:List h}{ds:List (DataW H)}{b:List MemPlace},
 (∀t∈c,P.readableRec t=true∧t<P.types.size)→Gh enc P W 0 (fun _=>true) true c vs ds b→(∀x∈b,x.block<W.heap.size)→(∀x∈b,e x.block=true)→Gh enc P j 0 e true c vs ds b
 |[],vs,ds,b,_,f,_,_=>by
  obtain⟨rfl,rfl,rfl⟩:=trodAll_nil f;exact trodAll_mk0
 |t::c,vs,ds,b,g,f,l,m=>by
  obtain⟨v,u,d,w,p,q,rfl,rfl,rfl,n,o⟩:=trodAll_cons f;refine trodAll_cons_mk (WideElems.Trod_stays i (g t (by simp)).1 (g t (by simp)).2 n (fun x a=>k.same (l x (by simp [a]))) fun x a=>m x (by simp [a])) ?_
  exact ZA i k e (fun r s=>g r (by simp [s])) o (fun x a=>l x (by simp [a])) fun x a=>m x (by simp [a])
theorem za3 {f:Func}{s:ChangeSpec}{W d:Y}{args:Array h}{ds gs:List (DataW H)}{before:List MemPlace}{n:AK}{fresh handsOn again:Bool}
 (B:laidOutB P=true) (C:∀ t∈f.params.toList,P.readableRec t=true∧t<P.types.size) (o:f.resultTypes= #[n]) (q:P.underlying n=some .bool)
 (r:s.vars=[]) (i:(s.fn H ds)={results:=[.lit (.bool true)],args:=ds})
 (k:DataW.Whole enc P f.params.toList s.vars false W args.toList ds gs before) (l:IL W.heap.size W d):
 s.post enc P f false fresh handsOn again W args (AE true) d:=by
 have m:∀ p∈before,p.block<W.heap.size:=fun p a=>k.lt p a
 have D:=k;obtain⟨M,N,E,u,v,F,O⟩:=k;rw [r]at u;obtain⟨G,I⟩:=trodVars_none u;subst G;subst I;rw [BP]at v;subst v;have hold:∀ p∈before,(fun b=>decide (b<W.heap.size)) p.block=true:=fun p a=>by simpa using m p a
 have w:∀ (b:Nat) (c:Nat→Bool) (x:Bool),Gh enc P d b c x f.resultTypes.toList ((AE true).resultList f.resultTypes.size) (s.fn H (ds++[])).results []:=fun b c x=>by
  rw [o,BP,i];exact trodAll_cons_mk (shut_bool q _) trodAll_mk0
 have y:∀ c:Nat→Bool,(∀p∈before,c p.block=true)→Gh enc P d 0 c true f.params.toList args.toList (s.fn H (ds++[])).args before:=fun c K=>by
  rw [BP,i];exact ZA B l c C E m K
 have z:∀ c:Nat→Bool,DataW.TrodVars enc P d c s.vars (s.fn H (ds++[])).vars []:=fun c=>by
  rw [r,BP,i];exact rfl
 refine⟨ds,[],before,[],before,[],D,w _ _ _,y _ hold,z _,World.keptBut_mono (fun p a=>⟨a,AB (by simpa using a)⟩) (l.frame (· ∈before)),fun _=>?_⟩;refine⟨?_,_,_,([]++before)++[],⟨[]++before,[],trodAll_append (y _ (fun _ _=>rfl)) (w _ _ _),z _,rfl,?_,?_⟩,?_⟩
 ·intro j t Q e g;rw [o]at e g
  match j,e,g with
  |0,e,g=>
   simp [Value.resultList]at e g;subst e;subst g;exact okWide_bool_mk q _
 ·intro b off a;have A:MemPlace.cell b off∈before:=by simpa using a
  rw [l.frozen (m _ A)];exact F b off A
 ·intro L;cases L
 ·intro p a _;simpa using a
end
end Go.Proofs.YtmkomefmgcpnbaaGreatDoor

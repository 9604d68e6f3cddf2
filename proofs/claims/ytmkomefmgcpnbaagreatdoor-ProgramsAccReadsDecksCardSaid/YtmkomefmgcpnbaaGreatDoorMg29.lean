import Derived.Test.YtmkomefmgcpnbaaGreatDoorCards
import Derived.Test.YtmkomefmgcpnbaaGreatDoorTie
import Derived.Deep.DeepHandedRow
import Derived.Lib.LaidTab
import Derived.ChangeMaps5
import Derived.ChangeArms
import Derived.Clock
import Derived.Lay
import Derived.MakeChecks
import Derived.Stop.Joined
set_option linter.all false
set_option maxHeartbeats 12800000
set_option maxRecDepth 100000
namespace Go.Proofs.YtmkomefmgcpnbaaGreatDoor
open Go Go.ChangeShapes Go.WideShapes Go.ChangeAt Go.RowKit Go.Clock
open Go renaming TypeId→AK,Value→h,laidMetH→Jl
open Go.Proofs.Tryz renaming f3→E8
open Go.Value renaming string→Aa
open Go.World renaming laidAll→Ec
def OU:List (String×DataW Unit):=[("math/bits.deBruijn32tab",Rows.laid_math_bits_deBruijn32tab),("math/bits.deBruijn64tab",Rows.laid_math_bits_deBruijn64tab),("internal/strconv.uint64pow10",Rows.laid_internal_strconv_uint64pow10),("scriptorium/digest.constants",Rows.laid_scriptorium_digest_constants),("unicode/utf8.acceptRanges",Rows.laid_unicode_utf8_acceptRanges),("strconv.ErrRange",Rows.laid_strconv_ErrRange),("strconv.ErrSyntax",Rows.laid_strconv_ErrSyntax),("unicode.White_Space",Rows.laid_unicode_White_Space),("strings.asciiSpace",Rows.laid_strings_asciiSpace),("unicode/utf8.first",Rows.laid_unicode_utf8_first)]
def RI:Array h:= #[Aa ⟨#[]⟩]
theorem f1 (a:Os):(World.holding Tryz.prog a ⟨#[],#[],[]⟩).layFits Tryz.prog OU []=true:=by kernel_rfl
theorem f2 (a:Os):(World.holding Tryz.prog a ⟨#[],#[],[]⟩).layIfaces Tryz.prog OU (Ec Tryz.prog a OU)=true:=by kernel_rfl
theorem z1 (a:Os):((Ec Tryz.prog a OU).forCall (fun _ _=>0) ⟨#[],RI,[]⟩).variablesZipB Tryz.prog=true:=by kernel_rfl
theorem z2 (a:Os):(((Ec Tryz.prog a OU).forCall (fun _ _=>0) ⟨#[],RI,[]⟩).heap.toList.drop Tryz.prog.globals.size).take ((begin Tryz.prog (fun _ _=>0) default).world.heap.size - Tryz.prog.globals.size)=
 (begin Tryz.prog (fun _ _=>0) default).world.heap.toList.drop Tryz.prog.globals.size:=by kernel_rfl
theorem o1 (a:Os):Input.okWideB Tryz.prog ((Ec Tryz.prog a OU).forCall (fun _ _=>0) ⟨#[],RI,[]⟩) 3 ⟨#[],RI,[]⟩=true:=by kernel_rfl
theorem p1 (a:Os){b:Type}(enc:AK×h→b):Rows.programsAccReadsDecksSpec.preB enc Tryz.prog E8 [] false ((Ec Tryz.prog a OU).forCall (fun _ _=>0) ⟨#[],RI,[]⟩).memory RI 8=true:=by kernel_rfl
theorem s1 (a:Os){b:Type}(enc:AK×h→b):Rows.programsAccReadsDecksSpec.sizedB enc Tryz.prog E8 false ((Ec Tryz.prog a OU).forCall (fun _ _=>0) ⟨#[],RI,[]⟩).memory RI 8=true:=by kernel_rfl
theorem m1 (a:Os):Jl Tryz.prog OU ((Ec Tryz.prog a OU).forCall (fun _ _=>0) ⟨#[],RI,[]⟩).memory:=by
 rw [MakeChecks.laidMetH_plain _ _ _ (by kernel_rfl)];exact laidMet_laidAll _ (f1 a) (f2 a)
end Go.Proofs.YtmkomefmgcpnbaaGreatDoor

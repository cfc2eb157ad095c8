/-
  THE STATEMENT ShapeStraight: any shape straightened, its text, the first and the last of its spots in order, as the document has them: from the walks and the plain laws ahead.
-/
import Derived.Test.YtmeohhbdkoeadaaGreatShape1
import Derived.Test.YtmeohhbdkoeadaaGreatSpotSorts10
import Derived.Test.YtmeohhbdkoeadaaGreatAm4
set_option linter.unusedSimpArgs false
set_option linter.unusedSectionVars false
set_option linter.unusedVariables false
set_option maxRecDepth 100000
namespace Go.Proofs.YtmeohhbdkoeadaaGreat
open Go.ChangeShapes Go.WideShapes Go.ChangeAt Go.RowKit
open Go.Proofs.YtmeohhbdkoeadaaGreat.Am
theorem Tryz.own:ownKnob Tryz.prog.godebug = none:=by kernel_rfl
theorem Tryz.laidOut:laidOutB Tryz.prog = true:=by kernel_rfl
def gTrue:GInv:=⟨fun _=>True,0,fun _ _=>Nat.zero_le _,fun _ _ _ _ _=>trivial⟩
theorem u28:Tryz.prog.underlying 28 = some (.int .u64):=by kernel_rfl
theorem ub4:Tryz.prog.underlying 4 = some .bool:=by kernel_rfl
instance drI:Inhabited DRT:=⟨⟨True⟩⟩
theorem o_sps:Opens Tryz.prog 22 (fun l:List RS=>[slS l]) (fun l=>∀ r ∈ l,Rk r):=o_spots u28 ub4
theorem args1 {im:Nat → Prop} {W:World} {x0:A} {v0:Value} (h0:RelI im W x0 v0) :
  ∀ j (_:j < [x0].length) (_:j < [v0].length),RelI im W [x0][j] [v0][j]:=by
 intro j h _
 match j with
 | 0=>exact h0
 | j + 1=>exact absurd h (by simp)
theorem shapeStraight_lifted (os:Os) (started:os.Started) (H:Type) (enc:TypeId × Value → H) :
  ReturnsInHanded {} Tryz.checked os 4 .any (Rows.shapeStraightSpec.pre6 enc Tryz.prog Tryz.f4 Rows.shapeStraightRow.domain false) (Rows.shapeStraightSpec.post enc Tryz.prog Tryz.f4 false true false false):=by
 refine returnsInHanded_of_change (C:=Tryz.checked) Tryz.own started (by kernel_rfl) Tryz.func4
  (ChangeSpec.witness6 (enc:=enc) (C:=Tryz.checked) false ⟨#[],#[.slice none 0 0],[]⟩ 8 (by kernel_rfl) (by kernel_rfl) (by kernel_rfl) (by kernel_rfl)) ?_
 intro W base args ds gs before hval0 hW hcnd _
 have hval:∀ (j:Nat) t v,Tryz.f4.params[j]? = some t → args[j]? = some v → Value.okWide Tryz.prog W .any base t v:=hval0
 have hW':=hW
 obtain ⟨p,q,hA0,hV,rfl,hfz,hnd⟩:=hW
 have hA:DataW.TrodAll enc Tryz.prog W 0 (fun _=>true) true Tryz.f4.params.toList args.toList ds p:=hA0
 rw [Tryz.params4] at hA hval
 obtain ⟨v0,d0,rfl,rfl,h0⟩:=trodAll_one hA
 obtain ⟨rfl,rfl⟩:=trodVars_none hV
 have hlt:∀ x ∈ p,x.block < W.heap.size:=fun x hx=>hW'.lt x (by simpa using hx)
 obtain ⟨l,ok0,r0⟩:=o_sps.cell (im:=fun b=>b < W.heap.size) h0 (okWide_cell (hval 0 22 v0 rfl rfl) (by kernel_rfl)) (fun x hx=>hlt x (by simp [hx]))
 refine Calls_mono (calls_true (G:=gTrue) (shapeStraight_c (show (default:DRT).ns from trivial) l ok0) (W:=W) (vs:=[v0]) (im:=fun b=>b < W.heap.size) (fun _ h=>h) trivial rfl (args1 r0)) ?_
 rintro e W' ⟨rfl,hb⟩
 exact ⟨_,rfl,post_true Tryz.laidOut rfl (by kernel_rfl) Tryz.underlying4 (by kernel_rfl) rfl hW' hb⟩
theorem shapeStraight_holds:Rows.ShapeStraightSaid :=
 OpenClaim.holds_of_wide 4 Tryz.f4 rfl rfl rfl rfl rfl rfl rfl ⟨rfl,rfl,rfl,rfl,rfl⟩ rfl rfl rfl rfl rfl (by kernel_rfl) Tryz.func4 (by kernel_rfl)
  (of_decide_eq_true (by kernel_rfl)) (by unfold Func.isWrapper;first|(rw [if_pos (by decide +kernel)];kernel_rfl)|(rw [if_neg (by decide +kernel)];exact ⟨rfl,rfl⟩))
  (fun os started H enc _=>shapeStraight_lifted os started H enc)
#print axioms shapeStraight_holds
end Go.Proofs.YtmeohhbdkoeadaaGreat

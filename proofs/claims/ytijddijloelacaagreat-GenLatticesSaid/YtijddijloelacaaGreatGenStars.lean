/-
  ANY STAR AND ANY COMB, AND THEIR NETS: the law GenStars is true of every input.
-/
import Derived.Test.YtijddijloelacaaGreatGenStars5
import Derived.Test.YtijddijloelacaaGreatGenStarsm4
set_option linter.unusedSimpArgs false
set_option linter.unusedSectionVars false
set_option linter.unusedVariables false
set_option maxRecDepth 100000
namespace Go.Proofs.YtijddijloelacaaGreat
open Go.ChangeShapes Go.WideShapes Go.ChangeAt Go.RowKit
open Go.Proofs.YtijddijloelacaaGreat.Am
theorem Tryz.own:ownKnob Tryz.prog.godebug=none:=by kernel_rfl
theorem Tryz.laidOut:laidOutB Tryz.prog=true:=by kernel_rfl
def QH:aG:=⟨fun _=>True,0,fun _ _=>Nat.zero_le _,fun _ _ _ _ _=>trivial⟩
theorem u3:Tryz.prog.underlying 3=some (.int .i64):=by kernel_rfl
instance YV:Inhabited bY:=⟨⟨True⟩⟩
theorem QI:xy Tryz.prog 3 (fun n:Int=>[.int .i64 n]) (fun n=>-9223372036854775808<=n/\n<=9223372036854775807):=D0 u3
theorem QJ{im:Nat->Prop}{W:World}{x0:A}{v0:Value}(h0:aw im W x0 v0):
  ∀j (_:j<[x0].length) (_:j<[v0].length),aw im W [x0][j] [v0][j]:=by
 intro j h _
 match j with
 | 0=>exact h0
 | j+1=>exact absurd h (by simp)
theorem qA(os:Os)(started:os.Started)(H:Type)(enc:TypeId×Value->H):
  ReturnsInHanded {} Tryz.checked os 3 .any (Rows.genStarsSpec.pre6 enc Tryz.prog Tryz.f3 Rows.genStarsRow.domain false) (Rows.genStarsSpec.post enc Tryz.prog Tryz.f3 false true false false):=by
 refine returnsInHanded_of_change (C:=Tryz.checked) Tryz.own started (by kernel_rfl) Tryz.func3
  (ChangeSpec.witness6 (enc:=enc) (C:=Tryz.checked) false ⟨#[],#[.int .i64 0],[]⟩ 8 (by kernel_rfl) (by kernel_rfl) (by kernel_rfl) (by kernel_rfl)) ?_
 intro W base args ds gs before QK hW W9 _;have tX:∀(j:Nat) t v,Tryz.f3.params[j]?=some t->args[j]?=some v->Value.okWide Tryz.prog W .any base t v:=QK;have QL:=hW;obtain⟨p,q,Xa,hV,rfl,YW,oK⟩:=hW;have hA:DataW.TrodAll enc Tryz.prog W 0 (fun _=>true) true Tryz.f3.params.toList args.toList ds p:=Xa;rw[Tryz.params3] at hA tX;obtain⟨v0,d0,rfl,rfl,h0⟩:=trodAll_one hA;obtain⟨rfl,rfl⟩:=trodVars_none hV;have aI:∀x∈p,x.block<W.heap.size:=fun x hx=>QL.lt x (by simpa using hx);obtain⟨n,YX,r0⟩:=QI.cell (im:=fun b=>b<W.heap.size) h0 (xz (tX 0 3 v0 rfl rfl) (by kernel_rfl)) (fun x hx=>aI x (by simp[hx]));refine bg (Av (G:=QH) (Aw (show(default:bY).ns from trivial) n) (W:=W) (vs:=[v0]) (im:=fun b=>b<W.heap.size) (fun _ h=>h) trivial rfl (QJ r0)) ?_;rintro e W' ⟨rfl,hb⟩;exact⟨_,rfl,D3 Tryz.laidOut rfl (by kernel_rfl) Tryz.underlying4 (by kernel_rfl) rfl QL hb⟩
theorem andT_ {a b : Bool} (h : a = true) (k : b = true) : (a && b) = true := by rw [h, k]; rfl
theorem fnN_ : Tryz.prog.funcNamed Rows.genStarsRow.func = some 3 := by kernel_rfl
set_option maxHeartbeats 40000000 in
theorem cloF_ : joinedFacts Tryz.prog 3 Tryz.f3 Rows.genStarsSpec Rows.genStarsRow = true := by
  unfold joinedFacts
  repeat' (with_reducible refine andT_ ?_ ?_)
  all_goals (as_aux_lemma => kernel_rfl)
theorem genStars_holds:Rows.GenStarsSaid :=
 OpenClaim.holds_of_wide 3 Tryz.f3 rfl rfl rfl rfl rfl rfl rfl ⟨rfl,rfl,rfl,rfl,rfl⟩ rfl rfl rfl rfl rfl fnN_ Tryz.func3 cloF_
  (of_decide_eq_true (by kernel_rfl)) (by unfold Func.isWrapper;first|(rw[if_pos (by decide +kernel)];kernel_rfl)|(rw[if_neg (by decide +kernel)];exact⟨rfl,rfl⟩))
  (fun os started H enc _=>qA os started H enc)
#print axioms genStars_holds
end Go.Proofs.YtijddijloelacaaGreat

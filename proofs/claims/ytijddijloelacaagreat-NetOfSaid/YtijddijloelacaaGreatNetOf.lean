/-
  THE NET OF ANY ROADS: the law NetOf is true of every input.
-/
import Derived.Test.YtijddijloelacaaGreatNetOf7
import Derived.Test.YtijddijloelacaaGreatAm4
set_option linter.unusedSimpArgs false
set_option linter.unusedSectionVars false
set_option linter.unusedVariables false
set_option maxRecDepth 100000
namespace Go.Proofs.YtijddijloelacaaGreat
open Go.ChangeShapes Go.WideShapes Go.ChangeAt Go.RowKit
open Go.Proofs.YtijddijloelacaaGreat.Am
theorem Tryz.own:ownKnob Tryz.prog.godebug=none:=by kernel_rfl
theorem Tryz.laidOut:laidOutB Tryz.prog=true:=by kernel_rfl
def XW:aK:=⟨fun _=>True,0,fun _ _=>Nat.zero_le _,fun _ _ _ _ _=>trivial⟩
theorem u3:Tryz.prog.underlying 3=some (.int .i64):=by kernel_rfl
theorem u4:Tryz.prog.underlying 4=some .bool:=by kernel_rfl
instance drI:Inhabited cF:=⟨⟨True⟩⟩
theorem GQ:iB Tryz.prog 3 (fun n:Int=>[.int .i64 n]) (fun n=>-9223372036854775808<=n/\n<=9223372036854775807):=IY u3
theorem o_pt:iB Tryz.prog 33 ki (fun _=>True) :=
 (qS (t:=33) (L:=[(3,0,1),(3,1,1)]) (by kernel_rfl) (by kernel_rfl) (gM GQ (gM GQ wa))).to
  (fun x=>(⟨x.1,x.2.1⟩:Pt)) (fun _=>rfl) (fun _ _=>trivial)
theorem XX:iB Tryz.prog 28 (fun l:List Pt=>[Cs l]) (fun _=>True) :=
 (nP (e:=33) (sz:=2) (by kernel_rfl) o_pt (by kernel_rfl) (by omega)).to id (fun _=>rfl) (fun _ _=>trivial)
theorem Uh:iB Tryz.prog 29 (fun l:List Int=>[lU l]) (fun _=>True) :=
 (nP (e:=3) (sz:=1) (by kernel_rfl) GQ (by kernel_rfl) (by omega)).to id (fun _=>rfl) (fun _ _=>trivial)
theorem Ui:iB Tryz.prog 4 (fun b:Bool=>[.sb b]) (fun _=>True):=EW u4
theorem o_rd:iB Tryz.prog 31 xz (fun _=>True) :=
 (qS (t:=31) (L:=[(3,0,1),(28,1,1),(29,2,1),(4,3,1)]) (by kernel_rfl) (by kernel_rfl) (gM GQ (gM XX (gM Uh (gM Ui wa))))).to
  (fun x=>(⟨x.1,x.2.1,x.2.2.1,x.2.2.2.1⟩:Rd)) (fun _=>rfl) (fun _ _=>trivial)
theorem XY:iB Tryz.prog 22 (fun l:List Rd=>[jC l]) (fun _=>True) :=
 (nP (e:=31) (sz:=4) (by kernel_rfl) o_rd (by kernel_rfl) (by omega)).to id (fun _=>rfl) (fun _ _=>trivial)
theorem XZ{im:Nat->Prop}{W:World}{x0:A}{v0:Value}(h0:aA im W x0 v0):
  ∀j (_:j<[x0].length) (_:j<[v0].length),aA im W [x0][j] [v0][j]:=by
 intro j h _
 match j with
 | 0=>exact h0
 | j+1=>exact absurd h (by simp)
theorem Ae(os:Os)(started:os.Started)(H:Type)(enc:TypeId×Value->H):
  ReturnsInHanded {} Tryz.checked os 6 .any (Rows.netOfSpec.pre6 enc Tryz.prog Tryz.f6 Rows.netOfRow.domain false) (Rows.netOfSpec.post enc Tryz.prog Tryz.f6 false true false false):=by
 refine returnsInHanded_of_change (C:=Tryz.checked) Tryz.own started (by kernel_rfl) Tryz.func6
  (ChangeSpec.witness6 (enc:=enc) (C:=Tryz.checked) false ⟨#[],#[.slice none 0 0],[]⟩ 8 (by kernel_rfl) (by kernel_rfl) (by kernel_rfl) (by kernel_rfl)) ?_
 intro W base args ds gs before X3 hW hcnd _;have xC:∀(j:Nat) t v,Tryz.f6.params[j]?=some t->args[j]?=some v->Value.okWide Tryz.prog W .any base t v:=X3;have XC:=hW;obtain⟨p,q,hA0,hV,rfl,hfz,sn⟩:=hW;have hA:DataW.TrodAll enc Tryz.prog W 0 (fun _=>true) true Tryz.f6.params.toList args.toList ds p:=hA0;rw[Tryz.params6] at hA xC;obtain⟨v0,d0,rfl,rfl,h0⟩:=trodAll_one hA;obtain⟨rfl,rfl⟩:=trodVars_none hV;have aH:∀x∈p,x.block<W.heap.size:=fun x hx=>XC.lt x (by simpa using hx);obtain⟨l,ok0,r0⟩:=XY.cell (im:=fun b=>b<W.heap.size) h0 (Cr (xC 0 22 v0 rfl rfl) (by kernel_rfl)) (fun x hx=>aH x (by simp[hx]));refine bD (EE (G:=XW) (Qc (show(default:cF).ns from trivial) l) (W:=W) (vs:=[v0]) (im:=fun b=>b<W.heap.size) (fun _ h=>h) trivial rfl (XZ r0)) ?_;rintro e W' ⟨rfl,hb⟩;exact⟨_,rfl,IE Tryz.laidOut rfl (by kernel_rfl) Tryz.underlying4 (by kernel_rfl) rfl XC hb⟩
theorem andT_ {a b : Bool} (h : a = true) (k : b = true) : (a && b) = true := by rw [h, k]; rfl
theorem fnN_ : Tryz.prog.funcNamed Rows.netOfRow.func = some 6 := by kernel_rfl
set_option maxHeartbeats 40000000 in
theorem cloF_ : joinedFacts Tryz.prog 6 Tryz.f6 Rows.netOfSpec Rows.netOfRow = true := by
  unfold joinedFacts
  repeat' (with_reducible refine andT_ ?_ ?_)
  all_goals (as_aux_lemma => kernel_rfl)
theorem netOf_holds:Rows.NetOfSaid :=
 OpenClaim.holds_of_wide 6 Tryz.f6 rfl rfl rfl rfl rfl rfl rfl ⟨rfl,rfl,rfl,rfl,rfl⟩ rfl rfl rfl rfl rfl fnN_ Tryz.func6 cloF_
  (of_decide_eq_true (by kernel_rfl)) (by unfold Func.isWrapper;first|(rw[if_pos (by decide +kernel)];kernel_rfl)|(rw[if_neg (by decide +kernel)];exact⟨rfl,rfl⟩))
  (fun os started H enc _=>Ae os started H enc)
#print axioms netOf_holds
end Go.Proofs.YtijddijloelacaaGreat

/-
  THE THEOREM OF PIECES: the law NetPieces is true of every input.
-/
import Derived.Test.YtijddijloelacaaGreatNetPieces5
import Derived.Test.YtijddijloelacaaGreatNetPiecesm4
set_option linter.unusedSimpArgs false
set_option linter.unusedSectionVars false
set_option linter.unusedVariables false
set_option maxRecDepth 100000
namespace Go.Proofs.YtijddijloelacaaGreat
open Go.ChangeShapes Go.WideShapes Go.ChangeAt Go.RowKit
open Go.Proofs.YtijddijloelacaaGreat.Am
theorem Tryz.own:ownKnob Tryz.prog.godebug=none:=by kernel_rfl
theorem Tryz.laidOut:laidOutB Tryz.prog=true:=by kernel_rfl
def SV:aG:=⟨fun _=>True,0,fun _ _=>Nat.zero_le _,fun _ _ _ _ _=>trivial⟩
theorem u3:Tryz.prog.underlying 3=some (.int .i64):=by kernel_rfl
theorem u4:Tryz.prog.underlying 4=some .bool:=by kernel_rfl
instance drI:Inhabited cc:=⟨⟨True⟩⟩
theorem Dz:gb Tryz.prog 3 (fun n:Int=>[.int .i64 n]) (fun n=>-9223372036854775808<=n/\n<=9223372036854775807):=Fv u3
theorem Wk:gb Tryz.prog 33 lP (fun _=>True) :=
 (oy (t:=33) (L:=[(3,0,1),(3,1,1)]) (by kernel_rfl) (by kernel_rfl) (fP Dz (fP Dz sX))).to
  (fun x=>(⟨x.1,x.2.1⟩:Pt)) (fun _=>rfl) (fun _ _=>trivial)
theorem SW:gb Tryz.prog 28 (fun l:List Pt=>[yD l]) (fun _=>True) :=
 (lS (e:=33) (sz:=2) (by kernel_rfl) Wk (by kernel_rfl) (by omega)).to id (fun _=>rfl) (fun _ _=>trivial)
theorem PC:gb Tryz.prog 29 (fun l:List Int=>[oz l]) (fun _=>True) :=
 (lS (e:=3) (sz:=1) (by kernel_rfl) Dz (by kernel_rfl) (by omega)).to id (fun _=>rfl) (fun _ _=>trivial)
theorem PD:gb Tryz.prog 4 (fun b:Bool=>[.sb b]) (fun _=>True):=BA u4
theorem Wl:gb Tryz.prog 31 u5 (fun _=>True) :=
 (oy (t:=31) (L:=[(3,0,1),(28,1,1),(29,2,1),(4,3,1)]) (by kernel_rfl) (by kernel_rfl) (fP Dz (fP SW (fP PC (fP PD sX))))).to
  (fun x=>(⟨x.1,x.2.1,x.2.2.1,x.2.2.2.1⟩:Rd)) (fun _=>rfl) (fun _ _=>trivial)
theorem SX:gb Tryz.prog 22 (fun l:List Rd=>[kO l]) (fun _=>True) :=
 (lS (e:=31) (sz:=4) (by kernel_rfl) Wl (by kernel_rfl) (by omega)).to id (fun _=>rfl) (fun _ _=>trivial)
theorem SY{im:Nat->Prop}{W:World}{x0:A}{v0:Value}(h0:aw im W x0 v0):
  ∀j (_:j<[x0].length) (_:j<[v0].length),aw im W [x0][j] [v0][j]:=by
 intro j h _
 match j with
 | 0=>exact h0
 | j+1=>exact absurd h (by simp)
theorem pG(os:Os)(started:os.Started)(H:Type)(enc:TypeId×Value->H):
  ReturnsInHanded {} Tryz.checked os 5 .any (Rows.netPiecesSpec.pre6 enc Tryz.prog Tryz.f5 Rows.netPiecesRow.domain false) (Rows.netPiecesSpec.post enc Tryz.prog Tryz.f5 false true false false):=by
 refine returnsInHanded_of_change (C:=Tryz.checked) Tryz.own started (by kernel_rfl) Tryz.func5
  (ChangeSpec.witness6 (enc:=enc) (C:=Tryz.checked) false ⟨#[],#[.slice none 0 0],[]⟩ 8 (by kernel_rfl) (by kernel_rfl) (by kernel_rfl) (by kernel_rfl)) ?_
 intro W base args ds gs before SZ hW ZI _;have u6:∀(j:Nat) t v,Tryz.f5.params[j]?=some t->args[j]?=some v->Value.okWide Tryz.prog W .any base t v:=SZ;have S0:=hW;obtain⟨p,q,ZJ,hV,rfl,hfz,pH⟩:=hW;have hA:DataW.TrodAll enc Tryz.prog W 0 (fun _=>true) true Tryz.f5.params.toList args.toList ds p:=ZJ;rw[Tryz.params5] at hA u6;obtain⟨v0,d0,rfl,rfl,h0⟩:=trodAll_one hA;obtain⟨rfl,rfl⟩:=trodVars_none hV;have aD:∀x∈p,x.block<W.heap.size:=fun x hx=>S0.lt x (by simpa using hx);obtain⟨l,ok0,r0⟩:=SX.cell (im:=fun b=>b<W.heap.size) h0 (yE (u6 0 22 v0 rfl rfl) (by kernel_rfl)) (fun x hx=>aD x (by simp[hx]));refine bl (BB (G:=SV) (yF (show(default:cc).ns from trivial) l) (W:=W) (vs:=[v0]) (im:=fun b=>b<W.heap.size) (fun _ h=>h) trivial rfl (SY r0)) ?_;rintro e W' ⟨rfl,hb⟩;exact⟨_,rfl,Fw Tryz.laidOut rfl (by kernel_rfl) Tryz.underlying4 (by kernel_rfl) rfl S0 hb⟩
theorem andT_ {a b : Bool} (h : a = true) (k : b = true) : (a && b) = true := by rw [h, k]; rfl
theorem fnN_ : Tryz.prog.funcNamed Rows.netPiecesRow.func = some 5 := by kernel_rfl
set_option maxHeartbeats 40000000 in
theorem cloF_ : joinedFacts Tryz.prog 5 Tryz.f5 Rows.netPiecesSpec Rows.netPiecesRow = true := by
  unfold joinedFacts
  repeat' (with_reducible refine andT_ ?_ ?_)
  all_goals (as_aux_lemma => kernel_rfl)
theorem netPieces_holds:Rows.NetPiecesSaid :=
 OpenClaim.holds_of_wide 5 Tryz.f5 rfl rfl rfl rfl rfl rfl rfl ⟨rfl,rfl,rfl,rfl,rfl⟩ rfl rfl rfl rfl rfl fnN_ Tryz.func5 cloF_
  (of_decide_eq_true (by kernel_rfl)) (by unfold Func.isWrapper;first|(rw[if_pos (by decide +kernel)];kernel_rfl)|(rw[if_neg (by decide +kernel)];exact⟨rfl,rfl⟩))
  (fun os started H enc _=>pG os started H enc)
#print axioms netPieces_holds
end Go.Proofs.YtijddijloelacaaGreat

/-
  The walks and plain laws, part 4.
-/
import Derived.Test.YtmeohhbdkoeadaaGreatSpotSorts2
set_option linter.unusedSimpArgs false
set_option linter.unusedSectionVars false
set_option linter.unusedVariables false
set_option maxRecDepth 100000
set_option maxHeartbeats 4000000
namespace Go.Proofs.YtmeohhbdkoeadaaGreat
open Go.Proofs.YtmeohhbdkoeadaaGreat.Am
variable [Inhabited DRT]
variable {G:GInv}
/-! ### Eight words times one, laid from a place on, upon others -/
def cy1 (C:Nat → Nat):Nat → A
 | 0=>.int .u64 (C 0:Nat)
 | 1=>.int .u64 (C 1:Nat)
 | 2=>.int .u64 (C 2:Nat)
 | 3=>.int .u64 (C 3:Nat)
 | 4=>.int .u64 (C 4:Nat)
 | 5=>.int .u64 (C 5:Nat)
 | 6=>.int .u64 (C 6:Nat)
 | _=>.int .u64 0
def bx1 (O Z:Nat → Nat):Nat → Blk
 | 0=>.box 30 [.int .u64 (O 0:Nat),.int .u64 (O 1:Nat),.int .u64 (O 2:Nat),.int .u64 (O 3:Nat),.int .u64 (O 4:Nat),.int .u64 (O 5:Nat),.int .u64 (O 6:Nat),.int .u64 (O 7:Nat)]
 | 1=>.box 30 [.int .u64 (O 0:Nat),.int .u64 (Z 1:Nat),.int .u64 (O 2:Nat),.int .u64 (O 3:Nat),.int .u64 (O 4:Nat),.int .u64 (O 5:Nat),.int .u64 (O 6:Nat),.int .u64 (O 7:Nat)]
 | 2=>.box 30 [.int .u64 (O 0:Nat),.int .u64 (Z 1:Nat),.int .u64 (Z 2:Nat),.int .u64 (O 3:Nat),.int .u64 (O 4:Nat),.int .u64 (O 5:Nat),.int .u64 (O 6:Nat),.int .u64 (O 7:Nat)]
 | 3=>.box 30 [.int .u64 (O 0:Nat),.int .u64 (Z 1:Nat),.int .u64 (Z 2:Nat),.int .u64 (Z 3:Nat),.int .u64 (O 4:Nat),.int .u64 (O 5:Nat),.int .u64 (O 6:Nat),.int .u64 (O 7:Nat)]
 | 4=>.box 30 [.int .u64 (O 0:Nat),.int .u64 (Z 1:Nat),.int .u64 (Z 2:Nat),.int .u64 (Z 3:Nat),.int .u64 (Z 4:Nat),.int .u64 (O 5:Nat),.int .u64 (O 6:Nat),.int .u64 (O 7:Nat)]
 | 5=>.box 30 [.int .u64 (O 0:Nat),.int .u64 (Z 1:Nat),.int .u64 (Z 2:Nat),.int .u64 (Z 3:Nat),.int .u64 (Z 4:Nat),.int .u64 (Z 5:Nat),.int .u64 (O 6:Nat),.int .u64 (O 7:Nat)]
 | 6=>.box 30 [.int .u64 (O 0:Nat),.int .u64 (Z 1:Nat),.int .u64 (Z 2:Nat),.int .u64 (Z 3:Nat),.int .u64 (Z 4:Nat),.int .u64 (Z 5:Nat),.int .u64 (Z 6:Nat),.int .u64 (O 7:Nat)]
 | 7=>.box 30 [.int .u64 (O 0:Nat),.int .u64 (Z 1:Nat),.int .u64 (Z 2:Nat),.int .u64 (Z 3:Nat),.int .u64 (Z 4:Nat),.int .u64 (Z 5:Nat),.int .u64 (Z 6:Nat),.int .u64 (Z 7:Nat)]
 | _=>.box 30 [.int .u64 (O 0:Nat),.int .u64 (Z 1:Nat),.int .u64 (Z 2:Nat),.int .u64 (Z 3:Nat),.int .u64 (Z 4:Nat),.int .u64 (Z 5:Nat),.int .u64 (Z 6:Nat),.int .u64 (Z 7:Nat)]
theorem row_gen1 (A O C H L K D Y Z:Nat → Nat) (b:Nat) (h0:C 0 = 0) (h8:C 7 = 0) (hc:∀ i,i < 7 → C (i + 1) = H i + K i + D i ∧ H i + K i + D i < 18446744073709551616)
  (hz:∀ j,j < 1 → Z j = O j)
  (h1:∀ i,i < 7 → ACalls Tryz.prog G 161 [.int .u64 (A i:Int),.int .u64 (b:Int)] (.tup [.int .u64 (H i:Int),.int .u64 (L i:Int)]))
  (h1z:∀ i,7 ≤ i → i < 8 → ACalls Tryz.prog G 161 [.int .u64 (A i:Int),.int .u64 (b:Int)] (.tup [.int .u64 0,.int .u64 0]))
  (h2:∀ i,i < 7 → ACalls Tryz.prog G 148 [.int .u64 (L i:Int),.int .u64 (C i:Int),.int .u64 0] (.tup [.int .u64 (Y i:Int),.int .u64 (K i:Int)]))
  (h3:∀ i,i < 7 → ACalls Tryz.prog G 148 [.int .u64 (Y i:Int),.int .u64 (O (i + 1):Int),.int .u64 0] (.tup [.int .u64 (Z (i + 1):Int),.int .u64 (D i:Int)])) :
  ACalls Tryz.prog G 149 [wideA O,wideA A,.int .u64 (b:Int),.int .i64 1] (.tup [wideA Z,.sb true]):=by
 have z0:=hz 0 (by omega)
 have k0:C 1 = H 0 + K 0 + D 0:=(hc 0 (by omega)).1
 have m0:=(hc 0 (by omega)).2
 have a0:=h1 0 (by omega)
 have b0:=h2 0 (by omega)
 have c0:=h3 0 (by omega)
 have k1:C 2 = H 1 + K 1 + D 1:=(hc 1 (by omega)).1
 have m1:=(hc 1 (by omega)).2
 have a1:=h1 1 (by omega)
 have b1:=h2 1 (by omega)
 have c1:=h3 1 (by omega)
 have k2:C 3 = H 2 + K 2 + D 2:=(hc 2 (by omega)).1
 have m2:=(hc 2 (by omega)).2
 have a2:=h1 2 (by omega)
 have b2:=h2 2 (by omega)
 have c2:=h3 2 (by omega)
 have k3:C 4 = H 3 + K 3 + D 3:=(hc 3 (by omega)).1
 have m3:=(hc 3 (by omega)).2
 have a3:=h1 3 (by omega)
 have b3:=h2 3 (by omega)
 have c3:=h3 3 (by omega)
 have k4:C 5 = H 4 + K 4 + D 4:=(hc 4 (by omega)).1
 have m4:=(hc 4 (by omega)).2
 have a4:=h1 4 (by omega)
 have b4:=h2 4 (by omega)
 have c4:=h3 4 (by omega)
 have k5:C 6 = H 5 + K 5 + D 5:=(hc 5 (by omega)).1
 have m5:=(hc 5 (by omega)).2
 have a5:=h1 5 (by omega)
 have b5:=h2 5 (by omega)
 have c5:=h3 5 (by omega)
 have k6:C 7 = H 6 + K 6 + D 6:=(hc 6 (by omega)).1
 have m6:=(hc 6 (by omega)).2
 have a6:=h1 6 (by omega)
 have b6:=h2 6 (by omega)
 have c6:=h3 6 (by omega)
 have a7:=h1z 7 (by omega) (by omega)
 clear hc hz h1 h1z h2 h3
 unfold wideA
 refine ACalls.of_WA ttok Tryz.func149 rfl rfl _ rfl ?_
 conv=>whnf
 repeat (first|refine sq ?_|refine bk ?_|((first|refine rg ttok ?_|refine dw ttok mixed ?_|refine cd ?_|refine sk ?_|refine xt ?_|refine rt ?_);conv=>whnf))
 refine WA_loopI (fun i:Nat=>i ≤ 8) (fun i=>[(10,cy1 C i),(11,.sb true),(20,.int .i64 (i:Int))]) (fun i=>[bx1 O Z i,bxF A,bxF (fun _=>0)]) (fun i=>8 - i) 0 (by omega) ?_ ?_
 ·conv=>whnf
  repeat (first|exact fa|((first|refine fb ?_|(refine And.intro ?_ ?_;rotate_left));conv=>whnf))
  all_goals first|exact (congrArg Nat.cast h0).symm
 ·intro i hi
  have e:i = 0 ∨ i = 1 ∨ i = 2 ∨ i = 3 ∨ i = 4 ∨ i = 5 ∨ i = 6 ∨ i = 7 ∨ i = 8:=by omega
  rcases e with rfl | rfl | rfl | rfl | rfl | rfl | rfl | rfl | rfl
  ·clear k1 m1 a1 b1 c1 k2 m2 a2 b2 c2 k3 m3 a3 b3 c3 k4 m4 a4 b4 c4 k5 m5 a5 b5 c5 k6 m6 a6 b6 c6 a7
   conv=>whnf
   repeat' (first|refine sq ?_|refine bk ?_|((first|refine rg ttok ?_|refine dw ttok mixed ?_|refine cd ?_|refine sk ?_|refine xt ?_|refine rt ?_);conv=>whnf)|(refine And.intro (fun h=>?_) (fun h=>?_) <;> (try simp only [brsA] at h) <;> conv=>whnf)|(refine Or.inl ?_;(conv=>whnf);(first|refine ⟨_,a0,?_⟩|refine ⟨_,b0,?_⟩|refine ⟨_,c0,?_⟩);conv=>whnf)|((first|refine wf ?_|refine wp' ?_|refine ai ?_|refine And.intro rfl ?_|refine an ?_|fail);conv=>whnf))
   all_goals first|contradiction|(exfalso;omega)|skip
   all_goals refine ⟨1,by decide,by decide,?_⟩
   all_goals
    conv=>whnf
    repeat (first|exact fa|((first|refine fb ?_|(refine And.intro ?_ ?_;rotate_left));conv=>whnf))
    all_goals first|omega
  ·clear k0 m0 a0 b0 c0 k2 m2 a2 b2 c2 k3 m3 a3 b3 c3 k4 m4 a4 b4 c4 k5 m5 a5 b5 c5 k6 m6 a6 b6 c6 a7
   conv=>whnf
   repeat' (first|refine sq ?_|refine bk ?_|((first|refine rg ttok ?_|refine dw ttok mixed ?_|refine cd ?_|refine sk ?_|refine xt ?_|refine rt ?_);conv=>whnf)|(refine And.intro (fun h=>?_) (fun h=>?_) <;> (try simp only [brsA] at h) <;> conv=>whnf)|(refine Or.inl ?_;(conv=>whnf);(first|refine ⟨_,a1,?_⟩|refine ⟨_,b1,?_⟩|refine ⟨_,c1,?_⟩);conv=>whnf)|((first|refine wf ?_|refine wp' ?_|refine ai ?_|refine And.intro rfl ?_|refine an ?_|fail);conv=>whnf))
   all_goals first|contradiction|(exfalso;omega)|skip
   all_goals refine ⟨2,by decide,by decide,?_⟩
   all_goals
    conv=>whnf
    repeat (first|exact fa|((first|refine fb ?_|(refine And.intro ?_ ?_;rotate_left));conv=>whnf))
    all_goals first|omega
  ·clear k0 m0 a0 b0 c0 k1 m1 a1 b1 c1 k3 m3 a3 b3 c3 k4 m4 a4 b4 c4 k5 m5 a5 b5 c5 k6 m6 a6 b6 c6 a7
   conv=>whnf
   repeat' (first|refine sq ?_|refine bk ?_|((first|refine rg ttok ?_|refine dw ttok mixed ?_|refine cd ?_|refine sk ?_|refine xt ?_|refine rt ?_);conv=>whnf)|(refine And.intro (fun h=>?_) (fun h=>?_) <;> (try simp only [brsA] at h) <;> conv=>whnf)|(refine Or.inl ?_;(conv=>whnf);(first|refine ⟨_,a2,?_⟩|refine ⟨_,b2,?_⟩|refine ⟨_,c2,?_⟩);conv=>whnf)|((first|refine wf ?_|refine wp' ?_|refine ai ?_|refine And.intro rfl ?_|refine an ?_|fail);conv=>whnf))
   all_goals first|contradiction|(exfalso;omega)|skip
   all_goals refine ⟨3,by decide,by decide,?_⟩
   all_goals
    conv=>whnf
    repeat (first|exact fa|((first|refine fb ?_|(refine And.intro ?_ ?_;rotate_left));conv=>whnf))
    all_goals first|omega
  ·clear k0 m0 a0 b0 c0 k1 m1 a1 b1 c1 k2 m2 a2 b2 c2 k4 m4 a4 b4 c4 k5 m5 a5 b5 c5 k6 m6 a6 b6 c6 a7
   conv=>whnf
   repeat' (first|refine sq ?_|refine bk ?_|((first|refine rg ttok ?_|refine dw ttok mixed ?_|refine cd ?_|refine sk ?_|refine xt ?_|refine rt ?_);conv=>whnf)|(refine And.intro (fun h=>?_) (fun h=>?_) <;> (try simp only [brsA] at h) <;> conv=>whnf)|(refine Or.inl ?_;(conv=>whnf);(first|refine ⟨_,a3,?_⟩|refine ⟨_,b3,?_⟩|refine ⟨_,c3,?_⟩);conv=>whnf)|((first|refine wf ?_|refine wp' ?_|refine ai ?_|refine And.intro rfl ?_|refine an ?_|fail);conv=>whnf))
   all_goals first|contradiction|(exfalso;omega)|skip
   all_goals refine ⟨4,by decide,by decide,?_⟩
   all_goals
    conv=>whnf
    repeat (first|exact fa|((first|refine fb ?_|(refine And.intro ?_ ?_;rotate_left));conv=>whnf))
    all_goals first|omega
  ·clear k0 m0 a0 b0 c0 k1 m1 a1 b1 c1 k2 m2 a2 b2 c2 k3 m3 a3 b3 c3 k5 m5 a5 b5 c5 k6 m6 a6 b6 c6 a7
   conv=>whnf
   repeat' (first|refine sq ?_|refine bk ?_|((first|refine rg ttok ?_|refine dw ttok mixed ?_|refine cd ?_|refine sk ?_|refine xt ?_|refine rt ?_);conv=>whnf)|(refine And.intro (fun h=>?_) (fun h=>?_) <;> (try simp only [brsA] at h) <;> conv=>whnf)|(refine Or.inl ?_;(conv=>whnf);(first|refine ⟨_,a4,?_⟩|refine ⟨_,b4,?_⟩|refine ⟨_,c4,?_⟩);conv=>whnf)|((first|refine wf ?_|refine wp' ?_|refine ai ?_|refine And.intro rfl ?_|refine an ?_|fail);conv=>whnf))
   all_goals first|contradiction|(exfalso;omega)|skip
   all_goals refine ⟨5,by decide,by decide,?_⟩
   all_goals
    conv=>whnf
    repeat (first|exact fa|((first|refine fb ?_|(refine And.intro ?_ ?_;rotate_left));conv=>whnf))
    all_goals first|omega
  ·clear k0 m0 a0 b0 c0 k1 m1 a1 b1 c1 k2 m2 a2 b2 c2 k3 m3 a3 b3 c3 k4 m4 a4 b4 c4 k6 m6 a6 b6 c6 a7
   conv=>whnf
   repeat' (first|refine sq ?_|refine bk ?_|((first|refine rg ttok ?_|refine dw ttok mixed ?_|refine cd ?_|refine sk ?_|refine xt ?_|refine rt ?_);conv=>whnf)|(refine And.intro (fun h=>?_) (fun h=>?_) <;> (try simp only [brsA] at h) <;> conv=>whnf)|(refine Or.inl ?_;(conv=>whnf);(first|refine ⟨_,a5,?_⟩|refine ⟨_,b5,?_⟩|refine ⟨_,c5,?_⟩);conv=>whnf)|((first|refine wf ?_|refine wp' ?_|refine ai ?_|refine And.intro rfl ?_|refine an ?_|fail);conv=>whnf))
   all_goals first|contradiction|(exfalso;omega)|skip
   all_goals refine ⟨6,by decide,by decide,?_⟩
   all_goals
    conv=>whnf
    repeat (first|exact fa|((first|refine fb ?_|(refine And.intro ?_ ?_;rotate_left));conv=>whnf))
    all_goals first|omega
  ·clear k0 m0 a0 b0 c0 k1 m1 a1 b1 c1 k2 m2 a2 b2 c2 k3 m3 a3 b3 c3 k4 m4 a4 b4 c4 k5 m5 a5 b5 c5 a7
   conv=>whnf
   repeat' (first|refine sq ?_|refine bk ?_|((first|refine rg ttok ?_|refine dw ttok mixed ?_|refine cd ?_|refine sk ?_|refine xt ?_|refine rt ?_);conv=>whnf)|(refine And.intro (fun h=>?_) (fun h=>?_) <;> (try simp only [brsA] at h) <;> conv=>whnf)|(refine Or.inl ?_;(conv=>whnf);(first|refine ⟨_,a6,?_⟩|refine ⟨_,b6,?_⟩|refine ⟨_,c6,?_⟩);conv=>whnf)|((first|refine wf ?_|refine wp' ?_|refine ai ?_|refine And.intro rfl ?_|refine an ?_|fail);conv=>whnf))
   all_goals first|contradiction|(exfalso;omega)|skip
   all_goals refine ⟨7,by decide,by decide,?_⟩
   all_goals
    conv=>whnf
    repeat (first|exact fa|((first|refine fb ?_|(refine And.intro ?_ ?_;rotate_left));conv=>whnf))
    all_goals first|omega
  ·conv=>whnf
   repeat' (first|refine sq ?_|refine bk ?_|((first|refine rg ttok ?_|refine dw ttok mixed ?_|refine cd ?_|refine sk ?_|refine xt ?_|refine rt ?_);conv=>whnf)|(refine And.intro (fun h=>?_) (fun h=>?_) <;> (try simp only [brsA] at h) <;> conv=>whnf)|(refine Or.inl ?_;(conv=>whnf);refine ⟨_,a7,?_⟩;conv=>whnf)|((first|refine wf ?_|refine wp' ?_|refine ai ?_|refine And.intro rfl ?_|refine an ?_|fail);conv=>whnf))
   all_goals first|contradiction|(exfalso;omega)|skip
   all_goals refine ⟨8,by decide,by decide,?_⟩
   all_goals
    conv=>whnf
    repeat (first|exact fa|((first|refine fb ?_|(refine And.intro ?_ ?_;rotate_left));conv=>whnf))
    all_goals first|omega
  ·conv=>whnf
   repeat' (first|refine sq ?_|refine bk ?_|((first|refine rg ttok ?_|refine dw ttok mixed ?_|refine cd ?_|refine sk ?_|refine xt ?_|refine rt ?_);conv=>whnf)|(refine And.intro (fun h=>?_) (fun h=>?_) <;> (try simp only [brsA] at h) <;> conv=>whnf)|((first|refine wf ?_|refine wp' ?_|refine ai ?_|refine And.intro rfl ?_|refine an ?_|fail);conv=>whnf))
   all_goals first|contradiction|(exfalso;omega)|skip
   all_goals first|rfl
end Go.Proofs.YtmeohhbdkoeadaaGreat

/-
  The walks and plain laws, part 7.
-/
import Derived.Test.YtmeohhbdkoeadaaGreatSpotSorts2
import Derived.Test.YtmeohhbdkoeadaaGreatSpotSorts3
import Derived.Test.YtmeohhbdkoeadaaGreatSpotSorts4
import Derived.Test.YtmeohhbdkoeadaaGreatSpotSorts5
import Derived.Test.YtmeohhbdkoeadaaGreatSpotSorts6
import Derived.RangeFuncNested
import Derived.RangeFuncBound
import Derived.RangeFuncCalls
import Derived.RangeFuncLeaves
import Derived.RangeFuncBox
import Derived.Shelf.Abstract
import Derived.WalkKit
import Derived.OwnWalkIn
import Derived.TacticsInMore
import Derived.LoopNIn
import Derived.LoopIn
import Derived.Maps.AppendAt
import Derived.Test.YtmeohhbdkoeadaaGreatAm1
import Derived.Test.YtmeohhbdkoeadaaGreatSpotSorts1
import Derived.Stop.RegionWithIn
import Derived.Test.YtmeohhbdkoeadaaGreatAm2
import Derived.Test.YtmeohhbdkoeadaaGreatAm5
import Derived.Shelf.SlLaysE
import Derived.Shelf.SlicesE.Kit
import Derived.Shelf.SlicesE.Equal
import Derived.Shelf.SlicesQ.Load
import Derived.Shelf.SlicesQ.Reverse
import Derived.Shelf.GgSortFunc.RowK
import Derived.Shelf.RegionOpenPlain
import Derived.Deep.LoopGhost
import Derived.Deep.Draws
import Derived.Lib.Walk
import Derived.Sort.WalkB12
import Derived.Lib.SliceRun
import Derived.Lib.SlicesCompact
import Derived.Test.YtmeohhbdkoeadaaGreatProg
import Derived.Ground.SlsfProg
import Derived.Shelf.SlSortCmp.WholeK
import Derived.Test.YtmeohhbdkoeadaaGreatAm4
set_option linter.unusedSimpArgs false
set_option linter.unusedSectionVars false
set_option linter.unusedVariables false
set_option maxRecDepth 1000000
set_option maxHeartbeats 8000000
namespace Go.Proofs.YtmeohhbdkoeadaaGreat
open Go.Proofs.YtmeohhbdkoeadaaGreat.Am
variable [Inhabited DRT]
variable {G:GInv}
theorem wadd0_c (x y s q:Nat) (hs:(x+y) % 18446744073709551616=s) (hq:(x+y) / 18446744073709551616=q):ACalls Tryz.prog G 148 [.int .u64 (x:Int),.int .u64 (y:Int),.int .u64 0] (.tup [.int .u64 (s:Int),.int .u64 (q:Int)]):=by
 subst hs
 subst hq
 exact wadd_c (G:=G) x y 0 (by omega)
theorem rowN0 (u v b:Nat) (hu:u < 65536 ^ 32) (hv:v < 65536 ^ 32) (hb0:0 < b) (hb:b < 18446744073709551616) (h:u+1*(v*b) < 65536 ^ 32):ACalls Tryz.prog G 149 [wideN u,wideN v,.int .u64 (b:Int),.int .i64 0] (.tup [wideN (u+1*(v*b)),.sb true]):=by
 have hl:=row_law0 (A:=wW v) (O:=wW u) (b:=b) (wW_ok v) (wW_ok u) hb0 (by rw [wv_wW hu,wv_wW hv]; exact h)
 rw [wv_wW hu,wv_wW hv] at hl
 obtain ⟨h1,h2⟩:=hl
 have g:=row_gen0 (G:=G) (wW v) (wW u) (crM (wW v) (wW u) b 0) (fun i=>wW v i*b / 18446744073709551616) (fun i=>wW v i*b % 18446744073709551616) (fun i=>(wW v i*b % 18446744073709551616+crM (wW v) (wW u) b 0 i) / 18446744073709551616)
  (fun i=>((wW v i*b % 18446744073709551616+crM (wW v) (wW u) b 0 i) % 18446744073709551616+wW u (i+0)) / 18446744073709551616) (fun i=>(wW v i*b % 18446744073709551616+crM (wW v) (wW u) b 0 i) % 18446744073709551616) (prM (wW v) (wW u) b 0) b rfl h2
  (fun i _=>by
   have m:=mul_lt (wW_ok v i) hb
   have c:=crM_lt 0 (wW_ok v) (wW_ok u) hb i
   have q:=wW_ok u (i+0)
   show (wW v i*b+crM (wW v) (wW u) b 0 i+wW u (i+0)) / 18446744073709551616=_∧_
   generalize wW v i*b=p at *
   generalize crM (wW v) (wW u) b 0 i=r at *
   generalize wW u (i+0)=s at *
   omega)
  (fun j hj=>if_pos hj)
  (fun i _=>wmul64_c _ _ (wW_ok v i) hb)
  (fun i hi1 hi2=>by
   exfalso; omega)
  (fun i _=>by
   exact wadd0_c _ _ _ _ rfl rfl)
  (fun i _=>by
   have e:((wW v i*b % 18446744073709551616+crM (wW v) (wW u) b 0 i) % 18446744073709551616+wW u (i+0)) % 18446744073709551616=prM (wW v) (wW u) b 0 (i+0):=by
    unfold prM
    rw [if_neg (by omega),Nat.add_sub_cancel]
    generalize wW v i*b=p
    generalize crM (wW v) (wW u) b 0 i=r
    generalize wW u (i+0)=s
    omega
   exact wadd0_c _ _ _ _ e rfl)
 rw [wW_same (prM_ok (wW_ok u) b 0),h1] at g
 exact g
theorem rowN1 (u v b:Nat) (hu:u < 65536 ^ 32) (hv:v < 65536 ^ 32) (hb0:0 < b) (hb:b < 18446744073709551616) (h:u+18446744073709551616*(v*b) < 65536 ^ 32):ACalls Tryz.prog G 149 [wideN u,wideN v,.int .u64 (b:Int),.int .i64 1] (.tup [wideN (u+18446744073709551616*(v*b)),.sb true]):=by
 have hl:=row_law1 (A:=wW v) (O:=wW u) (b:=b) (wW_ok v) (wW_ok u) hb0 (by rw [wv_wW hu,wv_wW hv]; exact h)
 rw [wv_wW hu,wv_wW hv] at hl
 obtain ⟨h1,h2,z7⟩:=hl
 have g:=row_gen1 (G:=G) (wW v) (wW u) (crM (wW v) (wW u) b 1) (fun i=>wW v i*b / 18446744073709551616) (fun i=>wW v i*b % 18446744073709551616) (fun i=>(wW v i*b % 18446744073709551616+crM (wW v) (wW u) b 1 i) / 18446744073709551616)
  (fun i=>((wW v i*b % 18446744073709551616+crM (wW v) (wW u) b 1 i) % 18446744073709551616+wW u (i+1)) / 18446744073709551616) (fun i=>(wW v i*b % 18446744073709551616+crM (wW v) (wW u) b 1 i) % 18446744073709551616) (prM (wW v) (wW u) b 1) b rfl h2
  (fun i _=>by
   have m:=mul_lt (wW_ok v i) hb
   have c:=crM_lt 1 (wW_ok v) (wW_ok u) hb i
   have q:=wW_ok u (i+1)
   show (wW v i*b+crM (wW v) (wW u) b 1 i+wW u (i+1)) / 18446744073709551616=_∧_
   generalize wW v i*b=p at *
   generalize crM (wW v) (wW u) b 1 i=r at *
   generalize wW u (i+1)=s at *
   omega)
  (fun j hj=>if_pos hj)
  (fun i _=>wmul64_c _ _ (wW_ok v i) hb)
  (fun i hi1 hi2=>by
   have e:i=7:=by omega
   have k:=wmul64_c (G:=G) 0 b (by omega) hb
   rw [Nat.zero_mul,Nat.zero_div,Nat.zero_mod] at k
   subst e
   rw [z7]; exact k)
  (fun i _=>by
   exact wadd0_c _ _ _ _ rfl rfl)
  (fun i _=>by
   have e:((wW v i*b % 18446744073709551616+crM (wW v) (wW u) b 1 i) % 18446744073709551616+wW u (i+1)) % 18446744073709551616=prM (wW v) (wW u) b 1 (i+1):=by
    unfold prM
    rw [if_neg (by omega),Nat.add_sub_cancel]
    generalize wW v i*b=p
    generalize crM (wW v) (wW u) b 1 i=r
    generalize wW u (i+1)=s
    omega
   exact wadd0_c _ _ _ _ e rfl)
 rw [wW_same (prM_ok (wW_ok u) b 1),h1] at g
 exact g
theorem rowN2 (u v b:Nat) (hu:u < 65536 ^ 32) (hv:v < 65536 ^ 32) (hb0:0 < b) (hb:b < 18446744073709551616) (h:u+340282366920938463463374607431768211456*(v*b) < 65536 ^ 32):ACalls Tryz.prog G 149 [wideN u,wideN v,.int .u64 (b:Int),.int .i64 2] (.tup [wideN (u+340282366920938463463374607431768211456*(v*b)),.sb true]):=by
 have hl:=row_law2 (A:=wW v) (O:=wW u) (b:=b) (wW_ok v) (wW_ok u) hb0 (by rw [wv_wW hu,wv_wW hv]; exact h)
 rw [wv_wW hu,wv_wW hv] at hl
 obtain ⟨h1,h2,z6,z7⟩:=hl
 have g:=row_gen2 (G:=G) (wW v) (wW u) (crM (wW v) (wW u) b 2) (fun i=>wW v i*b / 18446744073709551616) (fun i=>wW v i*b % 18446744073709551616) (fun i=>(wW v i*b % 18446744073709551616+crM (wW v) (wW u) b 2 i) / 18446744073709551616)
  (fun i=>((wW v i*b % 18446744073709551616+crM (wW v) (wW u) b 2 i) % 18446744073709551616+wW u (i+2)) / 18446744073709551616) (fun i=>(wW v i*b % 18446744073709551616+crM (wW v) (wW u) b 2 i) % 18446744073709551616) (prM (wW v) (wW u) b 2) b rfl h2
  (fun i _=>by
   have m:=mul_lt (wW_ok v i) hb
   have c:=crM_lt 2 (wW_ok v) (wW_ok u) hb i
   have q:=wW_ok u (i+2)
   show (wW v i*b+crM (wW v) (wW u) b 2 i+wW u (i+2)) / 18446744073709551616=_∧_
   generalize wW v i*b=p at *
   generalize crM (wW v) (wW u) b 2 i=r at *
   generalize wW u (i+2)=s at *
   omega)
  (fun j hj=>if_pos hj)
  (fun i _=>wmul64_c _ _ (wW_ok v i) hb)
  (fun i hi1 hi2=>by
   have e:i=6∨i=7:=by omega
   have k:=wmul64_c (G:=G) 0 b (by omega) hb
   rw [Nat.zero_mul,Nat.zero_div,Nat.zero_mod] at k
   rcases e with rfl | rfl
   ·rw [z6]; exact k
   ·rw [z7]; exact k)
  (fun i _=>by
   exact wadd0_c _ _ _ _ rfl rfl)
  (fun i _=>by
   have e:((wW v i*b % 18446744073709551616+crM (wW v) (wW u) b 2 i) % 18446744073709551616+wW u (i+2)) % 18446744073709551616=prM (wW v) (wW u) b 2 (i+2):=by
    unfold prM
    rw [if_neg (by omega),Nat.add_sub_cancel]
    generalize wW v i*b=p
    generalize crM (wW v) (wW u) b 2 i=r
    generalize wW u (i+2)=s
    omega
   exact wadd0_c _ _ _ _ e rfl)
 rw [wW_same (prM_ok (wW_ok u) b 2),h1] at g
 exact g
theorem rowN3 (u v b:Nat) (hu:u < 65536 ^ 32) (hv:v < 65536 ^ 32) (hb0:0 < b) (hb:b < 18446744073709551616) (h:u+6277101735386680763835789423207666416102355444464034512896*(v*b) < 65536 ^ 32):ACalls Tryz.prog G 149 [wideN u,wideN v,.int .u64 (b:Int),.int .i64 3] (.tup [wideN (u+6277101735386680763835789423207666416102355444464034512896*(v*b)),.sb true]):=by
 have hl:=row_law3 (A:=wW v) (O:=wW u) (b:=b) (wW_ok v) (wW_ok u) hb0 (by rw [wv_wW hu,wv_wW hv]; exact h)
 rw [wv_wW hu,wv_wW hv] at hl
 obtain ⟨h1,h2,z5,z6,z7⟩:=hl
 have g:=row_gen3 (G:=G) (wW v) (wW u) (crM (wW v) (wW u) b 3) (fun i=>wW v i*b / 18446744073709551616) (fun i=>wW v i*b % 18446744073709551616) (fun i=>(wW v i*b % 18446744073709551616+crM (wW v) (wW u) b 3 i) / 18446744073709551616)
  (fun i=>((wW v i*b % 18446744073709551616+crM (wW v) (wW u) b 3 i) % 18446744073709551616+wW u (i+3)) / 18446744073709551616) (fun i=>(wW v i*b % 18446744073709551616+crM (wW v) (wW u) b 3 i) % 18446744073709551616) (prM (wW v) (wW u) b 3) b rfl h2
  (fun i _=>by
   have m:=mul_lt (wW_ok v i) hb
   have c:=crM_lt 3 (wW_ok v) (wW_ok u) hb i
   have q:=wW_ok u (i+3)
   show (wW v i*b+crM (wW v) (wW u) b 3 i+wW u (i+3)) / 18446744073709551616=_∧_
   generalize wW v i*b=p at *
   generalize crM (wW v) (wW u) b 3 i=r at *
   generalize wW u (i+3)=s at *
   omega)
  (fun j hj=>if_pos hj)
  (fun i _=>wmul64_c _ _ (wW_ok v i) hb)
  (fun i hi1 hi2=>by
   have e:i=5∨i=6∨i=7:=by omega
   have k:=wmul64_c (G:=G) 0 b (by omega) hb
   rw [Nat.zero_mul,Nat.zero_div,Nat.zero_mod] at k
   rcases e with rfl | rfl | rfl
   ·rw [z5]; exact k
   ·rw [z6]; exact k
   ·rw [z7]; exact k)
  (fun i _=>by
   exact wadd0_c _ _ _ _ rfl rfl)
  (fun i _=>by
   have e:((wW v i*b % 18446744073709551616+crM (wW v) (wW u) b 3 i) % 18446744073709551616+wW u (i+3)) % 18446744073709551616=prM (wW v) (wW u) b 3 (i+3):=by
    unfold prM
    rw [if_neg (by omega),Nat.add_sub_cancel]
    generalize wW v i*b=p
    generalize crM (wW v) (wW u) b 3 i=r
    generalize wW u (i+3)=s
    omega
   exact wadd0_c _ _ _ _ e rfl)
 rw [wW_same (prM_ok (wW_ok u) b 3),h1] at g
 exact g
theorem mulG_gen (V W0 W1 W2 W3 W4:Nat→Nat) (u0 u1 u2 u3:Nat) (hW:W0=fun _=>0)
  (g0:u0=0∧W1=W0∨u0 ≠ 0∧ACalls Tryz.prog G 149 [wideA W0,wideA V,.int .u64 (u0:Int),.int .i64 0] (.tup [wideA W1,.sb true]))
  (g1:u1=0∧W2=W1∨u1 ≠ 0∧ACalls Tryz.prog G 149 [wideA W1,wideA V,.int .u64 (u1:Int),.int .i64 1] (.tup [wideA W2,.sb true]))
  (g2:u2=0∧W3=W2∨u2 ≠ 0∧ACalls Tryz.prog G 149 [wideA W2,wideA V,.int .u64 (u2:Int),.int .i64 2] (.tup [wideA W3,.sb true]))
  (g3:u3=0∧W4=W3∨u3 ≠ 0∧ACalls Tryz.prog G 149 [wideA W3,wideA V,.int .u64 (u3:Int),.int .i64 3] (.tup [wideA W4,.sb true])) :
  ACalls Tryz.prog G 117 [wideA V,.agg [.int .u64 (u0:Int),.int .u64 (u1:Int),.int .u64 (u2:Int),.int .u64 (u3:Int),.int .u64 0,.int .u64 0,.int .u64 0,.int .u64 0]] (.tup [wideA W4,.sb true]):=by
 unfold wideA at *
 refine ACalls.of_WA ttok Tryz.func117 rfl rfl _ rfl ?_
 conv=>whnf
 repeat (first|refine sq ?_|refine bk ?_|((first|refine rg ttok ?_|refine dw ttok mixed ?_|refine cd ?_|refine sk ?_|refine xt ?_|refine rt ?_);conv=>whnf))
 refine WA_loopI (fun x:Nat × (Nat→Nat)=>x.1≤8∧(x.1=0∧x.2=W0∨x.1=1∧x.2=W1∨x.1=2∧x.2=W2∨x.1=3∧x.2=W3∨4≤x.1∧x.2=W4)) (fun x=>match x with | (i,_)=>[(7,.sb true),(13,.int .i64 (i:Int))]) (fun x=>match x with | (_,O)=>[bxF V,.box 30 [.int .u64 (u0:Int),.int .u64 (u1:Int),.int .u64 (u2:Int),.int .u64 (u3:Int),.int .u64 0,.int .u64 0,.int .u64 0,.int .u64 0],bxF (fun _=>0),bxF O]) (fun x=>8 - x.1) (0,W0) ⟨by show 0≤8; omega,Or.inl ⟨rfl,rfl⟩⟩ ?_ ?_
 ·subst hW
  conv=>whnf
  repeat (first|exact fa|((first|refine fb ?_|(refine And.intro ?_ ?_;rotate_left));conv=>whnf))
 ·rintro ⟨i,O⟩ ⟨hi,hO⟩
  have hi:i≤8:=hi
  have hO:i=0∧O=W0∨i=1∧O=W1∨i=2∧O=W2∨i=3∧O=W3∨4≤i∧O=W4:=hO
  clear hW
  rcases hO with ⟨rfl,rfl⟩ | ⟨rfl,rfl⟩ | ⟨rfl,rfl⟩ | ⟨rfl,rfl⟩ | ⟨hO,rfl⟩
  ·rcases g0 with ⟨rfl,rfl⟩ | ⟨hz,hr⟩
   ·conv=>whnf
    repeat' (first|(exact absurd (rfl:(0:Int)=0) (by assumption))|(exact absurd (rfl:((0:Nat):Int)=0) (by assumption))|refine sq ?_|refine bk ?_|((first|refine rg ttok ?_|refine dw ttok mixed ?_|refine cd ?_|refine sk ?_|refine xt ?_|refine rt ?_);conv=>whnf)|(refine And.intro (fun h=>?_) (fun h=>?_) <;> (try simp only [brsA] at h) <;> conv=>whnf)|((first|refine wf ?_|refine wp' ?_|refine ai ?_|refine And.intro rfl ?_|refine an ?_|fail);conv=>whnf))
    all_goals first|contradiction|(exfalso;omega)|skip
    all_goals
     refine ⟨(1,W1),⟨Nat.le_of_ble_eq_true rfl,by simp⟩,Nat.le_of_ble_eq_true rfl,?_⟩
     conv=>whnf
     repeat (first|exact fa|((first|refine fb ?_|(refine And.intro ?_ ?_;rotate_left));conv=>whnf))
   ·conv=>whnf
    repeat' (first|(exact absurd (show (u0:Int)=0 by assumption) (by omega))|refine sq ?_|refine bk ?_|((first|refine rg ttok ?_|refine dw ttok mixed ?_|refine cd ?_|refine sk ?_|refine xt ?_|refine rt ?_);conv=>whnf)|(refine And.intro (fun h=>?_) (fun h=>?_) <;> (try simp only [brsA] at h) <;> conv=>whnf)|(refine Or.inl ?_;(conv=>whnf);refine ⟨_,hr,?_⟩;conv=>whnf)|((first|refine wf ?_|refine wp' ?_|refine ai ?_|refine And.intro rfl ?_|refine an ?_|fail);conv=>whnf))
    all_goals first|contradiction|(exfalso;omega)|skip
    all_goals
     refine ⟨(1,W1),⟨Nat.le_of_ble_eq_true rfl,by simp⟩,Nat.le_of_ble_eq_true rfl,?_⟩
     conv=>whnf
     repeat (first|exact fa|((first|refine fb ?_|(refine And.intro ?_ ?_;rotate_left));conv=>whnf))
  ·rcases g1 with ⟨rfl,rfl⟩ | ⟨hz,hr⟩
   ·conv=>whnf
    repeat' (first|(exact absurd (rfl:(0:Int)=0) (by assumption))|(exact absurd (rfl:((0:Nat):Int)=0) (by assumption))|refine sq ?_|refine bk ?_|((first|refine rg ttok ?_|refine dw ttok mixed ?_|refine cd ?_|refine sk ?_|refine xt ?_|refine rt ?_);conv=>whnf)|(refine And.intro (fun h=>?_) (fun h=>?_) <;> (try simp only [brsA] at h) <;> conv=>whnf)|((first|refine wf ?_|refine wp' ?_|refine ai ?_|refine And.intro rfl ?_|refine an ?_|fail);conv=>whnf))
    all_goals first|contradiction|(exfalso;omega)|skip
    all_goals
     refine ⟨(2,W2),⟨Nat.le_of_ble_eq_true rfl,by simp⟩,Nat.le_of_ble_eq_true rfl,?_⟩
     conv=>whnf
     repeat (first|exact fa|((first|refine fb ?_|(refine And.intro ?_ ?_;rotate_left));conv=>whnf))
   ·conv=>whnf
    repeat' (first|(exact absurd (show (u1:Int)=0 by assumption) (by omega))|refine sq ?_|refine bk ?_|((first|refine rg ttok ?_|refine dw ttok mixed ?_|refine cd ?_|refine sk ?_|refine xt ?_|refine rt ?_);conv=>whnf)|(refine And.intro (fun h=>?_) (fun h=>?_) <;> (try simp only [brsA] at h) <;> conv=>whnf)|(refine Or.inl ?_;(conv=>whnf);refine ⟨_,hr,?_⟩;conv=>whnf)|((first|refine wf ?_|refine wp' ?_|refine ai ?_|refine And.intro rfl ?_|refine an ?_|fail);conv=>whnf))
    all_goals first|contradiction|(exfalso;omega)|skip
    all_goals
     refine ⟨(2,W2),⟨Nat.le_of_ble_eq_true rfl,by simp⟩,Nat.le_of_ble_eq_true rfl,?_⟩
     conv=>whnf
     repeat (first|exact fa|((first|refine fb ?_|(refine And.intro ?_ ?_;rotate_left));conv=>whnf))
  ·rcases g2 with ⟨rfl,rfl⟩ | ⟨hz,hr⟩
   ·conv=>whnf
    repeat' (first|(exact absurd (rfl:(0:Int)=0) (by assumption))|(exact absurd (rfl:((0:Nat):Int)=0) (by assumption))|refine sq ?_|refine bk ?_|((first|refine rg ttok ?_|refine dw ttok mixed ?_|refine cd ?_|refine sk ?_|refine xt ?_|refine rt ?_);conv=>whnf)|(refine And.intro (fun h=>?_) (fun h=>?_) <;> (try simp only [brsA] at h) <;> conv=>whnf)|((first|refine wf ?_|refine wp' ?_|refine ai ?_|refine And.intro rfl ?_|refine an ?_|fail);conv=>whnf))
    all_goals first|contradiction|(exfalso;omega)|skip
    all_goals
     refine ⟨(3,W3),⟨Nat.le_of_ble_eq_true rfl,by simp⟩,Nat.le_of_ble_eq_true rfl,?_⟩
     conv=>whnf
     repeat (first|exact fa|((first|refine fb ?_|(refine And.intro ?_ ?_;rotate_left));conv=>whnf))
   ·conv=>whnf
    repeat' (first|(exact absurd (show (u2:Int)=0 by assumption) (by omega))|refine sq ?_|refine bk ?_|((first|refine rg ttok ?_|refine dw ttok mixed ?_|refine cd ?_|refine sk ?_|refine xt ?_|refine rt ?_);conv=>whnf)|(refine And.intro (fun h=>?_) (fun h=>?_) <;> (try simp only [brsA] at h) <;> conv=>whnf)|(refine Or.inl ?_;(conv=>whnf);refine ⟨_,hr,?_⟩;conv=>whnf)|((first|refine wf ?_|refine wp' ?_|refine ai ?_|refine And.intro rfl ?_|refine an ?_|fail);conv=>whnf))
    all_goals first|contradiction|(exfalso;omega)|skip
    all_goals
     refine ⟨(3,W3),⟨Nat.le_of_ble_eq_true rfl,by simp⟩,Nat.le_of_ble_eq_true rfl,?_⟩
     conv=>whnf
     repeat (first|exact fa|((first|refine fb ?_|(refine And.intro ?_ ?_;rotate_left));conv=>whnf))
  ·rcases g3 with ⟨rfl,rfl⟩ | ⟨hz,hr⟩
   ·conv=>whnf
    repeat' (first|(exact absurd (rfl:(0:Int)=0) (by assumption))|(exact absurd (rfl:((0:Nat):Int)=0) (by assumption))|refine sq ?_|refine bk ?_|((first|refine rg ttok ?_|refine dw ttok mixed ?_|refine cd ?_|refine sk ?_|refine xt ?_|refine rt ?_);conv=>whnf)|(refine And.intro (fun h=>?_) (fun h=>?_) <;> (try simp only [brsA] at h) <;> conv=>whnf)|((first|refine wf ?_|refine wp' ?_|refine ai ?_|refine And.intro rfl ?_|refine an ?_|fail);conv=>whnf))
    all_goals first|contradiction|(exfalso;omega)|skip
    all_goals
     refine ⟨(4,W4),⟨Nat.le_of_ble_eq_true rfl,by simp⟩,Nat.le_of_ble_eq_true rfl,?_⟩
     conv=>whnf
     repeat (first|exact fa|((first|refine fb ?_|(refine And.intro ?_ ?_;rotate_left));conv=>whnf))
   ·conv=>whnf
    repeat' (first|(exact absurd (show (u3:Int)=0 by assumption) (by omega))|refine sq ?_|refine bk ?_|((first|refine rg ttok ?_|refine dw ttok mixed ?_|refine cd ?_|refine sk ?_|refine xt ?_|refine rt ?_);conv=>whnf)|(refine And.intro (fun h=>?_) (fun h=>?_) <;> (try simp only [brsA] at h) <;> conv=>whnf)|(refine Or.inl ?_;(conv=>whnf);refine ⟨_,hr,?_⟩;conv=>whnf)|((first|refine wf ?_|refine wp' ?_|refine ai ?_|refine And.intro rfl ?_|refine an ?_|fail);conv=>whnf))
    all_goals first|contradiction|(exfalso;omega)|skip
    all_goals
     refine ⟨(4,W4),⟨Nat.le_of_ble_eq_true rfl,by simp⟩,Nat.le_of_ble_eq_true rfl,?_⟩
     conv=>whnf
     repeat (first|exact fa|((first|refine fb ?_|(refine And.intro ?_ ?_;rotate_left));conv=>whnf))
  ·have e:i=4∨i=5∨i=6∨i=7∨i=8:=by omega
   rcases e with rfl | rfl | rfl | rfl | rfl
   all_goals
    conv=>whnf
    repeat' (first|(exact absurd (rfl:(0:Int)=0) (by assumption))|refine sq ?_|refine bk ?_|((first|refine rg ttok ?_|refine dw ttok mixed ?_|refine cd ?_|refine sk ?_|refine xt ?_|refine rt ?_);conv=>whnf)|(refine And.intro (fun h=>?_) (fun h=>?_) <;> (try simp only [brsA] at h) <;> conv=>whnf)|((first|refine wf ?_|refine wp' ?_|refine ai ?_|refine And.intro rfl ?_|refine an ?_|fail);conv=>whnf))
   all_goals first|contradiction|(exfalso;omega)|skip
   all_goals first|refine ⟨(5,O),⟨Nat.le_of_ble_eq_true rfl,by simp⟩,Nat.le_of_ble_eq_true rfl,?_⟩|refine ⟨(6,O),⟨Nat.le_of_ble_eq_true rfl,by simp⟩,Nat.le_of_ble_eq_true rfl,?_⟩|refine ⟨(7,O),⟨Nat.le_of_ble_eq_true rfl,by simp⟩,Nat.le_of_ble_eq_true rfl,?_⟩|refine ⟨(8,O),⟨Nat.le_of_ble_eq_true rfl,by simp⟩,Nat.le_of_ble_eq_true rfl,?_⟩
   all_goals
    conv=>whnf
    repeat (first|exact fa|((first|refine fb ?_|(refine And.intro ?_ ?_;rotate_left));conv=>whnf))
theorem wW_hi {u:Nat} (h:u < 65536 ^ 16) {k:Nat} (hk:4≤k):wW u k=0:=by
 unfold wW
 have hp:(65536:Nat) ^ 16≤18446744073709551616 ^ k:=by
  rw [show (18446744073709551616:Nat)=65536 ^ 4 from rfl,← Nat.pow_mul]
  exact Nat.pow_le_pow_right (by omega) (by omega)
 rw [Nat.div_eq_of_lt (Nat.lt_of_lt_of_le h hp)]
/-- Products by a number below 2^256. -/
theorem wideMulG_c (v u:Nat) (hv:v < 65536 ^ 32) (hu:u < 65536 ^ 16) (h:v*u < 65536 ^ 32):ACalls Tryz.prog G 117 [wideN v,wideN u] (.tup [wideN (v*u),.sb true]):=by
 have hu2:u < 65536 ^ 32:=Nat.lt_trans hu (by decide)
 have eu:=wv_expl (wW_ok u)
 rw [wv_wW hu2,wW_hi hu (k:=4) (by omega),wW_hi hu (k:=5) (by omega),wW_hi hu (k:=6) (by omega),wW_hi hu (k:=7) (by omega)] at eu
 have e4:wideN u = .agg [.int .u64 (wW u 0:Nat),.int .u64 (wW u 1:Nat),.int .u64 (wW u 2:Nat),.int .u64 (wW u 3:Nat),.int .u64 0,.int .u64 0,.int .u64 0,.int .u64 0]:=by
  unfold wideN wideA
  rw [wW_hi hu (k:=4) (by omega),wW_hi hu (k:=5) (by omega),wW_hi hu (k:=6) (by omega),wW_hi hu (k:=7) (by omega)]
  rfl
 have b0:=wW_ok u 0
 have b1:=wW_ok u 1
 have b2:=wW_ok u 2
 have b3:=wW_ok u 3
 rw [e4]
 clear e4
 generalize wW u 0=u0 at *
 generalize wW u 1=u1 at *
 generalize wW u 2=u2 at *
 generalize wW u 3=u3 at *
 have ev:v*u=v*u0+18446744073709551616*(v*u1)+340282366920938463463374607431768211456*(v*u2)+6277101735386680763835789423207666416102355444464034512896*(v*u3):=by
  rw [eu]
  simp only [Nat.mul_add,Nat.mul_zero,Nat.add_zero,Nat.mul_left_comm v]
  omega
 rw [pow512] at *
 rw [ev] at h ⊢
 generalize hp0:v*u0=p0 at *
 generalize hp1:v*u1=p1 at *
 generalize hp2:v*u2=p2 at *
 generalize hp3:v*u3=p3 at *
 have zz:(fun _:Nat=>0)=wW 0:=by funext j; unfold wW; simp
 refine mulG_gen (wW v) (wW 0) (wW p0) (wW (p0+18446744073709551616*p1)) (wW (p0+18446744073709551616*p1+340282366920938463463374607431768211456*p2)) (wW (p0+18446744073709551616*p1+340282366920938463463374607431768211456*p2+6277101735386680763835789423207666416102355444464034512896*p3)) u0 u1 u2 u3 zz.symm ?_ ?_ ?_ ?_
 ·by_cases z:u0=0
  ·exact .inl ⟨z,by rw [← hp0,z,Nat.mul_zero]⟩
  ·refine .inr ⟨z,?_⟩
   have k:=rowN0 (G:=G) 0 v u0 (by rw [pow512]; omega) (by rw [pow512]; exact hv) (by omega) b0 (by rw [pow512,hp0]; omega)
   rw [hp0,Nat.one_mul,Nat.zero_add] at k
   exact k
 ·by_cases z:u1=0
  ·exact .inl ⟨z,by rw [← hp1,z,Nat.mul_zero,Nat.mul_zero,Nat.add_zero]⟩
  ·refine .inr ⟨z,?_⟩
   have k:=rowN1 (G:=G) p0 v u1 (by rw [pow512]; omega) (by rw [pow512]; exact hv) (by omega) b1 (by rw [pow512,hp1]; omega)
   rw [hp1] at k
   exact k
 ·by_cases z:u2=0
  ·exact .inl ⟨z,by rw [← hp2,z,Nat.mul_zero,Nat.mul_zero,Nat.add_zero]⟩
  ·refine .inr ⟨z,?_⟩
   have k:=rowN2 (G:=G) (p0+18446744073709551616*p1) v u2 (by rw [pow512]; omega) (by rw [pow512]; exact hv) (by omega) b2 (by rw [pow512,hp2]; omega)
   rw [hp2] at k
   exact k
 ·by_cases z:u3=0
  ·exact .inl ⟨z,by rw [← hp3,z,Nat.mul_zero,Nat.mul_zero,Nat.add_zero]⟩
  ·refine .inr ⟨z,?_⟩
   have k:=rowN3 (G:=G) (p0+18446744073709551616*p1+340282366920938463463374607431768211456*p2) v u3 (by rw [pow512]; omega) (by rw [pow512]; exact hv) (by omega) b3 (by rw [pow512,hp3]; omega)
   rw [hp3] at k
   exact k
end Go.Proofs.YtmeohhbdkoeadaaGreat
namespace Go.Proofs.YtmeohhbdkoeadaaGreat.Am
open Go.RowKit Go.Shelf Go.Proofs
attribute [local go_sem] Oper.semAt_some
variable {F:Fence} {n:Nat} {P:Program}
def SeqG {α : Type} (F:Fence) (n:Nat) (P:Program) (g:Nat) (lb:Array Value) (encs : α → Array Value) (Kp:World→World→Prop) (xs:List α) (w:World):Prop :=
 ∀ (l:Nat) (J:List α → World→Prop) (W:World),Below w.heap.size w W→(∀ s A A',J s A→A.grownBy A' none→J s A') →
  (∀ pre x W1,J pre W1→(∃ rest,xs=pre ++ x :: rest)→YieldAt F (n - 1) P l (encs x) W1 fun e W'=>e = .returned (.bool true)∧J (pre ++ [x]) W'∧Kp W1 W') →
  J [] W→CallsIn F n P g (#[.func (.yield l) #[] #[]] ++ lb) W fun e W'=>(∃ v,e = .returned v)∧J xs W'
attribute [local go_sem] Oper.semAt_some
variable {F:Fence} {n:Nat} {P:Program}
/-- The same where the round's value is laid into a block of its own ahead of the round. -/
theorem rangeFunc_h {α : Type} {g:Operand} {ps:Array Tmp} {assign body:Code} {Q:Exit→Act→World→Prop} {a:Act} {w:World}
  (hro:F.round=none) (h1:1≤n) {gf:Nat} {lb:Array Value} (hg:a.eval g = .func (.func gf) #[] lb) (hFg:F.fn gf) (eg:∀ args w,(callFunc gf args).run P w = .ok (.enter gf args) w)
  {encs : α → Array Value} {Kp:World→World→Prop} {xs:List α} {w0:World} (hseq:SeqG F (n - 1) P gf lb encs Kp xs w0)
  (hKt:∀ {A B C:World},Kp A B→Kp B C→Kp A C) (hKb:∀ (W:World) (l:Nat) (o':Obj),w.heap.size≤l→Kp W (W.putObj l o')) (hb0:Below w0.heap.size w0 w) (hps:∀ x,(encs x).size=ps.size)
  (I:List α → World→Prop) (hI:OwnFrom w.heap.size I) (h0:I [] w) (Xp : α → World→World→Prop) (a₁ : α → World→Act) (hKg:∀ A B:World,A.grownBy B none→w.heap.size≤A.heap.size→Kp A B)
  (hassign:∀ (l:Nat) (x : α) (W:World) (K:Act→World→Prop),(∃ pre rest,xs=pre ++ x :: rest)→(∀ W',W.grownBy W' none→Xp x W W'→K (a₁ x W) W') →
   assign.wpIn (F.inRound l) (n - 1 - 1) P (Exit.then K (fun _ _ _=>False)) { tmps:=(ps.zip (encs x)).foldl (fun t (p,v)=>t.setIfInBounds p v) a.tmps,defers:=[] } W)
  (hbody:∀ (l:Nat) (pre:List α) (x : α) (W W':World),I pre W'→w.heap.size≤W.heap.size→(∃ W1,Xp x W W1∧W1.heap.size≤W'.heap.size ∧ ∀ k,W.heap.size≤k→W'.heap[k]? = W1.heap[k]?)→(∃ rest,xs=pre ++ x :: rest)→body.wpIn (F.inRound l) (n - 1 - 1) P (ownPostG w.heap.size Kp I (fun _ _ _=>False) (pre ++ [x]) W') (a₁ x W) W')
  (hdone:∀ (D:Nat) (W:World),w.heap.size≤D→I xs W→W.heap[D]? = some (.deferred (some []))→Q .normal { a with defers:={ target:=.collected D,args:=#[] } :: a.defers } W) :
  (Code.rangeFunc g ps assign body).wpIn F n P Q a w:=by
 refine wpIn_rangeFunc ?_
 intro fn hfn
 rw [hro]
 obtain ⟨rec,hrec⟩ : ∃ rec:LoopState→Loop,rec=fun st=>{ state:=st,pending:=none,fn,tmps:=a.tmps,params:=ps,assign,body,defers:=w.heap.size }:=⟨_,rfl⟩
 obtain ⟨W1,hW1⟩ : ∃ W1,(w.alloc (.deferred (some []))).alloc (.loop (rec .ready))=W1:=⟨_,rfl⟩
 have hL1:W1.heap[w.heap.size+1]? = some (.loop (rec .ready)):=by
  rw [← hW1]; have:=World.alloc_heap_new (w.alloc (.deferred (some []))) (.loop (rec .ready)); rwa [World.size_alloc] at this
 have hK1:W1.heap[w.heap.size]? = some (.deferred (some [])):=by
  rw [← hW1]; exact (Below.heap_alloc _ _ _ (by simp)).trans (World.alloc_heap_new w _)
 have hI1:I [] W1:=by rw [← hW1]; exact hI.alloc _ (hI.alloc _ h0)
 have hb1:Below w0.heap.size w0 W1:=by
  rw [← hW1]; exact hb0.trans ((((Below.refl _ w).alloc (Nat.le_refl _) _).alloc (by simp) _).mono hb0.size)
 refine ⟨w.heap.size+1,[{ target:=.collected w.heap.size,args:=#[] }],W1,{ target:=.fn (.func gf) lb,args:=#[.func (.yield (w.heap.size+1)) #[] #[]] },W1,gf,
  #[.func (.yield (w.heap.size+1)) #[] #[]] ++ lb,W1,?_,?_,?_,?_,fun _=>h1,?_⟩
 ·rw [← hW1,hrec]; exact run_enterLoop_outer _ _ _ _ _
 ·simp only [resolve,hg]
  simp [go_sem]
 ·intro f' hf'; simp [Target.leads] at hf'; subst hf'; exact hFg
 ·simp [invoke,go_sem,eg]
 ·refine (hseq (w.heap.size+1) (fun pre W=>I pre W∧W.heap[w.heap.size+1]? = some (.loop (rec .ready))∧W.heap[w.heap.size]? = some (.deferred (some []))) W1 hb1 ?_ ?_ ⟨hI1,hL1,hK1⟩).mono ?_
  ·rintro s A A' ⟨hi,hl,hk⟩ hg
   exact ⟨hI s A A' none hi hg (fun r e=>by cases e),(hg.block _ (Array.getElem?_eq_some_iff.1 hl).1 (by simp)).trans hl,(hg.block _ (Array.getElem?_eq_some_iff.1 hk).1 (by simp)).trans hk⟩
  ·rintro pre x W ⟨hi,hl,hk⟩ hlen
   have hlt:w.heap.size+1 < W.heap.size:=(Array.getElem?_eq_some_iff.1 hl).1
   have hy:=run_yield (P:=P) (args:=encs x) hl (by rw [hrec]; exact hps x)
   rw [hrec] at hy
   refine ⟨fn,_,assign,body,hy,roundIn_of_wpIn hfn (hassign _ x W _ (by obtain ⟨rest,hr⟩:=hlen; exact ⟨pre,rest,hr⟩) (fun V hg hX=>?_))⟩
   have hiV:I pre V:=hI pre W V none hi hg (fun r e=>by cases e)
   have hlV:V.heap[w.heap.size+1]? = some (.loop (rec .ready)):=(hg.block _ hlt (by simp)).trans hl
   have hkV:V.heap[w.heap.size]? = some (.deferred (some [])):=(hg.block _ (by omega) (by simp)).trans hk
   have hltV:w.heap.size+1 < V.heap.size:=(Array.getElem?_eq_some_iff.1 hlV).1
   refine ⟨_,run_beginRound hlV (by rw [hrec]),?_⟩
   have hl2:(V.putObj (w.heap.size+1) (.loop { rec .ready with state:=.busy })).heap[w.heap.size+1]? = some (.loop { rec .ready with state:=.busy }):=World.putObj_heap_same hltV
   have hk2:(V.putObj (w.heap.size+1) (.loop { rec .ready with state:=.busy })).heap[w.heap.size]? = some (.deferred (some [])):=(World.putObj_heap_other (by omega)).trans hkV
   have hw2:Kp W (V.putObj (w.heap.size+1) (.loop { rec .ready with state:=.busy })):=hKt (hKg _ _ hg (by omega)) (hKb _ _ _ (by omega))
   refine wpIn_mono (hbody _ pre x W _ (hI.putObj _ hiV (by omega) hlV rfl) (by omega) ⟨V,hX,by simp,fun k hk=>World.putObj_heap_other (by omega)⟩ hlen) ?_
   rintro e a3 W3 hp
   cases e with
   | normal =>
    obtain ⟨hk3,hkp3,hi3⟩:=hp
    have hl3:=hk3.same _ _ (by omega) hl2 rfl
    have hr:=run_endRound (P:=P) none hl3
    rw [hrec] at hr hl3
    exact ⟨_,_,hr,rfl,⟨hI.putObj _ hi3 (by omega) hl3 rfl,by rw [hrec]; exact World.putObj_heap_same (Array.getElem?_eq_some_iff.1 hl3).1,(World.putObj_heap_other (by omega)).trans (hk3.same _ _ (Nat.le_refl _) hk2 rfl)⟩,hKt (hKt hw2 hkp3) (hKb _ _ _ (by omega))⟩
   | ret=>exact hp.2.elim
   | exit id=>exact hp.2.elim
   | goto t=>exact hp.2.elim
   | panic ch=>exact hp.elim
   | outgrown=>exact hp.elim
  ·rintro e W2 ⟨⟨v,rfl⟩,hi,hl,hk⟩
   exact ⟨none,_,by have:=run_endLoop (P:=P) hl (by rw [hrec]; simp); rw [hrec] at this; exact this,hdone _ _ (Nat.le_refl _) (hI.putObj _ hi (by omega) hl rfl) ((World.putObj_heap_other (by omega)).trans hk)⟩
end Go.Proofs.YtmeohhbdkoeadaaGreat.Am
namespace Go.Proofs.YtmeohhbdkoeadaaGreat.Am
open Go.RowKit Go.Shelf Go.Proofs
variable {F:Fence} {n:Nat} {P:Program}
theorem about_plain {w:World} {o:Oper} {ρ : Operand→Value} (h:∀ c,o.op ≠ .call c):o.about P w ρ = none:=by
 unfold Oper.about
 split
 ·rename_i c hc; exact absurd hc (h c)
 ·rfl
theorem wpListIn_v {w w':World} {ops:Array Oper} {rest:List Oper} {o:Oper} {a:Act} {Q:Exit→Act→World→Prop} (hg:o.guard=none) (hc:∀ c,o.op ≠ .call c) (hd:∀ c,o.op ≠ .defer c) {v:Value}
  (hrun:(execOp a.eval o).run P w = .ok (.value v) w') (hK:wpListIn F n P ops Q rest (a.put o.dst v) w'):wpListIn F n P ops Q (o :: rest) a w:=by
 refine wpListIn_plain hg fun K hK'=>?_
 unfold Oper.wpIn
 refine ⟨?_,?_⟩
 ·rw [about_plain hc]; simp
 ·rw [Oper.semAt_plain F _ _ hd,hrun]
  simpa [Oper.uponIn_value] using hK' _ _ hK
theorem wpListIn_s {w w':World} {ops:Array Oper} {rest:List Oper} {o:Oper} {a:Act} {Q:Exit→Act→World→Prop} (hg:o.guard=none) (hc:∀ c,o.op ≠ .call c) (hd:∀ c,o.op ≠ .defer c)
  (hrun:(execOp a.eval o).run P w = .ok .skip w') (hK:wpListIn F n P ops Q rest (a.put o.dst undef) w'):wpListIn F n P ops Q (o :: rest) a w:=by
 refine wpListIn_plain hg fun K hK'=>?_
 unfold Oper.wpIn
 refine ⟨?_,?_⟩
 ·rw [about_plain hc]; simp
 ·rw [Oper.semAt_plain F _ _ hd,hrun]
  simpa [Oper.uponIn_skip] using hK' _ _ hK
/-- A row of cells is loaded. -/
theorem wpListIn_ld {w:World} {ops:Array Oper} {rest:List Oper} {o:Oper} {a:Act} {Q:Exit→Act→World→Prop} (hg:o.guard=none) {t:TypeId} {X:Operand} (ho:o.op = .load t X) {d:TypeDesc} {i:TypeInfo} (hi:P.info? t=some i) (hd:P.underlying t=some d) (hr:isRowD d=true)
  (blk off:Nat) (hX:a.eval X = .pointer (some ⟨blk,off,none⟩)) (x:List Value) (hx:x.length=i.size) (hc:∀ j v,x[j]? = some v→w.cell? ⟨blk,off+j,none⟩ = some v)
  (hK:wpListIn F n P ops Q rest (a.put o.dst (.agg x.toArray)) w):wpListIn F n P ops Q (o :: rest) a w:=by
 refine wpListIn_v hg (by rw [ho]; intro c h; cases h) (by rw [ho]; intro c h; cases h) (v:=.agg x.toArray) ?_ hK
 letI:Inhabited DRT:=⟨⟨False⟩⟩
 have:=run_loadVar_agg (P:=P) (w:=w) hi hd hr blk off x hx (fun j hj=>hc j _ (List.getElem?_eq_getElem hj))
 unfold execOp
 rw [ho]
 simp [Instr.loadAt,Instr.sureAddr,hX,this]
/-- A row of cells is stored. -/
theorem wpListIn_st {w:World} {ops:Array Oper} {rest:List Oper} {o:Oper} {a:Act} {Q:Exit→Act→World→Prop} (hg:o.guard=none) {t:TypeId} {X Y:Operand} (ho:o.op = .store t X Y) {i:TypeInfo} (hi:P.info? t=some i) (blk:Nat)
  (hX:a.eval X = .pointer (some ⟨blk,0,none⟩)) (x:List Value) (hY:a.eval Y = .agg x.toArray) (hx:x.length=i.size) (h1:∀ v ∈ x,v.oneCell'=true) (ty:TypeId) (cur:Array Value) (hcur:w.heap[blk]? = some (.cells cur ty (0,0))) (hsz:cur.size=x.length)
  (hK:∀ w',w.grownBy w' (some blk)→w'.heap.size=w.heap.size→w'.heap[blk]? = some (.cells x.toArray ty (0,0))→wpListIn F n P ops Q rest (a.put o.dst undef) w'):wpListIn F n P ops Q (o :: rest) a w:=by
 letI:Inhabited DRT:=⟨⟨False⟩⟩
 have hs:=run_storeVar (P:=P) (w:=w) hi blk 0 ty cur (.agg x.toArray) x rfl hx h1 hcur (by omega)
 have he:(cur.toList.take 0 ++ x ++ cur.toList.drop (0+x.length)).toArray=x.toArray:=by
  rw [List.take_zero,List.nil_append,List.drop_of_length_le (by simp; omega),List.append_nil]
 rw [he] at hs
 have hb:blk < w.heap.size:=(Array.getElem?_eq_some_iff.1 hcur).1
 refine wpListIn_s hg (by rw [ho]; intro c h; cases h) (by rw [ho]; intro c h; cases h) (w':=w.setRow blk x.toArray) ?_ (hK _ ?_ ?_ ?_)
 ·unfold execOp
  rw [ho]
  simp [Instr.storeAt,Instr.sureAddr,hX,hY,hs]
 ·refine ⟨rfl,rfl,rfl,by simp [World.setRow],fun k _ hk=>?_⟩
  have:blk ≠ k:=fun e=>hk (by rw [e])
  simp [World.setRow,Array.getElem?_modify,this]
 ·simp [World.setRow]
 ·exact setRow_heap _ _ _ _ _ _ hcur
/-- A slice of one row of cells. -/
theorem wpListIn_bs {w:World} {ops:Array Oper} {rest:List Oper} {o:Oper} {a:Act} {Q:Exit→Act→World→Prop} (hg:o.guard=none) {t e:TypeId} {X:Operand} (ho:o.op = .buildSlice t 1 #[(0,X)]) {i:TypeInfo} {z:Value} (hu:P.underlying t=some (.slice e)) (hi:P.info? e=some i) (hz:i.zero=some z) (hzs:z.cells.size=i.size) (h0:0 < i.size) (hb:i.size≤1000000)
  (x:List Value) (hX:a.eval X = .agg x.toArray) (hx:x.length=i.size)
  (hK:wpListIn F n P ops Q rest (a.put o.dst (.slice (some ⟨w.heap.size,0,none⟩) 1 1)) (w.alloc (.cells x.toArray e))):wpListIn F n P ops Q (o :: rest) a w:=by
 refine wpListIn_v hg (by rw [ho]; intro c h; cases h) (by rw [ho]; intro c h; cases h) (v:=.slice (some ⟨w.heap.size,0,none⟩) 1 1) ?_ hK
 letI:Inhabited DRT:=⟨⟨False⟩⟩
 have hf:∀ cells:Array Value,cells.size=i.size→Instr.fill (fun j=>some (j*i.size,i.size)) cells [(0,.agg x.toArray)]=some x.toArray:=by
  intro cells hc
  have e1:(Value.agg x.toArray).cells=x.toArray:=rfl
  have e2:=foldl_splice x 0 0 cells (by omega)
  simp only [Nat.add_zero,List.take_zero,List.nil_append,Nat.zero_add] at e2
  rw [List.drop_of_length_le (by simp; omega),List.append_nil] at e2
  simp only [Instr.fill,Nat.zero_mul,e1,List.size_toArray]
  rw [if_neg (by simp; omega)]
  simpa using e2
 have hne:¬ (i.size=0):=by omega
 have hle:¬ (16777216 < i.size):=by omega
 have hf2:=hf ((Array.range i.size).map fun k=>z.cells[k % z.cells.size]!) (by simp)
 have hrun:(Instr.buildSlice t 1 #[(0,.agg x.toArray)]).run P w = .ok (.slice (some ⟨w.heap.size,0,none⟩) 1 1) (w.alloc (.cells x.toArray e)):=by
  simp [Instr.buildSlice,underlying,hu,sizeOf,typeInfo,hi,hle,hne,newRow,zeroValue,hz]
  simp [hf2]
 unfold execOp
 rw [ho]
 simp [hX,hrun]
end Go.Proofs.YtmeohhbdkoeadaaGreat.Am
namespace Go.Proofs.YtmeohhbdkoeadaaGreat
open Go.Proofs.YtmeohhbdkoeadaaGreat.Am Go.RowKit Go.Shelf
attribute [local go_sem] Oper.semAt_some
theorem range_split {m i:Nat} (h:i < m):∃ rest,List.range m=List.range i ++ i :: rest:=by
 refine ⟨(List.range m).drop (i+1),?_⟩
 have e:List.range m=(List.range m).take i ++ (List.range m).drop i:=(List.take_append_drop i _).symm
 rw [List.take_range,Nat.min_eq_left (Nat.le_of_lt h)] at e
 rw [List.drop_eq_getElem_cons (by simpa using h)] at e
 simpa using e
def zS:Value:=.agg #[.bool false,.int .u64 0,.int .u64 0,.int .u64 0,.int .u64 0,.int .u64 0,.int .u64 0,.int .u64 0,.int .u64 0,.bool false,.int .u64 0,.int .u64 0,.int .u64 0,.int .u64 0,.int .u64 0,.int .u64 0,.int .u64 0,.int .u64 0,.int .u64 0,.int .u64 0,.int .u64 0,.int .u64 0,.int .u64 0,.int .u64 0,.int .u64 0,.int .u64 0]
theorem info34:(Tryz.prog.info? 34).map (fun i=>(i.zero,i.size,i.bytes))=some (some zS,26,208):=by kernel_rfl
theorem values_g (n:Nat) (hn:1≤n) (Bx off b2 base cap m:Nat) (vs:Nat→List Value) (w:World) (hBx:Bx < w.heap.size) (hb2:b2 < w.heap.size) (hm:m≤1000000)
  (p:Option Addr) (hp:0 < m→p=some ⟨b2,base,none⟩) (hc:w.cell? ⟨Bx,off,none⟩ = some (.slice p m cap)) (hl:∀ i,i < m→(vs i).length=26) (ho:∀ i,i < m → ∀ v ∈ vs i,v.oneCell'=true)
  (hcell:∀ i j v,i < m→(vs i)[j]? = some v→w.cell? ⟨b2,base+i*26+j,none⟩ = some v) :
  SeqG Fence.wide n Tryz.prog 55 #[.pointer (some ⟨Bx,off,none⟩)] (fun i:Nat=>#[Value.agg (vs i).toArray]) (fun A B=>∀ k,k < w.heap.size→B.heap[k]? = A.heap[k]?) (List.range m) w:=by
 intro l J W hW hJ hY h0
 have hcW:W.cell? ⟨Bx,off,none⟩ = some (.slice p m cap):=(hW.cell (p:=⟨Bx,off,none⟩) hBx).trans hc
 refine callsIn_of_wp Tryz.func55 rfl trivial ?_ rfl
 simp only [Tryz.ntmps55,List.size_toArray,List.length_cons,List.length_nil,Nat.reduceAdd,Nat.reduceSub,Array.replicate_succ,Array.replicate_zero,List.push_toArray,List.append_toArray,List.nil_append,List.cons_append]
 gi_wp2
 gi_loopw [4,7] (fun _ s7 wr=>∃ i:Nat,i≤m∧s7 = .int .i64 i∧J (List.range i) wr∧(∀ k,k < w.heap.size→wr.heap[k]? = W.heap[k]?)∧w.heap.size≤wr.heap.size) (fun _ s7 _=>match s7 with | .int _ z=>m - z.toNat | _=>0)
 case atStart=>exact ⟨0,by omega,rfl,h0,fun _ _=>rfl,hW.size⟩
 case round =>
  obtain ⟨i,hi,rfl,hJi,hold,hlw⟩:=hrel
  by_cases hlt:i < m
  ·obtain rfl:=hp (by omega)
   have hWw:∀ k,k < w.heap.size→wr.heap[k]? = w.heap[k]?:=fun k hk=>(hold k hk).trans (hW.block k hk)
   have hcr:∀ j v,(vs i)[j]? = some v→wr.cell? ⟨b2,base+i*26+j,none⟩ = some v:=fun j v hv=>by
    rw [cell_same (hWw b2 hb2)]; exact hcell i j v hlt hv
   have hlen:=hl i hlt
   have hone:=ho i hlt
   generalize hx:vs i=x at hcr hlen hone
   obtain ⟨i0,hI1,hIz,hI2,hIb⟩:=info_parts info34
   have hxl:x.length=i0.size:=hlen.trans hI2.symm
   have hnew:=World.alloc_heap_new wr (.cells zS.cells 34)
   have hng:(wr.alloc (.cells zS.cells 34)).grownBy (wr.alloc (.cells zS.cells 34)) none:=⟨rfl,rfl,rfl,Nat.le_refl _,fun _ _ _=>rfl⟩
   gi_wp2_with (first
    | (refine wpListIn_ld (t:=34) rfl rfl hI1 Tryz.underlying34 rfl b2 (base+i*26) rfl x hxl hcr ?_)
    | (refine wpListIn_st (t := 34) rfl rfl hI1 wr.heap.size rfl x rfl hxl hone 34 zS.cells hnew (by rw [hlen]; rfl) ?_; intro w2 hg2 hs2 hc2
       have hk2:∀ k,k < wr.heap.size→w2.heap[k]? = wr.heap[k]?:=fun k hk=>(hg2.block k (by rw [World.size_alloc]; omega) (by intro e; cases e; omega)).trans (Below.heap_alloc _ _ k hk)
       have hgr:wr.grownBy w2 none:=⟨hg2.os,hg2.tape,hg2.output,by rw [hs2,World.size_alloc]; omega,fun k hk _=>hk2 k hk⟩
       have hl2:∀ j v,x[j]? = some v→w2.cell? ⟨wr.heap.size,0+j,none⟩ = some v:=fun j v hv=>by rw [Nat.zero_add,cell_of_row w2 _ _ _ 34 (0,0) hc2]; simpa using hv
       obtain ⟨fn,tmps,assign,body,hy,hR⟩:=hY (List.range i) i w2 (hJ _ _ _ hJi hgr) (range_split hlt)
       rw [hx] at hy)
    | (refine wpListIn_ld (t:=34) rfl rfl hI1 Tryz.underlying34 rfl wr.heap.size 0 rfl x hxl hl2 ?_))
   refine hR.mono ?_
   rintro e W3 ⟨rfl,hJ3,hk3⟩
   gi_wp2
   have hk4:∀ k,k < w.heap.size→W3.heap[k]? = W.heap[k]?:=fun k hk=>(hk3 k hk).trans ((hk2 k (by omega)).trans (hold k hk))
   have hs3:w.heap.size≤W3.heap.size:=by
    have e:=hk4 (w.heap.size - 1) (by omega)
    have hws:=hW.size
    rw [Array.getElem?_eq_getElem (show w.heap.size - 1 < W.heap.size by omega)] at e
    have:=(Array.getElem?_eq_some_iff.1 e).1
    omega
   go_roundw
   case rel=>exact ⟨i+1,by omega,by go_num,by rw [List.range_succ]; exact hJ3,hk4,hs3⟩
   case measure =>
    show m - ((i:Int)+1).toNat < m - (i:Int).toNat
    omega
  ·have e:i=m:=by omega
   subst e
   gi_wp2
   go_end0
   exact ⟨⟨_,rfl⟩,hJi⟩
attribute [local go_sem] Oper.semAt_some
theorem ownsRow_base {W:World} {b b':Nat} {e:TypeId} {size:Nat} {v:Value} {k:Nat} {xs:List Value} (h:W.ownsRow b e size v k xs) (hb:b'≤b):W.ownsRow b' e size v k xs:=by
 refine ⟨h.1,?_⟩
 rcases h.2 with h | ⟨g,cap,cur,h1,h2,h3⟩
 ·exact .inl h
 ·exact .inr ⟨g,cap,cur,h1,Nat.le_trans hb h2,h3⟩
theorem cells_new (w:World) (x:List Value) (t:TypeId):∀ j u,x[j]? = some u→(w.alloc (.cells x.toArray t)).cell? ((⟨w.heap.size,0,none⟩ : Addr).add j)=some u:=by
 intro j u hu
 letI:Inhabited DRT:=⟨⟨False⟩⟩
 rw [add_at,Nat.zero_add,cell_of_row _ _ _ _ t (0,0) (World.alloc_heap_new w _)]
 simpa using hu
theorem appendSeq_raw (Bx off b2 base cap m:Nat) (vs:Nat→List Value) (w:World) (hBx:Bx < w.heap.size) (hb2:b2 < w.heap.size) (hm:m≤1000000)
  (p:Option Addr) (hp:0 < m→p=some ⟨b2,base,none⟩) (hc:w.cell? ⟨Bx,off,none⟩ = some (.slice p m cap)) (hl:∀ i,i < m→(vs i).length=26) (ho:∀ i,i < m → ∀ v ∈ vs i,v.oneCell'=true)
  (hcell:∀ i j v,i < m→(vs i)[j]? = some v→w.cell? ⟨b2,base+i*26+j,none⟩ = some v) :
  Calls Tryz.prog 85 #[.slice none 0 0,.func (.func 55) #[] #[.pointer (some ⟨Bx,off,none⟩)]] w fun e W'=>∃ v,e = .returned v∧W'.ownsRow w.heap.size 34 26 v m ((List.range m).flatMap vs)∧Below w.heap.size w W':=by
 refine (callsIn_wide (n:=3)).1 ?_
 obtain ⟨i0,hI1,hIz,hI2,hIb⟩:=info_parts info34
 refine callsIn_of_wp_marks Tryz.func85 rfl trivial ?_ rfl
 simp only [Tryz.ntmps85,List.size_toArray,List.length_cons,List.length_nil,Nat.reduceAdd,Nat.reduceSub,Array.replicate_succ,Array.replicate_zero,List.push_toArray,List.append_toArray,List.nil_append,List.cons_append]
 gi_wp2
 have bO:=Boxed.new w 22 (.slice none 0 0)
 have hB0:Below w.heap.size w (w.alloc (.cells #[.slice none 0 0] 22)):=(Below.refl _ w).alloc (Nat.le_refl _) _
 refine rangeFunc_h (α:=Nat) (encs:=fun i:Nat=>#[Value.agg (vs i).toArray]) (Kp:=fun A B=>∀ k,k < w.heap.size→B.heap[k]? = A.heap[k]?) (xs:=List.range m) rfl (by decide) (gf:=55) (lb:=#[.pointer (some ⟨Bx,off,none⟩)]) rfl trivial (enters_of Tryz.func55 (by kernel_rfl) rfl)
  (values_g _ (by decide) Bx off b2 base cap m vs w hBx hb2 hm p hp hc hl ho hcell) (fun h k i hi=>(k i hi).trans (h i hi)) (fun W l o' hl k hk=>World.putObj_heap_other (by simp at hl; omega)) hB0 (fun _=>rfl)
  (fun pre W=>(∃ v,Boxed W w.heap.size 22 v∧W.ownsRow (w.heap.size+1) 34 26 v pre.length (pre.flatMap vs)∧True)∧Below w.heap.size w W∧w.heap.size+1≤W.heap.size)
  (OwnFrom.and (Own.from (holdsRow_own (w.heap.size+1) w.heap.size 22 34 26 (fun pre:List Nat=>pre.length) (fun pre=>pre.flatMap vs) (fun _ _=>True)) _) (OwnFrom.and (ownFrom_below (Nat.le_refl _) (by simp)) (fun _ A B _ h hg _=>Nat.le_trans h hg.size)))
  ⟨⟨_,bO,World.ownsRow_nil _ _ _ _,trivial⟩,hB0,by simp⟩
  (fun x W W'=>W'.heap[W.heap.size]? = some (.cells (vs x).toArray 34 (0,0))∧W'.heap.size=W.heap.size+1)
  (fun x W=>{ tmps:=#[.slice none 0 0,.func (.func 55) #[] #[.pointer (some ⟨Bx,off,none⟩)],.pointer (some ⟨w.heap.size,0,none⟩),undef,.slice none 0 0,.pointer (some ⟨W.heap.size,0,none⟩),.func (.func 55) #[] #[.pointer (some ⟨Bx,off,none⟩)],.agg (vs x).toArray,undef,undef,undef,undef,undef],defers:=[] })
  (fun A B hg hA k hk=>hg.block k (by simp at hA; omega) (by simp)) ?assign ?body ?done
 case assign =>
  rintro l x W K ⟨pre,rest,hxs⟩ hK
  have hxm:x < m:=by
   have:x ∈ List.range m:=by rw [hxs]; simp
   simpa using this
  have hlen:=hl x hxm
  have hone:=ho x hxm
  have hnew:=World.alloc_heap_new W (.cells zS.cells 34)
  gi_wp2_with (first
   | (refine wpListIn_st (t := 34) rfl rfl hI1 W.heap.size rfl (vs x) rfl (hlen.trans hI2.symm) hone 34 zS.cells hnew (by rw [hlen]; rfl) ?_; intro w2 hg2 hs2 hc2
      have hk2:∀ k,k < W.heap.size→w2.heap[k]? = W.heap[k]?:=fun k hk=>(hg2.block k (by rw [World.size_alloc]; omega) (by intro e; cases e; omega)).trans (Below.heap_alloc _ _ k hk)
      have hgr:W.grownBy w2 none:=⟨hg2.os,hg2.tape,hg2.output,by rw [hs2,World.size_alloc]; omega,fun k hk _=>hk2 k hk⟩
      have hK2:=hK w2 hgr ⟨hc2,by rw [hs2,World.size_alloc]⟩))
  exact hK2
 case body =>
  rintro l pre x W0 W ⟨⟨v,hv,hrow,_⟩,hB,hsz⟩ hW0 ⟨W1,⟨hX,hX2⟩,hX3,hX4⟩ ⟨rest,hxs⟩
  have hxm:x < m:=by
   have:x ∈ List.range m:=by rw [hxs]; simp
   simpa using this
  have hpl:pre.length < m:=by
   have:=congrArg List.length hxs
   simp at this
   omega
  have hlen:=hl x hxm
  have hone:=ho x hxm
  have hc5:W.heap[W0.heap.size]? = some (.cells (vs x).toArray 34 (0,0)):=(hX4 _ (Nat.le_refl _)).trans hX
  have hl5:∀ j u,(vs x)[j]? = some u→W.cell? ⟨W0.heap.size,0+j,none⟩ = some u:=fun j u hu=>by rw [Nat.zero_add,cell_of_row W _ _ _ 34 (0,0) hc5]; simpa using hu
  have hcv:=hv.cell
  gi_wp2_with (first
   | (refine wpListIn_ld (t:=34) rfl rfl hI1 Tryz.underlying34 rfl W0.heap.size 0 rfl (vs x) (hlen.trans hI2.symm) hl5 ?_)
   | (refine wpListIn_bs (t:=22) rfl rfl Tryz.underlying22 hI1 hIz (by rw [hI2]; rfl) (by rw [hI2]; omega) (by rw [hI2]; omega) (vs x) rfl (hlen.trans hI2.symm) ?_)
   | (gi_at_builtin
      refine wpListIn_append_own _ rfl _ _ 22 rfl (w.heap.size+1) 34 i0 zS 26 208 Tryz.underlying22 hI1 hIz hI2 hIb rfl (by decide) v pre.length (pre.flatMap vs) rfl (hrow.alloc _) ⟨W.heap.size,0,none⟩ 1 1 (vs x) rfl (by rw [hlen]) (cells_new W (vs x) 34) hone (by unfold maxLen; omega) (by omega) (by rw [World.size_alloc]; omega) ?_
      intro v' w1 hown' hgrow hnil
      obtain ⟨g',cap',rfl⟩:=ownsRow_succ hown'
      have hv1:Boxed w1 w.heap.size 22 v:=Boxed.kept (W:=W.alloc (.cells (vs x).toArray 34)) (hv.alloc _) hgrow (hv.not_row (by decide) hrow)
      have hc1:=hv1.cell
      have hf1:=hv1.frozen))
  obtain ⟨_,h2,_,h4,h5⟩:=hv.appended (n₀:=w.heap.size) (by decide) (ownsRow_base hrow (by omega)) hB.size (Nat.le_refl _) (ownsRow_base hown' (by omega)) hgrow
  have hown2:=hown'.kept (grownBy_setCell' w1 w.heap.size (.slice (some ⟨g',0,none⟩) (pre.length+1) cap')) (.inr (hv1.not_row (by decide) hown').symm)
  exact ⟨h4.from _,fun k hk=>h5.block k hk,⟨_,h2,by simpa using hown2,trivial⟩,hB.trans h5,Nat.le_trans hsz h4.size⟩
 case done =>
  rintro D W hD ⟨⟨v,hv,hrow,_⟩,hB,_⟩ hK
  have hc:=hv.cell
  gi_wp2
  refine ⟨by simp,.inl ⟨_,_,rfl,run_takeDeferred hK,?_⟩⟩
  exact ⟨_,results_tmp rfl _ _ _,v,rfl,by simpa using ownsRow_base (ownsRow_putObj hrow _ hK rfl) (by omega),hB.trans (belowK_b (w:=w) (Nat.le_refl _) W D _ _ (by simp at hD; omega) hK rfl rfl)⟩
section
variable [Inhabited DRT]
variable {G:GInv}
theorem flat_at (f:Nat→List Value) (hf:∀ i,(f i).length=26):∀ n i j,i < n→j < 26→((List.range n).flatMap f)[i*26+j]? = (f i)[j]?:=by
 have hl:∀ n,((List.range n).flatMap f).length=n*26:=fun n=>by
  induction n with
  | zero=>rfl
  | succ n ih=>rw [List.range_succ,List.flatMap_append,List.length_append,ih]; simp [hf]; omega
 intro n
 induction n with
 | zero=>intro i j h; omega
 | succ n ih =>
  intro i j hi hj
  rw [List.range_succ,List.flatMap_append]
  by_cases h:i < n
  ·rw [List.getElem?_append_left (by rw [hl]; omega)]
   exact ih i j h hj
  ·obtain rfl:i=n:=by omega
   rw [List.getElem?_append_right (by rw [hl]; omega),hl]
   simp [Nat.add_sub_cancel_left]
theorem appendSeq_m (hns:(default:DRT).ns) (n:Nat) (row:Nat→List A) (hl:∀ i,i < n→(row i).length=26) (hn:n≤1000000) :
  MCalls Tryz.prog G 85 [.nils,.fn 55 [.bref [.sl n 26 row] 0]] [] (.own 0) [.row 34 26 n row]:=by
 refine ⟨⟨_,_,Tryz.func85,rfl,rfl⟩,?_⟩
 intro im w vs gs ids hG hs
 have hvl:vs.length=2:=by have:=hs.len; simpa using this
 obtain ⟨v0,v1,rfl⟩ : ∃ v0 v1,vs=[v0,v1]:=by
  match vs,hvl with
  | [a,b],_=>exact ⟨a,b,rfl⟩
 have r0:Rel ids _ w .nils v0:=hs.slots 0 (by simp) (by simp)
 have r1:Rel ids _ w (.fn 55 [.bref [.sl n 26 row] 0]) v1:=hs.slots 1 (by simp) (by simp)
 have hml:ids.length=0:=by have:=hs.mlen; simpa using this
 obtain rfl:ids=[]:=List.eq_nil_of_length_eq_zero hml
 obtain rfl:=r0.nils_inv
 obtain ⟨us,rfl,hul,hur⟩:=r1.fn_inv
 obtain ⟨u,rfl⟩ : ∃ u,us=[u]:=by
  match us,hul with
  | [a],_=>exact ⟨a,rfl⟩
 have ru:=hasOwn_rel (ids:=[]) 4 _ _ rfl (hur 0 (by simp) (by simp))
 have ru:RelI (imOf ⟨w,im,muOf [],gs⟩ [] w) w (.bref [.sl n 26 row] 0) u:=ru
 have hlt:∀ b,imOf ⟨w,im,muOf [],gs⟩ [] w b→b < w.heap.size:=fun b hb=>imOf_lt hs hb
 cases ru with
 | bref blk base off cs ws hb hc ho hr =>
  have hc0:=hc 0 (by simp)
  have hr0:RelI (imOf ⟨w,im,muOf [],gs⟩ [] w) w (.sl n 26 row) (ws 0):=hr 0 (by simp)
  generalize ws 0=s at hc0 hr0
  -- what the slice is
  have key:∃ (p:Option Addr) (cap b2 bs:Nat) (xs:Nat→List Value),s = .slice p n cap∧(0 < n→p=some ⟨b2,bs,none⟩)∧b2 < w.heap.size∧(∀ i,(xs i).length=26)∧(∀ i,i < n → ∀ v ∈ xs i,v.oneCell'=true) ∧
    (∀ i j v,i < n→(xs i)[j]? = some v→w.cell? ⟨b2,bs+i*26+j,none⟩ = some v) ∧ ∀ i j,i < n → ∀ (h:j < (row i).length) (h':j < (xs i).length),RelI (imOf ⟨w,im,muOf [],gs⟩ [] w) w (row i)[j] (xs i)[j]:=by
   cases hr0 with
   | sl0=>exact ⟨none,0,blk,0,fun _=>List.replicate 26 undef,rfl,fun h=>by omega,hlt _ hb,fun _=>by simp,fun i h=>by omega,fun i j v h=>by omega,fun i j h=>by omega⟩
   | sle _ _ ad cap=>exact ⟨some ad,cap,blk,0,fun _=>List.replicate 26 undef,rfl,fun h=>by omega,hlt _ hb,fun _=>by simp,fun i h=>by omega,fun i j v h=>by omega,fun i j h=>by omega⟩
   | sl _ _ _ b2 bs cap vs' hb2 hcap hll hcc hoo hrr =>
    refine ⟨some ⟨b2,bs,none⟩,cap,b2,bs,fun i=>(List.range 26).map (vs' i),rfl,fun _=>rfl,hlt _ hb2,fun _=>by simp,?_,?_,?_⟩
    ·intro i hi v hv
     simp only [List.mem_map,List.mem_range] at hv
     obtain ⟨j,hj,rfl⟩:=hv
     exact hoo i j hi hj
    ·intro i j v hi hv
     have hj:j < 26:=by
      have:=(List.getElem?_eq_some_iff.1 hv).1
      simpa using this
     rw [List.getElem?_map,List.getElem?_range hj] at hv
     cases hv
     exact hcc i j hi hj
    ·intro i j hi h h'
     have hj:j < 26:=by simpa using h'
     simp only [List.getElem_map,List.getElem_range]
     exact hrr i j hi h
  obtain ⟨p,cap,b2,bs,xs,rfl,hp,hb2,hxl,hxo,hxc,hxr⟩:=key
  have hraw:=appendSeq_raw blk (base+0) b2 bs cap n xs w (hlt _ hb) hb2 hn p hp hc0 (fun i _=>hxl i) hxo hxc
  refine Calls_mono (by simpa using hraw) ?_
  rintro e w' ⟨v,rfl,hrow,hbl⟩
  have hfl:=flat_at xs hxl n
  generalize (List.range n).flatMap xs=fl at hfl hrow
  have hdr:drLe w.drawn w'.drawn:=.inl hns
  have hblk:∀ k,k < w.heap.size→(∀ (b:Nat) (p:Am.Id),([]:Ids)[b]? = some (.lv p)→¬ p.has k)→w'.heap[k]? = w.heap[k]?:=fun k hk _=>hbl.block k hk
  rcases hrow.2 with ⟨rfl,h0⟩ | ⟨g,cap',cur,rfl,hg,hgb,hn1,hn2,hn3,hn4⟩
  ·subst h0
   refine ⟨_,[.virt],rfl,?_⟩
   have hs2:=hs.goOn (w':=w') (ids':=[.virt]) (s':=[.junk,.junk]) (m':=[.row 34 26 0 row]) hbl.os hbl.tape hbl.output hbl.size hblk (fun q hq=>by simp at hq) (fun vs h=>by simp at h) (fun b b' p q x h1=>by rcases b with _ | b <;> cases h1) rfl rfl
    (fun i h h'=>.imm (by rcases i with _|_|i <;> first|exact .junk _|(simp at h;omega))) (fun b h h'=>by rcases b with _|b <;> first|rfl|(simp at h)) hdr
   exact { hs2 with len:=rfl,slots:=fun i h h'=>by rcases i with _|i <;> first|exact .own0 0 rfl|(simp at h) }
  ·have hids:([IdE.lv (mkId g cur.size n 26)]:Ids)[0]? = some (.lv (mkId g cur.size n 26)):=rfl
   have hown:∀ q,IdE.lv q ∈ ([IdE.lv (mkId g cur.size n 26)]:Ids) → ∀ x,q.has x→x < w'.heap.size∧(w.heap.size≤x ∨ ∃ (b:Nat) (p:Am.Id),([]:Ids)[b]? = some (.lv p)∧p.has x):=by
    intro q hq x hx
    simp at hq
    subst hq
    rw [mkId_has hx]
    exact ⟨(Array.getElem?_eq_some_iff.1 hgb).1,.inl hg⟩
   obtain ⟨hi1,hi2⟩:=hs.im_stays (w':=w') (ids':=[IdE.lv (mkId g cur.size n 26)]) hbl.size hblk hown
   refine ⟨_,[IdE.lv (mkId g cur.size n 26)],rfl,?_⟩
   have hs2:=hs.goOn (w':=w') (ids':=[IdE.lv (mkId g cur.size n 26)]) (s':=[.junk,.junk]) (m':=[.row 34 26 n row]) hbl.os hbl.tape hbl.output hbl.size hblk hown (fun vs h=>by simp at h)
    (fun b b' p q x h1 h2 _ _=>by rcases b with _|b <;> rcases b' with _|b' <;> first|rfl|(cases h1;done)|(cases h2;done)) rfl rfl
    (fun i h h'=>.imm (by rcases i with _|_|i <;> first|exact .junk _|(simp at h;omega))) ?_ hdr
   ·exact { hs2 with len:=rfl,slots:=fun i h h'=>by rcases i with _|i <;> first|exact .own 0 cap' _ hids ⟨hn1,hn2⟩ (by show cap'*26=cur.size;omega)|(simp at h) }
   ·intro b h h'
    rcases b with _ | b
    ·refine ⟨rfl,rfl,cur,hgb,rfl,?_,hl,?_⟩
     ·show n*26≤cur.size
      rw [hn3]
      exact Nat.mul_le_mul_right _ hn1
     ·intro i j hi hj hj'
      have hj26:j < 26:=by rw [← hl i hi]; exact hj
      have e1:=hfl i j hi hj26
      rw [← hn4,List.getElem?_take,if_pos (by omega),Array.getElem?_toList,Array.getElem?_eq_getElem hj',List.getElem?_eq_getElem (by rw [hxl]; exact hj26)] at e1
      have e1:=Option.some.inj e1
      rw [e1]
      exact ⟨(hxr i j hi hj (by rw [hxl]; exact hj26)).mono hi1 hi2,hxo i hi _ (List.getElem_mem _)⟩
    ·simp at h
end
end Go.Proofs.YtmeohhbdkoeadaaGreat
namespace Go.Proofs.YtmeohhbdkoeadaaGreat.Am
open Go.Shelf Go.RowKit Go.Lib Go.Sort Go.Proofs
section
variable {P:Program}
theorem run_clear_k (w:World) (t e ty:TypeId) (z:Value) (ht:P.underlying t=some (.slice e)) (hv:∀ w,(zeroValue e).run P w = .ok z w) (b o n c:Nat) (hn:0 < n) (zs:List Value) (hz:(Builtin.zeroCells z.cells n).toList=zs) (h1:∀ v ∈ zs,v.oneCell'=true)
  (hc:∀ j,j < zs.length→(w.cell? ⟨b,o+j,none⟩).isSome=true) (hf:∀ j,j < zs.length→w.frozen? ⟨b,o+j,none⟩ = false) :
  (Builtin.clear_ #[t] ty #[.slice (some ⟨b,o,none⟩) n c]).run P w = .ok (.tuple #[]) (w.setCells b o zs):=by
 have hst:=run_storeCells_cells (P:=P) b o zs 0 w (by simpa using hc) (by simpa using hf) h1
 simp only [Nat.add_zero] at hst
 obtain ⟨m,rfl⟩ : ∃ m,n=m+1:=⟨n - 1,by omega⟩
 simp [Builtin.clear_,run_underlying ht,hv,hz,hst]
end
structure CompL (P:Program) (ρ : Go.Shelf.Ren):Prop where
 mixed:P.follows .mixedOrders=true
 f43:Bears P (ρ.f 43) (SlBodyN.n43 ρ)
 t0:P.underlying (ρ.t 0)=some (TypeDesc.tuple #[])
 a0:∀ w,(isAgg (ρ.t 0)).run P w = .ok false w
 z0:∀ w,(Go.sizeOf (ρ.t 0)).run P w = .ok 1 w
 v0:∀ w,(zeroValue (ρ.t 0)).run P w = .ok (Value.tuple #[]) w
 t3:P.underlying (ρ.t 3)=some (TypeDesc.int IntKind.i64)
 a3:∀ w,(isAgg (ρ.t 3)).run P w = .ok false w
 z3:∀ w,(Go.sizeOf (ρ.t 3)).run P w = .ok 1 w
 v3:∀ w,(zeroValue (ρ.t 3)).run P w = .ok (Value.int IntKind.i64 0) w
 t4:P.underlying (ρ.t 4)=some (TypeDesc.bool)
 a4:∀ w,(isAgg (ρ.t 4)).run P w = .ok false w
 z4:∀ w,(Go.sizeOf (ρ.t 4)).run P w = .ok 1 w
 v4:∀ w,(zeroValue (ρ.t 4)).run P w = .ok (Value.bool false) w
 t22:P.underlying (ρ.t 22)=some (TypeDesc.slice (ρ.t 23))
 a22:∀ w,(isAgg (ρ.t 22)).run P w = .ok false w
 z22:∀ w,(Go.sizeOf (ρ.t 22)).run P w = .ok 1 w
 v22:∀ w,(zeroValue (ρ.t 22)).run P w = .ok (Value.slice none 0 0) w
section
variable {α : Type} [Inhabited α]
theorem setMany_app:∀ (u v:List Value) (F:Array Value) (s:Nat),Go.Sort.setMany F s (u ++ v)=Go.Sort.setMany (Go.Sort.setMany F s u) (s+u.length) v
 | [],v,F,s=>rfl
 | x :: u,v,F,s=>by
  rw [List.cons_append,Go.Sort.setMany,Go.Sort.setMany,setMany_app u v]
  congr 1
  simp; omega
theorem setMany_one (enc : α → List Value) (k:Nat) (hk:∀ x,(enc x).length=k) (d:Array α) (i:Nat) (x : α) (hi:i < d.size):Go.Sort.setMany (flatK enc k d) (i*k) (enc x)=flatK enc k (d.setIfInBounds i x):=by
 refine ext_get! (by simp) fun t ht=>?_
 have ht':t < d.size*k:=by simpa using ht
 have k0:0 < k:=by
  rcases Nat.eq_zero_or_pos k with h | h
  ·subst h; simp at ht'
  ·exact h
 rw [get_setMany _ _ _ t (by simpa using ht'),get_flatK _ _ _ t ht',get_flatK _ _ _ t (by simpa using ht'),hk]
 by_cases a:t / k=i
 ·rw [if_pos ((blk_iff k i t k0).2 a)]
  have e:(d.setIfInBounds i x)[t / k]! = x:=by rw [a]; simp [hi]
  rw [e,show t - i*k=t % k by subst a; rw [Nat.mod_eq_sub_div_mul]]
 ·rw [if_neg (fun h=>a ((blk_iff k i t k0).1 h))]
  have e:(d.setIfInBounds i x)[t / k]! = d[t / k]!:=by
   simp only [Array.getElem!_eq_getD,Array.getD_eq_getD_getElem?,Array.getElem?_setIfInBounds]
   rw [if_neg (fun h=>a h.symm)]
  rw [e]
theorem setMany_lay (enc : α → List Value) (k:Nat) (hk:∀ x,(enc x).length=k):∀ (xs:List α) (d:Array α) (i:Nat),i+xs.length≤d.size→Go.Sort.setMany (flatK enc k d) (i*k) (xs.flatMap enc)=flatK enc k (lay d i xs)
 | [],d,i,_=>rfl
 | x :: xs,d,i,h=>by
  have h:i+(xs.length+1)≤d.size:=h
  rw [List.flatMap_cons,setMany_app,setMany_one enc k hk d i x (by omega),hk,show i*k+k=(i+1)*k by rw [Nat.add_mul,Nat.one_mul],setMany_lay enc k hk xs _ (i+1) (by simp; omega),lay]
theorem flat_len (enc : α → List Value) (k:Nat) (hk:∀ x,(enc x).length=k):∀ xs:List α,(xs.flatMap enc).length=xs.length*k
 | []=>by simp
 | x :: xs=>by rw [List.flatMap_cons,List.length_append,hk,flat_len enc k hk xs,List.length_cons,Nat.add_mul]; omega
variable {P:Program} {ρ : Go.Shelf.Ren} [DecidableEq α]
theorem compact_K (L:CompL P ρ) (k:Nat) (k0:0 < k) (aE:∀ w,(isAgg (ρ.t 23)).run P w = .ok true w) (zE:∀ w,(Go.sizeOf (ρ.t 23)).run P w = .ok k w) (enc : α → List Value) (hk:∀ x,(enc x).length=k) (h1:∀ x,∀ v ∈ enc x,v.oneCell'=true)
  (heq':∀ (x y : α) (w:World),Sem.run P (binOp .eql (ρ.t 23) (.agg (enc x).toArray) (.agg (enc y).toArray)) w = .ok (.bool (decide (x=y))) w)
  (hne':∀ (x y : α) (w:World),Sem.run P (binOp .neq (ρ.t 23) (.agg (enc x).toArray) (.agg (enc y).toArray)) w = .ok (.bool (!decide (x=y))) w)
  (hgd':∀ (op:BinOp) (a b:Operand) (x y : α) (w:World),Sem.run P (eqGuard op (ρ.t 23) a b (.agg (enc x).toArray) (.agg (enc y).toArray)) w = .ok () w)
  (zr : α) (zv:Value) (v23:∀ w,(zeroValue (ρ.t 23)).run P w = .ok zv w) (hz:∀ n,(Builtin.zeroCells zv.cells n).toList=(List.replicate n zr).flatMap enc)
  (blk off cap:Nat) (d:Array α) (w:World) (hH:HoldsK enc k w blk off d) (hsz:d.size≤4611686018427387904) (hcap:d.size≤cap) :
  Calls P (ρ.f 43) #[.slice (some ⟨blk,off,none⟩) d.size cap] w fun e w'=>e = .returned (.slice (some ⟨blk,off,none⟩) (compactUpTo d d.size).length cap) ∧ ∃ q,w'=putRowK enc k (Sort.ahead w q) blk off (compactUpTo d d.size ++ List.replicate (d.size - (compactUpTo d d.size).length) zr).toArray:=by
 have mixed:=L.mixed; have t0:=L.t0; have a0:=L.a0; have z0:=L.z0; have v0:=L.v0; have t3:=L.t3; have a3:=L.a3; have z3:=L.z3; have v3:=L.v3; have t4:=L.t4; have a4:=L.a4; have z4:=L.z4; have v4:=L.v4; have t22:=L.t22; have a22:=L.a22; have z22:=L.z22; have v22:=L.v22
 have HKK:Hid (∀ x,(enc x).length=k):=hk
 have H11:Hid (∀ x,∀ v ∈ enc x,v.oneCell'=true):=h1
 have HZ:Hid (∀ n,(Builtin.zeroCells zv.cells n).toList=(List.replicate n zr).flatMap enc):=hz
 have same:∀ q,(∀ j,j < d.size→keeps d j=true)→(compactUpTo d d.size).length=d.size∧w.drewN q=putRowK enc k (Sort.ahead w q) blk off (compactUpTo d d.size ++ List.replicate (d.size - (compactUpTo d d.size).length) zr).toArray:=by
  intro q hall
  have e:compactUpTo d d.size=d.toList:=by rw [compactUpTo_all d _ hall,range_map_get]
  rw [e]
  refine ⟨by simp,?_⟩
  simp only [Array.length_toList,Nat.sub_self,List.replicate_zero,List.append_nil,Array.toArray_toList]
  exact (putRowK_self enc k (Sort.ahead w q) blk off d (holdsK_ahead enc k w q blk off d hH)).symm
 have HS:Aside (∀ q,(∀ j,j < d.size→keeps d j=true)→(compactUpTo d d.size).length=d.size∧w.drewN q=putRowK enc k (Sort.ahead w q) blk off (compactUpTo d d.size ++ List.replicate (d.size - (compactUpTo d d.size).length) zr).toArray):=same
 clear same hk h1 hz
 have bnd:Hid (∀ x n,x < n→x*k+k≤n*k):=fun x n hx=>by
  have:=Nat.mul_le_mul_right k (show x+1≤n from hx); rwa [Nat.add_mul,Nat.one_mul] at this
 by_cases h2:d.size < 2
 ·have HH:Aside (HoldsK enc k w blk off d):=hH
  clear hH
  obtain ⟨_,_,FG⟩:=L.f43
  go_enter FG,SlBodyN.n43_ntmps ρ
  go_wp2
  go_ret
  obtain ⟨e1,e2⟩:=HS.out 0 (fun j hj=>keeps_lt_one d j (by omega))
  exact ⟨by rw [e1]; rfl,0,e2⟩
 ·obtain ⟨_,_,FG⟩:=L.f43
  go_enter FG,SlBodyN.n43_ntmps ρ
  have HH:Aside (HoldsK enc k w blk off d):=hH
  clear hH
  go_wp2
  go_loopg [3] d.size (fun g s3 wr=>∃ kk q:Nat,1≤kk∧kk≤d.size∧d.size - kk≤g∧s3 = .int .i64 kk∧wr=w.drewN q∧Aside (∀ j,j < kk→keeps d j=true))
  case atStart=>exact ⟨1,0,Nat.le_refl _,by omega,by omega,rfl,rfl,keeps_lt_one d⟩
  case round =>
   obtain ⟨kk,q,hk1,hkd,hg,rfl,rfl,A⟩:=hrel
   by_cases hlt:kk < d.size
   ·have g1:∀ m,Sem.run P (loadCellsFrom ⟨blk,off+kk*k,none⟩ 0 k #[]) ((w.drewN q).drewN m) = .ok (enc d[kk]!).toArray ((w.drewN q).drewN m):=fun m=>run_loadCellsFrom_list P _ _ _ k (HKK.out _) (fun c v hv=>by rw [World.cell?_drewN,World.cell?_drewN]; exact HoldsK.cells HH.out HKK.out hlt c v hv)
    have g2:∀ m,Sem.run P (loadCellsFrom ⟨blk,off+(kk - 1)*k,none⟩ 0 k #[]) ((w.drewN q).drewN m) = .ok (enc d[kk - 1]!).toArray ((w.drewN q).drewN m):=fun m=>run_loadCellsFrom_list P _ _ _ k (HKK.out _) (fun c v hv=>by rw [World.cell?_drewN,World.cell?_drewN]; exact HoldsK.cells HH.out HKK.out (by omega) c v hv)
    generalize hx:d[kk]! = x at g1
    generalize hy:d[kk - 1]! = y at g2
    generalize hwq:w.drewN q=wq at g1 g2 ⊢
    have B:Aside (d[kk]! = x∧d[kk - 1]! = y):=⟨hx,hy⟩
    have BQ:Aside (w.drewN q=wq):=hwq
    clear hx hy hwq
    have hw1:IntKind.i64.wrap ((kk:Int) - 1)=((kk - 1:Nat):Int):=by rw [IntKind.wrap_i64]; omega
    have hb1:kk - 1 < d.size:=by omega
    by_cases hdup:x=y
    ·subst hdup
     go_wp2_with fail
     go_quiet_o (fail)
     go_wp2
     clear g1 g2 hw1 hb1
     go_loopg [3,5] d.size (fun g s3 s5 wr=>∃ (jj k2 q2:Nat) (dk:Array α),s3 = .int .i64 jj∧s5 = .int .i64 k2∧1≤k2∧kk+k2≤d.size∧d.size - (kk+k2)≤g∧Aside (wr=putRowK enc k (Sort.ahead w q2) blk off dk)∧Aside (CompInv d (kk+k2) jj dk))
     case atStart=>exact ⟨kk,1,q+nq,d,rfl,rfl,Nat.le_refl _,by omega,by omega,(show Aside (wq.drewN nq=putRowK enc k (Sort.ahead w (q+nq)) blk off d) from (by rw [← BQ.out,World.drewN_drewN]; exact (putRowK_self enc k (Sort.ahead w (q+nq)) blk off d (holdsK_ahead enc k w (q+nq) blk off d HH.out)).symm)),(show Aside _ from CompInv.start A.out (keeps_neg (by omega) (by rw [B.out.1,B.out.2])))⟩
     case round =>
      obtain ⟨jj,k2,q2,dk,rfl,rfl,h21,hle,hg2,W2,I2⟩:=hrel
      have hkk:=I2.out.lt
      have hds:=I2.out.size
      have hHk:Aside (HoldsK enc k wr blk off dk):=(show HoldsK enc k wr blk off dk by rw [W2.out]; exact holdsK_putRowK enc k _ blk off d dk (holdsK_ahead enc k w q2 blk off d HH.out) hds)
      by_cases hlt2:kk+k2 < d.size
      ·have e1:off+kk*k+k2*k=off+(kk+k2)*k:=by rw [Nat.add_mul]; omega
       have e2:off+kk*k+(k2 - 1)*k=off+(kk+k2 - 1)*k:=by rw [show kk+k2 - 1=kk+(k2 - 1) by omega,Nat.add_mul]; omega
       have e3:d[kk+k2]! = dk[kk+k2]!:=(I2.out.high (kk+k2) (by omega)).symm
       have e4:d[kk+k2 - 1]! = dk[kk+k2 - 1]!:=(I2.out.high (kk+k2 - 1) (by omega)).symm
       have g1:∀ m,Sem.run P (loadCellsFrom ⟨blk,off+kk*k+k2*k,none⟩ 0 k #[]) (wr.drewN m) = .ok (enc d[kk+k2]!).toArray (wr.drewN m):=fun m=>run_loadCellsFrom_list P _ _ _ k (HKK.out _) (fun c v hv=>by
        rw [e3] at hv
        rw [World.cell?_drewN,e1]
        exact HoldsK.cells hHk.out HKK.out (by omega) c v hv)
       have g2:∀ m,Sem.run P (loadCellsFrom ⟨blk,off+kk*k+(k2 - 1)*k,none⟩ 0 k #[]) (wr.drewN m) = .ok (enc d[kk+k2 - 1]!).toArray (wr.drewN m):=fun m=>run_loadCellsFrom_list P _ _ _ k (HKK.out _) (fun c v hv=>by
        rw [e4] at hv
        rw [World.cell?_drewN,e2]
        exact HoldsK.cells hHk.out HKK.out (by omega) c v hv)
       clear e1 e2 e3 e4
       generalize hu:d[kk+k2]! = u at g1
       generalize hv:d[kk+k2 - 1]! = v at g2
       have C:Aside (d[kk+k2]! = u∧d[kk+k2 - 1]! = v):=⟨hu,hv⟩
       clear hu hv
       have hw1:IntKind.i64.wrap ((k2:Int) - 1)=((k2 - 1:Nat):Int):=by rw [IntKind.wrap_i64]; omega
       have hb1:k2 - 1 < d.size - kk:=by omega
       have hb2:k2 < d.size - kk:=by omega
       by_cases huv:u=v
       ·subst huv
        go_wp2_with fail
        go_quiet_o (fail)
        go_wp2
        go_roundg (d.size - (kk+(k2+1)))
        case measure=>omega
        case rel=>exact ⟨jj,k2+1,q2+nq,dk,rfl,by go_num,by omega,by omega,Nat.le_refl _,(show Aside (wr.drewN nq=putRowK enc k (Sort.ahead w (q2+nq)) blk off dk) from (by rw [W2.out,putRowK_drewN]; exact rfl)),(show Aside _ from I2.out.skip (keeps_neg (by omega) (by rw [C.out.1,C.out.2])))⟩
       ·have st:∀ m,Sem.run P (storeCells ⟨blk,off+jj*k,none⟩ (enc u) 0) (wr.drewN m) = .ok () ((wr.drewN m).setCells blk (off+jj*k) (enc u)):=fun m =>
         stores_of_holds P (W:=wr.drewN m) (F:=flatK enc k dk) (by
          have:HoldsK enc k (wr.drewN m) blk off dk:=by rw [W2.out,putRowK_drewN]; exact holdsK_putRowK enc k _ blk off d dk (holdsK_ahead enc k w _ blk off d HH.out) hds
          exact this) (jj*k) _ (by rw [HKK.out,size_flatK]; exact bnd.out jj dk.size (by omega)) (H11.out u)
        have hle2:(enc u).length=k:=HKK.out u
        have hjj:jj < d.size:=by omega
        go_wp2_with fail
        go_quiet_o (fail)
        go_wp2
        go_roundg (d.size - (kk+(k2+1)))
        case measure=>omega
        case rel=>exact ⟨jj+1,k2+1,q2+nq,dk.setIfInBounds jj u,by go_num,by go_num,by omega,by omega,Nat.le_refl _,(show Aside ((wr.drewN nq).setCells blk (off+jj*k) (enc u)=putRowK enc k (Sort.ahead w (q2+nq)) blk off (dk.setIfInBounds jj u)) from (by
         rw [W2.out,putRowK_drewN]
         unfold putRowK
         rw [setCells_putRow _ _ _ _ _ _ (by rw [HKK.out,size_flatK]; exact bnd.out jj dk.size (by omega)),setMany_one enc k HKK.out dk jj u (by omega)]; exact rfl)),(show Aside _ from (by have:=I2.out.keep hlt2 (keeps_pos (by rw [C.out.1,C.out.2]; exact huv)); rwa [C.out.1] at this))⟩
      ·have hend:kk+k2=d.size:=by omega
       have hcl:∀ ty,(Builtin.clear_ #[ρ.t 22] ty #[.slice (some ⟨blk,off+jj*k,none⟩) (d.size - jj) (cap - jj)]).run P wr = .ok (.tuple #[]) (wr.setCells blk (off+jj*k) ((List.replicate (d.size - jj) zr).flatMap enc)):=fun ty =>
        run_clear_k wr _ _ ty _ t22 v23 blk (off+jj*k) _ _ (by omega) _ (HZ.out _) (fun v hv=>by
         obtain ⟨x,_,hx⟩:=List.mem_flatMap.1 hv
         exact H11.out x v hx)
         (fun j hj=>by
          rw [flat_len enc k HKK.out,List.length_replicate] at hj
          have:=hHk.out (jj*k+j) (by rw [size_flatK,hds]; have:=Nat.mul_le_mul_right k (show jj≤d.size by omega); rw [Nat.sub_mul] at hj; omega)
          rw [Nat.add_assoc,this.1]; rfl)
         (fun j hj=>by
          rw [flat_len enc k HKK.out,List.length_replicate] at hj
          have:=hHk.out (jj*k+j) (by rw [size_flatK,hds]; have:=Nat.mul_le_mul_right k (show jj≤d.size by omega); rw [Nat.sub_mul] at hj; omega)
          rw [Nat.add_assoc]; exact this.2)
       have hjj:jj≤d.size:=by omega
       go_wp2
       go_ret
       have hI:=I2.out
       rw [hend] at hI
       refine ⟨by rw [hI.len]; rfl,q2,?_⟩
       rw [hI.len,← hI.done zr,W2.out]
       unfold putRowK
       rw [setCells_putRow _ _ _ _ _ _ (by rw [flat_len enc k HKK.out,List.length_replicate,size_flatK,hds,← Nat.add_mul,show jj+(d.size - jj)=d.size by omega]; exact Nat.le_refl _),setMany_lay enc k HKK.out _ dk jj (by rw [List.length_replicate]; omega)]
    ·go_wp2_with fail
     go_quiet_o (fail)
     go_wp2
     go_roundg (d.size - (kk+1))
     case measure=>omega
     case rel =>
      refine ⟨kk+1,q+nq,by omega,by omega,Nat.le_refl _,by go_num,by rw [← BQ.out,World.drewN_drewN],(show Aside _ from fun j hj=>?_)⟩
      by_cases e:j=kk
      ·subst e
       exact keeps_pos (by rw [B.out.1,B.out.2]; exact hdup)
      ·exact A.out j (by omega)
   ·have:kk=d.size:=by omega
    subst this
    go_wp2
    go_ret
    obtain ⟨e1,e2⟩:=HS.out q A.out
    exact ⟨by rw [e1]; rfl,q,e2⟩
end
end Go.Proofs.YtmeohhbdkoeadaaGreat.Am
namespace Go.Proofs.YtmeohhbdkoeadaaGreat.Am
variable [Inhabited DRT]
open Go.RowKit (Below)
open Go.Proofs Go.Shelf Go.Sort Go.Lib
section
variable {P:Program} {ρ : Go.Shelf.Ren} {G:GInv} {α : Type} [Inhabited α] [DecidableEq α]
/-- What is left of a list if of equal neighbours one stays. -/
def cmpL (l:List α):List α:=compactUpTo l.toArray l.length
theorem cmpL_len (l:List α):(cmpL l).length≤l.length:=by
 unfold cmpL compactUpTo
 rw [List.length_map]
 exact Nat.le_trans (List.length_filter_le _ _) (by simp)
theorem MCalls.compactF (L:CompL P ρ) (k:Nat) (k0:0 < k) (aE:∀ w,(isAgg (ρ.t 23)).run P w = .ok true w) (zE:∀ w,(Go.sizeOf (ρ.t 23)).run P w = .ok k w)
  (e : α → List A) (hfl:∀ x,∀ a ∈ e x,flatA a) (hk:∀ x,(e x).length=k)
  (heq':∀ (x y : α) (w:World),Sem.run P (binOp .eql (ρ.t 23) (.agg (encF e x).toArray) (.agg (encF e y).toArray)) w = .ok (.bool (decide (x=y))) w)
  (hne':∀ (x y : α) (w:World),Sem.run P (binOp .neq (ρ.t 23) (.agg (encF e x).toArray) (.agg (encF e y).toArray)) w = .ok (.bool (!decide (x=y))) w)
  (hgd':∀ (op:BinOp) (a b:Operand) (x y : α) (w:World),Sem.run P (eqGuard op (ρ.t 23) a b (.agg (encF e x).toArray) (.agg (encF e y).toArray)) w = .ok () w)
  (zr : α) (zv:Value) (v23:∀ w,(zeroValue (ρ.t 23)).run P w = .ok zv w) (hz:∀ n,(Builtin.zeroCells zv.cells n).toList=(List.replicate n zr).flatMap (encF e))
  (hfn : ∃ fn cd, P.funcs[ρ.f 43]? = some fn ∧ fn.body = some cd ∧ (fn.name == "runtime.NumGoroutine") = false) (ty : TypeId) (l : List α) (hl : l.length ≤ 1000000) (hne : 0 < l.length) :
  MCalls P G (ρ.f 43) [.own 1] [.ghost [.own 1,.junk],.row ty k l.length (rowF e l)] (.own 1) [.ghost [.junk,.junk],.row ty k (cmpL l).length (rowF e (cmpL l))]:=by
 refine ⟨hfn,?_⟩
 intro im w vs gs ids hG hs
 have hvl:vs.length=1:=by have:=hs.len; simpa using this
 obtain ⟨v0,rfl⟩ : ∃ v0,vs=[v0]:=by
  match vs,hvl with
  | [a],_=>exact ⟨a,rfl⟩
 have r0:Rel ids _ w (.own 1) v0:=hs.slots 0 (by simp) (by simp)
 have hml:ids.length=2:=by have:=hs.mlen; simpa using this
 have hB1:=hs.blks 1 (by simp) (by omega)
 simp only [List.getElem_cons_succ,List.getElem_cons_zero] at hB1
 obtain ⟨p,cap,hid,hcap1,hcap2,rfl⟩ : ∃ p cap,ids[1]? = some (.lv p)∧(p.n≤cap∧cap≤maxLen)∧cap*p.sz=p.k∧v0 = .slice (some ⟨p.blk,0,none⟩) p.n cap:=by
  rcases hs.own_at r0 (by simp) with ⟨h1,_⟩ | h
  ·rw [List.getElem?_eq_getElem (by omega)] at h1
   rw [Option.some.inj h1] at hB1
   have:l.length=0:=hB1
   omega
  ·exact h
 have hid1:ids[1]'(by omega) = .lv p:=by rw [List.getElem?_eq_getElem (by omega)] at hid; exact Option.some.inj hid
 rw [hid1] at hB1
 obtain ⟨g1,g2,cur,g3,g4,g5,g6,g7⟩:=hB1
 rw [g2]
 have hpf:=hs.freshX p (List.mem_of_getElem? hid) p.blk (.inl rfl)
 have hek:∀ x,(encF e x).length=k:=fun x=>by simp [encF,hk]
 have he1:∀ x,∀ v ∈ encF e x,v.oneCell'=true:=fun x v hv=>by
  simp only [encF,List.mem_map] at hv; obtain ⟨n,hn,rfl⟩:=hv; exact fv_one (hfl x n hn)
 have hcur:∀ t,t < l.length*k→cur[t]? = some ((encF e (l.getD (t / k) default)).getD (t % k) undef):=by
  intro t ht
  obtain ⟨q1,q2,q3⟩:=divmod ht rfl rfl
  have hlt:t < cur.size:=by omega
  have hrl:(rowF e l (t / k)).length=k:=g6 _ q1
  have:=(g7 (t / k) (t % k) q1 (by rw [hrl]; exact q2) (by rw [q3]; exact hlt)).1
  simp only [q3] at this
  have hke:t % k < (e (l.getD (t / k) default)).length:=by rw [hk]; exact q2
  have e1:(rowF e l (t / k))[t % k]'(by rw [hrl]; exact q2)=(e (l.getD (t / k) default))[t % k]:=rfl
  rw [e1] at this
  have hv:cur[t]=fvA ((e (l.getD (t / k) default))[t % k]):=fv_rel (hfl _ _ (List.getElem_mem hke)) this
  rw [Array.getElem?_eq_getElem hlt,hv]
  have hke2:t % k < (encF e (l.getD (t / k) default)).length:=by rw [hek]; exact q2
  rw [List.getD_eq_getElem?_getD (l:=encF e (l.getD (t / k) default)),List.getElem?_eq_getElem hke2,Option.getD_some]
  simp only [encF,List.getElem_map]
 have hget:∀ (m:List α) (i:Nat),m.toArray[i]! = m.getD i default:=fun m i=>by
  rw [List.getD_eq_getElem?_getD]; simp [Array.getElem!_eq_getD,Array.getD_eq_getD_getElem?]
 have hH:HoldsK (encF e) k w p.blk 0 l.toArray:=by
  intro j hj
  rw [size_flatK] at hj
  have hj:j < l.length*k:=by simpa using hj
  constructor
  ·rw [Nat.zero_add,cell_of_row w p.blk j cur ty (0,0) g3,hcur j hj,id,get_flatK _ _ _ _ (by simpa using hj),hget]
   obtain ⟨q1,q2,q3⟩:=divmod hj rfl rfl
   have:j % k < (encF e (l.getD (j / k) default)).length:=by rw [hek]; exact q2
   rw [List.getD_eq_getElem?_getD (l:=encF e (l.getD (j / k) default)),List.getElem?_eq_getElem this,Option.getD_some,getElem!_pos (encF e (l.getD (j / k) default)) _ this]
  ·unfold World.frozen?
   simp only [g3]
   simp
 have hmain:=compact_K L k k0 aE zE (encF e) hek he1 heq' hne' hgd' zr zv v23 hz p.blk 0 cap l.toArray w hH (by simp; omega) (by simpa [g2] using hcap1.1)
 refine Calls_mono (by simpa using hmain) ?_
 rintro e' w' ⟨rfl,q,hw'⟩
 have em:compactUpTo l.toArray l.length=cmpL l:=rfl
 rw [em] at hw' ⊢
 have hcl:=cmpL_len l
 obtain ⟨dd,hdd⟩ : ∃ dd:List α,dd=cmpL l ++ List.replicate (l.length - (cmpL l).length) zr:=⟨_,rfl⟩
 have hw':w'=putRowK (encF e) k (Go.Sort.ahead w q) p.blk 0 dd.toArray:=by rw [hw',hdd] <;> simp
 have hddl:dd.length=l.length:=by rw [hdd]; simp; omega
 have hgd:∀ i,i < (cmpL l).length→dd.getD i default=(cmpL l).getD i default:=fun i hi=>by
  rw [hdd]; simp only [List.getD_eq_getElem?_getD]; rw [List.getElem?_append_left hi]
 have hsz:w'.heap.size=w.heap.size:=by rw [hw',size_putRowK]; rfl
 have hoth:∀ b,b < w.heap.size→b ≠ p.blk→w'.heap[b]? = w.heap[b]?:=fun b hb hbp=>by
  rw [hw']
  show ((Go.Sort.ahead w q).heap.modify p.blk _)[b]? = _
  rw [Array.getElem?_modify,if_neg (fun h=>hbp h.symm)]; rfl
 obtain ⟨cu,hcu⟩ : ∃ cu,cu=putCells id 0 (flatK (encF e) k dd.toArray) cur:=⟨_,rfl⟩
 have hown1:w'.heap[p.blk]? = some (.cells cu ty (0,0)):=by
  rw [hw',hcu]
  show ((Go.Sort.ahead w q).heap.modify p.blk _)[p.blk]? = _
  rw [Array.getElem?_modify,if_pos rfl]
  show Option.map _ (w.heap[p.blk]?)=_
  rw [g3]; rfl
 have hcs:cu.size=cur.size:=by rw [hcu]; simp [putCells]
 have hs':=hs.rebind (w':=w') 1 (.lv (mkId p.blk cu.size (cmpL l).length k)) (.row ty k (cmpL l).length (rowF e (cmpL l))) 4 (by simp) (by rw [hw']; rfl) (by rw [hw']; rfl) (by rw [hw']; rfl) (by omega)
  (fun b hb hp=>hoth b hb (fun e=>hp p hid (.inl e))) (fun _ h=>by cases h)
  (fun p' h x' hx=>by
   cases h
   have:=mkId_has hx
   subst this
   exact ⟨by omega,.inr ⟨p,hid,.inl rfl⟩⟩)
  (fun _=>by
   refine ⟨rfl,rfl,cu,hown1,rfl,?_,fun i _=>by simp [rowF,hk],?_⟩
   ·show (cmpL l).length*k≤cu.size
    have:=Nat.mul_le_mul_right k hcl
    omega
   ·intro i j hi hj hj'
    have hjk:j < k:=by simpa [rowF,hk] using hj
    have hlt:i*k+j < l.length*k:=by
     have:=Nat.mul_le_mul_right k (show i+1≤l.length by omega)
     rw [Nat.add_mul] at this; omega
    have hfs:(flatK (encF e) k dd.toArray).size=l.length*k:=by rw [size_flatK]; simp [hddl]
    have hv:cu[i*k+j]=fvA ((e ((cmpL l).getD i default))[j]'(by rw [hk]; exact hjk)):=by
     subst hcu
     simp only [putCells,Array.getElem_mapIdx,hfs]
     rw [if_pos ⟨Nat.zero_le _,by omega⟩,Nat.sub_zero,id,get_flatK _ _ _ _ (by simpa [hddl] using hlt)]
     have e1:(i*k+j) / k=i:=by rw [Nat.mul_comm,Nat.mul_add_div k0,Nat.div_eq_of_lt hjk]; simp
     have e2:(i*k+j) % k=j:=by rw [Nat.mul_comm,Nat.mul_add_mod,Nat.mod_eq_of_lt hjk]
     rw [e1,e2,hget,hgd i hi]
     have:j < (encF e ((cmpL l).getD i default)).length:=by rw [hek]; exact hjk
     rw [getElem!_pos (encF e ((cmpL l).getD i default)) j this]
     simp only [encF,List.getElem_map]
    rw [hv]
    exact ⟨rel_fv (hfl _ _ (List.getElem_mem _)),fv_one (hfl _ _ (List.getElem_mem _))⟩) (.of (by rw [hw']; exact Nat.le_add_right _ _))
 refine ⟨_,_,rfl,⟨rfl,rfl,?_,hs'.mlen,hs'.blks,hs'.distinctX,hs'.freshX,hs'.frame,hs'.im0lt,hs'.gho⟩⟩
 intro j h h'
 match j,h with
 | 0,_ =>
  refine .own 1 cap (mkId p.blk cu.size (cmpL l).length k) ?_ ⟨?_,hcap1.2⟩ ?_
  ·rw [List.getElem?_set_self (by omega)]
  ·show (cmpL l).length≤cap
   have:=hcap1.1; omega
  ·show cap*k=cu.size
   rw [hcs,g4,← hcap2,g1]
end
end Go.Proofs.YtmeohhbdkoeadaaGreat.Am
namespace Go.Proofs.YtmeohhbdkoeadaaGreat
open Go.Proofs.YtmeohhbdkoeadaaGreat.Am Go.Sort Go.Proofs Go.Lib
variable [Inhabited DRT]
variable {G:GInv}
def rsL (r:RS):List A:=spotL r.p r.q (wW r.x) (wW r.y) (wW r.w)
theorem spR_L (r:RS):spR r = .agg (rsL r):=rfl
def slS (l:List RS):A:=.sl l.length 26 fun i=>rsL (l.getD i default)
def badS (r:RS):Bool:=!decide (MayR r)
def fidxS (l:List RS):Int:=match l.findIdx? badS with
 | some i=>(i:Int)
 | none=>-1
theorem fidxS_at {l:List RS} {i:Nat} (h:i < l.length) (hp:badS (l.getD i default)=true) (hn:∀ j,j < i→badS (l.getD j default)=false):fidxS l=i:=by
 have:l.findIdx? badS=some i:=by
  rw [List.findIdx?_eq_some_iff_getElem]
  refine ⟨h,by simpa [List.getD_eq_getElem?_getD,h] using hp,fun j hj=>?_⟩
  have:=hn j hj
  rw [List.getD_eq_getElem?_getD,List.getElem?_eq_getElem (by omega)] at this
  simpa using this
 unfold fidxS; rw [this]
theorem fidxS_none {l:List RS} (hn:∀ j,j < l.length→badS (l.getD j default)=false):fidxS l = -1:=by
 have:l.findIdx? badS=none:=by
  rw [List.findIdx?_eq_none_iff]
  intro x hx
  obtain ⟨j,hj,rfl⟩:=List.getElem_of_mem hx
  have:=hn j hj
  rw [List.getD_eq_getElem?_getD,List.getElem?_eq_getElem hj] at this
  exact this
 unfold fidxS; rw [this]
theorem fidxS_any (l:List RS):decide (0≤fidxS l)=l.any badS:=by
 unfold fidxS
 cases h:l.findIdx? badS with
 | none =>
  rw [List.findIdx?_eq_none_iff] at h
  have:l.any badS=false:=by rw [List.any_eq_false]; exact fun x hx=>by rw [h x hx]; exact Bool.noConfusion
  rw [this]; rfl
 | some i =>
  rw [List.findIdx?_eq_some_iff_getElem] at h
  obtain ⟨h1,h2,_⟩:=h
  have:l.any badS=true:=List.any_eq_true.2 ⟨_,List.getElem_mem h1,h2⟩
  rw [this]
  exact decide_eq_true (by show (0:Int)≤(i:Int); omega)
theorem rk_get {l:List RS} (h:∀ r ∈ l,Rk r) (i:Nat):Rk (l.getD i default):=by
 rw [List.getD_eq_getElem?_getD]
 by_cases hi:i < l.length
 ·rw [List.getElem?_eq_getElem hi]; exact h _ (List.getElem_mem hi)
 ·rw [List.getElem?_eq_none (by omega)]; exact ⟨by decide,by decide,by decide⟩
theorem cloS_c (r:RS) (hk:Rk r):ACalls Tryz.prog G 26 [.agg (rsL r)] (.sb (badS r)):=by
 have m:=sMay_r (G:=G) r hk
 unfold badS
 rw [spR_L] at m
 generalize decide (MayR r)=b at *
 unfold rsL spotL at *
 generalize wW r.x=X at *
 generalize wW r.y=Y at *
 generalize wW r.w=W at *
 refine ACalls.of_WA ttok Tryz.func26 rfl rfl _ rfl ?_
 conv=>whnf
 repeat' (first|refine sq ?_|refine bk ?_|((first|refine rg ttok ?_|refine dw ttok mixed ?_|refine cd ?_|refine sk ?_|refine xt ?_|refine rt ?_);conv=>whnf)|(refine And.intro (fun h=>?_) (fun h=>?_) <;> (try simp only [brsA] at h) <;> conv=>whnf)|(refine Or.inl ?_;(conv=>whnf);refine ⟨_,m,?_⟩;conv=>whnf)|((first|refine wf ?_|refine wp' ?_|refine ai ?_|refine And.intro rfl ?_|refine an ?_|fail);conv=>whnf))
 all_goals first|contradiction|(exfalso;omega)|skip
theorem idxS_c (l:List RS) (hk:∀ r ∈ l,Rk r) (hl:l.length≤1000000):ACalls Tryz.prog G 52 [slS l,.fn 26 []] (.int .i64 (fidxS l)):=by
 refine ACalls.of_WA ttok Tryz.func52 rfl rfl _ rfl ?_
 conv=>whnf
 repeat' (first|refine sq ?_|refine bk ?_|((first|refine rg ttok ?_|refine dw ttok mixed ?_|refine cd ?_|refine sk ?_|refine xt ?_|refine rt ?_);conv=>whnf)|(refine And.intro (fun h=>?_) (fun h=>?_) <;> (try simp only [brsA] at h) <;> conv=>whnf)|((first|refine wf ?_|refine wp' ?_|refine ai ?_|refine And.intro rfl ?_|refine an ?_|fail);conv=>whnf))
 refine WA_loopI (fun i=>i≤l.length ∧ ∀ j,j < i→badS (l.getD j default)=false) (fun i=>[(8,.int .i64 (i:Int))]) (fun i=>[]) (fun i=>l.length - i) 0 ⟨by omega,fun j h=>by omega⟩ ?_ ?_
 ·conv=>whnf
  repeat (first|exact fa|((first|refine fb ?_|(refine And.intro ?_ ?_;rotate_left));conv=>whnf))
 ·rintro i ⟨hi,hI⟩
  have h1:=cloS_c (G:=G) (l.getD i default) (rk_get hk i)
  unfold rsL at *
  conv=>whnf
  repeat' (first|refine sq ?_|refine bk ?_|((first|refine rg ttok ?_|refine dw ttok mixed ?_|refine cd ?_|refine sk ?_|refine xt ?_|refine rt ?_);conv=>whnf)|(refine And.intro (fun h=>?_) (fun h=>?_) <;> (try simp only [brsA] at h) <;> conv=>whnf)|(refine Or.inl ?_;(conv=>whnf);refine ⟨_,h1,?_⟩;conv=>whnf)|((first|refine wf ?_|refine wp' ?_|refine ai ?_|refine And.intro rfl ?_|refine an ?_|fail);conv=>whnf))
  ·exact (fidxS_at (by omega) h hI).symm
  ·refine ⟨i+1,⟨by omega,fun j hj=>by
    by_cases q:j=i
    ·rw [q]; exact h
    ·exact hI j (by omega)⟩,by show l.length - (i+1) < l.length - i; omega,?_⟩
   conv=>whnf
   repeat (first|exact fa|((first|refine fb ?_|(refine And.intro ?_ ?_;rotate_left));conv=>whnf))
  ·exact (fidxS_none (fun j hj=>hI j (by omega))).symm
theorem conS_c (l:List RS) (hk:∀ r ∈ l,Rk r) (hl:l.length≤1000000):ACalls Tryz.prog G 25 [slS l,.fn 26 []] (.sb (l.any badS)):=by
 have h1:=idxS_c (G:=G) l hk hl
 refine ACalls.of_WA ttok Tryz.func25 rfl rfl _ rfl ?_
 conv=>whnf
 repeat' (first|refine sq ?_|refine bk ?_|((first|refine rg ttok ?_|refine dw ttok mixed ?_|refine cd ?_|refine sk ?_|refine xt ?_|refine rt ?_);conv=>whnf)|(refine And.intro (fun h=>?_) (fun h=>?_) <;> (try simp only [brsA] at h) <;> conv=>whnf)|(refine Or.inl ?_;(conv=>whnf);refine ⟨_,h1,?_⟩;conv=>whnf)|((first|refine wf ?_|refine wp' ?_|refine ai ?_|refine And.intro rfl ?_|refine an ?_|fail);conv=>whnf))
 rw [← fidxS_any]
abbrev MS:Type:={ r:RS // MayR r }
instance:Inhabited MS:=⟨⟨⟨false,false,0,0,1⟩,by decide⟩⟩
theorem MS.rk (x:MS):Rk x.1:=Sm.rk x.2.1
theorem collect_m (hns:(default:DRT).ns) (n:Nat) (row:Nat→List A) (hl:∀ i,i < n→(row i).length=26) (hn:n≤1000000) :
  MCalls Tryz.prog G 53 [.fn 55 [.bref [.sl n 26 row] 0]] [] (.own 0) [.row 34 26 n row]:=by
 have h:=appendSeq_m (G:=G) hns n row hl hn
 refine MCalls.of_WA ttok Tryz.func53 rfl rfl _ rfl ?_
 conv=>whnf
 repeat' (first|refine sq ?_|refine bk ?_|((first|refine rg ttok ?_|refine dw ttok mixed ?_|refine cd ?_|refine sk ?_|refine xt ?_|refine rt ?_);conv=>whnf)|(refine And.intro (fun h=>?_) (fun h=>?_) <;> (try simp only [brsA] at h) <;> conv=>whnf)|((first|refine Or.inr (Or.inr (Or.inr ?_))|refine Or.inr ?_);(conv=>whnf);refine ⟨_,_,h,?_⟩;conv=>whnf)|((first|refine wf ?_|refine wp' ?_|refine ai ?_|refine And.intro rfl ?_|refine an ?_|fail);conv=>whnf))
 exact .inl fun _ _=>rfl
theorem values_c (n:Nat) (row:Nat→List A) :
  ACalls Tryz.prog G 28 [.sl n 26 row] (.fn 55 [.bref [.sl n 26 row] 0]):=by
 refine ACalls.of_WA ttok Tryz.func28 rfl rfl _ rfl ?_
 conv=>whnf
 repeat' (first|refine sq ?_|refine bk ?_|((first|refine rg ttok ?_|refine dw ttok mixed ?_|refine cd ?_|refine sk ?_|refine xt ?_|refine rt ?_);conv=>whnf)|(refine And.intro (fun h=>?_) (fun h=>?_) <;> (try simp only [brsA] at h) <;> conv=>whnf)|((first|refine wf ?_|refine wp' ?_|refine ai ?_|refine And.intro rfl ?_|refine an ?_|fail);conv=>whnf))
end Go.Proofs.YtmeohhbdkoeadaaGreat
namespace Go.Proofs.YtmeohhbdkoeadaaGreat
open Go.Proofs.YtmeohhbdkoeadaaGreat.Am
variable [Inhabited DRT]
variable {G:GInv}
theorem intN_nat (w:Nat):intN (w:Int)=sgnA false w:=by
 unfold intN
 rw [decide_eq_false (by omega),Int.natAbs_natCast]
def cmpS (a b:Int) (c:Nat) (a' b':Int) (c':Nat):Int:=firstNZ [cmpZ (a*c') (a'*c),cmpZ (b*c') (b'*c)]
theorem sAt_c (p:Pt) (h1 : -9223372036854775808≤p.x∧p.x≤9223372036854775807) (h2 : -9223372036854775808≤p.y∧p.y≤9223372036854775807):ACalls Tryz.prog G 23 [.agg (ptA p)] (spotA p.x p.y 1):=by
 have o1:=sOf_c (G:=G) p.x h1.1 h1.2
 have o2:=sOf_c (G:=G) p.y h2.1 h2.2
 have o3:=wideOf_c (G:=G) 1
 rw [← wide1_eq (by omega)] at o3
 unfold spotA spotL ptA
 unfold intN sgnA at *
 unfold wideN wideA at *
 generalize decide (p.x < 0)=p1 at *
 generalize decide (p.y < 0)=p2 at *
 generalize wW p.x.natAbs=V1 at *
 generalize wW p.y.natAbs=V2 at *
 generalize wW 1=V9 at *
 refine ACalls.of_WA ttok Tryz.func23 rfl rfl _ rfl ?_
 conv=>whnf
 repeat' (first|refine sq ?_|refine bk ?_|((first|refine rg ttok ?_|refine dw ttok mixed ?_|refine cd ?_|refine sk ?_|refine xt ?_|refine rt ?_);conv=>whnf)|(refine And.intro (fun h=>?_) (fun h=>?_) <;> (try simp only [brsA] at h) <;> conv=>whnf)|(refine Or.inl ?_;(conv=>whnf);(first|refine ⟨_,o1,?_⟩|refine ⟨_,o2,?_⟩|refine ⟨_,o3,?_⟩);conv=>whnf)|((first|refine wf ?_|refine wp' ?_|refine ai ?_|refine And.intro rfl ?_|refine an ?_|fail);conv=>whnf))
 all_goals first|contradiction|(exfalso;omega)|skip
end Go.Proofs.YtmeohhbdkoeadaaGreat
namespace Go.Proofs.YtmeohhbdkoeadaaGreat
open Go.Proofs.YtmeohhbdkoeadaaGreat.Am Go.Sort Go.Proofs
variable [Inhabited DRT]
variable {G:GInv}
def sgI (p:Bool) (x:Nat):Int:=if p then -(x:Int) else x
def axR (r:RS):Int:=sgI r.p r.x
def ayR (r:RS):Int:=sgI r.q r.y
theorem sgI_abs (p:Bool) (x:Nat):(sgI p x).natAbs=x:=by cases p <;> simp [sgI]
theorem sgI_neg {p:Bool} {x:Nat} (h:p=true→x ≠ 0):decide (sgI p x < 0)=p:=by
 cases p
 ·simp [sgI]
 ·have:=h rfl
  simp [sgI]; omega
theorem sgI_inj {p p':Bool} {x x':Nat} (h:p=true→x ≠ 0) (h':p'=true→x' ≠ 0) (e:sgI p x=sgI p' x'):p=p'∧x=x':=by
 refine ⟨?_,?_⟩
 ·rw [← sgI_neg h,← sgI_neg h',e]
 ·rw [← sgI_abs p x,← sgI_abs p' x',e]
def cmpR (r s:RS):Int:=cmpS (axR r) (ayR r) r.w (axR s) (ayR s) s.w
theorem fr_le {a b c x y z:Int} (hx:0 < x) (hy:0 < y) (hz:0 < z) (h1:a*y≤b*x) (h2:b*z≤c*y):a*z≤c*x:=by
 have e1:=Int.mul_le_mul_of_nonneg_right h1 (Int.le_of_lt hz)
 have e2:=Int.mul_le_mul_of_nonneg_right h2 (Int.le_of_lt hx)
 have k1:a*z*y=a*y*z:=by grind
 have k2:b*x*z=b*z*x:=by grind
 have k3:c*x*y=c*y*x:=by grind
 exact Int.le_of_mul_le_mul_right (a:=y) (by omega) hy
theorem fr_lt1 {a b c x y z:Int} (hx:0 < x) (hy:0 < y) (hz:0 < z) (h1:a*y < b*x) (h2:b*z≤c*y):a*z < c*x:=by
 have e1:=Int.mul_lt_mul_of_pos_right h1 hz
 have e2:=Int.mul_le_mul_of_nonneg_right h2 (Int.le_of_lt hx)
 have k1:a*z*y=a*y*z:=by grind
 have k2:b*x*z=b*z*x:=by grind
 have k3:c*x*y=c*y*x:=by grind
 exact Int.lt_of_mul_lt_mul_right (a:=y) (by omega) (Int.le_of_lt hy)
theorem fr_lt2 {a b c x y z:Int} (hx:0 < x) (hy:0 < y) (hz:0 < z) (h1:a*y≤b*x) (h2:b*z < c*y):a*z < c*x:=by
 have e1:=Int.mul_le_mul_of_nonneg_right h1 (Int.le_of_lt hz)
 have e2:=Int.mul_lt_mul_of_pos_right h2 hx
 have k1:a*z*y=a*y*z:=by grind
 have k2:b*x*z=b*z*x:=by grind
 have k3:c*x*y=c*y*x:=by grind
 exact Int.lt_of_mul_lt_mul_right (a:=y) (by omega) (Int.le_of_lt hy)
theorem cmpZ_neg1 {a b:Int}:cmpZ a b < 0↔a < b:=by unfold cmpZ; split <;> (try split) <;> omega
theorem cmpZ_z {a b:Int}:cmpZ a b=0↔a=b:=by unfold cmpZ; split <;> (try split) <;> omega
theorem first2 (u v:Int):firstNZ [u,v] < 0↔u < 0∨u=0∧v < 0:=by
 show (if u=0 then (if v=0 then 0 else v) else u) < 0↔_
 split <;> (try split) <;> omega
theorem first2z (u v:Int):firstNZ [u,v]=0↔u=0∧v=0:=by
 show (if u=0 then (if v=0 then 0 else v) else u)=0↔_
 split <;> (try split) <;> omega
theorem cmpR_lt (r s:RS):cmpR r s < 0↔axR r*s.w < axR s*r.w∨axR r*s.w=axR s*r.w∧ayR r*s.w < ayR s*r.w:=by
 unfold cmpR cmpS
 rw [first2,cmpZ_neg1,cmpZ_neg1,cmpZ_z]
theorem cmpR_z (r s:RS):cmpR r s=0↔axR r*s.w=axR s*r.w∧ayR r*s.w=ayR s*r.w:=by
 unfold cmpR cmpS
 rw [first2z,cmpZ_z,cmpZ_z]
theorem cmpR_trans {r s t:RS} (hr:0 < r.w) (hs:0 < s.w) (ht:0 < t.w) (h1:cmpR r s < 0) (h2:cmpR s t < 0):cmpR r t < 0:=by
 rw [cmpR_lt] at *
 have hr':(0:Int) < r.w:=by omega
 have hs':(0:Int) < s.w:=by omega
 have ht':(0:Int) < t.w:=by omega
 have a1:=fun u v=>fr_lt1 (a:=axR r) (b:=axR s) (c:=axR t) hr' hs' ht' u v
 have a2:=fun u v=>fr_lt2 (a:=axR r) (b:=axR s) (c:=axR t) hr' hs' ht' u v
 have a3:=fun u v=>fr_le (a:=axR r) (b:=axR s) (c:=axR t) hr' hs' ht' u v
 have a4:=fun u v=>fr_le (a:=axR t) (b:=axR s) (c:=axR r) ht' hs' hr' u v
 have b1:=fun u v=>fr_lt1 (a:=ayR r) (b:=ayR s) (c:=ayR t) hr' hs' ht' u v
 rcases h1 with h1 | ⟨h1,h1'⟩ <;> rcases h2 with h2 | ⟨h2,h2'⟩
 ·exact .inl (a1 h1 (by omega))
 ·exact .inl (a1 h1 (by omega))
 ·exact .inl (a2 (by omega) h2)
 ·have:=a3 (by omega) (by omega)
  have:=a4 (by omega) (by omega)
  exact .inr ⟨by omega,b1 h1' (by omega)⟩
theorem cmpR_ntrans {r s t:RS} (hr:0 < r.w) (hs:0 < s.w) (ht:0 < t.w) (h1:¬ cmpR r s < 0) (h2:¬ cmpR s t < 0):¬ cmpR r t < 0:=by
 rw [cmpR_lt] at *
 have hr':(0:Int) < r.w:=by omega
 have hs':(0:Int) < s.w:=by omega
 have ht':(0:Int) < t.w:=by omega
 have a1:=fun u v=>fr_lt1 (a:=axR t) (b:=axR s) (c:=axR r) ht' hs' hr' u v
 have a2:=fun u v=>fr_lt2 (a:=axR t) (b:=axR s) (c:=axR r) ht' hs' hr' u v
 have a3:=fun u v=>fr_le (a:=axR t) (b:=axR s) (c:=axR r) ht' hs' hr' u v
 have b3:=fun u v=>fr_le (a:=ayR t) (b:=ayR s) (c:=ayR r) ht' hs' hr' u v
 have c1:axR s*r.w≤axR r*s.w:=by omega
 have c2:axR t*s.w≤axR s*t.w:=by omega
 have c3:=a3 c2 c1
 rintro (h | ⟨h,h'⟩)
 ·omega
 ·have d1:¬ axR s*r.w < axR r*s.w:=fun q=>by have:=a2 c2 q; omega
  have d2:¬ axR t*s.w < axR s*t.w:=fun q=>by have:=a1 q c1; omega
  have e1:ayR s*r.w≤ayR r*s.w:=by omega
  have e2:ayR t*s.w≤ayR s*t.w:=by omega
  have:=b3 e2 e1
  omega
theorem dvd_of_cross {x y w x' y' w':Nat} (hg:Nat.gcd (Nat.gcd x y) w=1) (h1:x*w'=x'*w) (h2:y*w'=y'*w):w ∣ w':=by
 have d1:w ∣ x*w':=⟨x',by rw [h1,Nat.mul_comm]⟩
 have d2:w ∣ y*w':=⟨y',by rw [h2,Nat.mul_comm]⟩
 have d3:w ∣ w*w':=⟨w',rfl⟩
 have:=Nat.dvd_gcd (Nat.dvd_gcd d1 d2) d3
 rw [Nat.gcd_mul_right,Nat.gcd_mul_right,hg,Nat.one_mul] at this
 exact this
/-- Spots that may be, and are alike, are the same. -/
theorem cmpR_same {r s:RS} (hr:MayR r) (hs:MayR s) (h:cmpR r s=0):r=s:=by
 rw [cmpR_z] at h
 obtain ⟨_,r1,r2,r3,r4⟩:=hr
 obtain ⟨_,s1,s2,s3,s4⟩:=hs
 obtain ⟨p,q,x,y,w⟩:=r
 obtain ⟨p',q',x',y',w'⟩:=s
 obtain ⟨h1,h2⟩:=h
 unfold g3 at r2 s2
 unfold axR at h1
 unfold ayR at h2
 simp only at *
 have k1:x*w'=x'*w:=by
  have:=congrArg Int.natAbs h1
  simpa [Int.natAbs_mul,sgI_abs] using this
 have k2:y*w'=y'*w:=by
  have:=congrArg Int.natAbs h2
  simpa [Int.natAbs_mul,sgI_abs] using this
 have e:w=w':=Nat.dvd_antisymm (dvd_of_cross r2 k1 k2) (dvd_of_cross s2 k1.symm k2.symm)
 subst e
 have hw:(w:Int) ≠ 0:=by omega
 have i1:=sgI_inj r3 s3 (Int.eq_of_mul_eq_mul_right hw h1)
 have i2:=sgI_inj r4 s4 (Int.eq_of_mul_eq_mul_right hw h2)
 rw [i1.1,i1.2,i2.1,i2.2]
theorem cmpR_refl (r:RS):cmpR r r=0:=(cmpR_z r r).2 ⟨rfl,rfl⟩
def cfS (a b:MS):Int:=cmpR a.1 b.1
theorem cfS_lt (a b:MS):ltOf cfS a b=true↔cmpR a.1 b.1 < 0:=by unfold ltOf cfS; simp
theorem swo_ms:SWO (ltOf cfS):=by
 have e':∀ a b,ltOf cfS a b=false↔¬ cmpR a.1 b.1 < 0:=fun a b=>by rw [← cfS_lt]; simp
 refine ⟨fun x=>?_,fun x y z h1 h2=>?_,fun x y z h1 h2=>?_⟩
 ·rw [e',cmpR_refl]; omega
 ·rw [cfS_lt] at *; exact cmpR_trans x.2.2.1 y.2.2.1 z.2.2.1 h1 h2
 ·rw [e'] at *; exact cmpR_ntrans x.2.2.1 y.2.2.1 z.2.2.1 h1 h2
theorem spR_spot {r:RS} (h:MayR r):spR r=spotA (axR r) (ayR r) r.w:=by
 unfold spR spotA axR ayR
 rw [sgI_neg h.2.2.2.1,sgI_neg h.2.2.2.2,sgI_abs,sgI_abs]
theorem sMulG_c (x y:Int) (hx:x.natAbs < 65536 ^ 32) (hy:y.natAbs < 65536 ^ 16) (h:x.natAbs*y.natAbs < 65536 ^ 32):ACalls Tryz.prog G 81 [intN x,intN y] (.tup [intN (x*y),.sb true]):=by
 have c1:=wideMulG_c (G:=G) x.natAbs y.natAbs hx hy h
 have c2:=made_c (G:=G) (decide (x < 0) != decide (y < 0)) (x.natAbs*y.natAbs) h
 rw [mul_sgn] at c2
 clear hx hy h
 unfold intN sgnA at *
 unfold wideN wideA at *
 generalize wW x.natAbs=X at *
 generalize wW y.natAbs=Y at *
 generalize wW (x.natAbs*y.natAbs)=U at *
 generalize wW (x*y).natAbs=Z at *
 generalize decide (x < 0)=p at *
 generalize decide (y < 0)=q at *
 generalize decide (x*y < 0)=b at *
 refine ACalls.of_WA ttok Tryz.func81 rfl rfl _ rfl ?_
 conv=>whnf
 repeat' (first|refine sq ?_|refine bk ?_|((first|refine rg ttok ?_|refine dw ttok mixed ?_|refine cd ?_|refine sk ?_|refine xt ?_|refine rt ?_);conv=>whnf)|(refine And.intro (fun h=>?_) (fun h=>?_) <;> (try simp only [brsA] at h) <;> conv=>whnf)|(refine Or.inl ?_;(conv=>whnf);(first|refine ⟨_,c1,?_⟩|refine ⟨_,c2,?_⟩);conv=>whnf)|((first|refine wf ?_|refine wp' ?_|refine ai ?_|refine And.intro rfl ?_|refine an ?_|fail);conv=>whnf))
 all_goals first|contradiction|(exfalso;omega)|skip
theorem p120m {a b:Nat} (ha:a < 2 ^ 120) (hb:b < 2 ^ 120):a*b < 65536 ^ 32∧b < 65536 ^ 16:=by
 refine ⟨Nat.lt_of_lt_of_le (Nat.mul_lt_mul'' ha hb) (by decide),Nat.lt_trans hb (by decide)⟩
theorem times_g (a:Int) (w:Nat) (ha:a.natAbs < 2 ^ 120) (hw:w < 2 ^ 120):ACalls Tryz.prog G 58 [intN a,wideN w] (intN (a*w)):=by
 have c:=sMulG_c (G:=G) a (w:Int) (Nat.lt_trans ha p120') (by rw [Int.natAbs_natCast]; exact (p120m ha hw).2) (by rw [Int.natAbs_natCast]; exact (p120m ha hw).1)
 rw [intN_nat w] at c
 clear ha hw
 unfold intN sgnA at *
 unfold wideN wideA
 generalize a*(w:Int)=r at *
 generalize wW a.natAbs=X at *
 generalize wW w=W at *
 generalize wW r.natAbs=Z at *
 generalize decide (a < 0)=p at *
 generalize decide (r < 0)=q at *
 have c:=c.fit (args':=[.agg [.sb p,.int .u64 (X 0:Nat),.int .u64 (X 1:Nat),.int .u64 (X 2:Nat),.int .u64 (X 3:Nat),.int .u64 (X 4:Nat),.int .u64 (X 5:Nat),.int .u64 (X 6:Nat),.int .u64 (X 7:Nat)],.agg [.bool false,.int .u64 (W 0:Nat),.int .u64 (W 1:Nat),.int .u64 (W 2:Nat),.int .u64 (W 3:Nat),.int .u64 (W 4:Nat),.int .u64 (W 5:Nat),.int .u64 (W 6:Nat),.int .u64 (W 7:Nat)]]) (by
  conv=>whnf
  repeat (first|exact fa|((first|refine fb ?_|(refine And.intro ?_ ?_;rotate_left));conv=>whnf)))
 refine ACalls.of_WA ttok Tryz.func58 rfl rfl _ rfl ?_
 conv=>whnf
 repeat' (first|refine sq ?_|refine bk ?_|((first|refine rg ttok ?_|refine dw ttok mixed ?_|refine cd ?_|refine sk ?_|refine xt ?_|refine rt ?_);conv=>whnf)|(refine And.intro (fun h=>?_) (fun h=>?_) <;> (try simp only [brsA] at h) <;> conv=>whnf)|(refine Or.inl ?_;(conv=>whnf);refine ⟨_,c,?_⟩;conv=>whnf)|((first|refine wf ?_|refine wp' ?_|refine ai ?_|refine And.intro rfl ?_|refine an ?_|fail);conv=>whnf))
 all_goals first|contradiction|(exfalso;omega)|skip
theorem compare_g (a b:Int) (c:Nat) (a' b':Int) (c':Nat) (ha:a.natAbs < 2 ^ 120) (hb:b.natAbs < 2 ^ 120) (hc:c < 2 ^ 120) (ha':a'.natAbs < 2 ^ 120) (hb':b'.natAbs < 2 ^ 120) (hc':c' < 2 ^ 120) :
  ACalls Tryz.prog G 29 [spotA a b c,spotA a' b' c'] (.int .i64 (cmpS a b c a' b' c')):=by
 have t1:=times_g (G:=G) a c' ha hc'
 have t2:=times_g (G:=G) a' c ha' hc
 have t3:=times_g (G:=G) b c' hb hc'
 have t4:=times_g (G:=G) b' c hb' hc
 have bd:∀ (x:Int) (w:Nat),x.natAbs < 2 ^ 120→w < 2 ^ 120→(x*w).natAbs < 65536 ^ 32:=fun x w h1 h2=>by
  rw [Int.natAbs_mul,Int.natAbs_natCast]
  exact (p120m h1 h2).1
 have k1:=sCmp_c (G:=G) (a*c') (a'*c) (bd _ _ ha hc') (bd _ _ ha' hc)
 have k2:=sCmp_c (G:=G) (b*c') (b'*c) (bd _ _ hb hc') (bd _ _ hb' hc)
 have ko:=or_c (G:=G) [cmpZ (a*c') (a'*c),cmpZ (b*c') (b'*c)] (by simp)
 unfold cmpS
 generalize cmpZ (a*c') (a'*c)=z1 at *
 generalize cmpZ (b*c') (b'*c)=z2 at *
 generalize firstNZ [z1,z2]=z at *
 have ko:=ko.fit (args':=[.sl 2 1 (fun i=>takeL 1 (List.drop (i*1) [.int .i64 z1,.int .i64 z2]))]) (by
  conv=>whnf
  repeat (first|exact fa|((first|refine fb ?_|(refine And.intro ?_ ?_;rotate_left));conv=>whnf))
  all_goals (refine Or.inl fun i hi=>?_;rcases i with _|_|_|_|i <;> first|rfl|omega))
 clear bd ha hb ha' hb' hc hc'
 unfold spotA intN sgnA spotL at *
 unfold wideN wideA at *
 generalize decide (a < 0)=p1 at *
 generalize decide (b < 0)=p2 at *
 generalize decide (a' < 0)=p3 at *
 generalize decide (b' < 0)=p4 at *
 generalize decide (a*(c':Int) < 0)=p5 at *
 generalize decide (b*(c':Int) < 0)=p6 at *
 generalize decide (a'*(c:Int) < 0)=p7 at *
 generalize decide (b'*(c:Int) < 0)=p8 at *
 generalize wW a.natAbs=V1 at *
 generalize wW b.natAbs=V2 at *
 generalize wW a'.natAbs=V3 at *
 generalize wW b'.natAbs=V4 at *
 generalize wW (a*(c':Int)).natAbs=V5 at *
 generalize wW (b*(c':Int)).natAbs=V6 at *
 generalize wW (a'*(c:Int)).natAbs=V7 at *
 generalize wW (b'*(c:Int)).natAbs=V8 at *
 generalize wW c=V9 at *
 generalize wW c'=V0 at *
 refine ACalls.of_WA ttok Tryz.func29 rfl rfl _ rfl ?_
 conv=>whnf
 repeat' (first|refine sq ?_|refine bk ?_|((first|refine rg ttok ?_|refine dw ttok mixed ?_|refine cd ?_|refine sk ?_|refine xt ?_|refine rt ?_);conv=>whnf)|(refine And.intro (fun h=>?_) (fun h=>?_) <;> (try simp only [brsA] at h) <;> conv=>whnf)|(refine Or.inl ?_;(conv=>whnf);(first|refine ⟨_,t1,?_⟩|refine ⟨_,t2,?_⟩|refine ⟨_,t3,?_⟩|refine ⟨_,t4,?_⟩|refine ⟨_,k1,?_⟩|refine ⟨_,k2,?_⟩|refine ⟨_,ko,?_⟩);conv=>whnf)|(refine Or.inr (Or.inr (Or.inl ?_));(conv=>whnf);refine ⟨_,ko,?_⟩;conv=>whnf)|((first|refine Or.inr (Or.inr (Or.inr ?_))|refine Or.inr ?_);(conv=>whnf);refine ⟨_,_,ko,?_⟩;conv=>whnf)|((first|refine wf ?_|refine wp' ?_|refine ai ?_|refine And.intro rfl ?_|refine an ?_|fail);conv=>whnf))
 all_goals first|contradiction|(exfalso;omega)|skip
theorem sgI_lt {p:Bool} {x n:Nat} (h:x < n):(sgI p x).natAbs < n:=by rw [sgI_abs]; exact h
theorem compare_r {r s:RS} (hr:MayR r) (hs:MayR s):ACalls Tryz.prog G 29 [spR r,spR s] (.int .i64 (cmpR r s)):=by
 rw [spR_spot hr,spR_spot hs]
 exact compare_g _ _ _ _ _ _ (sgI_lt hr.1.1) (sgI_lt hr.1.2.1) hr.1.2.2 (sgI_lt hs.1.1) (sgI_lt hs.1.2.1) hs.1.2.2
theorem sCmp_r {r s:RS} (hr:Rk r) (hs:Rk s):ACalls Tryz.prog G 8 [spR r,spR s] (.tup [.int .i64 (if MayR r∧MayR s then cmpR r s else 0),.int .i64 (if MayR r∧MayR s then 0 else 1)]):=by
 have m1:=sMay_r (G:=G) r hr
 have m2:=sMay_r (G:=G) s hs
 have k:=fun (h:MayR r) (h':MayR s)=>compare_r (G:=G) h h'
 generalize cmpR r s=z at *
 by_cases h1:MayR r
 ·by_cases h2:MayR s
  ·have k:=k h1 h2
   rw [if_pos ⟨h1,h2⟩,if_pos ⟨h1,h2⟩]
   rw [decide_eq_true h1] at m1
   rw [decide_eq_true h2] at m2
   unfold spR spotL at *
   clear hr hs h1 h2
   generalize wW r.x=V1 at *
   generalize wW r.y=V2 at *
   generalize wW r.w=V3 at *
   generalize wW s.x=V4 at *
   generalize wW s.y=V5 at *
   generalize wW s.w=V6 at *
   refine ACalls.of_WA ttok Tryz.func8 rfl rfl _ rfl ?_
   conv=>whnf
   repeat' (first|refine sq ?_|refine bk ?_|((first|refine rg ttok ?_|refine dw ttok mixed ?_|refine cd ?_|refine sk ?_|refine xt ?_|refine rt ?_);conv=>whnf)|(refine And.intro (fun h=>?_) (fun h=>?_) <;> (try simp only [brsA] at h) <;> conv=>whnf)|(refine Or.inl ?_;(conv=>whnf);(first|refine ⟨_,m1,?_⟩|refine ⟨_,m2,?_⟩|refine ⟨_,k,?_⟩);conv=>whnf)|((first|refine wf ?_|refine wp' ?_|refine ai ?_|refine And.intro rfl ?_|refine an ?_|fail);conv=>whnf))
   all_goals first|contradiction|(exfalso;omega)|skip
  ·rw [if_neg (fun q=>h2 q.2),if_neg (fun q=>h2 q.2)]
   rw [decide_eq_true h1] at m1
   rw [decide_eq_false h2] at m2
   clear k
   unfold spR spotL at *
   clear hr hs h1 h2
   generalize wW r.x=V1 at *
   generalize wW r.y=V2 at *
   generalize wW r.w=V3 at *
   generalize wW s.x=V4 at *
   generalize wW s.y=V5 at *
   generalize wW s.w=V6 at *
   refine ACalls.of_WA ttok Tryz.func8 rfl rfl _ rfl ?_
   conv=>whnf
   repeat' (first|refine sq ?_|refine bk ?_|((first|refine rg ttok ?_|refine dw ttok mixed ?_|refine cd ?_|refine sk ?_|refine xt ?_|refine rt ?_);conv=>whnf)|(refine And.intro (fun h=>?_) (fun h=>?_) <;> (try simp only [brsA] at h) <;> conv=>whnf)|(refine Or.inl ?_;(conv=>whnf);(first|refine ⟨_,m1,?_⟩|refine ⟨_,m2,?_⟩);conv=>whnf)|((first|refine wf ?_|refine wp' ?_|refine ai ?_|refine And.intro rfl ?_|refine an ?_|fail);conv=>whnf))
   all_goals first|contradiction|(exfalso;omega)|skip
 ·rw [if_neg (fun q=>h1 q.1),if_neg (fun q=>h1 q.1)]
  rw [decide_eq_false h1] at m1
  clear k m2
  unfold spR spotL at *
  clear hr hs h1
  generalize wW r.x=V1 at *
  generalize wW r.y=V2 at *
  generalize wW r.w=V3 at *
  generalize wW s.x=V4 at *
  generalize wW s.y=V5 at *
  generalize wW s.w=V6 at *
  refine ACalls.of_WA ttok Tryz.func8 rfl rfl _ rfl ?_
  conv=>whnf
  repeat' (first|refine sq ?_|refine bk ?_|((first|refine rg ttok ?_|refine dw ttok mixed ?_|refine cd ?_|refine sk ?_|refine xt ?_|refine rt ?_);conv=>whnf)|(refine And.intro (fun h=>?_) (fun h=>?_) <;> (try simp only [brsA] at h) <;> conv=>whnf)|(refine Or.inl ?_;(conv=>whnf);refine ⟨_,m1,?_⟩;conv=>whnf)|((first|refine wf ?_|refine wp' ?_|refine ai ?_|refine And.intro rfl ?_|refine an ?_|fail);conv=>whnf))
  all_goals first|contradiction|(exfalso;omega)|skip
theorem rless_c (x:Int) (hx:x.natAbs < 65536 ^ 32):ACalls Tryz.prog G 94 [intN x] (intN (-x)):=by
 have f:=fix_c (G:=G) (!decide (x < 0)) x.natAbs hx
 have e:sgnA ((!decide (x < 0)) && decide (x.natAbs ≠ 0)) x.natAbs=intN (-x):=sgn_is (by omega) (by
  rw [Bool.eq_iff_iff,Bool.and_eq_true,decide_eq_true_iff,decide_eq_true_iff,Bool.not_eq_true',decide_eq_false_iff_not]; omega)
 rw [e] at f
 clear e hx
 unfold intN sgnA at *
 generalize wW x.natAbs=X at *
 generalize wW (-x).natAbs=Y at *
 generalize decide (x < 0)=p at *
 generalize decide (-x < 0)=q at *
 refine ACalls.of_WA ttok Tryz.func94 rfl rfl _ rfl ?_
 conv=>whnf
 repeat' (first|refine sq ?_|refine bk ?_|((first|refine rg ttok ?_|refine dw ttok mixed ?_|refine cd ?_|refine sk ?_|refine xt ?_|refine rt ?_);conv=>whnf)|(refine And.intro (fun h=>?_) (fun h=>?_) <;> (try simp only [brsA] at h) <;> conv=>whnf)|(refine Or.inl ?_;(conv=>whnf);refine ⟨_,f,?_⟩;conv=>whnf)|((first|refine wf ?_|refine wp' ?_|refine ai ?_|refine And.intro rfl ?_|refine an ?_|fail);conv=>whnf))
 all_goals first|contradiction|(exfalso;omega)|skip
theorem rfix_c (x:Int) (h:x.natAbs < 65536 ^ 32):ACalls Tryz.prog G 63 [intN x] (intN x):=by
 have c:=fix_c (G:=G) (decide (x < 0)) x.natAbs h
 have e:sgnA (decide (x < 0) && decide (x.natAbs ≠ 0)) x.natAbs=intN x:=sgn_is rfl (by
  rw [Bool.eq_iff_iff,Bool.and_eq_true,decide_eq_true_iff,decide_eq_true_iff]; omega)
 rw [e] at c
 exact c
theorem radd_c (x y:Int) (h:x.natAbs+y.natAbs < 65536 ^ 32):ACalls Tryz.prog G 93 [intN x,intN y] (.tup [intN (x+y),.sb true]):=by
 have s:=add5_c (G:=G) (decide (x < 0)) (decide (y < 0)) x.natAbs y.natAbs (by omega) (by omega) h
 rw [add_sgn] at s
 exact s
theorem rcmp5_c (x y:Int) (h:x.natAbs+y.natAbs < 65536 ^ 32):ACalls Tryz.prog G 65 [intN x,intN y] (.int .i64 (cmpZ x y)):=by
 have f:=rfix_c (G:=G) x (by omega)
 have l:=rless_c (G:=G) y (by omega)
 have a:=radd_c (G:=G) x (-y) (by rw [Int.natAbs_neg]; exact h)
 have hu:(x + -y).natAbs < 65536 ^ 32:=by omega
 have hz:=eqW hu (show 0 < 65536 ^ 32 by decide)
 have w0:∀ k,wW 0 k=0:=wW0
 rw [w0,w0,w0,w0,w0,w0,w0,w0] at hz
 have hc:cmpZ x y=if x + -y < 0 then -1 else if (x + -y).natAbs=0 then 0 else 1:=by
  unfold cmpZ
  split <;> (repeat' split) <;> omega
 rw [hc]
 generalize x + -y=d at *
 by_cases h1:d < 0
 ·rw [if_pos h1]
  unfold intN sgnA at *
  rw [decide_eq_true h1] at a
  clear hz w0 hc h hu
  generalize wW x.natAbs=X at *
  generalize wW y.natAbs=Y at *
  generalize wW (-y).natAbs=Z at *
  generalize wW d.natAbs=D at *
  generalize decide (x < 0)=p at *
  generalize decide (y < 0)=q at *
  generalize decide (-y < 0)=q' at *
  clear h1
  refine ACalls.of_WA ttok Tryz.func65 rfl rfl _ rfl ?_
  conv=>whnf
  repeat' (first|refine sq ?_|refine bk ?_|((first|refine rg ttok ?_|refine dw ttok mixed ?_|refine cd ?_|refine sk ?_|refine xt ?_|refine rt ?_);conv=>whnf)|(refine And.intro (fun h=>?_) (fun h=>?_) <;> (try simp only [brsA] at h) <;> conv=>whnf)|(refine Or.inl ?_;(conv=>whnf);(first|refine ⟨_,f,?_⟩|refine ⟨_,l,?_⟩|refine ⟨_,a,?_⟩);conv=>whnf)|((first|refine wf ?_|refine wp' ?_|refine ai ?_|refine And.intro rfl ?_|refine an ?_|fail);conv=>whnf))
  all_goals first|contradiction|(exfalso;omega)|skip
 ·rw [if_neg h1]
  unfold intN sgnA at *
  rw [decide_eq_false h1] at a
  by_cases h2:d.natAbs=0
  ·rw [if_pos h2]
   rw [decide_eq_true h2] at hz
   clear w0 hc h hu h1 h2
   generalize wW x.natAbs=X at *
   generalize wW y.natAbs=Y at *
   generalize wW (-y).natAbs=Z at *
   generalize wW d.natAbs=D at *
   generalize decide (x < 0)=p at *
   generalize decide (y < 0)=q at *
   generalize decide (-y < 0)=q' at *
   refine ACalls.of_WA ttok Tryz.func65 rfl rfl _ rfl ?_
   conv=>whnf
   repeat' (first|(exact Bool.noConfusion (hz.symm.trans (by assumption)))|refine sq ?_|refine bk ?_|((first|refine rg ttok ?_|refine dw ttok mixed ?_|refine cd ?_|refine sk ?_|refine xt ?_|refine rt ?_);conv=>whnf)|(refine And.intro (fun h=>?_) (fun h=>?_) <;> (try simp only [brsA] at h) <;> conv=>whnf)|(refine Or.inl ?_;(conv=>whnf);(first|refine ⟨_,f,?_⟩|refine ⟨_,l,?_⟩|refine ⟨_,a,?_⟩);conv=>whnf)|((first|refine wf ?_|refine wp' ?_|refine ai ?_|refine And.intro rfl ?_|refine an ?_|fail);conv=>whnf))
   all_goals first|contradiction|(exfalso;omega)|skip
  ·rw [if_neg h2]
   rw [decide_eq_false h2] at hz
   clear w0 hc h hu h1 h2
   generalize wW x.natAbs=X at *
   generalize wW y.natAbs=Y at *
   generalize wW (-y).natAbs=Z at *
   generalize wW d.natAbs=D at *
   generalize decide (x < 0)=p at *
   generalize decide (y < 0)=q at *
   generalize decide (-y < 0)=q' at *
   refine ACalls.of_WA ttok Tryz.func65 rfl rfl _ rfl ?_
   conv=>whnf
   repeat' (first|(exact Bool.noConfusion (hz.symm.trans (by assumption)))|refine sq ?_|refine bk ?_|((first|refine rg ttok ?_|refine dw ttok mixed ?_|refine cd ?_|refine sk ?_|refine xt ?_|refine rt ?_);conv=>whnf)|(refine And.intro (fun h=>?_) (fun h=>?_) <;> (try simp only [brsA] at h) <;> conv=>whnf)|(refine Or.inl ?_;(conv=>whnf);(first|refine ⟨_,f,?_⟩|refine ⟨_,l,?_⟩|refine ⟨_,a,?_⟩);conv=>whnf)|((first|refine wf ?_|refine wp' ?_|refine ai ?_|refine And.intro rfl ?_|refine an ?_|fail);conv=>whnf))
   all_goals first|contradiction|(exfalso;omega)|skip
theorem rpart_c (a b:Int) (v w:Nat) (ha:a.natAbs < 2 ^ 120) (hb:b.natAbs < 2 ^ 120) (hv:v < 2 ^ 120) (hw:w < 2 ^ 120) :
  ACalls Tryz.prog G 33 [intN a,intN b,wideN v,wideN w] (.int .i64 (cmpZ (a*w) (b*v))):=by
 have m1:=mul5_c (G:=G) (decide (a < 0)) (decide ((w:Int) < 0)) a.natAbs (w:Int).natAbs (Nat.lt_trans ha p120') (by rw [Int.natAbs_natCast]; exact Nat.lt_trans hw p120') (by rw [Int.natAbs_natCast]; exact (p120m ha hw).1)
 have m2:=mul5_c (G:=G) (decide (b < 0)) (decide ((v:Int) < 0)) b.natAbs (v:Int).natAbs (Nat.lt_trans hb p120') (by rw [Int.natAbs_natCast]; exact Nat.lt_trans hv p120') (by rw [Int.natAbs_natCast]; exact (p120m hb hv).1)
 rw [mul_sgn] at m1 m2
 rw [decide_eq_false (show ¬ ((w:Int) < 0) by omega),Int.natAbs_natCast] at m1
 rw [decide_eq_false (show ¬ ((v:Int) < 0) by omega),Int.natAbs_natCast] at m2
 have k:=rcmp5_c (G:=G) (a*w) (b*v) (by
  rw [Int.natAbs_mul,Int.natAbs_mul,Int.natAbs_natCast,Int.natAbs_natCast]
  have e1:=Nat.mul_lt_mul'' ha hw
  have e2:=Nat.mul_lt_mul'' hb hv
  have e3:(2:Nat) ^ 120*2 ^ 120+2 ^ 120*2 ^ 120 < 65536 ^ 32:=by decide
  omega)
 clear ha hb hv hw
 generalize cmpZ (a*w) (b*v)=z at *
 unfold intN sgnA at *
 unfold wideN wideA
 generalize wW (a*(w:Int)).natAbs=V1 at *
 generalize wW (b*(v:Int)).natAbs=V2 at *
 generalize decide (a*(w:Int) < 0)=p1 at *
 generalize decide (b*(v:Int) < 0)=p2 at *
 generalize wW a.natAbs=V3 at *
 generalize wW b.natAbs=V4 at *
 generalize decide (a < 0)=p3 at *
 generalize decide (b < 0)=p4 at *
 generalize wW v=V5 at *
 generalize wW w=V6 at *
 have m1:=m1.fit (args':=[.agg [.sb p3,.int .u64 (V3 0:Nat),.int .u64 (V3 1:Nat),.int .u64 (V3 2:Nat),.int .u64 (V3 3:Nat),.int .u64 (V3 4:Nat),.int .u64 (V3 5:Nat),.int .u64 (V3 6:Nat),.int .u64 (V3 7:Nat)],.agg [.bool false,.int .u64 (V6 0:Nat),.int .u64 (V6 1:Nat),.int .u64 (V6 2:Nat),.int .u64 (V6 3:Nat),.int .u64 (V6 4:Nat),.int .u64 (V6 5:Nat),.int .u64 (V6 6:Nat),.int .u64 (V6 7:Nat)]]) (by
  conv=>whnf
  repeat (first|exact fa|((first|refine fb ?_|(refine And.intro ?_ ?_;rotate_left));conv=>whnf)))
 have m2:=m2.fit (args':=[.agg [.sb p4,.int .u64 (V4 0:Nat),.int .u64 (V4 1:Nat),.int .u64 (V4 2:Nat),.int .u64 (V4 3:Nat),.int .u64 (V4 4:Nat),.int .u64 (V4 5:Nat),.int .u64 (V4 6:Nat),.int .u64 (V4 7:Nat)],.agg [.bool false,.int .u64 (V5 0:Nat),.int .u64 (V5 1:Nat),.int .u64 (V5 2:Nat),.int .u64 (V5 3:Nat),.int .u64 (V5 4:Nat),.int .u64 (V5 5:Nat),.int .u64 (V5 6:Nat),.int .u64 (V5 7:Nat)]]) (by
  conv=>whnf
  repeat (first|exact fa|((first|refine fb ?_|(refine And.intro ?_ ?_;rotate_left));conv=>whnf)))
 refine ACalls.of_WA ttok Tryz.func33 rfl rfl _ rfl ?_
 conv=>whnf
 repeat' (first|refine sq ?_|refine bk ?_|((first|refine rg ttok ?_|refine dw ttok mixed ?_|refine cd ?_|refine sk ?_|refine xt ?_|refine rt ?_);conv=>whnf)|(refine And.intro (fun h=>?_) (fun h=>?_) <;> (try simp only [brsA] at h) <;> conv=>whnf)|(refine Or.inl ?_;(conv=>whnf);(first|refine ⟨_,m1,?_⟩|refine ⟨_,m2,?_⟩|refine ⟨_,k,?_⟩);conv=>whnf)|((first|refine wf ?_|refine wp' ?_|refine ai ?_|refine And.intro rfl ?_|refine an ?_|fail);conv=>whnf))
 all_goals first|contradiction|(exfalso;omega)|skip
theorem rCmp_r {r s:RS} (hr:MayR r) (hs:MayR s):ACalls Tryz.prog G 9 [spR r,spR s] (.int .i64 (cmpR r s)):=by
 have k1:=rpart_c (G:=G) (axR r) (axR s) r.w s.w (sgI_lt hr.1.1) (sgI_lt hs.1.1) hr.1.2.2 hs.1.2.2
 have k2:=rpart_c (G:=G) (ayR r) (ayR s) r.w s.w (sgI_lt hr.1.2.1) (sgI_lt hs.1.2.1) hr.1.2.2 hs.1.2.2
 rw [spR_spot hr,spR_spot hs]
 have hc:cmpR r s=if cmpZ (axR r*s.w) (axR s*r.w)=0 then cmpZ (ayR r*s.w) (ayR s*r.w) else cmpZ (axR r*s.w) (axR s*r.w):=by
  unfold cmpR cmpS
  show (if _=0 then (if _=0 then 0 else _) else _)=_
  split
  ·split
   ·rename_i h; exact h.symm
   ·rfl
  ·rfl
 rw [hc]
 clear hc hr hs
 generalize cmpZ (axR r*s.w) (axR s*r.w)=z1 at *
 generalize cmpZ (ayR r*s.w) (ayR s*r.w)=z2 at *
 unfold spotA spotL at *
 unfold intN sgnA wideN wideA at *
 generalize decide (axR r < 0)=p1 at *
 generalize decide (ayR r < 0)=p2 at *
 generalize decide (axR s < 0)=p3 at *
 generalize decide (ayR s < 0)=p4 at *
 generalize wW (axR r).natAbs=V1 at *
 generalize wW (ayR r).natAbs=V2 at *
 generalize wW r.w=V3 at *
 generalize wW (axR s).natAbs=V4 at *
 generalize wW (ayR s).natAbs=V5 at *
 generalize wW s.w=V6 at *
 by_cases h0:z1=0
 ·rw [if_pos h0]
  subst h0
  refine ACalls.of_WA ttok Tryz.func9 rfl rfl _ rfl ?_
  conv=>whnf
  repeat' (first|refine sq ?_|refine bk ?_|((first|refine rg ttok ?_|refine dw ttok mixed ?_|refine cd ?_|refine sk ?_|refine xt ?_|refine rt ?_);conv=>whnf)|(refine And.intro (fun h=>?_) (fun h=>?_) <;> (try simp only [brsA] at h) <;> conv=>whnf)|(refine Or.inl ?_;(conv=>whnf);(first|refine ⟨_,k1,?_⟩|refine ⟨_,k2,?_⟩);conv=>whnf)|((first|refine wf ?_|refine wp' ?_|refine ai ?_|refine And.intro rfl ?_|refine an ?_|fail);conv=>whnf))
  all_goals first|contradiction|(exfalso;omega)|skip
 ·rw [if_neg h0]
  refine ACalls.of_WA ttok Tryz.func9 rfl rfl _ rfl ?_
  conv=>whnf
  repeat' (first|(exact absurd (by assumption) h0)|refine sq ?_|refine bk ?_|((first|refine rg ttok ?_|refine dw ttok mixed ?_|refine cd ?_|refine sk ?_|refine xt ?_|refine rt ?_);conv=>whnf)|(refine And.intro (fun h=>?_) (fun h=>?_) <;> (try simp only [brsA] at h) <;> conv=>whnf)|(refine Or.inl ?_;(conv=>whnf);(first|refine ⟨_,k1,?_⟩|refine ⟨_,k2,?_⟩);conv=>whnf)|((first|refine wf ?_|refine wp' ?_|refine ai ?_|refine And.intro rfl ?_|refine an ?_|fail);conv=>whnf))
  all_goals first|contradiction|(exfalso;omega)|skip
end Go.Proofs.YtmeohhbdkoeadaaGreat
namespace Go.Proofs
open Go.Shelf Go.Proofs.YtmeohhbdkoeadaaGreat.Am
def Tryz.layComS_ren:Go.Shelf.Ren:=⟨fun | 43=>30 | n=>n,fun | 0=>0 | 3=>3 | 4=>4 | 22=>22 | 23=>34 | n=>n,fun | n=>n⟩
theorem Tryz.layComS:CompL Tryz.prog Tryz.layComS_ren:={
 mixed:=by kernel_rfl
 f43:=⟨Tryz.f30.name,by decide,Tryz.func30.trans (congrArg some (by kernel_rfl))⟩
 t0:=Tryz.underlying0
 a0:=Tryz.isAgg0
 z0:=Tryz.sizeOf0
 v0:=Tryz.zeroValue0
 t3:=Tryz.underlying3
 a3:=Tryz.isAgg3
 z3:=Tryz.sizeOf3
 v3:=Tryz.zeroValue3
 t4:=Tryz.underlying4
 a4:=Tryz.isAgg4
 z4:=Tryz.sizeOf4
 v4:=Tryz.zeroValue4
 t22:=Tryz.underlying22
 a22:=Tryz.isAgg22
 z22:=Tryz.sizeOf22
 v22:=Tryz.zeroValue22 }
end Go.Proofs
namespace Go.Proofs.YtmeohhbdkoeadaaGreat
open Go.Proofs.YtmeohhbdkoeadaaGreat.Am Go.Sort Go.Proofs Go.Lib
variable [Inhabited DRT]
variable {G:GInv}
def eMS (x:MS):List A:=rsL x.1
theorem rs_flat (r:RS):∀ a ∈ rsL r,flatA a:=by
 simp [rsL,spotL,flatA]
theorem rk0:Rk ⟨false,false,0,0,0⟩:=⟨by decide,by decide,by decide⟩
abbrev RK:Type:={ r:RS // Rk r }
instance:Inhabited RK:=⟨⟨⟨false,false,0,0,0⟩,rk0⟩⟩
def eRK (x:RK):List A:=rsL x.1
def shS:List Nat:=[6,5,5,5,5,5,5,5,5,6,5,5,5,5,5,5,5,5,5,5,5,5,5,5,5,5]
theorem shS_ok:eqShape Tryz.prog 6 34=some shS:=by kernel_rfl
theorem rs_okL (x y:RS) (hx:Rk x) (hy:Rk y):okL shS ((rsL x).map fvA) ((rsL y).map fvA) (decide (x=y)):=by
 rw [← rs_eqb hx hy]
 clear hx hy
 obtain ⟨p,q,a,b,c⟩:=x
 obtain ⟨p',q',a',b',c'⟩:=y
 unfold rsL
 dsimp only
 generalize wW a=a at *
 generalize wW b=b at *
 generalize wW c=c at *
 generalize wW a'=a' at *
 generalize wW b'=b' at *
 generalize wW c'=c' at *
 exact
  ⟨_,_,.inr (.inl ⟨rfl,_,_,rfl,rfl,rfl⟩),⟨_,_,.inl ⟨rfl,_,_,_,rfl,rfl,rfl⟩,⟨_,_,.inl ⟨rfl,_,_,_,rfl,rfl,rfl⟩,⟨_,_,.inl ⟨rfl,_,_,_,rfl,rfl,rfl⟩,⟨_,_,.inl ⟨rfl,_,_,_,rfl,rfl,rfl⟩,⟨_,_,.inl ⟨rfl,_,_,_,rfl,rfl,rfl⟩,⟨_,_,.inl ⟨rfl,_,_,_,rfl,rfl,rfl⟩,⟨_,_,.inl ⟨rfl,_,_,_,rfl,rfl,rfl⟩,⟨_,_,.inl ⟨rfl,_,_,_,rfl,rfl,rfl⟩,⟨_,_,.inr (.inl ⟨rfl,_,_,rfl,rfl,rfl⟩),⟨_,_,.inl ⟨rfl,_,_,_,rfl,rfl,rfl⟩,⟨_,_,.inl ⟨rfl,_,_,_,rfl,rfl,rfl⟩,⟨_,_,.inl ⟨rfl,_,_,_,rfl,rfl,rfl⟩,⟨_,_,.inl ⟨rfl,_,_,_,rfl,rfl,rfl⟩,⟨_,_,.inl ⟨rfl,_,_,_,rfl,rfl,rfl⟩,⟨_,_,.inl ⟨rfl,_,_,_,rfl,rfl,rfl⟩,⟨_,_,.inl ⟨rfl,_,_,_,rfl,rfl,rfl⟩,⟨_,_,.inl ⟨rfl,_,_,_,rfl,rfl,rfl⟩,⟨_,_,.inl ⟨rfl,_,_,_,rfl,rfl,rfl⟩,⟨_,_,.inl ⟨rfl,_,_,_,rfl,rfl,rfl⟩,⟨_,_,.inl ⟨rfl,_,_,_,rfl,rfl,rfl⟩,⟨_,_,.inl ⟨rfl,_,_,_,rfl,rfl,rfl⟩,⟨_,_,.inl ⟨rfl,_,_,_,rfl,rfl,rfl⟩,⟨_,_,.inl ⟨rfl,_,_,_,rfl,rfl,rfl⟩,⟨_,_,.inl ⟨rfl,_,_,_,rfl,rfl,rfl⟩,⟨_,_,.inl ⟨rfl,_,_,_,rfl,rfl,rfl⟩,rfl,rfl⟩,rfl⟩,rfl⟩,rfl⟩,rfl⟩,rfl⟩,rfl⟩,rfl⟩,rfl⟩,rfl⟩,rfl⟩,rfl⟩,rfl⟩,rfl⟩,rfl⟩,rfl⟩,rfl⟩,rfl⟩,rfl⟩,rfl⟩,rfl⟩,rfl⟩,rfl⟩,rfl⟩,rfl⟩,rfl⟩
theorem rk_okL (x y:RK):okL shS (encF eRK x) (encF eRK y) (decide (x=y)):=by
 have e:decide (x=y)=decide (x.1=y.1):=decide_eq_decide.2 Subtype.ext_iff
 rw [e]
 exact rs_okL x.1 y.1 x.2 y.2
theorem rk_row (l:List Value):mkV Tryz.prog 34 l = .agg l.toArray:=by
 have h:Tryz.prog.underlying 34=_:=Tryz.underlying34
 unfold mkV
 rw [h]
theorem spot_runs (x y:RK) (w:World) (op:BinOp) (X Y:Operand):(eqGuard op 34 X Y (.agg (encF eRK x).toArray) (.agg (encF eRK y).toArray)).run Tryz.prog w = .ok () w ∧
  (binOp .eql 34 (.agg (encF eRK x).toArray) (.agg (encF eRK y).toArray)).run Tryz.prog w = .ok (.bool (decide (x=y))) w ∧
  (binOp .neq 34 (.agg (encF eRK x).toArray) (.agg (encF eRK y).toArray)).run Tryz.prog w = .ok (.bool (!decide (x=y))) w:=by
 have hdep:6≤Tryz.prog.depth:=by unfold Program.depth Made.depth; omega
 have e2:(Op.equalIn 10000 34 (.agg (encF eRK x).toArray) (.agg (encF eRK y).toArray)).run Tryz.prog w = .ok (decide (x=y)) w:=by
  have:=eqShape_run (P:=Tryz.prog) (w:=w) 6 34 shS _ _ _ (10000 - 6) shS_ok (rk_okL x y)
  rw [rk_row,rk_row] at this
  exact this
 have hg:Tryz.prog.eqGuardType Tryz.prog.depth 34=false:=by
  have:=eqShape_guard (P:=Tryz.prog) 6 34 shS (Tryz.prog.depth - 6) shS_ok
  rwa [show 6+(Tryz.prog.depth - 6)=Tryz.prog.depth by omega] at this
 refine ⟨?_,?_,?_⟩
 ·unfold eqGuard
  cases op <;> simp [hg]
 ·rw [run_eql_struct]; simp [e2]
 ·rw [run_neq_struct]; simp [e2]
theorem zeros_list (z:Array Value):∀ n,(Builtin.zeroCells z n).toList=(List.replicate n z.toList).flatten
 | 0=>by simp [Builtin.zeroCells]
 | n+1=>by
  have ih:=zeros_list z n
  rw [List.replicate_succ',List.flatten_append,← ih]
  unfold Builtin.zeroCells
  simp only [Array.toList_map,Array.toList_range]
  rw [Nat.add_mul,Nat.one_mul,List.range_add,List.map_append,List.map_map]
  congr 1
  simp only [List.flatten_cons,List.flatten_nil,List.append_nil]
  apply List.ext_getElem
  ·simp
  ·intro j h1 h2
   simp only [List.length_map,List.length_range] at h1
   simp only [List.getElem_map,List.getElem_range,Function.comp]
   rw [Nat.mul_comm,Nat.mul_add_mod,Nat.mod_eq_of_lt h1]
   simp [getElem!_pos z j h1]
theorem rk_zero:encF eRK ⟨⟨false,false,0,0,0⟩,rk0⟩ = [.bool false,.int .u64 0,.int .u64 0,.int .u64 0,.int .u64 0,.int .u64 0,.int .u64 0,.int .u64 0,.int .u64 0,.bool false,.int .u64 0,.int .u64 0,.int .u64 0,.int .u64 0,.int .u64 0,.int .u64 0,.int .u64 0,.int .u64 0,.int .u64 0,.int .u64 0,.int .u64 0,.int .u64 0,.int .u64 0,.int .u64 0,.int .u64 0,.int .u64 0]:=by
 show (rsL ⟨false,false,0,0,0⟩).map fvA=_
 have h:∀ k,wW 0 k=0:=wW0
 unfold rsL spotL
 simp only [h]
 rfl
theorem compactRK_c (l:List RK) (hl:l.length≤1000000) (h0:0 < l.length) :
  MCalls Tryz.prog G 30 [.own 1] [.ghost [.own 1,.junk],.row 34 26 l.length (rowF eRK l)] (.own 1) [.ghost [.junk,.junk],.row 34 26 (cmpL l).length (rowF eRK (cmpL l))] :=
 MCalls.compactF (ρ:=Tryz.layComS_ren) Tryz.layComS 26 (by omega) (fun w=>by kernel_rfl) (fun w=>by kernel_rfl) eRK (fun x=>rs_flat x.1) (fun _=>rfl)
  (fun x y w=>(spot_runs x y w .eql default default).2.1) (fun x y w=>(spot_runs x y w .eql default default).2.2) (fun op a b x y w=>(spot_runs x y w op a b).1)
  ⟨⟨false,false,0,0,0⟩,rk0⟩ _ Tryz.zeroValue34 (fun n=>by rw [zeros_list,List.flatMap_def,List.map_replicate,rk_zero]; rfl)
  ⟨_,_,Tryz.func30,rfl,rfl⟩ 34 l hl h0
def toRK (x:MS):RK:=⟨x.1,x.rk⟩
theorem toRK_inj {x y:MS} (h:toRK x=toRK y):x=y:=Subtype.ext (show x.1=y.1 from congrArg (fun z:RK=>z.1) h)
theorem compact_map (l:List MS):∀ m,m≤l.length→compactUpTo (l.map toRK).toArray m=(compactUpTo l.toArray m).map toRK
 | 0,_=>by simp [compactUpTo]
 | m+1,h=>by
  rw [compactUpTo_succ,compactUpTo_succ,List.map_append,compact_map l m (by omega)]
  congr 1
  have g:∀ i,i < l.length→(l.map toRK).toArray[i]! = toRK (l.toArray[i]!):=fun i hi=>by
   rw [getElem!_pos _ _ (by simpa using hi),getElem!_pos _ _ (by simpa using hi)]; simp
  have hk:keeps (l.map toRK).toArray m=keeps l.toArray m:=by
   unfold keeps
   rw [decide_eq_decide,g m (by omega),g (m - 1) (by omega)]
   constructor
   ·rintro (h | h)
    ·exact .inl h
    ·exact .inr fun e=>h (congrArg toRK e)
   ·rintro (h | h)
    ·exact .inl h
    ·exact .inr fun e=>h (toRK_inj e)
  rw [hk]
  split
  ·rw [g m (by omega)]; rfl
  ·rfl
theorem row_map (l:List MS) (i:Nat) (h:i < l.length):rowF eRK (l.map toRK) i=rowF eMS l i:=by
 unfold rowF eRK eMS toRK
 simp [List.getD_eq_getElem?_getD,h]
theorem cmp_map (l:List MS):cmpL (l.map toRK)=(cmpL l).map toRK:=by
 unfold cmpL
 rw [List.length_map,compact_map l l.length (Nat.le_refl _)]
theorem compactMS_c (l:List MS) (hl:l.length≤1000000) (h0:0 < l.length) :
  MCalls Tryz.prog G 30 [.own 1] [.ghost [.own 1,.junk],.row 34 26 l.length (rowF eMS l)] (.own 1) [.ghost [.junk,.junk],.row 34 26 (cmpL l).length (rowF eRK ((cmpL l).map toRK))]:=by
 have h2:=compactRK_c (G:=G) (l.map toRK) (by simpa using hl) (by simpa using h0)
 rw [cmp_map] at h2
 have e1:=row_map l
 have e2:=row_map (cmpL l)
 rw [List.length_map,List.length_map] at h2
 refine MCalls.fit h2 rfl ?_
 show andL _
 conv=>whnf
 repeat (first|exact fa|((first|refine fb ?_|(refine And.intro ?_ ?_;rotate_left));conv=>whnf))
 all_goals first|exact Or.inl fun i hi=>(e1 i hi).symm
end Go.Proofs.YtmeohhbdkoeadaaGreat
/-
  DERIVED: THE SHELF's CONTRACTS AT THIS DUMP, IN PLAIN WORDS (tools/lay-plain.mjs out of 'TrySortShelf.lean', which tools/lay-shelf.mjs wrote): THE SAME DECLARATIONS UNDER THE SAME NAMES: 'import', 'namespace', 'open', 'def', 'theorem' AND NOTHING ELSE: no command of the shelf's: FOR A HAND-IN. Each laying: the table of numbers ('.._ren') and one theorem, a field a fact of the dump's own or the kernel's comparison; each contract: ONE APPLICATION.
-/
namespace Go.Proofs
open Go.Shelf
def Tryz.laySortSp_ren:Go.Shelf.Ren:=⟨fun | 6=>54 | 15=>87 | 14=>86 | 28=>128 | 29=>119 | 20=>120 | 21=>121 | 22=>122 | 23=>123 | 24=>124 | 25=>125 | 26=>126 | 27=>127 | 46=>150 | 47=>151 | 48=>152 | 49=>153 | 50=>154 | 57=>162 | n=>n,fun | 22=>22 | 24=>34 | 25=>37 | 3=>3 | 39=>125 | 0=>0 | 53=>166 | 55=>28 | 4=>4 | 46=>159 | 45=>158 | 50=>163 | 5=>5 | 9=>9 | 66=>181 | 70=>185 | 76=>189 | 77=>190 | n=>n,fun | n=>n⟩
theorem Tryz.laySortSp:Go.Proofs.SlLaysF0.n6 Tryz.prog Tryz.laySortSp_ren:={
 mixed:=by kernel_rfl
 f6:=⟨Tryz.f54.name,by decide,Tryz.func54.trans (congrArg some (by kernel_rfl))⟩
 f14:=⟨Tryz.f86.name,by decide,Tryz.func86.trans (congrArg some (by kernel_rfl))⟩
 f15:=Tryz.func87.trans (congrArg some (by kernel_rfl))
 f20:=⟨Tryz.f120.name,by decide,Tryz.func120.trans (congrArg some (by kernel_rfl))⟩
 f21:=⟨Tryz.f121.name,by decide,Tryz.func121.trans (congrArg some (by kernel_rfl))⟩
 f22:=⟨Tryz.f122.name,by decide,Tryz.func122.trans (congrArg some (by kernel_rfl))⟩
 f23:=⟨Tryz.f123.name,by decide,Tryz.func123.trans (congrArg some (by kernel_rfl))⟩
 f24:=⟨Tryz.f124.name,by decide,Tryz.func124.trans (congrArg some (by kernel_rfl))⟩
 f25:=⟨Tryz.f125.name,by decide,Tryz.func125.trans (congrArg some (by kernel_rfl))⟩
 f26:=⟨Tryz.f126.name,by decide,Tryz.func126.trans (congrArg some (by kernel_rfl))⟩
 f27:=⟨Tryz.f127.name,by decide,Tryz.func127.trans (congrArg some (by kernel_rfl))⟩
 f28:=Tryz.func128.trans (congrArg some (by kernel_rfl))
 f29:=Tryz.func119.trans (congrArg some (by kernel_rfl))
 f46:=⟨Tryz.f150.name,by decide,Tryz.func150.trans (congrArg some (by kernel_rfl))⟩
 f47:=Tryz.func151.trans (congrArg some (by kernel_rfl))
 f48:=Tryz.func152.trans (congrArg some (by kernel_rfl))
 f49:=⟨Tryz.f153.name,by decide,Tryz.func153.trans (congrArg some (by kernel_rfl))⟩
 f50:=⟨Tryz.f154.name,by decide,Tryz.func154.trans (congrArg some (by kernel_rfl))⟩
 f57:=⟨Tryz.f162.name,by decide,Tryz.func162.trans (congrArg some (by kernel_rfl))⟩
 t0:=Tryz.underlying0
 a0:=Tryz.isAgg0
 z0:=Tryz.sizeOf0
 v0:=Tryz.zeroValue0
 t3:=Tryz.underlying3
 a3:=Tryz.isAgg3
 z3:=Tryz.sizeOf3
 v3:=Tryz.zeroValue3
 t4:=Tryz.underlying4
 a4:=Tryz.isAgg4
 z4:=Tryz.sizeOf4
 v4:=Tryz.zeroValue4
 t5:=Tryz.underlying5
 a5:=Tryz.isAgg5
 z5:=Tryz.sizeOf5
 v5:=Tryz.zeroValue5
 t9:=Tryz.underlying9
 a9:=Tryz.isAgg9
 z9:=Tryz.sizeOf9
 v9:=Tryz.zeroValue9
 t22:=Tryz.underlying22
 a22:=Tryz.isAgg22
 z22:=Tryz.sizeOf22
 v22:=Tryz.zeroValue22
 t25:=Tryz.underlying37
 a25:=Tryz.isAgg37
 z25:=Tryz.sizeOf37
 v25:=Tryz.zeroValue37
 t39:=Tryz.underlying125
 a39:=Tryz.isAgg125
 z39:=Tryz.sizeOf125
 v39:=Tryz.zeroValue125
 t45:=Tryz.underlying158
 a45:=Tryz.isAgg158
 z45:=Tryz.sizeOf158
 v45:=Tryz.zeroValue158
 t46:=Tryz.underlying159
 a46:=Tryz.isAgg159
 z46:=Tryz.sizeOf159
 v46:=Tryz.zeroValue159
 t50:=Tryz.underlying163
 a50:=Tryz.isAgg163
 z50:=Tryz.sizeOf163
 v50:=Tryz.zeroValue163
 t53:=Tryz.underlying166
 a53:=Tryz.isAgg166
 z53:=Tryz.sizeOf166
 v53:=Tryz.zeroValue166
 t55:=Tryz.underlying28
 a55:=Tryz.isAgg28
 z55:=Tryz.sizeOf28
 v55:=Tryz.zeroValue28
 t66:=Tryz.underlying181
 a66:=Tryz.isAgg181
 z66:=Tryz.sizeOf181
 v66:=Tryz.zeroValue181
 t70:=Tryz.underlying185
 a70:=Tryz.isAgg185
 z70:=Tryz.sizeOf185
 v70:=Tryz.zeroValue185
 t76:=Tryz.underlying189
 a76:=Tryz.isAgg189
 z76:=Tryz.sizeOf189
 v76:=Tryz.zeroValue189
 t77:=Tryz.underlying190
 a77:=Tryz.isAgg190
 z77:=Tryz.sizeOf190
 v77:=Tryz.zeroValue190 }
end Go.Proofs
namespace Go.Proofs.YtmeohhbdkoeadaaGreat
open Go.Proofs.YtmeohhbdkoeadaaGreat.Am Go.Sort Go.Proofs Go.Lib
variable [Inhabited DRT]
variable {G:GInv}
theorem sortMS_f (l:List MS) (hl:l.length≤1000000) (h0:0 < l.length) :
  @MCalls drF Tryz.prog G 54 [.own 1,.fn 29 []] [.ghost [.own 1,.junk,.junk],.row 34 26 l.length (rowF eMS l)] (.tup []) [.ghost [.own 1,.junk,.junk],.row 34 26 l.length (rowF eMS (srt cfS l))] :=
 @MCalls.sortFuncF drF Tryz.prog Tryz.laySortSp_ren G MS _ (fun h=>h) Tryz.laySortSp 26 (by omega) (fun w=>by kernel_rfl) (fun w=>by kernel_rfl) eMS (fun x=>rs_flat x.1) (fun _=>rfl) cfS swo_ms 29 [] rfl
  (fun x y=>@compare_r drF G x.1 y.1 x.2 y.2) ⟨_,_,Tryz.func54,rfl,rfl⟩ 34 l hl h0
theorem sortMS_c (hns:(default:DRT).ns) (l:List MS) (hl:l.length≤1000000) (h0:0 < l.length) :
  MCalls Tryz.prog G 54 [.own 1,.fn 29 []] [.ghost [.own 1,.junk,.junk],.row 34 26 l.length (rowF eMS l)] (.tup []) [.ghost [.own 1,.junk,.junk],.row 34 26 l.length (rowF eMS (srt cfS l))] :=
 mcalls_lift hns (sortMS_f l hl h0)
end Go.Proofs.YtmeohhbdkoeadaaGreat
namespace Go.Proofs.YtmeohhbdkoeadaaGreat
open Go.Proofs.YtmeohhbdkoeadaaGreat.Am
variable [Inhabited DRT]
variable {G:GInv}
theorem lenz64_0:ACalls Tryz.prog G 119 [.int .u64 0] (.int .i64 0):=by
 refine ACalls.of_WA ttok Tryz.func119 rfl rfl _ rfl ?_
 conv=>whnf
 repeat' (first|refine sq ?_|refine bk ?_|((first|refine rg ttok ?_|refine dw ttok mixed ?_|refine cd ?_|refine sk ?_|refine xt ?_|refine rt ?_);conv=>whnf)|(refine And.intro (fun h=>?_) (fun h=>?_) <;> (try simp only [brsA] at h) <;> conv=>whnf)|((first|refine wf ?_|refine wp' ?_|refine ai ?_|refine And.intro rfl ?_|refine an ?_|fail);conv=>whnf))
 all_goals first|(exfalso;omega)|skip
 all_goals first|decide|rfl
theorem lenz_0:ACalls Tryz.prog G 87 [.int .u64 0] (.int .i64 0):=by
 refine ACalls.of_WA ttok Tryz.func87 rfl rfl _ rfl ?_
 conv=>whnf
 repeat' (first|refine sq ?_|refine bk ?_|((first|refine rg ttok ?_|refine dw ttok mixed ?_|refine cd ?_|refine sk ?_|refine xt ?_|refine rt ?_);conv=>whnf)|(refine And.intro (fun h=>?_) (fun h=>?_) <;> (try simp only [brsA] at h) <;> conv=>whnf)|(refine Or.inl ?_;(conv=>whnf);refine ⟨_,lenz64_0,?_⟩;conv=>whnf)|((first|refine wf ?_|refine wp' ?_|refine ai ?_|refine And.intro rfl ?_|refine an ?_|fail);conv=>whnf))
 all_goals first|(exfalso;omega)|skip
theorem insSp_0 (row:Nat→List A):ACalls Tryz.prog G 120 [.sl 0 26 row,.int .i64 0,.int .i64 0,.fn 29 []] (.tup []):=by
 refine ACalls.of_WA ttok Tryz.func120 rfl rfl _ rfl ?_
 conv=>whnf
 repeat' (first|refine sq ?_|refine bk ?_|((first|refine rg ttok ?_|refine dw ttok mixed ?_|refine cd ?_|refine sk ?_|refine xt ?_|refine rt ?_);conv=>whnf)|(refine And.intro (fun h=>?_) (fun h=>?_) <;> (try simp only [brsA] at h) <;> conv=>whnf)|((first|refine wf ?_|refine wp' ?_|refine ai ?_|refine And.intro rfl ?_|refine an ?_|fail);conv=>whnf))
 refine WA_loopI (fun _:Nat=>True) (fun _=>[(8,.int .i64 1)]) (fun _=>[]) (fun _=>0) 0 trivial ?_ ?_
 ·conv=>whnf
  repeat (first|exact fa|((first|refine fb ?_|(refine And.intro ?_ ?_;rotate_left));conv=>whnf))
 ·intro i _
  conv=>whnf
  repeat' (first|refine sq ?_|refine bk ?_|((first|refine rg ttok ?_|refine dw ttok mixed ?_|refine cd ?_|refine sk ?_|refine xt ?_|refine rt ?_);conv=>whnf)|(refine And.intro (fun h=>?_) (fun h=>?_) <;> (try simp only [brsA] at h) <;> conv=>whnf)|((first|refine wf ?_|refine wp' ?_|refine ai ?_|refine And.intro rfl ?_|refine an ?_|fail);conv=>whnf))
  all_goals first|trivial|(exfalso;omega)
theorem pdqSp_0 (row:Nat→List A):ACalls Tryz.prog G 86 [.sl 0 26 row,.int .i64 0,.int .i64 0,.int .i64 0,.fn 29 []] (.tup []):=by
 refine ACalls.of_WA ttok Tryz.func86 rfl rfl _ rfl ?_
 conv=>whnf
 repeat (first|refine sq ?_|refine bk ?_|((first|refine rg ttok ?_|refine dw ttok mixed ?_|refine cd ?_|refine sk ?_|refine xt ?_|refine rt ?_);conv=>whnf))
 refine WA_loopI (fun _:Nat=>True) (fun _=>[(1,.int .i64 0),(2,.int .i64 0),(3,.int .i64 0)]) (fun _=>[]) (fun _=>0) 0 trivial ?_ ?_
 ·conv=>whnf
  repeat (first|exact fa|((first|refine fb ?_|(refine And.intro ?_ ?_;rotate_left));conv=>whnf))
 ·intro i _
  have hi:=insSp_0 (G:=G) row
  conv=>whnf
  repeat' (first|refine sq ?_|refine bk ?_|((first|refine rg ttok ?_|refine dw ttok mixed ?_|refine cd ?_|refine sk ?_|refine xt ?_|refine rt ?_);conv=>whnf)|(refine And.intro (fun h=>?_) (fun h=>?_) <;> (try simp only [brsA] at h) <;> conv=>whnf)|(refine Or.inl ?_;(conv=>whnf);refine ⟨_,hi,?_⟩;conv=>whnf)|((first|refine wf ?_|refine wp' ?_|refine ai ?_|refine And.intro rfl ?_|refine an ?_|fail);conv=>whnf))
  all_goals first|trivial|(exact absurd trivial h)|(exact absurd h (by decide))
theorem sortSp_0 (row:Nat→List A):ACalls Tryz.prog G 54 [.sl 0 26 row,.fn 29 []] (.tup []):=by
 refine ACalls.of_WA ttok Tryz.func54 rfl rfl _ rfl ?_
 have hi:=pdqSp_0 (G:=G) row
 conv=>whnf
 repeat' (first|refine sq ?_|refine bk ?_|((first|refine rg ttok ?_|refine dw ttok mixed ?_|refine cd ?_|refine sk ?_|refine xt ?_|refine rt ?_);conv=>whnf)|(refine And.intro (fun h=>?_) (fun h=>?_) <;> (try simp only [brsA] at h) <;> conv=>whnf)|(refine Or.inl ?_;(conv=>whnf);(first|refine ⟨_,lenz_0,?_⟩|refine ⟨_,hi,?_⟩);conv=>whnf)|((first|refine wf ?_|refine wp' ?_|refine ai ?_|refine And.intro rfl ?_|refine an ?_|fail);conv=>whnf))
 all_goals trivial
theorem compact_0 (row:Nat→List A):ACalls Tryz.prog G 30 [.sl 0 26 row] (.sl 0 26 row):=by
 refine ACalls.of_WA ttok Tryz.func30 rfl rfl _ rfl ?_
 conv=>whnf
 repeat' (first|refine sq ?_|refine bk ?_|((first|refine rg ttok ?_|refine dw ttok mixed ?_|refine cd ?_|refine sk ?_|refine xt ?_|refine rt ?_);conv=>whnf)|(refine And.intro (fun h=>?_) (fun h=>?_) <;> (try simp only [brsA] at h) <;> conv=>whnf)|((first|refine wf ?_|refine wp' ?_|refine ai ?_|refine And.intro rfl ?_|refine an ?_|fail);conv=>whnf))
 all_goals first|trivial|(exfalso;omega)|exact .inl fun _ _=>rfl
end Go.Proofs.YtmeohhbdkoeadaaGreat
namespace Go.Proofs.YtmeohhbdkoeadaaGreat
open Go.Proofs.YtmeohhbdkoeadaaGreat.Am Go.Sort Go.Proofs Go.Lib
variable [Inhabited DRT]
variable {G:GInv}
theorem sortedF_0 (hns:(default:DRT).ns) (row:Nat→List A) :
  ACalls Tryz.prog G 27 [.fn 55 [.bref [.sl 0 26 row] 0],.fn 29 []] (.sl 0 26 row):=by
 have h1:=collect_m (G:=G) hns 0 row (fun i h=>absurd h (Nat.not_lt_zero i)) (by omega)
 have h2:=sortSp_0 (G:=G) row
 refine ACalls.of_WA ttok Tryz.func27 rfl rfl _ rfl ?_
 conv=>whnf
 repeat' (first|refine sq ?_|refine bk ?_|((first|refine rg ttok ?_|refine dw ttok mixed ?_|refine cd ?_|refine sk ?_|refine xt ?_|refine rt ?_);conv=>whnf)|(refine And.intro (fun h=>?_) (fun h=>?_) <;> (try simp only [brsA] at h) <;> conv=>whnf)|(refine Or.inr (Or.inr (Or.inl ?_));(conv=>whnf);refine ⟨_,h2,?_⟩;conv=>whnf)|((first|refine Or.inr (Or.inr (Or.inr ?_))|refine Or.inr ?_);(conv=>whnf);refine ⟨_,_,h1,?_⟩;conv=>whnf)|((first|refine wf ?_|refine wp' ?_|refine ai ?_|refine And.intro rfl ?_|refine an ?_|fail);conv=>whnf))
 exact .inl fun _ _=>rfl
theorem sortedF_r (hns:(default:DRT).ns) (l:List MS) (row:Nat→List A) (hr:∀ i,i < l.length→row i=rowF eMS l i) (hl:l.length≤1000000) (h0:0 < l.length) :
  MCalls Tryz.prog G 27 [.fn 55 [.bref [.sl l.length 26 row] 0],.fn 29 []] [] (.own 0) [.row 34 26 l.length (rowF eMS (srt cfS l))]:=by
 have h1:=collect_m (G:=G) hns l.length row (fun i h=>by rw [hr i h]; rfl) hl
 have h2:=sortMS_c (G:=G) hns l hl h0
 generalize rowF eMS (srt cfS l)=r2 at *
 generalize rowF eMS l=r1 at *
 have h3:MCalls Tryz.prog G 54 [.own 1,.fn 29 []] [.ghost [.own 1,.junk,.junk],.row 34 26 l.length row] (.tup []) [.ghost [.own 1,.junk,.junk],.row 34 26 l.length r2]:=by
  refine MCalls.fit h2 rfl ?_
  show andL _
  conv=>whnf
  repeat (first|exact fa|((first|refine fb ?_|(refine And.intro ?_ ?_;rotate_left));conv=>whnf))
  all_goals first|exact Or.inl hr
 refine MCalls.of_WA ttok Tryz.func27 rfl rfl _ rfl ?_
 conv=>whnf
 repeat' (first|refine sq ?_|refine bk ?_|((first|refine rg ttok ?_|refine dw ttok mixed ?_|refine cd ?_|refine sk ?_|refine xt ?_|refine rt ?_);conv=>whnf)|(refine And.intro (fun h=>?_) (fun h=>?_) <;> (try simp only [brsA] at h) <;> conv=>whnf)|(refine Or.inr (Or.inl ?_);(conv=>whnf);refine ⟨_,_,h3,?_⟩;conv=>whnf)|((first|refine Or.inr (Or.inr (Or.inr ?_))|refine Or.inr ?_);(conv=>whnf);refine ⟨_,_,h1,?_⟩;conv=>whnf)|((first|refine wf ?_|refine wp' ?_|refine ai ?_|refine And.intro rfl ?_|refine an ?_|fail);conv=>whnf))
 exact .inl fun _ _=>rfl
/-- The spots that may be, as a list of such. -/
def mkMS (l:List RS) (h:∀ r ∈ l,MayR r):List MS:=l.pmap Subtype.mk h
theorem mkMS_len (l:List RS) (h:∀ r ∈ l,MayR r):(mkMS l h).length=l.length:=by simp [mkMS]
theorem mkMS_row (l:List RS) (h:∀ r ∈ l,MayR r) (i:Nat) (hi:i < l.length):rowF eMS (mkMS l h) i=rsL (l.getD i default):=by
 unfold rowF eMS mkMS
 simp [List.getD_eq_getElem?_getD,hi]
def sortM (l:List RS) (h:∀ r ∈ l,MayR r):List MS:=cmpL (srt cfS (mkMS l h))
theorem sort_bad (l:List RS) (hk:∀ r ∈ l,Rk r) (hl:l.length≤1000000) (hb:l.any badS=true) :
  ACalls Tryz.prog G 6 [slS l] (.tup [.nils,.int .i64 1]):=by
 have h1:=conS_c (G:=G) l hk hl
 rw [hb] at h1
 refine ACalls.of_WA ttok Tryz.func6 rfl rfl _ rfl ?_
 conv=>whnf
 repeat' (first|refine sq ?_|refine bk ?_|((first|refine rg ttok ?_|refine dw ttok mixed ?_|refine cd ?_|refine sk ?_|refine xt ?_|refine rt ?_);conv=>whnf)|(refine And.intro (fun h=>?_) (fun h=>?_) <;> (try simp only [brsA] at h) <;> conv=>whnf)|(refine Or.inl ?_;(conv=>whnf);refine ⟨_,h1,?_⟩;conv=>whnf)|((first|refine wf ?_|refine wp' ?_|refine ai ?_|refine And.intro rfl ?_|refine an ?_|fail);conv=>whnf))
 all_goals first|contradiction|skip
theorem sort_ok (hns:(default:DRT).ns) (l:List RS) (hl:l.length≤1000000) (h:∀ r ∈ l,MayR r) (h0:0 < l.length) :
  ACalls Tryz.prog G 6 [slS l] (.tup [.sl (sortM l h).length 26 (rowF eRK ((sortM l h).map toRK)),.int .i64 0]):=by
 have hk:∀ r ∈ l,Rk r:=fun r q=>(h r q).1.rk
 have hb:l.any badS=false:=by
  rw [List.any_eq_false]
  intro r q
  unfold badS
  rw [decide_eq_true (h r q)]
  exact Bool.noConfusion
 have h1:=conS_c (G:=G) l hk hl
 rw [hb] at h1
 have hlen:=mkMS_len l h
 have hrow:=mkMS_row l h
 have hsl:=srt_len cfS swo_ms (mkMS l h)
 have h2:=values_c (G:=G) l.length (fun i=>rsL (l.getD i default))
 have h3:=sortedF_r (G:=G) hns (mkMS l h) (fun i=>rsL (l.getD i default)) (fun i q=>(hrow i (by omega)).symm) (by omega) (by omega)
 have h4:=compactMS_c (G:=G) (srt cfS (mkMS l h)) (by omega) (by omega)
 rw [hlen] at h3
 rw [hsl,hlen] at h4
 unfold sortM
 unfold slS at *
 generalize rowF eRK ((cmpL (srt cfS (mkMS l h))).map toRK)=r3 at *
 generalize (cmpL (srt cfS (mkMS l h))).length=n3 at *
 generalize rowF eMS (srt cfS (mkMS l h))=r2 at *
 clear hrow
 refine ACalls.of_WA ttok Tryz.func6 rfl rfl _ rfl ?_
 conv=>whnf
 repeat' (first|refine sq ?_|refine bk ?_|((first|refine rg ttok ?_|refine dw ttok mixed ?_|refine cd ?_|refine sk ?_|refine xt ?_|refine rt ?_);conv=>whnf)|(refine And.intro (fun h=>?_) (fun h=>?_) <;> (try simp only [brsA] at h) <;> conv=>whnf)|(refine Or.inl ?_;(conv=>whnf);(first|refine ⟨_,h1,?_⟩|refine ⟨_,h2,?_⟩);conv=>whnf)|(refine Or.inr (Or.inl ?_);(conv=>whnf);refine ⟨_,_,h4,?_⟩;conv=>whnf)|((first|refine Or.inr (Or.inr (Or.inr ?_))|refine Or.inr ?_);(conv=>whnf);refine ⟨_,_,h3,?_⟩;conv=>whnf)|((first|refine wf ?_|refine wp' ?_|refine ai ?_|refine And.intro rfl ?_|refine an ?_|fail);conv=>whnf))
 all_goals first|contradiction|skip
 all_goals first|exact ⟨.inl fun _ _=>rfl,rfl⟩|exact ⟨.inl fun _ _=>rfl,rfl,trivial⟩
theorem sort_nil (hns:(default:DRT).ns) :
  ACalls Tryz.prog G 6 [slS []] (.tup [slS [],.int .i64 0]):=by
 have h1:=conS_c (G:=G) [] (fun r q=>absurd q (by simp)) (by simp)
 have h2:=values_c (G:=G) 0 (fun i=>rsL (([]:List RS).getD i default))
 have h3:=sortedF_0 (G:=G) hns (fun i=>rsL (([]:List RS).getD i default))
 have h4:=compact_0 (G:=G) (fun i=>rsL (([]:List RS).getD i default))
 unfold slS at *
 refine ACalls.of_WA ttok Tryz.func6 rfl rfl _ rfl ?_
 conv=>whnf
 repeat' (first|refine sq ?_|refine bk ?_|((first|refine rg ttok ?_|refine dw ttok mixed ?_|refine cd ?_|refine sk ?_|refine xt ?_|refine rt ?_);conv=>whnf)|(refine And.intro (fun h=>?_) (fun h=>?_) <;> (try simp only [brsA] at h) <;> conv=>whnf)|(refine Or.inl ?_;(conv=>whnf);(first|refine ⟨_,h1,?_⟩|refine ⟨_,h2,?_⟩|refine ⟨_,h3,?_⟩|refine ⟨_,h4,?_⟩);conv=>whnf)|((first|refine wf ?_|refine wp' ?_|refine ai ?_|refine And.intro rfl ?_|refine an ?_|fail);conv=>whnf))
 all_goals first|contradiction|skip
 all_goals first|exact ⟨.inl fun _ _=>rfl,rfl⟩|exact ⟨.inl fun _ _=>rfl,rfl,trivial⟩
theorem rsame_c (l l':List RS) (h1:∀ r ∈ l,Rk r) (h2:∀ r ∈ l',Rk r) (hl:l.length≤1000000) (hl':l'.length≤1000000) :
  ACalls Tryz.prog G 12 [slS l,slS l'] (.sb (decide (l=l'))):=by
 by_cases hn:l.length=l'.length
 ·refine ACalls.of_WA ttok Tryz.func12 rfl rfl _ rfl ?_
  conv=>whnf
  repeat' (first|(exact absurd (by assumption) (by omega))|refine sq ?_|refine bk ?_|((first|refine rg ttok ?_|refine dw ttok mixed ?_|refine cd ?_|refine sk ?_|refine xt ?_|refine rt ?_);conv=>whnf)|(refine And.intro (fun h=>?_) (fun h=>?_) <;> (try simp only [brsA] at h) <;> conv=>whnf)|((first|refine wf ?_|refine wp' ?_|refine ai ?_|refine And.intro rfl ?_|refine an ?_|fail);conv=>whnf))
  refine WA_loopI (fun i:Nat=>i≤l.length ∧ ∀ j,j < i→l.getD j default=l'.getD j default) (fun i=>[(5,.int .i64 (i:Int))]) (fun _=>[]) (fun i=>l.length - i) 0 ⟨Nat.zero_le _,fun j h=>by omega⟩ ?_ ?_
  ·conv=>whnf
   repeat (first|exact fa|((first|refine fb ?_|(refine And.intro ?_ ?_;rotate_left));conv=>whnf))
  ·rintro i ⟨hi,hI⟩
   have hi:i≤l.length:=hi
   have key:=rs_eqb (rk_get h1 i) (rk_get h2 i)
   unfold rsL spotL at *
   conv=>whnf
   repeat' (first|refine sq ?_|refine bk ?_|((first|refine rg ttok ?_|refine dw ttok mixed ?_|refine cd ?_|refine sk ?_|refine xt ?_|refine rt ?_);conv=>whnf)|(refine And.intro (fun h=>?_) (fun h=>?_) <;> (try simp only [brsA] at h) <;> conv=>whnf)|((first|refine wf ?_|refine wp' ?_|refine ai ?_|refine And.intro rfl ?_|refine an ?_|fail);conv=>whnf))
   ·have hk:decide (l.getD i default=l'.getD i default)=false:=key.symm.trans h
    exact (decide_eq_false fun q=>of_decide_eq_false hk (by rw [q])).symm
   ·have hk:decide (l.getD i default=l'.getD i default)=true:=key.symm.trans h
    refine ⟨i+1,⟨by omega,fun j hj=>by
     by_cases q:j=i
     ·rw [q]; exact of_decide_eq_true hk
     ·exact hI j (by omega)⟩,(by show l.length - (i+1) < l.length - i; omega),?_⟩
    conv=>whnf
    repeat (first|exact fa|((first|refine fb ?_|(refine And.intro ?_ ?_;rotate_left));conv=>whnf))
   ·refine (decide_eq_true (List.ext_getElem hn fun j a b=>?_)).symm
    have:=hI j (by omega)
    simpa [List.getD_eq_getElem?_getD,a,b] using this
 ·have e:decide (l=l')=false:=decide_eq_false fun q=>hn (by rw [q])
  rw [e]
  refine ACalls.of_WA ttok Tryz.func12 rfl rfl _ rfl ?_
  conv=>whnf
  repeat' (first|(exact absurd (by assumption) (by omega))|refine sq ?_|refine bk ?_|((first|refine rg ttok ?_|refine dw ttok mixed ?_|refine cd ?_|refine sk ?_|refine xt ?_|refine rt ?_);conv=>whnf)|(refine And.intro (fun h=>?_) (fun h=>?_) <;> (try simp only [brsA] at h) <;> conv=>whnf)|((first|refine wf ?_|refine wp' ?_|refine ai ?_|refine And.intro rfl ?_|refine an ?_|fail);conv=>whnf))
end Go.Proofs.YtmeohhbdkoeadaaGreat
namespace Go.Proofs.YtmeohhbdkoeadaaGreat.Am
open Go.Lib
section
variable {α : Type} [Inhabited α] [DecidableEq α] {R : α → α → Prop}
/-- What is sorted, each once. -/
theorem compact_strict (L:List α) (ht:∀ x y z,R x y→R y z→R x z) (hs:∀ i j,i < j→j < L.length→¬ R (L.getD j default) (L.getD i default)) (hi:∀ x ∈ L,∀ y ∈ L,¬ R x y→¬ R y x→x=y) :
  ∀ m,m≤L.length→(compactUpTo L.toArray m).Pairwise R ∧ ∀ x,x ∈ compactUpTo L.toArray m ↔ ∃ i,i < m∧L.getD i default=x:=by
 have hget:∀ i:Nat,L.toArray[i]! = L.getD i default:=fun i=>by
  rw [List.getD_eq_getElem?_getD]; simp [Array.getElem!_eq_getD,Array.getD_eq_getD_getElem?]
 have hmem:∀ i,i < L.length→L.getD i default ∈ L:=fun i h=>by
  rw [List.getD_eq_getElem?_getD,List.getElem?_eq_getElem h]; exact List.getElem_mem _
 intro m
 induction m with
 | zero=>intro _; exact ⟨by simp [compactUpTo],fun x=>by simp [compactUpTo]⟩
 | succ m ih =>
  intro hm
  obtain ⟨h1,h2⟩:=ih (by omega)
  rw [compactUpTo_succ]
  by_cases hk:keeps L.toArray m
  ·rw [if_pos hk,hget]
   refine ⟨List.pairwise_append.2 ⟨h1,by simp,fun x hx y hy=>?_⟩,fun x=>?_⟩
   ·obtain ⟨i,him,rfl⟩:=(h2 x).1 hx
    rw [List.mem_singleton.1 hy]
    refine Classical.byContradiction fun hn=>?_
    have e:=hi _ (hmem i (by omega)) _ (hmem m (by omega)) hn (hs i m him (by omega))
    have hm0:m ≠ 0:=by omega
    have hk':L.getD m default ≠ L.getD (m - 1) default:=by
     unfold keeps at hk
     rw [hget,hget] at hk
     simpa [hm0] using hk
    refine hk' ?_
    refine hi _ (hmem m (by omega)) _ (hmem (m - 1) (by omega)) (hs (m - 1) m (by omega) (by omega)) ?_
    intro hr
    rcases Nat.lt_or_ge i (m - 1) with h | h
    ·rw [← e] at hr; exact hs i (m - 1) h (by omega) hr
    ·have:i=m - 1:=by omega
     subst this; exact hn hr
   ·rw [List.mem_append,h2,List.mem_singleton]
    constructor
    ·rintro (⟨i,h,e⟩ | h)
     ·exact ⟨i,by omega,e⟩
     ·exact ⟨m,by omega,h.symm⟩
    ·rintro ⟨i,h,e⟩
     rcases Nat.lt_or_ge i m with h' | h'
     ·exact .inl ⟨i,h',e⟩
     ·have:i=m:=by omega
      subst this; exact .inr e.symm
  ·rw [if_neg hk,List.append_nil]
   have hk':m ≠ 0∧L.getD m default=L.getD (m - 1) default:=by
    unfold keeps at hk
    rw [hget,hget] at hk
    simpa using hk
   refine ⟨h1,fun x=>?_⟩
   rw [h2]
   constructor
   ·rintro ⟨i,h,e⟩; exact ⟨i,by omega,e⟩
   ·rintro ⟨i,h,e⟩
    rcases Nat.lt_or_ge i m with h' | h'
    ·exact ⟨i,h',e⟩
    ·have:i=m:=by omega
     subst this; exact ⟨i - 1,by omega,by rw [← hk'.2]; exact e⟩
theorem strict_eq (hr:∀ x,¬ R x x) (ha:∀ x y,R x y→R y x→False):∀ (l m:List α),l.Pairwise R→m.Pairwise R→(∀ x,x ∈ l↔x ∈ m)→l=m
 | [],[],_,_,_=>rfl
 | [],b :: m,_,_,h=>by have:=(h b).2 (List.mem_cons_self ..); cases this
 | a :: l,[],_,_,h=>by have:=(h a).1 (List.mem_cons_self ..); cases this
 | a :: l,b :: m,h1,h2,h=>by
  have g1:=List.pairwise_cons.1 h1
  have g2:=List.pairwise_cons.1 h2
  have irr:∀ p q,R p q→p ≠ q:=fun p q h e=>by subst e; exact hr _ h
  have e:a=b:=by
   rcases List.mem_cons.1 ((h a).1 (List.mem_cons_self ..)) with e | ha'
   ·exact e
   ·rcases List.mem_cons.1 ((h b).2 (List.mem_cons_self ..)) with e | hb
    ·exact e.symm
    ·exact (ha _ _ (g2.1 a ha') (g1.1 b hb)).elim
  subst e
  rw [strict_eq hr ha l m g1.2 g2.2 fun x=>?_]
  constructor
  ·intro hx
   rcases List.mem_cons.1 ((h x).1 (List.mem_cons_of_mem _ hx)) with e | h'
   ·exact absurd e.symm (irr _ _ (g1.1 x hx))
   ·exact h'
  ·intro hx
   rcases List.mem_cons.1 ((h x).2 (List.mem_cons_of_mem _ hx)) with e | h'
   ·exact absurd e.symm (irr _ _ (g2.1 x hx))
   ·exact h'
variable [DecidableRel R]
/-- How far what is put in goes, of the first k. -/
def atK (R : α → α → Prop) [DecidableRel R] (l:List α) (c : α):Nat→Nat
 | 0=>0
 | k+1=>if R (l.getD k default) c then k+1 else atK R l c k
theorem atK_le (l:List α) (c : α):∀ k,atK R l c k≤k
 | 0=>Nat.le_refl _
 | k+1=>by
  have:=atK_le l c k
  unfold atK
  split <;> omega
theorem atK_ge (l:List α) (c : α):∀ k i,atK R l c k≤i→i < k→¬ R (l.getD i default) c
 | 0,i,_,h=>by omega
 | k+1,i,h,hi=>by
  unfold atK at h
  split at h
  ·omega
  ·rcases Nat.lt_or_ge i k with h' | h'
   ·exact atK_ge l c k i h h'
   ·have:i=k:=by omega
    subst this; assumption
theorem atK_at (l:List α) (c : α):∀ k,0 < atK R l c k→R (l.getD (atK R l c k - 1) default) c
 | 0,h=>by simp [atK] at h
 | k+1,h=>by
  unfold atK at h ⊢
  split
  ·simpa using by assumption
  ·rename_i hn
   rw [if_neg hn] at h
   exact atK_at l c k h
def putL (R : α → α → Prop) [DecidableRel R] (l:List α) (c : α):List α:=if c ∈ l then l else l.take (atK R l c l.length) ++ c :: l.drop (atK R l c l.length)
theorem put_strict (ht:∀ x y z,R x y→R y z→R x z) (l:List α) (c : α) (hl:l.Pairwise R) (hi:∀ x ∈ l,¬ R x c→¬ R c x→x=c) :
  (putL R l c).Pairwise R ∧ ∀ x,x ∈ putL R l c↔x=c∨x ∈ l:=by
 unfold putL
 by_cases hc:c ∈ l
 ·rw [if_pos hc]
  refine ⟨hl,fun x=>⟨.inr,?_⟩⟩
  rintro (rfl | h)
  ·exact hc
  ·exact h
 ·rw [if_neg hc]
  have hle:=atK_le (R:=R) l c l.length
  have hge:=atK_ge (R:=R) l c l.length
  have hat:=atK_at (R:=R) l c l.length
  generalize atK R l c l.length=a at *
  have hp:=List.pairwise_iff_getElem.1 hl
  have gd:∀ i (h:i < l.length),l.getD i default=l[i]:=fun i h=>by rw [List.getD_eq_getElem?_getD,List.getElem?_eq_getElem h]; rfl
  have hlow:∀ x ∈ l.take a,R x c:=fun x hx=>by
   obtain ⟨i,h,rfl⟩:=List.getElem_of_mem hx
   rw [List.length_take] at h
   rw [List.getElem_take]
   have h3:=hat (by omega)
   rw [gd (a - 1) (by omega)] at h3
   rcases Nat.lt_or_ge i (a - 1) with h4 | h4
   ·exact ht _ _ _ (hp i (a - 1) (by omega) (by omega) h4) h3
   ·have:i=a - 1:=by omega
    subst this; exact h3
  have hhigh:∀ x ∈ l.drop a,R c x:=fun x hx=>by
   obtain ⟨i,h,rfl⟩:=List.getElem_of_mem hx
   rw [List.length_drop] at h
   rw [List.getElem_drop]
   have h3:=hge (a+i) (by omega) (by omega)
   rw [gd (a+i) (by omega)] at h3
   refine Classical.byContradiction fun hn=>?_
   have e:=hi _ (List.getElem_mem (by omega:a+i < l.length)) h3 hn
   exact hc (by rw [← e]; exact List.getElem_mem _)
  have hsplit:l.take a ++ l.drop a=l:=List.take_append_drop a l
  have hpa:(l.take a ++ l.drop a).Pairwise R:=by rw [hsplit]; exact hl
  obtain ⟨p1,p2,p3⟩:=List.pairwise_append.1 hpa
  refine ⟨List.pairwise_append.2 ⟨p1,List.pairwise_cons.2 ⟨hhigh,p2⟩,fun x hx y hy=>?_⟩,fun x=>?_⟩
  ·rcases List.mem_cons.1 hy with rfl | hy
   ·exact hlow x hx
   ·exact p3 x hx y hy
  ·rw [List.mem_append,List.mem_cons]
   have hx:x ∈ l↔x ∈ l.take a∨x ∈ l.drop a:=by rw [← List.mem_append,hsplit]
   rw [hx]
   constructor
   ·rintro (h | h | h)
    ·exact .inr (.inl h)
    ·exact .inl h
    ·exact .inr (.inr h)
   ·rintro (h | h | h)
    ·exact .inr (.inl h)
    ·exact .inl h
    ·exact .inr (.inr h)
end
end Go.Proofs.YtmeohhbdkoeadaaGreat.Am
namespace Go.Proofs.YtmeohhbdkoeadaaGreat
open Go.Proofs.YtmeohhbdkoeadaaGreat.Am Go.Sort Go.Proofs Go.Lib
variable [Inhabited DRT]
variable {G:GInv}
def ltM (a b:MS):Prop:=cmpR a.1 b.1 < 0
instance:DecidableRel ltM:=fun a b=>inferInstanceAs (Decidable (cmpR a.1 b.1 < 0))
def hitR (c:MS) (L:List MS):Bool:=L.any fun x=>decide (cmpR x.1 c.1=0)
def putR (L:List MS) (c:MS):List MS:=if hitR c L=true then L else L.take (atK ltM L c L.length) ++ c :: L.drop (atK ltM L c L.length)
theorem putR_len (L:List MS) (c:MS):(putR L c).length≤L.length+1:=by
 unfold putR
 split
 ·omega
 ·have:=atK_le (R:=ltM) L c L.length
  simp; omega
theorem at_snoc (c:MS) (L:List MS) (k:Nat):atK ltM L c (k+1)=if cmpR (L.getD k default).1 c.1 < 0 then k+1 else atK ltM L c k:=rfl
theorem hit_snoc (c:MS) (L:List MS) (k:Nat) (h:k < L.length):hitR c (L.take (k+1))=(hitR c (L.take k) || decide (cmpR (L.getD k default).1 c.1=0)):=by
 unfold hitR
 rw [List.take_add_one,List.any_append,List.getElem?_eq_getElem h,List.getD_eq_getElem?_getD,List.getElem?_eq_getElem h]
 simp
def putAll (l:List MS):List MS:=l.foldl putR []
theorem putAll_snoc (l:List MS) (i:Nat) (h:i < l.length):putAll (l.take (i+1))=putR (putAll (l.take i)) (l.getD i default):=by
 unfold putAll
 rw [List.take_add_one,List.foldl_append,List.getElem?_eq_getElem h,List.getD_eq_getElem?_getD,List.getElem?_eq_getElem h]
 rfl
theorem putAll_len (l:List MS):∀ k,k≤l.length→(putAll (l.take k)).length≤k
 | 0,_=>by simp [putAll]
 | k+1,h=>by
  rw [putAll_snoc l k (by omega)]
  exact Nat.le_trans (putR_len _ _) (by have:=putAll_len l k (by omega); omega)
theorem rowCat_if (n:Nat) (r1 r2:Nat→List A) (i:Nat):rowCat n r1 r2 i=if i < n then r1 i else r2 (i - n):=by
 unfold rowCat
 by_cases h:i < n
 ·have e:Nat.blt i n=true:=Nat.ble_eq_true_of_le h
  rw [if_pos h,e]
 ·have e:Nat.blt i n=false:=by
   cases q:Nat.blt i n with
   | false=>rfl
   | true=>exact absurd (Nat.le_of_ble_eq_true q) h
  rw [if_neg h,e]
theorem put_row (L:List MS) (c:MS) (a:Nat) (ha:a≤L.length) (Z:Nat→List A) (j:Nat) (hj:j < L.length+1) :
  rowCat (a+1) (rowCat a (rowF eMS L) fun k=>takeL 26 (List.drop (k*26) (rsL c.1))) (rowCat 0 Z fun k=>rowF eMS L (a+k)) j=rowF eMS (L.take a ++ c :: L.drop a) j:=by
 have hlt:(L.take a).length=a:=by simp; omega
 rw [rowCat_if,rowCat_if,rowCat_if]
 unfold rowF
 by_cases h1:j < a+1
 ·rw [if_pos h1]
  by_cases h2:j < a
  ·rw [if_pos h2]
   congr 1
   rw [List.getD_eq_getElem?_getD,List.getD_eq_getElem?_getD,List.getElem?_append_left (by omega),List.getElem?_take,if_pos h2]
  ·rw [if_neg h2]
   have e:j=a:=by omega
   subst e
   rw [List.getD_eq_getElem?_getD,List.getElem?_append_right (by omega),hlt,Nat.sub_self]
   rfl
 ·rw [if_neg h1,if_neg (Nat.not_lt_zero _)]
  congr 1
  rw [List.getD_eq_getElem?_getD,List.getD_eq_getElem?_getD,List.getElem?_append_right (by omega),hlt]
  obtain ⟨q,rfl⟩ : ∃ q,j=a+1+q:=⟨j - (a+1),by omega⟩
  rw [show a+1+q - a=q+1 by omega,List.getElem?_cons_succ,List.getElem?_drop]
  congr 2
  omega
theorem row_valsI (L:List MS) (i:Nat) (h:i < L.length):rowF eMS L i=rsL ((L.map (·.1)).getD i default):=by
 unfold rowF eMS
 congr 1
 rw [List.getD_eq_getElem?_getD,List.getD_eq_getElem?_getD,List.getElem?_map,List.getElem?_eq_getElem h]
 rfl
theorem rsort_c (l:List MS) (hl:l.length≤1000) :
  ACalls Tryz.prog G 13 [.sl l.length 26 (rowF eMS l)] (.sl (putAll l).length 26 fun i=>rsL (((putAll l).map (·.1)).getD i default)):=by
 refine ACalls.of_WA ttok Tryz.func13 rfl rfl _ rfl ?_
 conv=>whnf
 repeat' (first|refine sq ?_|refine bk ?_|((first|refine rg ttok ?_|refine dw ttok mixed ?_|refine cd ?_|refine sk ?_|refine xt ?_|refine rt ?_);conv=>whnf)|(refine And.intro (fun h=>?_) (fun h=>?_) <;> (try simp only [brsA] at h) <;> conv=>whnf)|((first|refine wf ?_|refine wp' ?_|refine ai ?_|refine And.intro rfl ?_|refine an ?_|fail);conv=>whnf))
 refine WA_loopI (fun x:Nat × List MS=>x.1≤l.length∧x.2=putAll (l.take x.1)∧x.2.length≤x.1) (fun x=>match x with | (i,_)=>[(3,.own 0),(4,.int .i64 (i:Int)),(10,.junk)]) (fun x=>match x with | (_,L)=>[.row 34 26 L.length (rowF eMS L)]) (fun x=>l.length - x.1) (0,[]) ⟨Nat.zero_le _,rfl,Nat.zero_le _⟩ ?_ ?_
 ·conv=>whnf
  repeat (first|exact fa|((first|refine fb ?_|(refine And.intro ?_ ?_;rotate_left));conv=>whnf))
 ·rintro ⟨i,L⟩ ⟨hi,hL,hn⟩
  have hi:i≤l.length:=hi
  have hL:L=putAll (l.take i):=hL
  have hn:L.length≤i:=hn
  conv=>whnf
  repeat (first|refine sq ?_|refine bk ?_|((first|refine rg ttok ?_|refine dw ttok mixed ?_|refine cd ?_|refine sk ?_|refine xt ?_|refine rt ?_);conv=>whnf))
  refine ⟨fun h=>?_,fun h=>?_⟩
  ·have h:=of_decide_eq_true h
   have hc:i < l.length:=by omega
   conv=>whnf
   repeat (first|refine sq ?_|refine bk ?_|((first|refine rg ttok ?_|refine dw ttok mixed ?_|refine cd ?_|refine sk ?_|refine xt ?_|refine rt ?_);conv=>whnf))
   refine WA_loopI (fun x:Nat × Nat × Bool=>x.1≤L.length∧x.2.1=atK ltM L (l.getD i default) x.1∧x.2.2=hitR (l.getD i default) (L.take x.1)) (fun x=>match x with | (k,a,b)=>[(5,.int .i64 (a:Int)),(6,.sb b),(7,.int .i64 (k:Int)),(8,.junk)]) (fun _=>[.row 34 26 L.length (rowF eMS L)]) (fun x=>L.length - x.1) (0,0,false) ⟨Nat.zero_le _,rfl,rfl⟩ ?_ ?_
   ·conv=>whnf
    repeat (first|exact fa|((first|refine fb ?_|(refine And.intro ?_ ?_;rotate_left));conv=>whnf))
   ·rintro ⟨k,a,b⟩ ⟨hk,ha,hb⟩
    have hk:k≤L.length:=hk
    have ha:a=atK ltM L (l.getD i default) k:=ha
    have hb:b=hitR (l.getD i default) (L.take k):=hb
    have hcm:=rCmp_r (G:=G) (L.getD k default).2 (l.getD i default).2
    have hna:=at_snoc (l.getD i default) L k
    have hnb:=hit_snoc (l.getD i default) L k
    have hle:a≤k:=by rw [ha]; exact atK_le _ _ _
    rw [spR_L,spR_L] at hcm
    conv=>whnf
    repeat (first|refine sq ?_|refine bk ?_|((first|refine rg ttok ?_|refine dw ttok mixed ?_|refine cd ?_|refine sk ?_|refine xt ?_|refine rt ?_);conv=>whnf))
    refine ⟨fun h=>?_,fun h=>?_⟩
    ·have h:=of_decide_eq_true h
     have hkc:k < L.length:=by omega
     conv=>whnf
     repeat' (first|refine sq ?_|refine bk ?_|((first|refine rg ttok ?_|refine dw ttok mixed ?_|refine cd ?_|refine sk ?_|refine xt ?_|refine rt ?_);conv=>whnf)|(refine And.intro (fun h=>?_) (fun h=>?_) <;> (try simp only [brsA] at h) <;> conv=>whnf)|(refine Or.inl ?_;(conv=>whnf);refine ⟨_,hcm,?_⟩;conv=>whnf)|((first|refine wf ?_|refine wp' ?_|refine ai ?_|refine And.intro rfl ?_|refine an ?_|fail);conv=>whnf))
     all_goals have hnb:=hnb hkc
     all_goals rw [← ha] at hna
     all_goals rw [← hb] at hnb
     all_goals refine ⟨(k+1,atK ltM L (l.getD i default) (k+1),hitR (l.getD i default) (L.take (k+1))),⟨hkc,rfl,rfl⟩,(by show L.length - (k+1) < L.length - k; omega),?_⟩
     all_goals rw [hna,hnb]
     all_goals subst h
     ·rw [if_pos (by assumption)]
      conv=>whnf
      repeat (first|exact fa|((first|refine fb ?_|(refine And.intro ?_ ?_;rotate_left));conv=>whnf))
     ·rw [if_pos (by assumption)]
      conv=>whnf
      repeat (first|exact fa|((first|refine fb ?_|(refine And.intro ?_ ?_;rotate_left));conv=>whnf))
     ·rw [if_neg (by assumption)]
      conv=>whnf
      repeat (first|exact fa|((first|refine fb ?_|(refine And.intro ?_ ?_;rotate_left));conv=>whnf))
     ·rw [if_neg (by assumption)]
      conv=>whnf
      repeat (first|exact fa|((first|refine fb ?_|(refine And.intro ?_ ?_;rotate_left));conv=>whnf))
    ·have h:=of_decide_eq_false h
     have e:k=L.length:=by omega
     subst e
     rw [List.take_length] at hb
     clear hcm hna hnb
     conv=>whnf
     repeat (first|refine sq ?_|refine bk ?_|((first|refine rg ttok ?_|refine dw ttok mixed ?_|refine cd ?_|refine sk ?_|refine xt ?_|refine rt ?_);conv=>whnf))
     refine ⟨fun h=>?_,fun h=>?_⟩
     ·conv=>whnf
      iterate 2 (first|refine sq ?_|refine bk ?_|((first|refine rg ttok ?_|refine dw ttok mixed ?_|refine cd ?_|refine sk ?_|refine xt ?_|refine rt ?_);conv=>whnf))
      refine ⟨⟨by omega,by omega⟩,?_⟩
      conv=>whnf
      repeat (first|refine sq ?_|refine bk ?_|((first|refine rg ttok ?_|refine dw ttok mixed ?_|refine cd ?_|refine sk ?_|refine xt ?_|refine rt ?_);conv=>whnf))
      have hl2:L.length≤1000:=by omega
      refine ⟨⟨by omega,Nat.le_trans (Nat.mul_le_mul (show 0+(L.length - (a:Int).toNat)≤1000 by omega) (Nat.le_refl _)) (by decide)⟩,?_⟩
      conv=>whnf
      repeat' (first|(refine WA_drawR (id:=16) [(2,1)] ttok mixed ?_;conv=>whnf)|(exact Nat.le_trans (Nat.mul_le_mul (show _≤3000 by omega) (Nat.le_refl _)) (by decide))|((refine WA_renR (id:=4) 6 [5] rfl rfl ?_;conv=>whnf))|refine sq ?_|refine bk ?_|((first|refine rg ttok ?_|refine dw ttok mixed ?_|refine cd ?_|refine sk ?_|refine xt ?_|refine rt ?_);conv=>whnf)|(refine And.intro (fun h=>?_) (fun h=>?_) <;> (try simp only [brsA] at h) <;> conv=>whnf)|((first|refine wf ?_|refine wp' ?_|refine ai ?_|refine And.intro rfl ?_|refine an ?_|fail);conv=>whnf))
      have e:putAll (l.take (i+1))=L.take a ++ l.getD i default :: L.drop a:=by
       rw [putAll_snoc l i hc,← hL]
       unfold putR
       rw [← hb,← ha,if_neg (by cases b <;> simp_all)]
      have hlen:(L.take a ++ l.getD i default :: L.drop a).length=L.length+1:=by simp; omega
      refine ⟨(i+1,L.take a ++ l.getD i default :: L.drop a),⟨hc,e.symm,(by show (L.take a ++ l.getD i default :: L.drop a).length≤i+1; omega)⟩,(by show l.length - (i+1) < l.length - i; omega),?_⟩
      conv=>whnf
      repeat (first|exact fa|((first|refine fb ?_|(refine And.intro ?_ ?_;rotate_left));conv=>whnf))
      ·exact .inl fun j hj=>put_row L (l.getD i default) a hle _ j (by omega)
      ·rw [hlen]; omega
     ·conv=>whnf
      repeat' (first|refine sq ?_|refine bk ?_|((first|refine rg ttok ?_|refine dw ttok mixed ?_|refine cd ?_|refine sk ?_|refine xt ?_|refine rt ?_);conv=>whnf)|(refine And.intro (fun h=>?_) (fun h=>?_) <;> (try simp only [brsA] at h) <;> conv=>whnf)|((first|refine wf ?_|refine wp' ?_|refine ai ?_|refine And.intro rfl ?_|refine an ?_|fail);conv=>whnf))
      have e:putAll (l.take (i+1))=L:=by
       rw [putAll_snoc l i hc,← hL]
       unfold putR
       rw [← hb,if_pos (by cases b <;> simp_all)]
      refine ⟨(i+1,L),⟨hc,e.symm,(by show L.length≤i+1; omega)⟩,(by show l.length - (i+1) < l.length - i; omega),?_⟩
      conv=>whnf
      repeat (first|exact fa|((first|refine fb ?_|(refine And.intro ?_ ?_;rotate_left));conv=>whnf))
  ·have h:=of_decide_eq_false h
   have e:i=l.length:=by omega
   subst e
   rw [List.take_length] at hL
   subst hL
   conv=>whnf
   repeat' (first|refine sq ?_|refine bk ?_|((first|refine rg ttok ?_|refine dw ttok mixed ?_|refine cd ?_|refine sk ?_|refine xt ?_|refine rt ?_);conv=>whnf)|(refine And.intro (fun h=>?_) (fun h=>?_) <;> (try simp only [brsA] at h) <;> conv=>whnf)|((first|refine wf ?_|refine wp' ?_|refine ai ?_|refine And.intro rfl ?_|refine an ?_|fail);conv=>whnf))
   exact .inl fun j hj=>row_valsI (putAll l) j hj
end Go.Proofs.YtmeohhbdkoeadaaGreat
namespace Go.Proofs.YtmeohhbdkoeadaaGreat
open Go.Proofs.YtmeohhbdkoeadaaGreat.Am Go.Sort Go.Proofs Go.Lib
variable [Inhabited DRT]
theorem ltM_trans (x y z:MS) (h1:ltM x y) (h2:ltM y z):ltM x z:=cmpR_trans x.2.2.1 y.2.2.1 z.2.2.1 h1 h2
theorem ltM_irr (x:MS):¬ ltM x x:=by unfold ltM; rw [cmpR_refl]; omega
theorem ltM_asy (x y:MS) (h1:ltM x y) (h2:ltM y x):False:=ltM_irr x (ltM_trans x y x h1 h2)
theorem ms_eq0 {x y:MS} (h:cmpR x.1 y.1=0):x=y:=Subtype.ext (cmpR_same x.2 y.2 h)
theorem ms_eq {x y:MS} (h1:¬ ltM x y) (h2:¬ ltM y x):x=y:=by
 unfold ltM at *
 rw [cmpR_lt] at h1 h2
 exact ms_eq0 ((cmpR_z _ _).2 ⟨by omega,by omega⟩)
theorem hit_mem (c:MS) (L:List MS):hitR c L=true↔c ∈ L:=by
 unfold hitR
 rw [List.any_eq_true]
 constructor
 ·rintro ⟨x,h1,h2⟩
  rw [← ms_eq0 (of_decide_eq_true h2)]
  exact h1
 ·intro h
  exact ⟨c,h,decide_eq_true (cmpR_refl _)⟩
theorem putR_eq (L:List MS) (c:MS):putR L c=putL ltM L c:=by
 unfold putR putL
 by_cases h:c ∈ L
 ·rw [if_pos ((hit_mem c L).2 h),if_pos h]
 ·rw [if_neg (fun q=>h ((hit_mem c L).1 q)),if_neg h]
theorem putAll_strict:∀ (M L:List MS),L.Pairwise ltM→(M.foldl putR L).Pairwise ltM∧(∀ x,x ∈ M.foldl putR L↔x ∈ L∨x ∈ M)
 | [],L,h=>⟨h,fun x=>by simp⟩
 | c :: M,L,h=>by
  obtain ⟨p1,p2⟩:=put_strict ltM_trans L c h (fun x _=>ms_eq)
  rw [← putR_eq] at p1 p2
  obtain ⟨q1,q2⟩:=putAll_strict M (putR L c) p1
  refine ⟨q1,fun x=>?_⟩
  rw [List.foldl_cons,q2,p2,List.mem_cons]
  constructor
  ·rintro ((h | h) | h)
   ·exact .inr (.inl h)
   ·exact .inl h
   ·exact .inr (.inr h)
  ·rintro (h | h | h)
   ·exact .inl (.inr h)
   ·exact .inl (.inl h)
   ·exact .inr h
theorem cmpS_strict (L:List MS):(cmpL (srt cfS L)).Pairwise ltM ∧ ∀ x,x ∈ cmpL (srt cfS L)↔x ∈ L:=by
 obtain ⟨hp,hs⟩:=srt_facts cfS swo_ms L
 have hlen:=hp.length_eq
 obtain ⟨c1,c2⟩:=compact_strict (R:=ltM) (srt cfS L) ltM_trans (fun i j hij hj hr=>by
  have:=hs i j hij (by omega)
  rw [(cfS_lt _ _).2 hr] at this
  exact Bool.noConfusion this) (fun x _ y _=>ms_eq) (srt cfS L).length (Nat.le_refl _)
 refine ⟨c1,fun x=>?_⟩
 show x ∈ compactUpTo _ _↔_
 rw [c2,← hp.mem_iff]
 constructor
 ·rintro ⟨i,hi,rfl⟩
  rw [List.getD_eq_getElem?_getD,List.getElem?_eq_getElem hi]; exact List.getElem_mem _
 ·intro hx
  obtain ⟨i,hi,e⟩:=List.getElem_of_mem hx
  exact ⟨i,hi,by rw [List.getD_eq_getElem?_getD,List.getElem?_eq_getElem hi]; exact e⟩
/-- The program's list is the document's. -/
theorem sorts_same (L:List MS):cmpL (srt cfS L)=putAll L:=by
 obtain ⟨a1,a2⟩:=cmpS_strict L
 obtain ⟨b1,b2⟩:=putAll_strict L [] List.Pairwise.nil
 refine strict_eq ltM_irr ltM_asy _ _ a1 b1 fun x=>?_
 rw [a2,show (x ∈ putAll L↔x ∈ L) from by unfold putAll; rw [b2]; simp]
end Go.Proofs.YtmeohhbdkoeadaaGreat
namespace Go.Proofs.YtmeohhbdkoeadaaGreat
open Go.Proofs.YtmeohhbdkoeadaaGreat.Am Go.Sort Go.Proofs Go.Lib
variable [Inhabited DRT]
variable {G:GInv}
def vals (L:List MS):List RS:=L.map (·.1)
theorem row_vals (L:List MS):rowF eRK (L.map toRK)=fun i=>rsL ((vals L).getD i default):=by
 funext i
 unfold rowF eRK vals
 congr 1
 rw [List.getD_eq_getElem?_getD,List.getD_eq_getElem?_getD,List.getElem?_map,List.getElem?_map]
 cases L[i]? <;> rfl
theorem sort_p (hns:(default:DRT).ns) (l:List RS) (hl:l.length≤1000) (h:∀ r ∈ l,MayR r) :
  ACalls Tryz.prog G 6 [slS l] (.tup [slS (vals (putAll (mkMS l h))),.int .i64 0]):=by
 by_cases h0:l=[]
 ·subst h0
  exact sort_nil hns
 ·have k:=sort_ok (G:=G) hns l (by omega) h (List.length_pos_iff.2 h0)
  rw [row_vals] at k
  unfold sortM at k
  rw [sorts_same] at k
  have e:(putAll (mkMS l h)).length=(vals (putAll (mkMS l h))).length:=by simp [vals]
  rw [e] at k
  exact k
theorem rsort_p (l:List RS) (hl:l.length≤1000) (h:∀ r ∈ l,MayR r) :
  ACalls Tryz.prog G 13 [slS l] (slS (vals (putAll (mkMS l h)))):=by
 have k:=rsort_c (G:=G) (mkMS l h) (by rw [mkMS_len]; exact hl)
 have hrow:=mkMS_row l h
 have e:(putAll (mkMS l h)).length=(vals (putAll (mkMS l h))).length:=by simp [vals]
 rw [e,mkMS_len] at k
 refine k.fit ?_
 unfold slS
 generalize rowF eMS (mkMS l h)=r1 at *
 conv=>whnf
 repeat (first|exact fa|((first|refine fb ?_|(refine And.intro ?_ ?_;rotate_left));conv=>whnf))
 all_goals first|exact .inl fun i hi=>(hrow i hi).symm
end Go.Proofs.YtmeohhbdkoeadaaGreat
namespace Go.Proofs.YtmeohhbdkoeadaaGreat
open Go.Proofs.YtmeohhbdkoeadaaGreat.Am
variable [Inhabited DRT]
variable {G:GInv}
def decF:Nat→Nat→List UInt8
 | 0,_=>[]
 | n+1,v=>(if v / 10=0 then [] else decF n (v / 10)) ++ [UInt8.ofNat (48+v % 10)]
theorem decF_more:∀ n m v,v < n→n≤m→decF n v=decF m v
 | 0,m,v,h,_=>by omega
 | n+1,0,v,_,h=>by omega
 | n+1,m+1,v,h,hm=>by
  unfold decF
  split
  ·rfl
  ·rename_i h0
   rw [decF_more n m (v / 10) (by omega) (by omega)]
def decN (v:Nat):List UInt8:=decF (v+1) v
theorem decN_eq (v:Nat):decN v=(if v / 10=0 then [] else decN (v / 10)) ++ [UInt8.ofNat (48+v % 10)]:=by
 unfold decN
 conv=>lhs; unfold decF
 split
 ·rfl
 ·rename_i h
  rw [decF_more (v / 10+1) v (v / 10) (by omega) (by omega)]
theorem decN_len (v n:Nat) (h:v < 10 ^ (n+1)):(decN v).length≤n+1:=by
 induction n generalizing v with
 | zero =>
  rw [decN_eq,if_pos (by omega)]; simp
 | succ n ih =>
  rw [decN_eq]
  split
  ·simp
  ·rw [List.length_append]
   have:=ih (v / 10) (by rw [Nat.pow_succ] at h; omega)
   simp; omega
def chrs (ds:List Nat):List UInt8:=ds.map fun d=>UInt8.ofNat (48+d)
theorem u8s_fun (f:Nat→Int):∀ n,u8s (fun j=>[.int .u8 (f j)]) n=some ((List.range n).map fun j=>UInt8.ofNat (f j).toNat)
 | 0=>rfl
 | n+1=>by
  rw [u8s,u8s_fun f n,List.range_succ,List.map_append]
  rfl
def rr8 (n:Nat) (r:Nat→Int) (k t:Nat):Int:=if t < k∨n < k+t+1 then r (n - 1 - t) else r t
theorem rr8_zero (n:Nat) (r:Nat→Int) (t:Nat) (h:t < n):rr8 n r 0 t=r t:=by unfold rr8; rw [if_neg (by omega)]
theorem rr8_end {n k:Nat} {r:Nat→Int} (h:¬ (k:Int) < (n:Int) - 1 - k) (t:Nat) (ht:t < n):rr8 n r k t=r (n - 1 - t):=by
 unfold rr8
 split
 ·rfl
 ·congr 1; omega
theorem rev8_fit {n k:Nat} {r:Nat→Int} (h:(k:Int) < (n:Int) - 1 - k) (t:Nat) (ht:t < n) :
  updRow (updRow (fun t=>[A.int .u8 (rr8 n r k t)]) (k:Int).toNat [A.int .u8 (rr8 n r k ((n:Int) - 1 - k).toNat)]) ((n:Int) - 1 - k).toNat [A.int .u8 (rr8 n r k (k:Int).toNat)] t=[A.int .u8 (rr8 n r (k+1) t)]:=by
 unfold updRow
 split
 ·rename_i e; subst e
  congr 2
  unfold rr8
  rw [if_neg (by omega),if_pos (by omega)]
  congr 1; omega
 ·rename_i h1
  split
  ·rename_i e; subst e
   congr 2
   unfold rr8
   rw [if_neg (by omega),if_pos (by omega)]
   congr 1; omega
  ·rename_i h2
   show [A.int .u8 (rr8 n r k t)]=[A.int .u8 (rr8 n r (k+1) t)]
   congr 2
   unfold rr8
   by_cases h3:t < k∨n < k+t+1
   ·rw [if_pos h3,if_pos (by omega)]
   ·rw [if_neg h3,if_neg (by omega)]
theorem rev8_c (n:Nat) (r:Nat→Int) (hn:n≤1000000) :
  MCalls Tryz.prog G 71 [.own 1] [.ghost [.own 1,.junk],.row 5 1 n fun k=>[.int .u8 (r k)]] (.tup []) [.ghost [.own 1,.junk],.row 5 1 n fun k=>[.int .u8 (r (n - 1 - k))]]:=by
 refine MCalls.of_WA ttok Tryz.func71 rfl rfl _ rfl ?_
 conv=>whnf
 repeat' (first|refine sq ?_|refine bk ?_|((first|refine rg ttok ?_|refine dw ttok mixed ?_|refine cd ?_|refine sk ?_|refine xt ?_|refine rt ?_);conv=>whnf)|(refine And.intro (fun h=>?_) (fun h=>?_) <;> (try simp only [brsA] at h) <;> conv=>whnf)|((first|refine wf ?_|refine wp' ?_|refine ai ?_|refine And.intro rfl ?_|refine an ?_|fail);conv=>whnf))
 refine WA_loopI (fun k=>2*k≤n+1) (fun k=>[(2,.int .i64 (k:Int)),(3,.int .i64 ((n:Int) - 1 - k))]) (fun k=>[.ghost [.own 1,.junk],.row 5 1 n fun t=>[.int .u8 (rr8 n r k t)]]) (fun k=>n+1 - k) 0 (by omega) ?_ ?_
 ·conv=>whnf
  repeat (first|exact fa|((first|refine fb ?_|(refine And.intro ?_ ?_;rotate_left));conv=>whnf))
  ·exact Or.inl fun t ht=>by show [A.int .u8 (r t)]=[A.int .u8 (rr8 n r 0 t)]; rw [rr8_zero n r t ht]
  ·omega
 ·intro k hk
  have hk:2*k≤n+1:=hk
  conv=>whnf
  repeat' (first|((rw [updRow_ne (show ((n:Int) - 1 - k).toNat ≠ (k:Int).toNat by omega)];conv=>whnf))|refine sq ?_|refine bk ?_|((first|refine rg ttok ?_|refine dw ttok mixed ?_|refine cd ?_|refine sk ?_|refine xt ?_|refine rt ?_);conv=>whnf)|(refine And.intro (fun h=>?_) (fun h=>?_) <;> (try simp only [brsA] at h) <;> conv=>whnf)|((first|refine wf ?_|refine wp' ?_|refine ai ?_|refine And.intro rfl ?_|refine an ?_|fail);conv=>whnf))
  ·have h':(k:Int) < (n:Int) - 1 - k:=h
   refine ⟨k+1,(by show 2*(k+1)≤n+1; omega),(by show n+1 - (k+1) < n+1 - k; omega),?_⟩
   conv=>whnf
   repeat (first|exact fa|((first|refine fb ?_|(refine And.intro ?_ ?_;rotate_left));conv=>whnf))
   ·exact Or.inl fun t ht=>rev8_fit h' t ht
   ·omega
  ·have h':¬ (k:Int) < (n:Int) - 1 - k:=h
   exact Or.inl fun t ht=>by show [A.int .u8 (rr8 n r k t)]=[A.int .u8 (r (n - 1 - t))]; rw [rr8_end h' t ht]
def dgF (ds:List Nat) (j:Nat):Int:=48+((ds.getD j 0:Nat):Int)
def TxI (v:Nat) (x:Nat × List Nat × (Nat→Nat)):Prop:=decN v=decN x.1 ++ (chrs x.2.1).reverse∧(x.2.1=[]∧x.1=v∨1≤x.1∧10 ^ x.2.1.length*x.1≤v)∧(∀ d ∈ x.2.1,d < 10)∧wW x.1=x.2.2
theorem tx_len {v a n:Nat} (hv:v < 2 ^ 120) (h1:1≤a) (h:10 ^ n*a≤v):n≤120:=by
 have e1:10 ^ n≤v:=Nat.le_trans (Nat.le_mul_of_pos_right _ h1) h
 have e2:(2:Nat) ^ n≤10 ^ n:=Nat.pow_le_pow_left (by omega) n
 have:=(Nat.pow_lt_pow_iff_right (a:=2) (by omega)).1 (Nat.lt_of_le_of_lt (Nat.le_trans e2 e1) hv)
 omega
theorem chrs_fin (ds:List Nat) (c:Nat):(List.range (ds.length+1)).map (fun j=>UInt8.ofNat (dgF (ds ++ [c]) (ds.length+1 - 1 - j)).toNat)=UInt8.ofNat (48+c) :: (chrs ds).reverse:=by
 apply List.ext_getElem
 ·simp [chrs]
 ·intro j h1 h2
  simp only [List.length_map,List.length_range] at h1
  simp only [List.getElem_map,List.getElem_range]
  rcases j with _ | j
  ·have e:dgF (ds ++ [c]) (ds.length+1 - 1 - 0)=((48+c:Nat):Int):=by
    unfold dgF
    rw [show ds.length+1 - 1 - 0=ds.length by omega,List.getD_eq_getElem?_getD]
    simp
   rw [e]
   rfl
  ·rw [List.getElem_cons_succ,List.getElem_reverse]
   simp only [chrs,List.getElem_map,List.length_map,dgF]
   have e:ds.length+1 - 1 - (j+1)=ds.length - 1 - j:=by omega
   rw [e,List.getD_eq_getElem?_getD,List.getElem?_append_left (by omega),List.getElem?_eq_getElem (show ds.length - 1 - j < ds.length by omega)]
   simp only [Option.getD_some]
   congr 1
theorem dg_app (ds:List Nat) (c:Nat) (j:Nat) (hj:j < ds.length+1):rowCat ds.length (fun j=>[A.int .u8 (dgF ds j)]) (fun i=>takeL 1 (List.drop (i*1) [A.int .u8 (48+(c:Int))])) j=[A.int .u8 (dgF (ds ++ [c]) j)]:=by
 unfold rowCat dgF
 by_cases h:j < ds.length
 ·rw [show Nat.blt j ds.length=true from Nat.ble_eq_true_of_le h]
  show [A.int .u8 (48+((ds.getD j 0:Nat):Int))]=_
  rw [List.getD_eq_getElem?_getD,List.getD_eq_getElem?_getD,List.getElem?_append_left h]
 ·have hb:Nat.blt j ds.length=false:=by
   cases hc:Nat.blt j ds.length with
   | false=>rfl
   | true=>exact absurd (Nat.le_of_ble_eq_true hc) h
  rw [hb]
  have:j=ds.length:=by omega
  subst this
  show takeL 1 (List.drop ((ds.length - ds.length)*1) [A.int .u8 (48+(c:Int))])=_
  rw [Nat.sub_self,List.getD_eq_getElem?_getD]
  simp [takeL]
theorem qtext_c (v:Nat) (hv:v < 2 ^ 120):ACalls Tryz.prog G 36 [wideN v] (.str (decN v)):=by
 have hP:(2:Nat) ^ 120 < 65536 ^ 32:=by decide
 unfold wideN wideA
 generalize hV:wW v=V
 refine ACalls.of_WA ttok Tryz.func36 rfl rfl _ rfl ?_
 conv=>whnf
 repeat (first|refine sq ?_|refine bk ?_|((first|refine rg ttok ?_|refine dw ttok mixed ?_|refine cd ?_|refine sk ?_|refine xt ?_|refine rt ?_);conv=>whnf))
 refine WA_nil 3 5 1 rfl ?_
 conv=>whnf
 refine WA_loopI (TxI v) (fun x=>match x with | (_,_,_)=>[(3,.own 1),(4,.junk),(5,.junk)]) (fun x=>match x with | (_,ds,Q)=>[bxF Q,.row 5 1 ds.length (fun j=>[.int .u8 (dgF ds j)])]) (fun x=>x.1) (v,[],V) ⟨by simp [chrs],.inl ⟨rfl,rfl⟩,by simp,hV⟩ ?_ ?_
 ·conv=>whnf
  repeat (first|exact fa|((first|refine fb ?_|(refine And.intro ?_ ?_;rotate_left));conv=>whnf))
 ·rintro ⟨a,ds,Q⟩ ⟨h1,h2,h3,h4⟩
  have h1:decN v=decN a ++ (chrs ds).reverse:=h1
  have h2:ds=[]∧a=v∨1≤a∧10 ^ ds.length*a≤v:=h2
  have h3:∀ d ∈ ds,d < 10:=h3
  have h4:wW a=Q:=h4
  have hle:a≤v:=by
   rcases h2 with ⟨_,h⟩ | ⟨_,h⟩
   ·omega
   ·exact Nat.le_trans (Nat.le_mul_of_pos_left _ (Nat.pow_pos (by omega))) h
  have hlen:ds.length≤120:=by
   rcases h2 with ⟨h,_⟩ | ⟨h,h'⟩
   ·rw [h]; simp
   ·exact tx_len hv h h'
  have ha:a < 65536 ^ 32:=by omega
  have hs:=short_c (G:=G) a 10 ha (by omega) (by omega)
  have hz:=wideZero_c (G:=G) (a / 10) (by omega)
  have hr:a % 10 < 10:=Nat.mod_lt _ (by omega)
  have hw:=wide1_eq (b:=a % 10) (by omega)
  rw [hw] at hs
  have hd:=decN_eq a
  by_cases h0:a / 10=0
  ·rw [decide_eq_true h0] at hz
   rw [if_pos h0,List.nil_append] at hd
   have hrv:=rev8_c (G:=G) (ds.length+1) (dgF (ds ++ [a % 10])) (by omega)
   have hfin:=chrs_fin ds (a % 10)
   rw [h1,hd]
   clear h1 hd h2 hP hv hw
   unfold wideN wideA wide1 at *
   rw [h4] at hs
   generalize wW (a / 10)=Z at *
   generalize a % 10=c at *
   have hrv':MCalls Tryz.prog G 71 [.own 1] [.ghost [.own 1,.junk],.row 5 1 (ds.length+1) (rowCat ds.length (fun j=>[A.int .u8 (dgF ds j)]) fun i=>takeL 1 (List.drop (i*1) [A.int .u8 (48+(c:Int))]))] (.tup []) [.ghost [.own 1,.junk],.row 5 1 (ds.length+1) fun k=>[.int .u8 (dgF (ds ++ [c]) (ds.length+1 - 1 - k))]]:=by
    refine MCalls.fit hrv rfl ?_
    show andL _
    conv=>whnf
    repeat (first|exact fa|((first|refine fb ?_|(refine And.intro ?_ ?_;rotate_left));conv=>whnf))
    all_goals first|exact Or.inl fun i hi=>dg_app ds c i hi
   conv=>whnf
   repeat' (first|(exact Bool.noConfusion h)|refine sq ?_|refine bk ?_|((first|refine rg ttok ?_|refine dw ttok mixed ?_|refine cd ?_|refine sk ?_|refine xt ?_|refine rt ?_);conv=>whnf)|(refine And.intro (fun h=>?_) (fun h=>?_) <;> (try simp only [brsA] at h) <;> conv=>whnf)|(refine Or.inl ?_;(conv=>whnf);(first|refine ⟨_,hs,?_⟩|refine ⟨_,hz,?_⟩);conv=>whnf)|(refine Or.inr (Or.inl ?_);(conv=>whnf);refine ⟨_,_,hrv',?_⟩;conv=>whnf)|((first|refine wf ?_|refine wp' ?_|refine ai ?_|refine And.intro rfl ?_|refine an ?_|fail);conv=>whnf))
   all_goals
    rw [u8s_fun (fun k=>dgF (ds ++ [c]) (ds.length+1 - 1 - k)),hfin]
    conv=>whnf
    repeat' (first|refine sq ?_|refine bk ?_|((first|refine rg ttok ?_|refine dw ttok mixed ?_|refine cd ?_|refine sk ?_|refine xt ?_|refine rt ?_);conv=>whnf)|(refine And.intro (fun h=>?_) (fun h=>?_) <;> (try simp only [brsA] at h) <;> conv=>whnf)|((first|refine wf ?_|refine wp' ?_|refine ai ?_|refine And.intro rfl ?_|refine an ?_|fail);conv=>whnf))
   all_goals first|rfl
  ·rw [decide_eq_false h0] at hz
   rw [if_neg h0] at hd
   have hn:TxI v (a / 10,ds ++ [a % 10],wW (a / 10)):=by
    refine ⟨?_,.inr ⟨by show 1≤a / 10; omega,?_⟩,?_,rfl⟩
    ·show decN v=decN (a / 10) ++ (chrs (ds ++ [a % 10])).reverse
     rw [h1,hd]
     simp [chrs]
    ·show 10 ^ (ds ++ [a % 10]).length*(a / 10)≤v
     rw [List.length_append]
     have e:10 ^ (ds.length+[a % 10].length)*(a / 10)=10 ^ ds.length*(10*(a / 10)):=by
      rw [show ds.length+[a % 10].length=ds.length+1 from rfl,Nat.pow_succ,Nat.mul_assoc]
     rw [e]
     have e2:10 ^ ds.length*(10*(a / 10))≤10 ^ ds.length*a:=Nat.mul_le_mul_left _ (by omega)
     rcases h2 with ⟨h,h'⟩ | ⟨h,h'⟩
     ·rw [h,h'] at e2 ⊢
      have:10 ^ ([]:List Nat).length*v=v:=by simp
      omega
     ·omega
    ·intro d hd
     rcases List.mem_append.1 hd with h | h
     ·exact h3 d h
     ·rw [List.mem_singleton] at h; omega
   clear h1 hd h2 hP hv hw
   unfold wideN wideA wide1 at *
   rw [h4] at hs
   generalize wW (a / 10)=Z at *
   conv=>whnf
   repeat' (first|(exact Bool.noConfusion h)|refine sq ?_|refine bk ?_|((first|refine rg ttok ?_|refine dw ttok mixed ?_|refine cd ?_|refine sk ?_|refine xt ?_|refine rt ?_);conv=>whnf)|(refine And.intro (fun h=>?_) (fun h=>?_) <;> (try simp only [brsA] at h) <;> conv=>whnf)|(refine Or.inl ?_;(conv=>whnf);(first|refine ⟨_,hs,?_⟩|refine ⟨_,hz,?_⟩);conv=>whnf)|((first|refine wf ?_|refine wp' ?_|refine ai ?_|refine And.intro rfl ?_|refine an ?_|fail);conv=>whnf))
   all_goals refine ⟨(a / 10,ds ++ [a % 10],Z),hn,(by show a / 10 < a; omega),?_⟩
   all_goals
    conv=>whnf
    repeat (first|exact fa|((first|refine fb ?_|(refine And.intro ?_ ?_;rotate_left));conv=>whnf))
    all_goals first|exact Or.inl fun i hi=>dg_app ds (a % 10) i hi|(simp;done)
theorem p120_37:(2:Nat) ^ 120 < 10 ^ 37:=by decide
theorem decN_37 {v:Nat} (h:v < 2 ^ 120):(decN v).length≤37:=decN_len v 36 (Nat.lt_trans h p120_37)
def decZ (x:Int):List UInt8:=if x < 0 then 45 :: decN x.natAbs else decN x.natAbs
theorem stext_c (x:Int) (hx:x.natAbs < 2 ^ 120):ACalls Tryz.prog G 35 [intN x] (.str (decZ x)):=by
 have hf:=fixI_c (G:=G) x (Nat.lt_trans hx (by decide))
 have ht:=qtext_c (G:=G) x.natAbs hx
 have hl:=decN_37 hx
 unfold decZ
 by_cases h0:x < 0
 ·rw [if_pos h0]
  unfold intN sgnA wideN wideA at *
  rw [decide_eq_true h0] at *
  generalize wW x.natAbs=X at *
  generalize decN x.natAbs=D at *
  refine ACalls.of_WA ttok Tryz.func35 rfl rfl _ rfl ?_
  conv=>whnf
  repeat' (first|((refine And.intro (show 1+D.length≤9223372036854775807 by omega) ?_;conv=>whnf))|refine sq ?_|refine bk ?_|((first|refine rg ttok ?_|refine dw ttok mixed ?_|refine cd ?_|refine sk ?_|refine xt ?_|refine rt ?_);conv=>whnf)|(refine And.intro (fun h=>?_) (fun h=>?_) <;> (try simp only [brsA] at h) <;> conv=>whnf)|(refine Or.inl ?_;(conv=>whnf);(first|refine ⟨_,hf,?_⟩|refine ⟨_,ht,?_⟩);conv=>whnf)|((first|refine wf ?_|refine wp' ?_|refine ai ?_|refine And.intro rfl ?_|refine an ?_|fail);conv=>whnf))
  all_goals first|contradiction|rfl|(exfalso;omega)|skip
 ·rw [if_neg h0]
  unfold intN sgnA wideN wideA at *
  rw [decide_eq_false h0] at *
  generalize wW x.natAbs=X at *
  generalize decN x.natAbs=D at *
  refine ACalls.of_WA ttok Tryz.func35 rfl rfl _ rfl ?_
  conv=>whnf
  repeat' (first|((refine And.intro (show 1+D.length≤9223372036854775807 by omega) ?_;conv=>whnf))|refine sq ?_|refine bk ?_|((first|refine rg ttok ?_|refine dw ttok mixed ?_|refine cd ?_|refine sk ?_|refine xt ?_|refine rt ?_);conv=>whnf)|(refine And.intro (fun h=>?_) (fun h=>?_) <;> (try simp only [brsA] at h) <;> conv=>whnf)|(refine Or.inl ?_;(conv=>whnf);(first|refine ⟨_,hf,?_⟩|refine ⟨_,ht,?_⟩);conv=>whnf)|((first|refine wf ?_|refine wp' ?_|refine ai ?_|refine And.intro rfl ?_|refine an ?_|fail);conv=>whnf))
  all_goals first|contradiction|rfl|(exfalso;omega)|skip
def RtI (v:Nat) (x:Nat × Nat × List UInt8 × (Nat→Nat)):Prop:=decN v=decN x.2.1 ++ x.2.2.1∧(x.1=0∧x.2.1=v∨1≤x.2.1∧10 ^ x.1*x.2.1≤v)∧wW x.2.1=x.2.2.2∧x.2.2.1.length=x.1
theorem digit_of (c:Nat) (hc:c < 10):List.drop c (List.take (c+1) [(48:UInt8),49,50,51,52,53,54,55,56,57])=[UInt8.ofNat (48+c)]:=by
 have:c=0∨c=1∨c=2∨c=3∨c=4∨c=5∨c=6∨c=7∨c=8∨c=9:=by omega
 rcases this with rfl | rfl | rfl | rfl | rfl | rfl | rfl | rfl | rfl | rfl <;> rfl
theorem rtext4_c (v:Nat) (hv:v < 2 ^ 120):ACalls Tryz.prog G 38 [wideN v] (.str (decN v)):=by
 have hP:(2:Nat) ^ 120 < 65536 ^ 32:=by decide
 unfold wideN wideA
 generalize hV:wW v=V
 refine ACalls.of_WA ttok Tryz.func38 rfl rfl _ rfl ?_
 conv=>whnf
 repeat' (first|refine sq ?_|refine bk ?_|((first|refine rg ttok ?_|refine dw ttok mixed ?_|refine cd ?_|refine sk ?_|refine xt ?_|refine rt ?_);conv=>whnf)|(refine And.intro (fun h=>?_) (fun h=>?_) <;> (try simp only [brsA] at h) <;> conv=>whnf)|((first|refine wf ?_|refine wp' ?_|refine ai ?_|refine And.intro rfl ?_|refine an ?_|fail);conv=>whnf))
 refine WA_loopI (RtI v) (fun x=>match x with | (k,_,s,_)=>[(5,.int .i64 (k:Int)),(4,.str s),(6,.junk),(7,.junk)]) (fun x=>match x with | (_,_,_,Q)=>[bxF Q]) (fun x=>x.2.1) (0,v,[],V) ⟨by simp,.inl ⟨rfl,rfl⟩,hV,rfl⟩ ?_ ?_
 ·conv=>whnf
  repeat (first|exact fa|((first|refine fb ?_|(refine And.intro ?_ ?_;rotate_left));conv=>whnf))
 ·rintro ⟨k,a,s,Q⟩ ⟨h1,h2,h4,h5⟩
  have h5:s.length=k:=h5
  have h1:decN v=decN a ++ s:=h1
  have h2:k=0∧a=v∨1≤a∧10 ^ k*a≤v:=h2
  have h4:wW a=Q:=h4
  have hle:a≤v:=by
   rcases h2 with ⟨_,h⟩ | ⟨_,h⟩
   ·omega
   ·exact Nat.le_trans (Nat.le_mul_of_pos_left _ (Nat.pow_pos (by omega))) h
  have hlen:k≤120:=by
   rcases h2 with ⟨h,_⟩ | ⟨h,h'⟩
   ·omega
   ·exact tx_len hv h h'
  have ha:a < 65536 ^ 32:=by omega
  have ho:=overN_c (G:=G) a 10 ha (by decide) (by omega)
  have hr:a % 10 < 10:=Nat.mod_lt _ (by omega)
  have hw:=wide1_eq (b:=a % 10) (by omega)
  have hw10:=wide1_eq (b:=10) (by omega)
  rw [hw,hw10] at ho
  have hd:=decN_eq a
  have hdg:List.drop ((a % 10:Nat):Int).toNat (List.take (((a % 10:Nat):Int)+1).toNat (⟨#[48,49,50,51,52,53,54,55,56,57]⟩ : ByteArray).data.toList)=[UInt8.ofNat (48+a % 10)]:=digit_of (a % 10) hr
  have hq:=eqW (a:=a / 10) (b:=0) (by omega) (by decide)
  have w0:∀ k,wW 0 k=0:=wW0
  rw [w0,w0,w0,w0,w0,w0,w0,w0] at hq
  by_cases h0:a / 10=0
  ·rw [decide_eq_true h0] at hq
   rw [if_pos h0,List.nil_append] at hd
   rw [h1,hd]
   clear h1 hd h2 hP hv hw w0 hle ha
   unfold wideN wideA wide1 at *
   rw [h4] at ho
   generalize wW (a / 10)=Z at *
   generalize a % 10=c at *
   conv=>whnf
   repeat' (first|(exact Bool.noConfusion (hq.symm.trans (by assumption)))|((rw [hdg];conv=>whnf))|((refine And.intro (show 1+s.length≤9223372036854775807 by omega) ?_;conv=>whnf))|refine sq ?_|refine bk ?_|((first|refine rg ttok ?_|refine dw ttok mixed ?_|refine cd ?_|refine sk ?_|refine xt ?_|refine rt ?_);conv=>whnf)|(refine And.intro (fun h=>?_) (fun h=>?_) <;> (try simp only [brsA] at h) <;> conv=>whnf)|(refine Or.inl ?_;(conv=>whnf);refine ⟨_,ho,?_⟩;conv=>whnf)|((first|refine wf ?_|refine wp' ?_|refine ai ?_|refine And.intro rfl ?_|refine an ?_|fail);conv=>whnf))
   all_goals first|contradiction|(exfalso;omega)|skip
  ·rw [decide_eq_false h0] at hq
   rw [if_neg h0] at hd
   have hn:RtI v (k+1,a / 10,[UInt8.ofNat (48+a % 10)] ++ s,wW (a / 10)):=by
    refine ⟨?_,.inr ⟨by show 1≤a / 10; omega,?_⟩,rfl,by show s.length+1=k+1; omega⟩
    ·show decN v=decN (a / 10) ++ ([UInt8.ofNat (48+a % 10)] ++ s)
     rw [h1,hd]
     simp
    ·show 10 ^ (k+1)*(a / 10)≤v
     have e:10 ^ (k+1)*(a / 10)=10 ^ k*(10*(a / 10)):=by rw [Nat.pow_succ,Nat.mul_assoc]
     rw [e]
     have e2:10 ^ k*(10*(a / 10))≤10 ^ k*a:=Nat.mul_le_mul_left _ (by omega)
     rcases h2 with ⟨h,h'⟩ | ⟨h,h'⟩
     ·rw [h,h'] at e2 ⊢
      have:10 ^ 0*v=v:=by simp
      omega
     ·omega
   clear h1 hd h2 hP hv hw w0 hle ha
   unfold wideN wideA wide1 at *
   rw [h4] at ho
   generalize wW (a / 10)=Z at *
   conv=>whnf
   repeat' (first|(exact Bool.noConfusion (hq.symm.trans (by assumption)))|((rw [hdg];conv=>whnf))|((refine And.intro (show 1+s.length≤9223372036854775807 by omega) ?_;conv=>whnf))|refine sq ?_|refine bk ?_|((first|refine rg ttok ?_|refine dw ttok mixed ?_|refine cd ?_|refine sk ?_|refine xt ?_|refine rt ?_);conv=>whnf)|(refine And.intro (fun h=>?_) (fun h=>?_) <;> (try simp only [brsA] at h) <;> conv=>whnf)|(refine Or.inl ?_;(conv=>whnf);refine ⟨_,ho,?_⟩;conv=>whnf)|((first|refine wf ?_|refine wp' ?_|refine ai ?_|refine And.intro rfl ?_|refine an ?_|fail);conv=>whnf))
   all_goals first|contradiction|(exfalso;omega)|skip
   refine ⟨(k+1,a / 10,[UInt8.ofNat (48+a % 10)] ++ s,Z),hn,(by show a / 10 < a; omega),?_⟩
   conv=>whnf
   repeat (first|exact fa|((first|refine fb ?_|(refine And.intro ?_ ?_;rotate_left));conv=>whnf))
   all_goals first|omega
theorem rtext5_c (x:Int) (hx:x.natAbs < 2 ^ 120):ACalls Tryz.prog G 37 [intN x] (.str (decZ x)):=by
 have c:=fix_c (G:=G) (decide (x < 0)) x.natAbs (Nat.lt_trans hx (by decide))
 have e:sgnA (decide (x < 0) && decide (x.natAbs ≠ 0)) x.natAbs=intN x:=sgn_is rfl (by
  rw [Bool.eq_iff_iff,Bool.and_eq_true,decide_eq_true_iff,decide_eq_true_iff]; omega)
 rw [e] at c
 have ht:=rtext4_c (G:=G) x.natAbs hx
 have hl:=decN_37 hx
 clear e
 unfold decZ
 by_cases h0:x < 0
 ·rw [if_pos h0]
  unfold intN sgnA wideN wideA at *
  rw [decide_eq_true h0] at *
  generalize wW x.natAbs=X at *
  generalize decN x.natAbs=D at *
  refine ACalls.of_WA ttok Tryz.func37 rfl rfl _ rfl ?_
  conv=>whnf
  repeat' (first|((refine And.intro (show 1+D.length≤9223372036854775807 by omega) ?_;conv=>whnf))|refine sq ?_|refine bk ?_|((first|refine rg ttok ?_|refine dw ttok mixed ?_|refine cd ?_|refine sk ?_|refine xt ?_|refine rt ?_);conv=>whnf)|(refine And.intro (fun h=>?_) (fun h=>?_) <;> (try simp only [brsA] at h) <;> conv=>whnf)|(refine Or.inl ?_;(conv=>whnf);(first|refine ⟨_,c,?_⟩|refine ⟨_,ht,?_⟩);conv=>whnf)|((first|refine wf ?_|refine wp' ?_|refine ai ?_|refine And.intro rfl ?_|refine an ?_|fail);conv=>whnf))
  all_goals first|contradiction|rfl|(exfalso;omega)|skip
 ·rw [if_neg h0]
  unfold intN sgnA wideN wideA at *
  rw [decide_eq_false h0] at *
  generalize wW x.natAbs=X at *
  generalize decN x.natAbs=D at *
  refine ACalls.of_WA ttok Tryz.func37 rfl rfl _ rfl ?_
  conv=>whnf
  repeat' (first|refine sq ?_|refine bk ?_|((first|refine rg ttok ?_|refine dw ttok mixed ?_|refine cd ?_|refine sk ?_|refine xt ?_|refine rt ?_);conv=>whnf)|(refine And.intro (fun h=>?_) (fun h=>?_) <;> (try simp only [brsA] at h) <;> conv=>whnf)|(refine Or.inl ?_;(conv=>whnf);(first|refine ⟨_,c,?_⟩|refine ⟨_,ht,?_⟩);conv=>whnf)|((first|refine wf ?_|refine wp' ?_|refine ai ?_|refine And.intro rfl ?_|refine an ?_|fail);conv=>whnf))
  all_goals first|contradiction|rfl|(exfalso;omega)|skip
theorem decZ_38 {x:Int} (h:x.natAbs < 2 ^ 120):(decZ x).length≤38:=by
 have:=decN_37 h
 unfold decZ
 split
 ·rw [List.length_cons]; omega
 ·omega
end Go.Proofs.YtmeohhbdkoeadaaGreat
namespace Go.Proofs.YtmeohhbdkoeadaaGreat
open Go.Proofs.YtmeohhbdkoeadaaGreat.Am Go.Sort Go.Proofs Go.Lib
variable [Inhabited DRT]
variable {G:GInv}
def txR (r:RS):List UInt8:=(((decZ (axR r) ++ [32]) ++ decZ (ayR r)) ++ [32]) ++ decN r.w
theorem rText_r (r:RS) (hr:MayR r):ACalls Tryz.prog G 11 [spR r] (.str (txR r)):=by
 have c1:=rtext5_c (G:=G) (axR r) (sgI_lt hr.1.1)
 have c2:=rtext5_c (G:=G) (ayR r) (sgI_lt hr.1.2.1)
 have c3:=rtext4_c (G:=G) r.w hr.1.2.2
 have l1:=decZ_38 (x:=axR r) (sgI_lt hr.1.1)
 have l2:=decZ_38 (x:=ayR r) (sgI_lt hr.1.2.1)
 have l3:=decN_37 hr.1.2.2
 rw [spR_spot hr]
 unfold txR
 clear hr
 unfold spotA spotL at *
 unfold intN sgnA wideN wideA at *
 generalize decZ (axR r)=D1 at *
 generalize decZ (ayR r)=D2 at *
 generalize decN r.w=D3 at *
 generalize decide (axR r < 0)=p1 at *
 generalize decide (ayR r < 0)=p2 at *
 generalize wW (axR r).natAbs=V1 at *
 generalize wW (ayR r).natAbs=V2 at *
 generalize wW r.w=V3 at *
 refine ACalls.of_WA ttok Tryz.func11 rfl rfl _ rfl ?_
 conv=>whnf
 repeat' (first|refine sq ?_|refine bk ?_|((first|refine rg ttok ?_|refine dw ttok mixed ?_|refine cd ?_|refine sk ?_|refine xt ?_|refine rt ?_);conv=>whnf)|(refine And.intro (fun h=>?_) (fun h=>?_) <;> (try simp only [brsA] at h) <;> conv=>whnf)|(refine Or.inl ?_;(conv=>whnf);(first|refine ⟨_,c1,?_⟩|refine ⟨_,c2,?_⟩|refine ⟨_,c3,?_⟩);conv=>whnf)|((first|refine wf ?_|refine wp' ?_|refine ai ?_|refine And.intro rfl ?_|refine an ?_|fail);conv=>whnf))
 all_goals first|(simp;omega)
end Go.Proofs.YtmeohhbdkoeadaaGreat

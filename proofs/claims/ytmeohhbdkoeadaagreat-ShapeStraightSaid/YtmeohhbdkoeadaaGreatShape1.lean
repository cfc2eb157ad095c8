/-
  The walks and plain laws of shapes.
-/
import Derived.Test.YtmeohhbdkoeadaaGreatSpotSorts2
import Derived.Test.YtmeohhbdkoeadaaGreatSpotSorts7
import Derived.Test.YtmeohhbdkoeadaaGreatAm4
import Derived.Test.YtmeohhbdkoeadaaGreatText1
set_option linter.unusedSimpArgs false
set_option linter.unusedSectionVars false
set_option linter.unusedVariables false
set_option maxRecDepth 100000
set_option maxHeartbeats 8000000
namespace Go.Proofs.YtmeohhbdkoeadaaGreat
open Go.Proofs.YtmeohhbdkoeadaaGreat.Am
variable [Inhabited DRT]
variable {G:GInv}
def sgV (p:Bool) (V:Nat→Nat):A:=.agg [.sb p,.int .u64 (V 0:Nat),.int .u64 (V 1:Nat),.int .u64 (V 2:Nat),.int .u64 (V 3:Nat),.int .u64 (V 4:Nat),.int .u64 (V 5:Nat),.int .u64 (V 6:Nat),.int .u64 (V 7:Nat)]
def sgB (V:Nat→Nat):A:=.agg [.bool false,.int .u64 (V 0:Nat),.int .u64 (V 1:Nat),.int .u64 (V 2:Nat),.int .u64 (V 3:Nat),.int .u64 (V 4:Nat),.int .u64 (V 5:Nat),.int .u64 (V 6:Nat),.int .u64 (V 7:Nat)]
def sgZ:A:=.agg [.sb false,.int .u64 0,.int .u64 0,.int .u64 0,.int .u64 0,.int .u64 0,.int .u64 0,.int .u64 0,.int .u64 0]
theorem sLess_c (x:Int) (hx:x.natAbs < 65536 ^ 32):ACalls Tryz.prog G 163 [intN x] (intN (-x)):=by
 have f:=sfix_c (G:=G) (!decide (x < 0)) x.natAbs hx
 have e:sgnA ((!decide (x < 0)) && decide (x.natAbs ≠ 0)) x.natAbs=intN (-x):=sgn_is (by omega) (by
  rw [Bool.eq_iff_iff,Bool.and_eq_true,decide_eq_true_iff,decide_eq_true_iff,Bool.not_eq_true',decide_eq_false_iff_not]; omega)
 rw [e] at f
 clear e hx
 unfold intN sgnA at *
 generalize wW x.natAbs=X at *
 generalize wW (-x).natAbs=Y at *
 generalize decide (x < 0)=p at *
 generalize decide (-x < 0)=q at *
 refine ACalls.of_WA ttok Tryz.func163 rfl rfl _ rfl ?_
 conv=>whnf
 repeat' (first|refine sq ?_|refine bk ?_|((first|refine rg ttok ?_|refine dw ttok mixed ?_|refine cd ?_|refine sk ?_|refine xt ?_|refine rt ?_);conv=>whnf)|(refine And.intro (fun h=>?_) (fun h=>?_) <;> (try simp only [brsA] at h) <;> conv=>whnf)|(refine Or.inl ?_;(conv=>whnf);refine ⟨_,f,?_⟩;conv=>whnf)|((first|refine wf ?_|refine wp' ?_|refine ai ?_|refine And.intro rfl ?_|refine an ?_|fail);conv=>whnf))
 all_goals first|contradiction|(exfalso;omega)|skip
theorem sSub_c (x y:Int) (h:x.natAbs+y.natAbs < 65536 ^ 32):ACalls Tryz.prog G 158 [intN x,intN y] (.tup [intN (x - y),.sb true]):=by
 have c1:=sLess_c (G:=G) y (by omega)
 have c2:=sAdd_c (G:=G) x (-y) (by rw [Int.natAbs_neg]; exact h)
 rw [show x + -y=x - y by omega] at c2
 clear h
 unfold intN sgnA at *
 generalize wW x.natAbs=X at *
 generalize wW y.natAbs=Y at *
 generalize wW (-y).natAbs=Z at *
 generalize wW (x - y).natAbs=U at *
 generalize decide (x < 0)=p at *
 generalize decide (y < 0)=q at *
 generalize decide (-y < 0)=r at *
 generalize decide (x - y < 0)=s at *
 refine ACalls.of_WA ttok Tryz.func158 rfl rfl _ rfl ?_
 conv=>whnf
 repeat' (first|refine sq ?_|refine bk ?_|((first|refine rg ttok ?_|refine dw ttok mixed ?_|refine cd ?_|refine sk ?_|refine xt ?_|refine rt ?_);conv=>whnf)|(refine And.intro (fun h=>?_) (fun h=>?_) <;> (try simp only [brsA] at h) <;> conv=>whnf)|(refine Or.inl ?_;(conv=>whnf);(first|refine ⟨_,c1,?_⟩|refine ⟨_,c2,?_⟩);conv=>whnf)|((first|refine wf ?_|refine wp' ?_|refine ai ?_|refine And.intro rfl ?_|refine an ?_|fail);conv=>whnf))
 all_goals first|contradiction|(exfalso;omega)|skip
theorem vSub_c (x y:Int) (h:x.natAbs+y.natAbs < 65536 ^ 32):ACalls Tryz.prog G 141 [intN x,intN y] (intN (x - y)):=by
 have c1:=sSub_c (G:=G) x y h
 clear h
 unfold intN sgnA at *
 generalize wW x.natAbs=X at *
 generalize wW y.natAbs=Y at *
 generalize wW (x - y).natAbs=U at *
 generalize decide (x < 0)=p at *
 generalize decide (y < 0)=q at *
 generalize decide (x - y < 0)=s at *
 refine ACalls.of_WA ttok Tryz.func141 rfl rfl _ rfl ?_
 conv=>whnf
 repeat' (first|refine sq ?_|refine bk ?_|((first|refine rg ttok ?_|refine dw ttok mixed ?_|refine cd ?_|refine sk ?_|refine xt ?_|refine rt ?_);conv=>whnf)|(refine And.intro (fun h=>?_) (fun h=>?_) <;> (try simp only [brsA] at h) <;> conv=>whnf)|(refine Or.inl ?_;(conv=>whnf);refine ⟨_,c1,?_⟩;conv=>whnf)|((first|refine wf ?_|refine wp' ?_|refine ai ?_|refine And.intro rfl ?_|refine an ?_|fail);conv=>whnf))
 all_goals first|contradiction|(exfalso;omega)|skip
theorem vAdd_c (x y:Int) (h:x.natAbs+y.natAbs < 65536 ^ 32):ACalls Tryz.prog G 142 [intN x,intN y] (intN (x+y)):=by
 have c1:=sAdd_c (G:=G) x y h
 clear h
 unfold intN sgnA at *
 generalize wW x.natAbs=X at *
 generalize wW y.natAbs=Y at *
 generalize wW (x+y).natAbs=U at *
 generalize decide (x < 0)=p at *
 generalize decide (y < 0)=q at *
 generalize decide (x+y < 0)=s at *
 refine ACalls.of_WA ttok Tryz.func142 rfl rfl _ rfl ?_
 conv=>whnf
 repeat' (first|refine sq ?_|refine bk ?_|((first|refine rg ttok ?_|refine dw ttok mixed ?_|refine cd ?_|refine sk ?_|refine xt ?_|refine rt ?_);conv=>whnf)|(refine And.intro (fun h=>?_) (fun h=>?_) <;> (try simp only [brsA] at h) <;> conv=>whnf)|(refine Or.inl ?_;(conv=>whnf);refine ⟨_,c1,?_⟩;conv=>whnf)|((first|refine wf ?_|refine wp' ?_|refine ai ?_|refine And.intro rfl ?_|refine an ?_|fail);conv=>whnf))
 all_goals first|contradiction|(exfalso;omega)|skip
theorem side_w {p1 p2 p4 p5 p7 p8 p10 p11 p12 p13 p14 p15 p16 p17 p18 p19 p20 p21 p22 p23:Bool} {V1 V2 V3 V4 V5 V6 V7 V8 V9 V10 V11 V12 V13 V14 V15 V16 V17 V18 V19 V20 V21 V22 V23:Nat→Nat} {z:Int} (h10:ACalls Tryz.prog G 140 [sgV p5 V5,sgV false V9] (sgV p10 V10)) (h11:ACalls Tryz.prog G 140 [sgV false V6,sgV p8 V8] (sgV p11 V11)) (h12:ACalls Tryz.prog G 141 [sgV p10 V10,sgV p11 V11] (sgV p12 V12)) (h13:ACalls Tryz.prog G 140 [sgV p1 V1,sgV p12 V12] (sgV p13 V13)) (h14:ACalls Tryz.prog G 140 [sgV p4 V4,sgV false V9] (sgV p14 V14)) (h15:ACalls Tryz.prog G 140 [sgV false V6,sgV p7 V7] (sgV p15 V15)) (h16:ACalls Tryz.prog G 141 [sgV p14 V14,sgV p15 V15] (sgV p16 V16)) (h17:ACalls Tryz.prog G 140 [sgV p2 V2,sgV p16 V16] (sgV p17 V17)) (h18:ACalls Tryz.prog G 140 [sgV p4 V4,sgV p8 V8] (sgV p18 V18)) (h19:ACalls Tryz.prog G 140 [sgV p5 V5,sgV p7 V7] (sgV p19 V19)) (h20:ACalls Tryz.prog G 141 [sgV p18 V18,sgV p19 V19] (sgV p20 V20)) (h21:ACalls Tryz.prog G 140 [sgV false V3,sgV p20 V20] (sgV p21 V21)) (h22:ACalls Tryz.prog G 141 [sgV p13 V13,sgV p17 V17] (sgV p22 V22)) (h23:ACalls Tryz.prog G 142 [sgV p22 V22,sgV p21 V21] (sgV p23 V23))
  (hc:ACalls Tryz.prog G 57 [sgV p23 V23,sgZ] (.int .i64 z)) :
  ACalls Tryz.prog G 107 [.agg (spotL p1 p2 V1 V2 V3),.agg (spotL p4 p5 V4 V5 V6),.agg (spotL p7 p8 V7 V8 V9)] (.int .i64 z):=by
 have h10:=h10.fit (args':=[sgV p5 V5,sgB V9]) (by
  conv=>whnf
  repeat (first|exact fa|((first|refine fb ?_|(refine And.intro ?_ ?_;rotate_left));conv=>whnf)))
 have h11:=h11.fit (args':=[sgB V6,sgV p8 V8]) (by
  conv=>whnf
  repeat (first|exact fa|((first|refine fb ?_|(refine And.intro ?_ ?_;rotate_left));conv=>whnf)))
 have h14:=h14.fit (args':=[sgV p4 V4,sgB V9]) (by
  conv=>whnf
  repeat (first|exact fa|((first|refine fb ?_|(refine And.intro ?_ ?_;rotate_left));conv=>whnf)))
 have h15:=h15.fit (args':=[sgB V6,sgV p7 V7]) (by
  conv=>whnf
  repeat (first|exact fa|((first|refine fb ?_|(refine And.intro ?_ ?_;rotate_left));conv=>whnf)))
 have h21:=h21.fit (args':=[sgB V3,sgV p20 V20]) (by
  conv=>whnf
  repeat (first|exact fa|((first|refine fb ?_|(refine And.intro ?_ ?_;rotate_left));conv=>whnf)))
 have hc:=hc.fit (args':=[sgV p23 V23,.agg [.bool false,.int .u64 0,.int .u64 0,.int .u64 0,.int .u64 0,.int .u64 0,.int .u64 0,.int .u64 0,.int .u64 0]]) (by
  conv=>whnf
  repeat (first|exact fa|((first|refine fb ?_|(refine And.intro ?_ ?_;rotate_left));conv=>whnf)))
 unfold spotL sgV sgB sgZ at *
 refine ACalls.of_WA ttok Tryz.func107 rfl rfl _ rfl ?_
 conv=>whnf
 repeat' (first|refine sq ?_|refine bk ?_|((first|refine rg ttok ?_|refine dw ttok mixed ?_|refine cd ?_|refine sk ?_|refine xt ?_|refine rt ?_);conv=>whnf)|(refine And.intro (fun h=>?_) (fun h=>?_) <;> (try simp only [brsA] at h) <;> conv=>whnf)|(refine Or.inl ?_;(conv=>whnf);(first|refine ⟨_,h10,?_⟩|refine ⟨_,h11,?_⟩|refine ⟨_,h12,?_⟩|refine ⟨_,h13,?_⟩|refine ⟨_,h14,?_⟩|refine ⟨_,h15,?_⟩|refine ⟨_,h16,?_⟩|refine ⟨_,h17,?_⟩|refine ⟨_,h18,?_⟩|refine ⟨_,h19,?_⟩|refine ⟨_,h20,?_⟩|refine ⟨_,h21,?_⟩|refine ⟨_,h22,?_⟩|refine ⟨_,h23,?_⟩|refine ⟨_,hc,?_⟩);conv=>whnf)|((first|refine wf ?_|refine wp' ?_|refine ai ?_|refine And.intro rfl ?_|refine an ?_|fail);conv=>whnf))
 all_goals first|contradiction|(exfalso;omega)|skip
theorem vMul_c (x y:Int) (hx:x.natAbs < 65536 ^ 32) (hy:y.natAbs < 65536 ^ 16) (h:x.natAbs*y.natAbs < 65536 ^ 32):ACalls Tryz.prog G 140 [intN x,intN y] (intN (x*y)):=by
 have c1:=sMulG_c (G:=G) x y hx hy h
 clear hx hy h
 unfold intN sgnA at *
 generalize wW x.natAbs=X at *
 generalize wW y.natAbs=Y at *
 generalize wW (x*y).natAbs=U at *
 generalize decide (x < 0)=p at *
 generalize decide (y < 0)=q at *
 generalize decide (x*y < 0)=s at *
 refine ACalls.of_WA ttok Tryz.func140 rfl rfl _ rfl ?_
 conv=>whnf
 repeat' (first|refine sq ?_|refine bk ?_|((first|refine rg ttok ?_|refine dw ttok mixed ?_|refine cd ?_|refine sk ?_|refine xt ?_|refine rt ?_);conv=>whnf)|(refine And.intro (fun h=>?_) (fun h=>?_) <;> (try simp only [brsA] at h) <;> conv=>whnf)|(refine Or.inl ?_;(conv=>whnf);refine ⟨_,c1,?_⟩;conv=>whnf)|((first|refine wf ?_|refine wp' ?_|refine ai ?_|refine And.intro rfl ?_|refine an ?_|fail);conv=>whnf))
 all_goals first|contradiction|(exfalso;omega)|skip
def sideZ (a b c:RS):Int:=(axR a*(ayR b*c.w - b.w*ayR c) - ayR a*(axR b*c.w - b.w*axR c))+a.w*(axR b*ayR c - ayR b*axR c)
theorem mulI_lt {x y:Int} {a b:Nat} (hx:x.natAbs < 2 ^ a) (hy:y.natAbs < 2 ^ b):(x*y).natAbs < 2 ^ (a+b):=by
 rw [Int.natAbs_mul,Nat.pow_add]
 exact Nat.mul_lt_mul'' hx hy
theorem subI_lt {x y:Int} {a:Nat} (hx:x.natAbs < 2 ^ a) (hy:y.natAbs < 2 ^ a):(x - y).natAbs < 2 ^ (a+1):=by
 rw [Nat.pow_succ]; omega
theorem addI_lt {x y:Int} {a:Nat} (hx:x.natAbs < 2 ^ a) (hy:y.natAbs < 2 ^ a):(x+y).natAbs < 2 ^ (a+1):=by
 rw [Nat.pow_succ]; omega
theorem pw_le (a b:Nat) (h:a≤b):2 ^ a≤2 ^ b:=Nat.pow_le_pow_right (by decide) h
theorem lt_pw {x a b:Nat} (h:x < 2 ^ a) (hab:a≤b):x < 2 ^ b:=Nat.lt_of_lt_of_le h (pw_le a b hab)
theorem p512' (a:Nat) (h:a≤512):2 ^ a≤65536 ^ 32:=by
 rw [show (65536:Nat)=2 ^ 16 from rfl,← Nat.pow_mul]
 have hb:a≤16*32:=h
 generalize 16*32=b at *
 exact pw_le a b hb
theorem lt512 {x a:Nat} (h:x < 2 ^ a) (ha:a≤512):x < 65536 ^ 32:=Nat.lt_of_lt_of_le h (p512' a ha)
theorem p512 (a:Nat) (h:a≤511):2 ^ a+2 ^ a≤65536 ^ 32:=by
 have e:2 ^ a+2 ^ a=2 ^ (a+1):=by rw [Nat.pow_succ,Nat.mul_two]
 rw [e]
 exact p512' (a+1) (by omega)
theorem vMul_p {x y:Int} (a b:Nat) (hx:x.natAbs < 2 ^ a) (hy:y.natAbs < 2 ^ b) (hb:b≤256) (ha:a+b≤500):ACalls Tryz.prog G 140 [intN x,intN y] (intN (x*y)):=by
 have k:=mulI_lt hx hy
 rw [Int.natAbs_mul] at k
 have e1:=p512 a (by omega)
 have e2:=p512 (a+b) (by omega)
 have e3:(2:Nat) ^ b≤65536 ^ 16:=by
  rw [show (65536:Nat)=2 ^ 16 from rfl,← Nat.pow_mul]
  exact Nat.pow_le_pow_right (by decide) hb
 exact vMul_c x y (by omega) (by omega) (by omega)
theorem vSub_p {x y:Int} (a:Nat) (hx:x.natAbs < 2 ^ a) (hy:y.natAbs < 2 ^ a) (ha:a≤500):ACalls Tryz.prog G 141 [intN x,intN y] (intN (x - y)):=by
 have e1:=p512 a (by omega)
 exact vSub_c x y (by omega)
theorem vAdd_p {x y:Int} (a:Nat) (hx:x.natAbs < 2 ^ a) (hy:y.natAbs < 2 ^ a) (ha:a≤500):ACalls Tryz.prog G 142 [intN x,intN y] (intN (x+y)):=by
 have e1:=p512 a (by omega)
 exact vAdd_c x y (by omega)
theorem intN_sg (x:Int):intN x=sgV (decide (x < 0)) (wW x.natAbs):=rfl
theorem intN_sgw (w:Nat):intN (w:Int)=sgV false (wW w):=intN_nat w
theorem intN_0:intN 0=sgZ:=rfl
theorem side_r {a b c:RS} (ha:MayR a) (hb:MayR b) (hc:MayR c):ACalls Tryz.prog G 107 [spR a,spR b,spR c] (.int .i64 (cmpZ (sideZ a b c) 0)):=by
 have a1:(axR a).natAbs < 2 ^ 120:=sgI_lt ha.1.1
 have a2:(ayR a).natAbs < 2 ^ 120:=sgI_lt ha.1.2.1
 have a3:(a.w:Int).natAbs < 2 ^ 120:=ha.1.2.2
 have b1:(axR b).natAbs < 2 ^ 120:=sgI_lt hb.1.1
 have b2:(ayR b).natAbs < 2 ^ 120:=sgI_lt hb.1.2.1
 have b3:(b.w:Int).natAbs < 2 ^ 120:=hb.1.2.2
 have c1:(axR c).natAbs < 2 ^ 120:=sgI_lt hc.1.1
 have c2:(ayR c).natAbs < 2 ^ 120:=sgI_lt hc.1.2.1
 have c3:(c.w:Int).natAbs < 2 ^ 120:=hc.1.2.2
 rw [spR_spot ha,spR_spot hb,spR_spot hc]
 unfold sideZ spotA
 generalize axR a=x1 at *
 generalize ayR a=x2 at *
 generalize axR b=x4 at *
 generalize ayR b=x5 at *
 generalize axR c=x7 at *
 generalize ayR c=x8 at *
 have m10:=mulI_lt b2 c3
 have m11:=mulI_lt b3 c2
 have m12:=subI_lt m10 m11
 have m13:=mulI_lt a1 m12
 have m14:=mulI_lt b1 c3
 have m15:=mulI_lt b3 c1
 have m16:=subI_lt m14 m15
 have m17:=mulI_lt a2 m16
 have m18:=mulI_lt b1 c2
 have m19:=mulI_lt b2 c1
 have m20:=subI_lt m18 m19
 have m21:=mulI_lt a3 m20
 have m22:=subI_lt m13 m17
 have m21':=lt_pw (b:=120+(120+120+1)+1) m21 (by decide)
 have m23:=addI_lt m22 m21'
 have hz:=sCmp_c (G:=G) _ 0 (lt512 m23 (by decide)) (by decide)
 have h10:=vMul_p (G:=G) 120 120 b2 c3 (by decide) (by decide)
 have h11:=vMul_p (G:=G) 120 120 b3 c2 (by decide) (by decide)
 have h12:=vSub_p (G:=G) (120+120) m10 m11 (by decide)
 have h13:=vMul_p (G:=G) 120 (120+120+1) a1 m12 (by decide) (by decide)
 have h14:=vMul_p (G:=G) 120 120 b1 c3 (by decide) (by decide)
 have h15:=vMul_p (G:=G) 120 120 b3 c1 (by decide) (by decide)
 have h16:=vSub_p (G:=G) (120+120) m14 m15 (by decide)
 have h17:=vMul_p (G:=G) 120 (120+120+1) a2 m16 (by decide) (by decide)
 have h18:=vMul_p (G:=G) 120 120 b1 c2 (by decide) (by decide)
 have h19:=vMul_p (G:=G) 120 120 b2 c1 (by decide) (by decide)
 have h20:=vSub_p (G:=G) (120+120) m18 m19 (by decide)
 have h21:=vMul_p (G:=G) 120 (120+120+1) a3 m20 (by decide) (by decide)
 have h22:=vSub_p (G:=G) (120+(120+120+1)) m13 m17 (by decide)
 have h23:=vAdd_p (G:=G) (120+(120+120+1)+1) m22 m21' (by decide)
 simp only [intN_sgw,intN_0] at h10 h11 h12 h13 h14 h15 h16 h17 h18 h19 h20 h21 h22 h23 hz
 simp only [intN_sg] at h10 h11 h12 h13 h14 h15 h16 h17 h18 h19 h20 h21 h22 h23 hz
 exact side_w h10 h11 h12 h13 h14 h15 h16 h17 h18 h19 h20 h21 h22 h23 hz
def d3 (x y z:Int):List Nat:=timesL (timesL (dW (wW x.natAbs)) (dW (wW y.natAbs))) (dW (wW z.natAbs))
def n3 (x y z:Int):Bool:=(decide (x < 0) != decide (y < 0)) != decide (z < 0)
theorem d3_ok (x y z:Int):DigP (d3 x y z):=timesL_ok (timesL_ok (dW_ok (wW_ok _)) (dW_ok (wW_ok _))) (dW_ok (wW_ok _))
theorem d3_len (x y z:Int):(d3 x y z).length=96:=by unfold d3; rw [timesL_len,timesL_len,dW_len,dW_len,dW_len]
theorem d3_val {x y z:Int} (hx:x.natAbs < 65536 ^ 32) (hy:y.natAbs < 65536 ^ 32) (hz:z.natAbs < 65536 ^ 32):val (d3 x y z)=x.natAbs*y.natAbs*z.natAbs:=by
 unfold d3
 rw [timesL_val (timesL_ok (dW_ok (wW_ok _)) (dW_ok (wW_ok _))) (dW_ok (wW_ok _)),timesL_val (dW_ok (wW_ok _)) (dW_ok (wW_ok _))]
 show wv (wW x.natAbs)*wv (wW y.natAbs)*wv (wW z.natAbs)=_
 rw [wv_wW hx,wv_wW hy,wv_wW hz]
theorem d3_int {x y z:Int} (hx:x.natAbs < 65536 ^ 32) (hy:y.natAbs < 65536 ^ 32) (hz:z.natAbs < 65536 ^ 32):(if n3 x y z=true then -(val (d3 x y z):Int) else (val (d3 x y z):Int))=x*y*z:=by
 rw [d3_val hx hy hz]
 unfold n3
 have key:∀ a:Int,a=(if decide (a < 0)=true then -(a.natAbs:Int) else (a.natAbs:Int)):=fun a=>by
  by_cases h:a < 0
  ·rw [if_pos (decide_eq_true h)]; omega
  ·rw [if_neg (by simpa using h)]; omega
 have ex:=key x
 have ey:=key y
 have ez:=key z
 generalize x.natAbs=X at *
 generalize y.natAbs=Y at *
 generalize z.natAbs=Z at *
 generalize decide (x < 0)=p at *
 generalize decide (y < 0)=q at *
 generalize decide (z < 0)=r at *
 subst ex ey ez
 push_cast
 cases p <;> cases q <;> cases r <;> simp [Int.neg_mul,Int.mul_neg]
theorem three_c (x y z:Int):ACalls Tryz.prog G 109 [intN x,intN y,intN z] (.agg [.sb (n3 x y z),digA (d3 x y z)]):=by
 have c1:=digits03_c (G:=G) (wW x.natAbs) (wW_ok _)
 have c2:=digits03_c (G:=G) (wW y.natAbs) (wW_ok _)
 have c3:=digits03_c (G:=G) (wW z.natAbs) (wW_ok _)
 have o1:=dW_ok (wW_ok x.natAbs)
 have o2:=dW_ok (wW_ok y.natAbs)
 have o3:=dW_ok (wW_ok z.natAbs)
 have t1:=times_c (G:=G) _ _ o1 o2 (by rw [dW_len]; decide) (by rw [dW_len]; decide)
 have t2:=times_c (G:=G) _ _ (timesL_ok o1 o2) o3 (by rw [timesL_len,dW_len,dW_len]; decide) (by rw [dW_len]; decide)
 unfold d3 n3
 clear o1 o2 o3
 generalize timesL (timesL (dW (wW x.natAbs)) (dW (wW y.natAbs))) (dW (wW z.natAbs))=L5 at *
 generalize timesL (dW (wW x.natAbs)) (dW (wW y.natAbs))=L4 at *
 generalize dW (wW x.natAbs)=L1 at *
 generalize dW (wW y.natAbs)=L2 at *
 generalize dW (wW z.natAbs)=L3 at *
 unfold intN sgnA wideA at *
 generalize wW x.natAbs=X at *
 generalize wW y.natAbs=Y at *
 generalize wW z.natAbs=Z at *
 generalize decide (x < 0)=p at *
 generalize decide (y < 0)=q at *
 generalize decide (z < 0)=r at *
 refine ACalls.of_WA ttok Tryz.func109 rfl rfl _ rfl ?_
 conv=>whnf
 repeat' (first|refine sq ?_|refine bk ?_|((first|refine rg ttok ?_|refine dw ttok mixed ?_|refine cd ?_|refine sk ?_|refine xt ?_|refine rt ?_);conv=>whnf)|(refine And.intro (fun h=>?_) (fun h=>?_) <;> (try simp only [brsA] at h) <;> conv=>whnf)|(refine Or.inl ?_;(conv=>whnf);(first|refine ⟨_,c1,?_⟩|refine ⟨_,c2,?_⟩|refine ⟨_,c3,?_⟩|refine ⟨_,t1,?_⟩|refine ⟨_,t2,?_⟩);conv=>whnf)|((first|refine wf ?_|refine wp' ?_|refine ai ?_|refine And.intro rfl ?_|refine an ?_|fail);conv=>whnf))
 exact Or.inl fun _ _=>rfl
def tg (n:Bool) (L:List Nat):Int:=if n=true then -(val L:Int) else (val L:Int)
theorem plusN_le {a b:List Nat} (ha:DigP a) (hb:DigP b):plusN a b≤max a.length b.length+1:=by
 unfold plusN
 have:=crP_le (fun i=>ha.get i) (fun i=>hb.get i) (max a.length b.length)
 omega
def nxU (n n':Bool) (L L' U:List Nat):List Nat:=match n,n' with
 | false,true=>plusL (plusL U L) L'
 | false,false=>plusL U L
 | true,true=>plusL U L'
 | true,false=>U
def nxD (n n':Bool) (L L' D:List Nat):List Nat:=match n,n' with
 | false,true=>D
 | false,false=>plusL D L'
 | true,true=>plusL D L
 | true,false=>plusL (plusL D L) L'
def SdI (i:Nat) (z:Int) (U D:List Nat):Prop:=DigP U∧DigP D∧U.length≤100+2*i∧D.length≤100+2*i∧(val U:Int) - val D=z
theorem plus_len' {U L:List Nat} {k:Nat} (hu:DigP U) (hl:DigP L) (h:U.length≤k) (hL:L.length≤k):(plusL U L).length≤k+1:=by
 rw [plusL_len]
 have:=plusN_le hu hl
 omega
theorem nx_I {i:Nat} {z:Int} {U D L L':List Nat} {n n':Bool} (h:SdI i z U D) (o:DigP L) (o':DigP L') (l:L.length=96) (l':L'.length=96):SdI (i+1) (z+tg n L - tg n' L') (nxU n n' L L' U) (nxD n n' L L' D):=by
 obtain ⟨h1,h2,h3,h4,h5⟩:=h
 have v1:=plusL_val h1 o
 have v2:=plusL_val h1 o'
 have v3:=plusL_val (plusL_ok U L) o'
 have v4:=plusL_val h2 o
 have v5:=plusL_val h2 o'
 have v6:=plusL_val (plusL_ok D L) o'
 have k1:=plus_len' (k:=100+2*i) h1 o h3 (by omega)
 have k2:=plus_len' (k:=100+2*i) h1 o' h3 (by omega)
 have k3:=plus_len' (k:=100+2*i+1) (plusL_ok U L) o' k1 (by omega)
 have k4:=plus_len' (k:=100+2*i) h2 o h4 (by omega)
 have k5:=plus_len' (k:=100+2*i) h2 o' h4 (by omega)
 have k6:=plus_len' (k:=100+2*i+1) (plusL_ok D L) o' k4 (by omega)
 cases n <;> cases n' <;> refine ⟨?_,?_,?_,?_,?_⟩ <;> first|exact h1|exact h2|exact plusL_ok _ _|(simp only [nxU,nxD];omega)|(simp only [nxU,nxD,tg,if_true,Bool.false_eq_true,if_false];omega)
def SdS (z1 z2 z3:Int) (i:Nat):Int:=match i with
 | 0=>0
 | 1=>z1
 | 2=>z1+z2
 | _=>z1+z2+z3
theorem DigP_nil:DigP []:=fun _ h=>absurd h (by simp)
theorem rside_w {p1 p2 p4 p5 p7 p8:Bool} {V1 V2 V3 V4 V5 V6 V7 V8 V9:Nat→Nat} {n1 n2 n3 n4 n5 n6:Bool} {L1 L2 L3 L4 L5 L6:List Nat} (h1:ACalls Tryz.prog G 109 [sgV p1 V1,sgV p5 V5,sgV false V9] (.agg [.sb n1,digA L1])) (h2:ACalls Tryz.prog G 109 [sgV p2 V2,sgV false V6,sgV p7 V7] (.agg [.sb n2,digA L2])) (h3:ACalls Tryz.prog G 109 [sgV false V3,sgV p4 V4,sgV p8 V8] (.agg [.sb n3,digA L3])) (h4:ACalls Tryz.prog G 109 [sgV p1 V1,sgV false V6,sgV p8 V8] (.agg [.sb n4,digA L4])) (h5:ACalls Tryz.prog G 109 [sgV p2 V2,sgV p4 V4,sgV false V9] (.agg [.sb n5,digA L5])) (h6:ACalls Tryz.prog G 109 [sgV false V3,sgV p5 V5,sgV p7 V7] (.agg [.sb n6,digA L6]))
  (o1:DigP L1) (o2:DigP L2) (o3:DigP L3) (o4:DigP L4) (o5:DigP L5) (o6:DigP L6) (l1:L1.length=96) (l2:L2.length=96) (l3:L3.length=96) (l4:L4.length=96) (l5:L5.length=96) (l6:L6.length=96) :
  ACalls Tryz.prog G 77 [.agg (spotL p1 p2 V1 V2 V3),.agg (spotL p4 p5 V4 V5 V6),.agg (spotL p7 p8 V7 V8 V9)] (.int .i64 (cmpZ (0+tg n1 L1 - tg n4 L4+tg n2 L2 - tg n5 L5+tg n3 L3 - tg n6 L6) 0)):=by
 have h1:=h1.fit (args':=[sgV p1 V1,sgV p5 V5,sgB V9]) (by
  conv=>whnf
  repeat (first|exact fa|((first|refine fb ?_|(refine And.intro ?_ ?_;rotate_left));conv=>whnf)))
 have h2:=h2.fit (args':=[sgV p2 V2,sgB V6,sgV p7 V7]) (by
  conv=>whnf
  repeat (first|exact fa|((first|refine fb ?_|(refine And.intro ?_ ?_;rotate_left));conv=>whnf)))
 have h3:=h3.fit (args':=[sgB V3,sgV p4 V4,sgV p8 V8]) (by
  conv=>whnf
  repeat (first|exact fa|((first|refine fb ?_|(refine And.intro ?_ ?_;rotate_left));conv=>whnf)))
 have h4:=h4.fit (args':=[sgV p1 V1,sgB V6,sgV p8 V8]) (by
  conv=>whnf
  repeat (first|exact fa|((first|refine fb ?_|(refine And.intro ?_ ?_;rotate_left));conv=>whnf)))
 have h5:=h5.fit (args':=[sgV p2 V2,sgV p4 V4,sgB V9]) (by
  conv=>whnf
  repeat (first|exact fa|((first|refine fb ?_|(refine And.intro ?_ ?_;rotate_left));conv=>whnf)))
 have h6:=h6.fit (args':=[sgB V3,sgV p5 V5,sgV p7 V7]) (by
  conv=>whnf
  repeat (first|exact fa|((first|refine fb ?_|(refine And.intro ?_ ?_;rotate_left));conv=>whnf)))
 unfold spotL sgV sgB at *
 refine ACalls.of_WA ttok Tryz.func77 rfl rfl _ rfl ?_
 conv=>whnf
 repeat' (first|refine sq ?_|refine bk ?_|((first|refine rg ttok ?_|refine dw ttok mixed ?_|refine cd ?_|refine sk ?_|refine xt ?_|refine rt ?_);conv=>whnf)|(refine And.intro (fun h=>?_) (fun h=>?_) <;> (try simp only [brsA] at h) <;> conv=>whnf)|(refine Or.inl ?_;(conv=>whnf);(first|refine ⟨_,h1,?_⟩|refine ⟨_,h2,?_⟩|refine ⟨_,h3,?_⟩|refine ⟨_,h4,?_⟩|refine ⟨_,h5,?_⟩|refine ⟨_,h6,?_⟩);conv=>whnf)|((first|refine wf ?_|refine wp' ?_|refine ai ?_|refine And.intro rfl ?_|refine an ?_|fail);conv=>whnf))
 clear h1 h2 h3 h4 h5 h6
 refine WA_freeze 8 ?_
 conv=>whnf
 refine WA_freeze 9 ?_
 conv=>whnf
 refine WA_ren [] rfl ?_
 conv=>whnf
 refine WA_loopI (fun x:Nat × List Nat × List Nat=>x.1≤3∧SdI x.1 (match x.1 with | 0=>0 | 1=>0+tg n1 L1 - tg n4 L4 | 2=>0+tg n1 L1 - tg n4 L4+tg n2 L2 - tg n5 L5 | _=>0+tg n1 L1 - tg n4 L4+tg n2 L2 - tg n5 L5+tg n3 L3 - tg n6 L6) x.2.1 x.2.2) (fun x=>match x with | (i,U,D)=>[(12,digA U),(13,digA D),(14,.int .i64 (i:Int))]) (fun _=>[]) (fun x=>3 - x.1) (0,[],[]) ⟨by decide,DigP_nil,DigP_nil,by simp,by simp,rfl⟩ ?_ ?_
 ·conv=>whnf
  repeat (first|exact fa|((first|refine fb ?_|(refine And.intro ?_ ?_;rotate_left));conv=>whnf))
  all_goals first|exact Or.inl fun i h=>absurd h (Nat.not_lt_zero i)
 ·rintro ⟨i,U,D⟩ ⟨hi,hI⟩
  have hi:i≤3:=hi
  have nq:∀ {p:Prop},(false=true)→p:=fun e=>Bool.noConfusion e
  have nt:∀ {p:Prop},(true=false)→p:=fun e=>Bool.noConfusion e
  rcases (show i=0∨i=1∨i=2∨i=3 by omega) with rfl | rfl | rfl | rfl
  ·have hI:SdI 0 (0) U D:=hI
   have hx:=nx_I (n:=n1) (n':=n4) hI o1 o4 l1 l4
   obtain ⟨u1,u2,u3,u4,_⟩:=hI
   have k1:=plus_c (G:=G) U L1 u1 o1 (by omega) (by omega)
   have k2:=plus_c (G:=G) U L4 u1 o4 (by omega) (by omega)
   have k3:=plus_c (G:=G) D L1 u2 o1 (by omega) (by omega)
   have k4:=plus_c (G:=G) D L4 u2 o4 (by omega) (by omega)
   have e1:=plus_len' u1 o1 u3 (by omega)
   have e2:=plus_len' u2 o1 u4 (by omega)
   have k5:=plus_c (G:=G) (plusL U L1) L4 (plusL_ok _ _) o4 (by omega) (by omega)
   have k6:=plus_c (G:=G) (plusL D L1) L4 (plusL_ok _ _) o4 (by omega) (by omega)
   clear e1 e2 u1 u2 u3 u4
   cases n1 <;> cases n4
   all_goals simp only [nxU,nxD] at hx
   all_goals generalize plusL (plusL U L1) L4=W5 at *
   all_goals generalize plusL (plusL D L1) L4=W6 at *
   all_goals generalize plusL U L1=W1 at *
   all_goals generalize plusL U L4=W2 at *
   all_goals generalize plusL D L1=W3 at *
   all_goals generalize plusL D L4=W4 at *
   all_goals
    conv=>whnf
    repeat (first|refine sq ?_|refine bk ?_|((first|refine rg ttok ?_|refine dw ttok mixed ?_|refine cd ?_|refine sk ?_|refine xt ?_|refine rt ?_);conv=>whnf))
    refine ⟨fun h=>?_,fun h=>absurd h (by decide)⟩
    conv=>whnf
    repeat' (first|(first|with_reducible exact nq h|with_reducible exact nt h)|refine sq ?_|refine bk ?_|((first|refine rg ttok ?_|refine dw ttok mixed ?_|refine cd ?_|refine sk ?_|refine xt ?_|refine rt ?_);conv=>whnf)|(refine And.intro (fun h=>?_) (fun h=>?_) <;> (try simp only [brsA] at h) <;> conv=>whnf)|(refine Or.inl ?_;(conv=>whnf);(first|refine ⟨_,k1,?_⟩|refine ⟨_,k2,?_⟩|refine ⟨_,k3,?_⟩|refine ⟨_,k4,?_⟩|refine ⟨_,k5,?_⟩|refine ⟨_,k6,?_⟩);conv=>whnf)|((first|refine wf ?_|refine wp' ?_|refine ai ?_|refine And.intro rfl ?_|refine an ?_|fail);conv=>whnf))
    refine ⟨(1,_,_),⟨(by show 1≤3; decide),hx⟩,(by show 3 - 1 < 3 - 0; decide),?_⟩
    conv=>whnf
    repeat (first|exact fa|((first|refine fb ?_|(refine And.intro ?_ ?_;rotate_left));conv=>whnf))
  ·have hI:SdI 1 (0+tg n1 L1 - tg n4 L4) U D:=hI
   have hx:=nx_I (n:=n2) (n':=n5) hI o2 o5 l2 l5
   obtain ⟨u1,u2,u3,u4,_⟩:=hI
   have k1:=plus_c (G:=G) U L2 u1 o2 (by omega) (by omega)
   have k2:=plus_c (G:=G) U L5 u1 o5 (by omega) (by omega)
   have k3:=plus_c (G:=G) D L2 u2 o2 (by omega) (by omega)
   have k4:=plus_c (G:=G) D L5 u2 o5 (by omega) (by omega)
   have e1:=plus_len' u1 o2 u3 (by omega)
   have e2:=plus_len' u2 o2 u4 (by omega)
   have k5:=plus_c (G:=G) (plusL U L2) L5 (plusL_ok _ _) o5 (by omega) (by omega)
   have k6:=plus_c (G:=G) (plusL D L2) L5 (plusL_ok _ _) o5 (by omega) (by omega)
   clear e1 e2 u1 u2 u3 u4
   cases n2 <;> cases n5
   all_goals simp only [nxU,nxD] at hx
   all_goals generalize plusL (plusL U L2) L5=W5 at *
   all_goals generalize plusL (plusL D L2) L5=W6 at *
   all_goals generalize plusL U L2=W1 at *
   all_goals generalize plusL U L5=W2 at *
   all_goals generalize plusL D L2=W3 at *
   all_goals generalize plusL D L5=W4 at *
   all_goals
    conv=>whnf
    repeat (first|refine sq ?_|refine bk ?_|((first|refine rg ttok ?_|refine dw ttok mixed ?_|refine cd ?_|refine sk ?_|refine xt ?_|refine rt ?_);conv=>whnf))
    refine ⟨fun h=>?_,fun h=>absurd h (by decide)⟩
    conv=>whnf
    repeat' (first|(first|with_reducible exact nq h|with_reducible exact nt h)|refine sq ?_|refine bk ?_|((first|refine rg ttok ?_|refine dw ttok mixed ?_|refine cd ?_|refine sk ?_|refine xt ?_|refine rt ?_);conv=>whnf)|(refine And.intro (fun h=>?_) (fun h=>?_) <;> (try simp only [brsA] at h) <;> conv=>whnf)|(refine Or.inl ?_;(conv=>whnf);(first|refine ⟨_,k1,?_⟩|refine ⟨_,k2,?_⟩|refine ⟨_,k3,?_⟩|refine ⟨_,k4,?_⟩|refine ⟨_,k5,?_⟩|refine ⟨_,k6,?_⟩);conv=>whnf)|((first|refine wf ?_|refine wp' ?_|refine ai ?_|refine And.intro rfl ?_|refine an ?_|fail);conv=>whnf))
    refine ⟨(2,_,_),⟨(by show 2≤3; decide),hx⟩,(by show 3 - 2 < 3 - 1; decide),?_⟩
    conv=>whnf
    repeat (first|exact fa|((first|refine fb ?_|(refine And.intro ?_ ?_;rotate_left));conv=>whnf))
  ·have hI:SdI 2 (0+tg n1 L1 - tg n4 L4+tg n2 L2 - tg n5 L5) U D:=hI
   have hx:=nx_I (n:=n3) (n':=n6) hI o3 o6 l3 l6
   obtain ⟨u1,u2,u3,u4,_⟩:=hI
   have k1:=plus_c (G:=G) U L3 u1 o3 (by omega) (by omega)
   have k2:=plus_c (G:=G) U L6 u1 o6 (by omega) (by omega)
   have k3:=plus_c (G:=G) D L3 u2 o3 (by omega) (by omega)
   have k4:=plus_c (G:=G) D L6 u2 o6 (by omega) (by omega)
   have e1:=plus_len' u1 o3 u3 (by omega)
   have e2:=plus_len' u2 o3 u4 (by omega)
   have k5:=plus_c (G:=G) (plusL U L3) L6 (plusL_ok _ _) o6 (by omega) (by omega)
   have k6:=plus_c (G:=G) (plusL D L3) L6 (plusL_ok _ _) o6 (by omega) (by omega)
   clear e1 e2 u1 u2 u3 u4
   cases n3 <;> cases n6
   all_goals simp only [nxU,nxD] at hx
   all_goals generalize plusL (plusL U L3) L6=W5 at *
   all_goals generalize plusL (plusL D L3) L6=W6 at *
   all_goals generalize plusL U L3=W1 at *
   all_goals generalize plusL U L6=W2 at *
   all_goals generalize plusL D L3=W3 at *
   all_goals generalize plusL D L6=W4 at *
   all_goals
    conv=>whnf
    repeat (first|refine sq ?_|refine bk ?_|((first|refine rg ttok ?_|refine dw ttok mixed ?_|refine cd ?_|refine sk ?_|refine xt ?_|refine rt ?_);conv=>whnf))
    refine ⟨fun h=>?_,fun h=>absurd h (by decide)⟩
    conv=>whnf
    repeat' (first|(first|with_reducible exact nq h|with_reducible exact nt h)|refine sq ?_|refine bk ?_|((first|refine rg ttok ?_|refine dw ttok mixed ?_|refine cd ?_|refine sk ?_|refine xt ?_|refine rt ?_);conv=>whnf)|(refine And.intro (fun h=>?_) (fun h=>?_) <;> (try simp only [brsA] at h) <;> conv=>whnf)|(refine Or.inl ?_;(conv=>whnf);(first|refine ⟨_,k1,?_⟩|refine ⟨_,k2,?_⟩|refine ⟨_,k3,?_⟩|refine ⟨_,k4,?_⟩|refine ⟨_,k5,?_⟩|refine ⟨_,k6,?_⟩);conv=>whnf)|((first|refine wf ?_|refine wp' ?_|refine ai ?_|refine And.intro rfl ?_|refine an ?_|fail);conv=>whnf))
    refine ⟨(3,_,_),⟨(by show 3≤3; decide),hx⟩,(by show 3 - 3 < 3 - 2; decide),?_⟩
    conv=>whnf
    repeat (first|exact fa|((first|refine fb ?_|(refine And.intro ?_ ?_;rotate_left));conv=>whnf))
  ·have hI:SdI 3 (0+tg n1 L1 - tg n4 L4+tg n2 L2 - tg n5 L5+tg n3 L3 - tg n6 L6) U D:=hI
   obtain ⟨u1,u2,u3,u4,hv⟩:=hI
   have hv:(val U:Int) - val D=0+tg n1 L1 - tg n4 L4+tg n2 L2 - tg n5 L5+tg n3 L3 - tg n6 L6:=hv
   rw [← hv]
   have k1:=less_c (G:=G) D U u2 u1 (by omega) (by omega)
   have k2:=less_c (G:=G) U D u1 u2 (by omega) (by omega)
   unfold cmpZ
   clear hv
   generalize val U=u at *
   generalize val D=d at *
   rcases Nat.lt_trichotomy u d with q | q | q
   ·rw [decide_eq_false (by omega)] at k1
    rw [decide_eq_true q] at k2
    rw [if_pos (by omega)]
    conv=>whnf
    repeat (first|refine sq ?_|refine bk ?_|((first|refine rg ttok ?_|refine dw ttok mixed ?_|refine cd ?_|refine sk ?_|refine xt ?_|refine rt ?_);conv=>whnf))
    refine ⟨fun h=>absurd h (by decide),fun h=>?_⟩
    conv=>whnf
    repeat' (first|(first|with_reducible exact nq h|with_reducible exact nt h)|refine sq ?_|refine bk ?_|((first|refine rg ttok ?_|refine dw ttok mixed ?_|refine cd ?_|refine sk ?_|refine xt ?_|refine rt ?_);conv=>whnf)|(refine And.intro (fun h=>?_) (fun h=>?_) <;> (try simp only [brsA] at h) <;> conv=>whnf)|(refine Or.inl ?_;(conv=>whnf);(first|refine ⟨_,k1,?_⟩|refine ⟨_,k2,?_⟩);conv=>whnf)|((first|refine wf ?_|refine wp' ?_|refine ai ?_|refine And.intro rfl ?_|refine an ?_|fail);conv=>whnf))
    all_goals first|contradiction|rfl
   ·rw [decide_eq_false (by omega)] at k1
    rw [decide_eq_false (by omega)] at k2
    rw [if_neg (by omega),if_neg (by omega)]
    conv=>whnf
    repeat (first|refine sq ?_|refine bk ?_|((first|refine rg ttok ?_|refine dw ttok mixed ?_|refine cd ?_|refine sk ?_|refine xt ?_|refine rt ?_);conv=>whnf))
    refine ⟨fun h=>absurd h (by decide),fun h=>?_⟩
    conv=>whnf
    repeat' (first|(first|with_reducible exact nq h|with_reducible exact nt h)|refine sq ?_|refine bk ?_|((first|refine rg ttok ?_|refine dw ttok mixed ?_|refine cd ?_|refine sk ?_|refine xt ?_|refine rt ?_);conv=>whnf)|(refine And.intro (fun h=>?_) (fun h=>?_) <;> (try simp only [brsA] at h) <;> conv=>whnf)|(refine Or.inl ?_;(conv=>whnf);(first|refine ⟨_,k1,?_⟩|refine ⟨_,k2,?_⟩);conv=>whnf)|((first|refine wf ?_|refine wp' ?_|refine ai ?_|refine And.intro rfl ?_|refine an ?_|fail);conv=>whnf))
    all_goals first|contradiction|rfl
   ·rw [decide_eq_true q] at k1
    rw [if_neg (by omega),if_pos (by omega)]
    conv=>whnf
    repeat (first|refine sq ?_|refine bk ?_|((first|refine rg ttok ?_|refine dw ttok mixed ?_|refine cd ?_|refine sk ?_|refine xt ?_|refine rt ?_);conv=>whnf))
    refine ⟨fun h=>absurd h (by decide),fun h=>?_⟩
    conv=>whnf
    repeat' (first|(first|with_reducible exact nq h|with_reducible exact nt h)|refine sq ?_|refine bk ?_|((first|refine rg ttok ?_|refine dw ttok mixed ?_|refine cd ?_|refine sk ?_|refine xt ?_|refine rt ?_);conv=>whnf)|(refine And.intro (fun h=>?_) (fun h=>?_) <;> (try simp only [brsA] at h) <;> conv=>whnf)|(refine Or.inl ?_;(conv=>whnf);(first|refine ⟨_,k1,?_⟩|refine ⟨_,k2,?_⟩);conv=>whnf)|((first|refine wf ?_|refine wp' ?_|refine ai ?_|refine And.intro rfl ?_|refine an ?_|fail);conv=>whnf))
    all_goals first|contradiction|rfl
theorem p120i {x:Int} (h:x.natAbs < 2 ^ 120):x.natAbs < 65536 ^ 32:=Nat.lt_trans h (by decide)
theorem rside_r {a b c:RS} (ha:MayR a) (hb:MayR b) (hc:MayR c):ACalls Tryz.prog G 77 [spR a,spR b,spR c] (.int .i64 (cmpZ (sideZ a b c) 0)):=by
 have a1:(axR a).natAbs < 65536 ^ 32:=p120i (sgI_lt ha.1.1)
 have a2:(ayR a).natAbs < 65536 ^ 32:=p120i (sgI_lt ha.1.2.1)
 have a3:(a.w:Int).natAbs < 65536 ^ 32:=p120i (x:=(a.w:Int)) ha.1.2.2
 have b1:(axR b).natAbs < 65536 ^ 32:=p120i (sgI_lt hb.1.1)
 have b2:(ayR b).natAbs < 65536 ^ 32:=p120i (sgI_lt hb.1.2.1)
 have b3:(b.w:Int).natAbs < 65536 ^ 32:=p120i (x:=(b.w:Int)) hb.1.2.2
 have c1:(axR c).natAbs < 65536 ^ 32:=p120i (sgI_lt hc.1.1)
 have c2:(ayR c).natAbs < 65536 ^ 32:=p120i (sgI_lt hc.1.2.1)
 have c3:(c.w:Int).natAbs < 65536 ^ 32:=p120i (x:=(c.w:Int)) hc.1.2.2
 rw [spR_spot ha,spR_spot hb,spR_spot hc]
 unfold sideZ spotA
 generalize axR a=x1 at *
 generalize ayR a=x2 at *
 generalize axR b=x4 at *
 generalize ayR b=x5 at *
 generalize axR c=x7 at *
 generalize ayR c=x8 at *
 have t1:tg (n3 x1 x5 c.w) (d3 x1 x5 c.w)=_:=d3_int a1 b2 c3
 have t2:tg (n3 x2 b.w x7) (d3 x2 b.w x7)=_:=d3_int a2 b3 c1
 have t3:tg (n3 a.w x4 x8) (d3 a.w x4 x8)=_:=d3_int a3 b1 c2
 have t4:tg (n3 x1 b.w x8) (d3 x1 b.w x8)=_:=d3_int a1 b3 c2
 have t5:tg (n3 x2 x4 c.w) (d3 x2 x4 c.w)=_:=d3_int a2 b1 c3
 have t6:tg (n3 a.w x5 x7) (d3 a.w x5 x7)=_:=d3_int a3 b2 c1
 have h1:=three_c (G:=G) x1 x5 c.w
 have h2:=three_c (G:=G) x2 b.w x7
 have h3:=three_c (G:=G) a.w x4 x8
 have h4:=three_c (G:=G) x1 b.w x8
 have h5:=three_c (G:=G) x2 x4 c.w
 have h6:=three_c (G:=G) a.w x5 x7
 simp only [intN_sgw] at h1 h2 h3 h4 h5 h6
 simp only [intN_sg] at h1 h2 h3 h4 h5 h6
 have k:=rside_w h1 h2 h3 h4 h5 h6 (d3_ok _ _ _) (d3_ok _ _ _) (d3_ok _ _ _) (d3_ok _ _ _) (d3_ok _ _ _) (d3_ok _ _ _) (d3_len _ _ _) (d3_len _ _ _) (d3_len _ _ _) (d3_len _ _ _) (d3_len _ _ _) (d3_len _ _ _)
 rw [t1,t2,t3,t4,t5,t6] at k
 rw [show x1*(x5*(c.w:Int) - (b.w:Int)*x8) - x2*(x4*(c.w:Int) - (b.w:Int)*x7)+(a.w:Int)*(x4*x8 - x5*x7)=0+x1*x5*(c.w:Int) - x1*(b.w:Int)*x8+x2*(b.w:Int)*x7 - x2*x4*(c.w:Int)+(a.w:Int)*x4*x8 - (a.w:Int)*x5*x7 by grind]
 exact k
def btw (a b c:RS):Bool:=decide (cmpZ (sideZ a b c) 0=0) && (decide (cmpR a c ≠ 0) && decide (cmpR a c=cmpR c b))
theorem cmpZ_vals (x y:Int):cmpZ x y = -1∨cmpZ x y=0∨cmpZ x y=1:=by
 unfold cmpZ
 split
 ·exact .inl rfl
 ·split
  ·exact .inr (.inr rfl)
  ·exact .inr (.inl rfl)
theorem cmpZ_anti (x y:Int):cmpZ y x = - cmpZ x y:=by
 unfold cmpZ
 split <;> split <;> (try split) <;> omega
theorem cmpR_or (r s:RS):cmpR r s=if cmpZ (axR r*s.w) (axR s*r.w)=0 then cmpZ (ayR r*s.w) (ayR s*r.w) else cmpZ (axR r*s.w) (axR s*r.w):=by
 unfold cmpR cmpS
 show (if _=0 then (if _=0 then 0 else _) else _)=_
 split
 ·split
  ·rename_i h; exact h.symm
  ·rfl
 ·rfl
theorem cmpR_vals (r s:RS):cmpR r s = -1∨cmpR r s=0∨cmpR r s=1:=by
 rw [cmpR_or]
 split <;> exact cmpZ_vals _ _
theorem cmpR_anti (r s:RS):cmpR s r = - cmpR r s:=by
 rw [cmpR_or,cmpR_or r s,cmpZ_anti (axR r*s.w),cmpZ_anti (ayR r*s.w)]
 split <;> split <;> omega
theorem btw_eq (a b c:RS):btw a b c=(decide (cmpZ (sideZ a b c) 0=0) && (decide (cmpR a c < 0) && decide (cmpR c b < 0) || decide (cmpR b c < 0) && decide (cmpR c a < 0))):=by
 unfold btw
 have v1:=cmpR_vals a c
 have v2:=cmpR_vals c b
 rw [cmpR_anti c b,cmpR_anti a c]
 generalize cmpR a c=x at *
 generalize cmpR c b=y at *
 rcases v1 with rfl | rfl | rfl <;> rcases v2 with rfl | rfl | rfl <;> rfl
theorem rBetween_r {a b c:RS} (ha:MayR a) (hb:MayR b) (hc:MayR c):ACalls Tryz.prog G 43 [spR a,spR b,spR c] (.sb (btw a b c)):=by
 have c1:=rCmp_r (G:=G) ha hc
 have c2:=rCmp_r (G:=G) hc hb
 have c3:=rside_r (G:=G) ha hb hc
 unfold btw
 generalize cmpZ (sideZ a b c) 0=s at *
 generalize cmpR a c=x at *
 generalize cmpR c b=y at *
 unfold spR spotL at *
 generalize wW a.x=A1 at *
 generalize wW a.y=A2 at *
 generalize wW a.w=A3 at *
 generalize wW b.x=B1 at *
 generalize wW b.y=B2 at *
 generalize wW b.w=B3 at *
 generalize wW c.x=C1 at *
 generalize wW c.y=C2 at *
 generalize wW c.w=C3 at *
 generalize a.p=p1 at *
 generalize a.q=p2 at *
 generalize b.p=p3 at *
 generalize b.q=p4 at *
 generalize c.p=p5 at *
 generalize c.q=p6 at *
 clear ha hb hc
 refine ACalls.of_WA ttok Tryz.func43 rfl rfl _ rfl ?_
 conv=>whnf
 repeat' (first|refine sq ?_|refine bk ?_|((first|refine rg ttok ?_|refine dw ttok mixed ?_|refine cd ?_|refine sk ?_|refine xt ?_|refine rt ?_);conv=>whnf)|(refine And.intro (fun h=>?_) (fun h=>?_) <;> (try simp only [brsA] at h) <;> conv=>whnf)|(refine Or.inl ?_;(conv=>whnf);(first|refine ⟨_,c1,?_⟩|refine ⟨_,c2,?_⟩|refine ⟨_,c3,?_⟩);conv=>whnf)|((first|refine wf ?_|refine wp' ?_|refine ai ?_|refine And.intro rfl ?_|refine an ?_|fail);conv=>whnf))
 all_goals first|contradiction|skip
 all_goals first|(rename_i hs;rw [decide_eq_true hs,decide_eq_true h];by_cases q:x=y <;> simp [q];done)|(simp_all;done)
theorem ahead_r {a b:RS} (ha:MayR a) (hb:MayR b):ACalls Tryz.prog G 108 [spR a,spR b] (.sb (decide (cmpR a b < 0))):=by
 have c1:=sCmp_r (G:=G) ha.1.rk hb.1.rk
 rw [if_pos ⟨ha,hb⟩,if_pos ⟨ha,hb⟩] at c1
 generalize cmpR a b=s at *
 unfold spR spotL at *
 generalize wW a.x=A1 at *
 generalize wW a.y=A2 at *
 generalize wW a.w=A3 at *
 generalize wW b.x=B1 at *
 generalize wW b.y=B2 at *
 generalize wW b.w=B3 at *
 generalize a.p=p1 at *
 generalize a.q=p2 at *
 generalize b.p=p3 at *
 generalize b.q=p4 at *
 clear ha hb
 refine ACalls.of_WA ttok Tryz.func108 rfl rfl _ rfl ?_
 conv=>whnf
 repeat' (first|refine sq ?_|refine bk ?_|((first|refine rg ttok ?_|refine dw ttok mixed ?_|refine cd ?_|refine sk ?_|refine xt ?_|refine rt ?_);conv=>whnf)|(refine And.intro (fun h=>?_) (fun h=>?_) <;> (try simp only [brsA] at h) <;> conv=>whnf)|(refine Or.inl ?_;(conv=>whnf);refine ⟨_,c1,?_⟩;conv=>whnf)|((first|refine wf ?_|refine wp' ?_|refine ai ?_|refine And.intro rfl ?_|refine an ?_|fail);conv=>whnf))
 all_goals first|contradiction|skip
theorem between_r {a b c:RS} (ha:MayR a) (hb:MayR b) (hc:MayR c):ACalls Tryz.prog G 76 [spR a,spR b,spR c] (.sb (btw a b c)):=by
 have c1:=ahead_r (G:=G) ha hc
 have c2:=ahead_r (G:=G) hc hb
 have c4:=ahead_r (G:=G) hb hc
 have c5:=ahead_r (G:=G) hc ha
 have c3:=side_r (G:=G) ha hb hc
 rw [btw_eq]
 generalize cmpZ (sideZ a b c) 0=s at *
 generalize decide (cmpR a c < 0)=x1 at *
 generalize decide (cmpR c b < 0)=x2 at *
 generalize decide (cmpR b c < 0)=x3 at *
 generalize decide (cmpR c a < 0)=x4 at *
 unfold spR spotL at *
 generalize wW a.x=A1 at *
 generalize wW a.y=A2 at *
 generalize wW a.w=A3 at *
 generalize wW b.x=B1 at *
 generalize wW b.y=B2 at *
 generalize wW b.w=B3 at *
 generalize wW c.x=C1 at *
 generalize wW c.y=C2 at *
 generalize wW c.w=C3 at *
 generalize a.p=p1 at *
 generalize a.q=p2 at *
 generalize b.p=p3 at *
 generalize b.q=p4 at *
 generalize c.p=p5 at *
 generalize c.q=p6 at *
 clear ha hb hc
 refine ACalls.of_WA ttok Tryz.func76 rfl rfl _ rfl ?_
 conv=>whnf
 repeat' (first|refine sq ?_|refine bk ?_|((first|refine rg ttok ?_|refine dw ttok mixed ?_|refine cd ?_|refine sk ?_|refine xt ?_|refine rt ?_);conv=>whnf)|(refine And.intro (fun h=>?_) (fun h=>?_) <;> (try simp only [brsA] at h) <;> conv=>whnf)|(refine Or.inl ?_;(conv=>whnf);(first|refine ⟨_,c1,?_⟩|refine ⟨_,c2,?_⟩|refine ⟨_,c3,?_⟩|refine ⟨_,c4,?_⟩|refine ⟨_,c5,?_⟩);conv=>whnf)|((first|refine wf ?_|refine wp' ?_|refine ai ?_|refine And.intro rfl ?_|refine an ?_|fail);conv=>whnf))
 all_goals first|contradiction|skip
 all_goals first|(simp_all;done)
theorem cloH_c (r:RS) (hk:Rk r):ACalls Tryz.prog G 74 [.agg (rsL r)] (.sb (badS r)):=by
 have m:=sMay_r (G:=G) r hk
 unfold badS
 rw [spR_L] at m
 generalize decide (MayR r)=b at *
 unfold rsL spotL at *
 generalize wW r.x=X at *
 generalize wW r.y=Y at *
 generalize wW r.w=W at *
 refine ACalls.of_WA ttok Tryz.func74 rfl rfl _ rfl ?_
 conv=>whnf
 repeat' (first|refine sq ?_|refine bk ?_|((first|refine rg ttok ?_|refine dw ttok mixed ?_|refine cd ?_|refine sk ?_|refine xt ?_|refine rt ?_);conv=>whnf)|(refine And.intro (fun h=>?_) (fun h=>?_) <;> (try simp only [brsA] at h) <;> conv=>whnf)|(refine Or.inl ?_;(conv=>whnf);refine ⟨_,m,?_⟩;conv=>whnf)|((first|refine wf ?_|refine wp' ?_|refine ai ?_|refine And.intro rfl ?_|refine an ?_|fail);conv=>whnf))
 all_goals first|contradiction|(exfalso;omega)|skip
theorem idxH_c (l:List RS) (hk:∀ r ∈ l,Rk r) (hl:l.length≤1000000):ACalls Tryz.prog G 52 [slS l,.fn 74 []] (.int .i64 (fidxS l)):=by
 refine ACalls.of_WA ttok Tryz.func52 rfl rfl _ rfl ?_
 conv=>whnf
 repeat' (first|refine sq ?_|refine bk ?_|((first|refine rg ttok ?_|refine dw ttok mixed ?_|refine cd ?_|refine sk ?_|refine xt ?_|refine rt ?_);conv=>whnf)|(refine And.intro (fun h=>?_) (fun h=>?_) <;> (try simp only [brsA] at h) <;> conv=>whnf)|((first|refine wf ?_|refine wp' ?_|refine ai ?_|refine And.intro rfl ?_|refine an ?_|fail);conv=>whnf))
 refine WA_loopI (fun i=>i≤l.length ∧ ∀ j,j < i→badS (l.getD j default)=false) (fun i=>[(8,.int .i64 (i:Int))]) (fun i=>[]) (fun i=>l.length - i) 0 ⟨by omega,fun j h=>by omega⟩ ?_ ?_
 ·conv=>whnf
  repeat (first|exact fa|((first|refine fb ?_|(refine And.intro ?_ ?_;rotate_left));conv=>whnf))
 ·rintro i ⟨hi,hI⟩
  have h1:=cloH_c (G:=G) (l.getD i default) (rk_get hk i)
  unfold rsL at *
  conv=>whnf
  repeat' (first|refine sq ?_|refine bk ?_|((first|refine rg ttok ?_|refine dw ttok mixed ?_|refine cd ?_|refine sk ?_|refine xt ?_|refine rt ?_);conv=>whnf)|(refine And.intro (fun h=>?_) (fun h=>?_) <;> (try simp only [brsA] at h) <;> conv=>whnf)|(refine Or.inl ?_;(conv=>whnf);refine ⟨_,h1,?_⟩;conv=>whnf)|((first|refine wf ?_|refine wp' ?_|refine ai ?_|refine And.intro rfl ?_|refine an ?_|fail);conv=>whnf))
  ·exact (fidxS_at (by omega) h hI).symm
  ·refine ⟨i+1,⟨by omega,fun j hj=>by
    by_cases q:j=i
    ·rw [q]; exact h
    ·exact hI j (by omega)⟩,by show l.length - (i+1) < l.length - i; omega,?_⟩
   conv=>whnf
   repeat (first|exact fa|((first|refine fb ?_|(refine And.intro ?_ ?_;rotate_left));conv=>whnf))
  ·exact (fidxS_none (fun j hj=>hI j (by omega))).symm
theorem conH_c (l:List RS) (hk:∀ r ∈ l,Rk r) (hl:l.length≤1000000):ACalls Tryz.prog G 25 [slS l,.fn 74 []] (.sb (l.any badS)):=by
 have h1:=idxH_c (G:=G) l hk hl
 refine ACalls.of_WA ttok Tryz.func25 rfl rfl _ rfl ?_
 conv=>whnf
 repeat' (first|refine sq ?_|refine bk ?_|((first|refine rg ttok ?_|refine dw ttok mixed ?_|refine cd ?_|refine sk ?_|refine xt ?_|refine rt ?_);conv=>whnf)|(refine And.intro (fun h=>?_) (fun h=>?_) <;> (try simp only [brsA] at h) <;> conv=>whnf)|(refine Or.inl ?_;(conv=>whnf);refine ⟨_,h1,?_⟩;conv=>whnf)|((first|refine wf ?_|refine wp' ?_|refine ai ?_|refine And.intro rfl ?_|refine an ?_|fail);conv=>whnf))
 rw [← fidxS_any]
theorem mayH_c (l:List RS) (hk:∀ r ∈ l,Rk r) (hl:l.length≤1000000):ACalls Tryz.prog G 41 [slS l] (.sb (!l.any badS)):=by
 have h1:=conH_c (G:=G) l hk hl
 generalize l.any badS=b at *
 refine ACalls.of_WA ttok Tryz.func41 rfl rfl _ rfl ?_
 conv=>whnf
 repeat' (first|refine sq ?_|refine bk ?_|((first|refine rg ttok ?_|refine dw ttok mixed ?_|refine cd ?_|refine sk ?_|refine xt ?_|refine rt ?_);conv=>whnf)|(refine And.intro (fun h=>?_) (fun h=>?_) <;> (try simp only [brsA] at h) <;> conv=>whnf)|(refine Or.inl ?_;(conv=>whnf);refine ⟨_,h1,?_⟩;conv=>whnf)|((first|refine wf ?_|refine wp' ?_|refine ai ?_|refine And.intro rfl ?_|refine an ?_|fail);conv=>whnf))
theorem cloV_c (r:RS) (hk:Rk r):ACalls Tryz.prog G 106 [.agg (rsL r)] (.sb (badS r)):=by
 have m:=sMay_r (G:=G) r hk
 unfold badS
 rw [spR_L] at m
 generalize decide (MayR r)=b at *
 unfold rsL spotL at *
 generalize wW r.x=X at *
 generalize wW r.y=Y at *
 generalize wW r.w=W at *
 refine ACalls.of_WA ttok Tryz.func106 rfl rfl _ rfl ?_
 conv=>whnf
 repeat' (first|refine sq ?_|refine bk ?_|((first|refine rg ttok ?_|refine dw ttok mixed ?_|refine cd ?_|refine sk ?_|refine xt ?_|refine rt ?_);conv=>whnf)|(refine And.intro (fun h=>?_) (fun h=>?_) <;> (try simp only [brsA] at h) <;> conv=>whnf)|(refine Or.inl ?_;(conv=>whnf);refine ⟨_,m,?_⟩;conv=>whnf)|((first|refine wf ?_|refine wp' ?_|refine ai ?_|refine And.intro rfl ?_|refine an ?_|fail);conv=>whnf))
 all_goals first|contradiction|(exfalso;omega)|skip
theorem idxV_c (l:List RS) (hk:∀ r ∈ l,Rk r) (hl:l.length≤1000000):ACalls Tryz.prog G 52 [slS l,.fn 106 []] (.int .i64 (fidxS l)):=by
 refine ACalls.of_WA ttok Tryz.func52 rfl rfl _ rfl ?_
 conv=>whnf
 repeat' (first|refine sq ?_|refine bk ?_|((first|refine rg ttok ?_|refine dw ttok mixed ?_|refine cd ?_|refine sk ?_|refine xt ?_|refine rt ?_);conv=>whnf)|(refine And.intro (fun h=>?_) (fun h=>?_) <;> (try simp only [brsA] at h) <;> conv=>whnf)|((first|refine wf ?_|refine wp' ?_|refine ai ?_|refine And.intro rfl ?_|refine an ?_|fail);conv=>whnf))
 refine WA_loopI (fun i=>i≤l.length ∧ ∀ j,j < i→badS (l.getD j default)=false) (fun i=>[(8,.int .i64 (i:Int))]) (fun i=>[]) (fun i=>l.length - i) 0 ⟨by omega,fun j h=>by omega⟩ ?_ ?_
 ·conv=>whnf
  repeat (first|exact fa|((first|refine fb ?_|(refine And.intro ?_ ?_;rotate_left));conv=>whnf))
 ·rintro i ⟨hi,hI⟩
  have h1:=cloV_c (G:=G) (l.getD i default) (rk_get hk i)
  unfold rsL at *
  conv=>whnf
  repeat' (first|refine sq ?_|refine bk ?_|((first|refine rg ttok ?_|refine dw ttok mixed ?_|refine cd ?_|refine sk ?_|refine xt ?_|refine rt ?_);conv=>whnf)|(refine And.intro (fun h=>?_) (fun h=>?_) <;> (try simp only [brsA] at h) <;> conv=>whnf)|(refine Or.inl ?_;(conv=>whnf);refine ⟨_,h1,?_⟩;conv=>whnf)|((first|refine wf ?_|refine wp' ?_|refine ai ?_|refine And.intro rfl ?_|refine an ?_|fail);conv=>whnf))
  ·exact (fidxS_at (by omega) h hI).symm
  ·refine ⟨i+1,⟨by omega,fun j hj=>by
    by_cases q:j=i
    ·rw [q]; exact h
    ·exact hI j (by omega)⟩,by show l.length - (i+1) < l.length - i; omega,?_⟩
   conv=>whnf
   repeat (first|exact fa|((first|refine fb ?_|(refine And.intro ?_ ?_;rotate_left));conv=>whnf))
  ·exact (fidxS_none (fun j hj=>hI j (by omega))).symm
theorem conV_c (l:List RS) (hk:∀ r ∈ l,Rk r) (hl:l.length≤1000000):ACalls Tryz.prog G 25 [slS l,.fn 106 []] (.sb (l.any badS)):=by
 have h1:=idxV_c (G:=G) l hk hl
 refine ACalls.of_WA ttok Tryz.func25 rfl rfl _ rfl ?_
 conv=>whnf
 repeat' (first|refine sq ?_|refine bk ?_|((first|refine rg ttok ?_|refine dw ttok mixed ?_|refine cd ?_|refine sk ?_|refine xt ?_|refine rt ?_);conv=>whnf)|(refine And.intro (fun h=>?_) (fun h=>?_) <;> (try simp only [brsA] at h) <;> conv=>whnf)|(refine Or.inl ?_;(conv=>whnf);refine ⟨_,h1,?_⟩;conv=>whnf)|((first|refine wf ?_|refine wp' ?_|refine ai ?_|refine And.intro rfl ?_|refine an ?_|fail);conv=>whnf))
 rw [← fidxS_any]
theorem mayV_c (l:List RS) (hk:∀ r ∈ l,Rk r) (hl:l.length≤1000000):ACalls Tryz.prog G 75 [slS l] (.sb (!l.any badS)):=by
 have h1:=conV_c (G:=G) l hk hl
 generalize l.any badS=b at *
 refine ACalls.of_WA ttok Tryz.func75 rfl rfl _ rfl ?_
 conv=>whnf
 repeat' (first|refine sq ?_|refine bk ?_|((first|refine rg ttok ?_|refine dw ttok mixed ?_|refine cd ?_|refine sk ?_|refine xt ?_|refine rt ?_);conv=>whnf)|(refine And.intro (fun h=>?_) (fun h=>?_) <;> (try simp only [brsA] at h) <;> conv=>whnf)|(refine Or.inl ?_;(conv=>whnf);refine ⟨_,h1,?_⟩;conv=>whnf)|((first|refine wf ?_|refine wp' ?_|refine ai ?_|refine And.intro rfl ?_|refine an ?_|fail);conv=>whnf))
def keepR (l:List RS) (i:Nat):Bool:=decide (i=0) || (decide (i+1=l.length) || !btw (l.getD (i - 1) default) (l.getD (i+1) default) (l.getD i default))
def strT (l:List RS):Nat→List RS
 | 0=>[]
 | k+1=>strT l k ++ (if keepR l k=true then [l.getD k default] else [])
theorem strT_yes {l:List RS} {k:Nat} (h:keepR l k=true):strT l (k+1)=strT l k ++ [l.getD k default]:=by
 show strT l k ++ (if keepR l k=true then [l.getD k default] else [])=_
 rw [if_pos h]
theorem strT_no {l:List RS} {k:Nat} (h:keepR l k=false):strT l (k+1)=strT l k:=by
 show strT l k ++ (if keepR l k=true then [l.getD k default] else [])=_
 rw [if_neg (by rw [h]; decide),List.append_nil]
theorem keep_0 (l:List RS):keepR l 0=true:=rfl
theorem keep_end {l:List RS} {i:Nat} (h:i+1=l.length):keepR l i=true:=by unfold keepR; rw [decide_eq_true h]; simp
theorem keep_mid {l:List RS} {i:Nat} (h0:i ≠ 0) (h:i+1 ≠ l.length):keepR l i = !btw (l.getD (i - 1) default) (l.getD (i+1) default) (l.getD i default):=by unfold keepR; rw [decide_eq_false h0,decide_eq_false h]; simp
theorem rowCatS (L:List RS) (x:RS) (r:Nat→List A) (hr:r 0=rsL x) (j:Nat) (hj:j < L.length+1):rowCat L.length (fun j=>rsL (L.getD j default)) r j=rsL ((L ++ [x]).getD j default):=by
 unfold rowCat
 split
 ·rename_i q
  have q:j < L.length:=Nat.le_of_ble_eq_true q
  simp [List.getD_eq_getElem?_getD,List.getElem?_append_left q]
 ·rename_i q
  have q:¬ j < L.length:=fun h'=>by rw [show Nat.blt j L.length=true from Nat.ble_eq_true_of_le h'] at q; cases q
  have e:j=L.length:=by omega
  subst e
  rw [Nat.sub_self,hr]
  simp [List.getD_eq_getElem?_getD]
theorem may_get {l:List RS} (h:∀ r ∈ l,MayR r) {i:Nat} (hi:i < l.length):MayR (l.getD i default):=by
 rw [List.getD_eq_getElem?_getD,List.getElem?_eq_getElem hi]
 exact h _ (List.getElem_mem hi)
theorem rstraight_c (l:List RS) (hm:∀ r ∈ l,MayR r) (hl:l.length≤1000) :
  ACalls Tryz.prog G 20 [slS l] (slS (strT l l.length)):=by
 unfold slS
 refine ACalls.of_WA ttok Tryz.func20 rfl rfl _ rfl ?_
 conv=>whnf
 repeat' (first|refine sq ?_|refine bk ?_|((first|refine rg ttok ?_|refine dw ttok mixed ?_|refine cd ?_|refine sk ?_|refine xt ?_|refine rt ?_);conv=>whnf)|(refine And.intro (fun h=>?_) (fun h=>?_) <;> (try simp only [brsA] at h) <;> conv=>whnf)|((first|refine wf ?_|refine wp' ?_|refine ai ?_|refine And.intro rfl ?_|refine an ?_|fail);conv=>whnf))
 refine WA_loopI (fun x:Nat × List RS=>x.1≤l.length∧x.2=strT l x.1∧x.2.length≤x.1) (fun x=>match x with | (i,_)=>[(3,.own 0),(4,.int .i64 (i:Int)),(5,.junk)]) (fun x=>match x with | (_,L)=>[.row 34 26 L.length fun j=>rsL (L.getD j default)]) (fun x=>l.length - x.1) (0,[]) ⟨Nat.zero_le _,rfl,Nat.zero_le _⟩ ?_ ?_
 ·conv=>whnf
  repeat (first|exact fa|((first|refine fb ?_|(refine And.intro ?_ ?_;rotate_left));conv=>whnf))
  all_goals first|exact .inl (fun j hj=>rowCatS L _ _ rfl j hj)|(simp;done)
 ·rintro ⟨i,L⟩ ⟨hi,hL,hn⟩
  have hi:i≤l.length:=hi
  have hL:L=strT l i:=hL
  have hn:L.length≤i:=hn
  have nq:∀ {p:Prop},(false=true)→p:=fun e=>Bool.noConfusion e
  have nt:∀ {p:Prop},(true=false)→p:=fun e=>Bool.noConfusion e
  conv=>whnf
  repeat (first|refine sq ?_|refine bk ?_|((first|refine rg ttok ?_|refine dw ttok mixed ?_|refine cd ?_|refine sk ?_|refine xt ?_|refine rt ?_);conv=>whnf))
  refine ⟨fun h=>?_,fun h=>?_⟩
  ·have h:=of_decide_eq_true h
   have hc:i < l.length:=by omega
   by_cases h0:i=0
   ·have e:=strT_yes (h0 ▸ keep_0 l:keepR l i=true)
    rw [← hL] at e
    conv=>whnf
    repeat' (first|(exact absurd h0 (by omega))|refine sq ?_|refine bk ?_|((first|refine rg ttok ?_|refine dw ttok mixed ?_|refine cd ?_|refine sk ?_|refine xt ?_|refine rt ?_);conv=>whnf)|(refine And.intro (fun h=>?_) (fun h=>?_) <;> (try simp only [brsA] at h) <;> conv=>whnf)|((first|refine wf ?_|refine wp' ?_|refine ai ?_|refine And.intro rfl ?_|refine an ?_|fail);conv=>whnf))
    refine ⟨(i+1,L ++ [l.getD i default]),⟨hc,e.symm,(by show (L ++ [l.getD i default]).length≤i+1; simp; omega)⟩,(by show l.length - (i+1) < l.length - i; omega),?_⟩
    conv=>whnf
    repeat (first|exact fa|((first|refine fb ?_|(refine And.intro ?_ ?_;rotate_left));conv=>whnf))
    all_goals first|exact .inl (fun j hj=>rowCatS L _ _ rfl j hj)|(simp;done)
   ·by_cases he:i+1=l.length
    ·have e:=strT_yes (keep_end he)
     rw [← hL] at e
     conv=>whnf
     repeat' (first|(exact absurd he (by omega))|refine sq ?_|refine bk ?_|((first|refine rg ttok ?_|refine dw ttok mixed ?_|refine cd ?_|refine sk ?_|refine xt ?_|refine rt ?_);conv=>whnf)|(refine And.intro (fun h=>?_) (fun h=>?_) <;> (try simp only [brsA] at h) <;> conv=>whnf)|((first|refine wf ?_|refine wp' ?_|refine ai ?_|refine And.intro rfl ?_|refine an ?_|fail);conv=>whnf))
     refine ⟨(i+1,L ++ [l.getD i default]),⟨hc,e.symm,(by show (L ++ [l.getD i default]).length≤i+1; simp; omega)⟩,(by show l.length - (i+1) < l.length - i; omega),?_⟩
     conv=>whnf
     repeat (first|exact fa|((first|refine fb ?_|(refine And.intro ?_ ?_;rotate_left));conv=>whnf))
     all_goals first|exact .inl (fun j hj=>rowCatS L _ _ rfl j hj)|(simp;done)
    ·have c:=rBetween_r (G:=G) (may_get hm (i:=i - 1) (by omega)) (may_get hm (i:=i+1) (by omega)) (may_get hm hc)
     rw [spR_L,spR_L,spR_L] at c
     have k:=keep_mid h0 he
     have ei:((i:Int) - 1).toNat=i - 1:=by omega
     cases hb:btw (l.getD (i - 1) default) (l.getD (i+1) default) (l.getD i default)
     ·rw [hb] at c k
      have e:=strT_yes k
      rw [← hL] at e
      rw [← ei] at c
      conv=>whnf
      repeat' (first|(first|with_reducible exact nq h|with_reducible exact nt h)|(exact absurd h0 (by omega))|(exact absurd he (by omega))|refine sq ?_|refine bk ?_|((first|refine rg ttok ?_|refine dw ttok mixed ?_|refine cd ?_|refine sk ?_|refine xt ?_|refine rt ?_);conv=>whnf)|(refine And.intro (fun h=>?_) (fun h=>?_) <;> (try simp only [brsA] at h) <;> conv=>whnf)|(refine Or.inl ?_;(conv=>whnf);refine ⟨_,c,?_⟩;conv=>whnf)|((first|refine wf ?_|refine wp' ?_|refine ai ?_|refine And.intro rfl ?_|refine an ?_|fail);conv=>whnf))
      refine ⟨(i+1,L ++ [l.getD i default]),⟨hc,e.symm,(by show (L ++ [l.getD i default]).length≤i+1; simp; omega)⟩,(by show l.length - (i+1) < l.length - i; omega),?_⟩
      conv=>whnf
      repeat (first|exact fa|((first|refine fb ?_|(refine And.intro ?_ ?_;rotate_left));conv=>whnf))
      all_goals first|exact .inl (fun j hj=>rowCatS L _ _ rfl j hj)|(simp;done)
     ·rw [hb] at c k
      have e:=strT_no k
      rw [← hL] at e
      rw [← ei] at c
      conv=>whnf
      repeat' (first|(first|with_reducible exact nq h|with_reducible exact nt h)|(exact absurd h0 (by omega))|(exact absurd he (by omega))|refine sq ?_|refine bk ?_|((first|refine rg ttok ?_|refine dw ttok mixed ?_|refine cd ?_|refine sk ?_|refine xt ?_|refine rt ?_);conv=>whnf)|(refine And.intro (fun h=>?_) (fun h=>?_) <;> (try simp only [brsA] at h) <;> conv=>whnf)|(refine Or.inl ?_;(conv=>whnf);refine ⟨_,c,?_⟩;conv=>whnf)|((first|refine wf ?_|refine wp' ?_|refine ai ?_|refine And.intro rfl ?_|refine an ?_|fail);conv=>whnf))
      refine ⟨(i+1,L),⟨hc,e.symm,(by show L.length≤i+1; omega)⟩,(by show l.length - (i+1) < l.length - i; omega),?_⟩
      conv=>whnf
      repeat (first|exact fa|((first|refine fb ?_|(refine And.intro ?_ ?_;rotate_left));conv=>whnf))
      all_goals first|exact .inl (fun j hj=>rowCatS L _ _ rfl j hj)|(simp;done)
  ·have h:=of_decide_eq_false h
   have e:i=l.length:=by omega
   subst e
   subst hL
   conv=>whnf
   repeat' (first|refine sq ?_|refine bk ?_|((first|refine rg ttok ?_|refine dw ttok mixed ?_|refine cd ?_|refine sk ?_|refine xt ?_|refine rt ?_);conv=>whnf)|(refine And.intro (fun h=>?_) (fun h=>?_) <;> (try simp only [brsA] at h) <;> conv=>whnf)|((first|refine wf ?_|refine wp' ?_|refine ai ?_|refine And.intro rfl ?_|refine an ?_|fail);conv=>whnf))
   exact .inl fun _ _=>rfl
theorem sl_abc (a b c:RS):∀ i,i < 3→(fun i=>takeL 26 (List.drop (i*26) (rsL a ++ (rsL b ++ rsL c)))) i=(fun i=>rsL ([a,b,c].getD i default)) i:=by
 intro i h
 rcases (show i=0∨i=1∨i=2 by omega) with rfl | rfl | rfl <;> rfl
theorem sBetween_r {a b c:RS} (ha:MayR a) (hb:MayR b) (hc:MayR c):ACalls Tryz.prog G 42 [spR a,spR b,spR c] (.tup [.sb (btw a b c),.int .i64 0]):=by
 have hl:∀ r ∈ [a,b,c],MayR r:=by
  intro r h
  simp only [List.mem_cons,List.not_mem_nil,or_false] at h
  rcases h with rfl | rfl | rfl <;> assumption
 have c1:=mayV_c (G:=G) [a,b,c] (fun r h=>(hl r h).1.rk) (by simp)
 have e:[a,b,c].any badS=false:=by
  rw [List.any_eq_false]
  intro r q
  unfold badS
  rw [decide_eq_true (hl r q)]
  exact Bool.noConfusion
 rw [e] at c1
 have c2:=c1.fit (args':=[.sl 3 26 (fun i=>takeL 26 (List.drop (i*26) (rsL a ++ (rsL b ++ rsL c))))]) (by
  unfold slS
  have k:=sl_abc a b c
  generalize (fun i=>takeL 26 (List.drop (i*26) (rsL a ++ (rsL b ++ rsL c))))=r1 at *
  generalize (fun i=>rsL ([a,b,c].getD i default))=r2 at *
  conv=>whnf
  repeat (first|exact fa|((first|refine fb ?_|(refine And.intro ?_ ?_;rotate_left));conv=>whnf))
  all_goals exact .inl k)
 have c3:=between_r (G:=G) ha hb hc
 clear c1 e hl
 generalize btw a b c=z at *
 unfold rsL at c2
 unfold spR spotL at *
 generalize wW a.x=A1 at *
 generalize wW a.y=A2 at *
 generalize wW a.w=A3 at *
 generalize wW b.x=B1 at *
 generalize wW b.y=B2 at *
 generalize wW b.w=B3 at *
 generalize wW c.x=C1 at *
 generalize wW c.y=C2 at *
 generalize wW c.w=C3 at *
 generalize a.p=p1 at *
 generalize a.q=p2 at *
 generalize b.p=p3 at *
 generalize b.q=p4 at *
 generalize c.p=p5 at *
 generalize c.q=p6 at *
 clear ha hb hc
 refine ACalls.of_WA ttok Tryz.func42 rfl rfl _ rfl ?_
 conv=>whnf
 repeat' (first|refine sq ?_|refine bk ?_|((first|refine rg ttok ?_|refine dw ttok mixed ?_|refine cd ?_|refine sk ?_|refine xt ?_|refine rt ?_);conv=>whnf)|(refine And.intro (fun h=>?_) (fun h=>?_) <;> (try simp only [brsA] at h) <;> conv=>whnf)|(refine Or.inl ?_;(conv=>whnf);(first|refine ⟨_,c2,?_⟩|refine ⟨_,c3,?_⟩);conv=>whnf)|((first|refine wf ?_|refine wp' ?_|refine ai ?_|refine And.intro rfl ?_|refine an ?_|fail);conv=>whnf))
 all_goals first|contradiction|skip
theorem straight_bad (l:List RS) (hk:∀ r ∈ l,Rk r) (hl:l.length≤1000) (hb:l.any badS=true) :
  ACalls Tryz.prog G 15 [slS l] (.tup [.nils,.int .i64 1]):=by
 have c1:=mayH_c (G:=G) l hk (by omega)
 rw [hb] at c1
 refine ACalls.of_WA ttok Tryz.func15 rfl rfl _ rfl ?_
 conv=>whnf
 repeat' (first|refine sq ?_|refine bk ?_|((first|refine rg ttok ?_|refine dw ttok mixed ?_|refine cd ?_|refine sk ?_|refine xt ?_|refine rt ?_);conv=>whnf)|(refine And.intro (fun h=>?_) (fun h=>?_) <;> (try simp only [brsA] at h) <;> conv=>whnf)|(refine Or.inl ?_;(conv=>whnf);refine ⟨_,c1,?_⟩;conv=>whnf)|((first|refine wf ?_|refine wp' ?_|refine ai ?_|refine And.intro rfl ?_|refine an ?_|fail);conv=>whnf))
 all_goals first|contradiction|skip
theorem any_may {l:List RS} (h:∀ r ∈ l,MayR r):l.any badS=false:=by
 rw [List.any_eq_false]
 intro r q
 unfold badS
 rw [decide_eq_true (h r q)]
 exact Bool.noConfusion
theorem Rk_may {l:List RS} (h:∀ r ∈ l,MayR r):∀ r ∈ l,Rk r:=fun r q=>(h r q).1.rk
theorem straight_ok (l:List RS) (hm:∀ r ∈ l,MayR r) (hl:l.length≤1000) :
  ACalls Tryz.prog G 15 [slS l] (.tup [slS (strT l l.length),.int .i64 0]):=by
 have c1:=mayH_c (G:=G) l (Rk_may hm) (by omega)
 rw [any_may hm] at c1
 unfold slS at *
 refine ACalls.of_WA ttok Tryz.func15 rfl rfl _ rfl ?_
 conv=>whnf
 repeat' (first|refine sq ?_|refine bk ?_|((first|refine rg ttok ?_|refine dw ttok mixed ?_|refine cd ?_|refine sk ?_|refine xt ?_|refine rt ?_);conv=>whnf)|(refine And.intro (fun h=>?_) (fun h=>?_) <;> (try simp only [brsA] at h) <;> conv=>whnf)|(refine Or.inl ?_;(conv=>whnf);refine ⟨_,c1,?_⟩;conv=>whnf)|((first|refine wf ?_|refine wp' ?_|refine ai ?_|refine And.intro rfl ?_|refine an ?_|fail);conv=>whnf))
 all_goals first|contradiction|skip
 refine WA_nil 4 34 26 rfl ?_
 conv=>whnf
 refine WA_loopI (fun x:Nat × List RS=>x.1≤l.length∧x.2=strT l x.1∧x.2.length≤x.1) (fun x=>match x with | (i,_)=>[(14,.int .i64 (i:Int)),(4,.own 0)]) (fun x=>match x with | (_,L)=>[.row 34 26 L.length fun j=>rsL (L.getD j default)]) (fun x=>l.length - x.1) (0,[]) ⟨Nat.zero_le _,rfl,Nat.zero_le _⟩ ?_ ?_
 ·conv=>whnf
  repeat (first|exact fa|((first|refine fb ?_|(refine And.intro ?_ ?_;rotate_left));conv=>whnf))
  all_goals first|exact .inl (fun j hj=>rowCatS L _ _ rfl j hj)|(simp;done)
 ·rintro ⟨i,L⟩ ⟨hi,hL,hn⟩
  have hi:i≤l.length:=hi
  have hL:L=strT l i:=hL
  have hn:L.length≤i:=hn
  have nq:∀ {p:Prop},(false=true)→p:=fun e=>Bool.noConfusion e
  have nt:∀ {p:Prop},(true=false)→p:=fun e=>Bool.noConfusion e
  conv=>whnf
  repeat (first|refine sq ?_|refine bk ?_|((first|refine rg ttok ?_|refine dw ttok mixed ?_|refine cd ?_|refine sk ?_|refine xt ?_|refine rt ?_);conv=>whnf))
  refine ⟨fun h=>?_,fun h=>?_⟩
  ·have h:=of_decide_eq_true h
   have hc:i < l.length:=by omega
   by_cases h0:i=0
   ·have e:=strT_yes (h0 ▸ keep_0 l:keepR l i=true)
    rw [← hL] at e
    conv=>whnf
    repeat' (first|(exact absurd h0 (by omega))|(exact absurd (show (0:Int) < (i:Int) by assumption) (by omega))|refine sq ?_|refine bk ?_|((first|refine rg ttok ?_|refine dw ttok mixed ?_|refine cd ?_|refine sk ?_|refine xt ?_|refine rt ?_);conv=>whnf)|(refine And.intro (fun h=>?_) (fun h=>?_) <;> (try simp only [brsA] at h) <;> conv=>whnf)|((first|refine wf ?_|refine wp' ?_|refine ai ?_|refine And.intro rfl ?_|refine an ?_|fail);conv=>whnf))
    refine ⟨(i+1,L ++ [l.getD i default]),⟨hc,e.symm,(by show (L ++ [l.getD i default]).length≤i+1; simp; omega)⟩,(by show l.length - (i+1) < l.length - i; omega),?_⟩
    conv=>whnf
    repeat (first|exact fa|((first|refine fb ?_|(refine And.intro ?_ ?_;rotate_left));conv=>whnf))
    all_goals first|exact .inl (fun j hj=>rowCatS L _ _ rfl j hj)|(simp;done)
   ·by_cases he:i+1=l.length
    ·have e:=strT_yes (keep_end he)
     rw [← hL] at e
     conv=>whnf
     repeat' (first|(exact absurd he (by omega))|refine sq ?_|refine bk ?_|((first|refine rg ttok ?_|refine dw ttok mixed ?_|refine cd ?_|refine sk ?_|refine xt ?_|refine rt ?_);conv=>whnf)|(refine And.intro (fun h=>?_) (fun h=>?_) <;> (try simp only [brsA] at h) <;> conv=>whnf)|((first|refine wf ?_|refine wp' ?_|refine ai ?_|refine And.intro rfl ?_|refine an ?_|fail);conv=>whnf))
     refine ⟨(i+1,L ++ [l.getD i default]),⟨hc,e.symm,(by show (L ++ [l.getD i default]).length≤i+1; simp; omega)⟩,(by show l.length - (i+1) < l.length - i; omega),?_⟩
     conv=>whnf
     repeat (first|exact fa|((first|refine fb ?_|(refine And.intro ?_ ?_;rotate_left));conv=>whnf))
     all_goals first|exact .inl (fun j hj=>rowCatS L _ _ rfl j hj)|(simp;done)
    ·have c:=sBetween_r (G:=G) (may_get hm (i:=i - 1) (by omega)) (may_get hm (i:=i+1) (by omega)) (may_get hm hc)
     rw [spR_L,spR_L,spR_L] at c
     have k:=keep_mid h0 he
     have ei:((i:Int) - 1).toNat=i - 1:=by omega
     cases hb:btw (l.getD (i - 1) default) (l.getD (i+1) default) (l.getD i default)
     ·rw [hb] at c k
      have e:=strT_yes k
      rw [← hL] at e
      rw [← ei] at c
      conv=>whnf
      repeat' (first|(first|with_reducible exact nq h|with_reducible exact nt h)|(exact absurd h0 (by omega))|(exact absurd he (by omega))|refine sq ?_|refine bk ?_|((first|refine rg ttok ?_|refine dw ttok mixed ?_|refine cd ?_|refine sk ?_|refine xt ?_|refine rt ?_);conv=>whnf)|(refine And.intro (fun h=>?_) (fun h=>?_) <;> (try simp only [brsA] at h) <;> conv=>whnf)|(refine Or.inl ?_;(conv=>whnf);refine ⟨_,c,?_⟩;conv=>whnf)|((first|refine wf ?_|refine wp' ?_|refine ai ?_|refine And.intro rfl ?_|refine an ?_|fail);conv=>whnf))
      refine ⟨(i+1,L ++ [l.getD i default]),⟨hc,e.symm,(by show (L ++ [l.getD i default]).length≤i+1; simp; omega)⟩,(by show l.length - (i+1) < l.length - i; omega),?_⟩
      conv=>whnf
      repeat (first|exact fa|((first|refine fb ?_|(refine And.intro ?_ ?_;rotate_left));conv=>whnf))
      all_goals first|exact .inl (fun j hj=>rowCatS L _ _ rfl j hj)|(simp;done)
     ·rw [hb] at c k
      have e:=strT_no k
      rw [← hL] at e
      rw [← ei] at c
      conv=>whnf
      repeat' (first|(first|with_reducible exact nq h|with_reducible exact nt h)|(exact absurd h0 (by omega))|(exact absurd he (by omega))|refine sq ?_|refine bk ?_|((first|refine rg ttok ?_|refine dw ttok mixed ?_|refine cd ?_|refine sk ?_|refine xt ?_|refine rt ?_);conv=>whnf)|(refine And.intro (fun h=>?_) (fun h=>?_) <;> (try simp only [brsA] at h) <;> conv=>whnf)|(refine Or.inl ?_;(conv=>whnf);refine ⟨_,c,?_⟩;conv=>whnf)|((first|refine wf ?_|refine wp' ?_|refine ai ?_|refine And.intro rfl ?_|refine an ?_|fail);conv=>whnf))
      refine ⟨(i+1,L),⟨hc,e.symm,(by show L.length≤i+1; omega)⟩,(by show l.length - (i+1) < l.length - i; omega),?_⟩
      conv=>whnf
      repeat (first|exact fa|((first|refine fb ?_|(refine And.intro ?_ ?_;rotate_left));conv=>whnf))
      all_goals first|exact .inl (fun j hj=>rowCatS L _ _ rfl j hj)|(simp;done)
  ·have h:=of_decide_eq_false h
   have e:i=l.length:=by omega
   subst e
   subst hL
   conv=>whnf
   repeat' (first|refine sq ?_|refine bk ?_|((first|refine rg ttok ?_|refine dw ttok mixed ?_|refine cd ?_|refine sk ?_|refine xt ?_|refine rt ?_);conv=>whnf)|(refine And.intro (fun h=>?_) (fun h=>?_) <;> (try simp only [brsA] at h) <;> conv=>whnf)|((first|refine wf ?_|refine wp' ?_|refine ai ?_|refine And.intro rfl ?_|refine an ?_|fail);conv=>whnf))
   exact ⟨.inl fun _ _=>rfl,rfl⟩
end Go.Proofs.YtmeohhbdkoeadaaGreat
namespace Go.Proofs.YtmeohhbdkoeadaaGreat
open Go.Proofs.YtmeohhbdkoeadaaGreat.Am Go.Sort Go.Proofs Go.Lib
variable [Inhabited DRT]
variable {G:GInv}
def txJ (l:List RS):Nat→List UInt8
 | 0=>[]
 | k+1=>(if k=0 then [] else txJ l k ++ [44,32]) ++ txR (l.getD k default)
theorem txJ_0 (l:List RS):txJ l (0+1)=[] ++ txR (l.getD 0 default):=rfl
theorem txJ_s (l:List RS) {k:Nat} (h:k ≠ 0):txJ l (k+1)=(txJ l k ++ [44,32]) ++ txR (l.getD k default):=by
 show (if k=0 then [] else txJ l k ++ [44,32]) ++ txR (l.getD k default)=_
 rw [if_neg h]
theorem joinT_app (c:List UInt8):∀ (r:List (List UInt8)) (x:List UInt8),joinTail c (r ++ [x])=joinTail c r ++ (c ++ x)
 | [],x=>by simp [joinTail]
 | y :: r,x=>by simp [joinTail,joinT_app c r x]
theorem joinS_snoc (c:List UInt8) (l:List (List UInt8)) (x:List UInt8) (h:l ≠ []):join (l ++ [x]) c=join l c ++ (c ++ x):=by
 cases l with
 | nil=>exact absurd rfl h
 | cons y r=>rw [List.cons_append,join_cons,join_cons,joinT_app,List.append_assoc]
theorem txJ_join (l:List RS):∀ k,k≤l.length→join ((l.take k).map txR) [44,32]=txJ l k
 | 0,_=>rfl
 | k+1,h=>by
  have ih:=txJ_join l k (by omega)
  have e:l.take (k+1)=l.take k ++ [l.getD k default]:=by
   rw [List.take_add_one,List.getD_eq_getElem?_getD,List.getElem?_eq_getElem (by omega:k < l.length)]
   rfl
  rw [e,List.map_append]
  by_cases h0:k=0
  ·subst h0
   rw [txJ_0]
   simp [join_one]
  ·rw [txJ_s l h0]
   show join ((l.take k).map txR ++ [txR (l.getD k default)]) [44,32]=_
   rw [joinS_snoc _ _ _ (by
    intro q
    have q:=congrArg List.length q
    simp only [List.length_map,List.length_take,List.length_nil] at q
    omega),ih,List.append_assoc]
theorem txR_len {r:RS} (h:MayR r):(txR r).length≤115:=by
 have l1:=decZ_38 (x:=axR r) (sgI_lt h.1.1)
 have l2:=decZ_38 (x:=ayR r) (sgI_lt h.1.2.1)
 have l3:=decN_37 h.1.2.2
 unfold txR
 simp only [List.length_append,List.length_cons,List.length_nil]
 omega
theorem txJ_len {l:List RS} (hm:∀ r ∈ l,MayR r):∀ k,k≤l.length→(txJ l k).length≤117*k
 | 0,_=>by simp [txJ]
 | k+1,h=>by
  have ih:=txJ_len hm k (by omega)
  have hr:=txR_len (may_get hm (i:=k) (by omega))
  by_cases h0:k=0
  ·subst h0
   rw [txJ_0]
   simp only [List.length_append,List.length_nil]
   omega
  ·rw [txJ_s l h0]
   simp only [List.length_append,List.length_cons,List.length_nil]
   omega
theorem rtextS_c (l:List RS) (hm:∀ r ∈ l,MayR r) (hl:l.length≤1000) :
  ACalls Tryz.prog G 19 [slS l] (.str (txJ l l.length)):=by
 unfold slS
 refine ACalls.of_WA ttok Tryz.func19 rfl rfl _ rfl ?_
 conv=>whnf
 repeat' (first|refine sq ?_|refine bk ?_|((first|refine rg ttok ?_|refine dw ttok mixed ?_|refine cd ?_|refine sk ?_|refine xt ?_|refine rt ?_);conv=>whnf)|(refine And.intro (fun h=>?_) (fun h=>?_) <;> (try simp only [brsA] at h) <;> conv=>whnf)|((first|refine wf ?_|refine wp' ?_|refine ai ?_|refine And.intro rfl ?_|refine an ?_|fail);conv=>whnf))
 refine WA_loopI (fun x:Nat × List UInt8=>x.1≤l.length∧x.2=txJ l x.1) (fun x=>match x with | (i,t)=>[(3,.str t),(4,.int .i64 (i:Int))]) (fun _=>[]) (fun x=>l.length - x.1) (0,[]) ⟨Nat.zero_le _,rfl⟩ ?_ ?_
 ·conv=>whnf
  repeat (first|exact fa|((first|refine fb ?_|(refine And.intro ?_ ?_;rotate_left));conv=>whnf))
 ·rintro ⟨i,t⟩ ⟨hi,ht⟩
  have hi:i≤l.length:=hi
  have ht:t=txJ l i:=ht
  have hlen:=txJ_len hm i hi
  rw [← ht] at hlen
  conv=>whnf
  repeat (first|refine sq ?_|refine bk ?_|((first|refine rg ttok ?_|refine dw ttok mixed ?_|refine cd ?_|refine sk ?_|refine xt ?_|refine rt ?_);conv=>whnf))
  refine ⟨fun h=>?_,fun h=>?_⟩
  ·have h:=of_decide_eq_true h
   have hc:i < l.length:=by omega
   have c:=rText_r (G:=G) _ (may_get hm hc)
   have hx:=txR_len (may_get hm hc)
   rw [spR_L] at c
   by_cases h0:i=0
   ·have e:txJ l (i+1)=t ++ txR (l.getD i default):=by
     rw [ht]; subst h0; rfl
    clear ht
    generalize txR (l.getD i default)=x at *
    conv=>whnf
    repeat' (first|(exact absurd h0 (by omega))|refine sq ?_|refine bk ?_|((first|refine rg ttok ?_|refine dw ttok mixed ?_|refine cd ?_|refine sk ?_|refine xt ?_|refine rt ?_);conv=>whnf)|(refine And.intro (fun h=>?_) (fun h=>?_) <;> (try simp only [brsA] at h) <;> conv=>whnf)|(refine Or.inl ?_;(conv=>whnf);refine ⟨_,c,?_⟩;conv=>whnf)|((first|refine wf ?_|refine wp' ?_|refine ai ?_|refine And.intro rfl ?_|refine an ?_|fail);conv=>whnf))
    all_goals first|(simp only [List.length_append,List.length_cons,List.length_nil];omega)|skip
    refine ⟨(i+1,t ++ x),⟨hc,e.symm⟩,(by show l.length - (i+1) < l.length - i; omega),?_⟩
    conv=>whnf
    repeat (first|exact fa|((first|refine fb ?_|(refine And.intro ?_ ?_;rotate_left));conv=>whnf))
   ·have e:=txJ_s l h0
    rw [← ht] at e
    clear ht
    generalize txR (l.getD i default)=x at *
    conv=>whnf
    repeat' (first|(exact absurd h0 (by omega))|refine sq ?_|refine bk ?_|((first|refine rg ttok ?_|refine dw ttok mixed ?_|refine cd ?_|refine sk ?_|refine xt ?_|refine rt ?_);conv=>whnf)|(refine And.intro (fun h=>?_) (fun h=>?_) <;> (try simp only [brsA] at h) <;> conv=>whnf)|(refine Or.inl ?_;(conv=>whnf);refine ⟨_,c,?_⟩;conv=>whnf)|((first|refine wf ?_|refine wp' ?_|refine ai ?_|refine And.intro rfl ?_|refine an ?_|fail);conv=>whnf))
    all_goals first|(simp only [List.length_append,List.length_cons,List.length_nil];omega)|skip
    refine ⟨(i+1,(t ++ [44,32]) ++ x),⟨hc,e.symm⟩,(by show l.length - (i+1) < l.length - i; omega),?_⟩
    conv=>whnf
    repeat (first|exact fa|((first|refine fb ?_|(refine And.intro ?_ ?_;rotate_left));conv=>whnf))
  ·have h:=of_decide_eq_false h
   have e:i=l.length:=by omega
   subst e
   subst ht
   conv=>whnf
   repeat' (first|refine sq ?_|refine bk ?_|((first|refine rg ttok ?_|refine dw ttok mixed ?_|refine cd ?_|refine sk ?_|refine xt ?_|refine rt ?_);conv=>whnf)|(refine And.intro (fun h=>?_) (fun h=>?_) <;> (try simp only [brsA] at h) <;> conv=>whnf)|((first|refine wf ?_|refine wp' ?_|refine ai ?_|refine And.intro rfl ?_|refine an ?_|fail);conv=>whnf))
   all_goals first|rfl
theorem rowStr_app (L:List (List UInt8)) (x:List UInt8) (r:Nat→List A) (hr:r 0=[.str x]) (j:Nat) (hj:j < L.length+1):rowCat L.length (rowStr L) r j=rowStr (L ++ [x]) j:=by
 unfold rowCat
 split
 ·rename_i q
  have q:j < L.length:=Nat.le_of_ble_eq_true q
  simp [rowStr,List.getD_eq_getElem?_getD,List.getElem?_append_left q]
 ·rename_i q
  have q:¬ j < L.length:=fun h'=>by rw [show Nat.blt j L.length=true from Nat.ble_eq_true_of_le h'] at q; cases q
  have e:j=L.length:=by omega
  subst e
  rw [Nat.sub_self,hr]
  simp [rowStr,List.getD_eq_getElem?_getD]
theorem textS_bad (l:List RS) (hk:∀ r ∈ l,Rk r) (hl:l.length≤1000) (hb:l.any badS=true) :
  ACalls Tryz.prog G 16 [slS l] (.tup [.str [],.int .i64 1]):=by
 have c1:=mayH_c (G:=G) l hk (by omega)
 rw [hb] at c1
 refine ACalls.of_WA ttok Tryz.func16 rfl rfl _ rfl ?_
 conv=>whnf
 repeat' (first|refine sq ?_|refine bk ?_|((first|refine rg ttok ?_|refine dw ttok mixed ?_|refine cd ?_|refine sk ?_|refine xt ?_|refine rt ?_);conv=>whnf)|(refine And.intro (fun h=>?_) (fun h=>?_) <;> (try simp only [brsA] at h) <;> conv=>whnf)|(refine Or.inl ?_;(conv=>whnf);refine ⟨_,c1,?_⟩;conv=>whnf)|((first|refine wf ?_|refine wp' ?_|refine ai ?_|refine And.intro rfl ?_|refine an ?_|fail);conv=>whnf))
 all_goals first|contradiction|skip
theorem textS_ok (hns:(default:DRT).ns) (l:List RS) (hm:∀ r ∈ l,MayR r) (hl:l.length≤1000) :
  ACalls Tryz.prog G 16 [slS l] (.tup [.str (txJ l l.length),.int .i64 0]):=by
 have c1:=mayH_c (G:=G) l (Rk_may hm) (by omega)
 rw [any_may hm] at c1
 have cj:=join_c (G:=G) hns (l.map txR) [44,32] (by simp; omega) (by
  have:=txJ_join l l.length (Nat.le_refl _)
  rw [List.take_length] at this
  rw [this]
  have:=txJ_len hm l.length (Nat.le_refl _)
  omega)
 have e1:=txJ_join l l.length (Nat.le_refl _)
 rw [List.take_length] at e1
 rw [e1] at cj
 unfold strsA at cj
 unfold slS at *
 refine ACalls.of_WA ttok Tryz.func16 rfl rfl _ rfl ?_
 conv=>whnf
 repeat' (first|refine sq ?_|refine bk ?_|((first|refine rg ttok ?_|refine dw ttok mixed ?_|refine cd ?_|refine sk ?_|refine xt ?_|refine rt ?_);conv=>whnf)|(refine And.intro (fun h=>?_) (fun h=>?_) <;> (try simp only [brsA] at h) <;> conv=>whnf)|(refine Or.inl ?_;(conv=>whnf);refine ⟨_,c1,?_⟩;conv=>whnf)|((first|refine wf ?_|refine wp' ?_|refine ai ?_|refine And.intro rfl ?_|refine an ?_|fail);conv=>whnf))
 all_goals first|contradiction|skip
 refine WA_nil 4 9 1 rfl ?_
 conv=>whnf
 refine WA_loopI (fun x:Nat × List (List UInt8)=>x.1≤l.length∧x.2=(l.take x.1).map txR∧x.2.length=x.1) (fun x=>match x with | (i,_)=>[(12,.int .i64 (i:Int)),(4,.own 0)]) (fun x=>match x with | (_,L)=>[.row 9 1 L.length (rowStr L)]) (fun x=>l.length - x.1) (0,[]) ⟨Nat.zero_le _,rfl,rfl⟩ ?_ ?_
 ·conv=>whnf
  repeat (first|exact fa|((first|refine fb ?_|(refine And.intro ?_ ?_;rotate_left));conv=>whnf))
 ·rintro ⟨i,L⟩ ⟨hi,hL,hn⟩
  have hi:i≤l.length:=hi
  have hL:L=(l.take i).map txR:=hL
  have hn:L.length=i:=hn
  conv=>whnf
  repeat (first|refine sq ?_|refine bk ?_|((first|refine rg ttok ?_|refine dw ttok mixed ?_|refine cd ?_|refine sk ?_|refine xt ?_|refine rt ?_);conv=>whnf))
  refine ⟨fun h=>?_,fun h=>?_⟩
  ·have h:=of_decide_eq_true h
   have hc:i < l.length:=by omega
   have c:=spText_r (G:=G) hns _ (may_get hm hc)
   rw [spR_L] at c
   have e:(l.take (i+1)).map txR=L ++ [txR (l.getD i default)]:=by
    rw [hL,List.take_add_one,List.getD_eq_getElem?_getD,List.getElem?_eq_getElem hc,List.map_append]
    rfl
   clear hL
   generalize txR (l.getD i default)=x at *
   conv=>whnf
   repeat' (first|refine sq ?_|refine bk ?_|((first|refine rg ttok ?_|refine dw ttok mixed ?_|refine cd ?_|refine sk ?_|refine xt ?_|refine rt ?_);conv=>whnf)|(refine And.intro (fun h=>?_) (fun h=>?_) <;> (try simp only [brsA] at h) <;> conv=>whnf)|(refine Or.inl ?_;(conv=>whnf);refine ⟨_,c,?_⟩;conv=>whnf)|((first|refine wf ?_|refine wp' ?_|refine ai ?_|refine And.intro rfl ?_|refine an ?_|fail);conv=>whnf))
   refine ⟨(i+1,L ++ [x]),⟨hc,e.symm,(by show (L ++ [x]).length=i+1; simp; omega)⟩,(by show l.length - (i+1) < l.length - i; omega),?_⟩
   conv=>whnf
   repeat (first|exact fa|((first|refine fb ?_|(refine And.intro ?_ ?_;rotate_left));conv=>whnf))
   all_goals first|exact .inl (fun j hj=>rowStr_app L _ _ rfl j hj)|(simp;done)
  ·have h:=of_decide_eq_false h
   have e:i=l.length:=by omega
   subst e
   rw [List.take_length] at hL
   subst hL
   conv=>whnf
   repeat' (first|refine sq ?_|refine bk ?_|((first|refine rg ttok ?_|refine dw ttok mixed ?_|refine cd ?_|refine sk ?_|refine xt ?_|refine rt ?_);conv=>whnf)|(refine And.intro (fun h=>?_) (fun h=>?_) <;> (try simp only [brsA] at h) <;> conv=>whnf)|(refine Or.inr (Or.inr (Or.inl ?_));(conv=>whnf);refine ⟨_,cj,?_⟩;conv=>whnf)|((first|refine wf ?_|refine wp' ?_|refine ai ?_|refine And.intro rfl ?_|refine an ?_|fail);conv=>whnf))
theorem rmayS_c (l:List RS) (hk:∀ r ∈ l,Rk r) (hl:l.length≤1000) :
  ACalls Tryz.prog G 18 [slS l] (.sb (!l.any badS)):=by
 unfold slS
 refine ACalls.of_WA ttok Tryz.func18 rfl rfl _ rfl ?_
 conv=>whnf
 repeat' (first|refine sq ?_|refine bk ?_|((first|refine rg ttok ?_|refine dw ttok mixed ?_|refine cd ?_|refine sk ?_|refine xt ?_|refine rt ?_);conv=>whnf)|(refine And.intro (fun h=>?_) (fun h=>?_) <;> (try simp only [brsA] at h) <;> conv=>whnf)|((first|refine wf ?_|refine wp' ?_|refine ai ?_|refine And.intro rfl ?_|refine an ?_|fail);conv=>whnf))
 refine WA_loopI (fun i:Nat=>i≤l.length ∧ ∀ j,j < i→badS (l.getD j default)=false) (fun i=>[(3,.int .i64 (i:Int))]) (fun _=>[]) (fun i=>l.length - i) 0 ⟨Nat.zero_le _,fun j h=>absurd h (Nat.not_lt_zero j)⟩ ?_ ?_
 ·conv=>whnf
  repeat (first|exact fa|((first|refine fb ?_|(refine And.intro ?_ ?_;rotate_left));conv=>whnf))
 ·rintro i ⟨hi,hI⟩
  have hi:i≤l.length:=hi
  have c:=rMay_r (G:=G) (l.getD i default) (rk_get hk i)
  rw [spR_L] at c
  conv=>whnf
  repeat (first|refine sq ?_|refine bk ?_|((first|refine rg ttok ?_|refine dw ttok mixed ?_|refine cd ?_|refine sk ?_|refine xt ?_|refine rt ?_);conv=>whnf))
  refine ⟨fun h=>?_,fun h=>?_⟩
  ·have h:=of_decide_eq_true h
   have hc:i < l.length:=by omega
   by_cases m:MayR (l.getD i default)
   ·rw [decide_eq_true m] at c
    conv=>whnf
    repeat' (first|(exact Bool.noConfusion (show true=false from h))|refine sq ?_|refine bk ?_|((first|refine rg ttok ?_|refine dw ttok mixed ?_|refine cd ?_|refine sk ?_|refine xt ?_|refine rt ?_);conv=>whnf)|(refine And.intro (fun h=>?_) (fun h=>?_) <;> (try simp only [brsA] at h) <;> conv=>whnf)|(refine Or.inl ?_;(conv=>whnf);refine ⟨_,c,?_⟩;conv=>whnf)|((first|refine wf ?_|refine wp' ?_|refine ai ?_|refine And.intro rfl ?_|refine an ?_|fail);conv=>whnf))
    refine ⟨i+1,⟨hc,fun j hj=>by
     by_cases q:j=i
     ·rw [q]; unfold badS; rw [decide_eq_true m]; rfl
     ·exact hI j (by omega)⟩,(by show l.length - (i+1) < l.length - i; omega),?_⟩
    conv=>whnf
    repeat (first|exact fa|((first|refine fb ?_|(refine And.intro ?_ ?_;rotate_left));conv=>whnf))
   ·rw [decide_eq_false m] at c
    have e:l.any badS=true:=by
     rw [List.any_eq_true]
     refine ⟨l.getD i default,?_,by unfold badS; rw [decide_eq_false m]; rfl⟩
     rw [List.getD_eq_getElem?_getD,List.getElem?_eq_getElem hc]
     exact List.getElem_mem hc
    rw [e]
    conv=>whnf
    repeat' (first|(exact Bool.noConfusion (show false=true from h))|refine sq ?_|refine bk ?_|((first|refine rg ttok ?_|refine dw ttok mixed ?_|refine cd ?_|refine sk ?_|refine xt ?_|refine rt ?_);conv=>whnf)|(refine And.intro (fun h=>?_) (fun h=>?_) <;> (try simp only [brsA] at h) <;> conv=>whnf)|(refine Or.inl ?_;(conv=>whnf);refine ⟨_,c,?_⟩;conv=>whnf)|((first|refine wf ?_|refine wp' ?_|refine ai ?_|refine And.intro rfl ?_|refine an ?_|fail);conv=>whnf))
    all_goals first|rfl
  ·have h:=of_decide_eq_false h
   have e:i=l.length:=by omega
   subst e
   have e:l.any badS=false:=by
    rw [List.any_eq_false]
    intro r hr
    obtain ⟨j,hj,rfl⟩:=List.getElem_of_mem hr
    have:=hI j hj
    rw [List.getD_eq_getElem?_getD,List.getElem?_eq_getElem hj] at this
    have this:badS l[j]=false:=this
    rw [this]
    exact Bool.noConfusion
   rw [e]
   conv=>whnf
   repeat' (first|refine sq ?_|refine bk ?_|((first|refine rg ttok ?_|refine dw ttok mixed ?_|refine cd ?_|refine sk ?_|refine xt ?_|refine rt ?_);conv=>whnf)|(refine And.intro (fun h=>?_) (fun h=>?_) <;> (try simp only [brsA] at h) <;> conv=>whnf)|((first|refine wf ?_|refine wp' ?_|refine ai ?_|refine And.intro rfl ?_|refine an ?_|fail);conv=>whnf))
   all_goals first|rfl
def zSp:A:=.agg [.bool false,.int .u64 0,.int .u64 0,.int .u64 0,.int .u64 0,.int .u64 0,.int .u64 0,.int .u64 0,.int .u64 0,.bool false,.int .u64 0,.int .u64 0,.int .u64 0,.int .u64 0,.int .u64 0,.int .u64 0,.int .u64 0,.int .u64 0,.int .u64 0,.int .u64 0,.int .u64 0,.int .u64 0,.int .u64 0,.int .u64 0,.int .u64 0,.int .u64 0]
def srtR (l:List RS) (h:∀ r ∈ l,MayR r):List RS:=vals (putAll (mkMS l h))
theorem srtR_pos {l:List RS} (h:∀ r ∈ l,MayR r) (h0:l ≠ []):0 < (srtR l h).length:=by
 unfold srtR vals
 rw [List.length_map,List.length_pos_iff]
 intro q
 have hl:0 < (mkMS l h).length:=by rw [mkMS_len]; exact List.length_pos_iff.2 h0
 have k:=((putAll_strict (mkMS l h) [] List.Pairwise.nil).2 ((mkMS l h)[0])).2 (.inr (List.getElem_mem hl))
 have k:(mkMS l h)[0] ∈ putAll (mkMS l h):=k
 rw [q] at k
 exact absurd k (by simp)
theorem srtR_le {l:List RS} (h:∀ r ∈ l,MayR r):(srtR l h).length≤l.length:=by
 unfold srtR vals
 rw [List.length_map]
 have:=putAll_len (mkMS l h) (mkMS l h).length (Nat.le_refl _)
 rw [List.take_length,mkMS_len] at this
 exact this
theorem srtR_may {l:List RS} (h:∀ r ∈ l,MayR r):∀ r ∈ srtR l h,MayR r:=by
 unfold srtR vals
 intro r hr
 obtain ⟨x,_,rfl⟩:=List.mem_map.1 hr
 exact x.2
theorem box_bad (l:List RS) (hk:∀ r ∈ l,Rk r) (hl:l.length≤1000) (hb:l.any badS=true) :
  ACalls Tryz.prog G 17 [slS l] (.tup [zSp,zSp,.int .i64 1]):=by
 have c1:=sort_bad (G:=G) l hk (by omega) hb
 unfold zSp
 refine ACalls.of_WA ttok Tryz.func17 rfl rfl _ rfl ?_
 conv=>whnf
 repeat' (first|refine sq ?_|refine bk ?_|((first|refine rg ttok ?_|refine dw ttok mixed ?_|refine cd ?_|refine sk ?_|refine xt ?_|refine rt ?_);conv=>whnf)|(refine And.intro (fun h=>?_) (fun h=>?_) <;> (try simp only [brsA] at h) <;> conv=>whnf)|(refine Or.inl ?_;(conv=>whnf);refine ⟨_,c1,?_⟩;conv=>whnf)|((first|refine wf ?_|refine wp' ?_|refine ai ?_|refine And.intro rfl ?_|refine an ?_|fail);conv=>whnf))
 all_goals first|contradiction|skip
theorem box_nil (hns:(default:DRT).ns) :
  ACalls Tryz.prog G 17 [slS []] (.tup [zSp,zSp,.int .i64 11]):=by
 have c1:=sort_nil (G:=G) hns
 unfold zSp
 refine ACalls.of_WA ttok Tryz.func17 rfl rfl _ rfl ?_
 conv=>whnf
 repeat' (first|refine sq ?_|refine bk ?_|((first|refine rg ttok ?_|refine dw ttok mixed ?_|refine cd ?_|refine sk ?_|refine xt ?_|refine rt ?_);conv=>whnf)|(refine And.intro (fun h=>?_) (fun h=>?_) <;> (try simp only [brsA] at h) <;> conv=>whnf)|(refine Or.inl ?_;(conv=>whnf);refine ⟨_,c1,?_⟩;conv=>whnf)|((first|refine wf ?_|refine wp' ?_|refine ai ?_|refine And.intro rfl ?_|refine an ?_|fail);conv=>whnf))
 all_goals first|contradiction|skip
theorem box_ok (hns:(default:DRT).ns) (l:List RS) (h:∀ r ∈ l,MayR r) (hl:l.length≤1000) (h0:l ≠ []) :
  ACalls Tryz.prog G 17 [slS l] (.tup [.agg (rsL ((srtR l h).getD 0 default)),.agg (rsL ((srtR l h).getD ((srtR l h).length - 1) default)),.int .i64 0]):=by
 have c1:=sort_p (G:=G) hns l hl h
 have hp:=srtR_pos h h0
 have hle:=srtR_le h
 have c1:ACalls Tryz.prog G 6 [slS l] (.tup [slS (srtR l h),.int .i64 0]):=c1
 generalize srtR l h=L at *
 have e:((L.length:Int) - 1).toNat=L.length - 1:=by omega
 rw [← e]
 unfold slS rsL spotL at *
 refine ACalls.of_WA ttok Tryz.func17 rfl rfl _ rfl ?_
 conv=>whnf
 repeat' (first|(exact absurd (by assumption) (by omega))|refine sq ?_|refine bk ?_|((first|refine rg ttok ?_|refine dw ttok mixed ?_|refine cd ?_|refine sk ?_|refine xt ?_|refine rt ?_);conv=>whnf)|(refine And.intro (fun h=>?_) (fun h=>?_) <;> (try simp only [brsA] at h) <;> conv=>whnf)|(refine Or.inl ?_;(conv=>whnf);refine ⟨_,c1,?_⟩;conv=>whnf)|((first|refine wf ?_|refine wp' ?_|refine ai ?_|refine And.intro rfl ?_|refine an ?_|fail);conv=>whnf))
 all_goals first|contradiction|skip
def nd (i:Nat):RS:=⟨false,false,i,0,1⟩
theorem nd_may {i:Nat} (h:i≤1000):MayR (nd i):=by
 refine ⟨⟨?_,(by decide:0 < 2 ^ 120),(by decide:1 < 2 ^ 120)⟩,Nat.one_pos,?_,fun q=>Bool.noConfusion q,fun q=>Bool.noConfusion q⟩
 ·show i < 2 ^ 120
  exact Nat.lt_of_le_of_lt h (by decide)
 ·show Nat.gcd (Nat.gcd i 0) 1=1
  exact Nat.gcd_one_right _
theorem nd_spot (i:Nat):.agg (rsL (nd i))=spotA (i:Int) 0 1:=by
 unfold rsL nd spotA
 have e:decide ((i:Int) < 0)=false:=decide_eq_false (by omega)
 rw [e]
 rfl
theorem rAt_n (i:Nat) (hi:i≤1000):ACalls Tryz.prog G 24 [.agg [.int .i64 (i:Int),.int .i64 0]] (.agg (rsL (nd i))):=by
 have o1:=of5_c (G:=G) (i:Int) (by omega) (by omega)
 have o2:=of5_c (G:=G) 0 (by decide) (by decide)
 rw [nd_spot]
 unfold spotA spotL
 unfold intN sgnA at *
 generalize decide ((i:Int) < 0)=p1 at *
 generalize decide ((0:Int) < 0)=p2 at *
 generalize wW (i:Int).natAbs=V1 at *
 generalize wW (0:Int).natAbs=V2 at *
 have e:=wW_low (v:=1) (by decide)
 rw [e 0,e 1,e 2,e 3,e 4,e 5,e 6,e 7]
 refine ACalls.of_WA ttok Tryz.func24 rfl rfl _ rfl ?_
 conv=>whnf
 repeat' (first|refine sq ?_|refine bk ?_|((first|refine rg ttok ?_|refine dw ttok mixed ?_|refine cd ?_|refine sk ?_|refine xt ?_|refine rt ?_);conv=>whnf)|(refine And.intro (fun h=>?_) (fun h=>?_) <;> (try simp only [brsA] at h) <;> conv=>whnf)|(refine Or.inl ?_;(conv=>whnf);(first|refine ⟨_,o1,?_⟩|refine ⟨_,o2,?_⟩);conv=>whnf)|((first|refine wf ?_|refine wp' ?_|refine ai ?_|refine And.intro rfl ?_|refine an ?_|fail);conv=>whnf))
 all_goals first|contradiction|(exfalso;omega)|rfl|skip
def ndA:Nat→List A:=fun j=>rsL (nd j)
def edA:Nat→List A:=fun j=>[.int .i64 0,.int .i64 ((j+1:Nat):Int),.int .i64 ((j+1:Nat):Int),.bool true,.sb (decide (j ≠ 1))]
def crossA:A:=.agg [.sl 5 26 ndA,.sl 4 5 edA,.nils]
theorem nd_row (i:Nat) (r:Nat→List A) (hr:r 0=rsL (nd i)) (j:Nat) (hj:j < i+1):rowCat i ndA r j=ndA j:=by
 unfold rowCat
 split
 ·rfl
 ·rename_i q
  have q:¬ j < i:=fun h'=>by rw [show Nat.blt j i=true from Nat.ble_eq_true_of_le h'] at q; cases q
  have e:j=i:=by omega
  subst e
  rw [Nat.sub_self,hr]
  rfl
theorem ed_row (i:Nat) (r:Nat→List A) (hr:r 0=edA i) (j:Nat) (hj:j < i+1):rowCat i edA r j=edA j:=by
 unfold rowCat
 split
 ·rfl
 ·rename_i q
  have q:¬ j < i:=fun h'=>by rw [show Nat.blt j i=true from Nat.ble_eq_true_of_le h'] at q; cases q
  have e:j=i:=by omega
  subst e
  rw [Nat.sub_self,hr]
theorem cross_c:ACalls Tryz.prog G 40 [] crossA:=by
 unfold crossA
 refine ACalls.of_WA ttok Tryz.func40 rfl rfl _ rfl ?_
 conv=>whnf
 repeat' (first|refine sq ?_|refine bk ?_|((first|refine rg ttok ?_|refine dw ttok mixed ?_|refine cd ?_|refine sk ?_|refine xt ?_|refine rt ?_);conv=>whnf)|(refine And.intro (fun h=>?_) (fun h=>?_) <;> (try simp only [brsA] at h) <;> conv=>whnf)|((first|refine wf ?_|refine wp' ?_|refine ai ?_|refine And.intro rfl ?_|refine an ?_|fail);conv=>whnf))
 refine WA_nilB 1 0 34 26 rfl rfl ?_
 conv=>whnf
 refine WA_nilB 1 1 113 5 rfl rfl ?_
 conv=>whnf
 refine WA_loopI (fun i:Nat=>i≤5) (fun i=>[(2,.int .i64 (i:Int))]) (fun i=>[.box 70 [.nils,.nils,.nils],.box 70 [.own 2,.own 3,.nils],.row 34 26 i ndA,.row 113 5 0 edA]) (fun i=>5 - i) 0 (Nat.zero_le _) ?_ ?_
 ·conv=>whnf
  repeat (first|exact fa|((first|refine fb ?_|(refine And.intro ?_ ?_;rotate_left));conv=>whnf))
 ·intro i hi
  have hi:i≤5:=hi
  have c:=rAt_n (G:=G) i (by omega)
  conv=>whnf
  repeat (first|refine sq ?_|refine bk ?_|((first|refine rg ttok ?_|refine dw ttok mixed ?_|refine cd ?_|refine sk ?_|refine xt ?_|refine rt ?_);conv=>whnf))
  refine ⟨fun h=>?_,fun h=>?_⟩
  ·have h:=of_decide_eq_true h
   have hc:i < 5:=by omega
   conv=>whnf
   repeat' (first|((refine WA_renR (id:=4) 6 [0,1,5,3] rfl rfl ?_;conv=>whnf))|refine sq ?_|refine bk ?_|((first|refine rg ttok ?_|refine dw ttok mixed ?_|refine cd ?_|refine sk ?_|refine xt ?_|refine rt ?_);conv=>whnf)|(refine And.intro (fun h=>?_) (fun h=>?_) <;> (try simp only [brsA] at h) <;> conv=>whnf)|(refine Or.inl ?_;(conv=>whnf);refine ⟨_,c,?_⟩;conv=>whnf)|((first|refine wf ?_|refine wp' ?_|refine ai ?_|refine And.intro rfl ?_|refine an ?_|fail);conv=>whnf))
   refine ⟨i+1,hc,(by show 5 - (i+1) < 5 - i; omega),?_⟩
   conv=>whnf
   repeat (first|exact fa|((first|refine fb ?_|(refine And.intro ?_ ?_;rotate_left));conv=>whnf))
   all_goals first|exact .inl (fun j hj=>nd_row i _ rfl j hj)
  ·have h:=of_decide_eq_false h
   have e:i=5:=by omega
   subst e
   clear c h hi
   conv=>whnf
   repeat' (first|refine sq ?_|refine bk ?_|((first|refine rg ttok ?_|refine dw ttok mixed ?_|refine cd ?_|refine sk ?_|refine xt ?_|refine rt ?_);conv=>whnf)|(refine And.intro (fun h=>?_) (fun h=>?_) <;> (try simp only [brsA] at h) <;> conv=>whnf)|((first|refine wf ?_|refine wp' ?_|refine ai ?_|refine And.intro rfl ?_|refine an ?_|fail);conv=>whnf))
   refine WA_loopI (fun k:Nat=>k≤4) (fun k=>[(3,.int .i64 ((k+1:Nat):Int))]) (fun k=>[.box 70 [.nils,.nils,.nils],.box 70 [.own 2,.own 3,.nils],.row 34 26 5 ndA,.row 113 5 k edA]) (fun k=>4 - k) 0 (Nat.zero_le _) ?_ ?_
   ·conv=>whnf
    repeat (first|exact fa|((first|refine fb ?_|(refine And.intro ?_ ?_;rotate_left));conv=>whnf))
   ·intro k hk
    have hk:k≤4:=hk
    rcases (show k=0∨k=1∨k=2∨k=3∨k=4 by omega) with rfl | rfl | rfl | rfl | rfl
    rotate_right
    ·conv=>whnf
     repeat (first|refine sq ?_|refine bk ?_|((first|refine rg ttok ?_|refine dw ttok mixed ?_|refine cd ?_|refine sk ?_|refine xt ?_|refine rt ?_);conv=>whnf))
     refine ⟨fun h=>absurd h (by decide),fun h=>?_⟩
     conv=>whnf
     refine WA_freeze 2 ?_
     conv=>whnf
     refine WA_freeze 3 ?_
     conv=>whnf
     repeat' (first|refine sq ?_|refine bk ?_|((first|refine rg ttok ?_|refine dw ttok mixed ?_|refine cd ?_|refine sk ?_|refine xt ?_|refine rt ?_);conv=>whnf)|(refine And.intro (fun h=>?_) (fun h=>?_) <;> (try simp only [brsA] at h) <;> conv=>whnf)|((first|refine wf ?_|refine wp' ?_|refine ai ?_|refine And.intro rfl ?_|refine an ?_|fail);conv=>whnf))
     refine ⟨.inl fun _ _=>rfl,?_⟩
     conv=>whnf
     repeat (first|exact fa|((first|refine fb ?_|(refine And.intro ?_ ?_;rotate_left));conv=>whnf))
     all_goals first|exact .inl fun _ _=>rfl
    all_goals
     conv=>whnf
     repeat (first|refine sq ?_|refine bk ?_|((first|refine rg ttok ?_|refine dw ttok mixed ?_|refine cd ?_|refine sk ?_|refine xt ?_|refine rt ?_);conv=>whnf))
     refine ⟨fun h=>?_,fun h=>absurd h (by decide)⟩
     conv=>whnf
     repeat' (first|refine sq ?_|refine bk ?_|((first|refine rg ttok ?_|refine dw ttok mixed ?_|refine cd ?_|refine sk ?_|refine xt ?_|refine rt ?_);conv=>whnf)|(refine And.intro (fun h=>?_) (fun h=>?_) <;> (try simp only [brsA] at h) <;> conv=>whnf)|((first|refine wf ?_|refine wp' ?_|refine ai ?_|refine And.intro rfl ?_|refine an ?_|fail);conv=>whnf))
     first|refine ⟨1,by decide,by decide,?_⟩|refine ⟨2,by decide,by decide,?_⟩|refine ⟨3,by decide,by decide,?_⟩|refine ⟨4,by decide,by decide,?_⟩
     conv=>whnf
     repeat (first|exact fa|((first|refine fb ?_|(refine And.intro ?_ ?_;rotate_left));conv=>whnf))
     all_goals exact .inl (ed_row _ _ rfl)
theorem netcmp_r {a b:RS} (ha:MayR a) (hb:MayR b):ACalls Tryz.prog G 136 [spR a,spR b] (.int .i64 (cmpR a b)):=by
 have c1:=sCmp_r (G:=G) ha.1.rk hb.1.rk
 rw [if_pos ⟨ha,hb⟩,if_pos ⟨ha,hb⟩] at c1
 generalize cmpR a b=s at *
 unfold spR spotL at *
 generalize wW a.x=A1 at *
 generalize wW a.y=A2 at *
 generalize wW a.w=A3 at *
 generalize wW b.x=B1 at *
 generalize wW b.y=B2 at *
 generalize wW b.w=B3 at *
 generalize a.p=p1 at *
 generalize a.q=p2 at *
 generalize b.p=p3 at *
 generalize b.q=p4 at *
 clear ha hb
 refine ACalls.of_WA ttok Tryz.func136 rfl rfl _ rfl ?_
 conv=>whnf
 repeat' (first|refine sq ?_|refine bk ?_|((first|refine rg ttok ?_|refine dw ttok mixed ?_|refine cd ?_|refine sk ?_|refine xt ?_|refine rt ?_);conv=>whnf)|(refine And.intro (fun h=>?_) (fun h=>?_) <;> (try simp only [brsA] at h) <;> conv=>whnf)|(refine Or.inl ?_;(conv=>whnf);refine ⟨_,c1,?_⟩;conv=>whnf)|((first|refine wf ?_|refine wp' ?_|refine ai ?_|refine And.intro rfl ?_|refine an ?_|fail);conv=>whnf))
 all_goals first|contradiction|skip
theorem nd_lt (i:Nat):cmpR (nd i) (nd (i+1)) < 0:=by
 rw [cmpR_lt]
 refine .inl ?_
 show sgI false i*((1:Nat):Int) < sgI false (i+1)*((1:Nat):Int)
 unfold sgI
 simp
 omega
theorem nodes_c:ACalls Tryz.prog G 98 [.sl 5 26 ndA] (.sb true):=by
 unfold ndA
 refine ACalls.of_WA ttok Tryz.func98 rfl rfl _ rfl ?_
 conv=>whnf
 repeat' (first|refine sq ?_|refine bk ?_|((first|refine rg ttok ?_|refine dw ttok mixed ?_|refine cd ?_|refine sk ?_|refine xt ?_|refine rt ?_);conv=>whnf)|(refine And.intro (fun h=>?_) (fun h=>?_) <;> (try simp only [brsA] at h) <;> conv=>whnf)|((first|refine wf ?_|refine wp' ?_|refine ai ?_|refine And.intro rfl ?_|refine an ?_|fail);conv=>whnf))
 refine WA_loopI (fun i:Nat=>i≤5) (fun i=>[(7,.int .i64 (i:Int))]) (fun i=>[]) (fun i=>5 - i) 0 (Nat.zero_le _) ?_ ?_
 ·conv=>whnf
  repeat (first|exact fa|((first|refine fb ?_|(refine And.intro ?_ ?_;rotate_left));conv=>whnf))
 ·intro i hi
  have hi:i≤5:=hi
  have nq:∀ {p:Prop},(false=true)→p:=fun e=>Bool.noConfusion e
  have nt:∀ {p:Prop},(true=false)→p:=fun e=>Bool.noConfusion e
  have c1:=sMay_r (G:=G) (nd i) (nd_may (i:=i) (by omega)).1.rk
  rw [decide_eq_true (nd_may (i:=i) (by omega)),spR_L] at c1
  conv=>whnf
  repeat (first|refine sq ?_|refine bk ?_|((first|refine rg ttok ?_|refine dw ttok mixed ?_|refine cd ?_|refine sk ?_|refine xt ?_|refine rt ?_);conv=>whnf))
  refine ⟨fun h=>?_,fun h=>?_⟩
  ·have h:=of_decide_eq_true h
   have hc:i < 5:=by omega
   by_cases h0:i=0
   ·conv=>whnf
    repeat' (first|(first|with_reducible exact nq h|with_reducible exact nt h)|(exact absurd (by assumption) (by omega))|refine sq ?_|refine bk ?_|((first|refine rg ttok ?_|refine dw ttok mixed ?_|refine cd ?_|refine sk ?_|refine xt ?_|refine rt ?_);conv=>whnf)|(refine And.intro (fun h=>?_) (fun h=>?_) <;> (try simp only [brsA] at h) <;> conv=>whnf)|(refine Or.inl ?_;(conv=>whnf);refine ⟨_,c1,?_⟩;conv=>whnf)|((first|refine wf ?_|refine wp' ?_|refine ai ?_|refine And.intro rfl ?_|refine an ?_|fail);conv=>whnf))
    refine ⟨i+1,hc,(by show 5 - (i+1) < 5 - i; omega),?_⟩
    conv=>whnf
    repeat (first|exact fa|((first|refine fb ?_|(refine And.intro ?_ ?_;rotate_left));conv=>whnf))
   ·obtain ⟨k,rfl⟩ : ∃ k,i=k+1:=⟨i - 1,by omega⟩
    have c2:=netcmp_r (G:=G) (nd_may (i:=k) (by omega)) (nd_may (i:=k+1) (by omega))
    have hz:=nd_lt k
    have ei:(((k+1:Nat):Int) - 1).toNat=k:=by omega
    rw [spR_L,spR_L] at c2
    generalize cmpR (nd k) (nd (k+1))=z at *
    have c2:ACalls Tryz.prog G 136 [.agg (rsL (nd (((k+1:Nat):Int) - 1).toNat)),.agg (rsL (nd (k+1)))] (.int .i64 z):=by rw [ei]; exact c2
    conv=>whnf
    repeat' (first|(first|with_reducible exact nq h|with_reducible exact nt h)|(exact absurd (by assumption) (by omega))|refine sq ?_|refine bk ?_|((first|refine rg ttok ?_|refine dw ttok mixed ?_|refine cd ?_|refine sk ?_|refine xt ?_|refine rt ?_);conv=>whnf)|(refine And.intro (fun h=>?_) (fun h=>?_) <;> (try simp only [brsA] at h) <;> conv=>whnf)|(refine Or.inl ?_;(conv=>whnf);(first|refine ⟨_,c1,?_⟩|refine ⟨_,c2,?_⟩);conv=>whnf)|((first|refine wf ?_|refine wp' ?_|refine ai ?_|refine And.intro rfl ?_|refine an ?_|fail);conv=>whnf))
    refine ⟨k+1+1,hc,(by show 5 - (k+1+1) < 5 - (k+1); omega),?_⟩
    conv=>whnf
    repeat (first|exact fa|((first|refine fb ?_|(refine And.intro ?_ ?_;rotate_left));conv=>whnf))
  ·conv=>whnf
   repeat' (first|refine sq ?_|refine bk ?_|((first|refine rg ttok ?_|refine dw ttok mixed ?_|refine cd ?_|refine sk ?_|refine xt ?_|refine rt ?_);conv=>whnf)|(refine And.intro (fun h=>?_) (fun h=>?_) <;> (try simp only [brsA] at h) <;> conv=>whnf)|((first|refine wf ?_|refine wp' ?_|refine ai ?_|refine And.intro rfl ?_|refine an ?_|fail);conv=>whnf))
   all_goals first|rfl
theorem order_c (a b c d:Int):ACalls Tryz.prog G 100 [.agg [.int .i64 a,.int .i64 b],.agg [.int .i64 c,.int .i64 d]] (.int .i64 (firstNZ [cmpI a c,cmpI b d])):=by
 have k1:=compare_c (G:=G) a c
 have k2:=compare_c (G:=G) b d
 have ko:=or_c (G:=G) [cmpI a c,cmpI b d] (by simp)
 unfold intsA at ko
 generalize firstNZ [cmpI a c,cmpI b d]=z at *
 generalize cmpI a c=z1 at *
 generalize cmpI b d=z2 at *
 have ko:=ko.fit (args':=[.sl 2 1 (fun i=>takeL 1 (List.drop (i*1) [.int .i64 z1,.int .i64 z2]))]) (by
  conv=>whnf
  repeat (first|exact fa|((first|refine fb ?_|(refine And.intro ?_ ?_;rotate_left));conv=>whnf))
  all_goals first|exact .inl (fun i h=>by rcases (show i=0∨i=1 by omega) with rfl|rfl <;> rfl))
 refine ACalls.of_WA ttok Tryz.func100 rfl rfl _ rfl ?_
 conv=>whnf
 repeat' (first|refine sq ?_|refine bk ?_|((first|refine rg ttok ?_|refine dw ttok mixed ?_|refine cd ?_|refine sk ?_|refine xt ?_|refine rt ?_);conv=>whnf)|(refine And.intro (fun h=>?_) (fun h=>?_) <;> (try simp only [brsA] at h) <;> conv=>whnf)|(refine Or.inl ?_;(conv=>whnf);(first|refine ⟨_,k1,?_⟩|refine ⟨_,k2,?_⟩|refine ⟨_,ko,?_⟩);conv=>whnf)|((first|refine wf ?_|refine wp' ?_|refine ai ?_|refine And.intro rfl ?_|refine an ?_|fail);conv=>whnf))
 all_goals first|contradiction|skip
theorem weight_c (w:Int) (h0:0≤w) (h1:w≤2147483648):ACalls Tryz.prog G 99 [.int .i64 w] (.sb true):=by
 refine ACalls.of_WA ttok Tryz.func99 rfl rfl _ rfl ?_
 conv=>whnf
 repeat' (first|refine sq ?_|refine bk ?_|((first|refine rg ttok ?_|refine dw ttok mixed ?_|refine cd ?_|refine sk ?_|refine xt ?_|refine rt ?_);conv=>whnf)|(refine And.intro (fun h=>?_) (fun h=>?_) <;> (try simp only [brsA] at h) <;> conv=>whnf)|((first|refine wf ?_|refine wp' ?_|refine ai ?_|refine And.intro rfl ?_|refine an ?_|fail);conv=>whnf))
 all_goals first|contradiction|(exfalso;omega)|skip
 all_goals first|(exact decide_eq_true h1)
theorem ofE_c (k:Nat) (q:Bool):ACalls Tryz.prog G 101 [.agg [.int .i64 0,.int .i64 (k:Int),.int .i64 (k:Int),.bool true,.sb q]] (.agg [.int .i64 0,.int .i64 (k:Int)]):=by
 refine ACalls.of_WA ttok Tryz.func101 rfl rfl _ rfl ?_
 conv=>whnf
 repeat' (first|refine sq ?_|refine bk ?_|((first|refine rg ttok ?_|refine dw ttok mixed ?_|refine cd ?_|refine sk ?_|refine xt ?_|refine rt ?_);conv=>whnf)|(refine And.intro (fun h=>?_) (fun h=>?_) <;> (try simp only [brsA] at h) <;> conv=>whnf)|((first|refine wf ?_|refine wp' ?_|refine ai ?_|refine And.intro rfl ?_|refine an ?_|fail);conv=>whnf))
theorem idxP_c:ACalls Tryz.prog G 138 [.nils,.fn 103 [.bref [.sl 5 26 ndA,.sl 4 5 edA,.nils] 0]] (.int .i64 (-1)):=by
 refine ACalls.of_WA ttok Tryz.func138 rfl rfl _ rfl ?_
 conv=>whnf
 repeat' (first|refine sq ?_|refine bk ?_|((first|refine rg ttok ?_|refine dw ttok mixed ?_|refine cd ?_|refine sk ?_|refine xt ?_|refine rt ?_);conv=>whnf)|(refine And.intro (fun h=>?_) (fun h=>?_) <;> (try simp only [brsA] at h) <;> conv=>whnf)|((first|refine wf ?_|refine wp' ?_|refine ai ?_|refine And.intro rfl ?_|refine an ?_|fail);conv=>whnf))
 refine WA_loopI (fun _:Nat=>True) (fun _=>[(8,.int .i64 0)]) (fun i=>[]) (fun i=>0) 0 trivial ?_ ?_
 ·conv=>whnf
  repeat (first|exact fa|((first|refine fb ?_|(refine And.intro ?_ ?_;rotate_left));conv=>whnf))
 ·intro i hi
  conv=>whnf
  repeat' (first|refine sq ?_|refine bk ?_|((first|refine rg ttok ?_|refine dw ttok mixed ?_|refine cd ?_|refine sk ?_|refine xt ?_|refine rt ?_);conv=>whnf)|(refine And.intro (fun h=>?_) (fun h=>?_) <;> (try simp only [brsA] at h) <;> conv=>whnf)|((first|refine wf ?_|refine wp' ?_|refine ai ?_|refine And.intro rfl ?_|refine an ?_|fail);conv=>whnf))
  all_goals first|rfl|trivial|(exfalso;omega)
theorem conP_c:ACalls Tryz.prog G 102 [.nils,.fn 103 [.bref [.sl 5 26 ndA,.sl 4 5 edA,.nils] 0]] (.sb false):=by
 have c:=idxP_c (G:=G)
 refine ACalls.of_WA ttok Tryz.func102 rfl rfl _ rfl ?_
 conv=>whnf
 repeat' (first|refine sq ?_|refine bk ?_|((first|refine rg ttok ?_|refine dw ttok mixed ?_|refine cd ?_|refine sk ?_|refine xt ?_|refine rt ?_);conv=>whnf)|(refine And.intro (fun h=>?_) (fun h=>?_) <;> (try simp only [brsA] at h) <;> conv=>whnf)|(refine Or.inl ?_;(conv=>whnf);refine ⟨_,c,?_⟩;conv=>whnf)|((first|refine wf ?_|refine wp' ?_|refine ai ?_|refine And.intro rfl ?_|refine an ?_|fail);conv=>whnf))
 all_goals first|rfl
theorem netMay_c:ACalls Tryz.prog G 72 [crossA] (.sb true):=by
 have c1:=nodes_c (G:=G)
 have nq:∀ {p:Prop},(false=true)→p:=fun e=>Bool.noConfusion e
 have nt:∀ {p:Prop},(true=false)→p:=fun e=>Bool.noConfusion e
 unfold crossA
 refine ACalls.of_WA ttok Tryz.func72 rfl rfl _ rfl ?_
 conv=>whnf
 repeat' (first|(first|with_reducible exact nq h|with_reducible exact nt h)|(exact absurd (by assumption) (by decide))|refine sq ?_|refine bk ?_|((first|refine rg ttok ?_|refine dw ttok mixed ?_|refine cd ?_|refine sk ?_|refine xt ?_|refine rt ?_);conv=>whnf)|(refine And.intro (fun h=>?_) (fun h=>?_) <;> (try simp only [brsA] at h) <;> conv=>whnf)|(refine Or.inl ?_;(conv=>whnf);refine ⟨_,c1,?_⟩;conv=>whnf)|((first|refine wf ?_|refine wp' ?_|refine ai ?_|refine And.intro rfl ?_|refine an ?_|fail);conv=>whnf))
 refine WA_freeze 0 ?_
 conv=>whnf
 refine WA_ren [] rfl ?_
 conv=>whnf
 refine WA_loopI (fun k:Nat=>k≤4) (fun k=>[(30,.int .i64 (k:Int))]) (fun i=>[]) (fun k=>4 - k) 0 (Nat.zero_le _) ?_ ?_
 ·conv=>whnf
  repeat (first|exact fa|((first|refine fb ?_|(refine And.intro ?_ ?_;rotate_left));conv=>whnf))
 ·intro k hk
  have hk:k≤4:=hk
  have w1:=weight_c (G:=G) 1 (by decide) (by decide)
  have e1:=ofE_c (G:=G) 1 true
  have w2:=weight_c (G:=G) 2 (by decide) (by decide)
  have e2:=ofE_c (G:=G) 2 false
  have w3:=weight_c (G:=G) 3 (by decide) (by decide)
  have e3:=ofE_c (G:=G) 3 true
  have w4:=weight_c (G:=G) 4 (by decide) (by decide)
  have e4:=ofE_c (G:=G) 4 true
  have o1:ACalls Tryz.prog G 100 [.agg [.int .i64 0,.int .i64 1],.agg [.int .i64 0,.int .i64 2]] (.int .i64 (-1)):=order_c 0 1 0 2
  have o2:ACalls Tryz.prog G 100 [.agg [.int .i64 0,.int .i64 2],.agg [.int .i64 0,.int .i64 3]] (.int .i64 (-1)):=order_c 0 2 0 3
  have o3:ACalls Tryz.prog G 100 [.agg [.int .i64 0,.int .i64 3],.agg [.int .i64 0,.int .i64 4]] (.int .i64 (-1)):=order_c 0 3 0 4
  have cp:=conP_c (G:=G)
  rcases (show k=0∨k=1∨k=2∨k=3∨k=4 by omega) with rfl | rfl | rfl | rfl | rfl
  all_goals
   conv=>whnf
   repeat' (first|(first|with_reducible exact nq h|with_reducible exact nt h|with_reducible exact absurd h (by omega))|refine sq ?_|refine bk ?_|((first|refine rg ttok ?_|refine dw ttok mixed ?_|refine cd ?_|refine sk ?_|refine xt ?_|refine rt ?_);conv=>whnf)|(refine And.intro (fun h=>?_) (fun h=>?_) <;> (try simp only [brsA] at h) <;> conv=>whnf)|(refine Or.inl ?_;(conv=>whnf);(first|refine ⟨_,w1,?_⟩|refine ⟨_,w2,?_⟩|refine ⟨_,w3,?_⟩|refine ⟨_,w4,?_⟩|refine ⟨_,e1,?_⟩|refine ⟨_,e2,?_⟩|refine ⟨_,e3,?_⟩|refine ⟨_,e4,?_⟩|refine ⟨_,o1,?_⟩|refine ⟨_,o2,?_⟩|refine ⟨_,o3,?_⟩|refine ⟨_,cp,?_⟩);conv=>whnf)|((first|refine wf ?_|refine wp' ?_|refine ai ?_|refine And.intro rfl ?_|refine an ?_|fail);conv=>whnf))
   all_goals first|rfl|skip
   all_goals
    first|refine ⟨1,by decide,by decide,?_⟩|refine ⟨2,by decide,by decide,?_⟩|refine ⟨3,by decide,by decide,?_⟩|refine ⟨4,by decide,by decide,?_⟩
    conv=>whnf
    repeat (first|exact fa|((first|refine fb ?_|(refine And.intro ?_ ?_;rotate_left));conv=>whnf))
theorem ends_5:ACalls Tryz.prog G 73 [crossA,.int .i64 5] (.tup [.int .i64 3,.int .i64 0,.sb true]):=by
 unfold crossA
 refine ACalls.of_WA ttok Tryz.func73 rfl rfl _ rfl ?_
 conv=>whnf
 repeat' (first|(with_reducible exact absurd h (by decide))|refine sq ?_|refine bk ?_|((first|refine rg ttok ?_|refine dw ttok mixed ?_|refine cd ?_|refine sk ?_|refine xt ?_|refine rt ?_);conv=>whnf)|(refine And.intro (fun h=>?_) (fun h=>?_) <;> (try simp only [brsA] at h) <;> conv=>whnf)|((first|refine wf ?_|refine wp' ?_|refine ai ?_|refine And.intro rfl ?_|refine an ?_|fail);conv=>whnf))
 all_goals first|rfl|decide
theorem ends_6:ACalls Tryz.prog G 73 [crossA,.int .i64 6] (.tup [.int .i64 0,.int .i64 4,.bool true]):=by
 unfold crossA
 refine ACalls.of_WA ttok Tryz.func73 rfl rfl _ rfl ?_
 conv=>whnf
 repeat' (first|(with_reducible exact absurd h (by decide))|refine sq ?_|refine bk ?_|((first|refine rg ttok ?_|refine dw ttok mixed ?_|refine cd ?_|refine sk ?_|refine xt ?_|refine rt ?_);conv=>whnf)|(refine And.intro (fun h=>?_) (fun h=>?_) <;> (try simp only [brsA] at h) <;> conv=>whnf)|((first|refine wf ?_|refine wp' ?_|refine ai ?_|refine And.intro rfl ?_|refine an ?_|fail);conv=>whnf))
def outL:Nat→List RS
 | 0=>[]
 | 1=>[nd 3,nd 0]
 | _=>[nd 3,nd 0,nd 4]
def atL:Nat→Int
 | 0=>-1
 | 1=>0
 | _=>4
theorem shapeOf_c:ACalls Tryz.prog G 39 [crossA,.sl 2 1 (fun i=>takeL 1 (List.drop (i*1) [.int .i64 5,.int .i64 6]))] (.tup [slS [nd 3,nd 0,nd 4],.int .i64 0]):=by
 have c1:=netMay_c (G:=G)
 have e5:=ends_5 (G:=G)
 have e6:=ends_6 (G:=G)
 have nq:∀ {p:Prop},(false=true)→p:=fun e=>Bool.noConfusion e
 have nt:∀ {p:Prop},(true=false)→p:=fun e=>Bool.noConfusion e
 unfold slS
 unfold crossA at *
 refine ACalls.of_WA ttok Tryz.func39 rfl rfl _ rfl ?_
 conv=>whnf
 repeat' (first|(first|with_reducible exact nq h|with_reducible exact nt h)|refine sq ?_|refine bk ?_|((first|refine rg ttok ?_|refine dw ttok mixed ?_|refine cd ?_|refine sk ?_|refine xt ?_|refine rt ?_);conv=>whnf)|(refine And.intro (fun h=>?_) (fun h=>?_) <;> (try simp only [brsA] at h) <;> conv=>whnf)|(refine Or.inl ?_;(conv=>whnf);refine ⟨_,c1,?_⟩;conv=>whnf)|((first|refine wf ?_|refine wp' ?_|refine ai ?_|refine And.intro rfl ?_|refine an ?_|fail);conv=>whnf))
 refine WA_freeze 0 ?_
 conv=>whnf
 refine WA_ren [] rfl ?_
 conv=>whnf
 refine WA_nil 6 34 26 rfl ?_
 conv=>whnf
 refine WA_loopI (fun k:Nat=>k≤2) (fun k=>[(18,.int .i64 (k:Int)),(7,.int .i64 (atL k)),(6,.own 0)]) (fun k=>[.row 34 26 (outL k).length (fun j=>rsL ((outL k).getD j default))]) (fun k=>2 - k) 0 (Nat.zero_le _) ?_ ?_
 ·conv=>whnf
  repeat (first|exact fa|((first|refine fb ?_|(refine And.intro ?_ ?_;rotate_left));conv=>whnf))
 ·intro k hk
  have hk:k≤2:=hk
  rcases (show k=0∨k=1∨k=2 by omega) with rfl | rfl | rfl
  ·conv=>whnf
   repeat' (first|(first|with_reducible exact nq h|with_reducible exact nt h|with_reducible exact absurd h (by decide))|refine sq ?_|refine bk ?_|((first|refine rg ttok ?_|refine dw ttok mixed ?_|refine cd ?_|refine sk ?_|refine xt ?_|refine rt ?_);conv=>whnf)|(refine And.intro (fun h=>?_) (fun h=>?_) <;> (try simp only [brsA] at h) <;> conv=>whnf)|(refine Or.inl ?_;(conv=>whnf);refine ⟨_,e5,?_⟩;conv=>whnf)|((first|refine wf ?_|refine wp' ?_|refine ai ?_|refine And.intro rfl ?_|refine an ?_|fail);conv=>whnf))
   refine ⟨1,by decide,(by show 2 - 1 < 2 - 0; decide),?_⟩
   conv=>whnf
   repeat (first|exact fa|((first|refine fb ?_|(refine And.intro ?_ ?_;rotate_left));conv=>whnf))
   all_goals first|exact .inl fun j hj=>by rcases (show j=0∨j=1 from (by have hj:j < 2:=hj;omega)) with rfl|rfl <;> rfl
  ·conv=>whnf
   repeat' (first|(first|with_reducible exact nq h|with_reducible exact nt h|with_reducible exact absurd h (by decide))|refine sq ?_|refine bk ?_|((first|refine rg ttok ?_|refine dw ttok mixed ?_|refine cd ?_|refine sk ?_|refine xt ?_|refine rt ?_);conv=>whnf)|(refine And.intro (fun h=>?_) (fun h=>?_) <;> (try simp only [brsA] at h) <;> conv=>whnf)|(refine Or.inl ?_;(conv=>whnf);refine ⟨_,e6,?_⟩;conv=>whnf)|((first|refine wf ?_|refine wp' ?_|refine ai ?_|refine And.intro rfl ?_|refine an ?_|fail);conv=>whnf))
   refine ⟨2,by decide,(by show 2 - 2 < 2 - 1; decide),?_⟩
   conv=>whnf
   repeat (first|exact fa|((first|refine fb ?_|(refine And.intro ?_ ?_;rotate_left));conv=>whnf))
   all_goals first|exact .inl fun j hj=>by rcases (show j=0∨j=1∨j=2 from (by have hj:j < 3:=hj;omega)) with rfl|rfl|rfl <;> rfl
  ·conv=>whnf
   repeat' (first|(first|with_reducible exact nq h|with_reducible exact nt h|with_reducible exact absurd h (by decide))|refine sq ?_|refine bk ?_|((first|refine rg ttok ?_|refine dw ttok mixed ?_|refine cd ?_|refine sk ?_|refine xt ?_|refine rt ?_);conv=>whnf)|(refine And.intro (fun h=>?_) (fun h=>?_) <;> (try simp only [brsA] at h) <;> conv=>whnf)|((first|refine wf ?_|refine wp' ?_|refine ai ?_|refine And.intro rfl ?_|refine an ?_|fail);conv=>whnf))
   exact ⟨.inl fun _ _=>rfl,rfl⟩
theorem sh_ex:strT [nd 0,nd 1,nd 5] [nd 0,nd 1,nd 5].length=[nd 0,nd 5]:=by decide
theorem nd3_may:∀ r ∈ [nd 0,nd 1,nd 5],MayR r:=by
 intro r h
 simp only [List.mem_cons,List.not_mem_nil,or_false] at h
 rcases h with rfl | rfl | rfl <;> exact nd_may (by decide)
theorem awakeH_c:ACalls Tryz.prog G 14 [] (.sb true):=by
 have c1:=rAt_n (G:=G) 0 (by decide)
 have c2:=rAt_n (G:=G) 1 (by decide)
 have c3:=rAt_n (G:=G) 5 (by decide)
 have c4:=straight_ok (G:=G) [nd 0,nd 1,nd 5] nd3_may (by decide)
 rw [sh_ex] at c4
 have c5:=c4.fit (args':=[.sl 3 26 (fun i=>takeL 26 (List.drop (i*26) (rsL (nd 0) ++ (rsL (nd 1) ++ rsL (nd 5)))))]) (by
  unfold slS
  have k:=sl_abc (nd 0) (nd 1) (nd 5)
  generalize (fun i=>takeL 26 (List.drop (i*26) (rsL (nd 0) ++ (rsL (nd 1) ++ rsL (nd 5)))))=r1 at *
  generalize hr2:(fun i=>rsL ([nd 0,nd 1,nd 5].getD i default))=r2 at *
  conv=>whnf
  repeat (first|exact fa|((first|refine fb ?_|(refine And.intro ?_ ?_;rotate_left));conv=>whnf))
  all_goals exact .inl k)
 have c6:=cross_c (G:=G)
 have c7:=shapeOf_c (G:=G)
 have key:=rs_eqb (nd_may (i:=5) (by decide)).1.rk (nd_may (i:=5) (by decide)).1.rk
 rw [decide_eq_true rfl] at key
 clear c4
 have nq:∀ {p:Prop},(false=true)→p:=fun e=>Bool.noConfusion e
 have nt:∀ {p:Prop},(true=false)→p:=fun e=>Bool.noConfusion e
 unfold slS at *
 unfold crossA at *
 unfold rsL spotL at *
 refine ACalls.of_WA ttok Tryz.func14 rfl rfl _ rfl ?_
 conv=>whnf
 repeat' (first|(first|with_reducible exact nq h|with_reducible exact nt h|with_reducible exact absurd trivial h)|refine sq ?_|refine bk ?_|((first|refine rg ttok ?_|refine dw ttok mixed ?_|refine cd ?_|refine sk ?_|refine xt ?_|refine rt ?_);conv=>whnf)|(refine And.intro (fun h=>?_) (fun h=>?_) <;> (try simp only [brsA] at h) <;> conv=>whnf)|(refine Or.inl ?_;(conv=>whnf);(first|refine ⟨_,c1,?_⟩|refine ⟨_,c2,?_⟩|refine ⟨_,c3,?_⟩|refine ⟨_,c6,?_⟩);conv=>whnf)|(refine Or.inr (Or.inr (Or.inl ?_));(conv=>whnf);(first|refine ⟨_,c5,?_⟩|refine ⟨_,c7,?_⟩);conv=>whnf)|((first|refine wf ?_|refine wp' ?_|refine ai ?_|refine And.intro rfl ?_|refine an ?_|fail);conv=>whnf))
 all_goals first|exact key|exact absurd rfl h|exact Bool.noConfusion (key.symm.trans h)
theorem strT_head (l:List RS):∀ k,0 < (strT l (k+1)).length∧(strT l (k+1)).getD 0 default=l.getD 0 default
 | 0=>by rw [strT_yes (keep_0 l)]; exact ⟨by simp,rfl⟩
 | k+1=>by
  obtain ⟨h1,h2⟩:=strT_head l k
  have e:strT l (k+1+1)=strT l (k+1) ++ (if keepR l (k+1)=true then [l.getD (k+1) default] else []):=rfl
  rw [e]
  generalize strT l (k+1)=S at *
  refine ⟨by rw [List.length_append]; omega,?_⟩
  rw [List.getD_eq_getElem?_getD,List.getElem?_append_left h1,← List.getD_eq_getElem?_getD]
  exact h2
theorem strT_last (l:List RS) (m:Nat) (h:m+1=l.length):(strT l (m+1)).getD ((strT l (m+1)).length - 1) default=l.getD m default:=by
 rw [strT_yes (keep_end h)]
 simp [List.getD_eq_getElem?_getD]
theorem strT_le (l:List RS):∀ k,(strT l k).length≤k
 | 0=>Nat.le_refl _
 | k+1=>by
  have:=strT_le l k
  have e:strT l (k+1)=strT l k ++ (if keepR l k=true then [l.getD k default] else []):=rfl
  rw [e,List.length_append]
  split <;> simp <;> omega
theorem strT_mem (l:List RS) (hm:∀ r ∈ l,MayR r):∀ k,k≤l.length → ∀ r ∈ strT l k,MayR r
 | 0,_,r,h=>absurd h (by simp [strT])
 | k+1,hk,r,h=>by
  have e:strT l (k+1)=strT l k ++ (if keepR l k=true then [l.getD k default] else []):=rfl
  rw [e,List.mem_append] at h
  rcases h with h | h
  ·exact strT_mem l hm k (by omega) r h
  ·split at h
   ·rw [List.mem_singleton] at h
    rw [h]
    exact may_get hm (by omega)
   ·exact absurd h (by simp)
theorem lawH_bad (hns:(default:DRT).ns) (l:List RS) (hk:∀ r ∈ l,Rk r) (hl:l.length≤12) (hx:l.any badS=true):ACalls Tryz.prog G 4 [slS l] (.sb true):=by
 have c1:=straight_bad (G:=G) l hk (by omega) hx
 have c2:=textS_bad (G:=G) l hk (by omega) hx
 have c3:=box_bad (G:=G) l hk (by omega) hx
 unfold zSp at c3
 have c4:=rmayS_c (G:=G) l hk (by omega)
 rw [hx] at c4
 have aw:=awakeH_c (G:=G)
 have nq:∀ {p:Prop},(false=true)→p:=fun e=>Bool.noConfusion e
 have nt:∀ {p:Prop},(true=false)→p:=fun e=>Bool.noConfusion e
 unfold slS at *
 refine ACalls.of_WA ttok Tryz.func4 rfl rfl _ rfl ?_
 conv=>whnf
 repeat' (first|(first|with_reducible exact nq h|with_reducible exact nt h|with_reducible exact absurd trivial h)|(exact absurd (show (12:Int) < (l.length:Int) by assumption) (by omega))|refine sq ?_|refine bk ?_|((first|refine rg ttok ?_|refine dw ttok mixed ?_|refine cd ?_|refine sk ?_|refine xt ?_|refine rt ?_);conv=>whnf)|(refine And.intro (fun h=>?_) (fun h=>?_) <;> (try simp only [brsA] at h) <;> conv=>whnf)|(refine Or.inl ?_;(conv=>whnf);(first|refine ⟨_,c1,?_⟩|refine ⟨_,c2,?_⟩|refine ⟨_,c3,?_⟩|refine ⟨_,c4,?_⟩|refine ⟨_,aw,?_⟩);conv=>whnf)|((first|refine wf ?_|refine wp' ?_|refine ai ?_|refine And.intro rfl ?_|refine an ?_|fail);conv=>whnf))
 all_goals first|exact absurd h (by decide)
theorem lawH_nil (hns:(default:DRT).ns):ACalls Tryz.prog G 4 [slS []] (.sb true):=by
 have hm:∀ r ∈ ([]:List RS),MayR r:=fun r h=>absurd h (by simp)
 have c1:=straight_ok (G:=G) [] hm (by simp)
 have c2:=textS_ok (G:=G) hns [] hm (by simp)
 have c3:=box_nil (G:=G) hns
 unfold zSp at c3
 have c4:=rmayS_c (G:=G) [] (Rk_may hm) (by simp)
 have c5:=rtextS_c (G:=G) [] hm (by simp)
 have c6:=rstraight_c (G:=G) [] hm (by simp)
 have c7:=rsame_c (G:=G) [] [] (Rk_may hm) (Rk_may hm) (by simp) (by simp)
 rw [decide_eq_true rfl] at c7
 have e1:strT [] ([]:List RS).length=[]:=rfl
 have e2:txJ [] ([]:List RS).length=[]:=rfl
 rw [e1] at c1 c6
 rw [e2] at c2 c5
 have e3:(!([]:List RS).any badS)=true:=rfl
 rw [e3] at c4
 have aw:=awakeH_c (G:=G)
 have nq:∀ {p:Prop},(false=true)→p:=fun e=>Bool.noConfusion e
 have nt:∀ {p:Prop},(true=false)→p:=fun e=>Bool.noConfusion e
 unfold slS at *
 refine ACalls.of_WA ttok Tryz.func4 rfl rfl _ rfl ?_
 conv=>whnf
 repeat' (first|(first|with_reducible exact nq h|with_reducible exact nt h|with_reducible exact absurd trivial h)|(with_reducible exact absurd h (by decide))|refine sq ?_|refine bk ?_|((first|refine rg ttok ?_|refine dw ttok mixed ?_|refine cd ?_|refine sk ?_|refine xt ?_|refine rt ?_);conv=>whnf)|(refine And.intro (fun h=>?_) (fun h=>?_) <;> (try simp only [brsA] at h) <;> conv=>whnf)|(refine Or.inl ?_;(conv=>whnf);(first|refine ⟨_,c1,?_⟩|refine ⟨_,c2,?_⟩|refine ⟨_,c3,?_⟩|refine ⟨_,c4,?_⟩|refine ⟨_,c5,?_⟩|refine ⟨_,c6,?_⟩|refine ⟨_,c7,?_⟩|refine ⟨_,aw,?_⟩);conv=>whnf)|((first|refine wf ?_|refine wp' ?_|refine ai ?_|refine And.intro rfl ?_|refine an ?_|fail);conv=>whnf))
theorem lawH_ok (hns:(default:DRT).ns) (l:List RS) (hm:∀ r ∈ l,MayR r) (hl:l.length≤12) (h0:l ≠ []):ACalls Tryz.prog G 4 [slS l] (.sb true):=by
 have hpos:=List.length_pos_iff.2 h0
 have c1:=straight_ok (G:=G) l hm (by omega)
 have c2:=textS_ok (G:=G) hns l hm (by omega)
 have c3:=box_ok (G:=G) hns l hm (by omega) h0
 have c4:=rmayS_c (G:=G) l (Rk_may hm) (by omega)
 have c5:=rtextS_c (G:=G) l hm (by omega)
 have c6:=rstraight_c (G:=G) l hm (by omega)
 have c8:ACalls Tryz.prog G 13 [slS l] (slS (srtR l hm)):=rsort_p (G:=G) l (by omega) hm
 have hS:=strT_mem l hm l.length (Nat.le_refl _)
 have hSl:=strT_le l l.length
 have c7:=rsame_c (G:=G) (strT l l.length) (strT l l.length) (Rk_may hS) (Rk_may hS) (by omega) (by omega)
 rw [decide_eq_true rfl] at c7
 rw [any_may hm] at c4
 obtain ⟨m,em⟩ : ∃ m,m+1=l.length:=⟨l.length - 1,by omega⟩
 have hh:=strT_head l m
 have hl2:=strT_last l m em
 rw [em] at hh hl2
 have hRp:=srtR_pos hm h0
 have hRl:=srtR_le hm
 have hRm:=Rk_may (srtR_may hm)
 generalize srtR l hm=R at *
 generalize strT l l.length=S at *
 generalize txJ l l.length=T at *
 have eR:((R.length:Int) - 1).toNat=R.length - 1:=by omega
 have eS:((S.length:Int) - 1).toNat=S.length - 1:=by omega
 have el:((l.length:Int) - 1).toNat=m:=by omega
 rw [← eR] at c3
 have k1:=rs_eqb (rk_get hRm 0) (rk_get hRm 0)
 have k2:=rs_eqb (rk_get hRm ((R.length:Int) - 1).toNat) (rk_get hRm ((R.length:Int) - 1).toNat)
 have k3:=rs_eqb (rk_get (Rk_may hS) 0) (rk_get (Rk_may hm) 0)
 have k4:=rs_eqb (rk_get (Rk_may hS) ((S.length:Int) - 1).toNat) (rk_get (Rk_may hm) ((l.length:Int) - 1).toNat)
 rw [decide_eq_true rfl] at k1 k2
 rw [decide_eq_true hh.2] at k3
 rw [decide_eq_true (by rw [eS,el]; exact hl2)] at k4
 have hSp:=hh.1
 clear hh hl2 hRm hS h0
 have aw:=awakeH_c (G:=G)
 have nq:∀ {p:Prop},(false=true)→p:=fun e=>Bool.noConfusion e
 have nt:∀ {p:Prop},(true=false)→p:=fun e=>Bool.noConfusion e
 unfold slS rsL spotL at *
 refine ACalls.of_WA ttok Tryz.func4 rfl rfl _ rfl ?_
 conv=>whnf
 repeat' (first|(first|with_reducible exact nq h|with_reducible exact nt h|with_reducible exact absurd trivial h)|(exact absurd (show (12:Int) < (l.length:Int) by assumption) (by omega))|(with_reducible exact absurd rfl h)|refine sq ?_|refine bk ?_|((first|refine rg ttok ?_|refine dw ttok mixed ?_|refine cd ?_|refine sk ?_|refine xt ?_|refine rt ?_);conv=>whnf)|(refine And.intro (fun h=>?_) (fun h=>?_) <;> (try simp only [brsA] at h) <;> conv=>whnf)|(refine Or.inl ?_;(conv=>whnf);(first|refine ⟨_,c1,?_⟩|refine ⟨_,c2,?_⟩|refine ⟨_,c3,?_⟩|refine ⟨_,c4,?_⟩|refine ⟨_,c5,?_⟩|refine ⟨_,c6,?_⟩|refine ⟨_,c7,?_⟩|refine ⟨_,c8,?_⟩|refine ⟨_,aw,?_⟩);conv=>whnf)|((first|refine wf ?_|refine wp' ?_|refine ai ?_|refine And.intro rfl ?_|refine an ?_|fail);conv=>whnf))
 all_goals first|exact Bool.noConfusion (k4.symm.trans h)|exact Bool.noConfusion (k3.symm.trans h)|exact Bool.noConfusion (k2.symm.trans h)|exact Bool.noConfusion (k1.symm.trans h)|(exfalso;omega)
theorem shapeStraight_c (hns:(default:DRT).ns) (l:List RS) (hk:∀ r ∈ l,Rk r):ACalls Tryz.prog G 4 [slS l] (.sb true):=by
 by_cases hl:l.length≤12
 ·cases ha:l.any badS with
  | true=>exact lawH_bad hns l hk hl ha
  | false =>
   by_cases h0:l=[]
   ·subst h0; exact lawH_nil hns
   ·refine lawH_ok hns l (fun r hr=>?_) hl h0
    have:=List.any_eq_false.1 ha r hr
    unfold badS at this
    simpa using this
 ·have aw:=awakeH_c (G:=G)
  unfold slS
  refine ACalls.of_WA ttok Tryz.func4 rfl rfl _ rfl ?_
  conv=>whnf
  repeat' (first|(exact absurd (by assumption) (by omega))|refine sq ?_|refine bk ?_|((first|refine rg ttok ?_|refine dw ttok mixed ?_|refine cd ?_|refine sk ?_|refine xt ?_|refine rt ?_);conv=>whnf)|(refine And.intro (fun h=>?_) (fun h=>?_) <;> (try simp only [brsA] at h) <;> conv=>whnf)|(refine Or.inl ?_;(conv=>whnf);refine ⟨_,aw,?_⟩;conv=>whnf)|((first|refine wf ?_|refine wp' ?_|refine ai ?_|refine And.intro rfl ?_|refine an ?_|fail);conv=>whnf))
end Go.Proofs.YtmeohhbdkoeadaaGreat

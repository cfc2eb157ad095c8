/-
  Numbers of eight words: sums, differences, products and quotients by one word.
-/
import Derived.Test.YtcomiiakkhafpaaGreatWord1
import Derived.Shelf.Spec.BitsCarry
import Derived.WalkKit
import Derived.Lib.Walk
set_option linter.unusedSimpArgs false
set_option linter.unusedSectionVars false
namespace Go.Proofs.YtcomiiakkhafpaaGreat
open Go.Shelf Go.RowKit Go.Lib Go.Proofs.YtcomiiakkhafpaaGreat.Am
variable [Inhabited DRT]
variable {G : GInv}
/-! ### Words: sums and differences with a carry -/
set_option maxRecDepth 100000 in
set_option maxHeartbeats 1000000 in
theorem wadd_raw (x y c : Nat) (hc : c ≤ 1) (w : World) : Calls Tryz.prog 181 #[.int .u64 x, .int .u64 y, .int .u64 c] w fun e w' => e = .returned (.tuple #[.int .u64 (((x + y + c) % 18446744073709551616 : Nat) : Int), .int .u64 (((x + y + c) / 18446744073709551616 : Nat) : Int)]) ∧ w' = w := by
 have hm : min (c : Int) 1 = c := by omega
 have hA : (callFunc 213 #[.int .u64 x, .int .u64 y, .int .u64 c]).run Tryz.prog w = .ok (.value (.tuple #[.int .u64 (((x + y + c) % 18446744073709551616 : Nat) : Int), .int .u64 (((x + y + c) / 18446744073709551616 : Nat) : Int)])) w := by
  rw [run_callFunc_extern Tryz.func213 (by kernel_rfl) (by kernel_rfl) (by kernel_rfl) (e := add64Entry) (by kernel_rfl), run_add64 x y c (by omega) (by omega) (by omega) (by omega)]
  simp only [Result.andThen]
  congr 5 <;> omega
 go_enter Tryz.func181, Tryz.ntmps181
 go_wp2
 go_ret2
 exact ⟨rfl, rfl⟩
set_option maxRecDepth 100000 in
set_option maxHeartbeats 1000000 in
theorem wsub_raw (x y c : Nat) (hc : c ≤ 1) (w : World) : Calls Tryz.prog 180 #[.int .u64 x, .int .u64 y, .int .u64 c] w fun e w' => e = .returned (.tuple #[.int .u64 (((x + 18446744073709551616 - y - c) % 18446744073709551616 : Nat) : Int), .int .u64 ((if x < y + c then 1 else 0 : Nat) : Int)]) ∧ w' = w := by
 have hm : min (c : Int) 1 = c := by omega
 have hA : (callFunc 212 #[.int .u64 x, .int .u64 y, .int .u64 c]).run Tryz.prog w = .ok (.value (.tuple #[.int .u64 (((x + 18446744073709551616 - y - c) % 18446744073709551616 : Nat) : Int), .int .u64 ((if x < y + c then 1 else 0 : Nat) : Int)])) w := by
  rw [run_callFunc_extern Tryz.func212 (by kernel_rfl) (by kernel_rfl) (by kernel_rfl) (e := sub64Entry) (by kernel_rfl), run_sub64 x y c hc]
  rfl
 go_enter Tryz.func180, Tryz.ntmps180
 go_wp2
 all_goals (go_ret2; exact ⟨rfl, rfl⟩)
theorem intN_inv {im : Nat → Prop} {w : World} {k : IntKind} {n : Int} {v : Value} (h : RelI im w (.int k n) v) : v = .int k n := by cases h; rfl
theorem pair_rel {im : Nat → Prop} {w : World} {a b : A} {u v : Value} (h1 : RelI im w a u) (h2 : RelI im w b v) : RelI im w (.tup [a, b]) (.tuple #[u, v]) :=
 .tup [a, b] [u, v] rfl fun j h _ => by
  match j, h with
  | 0, _ => exact h1
  | 1, _ => exact h2
theorem wadd_c (x y c : Nat) (hc : c ≤ 1) : ACalls Tryz.prog G 181 [.int .u64 (x : Int), .int .u64 (y : Int), .int .u64 (c : Int)] (.tup [.int .u64 (((x + y + c) % 18446744073709551616 : Nat) : Int), .int .u64 (((x + y + c) / 18446744073709551616 : Nat) : Int)]) := by
 refine ⟨⟨_, _, Tryz.func181, rfl, by kernel_rfl⟩, ?_⟩
 intro im w vs him hG hl hr
 match vs, hl with
 | [a, b, d], _ =>
  have h0 : RelI im w (.int .u64 (x : Int)) a := hr 0 (by simp) (by simp)
  have h1 : RelI im w (.int .u64 (y : Int)) b := hr 1 (by simp) (by simp)
  have h2 : RelI im w (.int .u64 (c : Int)) d := hr 2 (by simp) (by simp)
  obtain rfl := intN_inv h0
  obtain rfl := intN_inv h1
  obtain rfl := intN_inv h2
  refine Calls_mono (wadd_raw x y c hc w) ?_
  rintro e w' ⟨rfl, rfl⟩
  exact ⟨_, rfl, pair_rel (.int _ _) (.int _ _), Bw.refl _ _⟩
theorem wsub_c (x y c : Nat) (hc : c ≤ 1) : ACalls Tryz.prog G 180 [.int .u64 (x : Int), .int .u64 (y : Int), .int .u64 (c : Int)] (.tup [.int .u64 (((x + 18446744073709551616 - y - c) % 18446744073709551616 : Nat) : Int), .int .u64 ((if x < y + c then 1 else 0 : Nat) : Int)]) := by
 refine ⟨⟨_, _, Tryz.func180, rfl, by kernel_rfl⟩, ?_⟩
 intro im w vs him hG hl hr
 match vs, hl with
 | [a, b, d], _ =>
  have h0 : RelI im w (.int .u64 (x : Int)) a := hr 0 (by simp) (by simp)
  have h1 : RelI im w (.int .u64 (y : Int)) b := hr 1 (by simp) (by simp)
  have h2 : RelI im w (.int .u64 (c : Int)) d := hr 2 (by simp) (by simp)
  obtain rfl := intN_inv h0
  obtain rfl := intN_inv h1
  obtain rfl := intN_inv h2
  refine Calls_mono (wsub_raw x y c hc w) ?_
  rintro e w' ⟨rfl, rfl⟩
  exact ⟨_, rfl, pair_rel (.int _ _) (.int _ _), Bw.refl _ _⟩
end Go.Proofs.YtcomiiakkhafpaaGreat
namespace Go.Proofs.YtcomiiakkhafpaaGreat
open Go.Proofs.YtcomiiakkhafpaaGreat.Am
variable [Inhabited DRT]
variable {G : GInv}
/-! ### Sums and differences of eight words -/
def bxF (f : Nat → Nat) : Blk := .box 30 [.int .u64 (f 0 : Int), .int .u64 (f 1 : Int), .int .u64 (f 2 : Int), .int .u64 (f 3 : Int), .int .u64 (f 4 : Int), .int .u64 (f 5 : Int), .int .u64 (f 6 : Int), .int .u64 (f 7 : Int)]
def ups (S : Nat → Nat) (i j : Nat) : Nat := if j < i then S j else 0
set_option maxRecDepth 100000 in
set_option maxHeartbeats 4000000 in
theorem wideAdd_gen (A B S C : Nat → Nat) (h0 : C 0 = 0) (hw : ∀ i, i < 8 → ACalls Tryz.prog G 181 [.int .u64 (A i : Int), .int .u64 (B i : Int), .int .u64 (C i : Int)] (.tup [.int .u64 (S i : Int), .int .u64 (C (i + 1) : Int)])) :
  ACalls Tryz.prog G 143 [wideA A, wideA B] (.tup [wideA S, .sb ((C 8 : Int) == 0)]) := by
 unfold wideA
 refine ACalls.of_WA ttok Tryz.func143 rfl rfl _ rfl ?_
 conv => whnf
 repeat (first | refine sq ?_ | refine bk ?_ | ((first | refine rg ttok ?_ | refine dw ttok mixed ?_ | refine cd ?_ | refine sk ?_ | refine xt ?_ | refine rt ?_); conv => whnf))
 refine WA_loopI (fun i : Nat => i ≤ 8) (fun i => [(7, .int .u64 (C i : Int)), (9, .int .i64 (i : Int))]) (fun i => [bxF A, bxF B, bxF (fun _ => 0), bxF (ups S i)]) (fun i => 8 - i) 0 (by omega) ?_ ?_
 ·conv => whnf
  repeat (first | exact fa | ((first | refine fb ?_ | (refine And.intro ?_ ?_; rotate_left)); conv => whnf))
  all_goals first | exact (congrArg Nat.cast h0).symm | trace_state
 ·intro i hi
  have e : i = 0 ∨ i = 1 ∨ i = 2 ∨ i = 3 ∨ i = 4 ∨ i = 5 ∨ i = 6 ∨ i = 7 ∨ i = 8 := by omega
  rcases e with rfl | rfl | rfl | rfl | rfl | rfl | rfl | rfl | rfl
  all_goals
   conv => whnf
   repeat' (first | refine sq ?_ | refine bk ?_ | ((first | refine rg ttok ?_ | refine dw ttok mixed ?_ | refine cd ?_ | refine sk ?_ | refine xt ?_ | refine rt ?_); conv => whnf) | (refine And.intro (fun h => ?_) (fun h => ?_) <;> (try simp only [brsA] at h) <;> conv => whnf) | ((first | refine Or.inl ?_ | skip); (conv => whnf); refine ⟨_, hw _ (by omega), ?_⟩; conv => whnf) | ((first | refine wf ?_ | refine wp' ?_ | refine ai ?_ | refine And.intro rfl ?_ | refine an ?_); conv => whnf))
  all_goals first | contradiction | (exfalso; omega) | skip
  all_goals first | refine ⟨1, by decide, by decide, ?_⟩ | refine ⟨2, by decide, by decide, ?_⟩ | refine ⟨3, by decide, by decide, ?_⟩ | refine ⟨4, by decide, by decide, ?_⟩ | refine ⟨5, by decide, by decide, ?_⟩ | refine ⟨6, by decide, by decide, ?_⟩ | refine ⟨7, by decide, by decide, ?_⟩ | refine ⟨8, by decide, by decide, ?_⟩
  all_goals
   conv => whnf
   repeat (first | exact fa | ((first | refine fb ?_ | (refine And.intro ?_ ?_; rotate_left)); conv => whnf))
set_option maxRecDepth 100000 in
set_option maxHeartbeats 4000000 in
theorem wideSub_gen (A B S C : Nat → Nat) (h0 : C 0 = 0) (hw : ∀ i, i < 8 → ACalls Tryz.prog G 180 [.int .u64 (A i : Int), .int .u64 (B i : Int), .int .u64 (C i : Int)] (.tup [.int .u64 (S i : Int), .int .u64 (C (i + 1) : Int)])) :
  ACalls Tryz.prog G 142 [wideA A, wideA B] (.tup [wideA S, .sb ((C 8 : Int) == 0)]) := by
 unfold wideA
 refine ACalls.of_WA ttok Tryz.func142 rfl rfl _ rfl ?_
 conv => whnf
 repeat (first | refine sq ?_ | refine bk ?_ | ((first | refine rg ttok ?_ | refine dw ttok mixed ?_ | refine cd ?_ | refine sk ?_ | refine xt ?_ | refine rt ?_); conv => whnf))
 refine WA_loopI (fun i : Nat => i ≤ 8) (fun i => [(7, .int .u64 (C i : Int)), (9, .int .i64 (i : Int))]) (fun i => [bxF A, bxF B, bxF (fun _ => 0), bxF (ups S i)]) (fun i => 8 - i) 0 (by omega) ?_ ?_
 ·conv => whnf
  repeat (first | exact fa | ((first | refine fb ?_ | (refine And.intro ?_ ?_; rotate_left)); conv => whnf))
  all_goals first | exact (congrArg Nat.cast h0).symm | trace_state
 ·intro i hi
  have e : i = 0 ∨ i = 1 ∨ i = 2 ∨ i = 3 ∨ i = 4 ∨ i = 5 ∨ i = 6 ∨ i = 7 ∨ i = 8 := by omega
  rcases e with rfl | rfl | rfl | rfl | rfl | rfl | rfl | rfl | rfl
  all_goals
   conv => whnf
   repeat' (first | refine sq ?_ | refine bk ?_ | ((first | refine rg ttok ?_ | refine dw ttok mixed ?_ | refine cd ?_ | refine sk ?_ | refine xt ?_ | refine rt ?_); conv => whnf) | (refine And.intro (fun h => ?_) (fun h => ?_) <;> (try simp only [brsA] at h) <;> conv => whnf) | ((first | refine Or.inl ?_ | skip); (conv => whnf); refine ⟨_, hw _ (by omega), ?_⟩; conv => whnf) | ((first | refine wf ?_ | refine wp' ?_ | refine ai ?_ | refine And.intro rfl ?_ | refine an ?_); conv => whnf))
  all_goals first | contradiction | (exfalso; omega) | skip
  all_goals first | refine ⟨1, by decide, by decide, ?_⟩ | refine ⟨2, by decide, by decide, ?_⟩ | refine ⟨3, by decide, by decide, ?_⟩ | refine ⟨4, by decide, by decide, ?_⟩ | refine ⟨5, by decide, by decide, ?_⟩ | refine ⟨6, by decide, by decide, ?_⟩ | refine ⟨7, by decide, by decide, ?_⟩ | refine ⟨8, by decide, by decide, ?_⟩
  all_goals
   conv => whnf
   repeat (first | exact fa | ((first | refine fb ?_ | (refine And.intro ?_ ?_; rotate_left)); conv => whnf))
end Go.Proofs.YtcomiiakkhafpaaGreat
namespace Go.Proofs.YtcomiiakkhafpaaGreat
open Go.Proofs.YtcomiiakkhafpaaGreat.Am
variable [Inhabited DRT]
variable {G : GInv}
/-! ### Sums and differences of eight words, as numbers -/
def crA (A B : Nat → Nat) : Nat → Nat
 | 0 => 0
 | i + 1 => (A i + B i + crA A B i) / 18446744073709551616
def smA (A B : Nat → Nat) (i : Nat) : Nat := (A i + B i + crA A B i) % 18446744073709551616
def brA (A B : Nat → Nat) : Nat → Nat
 | 0 => 0
 | i + 1 => if A i < B i + brA A B i then 1 else 0
def dfA (A B : Nat → Nat) (i : Nat) : Nat := (A i + 18446744073709551616 - B i - brA A B i) % 18446744073709551616
theorem smA_ok (A B : Nat → Nat) : WordP (smA A B) := fun _ => Nat.mod_lt _ (by omega)
theorem dfA_ok (A B : Nat → Nat) : WordP (dfA A B) := fun _ => Nat.mod_lt _ (by omega)
theorem crA_le {A B : Nat → Nat} (hA : WordP A) (hB : WordP B) : ∀ i, crA A B i ≤ 1
 | 0 => Nat.zero_le _
 | i + 1 => by
  have h := crA_le hA hB i
  have a := hA i
  have b := hB i
  show (A i + B i + crA A B i) / 18446744073709551616 ≤ 1
  omega
theorem brA_le (A B : Nat → Nat) : ∀ i, brA A B i ≤ 1
 | 0 => Nat.zero_le _
 | i + 1 => by
  show (if A i < B i + brA A B i then 1 else 0) ≤ 1
  split <;> omega
theorem pow512 : (65536 : Nat) ^ 32 = 13407807929942597099574024998205846127479365820592393377723561443721764030073546976801874298166903427690031858186486050853753882811946569946433649006084096 := by decide
theorem add_law {A B : Nat → Nat} (hA : WordP A) (hB : WordP B) (h : wv A + wv B < 65536 ^ 32) : wv (smA A B) = wv A + wv B ∧ crA A B 8 = 0 := by
 have eA := wv_expl hA
 have eB := wv_expl hB
 have eS := wv_expl (smA_ok A B)
 have e : ∀ i, A i + B i + crA A B i = smA A B i + 18446744073709551616 * crA A B (i + 1) := fun i => (Nat.mod_add_div _ _).symm
 have e0 : A 0 + B 0 + crA A B 0 = smA A B 0 + 18446744073709551616 * crA A B 1 := e 0
 have e1 : A 1 + B 1 + crA A B 1 = smA A B 1 + 18446744073709551616 * crA A B 2 := e 1
 have e2 : A 2 + B 2 + crA A B 2 = smA A B 2 + 18446744073709551616 * crA A B 3 := e 2
 have e3 : A 3 + B 3 + crA A B 3 = smA A B 3 + 18446744073709551616 * crA A B 4 := e 3
 have e4 : A 4 + B 4 + crA A B 4 = smA A B 4 + 18446744073709551616 * crA A B 5 := e 4
 have e5 : A 5 + B 5 + crA A B 5 = smA A B 5 + 18446744073709551616 * crA A B 6 := e 5
 have e6 : A 6 + B 6 + crA A B 6 = smA A B 6 + 18446744073709551616 * crA A B 7 := e 6
 have e7 : A 7 + B 7 + crA A B 7 = smA A B 7 + 18446744073709551616 * crA A B 8 := e 7
 have c0 : crA A B 0 = 0 := rfl
 rw [pow512] at h
 generalize wv (smA A B) = s at *
 generalize wv A = a at *
 generalize wv B = b at *
 omega
theorem sub_law {A B : Nat → Nat} (hA : WordP A) (hB : WordP B) (h : wv B ≤ wv A) : wv (dfA A B) = wv A - wv B ∧ brA A B 8 = 0 := by
 have eA := wv_expl hA
 have eB := wv_expl hB
 have eS := wv_expl (dfA_ok A B)
 have e : ∀ i, A i + 18446744073709551616 * brA A B (i + 1) = B i + brA A B i + dfA A B i := fun i => by
  have a := hA i
  have b := hB i
  have c := brA_le A B i
  show A i + 18446744073709551616 * (if A i < B i + brA A B i then 1 else 0) = B i + brA A B i + (A i + 18446744073709551616 - B i - brA A B i) % 18446744073709551616
  split <;> omega
 have e0 : A 0 + 18446744073709551616 * brA A B 1 = B 0 + brA A B 0 + dfA A B 0 := e 0
 have e1 : A 1 + 18446744073709551616 * brA A B 2 = B 1 + brA A B 1 + dfA A B 1 := e 1
 have e2 : A 2 + 18446744073709551616 * brA A B 3 = B 2 + brA A B 2 + dfA A B 2 := e 2
 have e3 : A 3 + 18446744073709551616 * brA A B 4 = B 3 + brA A B 3 + dfA A B 3 := e 3
 have e4 : A 4 + 18446744073709551616 * brA A B 5 = B 4 + brA A B 4 + dfA A B 4 := e 4
 have e5 : A 5 + 18446744073709551616 * brA A B 6 = B 5 + brA A B 5 + dfA A B 5 := e 5
 have e6 : A 6 + 18446744073709551616 * brA A B 7 = B 6 + brA A B 6 + dfA A B 6 := e 6
 have e7 : A 7 + 18446744073709551616 * brA A B 8 = B 7 + brA A B 7 + dfA A B 7 := e 7
 have c0 : brA A B 0 = 0 := rfl
 have d0 := dfA_ok A B 0
 have d1 := dfA_ok A B 1
 have d2 := dfA_ok A B 2
 have d3 := dfA_ok A B 3
 have d4 := dfA_ok A B 4
 have d5 := dfA_ok A B 5
 have d6 := dfA_ok A B 6
 have d7 := dfA_ok A B 7
 generalize wv (dfA A B) = s at *
 generalize wv A = a at *
 generalize wv B = b at *
 omega
theorem wideAdd_c (v u : Nat) (h : v + u < 65536 ^ 32) : ACalls Tryz.prog G 143 [wideN v, wideN u] (.tup [wideN (v + u), .sb true]) := by
 have hv : v < 65536 ^ 32 := by omega
 have hu : u < 65536 ^ 32 := by omega
 obtain ⟨h1, h2⟩ := add_law (wW_ok v) (wW_ok u) (by rw [wv_wW hv, wv_wW hu]; exact h)
 rw [wv_wW hv, wv_wW hu] at h1
 have g := wideAdd_gen (G := G) (wW v) (wW u) (smA (wW v) (wW u)) (crA (wW v) (wW u)) rfl (fun i _ => wadd_c _ _ _ (crA_le (wW_ok v) (wW_ok u) i))
 rw [h2, wW_same (smA_ok _ _), h1] at g
 exact g
theorem wideSub_c (v u : Nat) (hv : v < 65536 ^ 32) (h : u ≤ v) : ACalls Tryz.prog G 142 [wideN v, wideN u] (.tup [wideN (v - u), .sb true]) := by
 have hu : u < 65536 ^ 32 := by omega
 obtain ⟨h1, h2⟩ := sub_law (wW_ok v) (wW_ok u) (by rw [wv_wW hv, wv_wW hu]; exact h)
 rw [wv_wW hv, wv_wW hu] at h1
 have g := wideSub_gen (G := G) (wW v) (wW u) (dfA (wW v) (wW u)) (brA (wW v) (wW u)) rfl (fun i _ => wsub_c _ _ _ (brA_le (wW v) (wW u) i))
 rw [h2, wW_same (dfA_ok _ _), h1] at g
 exact g
end Go.Proofs.YtcomiiakkhafpaaGreat
namespace Go.Proofs.YtcomiiakkhafpaaGreat
open Go.Proofs.YtcomiiakkhafpaaGreat.Am
variable [Inhabited DRT]
variable {G : GInv}
set_option maxRecDepth 100000 in
set_option maxHeartbeats 4000000 in
theorem row_gen (A C H L K Z : Nat → Nat) (b : Nat) (h0 : C 0 = 0) (h8 : C 8 = 0) (hc : ∀ i, i < 8 → C (i + 1) = H i + K i ∧ H i + K i < 18446744073709551616)
  (h1 : ∀ i, i < 8 → ACalls Tryz.prog G 160 [.int .u64 (A i : Int), .int .u64 (b : Int)] (.tup [.int .u64 (H i : Int), .int .u64 (L i : Int)]))
  (h2 : ∀ i, i < 8 → ACalls Tryz.prog G 181 [.int .u64 (L i : Int), .int .u64 (C i : Int), .int .u64 0] (.tup [.int .u64 (Z i : Int), .int .u64 (K i : Int)]))
  (h3 : ∀ i, i < 8 → ACalls Tryz.prog G 181 [.int .u64 (Z i : Int), .int .u64 0, .int .u64 0] (.tup [.int .u64 (Z i : Int), .int .u64 0])) :
  ACalls Tryz.prog G 182 [wideA (fun _ => 0), wideA A, .int .u64 (b : Int), .int .i64 0] (.tup [wideA Z, .sb true]) := by
 unfold wideA
 refine ACalls.of_WA ttok Tryz.func182 rfl rfl _ rfl ?_
 conv => whnf
 repeat (first | refine WA_seq ?_ | refine WA_block ?_ | ((first | refine WA_region ttok ?_ | refine WA_draw ttok mixed ?_ | refine WA_cond ?_ | refine WA_skip ?_ | refine WA_exit ?_ | refine WA_ret ?_); conv => whnf))
 refine WA_loopI (fun i : Nat => i ≤ 8) (fun i => [(10, .int .u64 (C i : Int)), (11, .bool true), (20, .int .i64 (i : Int))]) (fun i => [bxF (ups Z i), bxF A, bxF (fun _ => 0)]) (fun i => 8 - i) 0 (by omega) ?_ ?_
 ·conv => whnf
  repeat (first | exact rfl | exact trivial | exact Or.inl (fun _ _ => rfl) | exact (fun _ => rfl) | exact (fun _ _ => rfl) | exact Or.inl (fun _ hi => absurd hi (Nat.not_lt_zero _)) | ((first | refine And.intro rfl ?_ | refine And.intro (Or.inl (fun _ _ => rfl)) ?_ | refine And.intro (fun _ => rfl) ?_ | refine And.intro (fun _ _ => rfl) ?_ | (refine And.intro ?_ ?_; rotate_left)); conv => whnf))
  all_goals first | exact (congrArg Nat.cast h0).symm | trace_state
 ·intro i hi
  have e : i = 0 ∨ i = 1 ∨ i = 2 ∨ i = 3 ∨ i = 4 ∨ i = 5 ∨ i = 6 ∨ i = 7 ∨ i = 8 := by omega
  obtain ⟨k0, m0⟩ := hc 0 (by omega)
  have k0 : C 1 = H 0 + K 0 := k0
  obtain ⟨k1, m1⟩ := hc 1 (by omega)
  have k1 : C 2 = H 1 + K 1 := k1
  obtain ⟨k2, m2⟩ := hc 2 (by omega)
  have k2 : C 3 = H 2 + K 2 := k2
  obtain ⟨k3, m3⟩ := hc 3 (by omega)
  have k3 : C 4 = H 3 + K 3 := k3
  obtain ⟨k4, m4⟩ := hc 4 (by omega)
  have k4 : C 5 = H 4 + K 4 := k4
  obtain ⟨k5, m5⟩ := hc 5 (by omega)
  have k5 : C 6 = H 5 + K 5 := k5
  obtain ⟨k6, m6⟩ := hc 6 (by omega)
  have k6 : C 7 = H 6 + K 6 := k6
  obtain ⟨k7, m7⟩ := hc 7 (by omega)
  have k7 : C 8 = H 7 + K 7 := k7
  clear hc
  rcases e with rfl | rfl | rfl | rfl | rfl | rfl | rfl | rfl | rfl
  all_goals
   conv => whnf
   repeat' (first | refine WA_seq ?_ | refine WA_block ?_ | ((first | refine WA_region ttok ?_ | refine WA_draw ttok mixed ?_ | refine WA_cond ?_ | refine WA_skip ?_ | refine WA_exit ?_ | refine WA_ret ?_); conv => whnf) | (refine And.intro (fun h => ?_) (fun h => ?_) <;> (try simp only [brsA] at h) <;> conv => whnf) | (refine Or.inl ?_; (conv => whnf); refine ⟨_, h1 _ (by omega), ?_⟩; conv => whnf) | (refine Or.inr (Or.inr (Or.inl ?_)); (conv => whnf); refine ⟨_, h1 _ (by omega), ?_⟩; conv => whnf) | (refine Exists.intro _ (And.intro (h1 _ (by omega)) ?_); conv => whnf) | (refine Or.inl ?_; (conv => whnf); refine ⟨_, h2 _ (by omega), ?_⟩; conv => whnf) | (refine Or.inr (Or.inr (Or.inl ?_)); (conv => whnf); refine ⟨_, h2 _ (by omega), ?_⟩; conv => whnf) | (refine Exists.intro _ (And.intro (h2 _ (by omega)) ?_); conv => whnf) | (refine Or.inl ?_; (conv => whnf); refine ⟨_, h3 _ (by omega), ?_⟩; conv => whnf) | (refine Or.inr (Or.inr (Or.inl ?_)); (conv => whnf); refine ⟨_, h3 _ (by omega), ?_⟩; conv => whnf) | (refine Exists.intro _ (And.intro (h3 _ (by omega)) ?_); conv => whnf) | (refine WR_fit ?_ ?_; (focus (first | exact wr_i64 (by omega) | exact wr_u64 (by omega) | exact wr_u8 (by omega) | exact wr_i32 (by omega) | exact wr_u32 (by omega))); conv => whnf) | ((first | refine WR_wrap ?_ | (refine And.intro (a := indepB _ _ = true) ?_ ?_; (focus kernel_rfl)) | refine And.intro rfl ?_ | (refine And.intro ?_ ?_; (focus (first | omega | decide | (dsimp only; omega) | (simp at *; omega))))); conv => whnf))
  all_goals first | contradiction | (exfalso; omega) | (rw [h8]; rfl) | skip
  all_goals first | refine ⟨1, by decide, by decide, ?_⟩ | refine ⟨2, by decide, by decide, ?_⟩ | refine ⟨3, by decide, by decide, ?_⟩ | refine ⟨4, by decide, by decide, ?_⟩ | refine ⟨5, by decide, by decide, ?_⟩ | refine ⟨6, by decide, by decide, ?_⟩ | refine ⟨7, by decide, by decide, ?_⟩ | refine ⟨8, by decide, by decide, ?_⟩
  all_goals
   conv => whnf
   repeat (first | exact rfl | exact trivial | exact Or.inl (fun _ _ => rfl) | exact (fun _ => rfl) | exact (fun _ _ => rfl) | exact Or.inl (fun _ hi => absurd hi (Nat.not_lt_zero _)) | ((first | refine And.intro rfl ?_ | refine And.intro (Or.inl (fun _ _ => rfl)) ?_ | refine And.intro (fun _ => rfl) ?_ | refine And.intro (fun _ _ => rfl) ?_ | (refine And.intro ?_ ?_; rotate_left)); conv => whnf))
   all_goals first | omega | trace_state
def wide1 (b : Nat) : A := .agg [.int .u64 (b : Int), .int .u64 0, .int .u64 0, .int .u64 0, .int .u64 0, .int .u64 0, .int .u64 0, .int .u64 0]
def box1 (b : Nat) : Blk := .box 30 [.int .u64 (b : Int), .int .u64 0, .int .u64 0, .int .u64 0, .int .u64 0, .int .u64 0, .int .u64 0, .int .u64 0]
set_option maxRecDepth 100000 in
set_option maxHeartbeats 4000000 in
theorem mul_gen (A Z : Nat → Nat) (b : Nat) (hb : b ≠ 0) (hrow : ACalls Tryz.prog G 182 [wideA (fun _ => 0), wideA A, .int .u64 (b : Int), .int .i64 0] (.tup [wideA Z, .sb true])) :
  ACalls Tryz.prog G 144 [wideA A, wide1 b] (.tup [wideA Z, .sb true]) := by
 unfold wideA wide1 at *
 refine ACalls.of_WA ttok Tryz.func144 rfl rfl _ rfl ?_
 conv => whnf
 repeat (first | refine WA_seq ?_ | refine WA_block ?_ | ((first | refine WA_region ttok ?_ | refine WA_draw ttok mixed ?_ | refine WA_cond ?_ | refine WA_skip ?_ | refine WA_exit ?_ | refine WA_ret ?_); conv => whnf))
 refine WA_loopI (fun x : Nat × (Nat → Nat) => x.1 ≤ 8 ∧ (x.1 = 0 ∧ x.2 = (fun _ => 0) ∨ 1 ≤ x.1 ∧ x.2 = Z)) (fun x => match x with | (i, _) => [(7, .sb true), (13, .int .i64 (i : Int))]) (fun x => match x with | (_, O) => [bxF A, box1 b, bxF (fun _ => 0), bxF O]) (fun x => 8 - x.1) (0, fun _ => 0) ⟨by show 0 ≤ 8; omega, Or.inl ⟨rfl, rfl⟩⟩ ?_ ?_
 ·conv => whnf
  repeat (first | exact rfl | exact trivial | exact Or.inl (fun _ _ => rfl) | exact (fun _ => rfl) | exact (fun _ _ => rfl) | exact Or.inl (fun _ hi => absurd hi (Nat.not_lt_zero _)) | ((first | refine And.intro rfl ?_ | refine And.intro (Or.inl (fun _ _ => rfl)) ?_ | refine And.intro (fun _ => rfl) ?_ | refine And.intro (fun _ _ => rfl) ?_ | (refine And.intro ?_ ?_; rotate_left)); conv => whnf))
 ·rintro ⟨i, O⟩ ⟨hi, hO⟩
  have hi : i ≤ 8 := hi
  have hO : i = 0 ∧ O = (fun _ => 0) ∨ 1 ≤ i ∧ O = Z := hO
  rcases hO with ⟨rfl, rfl⟩ | ⟨hO, rfl⟩
  ·conv => whnf
   repeat' (first | (exact absurd (show (b : Int) = 0 by assumption) (by omega)) | refine WA_seq ?_ | refine WA_block ?_ | ((first | refine WA_region ttok ?_ | refine WA_draw ttok mixed ?_ | refine WA_cond ?_ | refine WA_skip ?_ | refine WA_exit ?_ | refine WA_ret ?_); conv => whnf) | (refine And.intro (fun h => ?_) (fun h => ?_) <;> (try simp only [brsA] at h) <;> conv => whnf) | (refine Or.inl ?_; (conv => whnf); refine ⟨_, hrow, ?_⟩; conv => whnf) | (refine Or.inr (Or.inr (Or.inl ?_)); (conv => whnf); refine ⟨_, hrow, ?_⟩; conv => whnf) | (refine Exists.intro _ (And.intro (hrow) ?_); conv => whnf) | (refine WR_fit ?_ ?_; (focus (first | exact wr_i64 (by omega) | exact wr_u64 (by omega) | exact wr_u8 (by omega) | exact wr_i32 (by omega) | exact wr_u32 (by omega))); conv => whnf) | ((first | refine WR_wrap ?_ | (refine And.intro (a := indepB _ _ = true) ?_ ?_; (focus kernel_rfl)) | refine And.intro rfl ?_ | (refine And.intro ?_ ?_; (focus (first | omega | decide | (dsimp only; omega) | (simp at *; omega))))); conv => whnf))
   all_goals first | contradiction | (exfalso; omega) | skip
   all_goals
    refine ⟨(1, Z), ⟨Nat.le_of_ble_eq_true rfl, Or.inr ⟨Nat.le_of_ble_eq_true rfl, rfl⟩⟩, Nat.le_of_ble_eq_true rfl, ?_⟩
    conv => whnf
    repeat (first | exact rfl | exact trivial | exact Or.inl (fun _ _ => rfl) | exact (fun _ => rfl) | exact (fun _ _ => rfl) | exact Or.inl (fun _ hi => absurd hi (Nat.not_lt_zero _)) | ((first | refine And.intro rfl ?_ | refine And.intro (Or.inl (fun _ _ => rfl)) ?_ | refine And.intro (fun _ => rfl) ?_ | refine And.intro (fun _ _ => rfl) ?_ | (refine And.intro ?_ ?_; rotate_left)); conv => whnf))
  ·have e : i = 1 ∨ i = 2 ∨ i = 3 ∨ i = 4 ∨ i = 5 ∨ i = 6 ∨ i = 7 ∨ i = 8 := by omega
   rcases e with rfl | rfl | rfl | rfl | rfl | rfl | rfl | rfl
   all_goals
    conv => whnf
    repeat' (first | (exact absurd (rfl : (0 : Int) = 0) (by assumption)) | refine WA_seq ?_ | refine WA_block ?_ | ((first | refine WA_region ttok ?_ | refine WA_draw ttok mixed ?_ | refine WA_cond ?_ | refine WA_skip ?_ | refine WA_exit ?_ | refine WA_ret ?_); conv => whnf) | (refine And.intro (fun h => ?_) (fun h => ?_) <;> (try simp only [brsA] at h) <;> conv => whnf) | (refine WR_fit ?_ ?_; (focus (first | exact wr_i64 (by omega) | exact wr_u64 (by omega) | exact wr_u8 (by omega) | exact wr_i32 (by omega) | exact wr_u32 (by omega))); conv => whnf) | ((first | refine WR_wrap ?_ | (refine And.intro (a := indepB _ _ = true) ?_ ?_; (focus kernel_rfl)) | refine And.intro rfl ?_ | (refine And.intro ?_ ?_; (focus (first | omega | decide | (dsimp only; omega) | (simp at *; omega))))); conv => whnf))
   all_goals first | contradiction | (exfalso; omega) | skip
   all_goals first | refine ⟨(2, O), ⟨Nat.le_of_ble_eq_true rfl, Or.inr ⟨Nat.le_of_ble_eq_true rfl, rfl⟩⟩, Nat.le_of_ble_eq_true rfl, ?_⟩ | refine ⟨(3, O), ⟨Nat.le_of_ble_eq_true rfl, Or.inr ⟨Nat.le_of_ble_eq_true rfl, rfl⟩⟩, Nat.le_of_ble_eq_true rfl, ?_⟩ | refine ⟨(4, O), ⟨Nat.le_of_ble_eq_true rfl, Or.inr ⟨Nat.le_of_ble_eq_true rfl, rfl⟩⟩, Nat.le_of_ble_eq_true rfl, ?_⟩ | refine ⟨(5, O), ⟨Nat.le_of_ble_eq_true rfl, Or.inr ⟨Nat.le_of_ble_eq_true rfl, rfl⟩⟩, Nat.le_of_ble_eq_true rfl, ?_⟩ | refine ⟨(6, O), ⟨Nat.le_of_ble_eq_true rfl, Or.inr ⟨Nat.le_of_ble_eq_true rfl, rfl⟩⟩, Nat.le_of_ble_eq_true rfl, ?_⟩ | refine ⟨(7, O), ⟨Nat.le_of_ble_eq_true rfl, Or.inr ⟨Nat.le_of_ble_eq_true rfl, rfl⟩⟩, Nat.le_of_ble_eq_true rfl, ?_⟩ | refine ⟨(8, O), ⟨Nat.le_of_ble_eq_true rfl, Or.inr ⟨Nat.le_of_ble_eq_true rfl, rfl⟩⟩, Nat.le_of_ble_eq_true rfl, ?_⟩
   all_goals
    conv => whnf
    repeat (first | exact rfl | exact trivial | exact Or.inl (fun _ _ => rfl) | exact (fun _ => rfl) | exact (fun _ _ => rfl) | exact Or.inl (fun _ hi => absurd hi (Nat.not_lt_zero _)) | ((first | refine And.intro rfl ?_ | refine And.intro (Or.inl (fun _ _ => rfl)) ?_ | refine And.intro (fun _ => rfl) ?_ | refine And.intro (fun _ _ => rfl) ?_ | (refine And.intro ?_ ?_; rotate_left)); conv => whnf))
end Go.Proofs.YtcomiiakkhafpaaGreat
namespace Go.Proofs.YtcomiiakkhafpaaGreat
open Go.Proofs.YtcomiiakkhafpaaGreat.Am
variable [Inhabited DRT]
variable {G : GInv}
/-! ### Products by one word, as numbers -/
def cmA (A : Nat → Nat) (b : Nat) : Nat → Nat
 | 0 => 0
 | i + 1 => (A i * b + cmA A b i) / 18446744073709551616
def pmA (A : Nat → Nat) (b i : Nat) : Nat := (A i * b + cmA A b i) % 18446744073709551616
theorem pmA_ok (A : Nat → Nat) (b : Nat) : WordP (pmA A b) := fun _ => Nat.mod_lt _ (by omega)
theorem mul_lt {a b : Nat} (ha : a < 18446744073709551616) (hb : b < 18446744073709551616) : a * b ≤ 18446744073709551615 * 18446744073709551615 := Nat.mul_le_mul (by omega) (by omega)
theorem cmA_lt {A : Nat → Nat} {b : Nat} (hA : WordP A) (hb : b < 18446744073709551616) : ∀ i, cmA A b i < 18446744073709551616
 | 0 => by show 0 < _; omega
 | i + 1 => by
  have h := cmA_lt hA hb i
  have m := mul_lt (hA i) hb
  show (A i * b + cmA A b i) / 18446744073709551616 < 18446744073709551616
  generalize A i * b = p at *
  omega
theorem mul_law {A : Nat → Nat} {b : Nat} (hA : WordP A) (h : wv A * b < 65536 ^ 32) : wv (pmA A b) = wv A * b ∧ cmA A b 8 = 0 := by
 have eA := wv_expl hA
 have eS := wv_expl (pmA_ok A b)
 have e : ∀ i, A i * b + cmA A b i = pmA A b i + 18446744073709551616 * cmA A b (i + 1) := fun i => (Nat.mod_add_div _ _).symm
 have e0 : A 0 * b + cmA A b 0 = pmA A b 0 + 18446744073709551616 * cmA A b 1 := e 0
 have e1 : A 1 * b + cmA A b 1 = pmA A b 1 + 18446744073709551616 * cmA A b 2 := e 1
 have e2 : A 2 * b + cmA A b 2 = pmA A b 2 + 18446744073709551616 * cmA A b 3 := e 2
 have e3 : A 3 * b + cmA A b 3 = pmA A b 3 + 18446744073709551616 * cmA A b 4 := e 3
 have e4 : A 4 * b + cmA A b 4 = pmA A b 4 + 18446744073709551616 * cmA A b 5 := e 4
 have e5 : A 5 * b + cmA A b 5 = pmA A b 5 + 18446744073709551616 * cmA A b 6 := e 5
 have e6 : A 6 * b + cmA A b 6 = pmA A b 6 + 18446744073709551616 * cmA A b 7 := e 6
 have e7 : A 7 * b + cmA A b 7 = pmA A b 7 + 18446744073709551616 * cmA A b 8 := e 7
 have c0 : cmA A b 0 = 0 := rfl
 rw [pow512] at h
 rw [eS]
 rw [eA] at h ⊢
 simp only [Nat.add_mul, Nat.mul_add, Nat.mul_assoc] at h ⊢
 generalize A 0 * b = p0 at *
 generalize A 1 * b = p1 at *
 generalize A 2 * b = p2 at *
 generalize A 3 * b = p3 at *
 generalize A 4 * b = p4 at *
 generalize A 5 * b = p5 at *
 generalize A 6 * b = p6 at *
 generalize A 7 * b = p7 at *
 clear eA eS e
 omega
theorem wide1_eq {b : Nat} (h : b < 18446744073709551616) : wideN b = wide1 b := by
 have hl := fun j => wW_low h j
 unfold wideN wideA wide1
 rw [hl 0, hl 1, hl 2, hl 3, hl 4, hl 5, hl 6, hl 7]
 rfl
set_option maxRecDepth 100000 in
set_option maxHeartbeats 4000000 in
theorem mul_zero (A : Nat → Nat) : ACalls Tryz.prog G 144 [wideA A, wide1 0] (.tup [wide1 0, .sb true]) := by
 unfold wideA wide1 at *
 refine ACalls.of_WA ttok Tryz.func144 rfl rfl _ rfl ?_
 conv => whnf
 repeat (first | refine sq ?_ | refine bk ?_ | ((first | refine rg ttok ?_ | refine dw ttok mixed ?_ | refine cd ?_ | refine sk ?_ | refine xt ?_ | refine rt ?_); conv => whnf))
 refine WA_loopI (fun i : Nat => i ≤ 8) (fun i => [(7, .sb true), (13, .int .i64 (i : Int))]) (fun i => [bxF A, box1 0, bxF (fun _ => 0), bxF (fun _ => 0)]) (fun i => 8 - i) 0 (by omega) ?_ ?_
 ·conv => whnf
  repeat (first | exact fa | ((first | refine fb ?_ | (refine And.intro ?_ ?_; rotate_left)); conv => whnf))
  all_goals trace_state
 ·intro i hi
  have e : i = 0 ∨ i = 1 ∨ i = 2 ∨ i = 3 ∨ i = 4 ∨ i = 5 ∨ i = 6 ∨ i = 7 ∨ i = 8 := by omega
  rcases e with rfl | rfl | rfl | rfl | rfl | rfl | rfl | rfl | rfl
  all_goals
   conv => whnf
   repeat' (first | (exact absurd (rfl : (0 : Int) = 0) (by assumption)) | (exact absurd (rfl : ((0 : Nat) : Int) = 0) (by assumption)) | refine sq ?_ | refine bk ?_ | ((first | refine rg ttok ?_ | refine dw ttok mixed ?_ | refine cd ?_ | refine sk ?_ | refine xt ?_ | refine rt ?_); conv => whnf) | (refine And.intro (fun h => ?_) (fun h => ?_) <;> (try simp only [brsA] at h) <;> conv => whnf) | ((first | refine wf ?_ | refine wp' ?_ | refine ai ?_ | refine And.intro rfl ?_ | refine an ?_); conv => whnf))
  all_goals first | contradiction | (exfalso; omega) | skip
  all_goals first | refine ⟨1, by decide, by decide, ?_⟩ | refine ⟨2, by decide, by decide, ?_⟩ | refine ⟨3, by decide, by decide, ?_⟩ | refine ⟨4, by decide, by decide, ?_⟩ | refine ⟨5, by decide, by decide, ?_⟩ | refine ⟨6, by decide, by decide, ?_⟩ | refine ⟨7, by decide, by decide, ?_⟩ | refine ⟨8, by decide, by decide, ?_⟩
  all_goals
   conv => whnf
   repeat (first | exact fa | ((first | refine fb ?_ | (refine And.intro ?_ ?_; rotate_left)); conv => whnf))
   all_goals trace_state
theorem wideMul_c (v b : Nat) (hv : v < 65536 ^ 32) (hb : b < 18446744073709551616) (h : v * b < 65536 ^ 32) : ACalls Tryz.prog G 144 [wideN v, wideN b] (.tup [wideN (v * b), .sb true]) := by
 by_cases h0 : b = 0
 ·subst h0
  have h1 : wideN 0 = wide1 0 := wide1_eq (by omega)
  rw [Nat.mul_zero, h1]
  exact mul_zero (wW v)
 ·obtain ⟨h1, h2⟩ := mul_law (b := b) (wW_ok v) (by rw [wv_wW hv]; exact h)
  rw [wv_wW hv] at h1
  have hr := row_gen (G := G) (wW v) (cmA (wW v) b) (fun i => wW v i * b / 18446744073709551616) (fun i => wW v i * b % 18446744073709551616) (fun i => (wW v i * b % 18446744073709551616 + cmA (wW v) b i) / 18446744073709551616) (pmA (wW v) b) b rfl h2
   (fun i _ => by
    have m := mul_lt (wW_ok v i) hb
    have c := cmA_lt (wW_ok v) hb i
    show (wW v i * b + cmA (wW v) b i) / 18446744073709551616 = wW v i * b / 18446744073709551616 + (wW v i * b % 18446744073709551616 + cmA (wW v) b i) / 18446744073709551616 ∧ wW v i * b / 18446744073709551616 + (wW v i * b % 18446744073709551616 + cmA (wW v) b i) / 18446744073709551616 < 18446744073709551616
    generalize wW v i * b = p at *
    generalize cmA (wW v) b i = q at *
    omega)
   (fun i _ => wmul64_c _ _ (wW_ok v i) hb)
   (fun i _ => by
    have k := wadd_c (G := G) (wW v i * b % 18446744073709551616) (cmA (wW v) b i) 0 (by omega)
    rw [show wW v i * b % 18446744073709551616 + cmA (wW v) b i + 0 = wW v i * b % 18446744073709551616 + cmA (wW v) b i from rfl] at k
    have e : (wW v i * b % 18446744073709551616 + cmA (wW v) b i) % 18446744073709551616 = pmA (wW v) b i := by
     unfold pmA
     generalize wW v i * b = p
     generalize cmA (wW v) b i = q
     omega
    rw [e] at k
    exact k)
   (fun i _ => by
    have k := wadd_c (G := G) (pmA (wW v) b i) 0 0 (by omega)
    have z := pmA_ok (wW v) b i
    rw [show pmA (wW v) b i + 0 + 0 = pmA (wW v) b i from rfl, Nat.mod_eq_of_lt z, Nat.div_eq_of_lt z] at k
    exact k)
  have g := mul_gen (wW v) (pmA (wW v) b) b h0 hr
  rw [wide1_eq hb]
  rw [wW_same (pmA_ok _ _), h1] at g
  exact g
theorem wideOf_c (b : Nat) : ACalls Tryz.prog G 57 [.int .u64 (b : Int)] (wide1 b) := by
 unfold wide1
 refine ACalls.of_WA ttok Tryz.func57 rfl rfl _ rfl ?_
 conv => whnf
 repeat' (first | refine sq ?_ | refine bk ?_ | ((first | refine rg ttok ?_ | refine dw ttok mixed ?_ | refine cd ?_ | refine sk ?_ | refine xt ?_ | refine rt ?_); conv => whnf) | (refine And.intro (fun h => ?_) (fun h => ?_) <;> (try simp only [brsA] at h) <;> conv => whnf) | ((first | refine wf ?_ | refine wp' ?_ | refine ai ?_ | refine And.intro rfl ?_ | refine an ?_); conv => whnf))
 all_goals trace_state
set_option maxRecDepth 100000 in
theorem wideZero_c (v : Nat) (hv : v < 65536 ^ 32) : ACalls Tryz.prog G 62 [wideN v] (.sb (decide (v = 0))) := by
 have key : ((((wW v 0 : Nat) : Int) == 0 && (((wW v 1 : Nat) : Int) == 0 && (((wW v 2 : Nat) : Int) == 0 && (((wW v 3 : Nat) : Int) == 0 && (((wW v 4 : Nat) : Int) == 0 && (((wW v 5 : Nat) : Int) == 0 && (((wW v 6 : Nat) : Int) == 0 && (((wW v 7 : Nat) : Int) == 0 && true)))))))) = decide (v = 0)) := by
  rw [Bool.eq_iff_iff, decide_eq_true_iff]
  simp only [Bool.and_eq_true, beq_iff_eq, and_true]
  constructor
  ·rintro ⟨z0, z1, z2, z3, z4, z5, z6, z7⟩
   exact wW_zero hv (by omega) (by omega) (by omega) (by omega) (by omega) (by omega) (by omega) (by omega)
  ·rintro rfl
   simp [wW]
 unfold wideN wideA
 generalize wW v = V at *
 generalize decide (v = 0) = z at *
 refine ACalls.of_WA ttok Tryz.func62 rfl rfl _ rfl ?_
 conv => whnf
 repeat' (first | refine sq ?_ | refine bk ?_ | ((first | refine rg ttok ?_ | refine dw ttok mixed ?_ | refine cd ?_ | refine sk ?_ | refine xt ?_ | refine rt ?_); conv => whnf) | (refine And.intro (fun h => ?_) (fun h => ?_) <;> (try simp only [brsA] at h) <;> conv => whnf) | ((first | refine wf ?_ | refine wp' ?_ | refine ai ?_ | refine And.intro rfl ?_ | refine an ?_); conv => whnf))
 all_goals first | exact key | trace_state
end Go.Proofs.YtcomiiakkhafpaaGreat
namespace Go.Proofs.YtcomiiakkhafpaaGreat
open Go.Proofs.YtcomiiakkhafpaaGreat.Am
variable [Inhabited DRT]
variable {G : GInv}
/-! ### Quotients by one word -/
def dns (Q : Nat → Nat) (t j : Nat) : Nat := if 8 ≤ j + t then Q j else 0
set_option maxRecDepth 100000 in
set_option maxHeartbeats 4000000 in
theorem short_gen (A Q R : Nat → Nat) (y : Nat) (h8 : R 8 = 0) (hd : ∀ j, j < 8 → ACalls Tryz.prog G 138 [.int .u64 (R (j + 1) : Int), .int .u64 (A j : Int), .int .u64 (y : Int)] (.tup [.int .u64 (Q j : Int), .int .u64 (R j : Int), .sb true])) :
  ACalls Tryz.prog G 101 [wideA A, .int .u64 (y : Int)] (.tup [wideA Q, wide1 (R 0)]) := by
 have ho := wideOf_c (G := G) (R 0)
 unfold wideA wide1 at *
 refine ACalls.of_WA ttok Tryz.func101 rfl rfl _ rfl ?_
 conv => whnf
 repeat (first | refine sq ?_ | refine bk ?_ | ((first | refine rg ttok ?_ | refine dw ttok mixed ?_ | refine cd ?_ | refine sk ?_ | refine xt ?_ | refine rt ?_); conv => whnf))
 refine WA_loopI (fun t : Nat => t ≤ 8) (fun t => [(6, .int .u64 (R (8 - t) : Int)), (7, .int .i64 (7 - (t : Int)))]) (fun t => [bxF A, bxF (dns Q t), bxF (fun _ => 0)]) (fun t => 8 - t) 0 (by omega) ?_ ?_
 ·conv => whnf
  repeat (first | exact fa | ((first | refine fb ?_ | (refine And.intro ?_ ?_; rotate_left)); conv => whnf))
  all_goals first | exact (congrArg Nat.cast h8).symm | trace_state
 ·intro i hi
  have e : i = 0 ∨ i = 1 ∨ i = 2 ∨ i = 3 ∨ i = 4 ∨ i = 5 ∨ i = 6 ∨ i = 7 ∨ i = 8 := by omega
  rcases e with rfl | rfl | rfl | rfl | rfl | rfl | rfl | rfl | rfl
  all_goals
   conv => whnf
   repeat' (first | refine sq ?_ | refine bk ?_ | ((first | refine rg ttok ?_ | refine dw ttok mixed ?_ | refine cd ?_ | refine sk ?_ | refine xt ?_ | refine rt ?_); conv => whnf) | (refine And.intro (fun h => ?_) (fun h => ?_) <;> (try simp only [brsA] at h) <;> conv => whnf) | ((first | refine Or.inl ?_ | skip); (conv => whnf); (first | refine ⟨_, hd _ (by omega), ?_⟩ | refine ⟨_, ho, ?_⟩); conv => whnf) | ((first | refine wf ?_ | refine wp' ?_ | refine ai ?_ | refine And.intro rfl ?_ | refine an ?_ | fail); conv => whnf))
  all_goals first | contradiction | (exfalso; omega) | skip
  all_goals first | refine ⟨1, by decide, by decide, ?_⟩ | refine ⟨2, by decide, by decide, ?_⟩ | refine ⟨3, by decide, by decide, ?_⟩ | refine ⟨4, by decide, by decide, ?_⟩ | refine ⟨5, by decide, by decide, ?_⟩ | refine ⟨6, by decide, by decide, ?_⟩ | refine ⟨7, by decide, by decide, ?_⟩ | refine ⟨8, by decide, by decide, ?_⟩
  all_goals
   conv => whnf
   repeat (first | exact fa | ((first | refine fb ?_ | (refine And.intro ?_ ?_; rotate_left)); conv => whnf))
/-- The rests, from the top. -/
def rsA (A : Nat → Nat) (y : Nat) : Nat → Nat
 | 0 => 0
 | k + 1 => (rsA A y k * 18446744073709551616 + A (7 - k)) % y
def qtA (A : Nat → Nat) (y j : Nat) : Nat := (rsA A y (7 - j) * 18446744073709551616 + A j) / y
theorem rsA_lt {A : Nat → Nat} {y : Nat} (hy : 0 < y) : ∀ k, rsA A y k < y
 | 0 => hy
 | _ + 1 => Nat.mod_lt _ hy
theorem qtA_lt {A : Nat → Nat} {y : Nat} (hA : WordP A) (hy : 0 < y) (j : Nat) : qtA A y j < 18446744073709551616 := by
 unfold qtA
 rw [Nat.div_lt_iff_lt_mul hy]
 have h1 := rsA_lt (A := A) hy (7 - j)
 have h2 := hA j
 omega
theorem short_law {A : Nat → Nat} {y : Nat} (hA : WordP A) (hy : 0 < y) : wv (qtA A y) = wv A / y ∧ rsA A y 8 = wv A % y := by
 have eA := wv_expl hA
 have eS := wv_expl (qtA_lt hA hy)
 have e : ∀ j, j < 8 → y * qtA A y j + rsA A y (8 - j) = rsA A y (7 - j) * 18446744073709551616 + A j := fun j hj => by
  have h : rsA A y (8 - j) = (rsA A y (7 - j) * 18446744073709551616 + A j) % y := by
   rw [show 8 - j = (7 - j) + 1 by omega]
   show (rsA A y (7 - j) * 18446744073709551616 + A (7 - (7 - j))) % y = _
   rw [show 7 - (7 - j) = j by omega]
  rw [h]
  exact Nat.div_add_mod _ _
 have e0 : y * qtA A y 0 + rsA A y 8 = rsA A y 7 * 18446744073709551616 + A 0 := e 0 (by omega)
 have e1 : y * qtA A y 1 + rsA A y 7 = rsA A y 6 * 18446744073709551616 + A 1 := e 1 (by omega)
 have e2 : y * qtA A y 2 + rsA A y 6 = rsA A y 5 * 18446744073709551616 + A 2 := e 2 (by omega)
 have e3 : y * qtA A y 3 + rsA A y 5 = rsA A y 4 * 18446744073709551616 + A 3 := e 3 (by omega)
 have e4 : y * qtA A y 4 + rsA A y 4 = rsA A y 3 * 18446744073709551616 + A 4 := e 4 (by omega)
 have e5 : y * qtA A y 5 + rsA A y 3 = rsA A y 2 * 18446744073709551616 + A 5 := e 5 (by omega)
 have e6 : y * qtA A y 6 + rsA A y 2 = rsA A y 1 * 18446744073709551616 + A 6 := e 6 (by omega)
 have e7 : y * qtA A y 7 + rsA A y 1 = rsA A y 0 * 18446744073709551616 + A 7 := e 7 (by omega)
 have c0 : rsA A y 0 = 0 := rfl
 have hlt := rsA_lt (A := A) hy 8
 have key : wv A = y * wv (qtA A y) + rsA A y 8 := by
  rw [eS, eA]
  simp only [Nat.mul_add, Nat.mul_left_comm y, Nat.add_mul, Nat.mul_assoc]
  generalize y * qtA A y 0 = p0 at *
  generalize y * qtA A y 1 = p1 at *
  generalize y * qtA A y 2 = p2 at *
  generalize y * qtA A y 3 = p3 at *
  generalize y * qtA A y 4 = p4 at *
  generalize y * qtA A y 5 = p5 at *
  generalize y * qtA A y 6 = p6 at *
  generalize y * qtA A y 7 = p7 at *
  clear eA eS e
  omega
 rw [key]
 constructor
 ·rw [Nat.mul_add_div hy, Nat.div_eq_of_lt hlt, Nat.add_zero]
 ·rw [Nat.mul_add_mod, Nat.mod_eq_of_lt hlt]
theorem short_c (v y : Nat) (hv : v < 65536 ^ 32) (hy : 0 < y) (hy2 : y < 18446744073709551616) : ACalls Tryz.prog G 101 [wideN v, .int .u64 (y : Int)] (.tup [wideN (v / y), wideN (v % y)]) := by
 obtain ⟨h1, h2⟩ := short_law (wW_ok v) hy
 rw [wv_wW hv] at h1 h2
 have g := short_gen (G := G) (wW v) (qtA (wW v) y) (fun j => rsA (wW v) y (8 - j)) y rfl (fun j hj => by
  have k := wdiv64_c (G := G) (rsA (wW v) y (7 - j)) (wW v j) y (wW_ok v j) hy2 (rsA_lt hy _)
  have e1 : rsA (wW v) y (8 - j) = (rsA (wW v) y (7 - j) * 18446744073709551616 + wW v j) % y := by
   rw [show 8 - j = (7 - j) + 1 by omega]
   show (rsA (wW v) y (7 - j) * 18446744073709551616 + wW v (7 - (7 - j))) % y = _
   rw [show 7 - (7 - j) = j by omega]
  show ACalls Tryz.prog G 138 [.int .u64 ((rsA (wW v) y (8 - (j + 1)) : Nat) : Int), .int .u64 ((wW v j : Nat) : Int), .int .u64 (y : Int)] (.tup [.int .u64 ((qtA (wW v) y j : Nat) : Int), .int .u64 ((rsA (wW v) y (8 - j) : Nat) : Int), .sb true])
  rw [e1, show 8 - (j + 1) = 7 - j by omega]
  exact k)
 have hr : v % y < 18446744073709551616 := Nat.lt_trans (Nat.mod_lt _ hy) hy2
 rw [wW_same (qtA_lt (wW_ok v) hy), h1, show rsA (wW v) y (8 - 0) = v % y from h2, ← wide1_eq hr] at g
 exact g
set_option maxRecDepth 100000 in
set_option maxHeartbeats 1000000 in
/-- Quotient and rest by one word. -/
theorem over1_c (v y : Nat) (hv : v < 65536 ^ 32) (hy : 0 < y) (hy2 : y < 18446744073709551616) : ACalls Tryz.prog G 105 [wideN v, wideN y] (.tup [wideN (v / y), wideN (v % y), .int .i64 0]) := by
 have hz := wideZero_c (G := G) y (by rw [pow512]; omega)
 rw [decide_eq_false (by omega)] at hz
 have hs := short_c (G := G) v y hv hy hy2
 have ho := wideOf_c (G := G) y
 rw [wide1_eq hy2] at hz ⊢
 unfold wideN wideA wide1 at *
 generalize wW (v / y) = VQ at *
 generalize wW (v % y) = VR at *
 generalize wW v = V at *
 have hyy : (((y : Int) == y) && (((0 : Int) == 0) && (((0 : Int) == 0) && (((0 : Int) == 0) && (((0 : Int) == 0) && (((0 : Int) == 0) && (((0 : Int) == 0) && (((0 : Int) == 0) && true)))))))) = true := by simp
 refine ACalls.of_WA ttok Tryz.func105 rfl rfl _ rfl ?_
 conv => whnf
 repeat' (first | (exact Bool.noConfusion (hyy.symm.trans (by assumption))) | refine sq ?_ | refine bk ?_ | ((first | refine rg ttok ?_ | refine dw ttok mixed ?_ | refine cd ?_ | refine sk ?_ | refine xt ?_ | refine rt ?_); conv => whnf) | (refine And.intro (fun h => ?_) (fun h => ?_) <;> (try simp only [brsA] at h) <;> conv => whnf) | ((first | refine Or.inl ?_ | skip); (conv => whnf); (first | refine ⟨_, hz, ?_⟩ | refine ⟨_, hs, ?_⟩ | refine ⟨_, ho, ?_⟩); conv => whnf) | ((first | refine wf ?_ | refine wp' ?_ | refine ai ?_ | refine And.intro rfl ?_ | refine an ?_ | fail); conv => whnf))
 all_goals first | contradiction | (exfalso; omega) | skip
end Go.Proofs.YtcomiiakkhafpaaGreat

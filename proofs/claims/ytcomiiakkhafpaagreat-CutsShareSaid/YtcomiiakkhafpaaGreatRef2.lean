/-
  Numbers by digits: quotients; numbers as eight words.
-/
import Derived.Test.YtcomiiakkhafpaaGreatRef1
import Derived.Test.YtcomiiakkhafpaaGreatAm4
set_option linter.unusedSimpArgs false
set_option linter.unusedSectionVars false
namespace Go.Proofs.YtcomiiakkhafpaaGreat
open Go.Proofs.YtcomiiakkhafpaaGreat.Am
variable [Inhabited DRT]
variable {G : GInv}
/-! ### Quotient and rest, bit by bit -/
/-- Digits from the top: so many of n. -/
def vt (f : Nat → Nat) (n : Nat) : Nat → Nat
 | 0 => 0
 | k + 1 => vt f n k * 65536 + f (n - 1 - k)
theorem vt_congr {f g : Nat → Nat} {n k : Nat} (h : ∀ j, n - k ≤ j → j < n → f j = g j) (hk : k ≤ n) : vt f n k = vt g n k := by
 induction k with
 | zero => rfl
 | succ k ih => rw [vt, vt, ih (fun j h1 h2 => h j (by omega) h2) (by omega), h _ (by omega) (by omega)]
theorem vt_vf (f : Nat → Nat) (n k : Nat) (hk : k ≤ n) : vf f n = vt f n k * 65536 ^ (n - k) + vf f (n - k) := by
 induction k with
 | zero => rw [vt, Nat.zero_mul, Nat.zero_add]; rfl
 | succ k ih =>
  rw [ih (by omega), vt]
  obtain ⟨m, hm⟩ : ∃ m, n - k = m + 1 := ⟨n - k - 1, by omega⟩
  have h1 : n - (k + 1) = m := by omega
  have h2 : n - 1 - k = m := by omega
  rw [hm, h1, h2, vf, Nat.pow_succ, Nat.add_mul]
  have : vt f n k * (65536 ^ m * 65536) = vt f n k * 65536 * 65536 ^ m := by rw [Nat.mul_comm (65536 ^ m), ← Nat.mul_assoc]
  omega
theorem vt_all (f : Nat → Nat) (n : Nat) : vt f n n = vf f n := by
 have := vt_vf f n n (Nat.le_refl _)
 rw [Nat.sub_self] at this
 rw [this, Nat.pow_zero, Nat.mul_one]; rfl
def addB (R : List Nat) (x bit : Nat) : List Nat := if x / 2 ^ bit % 2 = 1 then plusL (plusL R R) [1] else plusL R R
def stepQ (b : List Nat) (x i bit : Nat) (s : List Nat × (Nat → Nat)) : List Nat × (Nat → Nat) :=
 if val (addB s.1 x bit) < val b then (addB s.1 x bit, s.2) else (trimL (minusL (addB s.1 x bit) b), updD s.2 i (s.2 i + 2 ^ bit))
def bitsQ (b : List Nat) (x i : Nat) (s : List Nat × (Nat → Nat)) : Nat → List Nat × (Nat → Nat)
 | 0 => s
 | k + 1 => stepQ b x i (15 - k) (bitsQ b x i s k)
def digQ (a b : List Nat) : Nat → List Nat × (Nat → Nat)
 | 0 => ([], fun _ => 0)
 | k + 1 => if a.getD (a.length - 1 - k) 0 = 0 ∧ (digQ a b k).1.length = 0 then digQ a b k else bitsQ b (a.getD (a.length - 1 - k) 0) (a.length - 1 - k) (digQ a b k) 16
theorem one_ok : DigP [1] := by intro x hx; simp only [List.mem_cons, List.mem_nil_iff, or_false] at hx; omega
theorem one_val : val [1] = 1 := rfl
theorem addB_ok {R : List Nat} {x bit : Nat} : DigP (addB R x bit) := by
 unfold addB; split
 ·exact plusL_ok _ _
 ·exact plusL_ok _ _
theorem addB_val {R : List Nat} (h : DigP R) (x bit : Nat) : val (addB R x bit) = 2 * val R + x / 2 ^ bit % 2 := by
 unfold addB
 have h2 := Nat.mod_lt (x / 2 ^ bit) (show 2 > 0 by omega)
 split
 ·rename_i e
  rw [plusL_val (plusL_ok _ _) one_ok, plusL_val h h, one_val, e]; omega
 ·rw [plusL_val h h]; omega
theorem plusL_le {a b : List Nat} (ha : DigP a) (hb : DigP b) : (plusL a b).length ≤ max a.length b.length + 1 := by
 rw [plusL_len]; unfold plusN
 have := crP_le (f := fun i => a.getD i 0) (g := fun i => b.getD i 0) (fun i => ha.get i) (fun i => hb.get i) (max a.length b.length)
 omega
theorem addB_len {R : List Nat} (h : DigP R) (x bit : Nat) : (addB R x bit).length ≤ R.length + 2 := by
 have h1 := plusL_le h h
 have h2 := plusL_le (plusL_ok R R) one_ok
 have h3 : ([1] : List Nat).length = 1 := rfl
 unfold addB; split <;> omega
structure BitI (b : List Nat) (x i : Nat) (s t : List Nat × (Nat → Nat)) (k : Nat) : Prop where
 ok : DigP t.1
 len : t.1.length ≤ s.1.length + 2 * k
 lt : val t.1 < val b
 off : ∀ j, j ≠ i → t.2 j = s.2 j
 fit : t.2 i + 2 ^ (16 - k) ≤ 65536
 eq : ∃ q, t.2 i = q * 2 ^ (16 - k) ∧ val s.1 * 2 ^ k + x / 2 ^ (16 - k) = q * val b + val t.1
theorem bitsQ_inv {b : List Nat} (hb : DigP b) {x i : Nat} (hx : x < 65536) {s : List Nat × (Nat → Nat)} (hs : DigP s.1) (hlt : val s.1 < val b) (h0 : s.2 i = 0) (k : Nat) (hk : k ≤ 16) : BitI b x i s (bitsQ b x i s k) k := by
 induction k with
 | zero =>
  refine ⟨hs, by show s.1.length ≤ _; omega, hlt, fun _ _ => rfl, ?_, 0, ?_, ?_⟩
  ·show s.2 i + 2 ^ 16 ≤ 65536; rw [h0]; decide
  ·show s.2 i = _; rw [h0, Nat.zero_mul]
  ·show val s.1 * 1 + x / 65536 = 0 * val b + val s.1
   rw [Nat.div_eq_of_lt hx]; omega
 | succ k ih =>
  obtain ⟨g1, g2, g3, g4, g5, q, g6, g7⟩ := ih (by omega)
  rw [bitsQ]
  generalize bitsQ b x i s k = t at *
  obtain ⟨m, hm⟩ : ∃ m, 15 - k = m := ⟨_, rfl⟩
  have e1 : 16 - k = m + 1 := by omega
  have e2 : 16 - (k + 1) = m := by omega
  rw [e1] at g5 g6 g7
  have hv := addB_val g1 x m
  have hl := addB_len g1 x m
  have ho := addB_ok (R := t.1) (x := x) (bit := m)
  have hd : x / 2 ^ m = 2 * (x / 2 ^ (m + 1)) + x / 2 ^ m % 2 := by
   rw [Nat.pow_succ, ← Nat.div_div_eq_div_mul]; omega
  have hmul : val s.1 * 2 ^ (k + 1) = 2 * (val s.1 * 2 ^ k) := by rw [Nat.pow_succ, ← Nat.mul_assoc, Nat.mul_comm]
  have hp : 2 ^ (m + 1) = 2 * 2 ^ m := by rw [Nat.pow_succ, Nat.mul_comm]
  have hq2 : q * 2 ^ (m + 1) = 2 * q * 2 ^ m := by rw [hp, ← Nat.mul_assoc, Nat.mul_comm q]
  have hpos : 0 < 2 ^ m := Nat.pow_pos (by omega)
  have h2b : x / 2 ^ m % 2 < 2 := Nat.mod_lt _ (by omega)
  unfold stepQ
  rw [hm]
  split
  ·rename_i hc
   refine ⟨ho, by show (addB t.1 x m).length ≤ _; omega, hc, g4, ?_, 2 * q, ?_, ?_⟩
   ·show t.2 i + 2 ^ (16 - (k + 1)) ≤ 65536; rw [e2]; omega
   ·show t.2 i = _; rw [e2, g6, hq2]
   ·show _ = 2 * q * val b + val (addB t.1 x m)
    rw [e2, hmul, hv, Nat.mul_assoc]; omega
  ·rename_i hc
   have hle : val b ≤ val (addB t.1 x m) := by omega
   have hmv := minusL_val ho hb hle
   have htv := trimL_val (minusL (addB t.1 x m) b)
   have htl := trimL_le (minusL (addB t.1 x m) b)
   rw [minusL_len] at htl
   refine ⟨trimL_ok (minusL_ok _ _), by show (trimL (minusL (addB t.1 x m) b)).length ≤ _; omega, by show val (trimL (minusL (addB t.1 x m) b)) < _; omega, fun j hj => ?_, ?_, 2 * q + 1, ?_, ?_⟩
   ·show updD t.2 i _ j = _; unfold updD; rw [if_neg hj]; exact g4 j hj
   ·show updD t.2 i (t.2 i + 2 ^ m) i + 2 ^ (16 - (k + 1)) ≤ 65536; unfold updD; rw [if_pos rfl, e2]; omega
   ·show updD t.2 i (t.2 i + 2 ^ m) i = _; unfold updD; rw [if_pos rfl, e2, g6, hq2, Nat.add_mul, Nat.one_mul]
   ·show _ = (2 * q + 1) * val b + val (trimL (minusL (addB t.1 x m) b))
    rw [e2, hmul, htv, hmv, hv, Nat.add_mul, Nat.one_mul, Nat.mul_assoc]; omega
structure DigI (a b : List Nat) (t : List Nat × (Nat → Nat)) (k : Nat) : Prop where
 ok : DigP t.1
 len : t.1.length ≤ 32 * k
 lt : val t.1 < val b
 dig : ∀ j, t.2 j < 65536
 low : ∀ j, j < a.length - k → t.2 j = 0
 eq : vt (fun j => a.getD j 0) a.length k = vt t.2 a.length k * val b + val t.1
theorem digQ_inv {a b : List Nat} (ha : DigP a) (hb : DigP b) (h0 : 0 < val b) (k : Nat) (hk : k ≤ a.length) : DigI a b (digQ a b k) k := by
 induction k with
 | zero => exact ⟨fun _ h => absurd h (by simp [digQ]), Nat.zero_le _, h0, fun _ => Nat.zero_lt_succ _, fun _ _ => rfl, by
   show 0 = 0 * val b + 0
   rw [Nat.zero_mul]⟩
 | succ k ih =>
  obtain ⟨g1, g2, g3, g4, g5, g6⟩ := ih (by omega)
  rw [digQ]
  generalize digQ a b k = t at *
  have hx := ha.get (a.length - 1 - k)
  obtain ⟨i, hi⟩ : ∃ i, a.length - 1 - k = i := ⟨_, rfl⟩
  rw [hi] at hx ⊢
  have hz : t.2 i = 0 := g5 i (by omega)
  have hvt : ∀ f : Nat → Nat, vt f a.length (k + 1) = vt f a.length k * 65536 + f i := fun f => by rw [vt, hi]
  split
  ·rename_i hc
   obtain ⟨c1, c2⟩ := hc
   have hv : val t.1 = 0 := by rw [val, c2]; rfl
   refine ⟨g1, by omega, g3, g4, fun j hj => g5 j (by omega), ?_⟩
   rw [hvt, hvt, g6, hz, c1, hv, Nat.add_zero, Nat.add_zero, Nat.add_zero, Nat.add_zero, Nat.mul_assoc, Nat.mul_assoc, Nat.mul_comm (val b)]
  ·obtain ⟨b1, b2, b3, b4, b5, q, b6, b7⟩ := bitsQ_inv hb hx (i := i) g1 g3 hz 16 (Nat.le_refl _)
   generalize bitsQ b (a.getD i 0) i t 16 = u at *
   rw [Nat.sub_self, Nat.pow_zero, Nat.mul_one] at b6
   rw [Nat.sub_self, Nat.pow_zero, Nat.div_one] at b7
   rw [Nat.sub_self, Nat.pow_zero] at b5
   refine ⟨b1, by omega, b3, fun j => ?_, fun j hj => ?_, ?_⟩
   ·by_cases e : j = i
    ·subst e; omega
    ·rw [b4 j e]; exact g4 j
   ·rw [b4 j (by omega)]; exact g5 j (by omega)
   ·have hc : vt u.2 a.length k = vt t.2 a.length k := vt_congr (fun j h1 _ => b4 j (by omega)) (by omega)
    rw [hvt, hvt, hc, g6, b6, Nat.add_mul, Nat.add_mul]
    have e1 : vt t.2 a.length k * val b * 65536 = vt t.2 a.length k * 65536 * val b := by rw [Nat.mul_assoc, Nat.mul_comm (val b), ← Nat.mul_assoc]
    have e2 : (65536 : Nat) = 2 ^ 16 := rfl
    rw [e1]
    show _ + val t.1 * 65536 + a.getD i 0 = _
    have b7 : val t.1 * 65536 + a.getD i 0 = q * val b + val u.1 := b7
    omega
def quotL (a b : List Nat) : List Nat := (List.range a.length).map (digQ a b a.length).2
def restL (a b : List Nat) : List Nat := (digQ a b a.length).1
theorem quotL_len (a b : List Nat) : (quotL a b).length = a.length := by unfold quotL; simp
theorem quotL_get (a b : List Nat) {i : Nat} (h : i < a.length) : (quotL a b).getD i 0 = (digQ a b a.length).2 i := by
 unfold quotL
 rw [List.getD_eq_getElem?_getD, List.getElem?_map, List.getElem?_range h]; rfl
theorem over_law {a b : List Nat} (ha : DigP a) (hb : DigP b) (h0 : 0 < val b) :
  DigP (quotL a b) ∧ DigP (restL a b) ∧ (restL a b).length ≤ 32 * a.length ∧ val (quotL a b) = val a / val b ∧ val (restL a b) = val a % val b := by
 obtain ⟨g1, g2, g3, g4, _, g6⟩ := digQ_inv ha hb h0 a.length (Nat.le_refl _)
 have hq : val (quotL a b) = vf (digQ a b a.length).2 a.length := by rw [val, quotL_len, vf_congr fun i hi => quotL_get a b hi]
 rw [vt_all, vt_all, ← hq] at g6
 have g6 : val a = val (quotL a b) * val b + val (restL a b) := g6
 have g3 : val (restL a b) < val b := g3
 refine ⟨fun x hx => ?_, g1, g2, ?_, ?_⟩
 ·unfold quotL at hx
  simp only [List.mem_map] at hx
  obtain ⟨i, _, rfl⟩ := hx
  exact g4 i
 ·rw [g6, Nat.mul_comm, Nat.mul_add_div h0, Nat.div_eq_of_lt g3]; omega
 ·rw [g6, Nat.mul_comm, Nat.mul_add_mod, Nat.mod_eq_of_lt g3]
end Go.Proofs.YtcomiiakkhafpaaGreat
namespace Go.Proofs.YtcomiiakkhafpaaGreat
open Go.Proofs.YtcomiiakkhafpaaGreat.Am
variable [Inhabited DRT]
variable {G : GInv}
theorem one_fit {l : List Nat} : andL (fitA.fitL 6 0 [digA l, .sl 1 1 fun i => takeL 1 (List.drop (i * 1) [A.int .u64 1])] [digA l, digA [1]]) := by
 conv => whnf
 repeat (first | exact rfl | exact trivial | exact Or.inl (fun _ _ => rfl) | exact (fun _ => rfl) | exact (fun _ _ => rfl) | exact Or.inl (fun _ hi => absurd hi (Nat.not_lt_zero _)) | ((first | refine And.intro rfl ?_ | refine And.intro (Or.inl (fun _ _ => rfl)) ?_ | refine And.intro (fun _ => rfl) ?_ | refine And.intro (fun _ _ => rfl) ?_ | (refine And.intro ?_ ?_; rotate_left)); conv => whnf))
 all_goals (refine Or.inl fun i hi => ?_; rcases i with _ | _ | _ | _ | i <;> first | rfl | omega)
theorem shl_of (p q : Nat) (hq : q = p) (h : 2 ^ p ≤ 65536) : IntKind.u64.wrap (1 * 2 ^ q) = ((2 ^ p : Nat) : Int) := by
 subst hq
 have e : (2 : Int) ^ q = ((2 ^ q : Nat) : Int) := by rw [Int.natCast_pow]; rfl
 have h2 : ∀ n : Nat, n ≤ 65536 → IntKind.u64.wrap (n : Int) = n := fun n hn => wr_u64 (by omega)
 rw [e, Int.one_mul]
 exact h2 _ h
theorem bit_of (x p : Nat) (y q : Nat) (hy : y = x) (hq : q = p) : (((y : Nat) : Int).fdiv (2 ^ q)).tmod 2 = ((x / 2 ^ p % 2 : Nat) : Int) := by
 subst hy hq
 have e : (2 : Int) ^ q = ((2 ^ q : Nat) : Int) := by rw [Int.natCast_pow]; rfl
 rw [e, Int.fdiv_eq_ediv_of_nonneg _ (Int.natCast_nonneg _), ← Int.natCast_ediv]
 exact tmodN (y / 2 ^ q) 2
set_option maxRecDepth 100000 in
set_option maxHeartbeats 4000000 in
theorem qover_c (a b : List Nat) (ha : DigP a) (hb : DigP b) (h0 : 0 < val b) (la : a.length ≤ 1000) (lb : b.length ≤ 1000000) : ACalls Tryz.prog G 133 [digA a, digA b] (.tup [digA (quotL a (trimL b)), digA (restL a (trimL b))]) := by
 have htr := trim_c (G := G) b lb
 have hb' := trimL_ok hb
 have hbl := trimL_le b
 have h0' : 0 < val (trimL b) := by rw [trimL_val]; exact h0
 generalize trimL b = B at *
 have hinv := digQ_inv ha hb' h0'
 have hqg := @quotL_get _ a B
 have hql := quotL_len a B
 have hrl : restL a B = (digQ a B a.length).1 := rfl
 generalize quotL a B = QL at *
 generalize restL a B = RL at *
 refine ACalls.of_WA ttok Tryz.func133 rfl rfl _ rfl ?_
 conv => whnf
 repeat' (first | refine WA_seq ?_ | refine WA_block ?_ | ((first | refine WA_region ttok ?_ | refine WA_draw ttok mixed ?_ | refine WA_cond ?_ | refine WA_skip ?_ | refine WA_exit ?_ | refine WA_ret ?_); conv => whnf) | (refine And.intro (fun h => ?_) (fun h => ?_) <;> (try simp only [brsA] at h) <;> conv => whnf) | (refine Or.inl ?_; (conv => whnf); refine ⟨_, htr, ?_⟩; conv => whnf) | (refine Or.inr (Or.inr (Or.inl ?_)); (conv => whnf); refine ⟨_, htr, ?_⟩; conv => whnf) | (refine Exists.intro _ (And.intro (htr) ?_); conv => whnf) | (refine WR_fit ?_ ?_; (focus (first | exact wr_i64 (by omega) | exact wr_u64 (by omega) | exact wr_u8 (by omega) | exact wr_i32 (by omega) | exact wr_u32 (by omega))); conv => whnf) | ((first | refine WR_wrap ?_ | (refine And.intro (a := indepB _ _ = true) ?_ ?_; (focus kernel_rfl)) | refine And.intro rfl ?_ | (refine And.intro ?_ ?_; (focus (first | omega | decide | (dsimp only; omega) | (simp at *; omega))))); conv => whnf))
 all_goals first | contradiction | (exfalso; omega) | skip
 refine WA_freeze 1 ?_
 conv => whnf
 refine WA_loopI (fun x : Nat × List Nat × (Nat → Nat) => x.1 ≤ a.length ∧ x.2 = digQ a B (a.length - x.1)) (fun x => match x with | (m, R, _) => [(8, .int .i64 ((m : Int) - 1)), (7, digA R), (6, .own 0)]) (fun x => match x with | (_, _, Q) => [.row 28 1 a.length (fun j => [.int .u64 ((Q j : Nat) : Int)])]) (fun x => x.1) (a.length, [], fun _ => 0) ⟨Nat.le_refl _, by show _ = digQ a B (a.length - a.length); rw [Nat.sub_self]; rfl⟩ ?_ ?_
 ·conv => whnf
  repeat (first | exact rfl | exact trivial | exact Or.inl (fun _ _ => rfl) | exact (fun _ => rfl) | exact (fun _ _ => rfl) | exact Or.inl (fun _ hi => absurd hi (Nat.not_lt_zero _)) | ((first | refine And.intro rfl ?_ | refine And.intro (Or.inl (fun _ _ => rfl)) ?_ | refine And.intro (fun _ => rfl) ?_ | refine And.intro (fun _ _ => rfl) ?_ | (refine And.intro ?_ ?_; rotate_left)); conv => whnf))
 ·rintro ⟨m, R, Q⟩ ⟨hm, hS⟩
  have hm : m ≤ a.length := hm
  have hS : (R, Q) = digQ a B (a.length - m) := hS
  have hI := hinv (a.length - m) (by omega)
  rw [← hS] at hI
  obtain ⟨i1, i2, i3, i4, i5, _⟩ := hI
  have i2 : R.length ≤ 32 * (a.length - m) := i2
  rcases Nat.eq_zero_or_pos m with e | e
  ·subst e
   rw [Nat.sub_zero] at hS
   rw [← hS] at hrl hqg
   subst hrl
   conv => whnf
   repeat' (first | refine WA_seq ?_ | refine WA_block ?_ | ((first | refine WA_region ttok ?_ | refine WA_draw ttok mixed ?_ | refine WA_cond ?_ | refine WA_skip ?_ | refine WA_exit ?_ | refine WA_ret ?_); conv => whnf) | (refine And.intro (fun h => ?_) (fun h => ?_) <;> (try simp only [brsA] at h) <;> conv => whnf) | (refine WR_fit ?_ ?_; (focus (first | exact wr_i64 (by omega) | exact wr_u64 (by omega) | exact wr_u8 (by omega) | exact wr_i32 (by omega) | exact wr_u32 (by omega))); conv => whnf) | ((first | refine WR_wrap ?_ | (refine And.intro (a := indepB _ _ = true) ?_ ?_; (focus kernel_rfl)) | refine And.intro rfl ?_ | (refine And.intro ?_ ?_; (focus (first | omega | decide | (dsimp only; omega) | (simp at *; omega))))); conv => whnf))
   all_goals first | contradiction | (exfalso; omega) | skip
   refine ⟨.inl fun j hj => ?_, rfl, .inl fun _ _ => rfl⟩
   show [A.int .u64 ((Q j : Nat) : Int)] = [A.int .u64 ((QL.getD j 0 : Nat) : Int)]
   rw [hqg hj]
  ·obtain ⟨i, rfl⟩ : ∃ i, m = i + 1 := ⟨m - 1, by omega⟩
   have e1 : (((i + 1 : Nat) : Int) - 1).toNat = i := by omega
   have e2 : a.getD (((i + 1 : Nat) : Int) - 1).toNat 0 = a.getD i 0 := by rw [e1]
   have hx := ha.get i
   have hnx : digQ a B (a.length - i) = if a.getD i 0 = 0 ∧ R.length = 0 then (R, Q) else bitsQ B (a.getD i 0) i (R, Q) 16 := by
    rw [show a.length - i = a.length - (i + 1) + 1 by omega, digQ, ← hS, show a.length - 1 - (a.length - (i + 1)) = i by omega]
   have hz : Q i = 0 := i5 i (by omega)
   by_cases hsk : a.getD i 0 = 0 ∧ R.length = 0
   ·rw [if_pos hsk] at hnx
    obtain ⟨k1, k2⟩ := hsk
    conv => whnf
    repeat' (first | refine WA_seq ?_ | refine WA_block ?_ | ((first | refine WA_region ttok ?_ | refine WA_draw ttok mixed ?_ | refine WA_cond ?_ | refine WA_skip ?_ | refine WA_exit ?_ | refine WA_ret ?_); conv => whnf) | (refine And.intro (fun h => ?_) (fun h => ?_) <;> (try simp only [brsA] at h) <;> conv => whnf) | (refine WR_fit ?_ ?_; (focus (first | exact wr_i64 (by omega) | exact wr_u64 (by omega) | exact wr_u8 (by omega) | exact wr_i32 (by omega) | exact wr_u32 (by omega))); conv => whnf) | ((first | refine WR_wrap ?_ | (refine And.intro (a := indepB _ _ = true) ?_ ?_; (focus kernel_rfl)) | refine And.intro rfl ?_ | (refine And.intro ?_ ?_; (focus (first | omega | decide | (dsimp only; omega) | (simp at *; omega))))); conv => whnf))
    all_goals first | contradiction | (exfalso; omega) | skip
    refine ⟨(i, R, Q), ⟨(by show i ≤ a.length; omega), hnx.symm⟩, (by show i < i + 1; omega), ?_⟩
    conv => whnf
    repeat (first | exact rfl | exact trivial | exact Or.inl (fun _ _ => rfl) | exact (fun _ => rfl) | exact (fun _ _ => rfl) | exact Or.inl (fun _ hi => absurd hi (Nat.not_lt_zero _)) | ((first | refine And.intro rfl ?_ | refine And.intro (Or.inl (fun _ _ => rfl)) ?_ | refine And.intro (fun _ => rfl) ?_ | refine And.intro (fun _ _ => rfl) ?_ | (refine And.intro ?_ ?_; rotate_left)); conv => whnf))
    all_goals first | omega | trace_state
   ·rw [if_neg hsk] at hnx
    have hbi := bitsQ_inv hb' hx (s := (R, Q)) i1 i3 hz
    have hbs : ∀ k, bitsQ B (a.getD i 0) i (R, Q) (k + 1) = stepQ B (a.getD i 0) i (15 - k) (bitsQ B (a.getD i 0) i (R, Q) k) := fun k => rfl
    by_cases hx0 : a.getD i 0 = 0
    ·conv => whnf
     repeat' (first | refine WA_seq ?_ | refine WA_block ?_ | ((first | refine WA_region ttok ?_ | refine WA_draw ttok mixed ?_ | refine WA_cond ?_ | refine WA_skip ?_ | refine WA_exit ?_ | refine WA_ret ?_); conv => whnf) | (refine And.intro (fun h => ?_) (fun h => ?_) <;> (try simp only [brsA] at h) <;> conv => whnf) | (refine WR_fit ?_ ?_; (focus (first | exact wr_i64 (by omega) | exact wr_u64 (by omega) | exact wr_u8 (by omega) | exact wr_i32 (by omega) | exact wr_u32 (by omega))); conv => whnf) | ((first | refine WR_wrap ?_ | (refine And.intro (a := indepB _ _ = true) ?_ ?_; (focus kernel_rfl)) | refine And.intro rfl ?_ | (refine And.intro ?_ ?_; (focus (first | omega | decide | (dsimp only; omega) | (simp at *; omega))))); conv => whnf))
     all_goals first | contradiction | (exfalso; omega) | skip
     refine WA_loopI (fun x : Nat × List Nat × (Nat → Nat) => x.1 ≤ 16 ∧ x.2 = bitsQ B (a.getD i 0) i (R, Q) (16 - x.1)) (fun x => match x with | (n, R', _) => [(9, .int .i64 ((n : Int) - 1)), (7, digA R'), (6, .own 0)]) (fun x => match x with | (_, _, Q') => [.row 28 1 a.length (fun j => [.int .u64 ((Q' j : Nat) : Int)])]) (fun x => x.1) (16, R, Q) ⟨Nat.le_refl _, rfl⟩ ?_ ?_
     ·conv => whnf
      repeat (first | exact rfl | exact trivial | exact Or.inl (fun _ _ => rfl) | exact (fun _ => rfl) | exact (fun _ _ => rfl) | exact Or.inl (fun _ hi => absurd hi (Nat.not_lt_zero _)) | ((first | refine And.intro rfl ?_ | refine And.intro (Or.inl (fun _ _ => rfl)) ?_ | refine And.intro (fun _ => rfl) ?_ | refine And.intro (fun _ _ => rfl) ?_ | (refine And.intro ?_ ?_; rotate_left)); conv => whnf))
     ·rintro ⟨n, R', Q'⟩ ⟨hn, hT⟩
      have hn : n ≤ 16 := hn
      have hT : (R', Q') = bitsQ B (a.getD i 0) i (R, Q) (16 - n) := hT
      have hJ := hbi (16 - n) (by omega)
      rw [← hT] at hJ
      obtain ⟨j1, j2, j3, j4, j5, _⟩ := hJ
      have j2 : R'.length ≤ R.length + 2 * (16 - n) := j2
      have j5 : Q' i + 2 ^ (16 - (16 - n)) ≤ 65536 := j5
      have j1 : DigP R' := j1
      have j3 : val R' < val B := j3
      rcases Nat.eq_zero_or_pos n with e | e
      ·subst e
       rw [Nat.sub_zero] at hT
       rw [← hT] at hnx
       conv => whnf
       repeat' (first | refine WA_seq ?_ | refine WA_block ?_ | ((first | refine WA_region ttok ?_ | refine WA_draw ttok mixed ?_ | refine WA_cond ?_ | refine WA_skip ?_ | refine WA_exit ?_ | refine WA_ret ?_); conv => whnf) | (refine And.intro (fun h => ?_) (fun h => ?_) <;> (try simp only [brsA] at h) <;> conv => whnf) | (refine WR_fit ?_ ?_; (focus (first | exact wr_i64 (by omega) | exact wr_u64 (by omega) | exact wr_u8 (by omega) | exact wr_i32 (by omega) | exact wr_u32 (by omega))); conv => whnf) | ((first | refine WR_wrap ?_ | (refine And.intro (a := indepB _ _ = true) ?_ ?_; (focus kernel_rfl)) | refine And.intro rfl ?_ | (refine And.intro ?_ ?_; (focus (first | omega | decide | (dsimp only; omega) | (simp at *; omega))))); conv => whnf))
       all_goals first | contradiction | (exfalso; omega) | skip
       refine ⟨(i, R', Q'), ⟨(by show i ≤ a.length; omega), hnx.symm⟩, (by show i < i + 1; omega), ?_⟩
       conv => whnf
       repeat (first | exact rfl | exact trivial | exact Or.inl (fun _ _ => rfl) | exact (fun _ => rfl) | exact (fun _ _ => rfl) | exact Or.inl (fun _ hi => absurd hi (Nat.not_lt_zero _)) | ((first | refine And.intro rfl ?_ | refine And.intro (Or.inl (fun _ _ => rfl)) ?_ | refine And.intro (fun _ => rfl) ?_ | refine And.intro (fun _ _ => rfl) ?_ | (refine And.intro ?_ ?_; rotate_left)); conv => whnf))
       all_goals first | omega | trace_state
      ·obtain ⟨p, rfl⟩ : ∃ p, n = p + 1 := ⟨n - 1, by omega⟩
       have q1 := hbs (16 - (p + 1))
       rw [← hT, show 16 - (p + 1) + 1 = 16 - p by omega, show 15 - (16 - (p + 1)) = p by omega, stepQ] at q1
       rw [show 16 - (16 - (p + 1)) = p + 1 by omega, Nat.pow_succ] at j5
       have c1 := plus_c (G := G) R' R' j1 j1 (by omega) (by omega)
       have l1 := plusL_le j1 j1
       have c2 := plus_c (G := G) (plusL R' R') [1] (plusL_ok _ _) one_ok (by omega) (by show 1 ≤ 1000000; omega)
       have oT := addB_ok (R := R') (x := a.getD i 0) (bit := p)
       have lT := addB_len j1 (a.getD i 0) p
       have hT2 : addB R' (a.getD i 0) p = if a.getD i 0 / 2 ^ p % 2 = 1 then plusL (plusL R' R') [1] else plusL R' R' := rfl
       have q1 : bitsQ B (a.getD i 0) i (R, Q) (16 - p) = if val (addB R' (a.getD i 0) p) < val B then (addB R' (a.getD i 0) p, Q') else (trimL (minusL (addB R' (a.getD i 0) p) B), updD Q' i (Q' i + 2 ^ p)) := q1
       have s1 := bit_of (a.getD i 0) p _ (min (((p + 1 : Nat) : Int) - 1).toNat IntKind.u64.bits) e2 (by have : IntKind.u64.bits = 64 := rfl; omega)
       have s3 := shl_of p (min (((p + 1 : Nat) : Int) - 1).toNat IntKind.u64.bits) (by have : IntKind.u64.bits = 64 := rfl; omega) (by omega)
       have s4 : IntKind.u64.wrap (((Q' i : Nat) : Int) + ((2 ^ p : Nat) : Int)) = ((Q' i + 2 ^ p : Nat) : Int) := wr_u64 (by omega)
       have s2 : (((p + 1 : Nat) : Int) - 1).toNat = p := by omega
       by_cases hbit : a.getD i 0 / 2 ^ p % 2 = 1
       ·rw [if_pos hbit] at hT2
        rw [hT2] at q1 oT lT
        generalize plusL (plusL R' R') [1] = T at *
        have c3 := less_c (G := G) T B oT hb' (by omega) (by omega)
        have c4 := minus_c (G := G) T B oT hb' (by omega)
        have c5 := trim_c (G := G) (minusL T B) (by rw [minusL_len]; omega)
        conv => whnf
        repeat' (first | refine WA_seq ?_ | refine WA_block ?_ | ((first | refine WA_region ttok ?_ | refine WA_draw ttok mixed ?_ | refine WA_cond ?_ | refine WA_skip ?_ | refine WA_exit ?_ | refine WA_ret ?_); conv => whnf) | (refine And.intro (fun h => ?_) (fun h => ?_) <;> (try simp only [brsA] at h) <;> conv => whnf) | (refine Or.inl ?_; (conv => whnf); refine ⟨_, c1, ?_⟩; conv => whnf) | (refine Or.inr (Or.inr (Or.inl ?_)); (conv => whnf); refine ⟨_, c1, ?_⟩; conv => whnf) | (refine Exists.intro _ (And.intro (c1) ?_); conv => whnf) | (refine Or.inr (Or.inr (Or.inl ?_)); (conv => whnf); refine ⟨_, c2.fit one_fit, ?_⟩; conv => whnf) | (refine Exists.intro _ (And.intro (c2.fit one_fit) ?_); conv => whnf) | (refine Or.inl ?_; (conv => whnf); refine ⟨_, c3, ?_⟩; conv => whnf) | (refine Or.inr (Or.inr (Or.inl ?_)); (conv => whnf); refine ⟨_, c3, ?_⟩; conv => whnf) | (refine Exists.intro _ (And.intro (c3) ?_); conv => whnf) | (refine Or.inl ?_; (conv => whnf); refine ⟨_, c4, ?_⟩; conv => whnf) | (refine Or.inr (Or.inr (Or.inl ?_)); (conv => whnf); refine ⟨_, c4, ?_⟩; conv => whnf) | (refine Exists.intro _ (And.intro (c4) ?_); conv => whnf) | (refine Or.inl ?_; (conv => whnf); refine ⟨_, c5, ?_⟩; conv => whnf) | (refine Or.inr (Or.inr (Or.inl ?_)); (conv => whnf); refine ⟨_, c5, ?_⟩; conv => whnf) | (refine Exists.intro _ (And.intro (c5) ?_); conv => whnf) | (refine WR_fit ?_ ?_; (focus (first | exact wr_i64 (by omega) | exact wr_u64 (by omega) | exact wr_u8 (by omega) | exact wr_i32 (by omega) | exact wr_u32 (by omega))); conv => whnf) | ((first | refine WR_wrap ?_ | (refine And.intro (a := indepB _ _ = true) ?_ ?_; (focus kernel_rfl)) | refine And.intro rfl ?_ | (refine And.intro ?_ ?_; (focus (first | omega | decide | (dsimp only; omega) | (simp at *; omega))))); conv => whnf))
        all_goals first | contradiction | (exfalso; omega) | skip
        ·rw [if_neg (by assumption)] at q1
         refine ⟨(p, trimL (minusL T B), updD Q' i (Q' i + 2 ^ p)), ⟨(by show p ≤ 16; omega), q1.symm⟩, (by show p < p + 1; omega), ?_⟩
         conv => whnf
         repeat (first | exact rfl | exact trivial | exact Or.inl (fun _ _ => rfl) | exact (fun _ => rfl) | exact (fun _ _ => rfl) | exact Or.inl (fun _ hi => absurd hi (Nat.not_lt_zero _)) | ((first | refine And.intro rfl ?_ | refine And.intro (Or.inl (fun _ _ => rfl)) ?_ | refine And.intro (fun _ => rfl) ?_ | refine And.intro (fun _ _ => rfl) ?_ | (refine And.intro ?_ ?_; rotate_left)); conv => whnf))
         all_goals first
          | omega
          | (refine Or.inl fun j hj => ?_
             show updRow _ _ _ j = [A.int .u64 ((updD Q' i (Q' i + 2 ^ p) j : Nat) : Int)]
             unfold updRow updD
             rw [s3, e1, s4]
             split <;> rfl)
          | trace_state
        ·rw [if_pos (by assumption)] at q1
         refine ⟨(p, T, Q'), ⟨(by show p ≤ 16; omega), q1.symm⟩, (by show p < p + 1; omega), ?_⟩
         conv => whnf
         repeat (first | exact rfl | exact trivial | exact Or.inl (fun _ _ => rfl) | exact (fun _ => rfl) | exact (fun _ _ => rfl) | exact Or.inl (fun _ hi => absurd hi (Nat.not_lt_zero _)) | ((first | refine And.intro rfl ?_ | refine And.intro (Or.inl (fun _ _ => rfl)) ?_ | refine And.intro (fun _ => rfl) ?_ | refine And.intro (fun _ _ => rfl) ?_ | (refine And.intro ?_ ?_; rotate_left)); conv => whnf))
         all_goals first | omega | trace_state
       ·rw [if_neg hbit] at hT2
        rw [hT2] at q1 oT lT
        generalize plusL R' R' = T at *
        have c3 := less_c (G := G) T B oT hb' (by omega) (by omega)
        have c4 := minus_c (G := G) T B oT hb' (by omega)
        have c5 := trim_c (G := G) (minusL T B) (by rw [minusL_len]; omega)
        conv => whnf
        repeat' (first | refine WA_seq ?_ | refine WA_block ?_ | ((first | refine WA_region ttok ?_ | refine WA_draw ttok mixed ?_ | refine WA_cond ?_ | refine WA_skip ?_ | refine WA_exit ?_ | refine WA_ret ?_); conv => whnf) | (refine And.intro (fun h => ?_) (fun h => ?_) <;> (try simp only [brsA] at h) <;> conv => whnf) | (refine Or.inl ?_; (conv => whnf); refine ⟨_, c1, ?_⟩; conv => whnf) | (refine Or.inr (Or.inr (Or.inl ?_)); (conv => whnf); refine ⟨_, c1, ?_⟩; conv => whnf) | (refine Exists.intro _ (And.intro (c1) ?_); conv => whnf) | (refine Or.inl ?_; (conv => whnf); refine ⟨_, c3, ?_⟩; conv => whnf) | (refine Or.inr (Or.inr (Or.inl ?_)); (conv => whnf); refine ⟨_, c3, ?_⟩; conv => whnf) | (refine Exists.intro _ (And.intro (c3) ?_); conv => whnf) | (refine Or.inl ?_; (conv => whnf); refine ⟨_, c4, ?_⟩; conv => whnf) | (refine Or.inr (Or.inr (Or.inl ?_)); (conv => whnf); refine ⟨_, c4, ?_⟩; conv => whnf) | (refine Exists.intro _ (And.intro (c4) ?_); conv => whnf) | (refine Or.inl ?_; (conv => whnf); refine ⟨_, c5, ?_⟩; conv => whnf) | (refine Or.inr (Or.inr (Or.inl ?_)); (conv => whnf); refine ⟨_, c5, ?_⟩; conv => whnf) | (refine Exists.intro _ (And.intro (c5) ?_); conv => whnf) | (refine WR_fit ?_ ?_; (focus (first | exact wr_i64 (by omega) | exact wr_u64 (by omega) | exact wr_u8 (by omega) | exact wr_i32 (by omega) | exact wr_u32 (by omega))); conv => whnf) | ((first | refine WR_wrap ?_ | (refine And.intro (a := indepB _ _ = true) ?_ ?_; (focus kernel_rfl)) | refine And.intro rfl ?_ | (refine And.intro ?_ ?_; (focus (first | omega | decide | (dsimp only; omega) | (simp at *; omega))))); conv => whnf))
        all_goals first | contradiction | (exfalso; omega) | skip
        ·rw [if_neg (by assumption)] at q1
         refine ⟨(p, trimL (minusL T B), updD Q' i (Q' i + 2 ^ p)), ⟨(by show p ≤ 16; omega), q1.symm⟩, (by show p < p + 1; omega), ?_⟩
         conv => whnf
         repeat (first | exact rfl | exact trivial | exact Or.inl (fun _ _ => rfl) | exact (fun _ => rfl) | exact (fun _ _ => rfl) | exact Or.inl (fun _ hi => absurd hi (Nat.not_lt_zero _)) | ((first | refine And.intro rfl ?_ | refine And.intro (Or.inl (fun _ _ => rfl)) ?_ | refine And.intro (fun _ => rfl) ?_ | refine And.intro (fun _ _ => rfl) ?_ | (refine And.intro ?_ ?_; rotate_left)); conv => whnf))
         all_goals first
          | omega
          | (refine Or.inl fun j hj => ?_
             show updRow _ _ _ j = [A.int .u64 ((updD Q' i (Q' i + 2 ^ p) j : Nat) : Int)]
             unfold updRow updD
             rw [s3, e1, s4]
             split <;> rfl)
          | trace_state
        ·rw [if_pos (by assumption)] at q1
         refine ⟨(p, T, Q'), ⟨(by show p ≤ 16; omega), q1.symm⟩, (by show p < p + 1; omega), ?_⟩
         conv => whnf
         repeat (first | exact rfl | exact trivial | exact Or.inl (fun _ _ => rfl) | exact (fun _ => rfl) | exact (fun _ _ => rfl) | exact Or.inl (fun _ hi => absurd hi (Nat.not_lt_zero _)) | ((first | refine And.intro rfl ?_ | refine And.intro (Or.inl (fun _ _ => rfl)) ?_ | refine And.intro (fun _ => rfl) ?_ | refine And.intro (fun _ _ => rfl) ?_ | (refine And.intro ?_ ?_; rotate_left)); conv => whnf))
         all_goals first | omega | trace_state
    ·conv => whnf
     repeat' (first | refine WA_seq ?_ | refine WA_block ?_ | ((first | refine WA_region ttok ?_ | refine WA_draw ttok mixed ?_ | refine WA_cond ?_ | refine WA_skip ?_ | refine WA_exit ?_ | refine WA_ret ?_); conv => whnf) | (refine And.intro (fun h => ?_) (fun h => ?_) <;> (try simp only [brsA] at h) <;> conv => whnf) | (refine WR_fit ?_ ?_; (focus (first | exact wr_i64 (by omega) | exact wr_u64 (by omega) | exact wr_u8 (by omega) | exact wr_i32 (by omega) | exact wr_u32 (by omega))); conv => whnf) | ((first | refine WR_wrap ?_ | (refine And.intro (a := indepB _ _ = true) ?_ ?_; (focus kernel_rfl)) | refine And.intro rfl ?_ | (refine And.intro ?_ ?_; (focus (first | omega | decide | (dsimp only; omega) | (simp at *; omega))))); conv => whnf))
     all_goals first | contradiction | (exfalso; omega) | skip
     refine WA_loopI (fun x : Nat × List Nat × (Nat → Nat) => x.1 ≤ 16 ∧ x.2 = bitsQ B (a.getD i 0) i (R, Q) (16 - x.1)) (fun x => match x with | (n, R', _) => [(9, .int .i64 ((n : Int) - 1)), (7, digA R'), (6, .own 0)]) (fun x => match x with | (_, _, Q') => [.row 28 1 a.length (fun j => [.int .u64 ((Q' j : Nat) : Int)])]) (fun x => x.1) (16, R, Q) ⟨Nat.le_refl _, rfl⟩ ?_ ?_
     ·conv => whnf
      repeat (first | exact rfl | exact trivial | exact Or.inl (fun _ _ => rfl) | exact (fun _ => rfl) | exact (fun _ _ => rfl) | exact Or.inl (fun _ hi => absurd hi (Nat.not_lt_zero _)) | ((first | refine And.intro rfl ?_ | refine And.intro (Or.inl (fun _ _ => rfl)) ?_ | refine And.intro (fun _ => rfl) ?_ | refine And.intro (fun _ _ => rfl) ?_ | (refine And.intro ?_ ?_; rotate_left)); conv => whnf))
     ·rintro ⟨n, R', Q'⟩ ⟨hn, hT⟩
      have hn : n ≤ 16 := hn
      have hT : (R', Q') = bitsQ B (a.getD i 0) i (R, Q) (16 - n) := hT
      have hJ := hbi (16 - n) (by omega)
      rw [← hT] at hJ
      obtain ⟨j1, j2, j3, j4, j5, _⟩ := hJ
      have j2 : R'.length ≤ R.length + 2 * (16 - n) := j2
      have j5 : Q' i + 2 ^ (16 - (16 - n)) ≤ 65536 := j5
      have j1 : DigP R' := j1
      have j3 : val R' < val B := j3
      rcases Nat.eq_zero_or_pos n with e | e
      ·subst e
       rw [Nat.sub_zero] at hT
       rw [← hT] at hnx
       conv => whnf
       repeat' (first | refine WA_seq ?_ | refine WA_block ?_ | ((first | refine WA_region ttok ?_ | refine WA_draw ttok mixed ?_ | refine WA_cond ?_ | refine WA_skip ?_ | refine WA_exit ?_ | refine WA_ret ?_); conv => whnf) | (refine And.intro (fun h => ?_) (fun h => ?_) <;> (try simp only [brsA] at h) <;> conv => whnf) | (refine WR_fit ?_ ?_; (focus (first | exact wr_i64 (by omega) | exact wr_u64 (by omega) | exact wr_u8 (by omega) | exact wr_i32 (by omega) | exact wr_u32 (by omega))); conv => whnf) | ((first | refine WR_wrap ?_ | (refine And.intro (a := indepB _ _ = true) ?_ ?_; (focus kernel_rfl)) | refine And.intro rfl ?_ | (refine And.intro ?_ ?_; (focus (first | omega | decide | (dsimp only; omega) | (simp at *; omega))))); conv => whnf))
       all_goals first | contradiction | (exfalso; omega) | skip
       refine ⟨(i, R', Q'), ⟨(by show i ≤ a.length; omega), hnx.symm⟩, (by show i < i + 1; omega), ?_⟩
       conv => whnf
       repeat (first | exact rfl | exact trivial | exact Or.inl (fun _ _ => rfl) | exact (fun _ => rfl) | exact (fun _ _ => rfl) | exact Or.inl (fun _ hi => absurd hi (Nat.not_lt_zero _)) | ((first | refine And.intro rfl ?_ | refine And.intro (Or.inl (fun _ _ => rfl)) ?_ | refine And.intro (fun _ => rfl) ?_ | refine And.intro (fun _ _ => rfl) ?_ | (refine And.intro ?_ ?_; rotate_left)); conv => whnf))
       all_goals first | omega | trace_state
      ·obtain ⟨p, rfl⟩ : ∃ p, n = p + 1 := ⟨n - 1, by omega⟩
       have q1 := hbs (16 - (p + 1))
       rw [← hT, show 16 - (p + 1) + 1 = 16 - p by omega, show 15 - (16 - (p + 1)) = p by omega, stepQ] at q1
       rw [show 16 - (16 - (p + 1)) = p + 1 by omega, Nat.pow_succ] at j5
       have c1 := plus_c (G := G) R' R' j1 j1 (by omega) (by omega)
       have l1 := plusL_le j1 j1
       have c2 := plus_c (G := G) (plusL R' R') [1] (plusL_ok _ _) one_ok (by omega) (by show 1 ≤ 1000000; omega)
       have oT := addB_ok (R := R') (x := a.getD i 0) (bit := p)
       have lT := addB_len j1 (a.getD i 0) p
       have hT2 : addB R' (a.getD i 0) p = if a.getD i 0 / 2 ^ p % 2 = 1 then plusL (plusL R' R') [1] else plusL R' R' := rfl
       have q1 : bitsQ B (a.getD i 0) i (R, Q) (16 - p) = if val (addB R' (a.getD i 0) p) < val B then (addB R' (a.getD i 0) p, Q') else (trimL (minusL (addB R' (a.getD i 0) p) B), updD Q' i (Q' i + 2 ^ p)) := q1
       have s1 := bit_of (a.getD i 0) p _ (min (((p + 1 : Nat) : Int) - 1).toNat IntKind.u64.bits) e2 (by have : IntKind.u64.bits = 64 := rfl; omega)
       have s3 := shl_of p (min (((p + 1 : Nat) : Int) - 1).toNat IntKind.u64.bits) (by have : IntKind.u64.bits = 64 := rfl; omega) (by omega)
       have s4 : IntKind.u64.wrap (((Q' i : Nat) : Int) + ((2 ^ p : Nat) : Int)) = ((Q' i + 2 ^ p : Nat) : Int) := wr_u64 (by omega)
       have s2 : (((p + 1 : Nat) : Int) - 1).toNat = p := by omega
       by_cases hbit : a.getD i 0 / 2 ^ p % 2 = 1
       ·rw [if_pos hbit] at hT2
        rw [hT2] at q1 oT lT
        generalize plusL (plusL R' R') [1] = T at *
        have c3 := less_c (G := G) T B oT hb' (by omega) (by omega)
        have c4 := minus_c (G := G) T B oT hb' (by omega)
        have c5 := trim_c (G := G) (minusL T B) (by rw [minusL_len]; omega)
        conv => whnf
        repeat' (first | refine WA_seq ?_ | refine WA_block ?_ | ((first | refine WA_region ttok ?_ | refine WA_draw ttok mixed ?_ | refine WA_cond ?_ | refine WA_skip ?_ | refine WA_exit ?_ | refine WA_ret ?_); conv => whnf) | (refine And.intro (fun h => ?_) (fun h => ?_) <;> (try simp only [brsA] at h) <;> conv => whnf) | (refine Or.inl ?_; (conv => whnf); refine ⟨_, c1, ?_⟩; conv => whnf) | (refine Or.inr (Or.inr (Or.inl ?_)); (conv => whnf); refine ⟨_, c1, ?_⟩; conv => whnf) | (refine Exists.intro _ (And.intro (c1) ?_); conv => whnf) | (refine Or.inr (Or.inr (Or.inl ?_)); (conv => whnf); refine ⟨_, c2.fit one_fit, ?_⟩; conv => whnf) | (refine Exists.intro _ (And.intro (c2.fit one_fit) ?_); conv => whnf) | (refine Or.inl ?_; (conv => whnf); refine ⟨_, c3, ?_⟩; conv => whnf) | (refine Or.inr (Or.inr (Or.inl ?_)); (conv => whnf); refine ⟨_, c3, ?_⟩; conv => whnf) | (refine Exists.intro _ (And.intro (c3) ?_); conv => whnf) | (refine Or.inl ?_; (conv => whnf); refine ⟨_, c4, ?_⟩; conv => whnf) | (refine Or.inr (Or.inr (Or.inl ?_)); (conv => whnf); refine ⟨_, c4, ?_⟩; conv => whnf) | (refine Exists.intro _ (And.intro (c4) ?_); conv => whnf) | (refine Or.inl ?_; (conv => whnf); refine ⟨_, c5, ?_⟩; conv => whnf) | (refine Or.inr (Or.inr (Or.inl ?_)); (conv => whnf); refine ⟨_, c5, ?_⟩; conv => whnf) | (refine Exists.intro _ (And.intro (c5) ?_); conv => whnf) | (refine WR_fit ?_ ?_; (focus (first | exact wr_i64 (by omega) | exact wr_u64 (by omega) | exact wr_u8 (by omega) | exact wr_i32 (by omega) | exact wr_u32 (by omega))); conv => whnf) | ((first | refine WR_wrap ?_ | (refine And.intro (a := indepB _ _ = true) ?_ ?_; (focus kernel_rfl)) | refine And.intro rfl ?_ | (refine And.intro ?_ ?_; (focus (first | omega | decide | (dsimp only; omega) | (simp at *; omega))))); conv => whnf))
        all_goals first | contradiction | (exfalso; omega) | skip
        ·rw [if_neg (by assumption)] at q1
         refine ⟨(p, trimL (minusL T B), updD Q' i (Q' i + 2 ^ p)), ⟨(by show p ≤ 16; omega), q1.symm⟩, (by show p < p + 1; omega), ?_⟩
         conv => whnf
         repeat (first | exact rfl | exact trivial | exact Or.inl (fun _ _ => rfl) | exact (fun _ => rfl) | exact (fun _ _ => rfl) | exact Or.inl (fun _ hi => absurd hi (Nat.not_lt_zero _)) | ((first | refine And.intro rfl ?_ | refine And.intro (Or.inl (fun _ _ => rfl)) ?_ | refine And.intro (fun _ => rfl) ?_ | refine And.intro (fun _ _ => rfl) ?_ | (refine And.intro ?_ ?_; rotate_left)); conv => whnf))
         all_goals first
          | omega
          | (refine Or.inl fun j hj => ?_
             show updRow _ _ _ j = [A.int .u64 ((updD Q' i (Q' i + 2 ^ p) j : Nat) : Int)]
             unfold updRow updD
             rw [s3, e1, s4]
             split <;> rfl)
          | trace_state
        ·rw [if_pos (by assumption)] at q1
         refine ⟨(p, T, Q'), ⟨(by show p ≤ 16; omega), q1.symm⟩, (by show p < p + 1; omega), ?_⟩
         conv => whnf
         repeat (first | exact rfl | exact trivial | exact Or.inl (fun _ _ => rfl) | exact (fun _ => rfl) | exact (fun _ _ => rfl) | exact Or.inl (fun _ hi => absurd hi (Nat.not_lt_zero _)) | ((first | refine And.intro rfl ?_ | refine And.intro (Or.inl (fun _ _ => rfl)) ?_ | refine And.intro (fun _ => rfl) ?_ | refine And.intro (fun _ _ => rfl) ?_ | (refine And.intro ?_ ?_; rotate_left)); conv => whnf))
         all_goals first | omega | trace_state
       ·rw [if_neg hbit] at hT2
        rw [hT2] at q1 oT lT
        generalize plusL R' R' = T at *
        have c3 := less_c (G := G) T B oT hb' (by omega) (by omega)
        have c4 := minus_c (G := G) T B oT hb' (by omega)
        have c5 := trim_c (G := G) (minusL T B) (by rw [minusL_len]; omega)
        conv => whnf
        repeat' (first | refine WA_seq ?_ | refine WA_block ?_ | ((first | refine WA_region ttok ?_ | refine WA_draw ttok mixed ?_ | refine WA_cond ?_ | refine WA_skip ?_ | refine WA_exit ?_ | refine WA_ret ?_); conv => whnf) | (refine And.intro (fun h => ?_) (fun h => ?_) <;> (try simp only [brsA] at h) <;> conv => whnf) | (refine Or.inl ?_; (conv => whnf); refine ⟨_, c1, ?_⟩; conv => whnf) | (refine Or.inr (Or.inr (Or.inl ?_)); (conv => whnf); refine ⟨_, c1, ?_⟩; conv => whnf) | (refine Exists.intro _ (And.intro (c1) ?_); conv => whnf) | (refine Or.inl ?_; (conv => whnf); refine ⟨_, c3, ?_⟩; conv => whnf) | (refine Or.inr (Or.inr (Or.inl ?_)); (conv => whnf); refine ⟨_, c3, ?_⟩; conv => whnf) | (refine Exists.intro _ (And.intro (c3) ?_); conv => whnf) | (refine Or.inl ?_; (conv => whnf); refine ⟨_, c4, ?_⟩; conv => whnf) | (refine Or.inr (Or.inr (Or.inl ?_)); (conv => whnf); refine ⟨_, c4, ?_⟩; conv => whnf) | (refine Exists.intro _ (And.intro (c4) ?_); conv => whnf) | (refine Or.inl ?_; (conv => whnf); refine ⟨_, c5, ?_⟩; conv => whnf) | (refine Or.inr (Or.inr (Or.inl ?_)); (conv => whnf); refine ⟨_, c5, ?_⟩; conv => whnf) | (refine Exists.intro _ (And.intro (c5) ?_); conv => whnf) | (refine WR_fit ?_ ?_; (focus (first | exact wr_i64 (by omega) | exact wr_u64 (by omega) | exact wr_u8 (by omega) | exact wr_i32 (by omega) | exact wr_u32 (by omega))); conv => whnf) | ((first | refine WR_wrap ?_ | (refine And.intro (a := indepB _ _ = true) ?_ ?_; (focus kernel_rfl)) | refine And.intro rfl ?_ | (refine And.intro ?_ ?_; (focus (first | omega | decide | (dsimp only; omega) | (simp at *; omega))))); conv => whnf))
        all_goals first | contradiction | (exfalso; omega) | skip
        ·rw [if_neg (by assumption)] at q1
         refine ⟨(p, trimL (minusL T B), updD Q' i (Q' i + 2 ^ p)), ⟨(by show p ≤ 16; omega), q1.symm⟩, (by show p < p + 1; omega), ?_⟩
         conv => whnf
         repeat (first | exact rfl | exact trivial | exact Or.inl (fun _ _ => rfl) | exact (fun _ => rfl) | exact (fun _ _ => rfl) | exact Or.inl (fun _ hi => absurd hi (Nat.not_lt_zero _)) | ((first | refine And.intro rfl ?_ | refine And.intro (Or.inl (fun _ _ => rfl)) ?_ | refine And.intro (fun _ => rfl) ?_ | refine And.intro (fun _ _ => rfl) ?_ | (refine And.intro ?_ ?_; rotate_left)); conv => whnf))
         all_goals first
          | omega
          | (refine Or.inl fun j hj => ?_
             show updRow _ _ _ j = [A.int .u64 ((updD Q' i (Q' i + 2 ^ p) j : Nat) : Int)]
             unfold updRow updD
             rw [s3, e1, s4]
             split <;> rfl)
          | trace_state
        ·rw [if_pos (by assumption)] at q1
         refine ⟨(p, T, Q'), ⟨(by show p ≤ 16; omega), q1.symm⟩, (by show p < p + 1; omega), ?_⟩
         conv => whnf
         repeat (first | exact rfl | exact trivial | exact Or.inl (fun _ _ => rfl) | exact (fun _ => rfl) | exact (fun _ _ => rfl) | exact Or.inl (fun _ hi => absurd hi (Nat.not_lt_zero _)) | ((first | refine And.intro rfl ?_ | refine And.intro (Or.inl (fun _ _ => rfl)) ?_ | refine And.intro (fun _ => rfl) ?_ | refine And.intro (fun _ _ => rfl) ?_ | (refine And.intro ?_ ?_; rotate_left)); conv => whnf))
         all_goals first | omega | trace_state
end Go.Proofs.YtcomiiakkhafpaaGreat
namespace Go.Proofs.YtcomiiakkhafpaaGreat
open Go.Proofs.YtcomiiakkhafpaaGreat.Am
variable [Inhabited DRT]
variable {G : GInv}
/-! ### Eight words -/
def wideA (w : Nat → Nat) : A := .agg [.int .u64 (w 0 : Nat), .int .u64 (w 1 : Nat), .int .u64 (w 2 : Nat), .int .u64 (w 3 : Nat), .int .u64 (w 4 : Nat), .int .u64 (w 5 : Nat), .int .u64 (w 6 : Nat), .int .u64 (w 7 : Nat)]
def dW (w : Nat → Nat) : List Nat := digW (w 0) ++ (digW (w 1) ++ (digW (w 2) ++ (digW (w 3) ++ (digW (w 4) ++ (digW (w 5) ++ (digW (w 6) ++ digW (w 7)))))))
theorem dW_len (w : Nat → Nat) : (dW w).length = 32 := rfl
def WordP (w : Nat → Nat) : Prop := ∀ i, w i < 18446744073709551616
theorem dW_ok {w : Nat → Nat} (h : WordP w) : DigP (dW w) := by
 intro x hx
 unfold dW at hx
 simp only [List.mem_append] at hx
 rcases hx with h' | h' | h' | h' | h' | h' | h' | h'
 all_goals exact digW_ok (h _) x h'
theorem rowCatK (L : List Nat) (n m : Nat) (r : Nat → List A) (hr : ∀ t, t < m → r t = [.int .u64 ((L.getD (n + t) 0 : Nat) : Int)]) (j : Nat) (hj : j < n + m) : rowCat n (fun j => [.int .u64 ((L.getD j 0 : Nat) : Int)]) r j = [A.int IntKind.u64 ((L.getD j 0 : Nat) : Int)] := by
 unfold rowCat
 split
 ·rfl
 ·rename_i q
  have q : ¬ j < n := fun h' => by rw [show Nat.blt j n = true from Nat.ble_eq_true_of_le h'] at q; cases q
  rw [hr _ (by omega), show n + (j - n) = j by omega]
set_option maxRecDepth 100000 in
set_option maxHeartbeats 1000000 in
theorem digits03_c (w : Nat → Nat) (hw : WordP w) : ACalls Tryz.prog G 91 [wideA w] (digA (dW w)) := by
 have hd := fun i => digits_c (G := G) (w i) (hw i)
 refine ACalls.of_WA ttok Tryz.func91 rfl rfl _ rfl ?_
 conv => whnf
 repeat (first | refine sq ?_ | refine bk ?_ | ((first | refine rg ttok ?_ | refine dw ttok mixed ?_ | refine cd ?_ | refine sk ?_ | refine xt ?_ | refine rt ?_); conv => whnf))
 refine WA_loopI (fun i : Nat => i ≤ 8) (fun i => [(4, .int .i64 (i : Int)), (3, .own 1), (5, .junk)]) (fun i => [.box 30 [.int .u64 (w 0 : Nat), .int .u64 (w 1 : Nat), .int .u64 (w 2 : Nat), .int .u64 (w 3 : Nat), .int .u64 (w 4 : Nat), .int .u64 (w 5 : Nat), .int .u64 (w 6 : Nat), .int .u64 (w 7 : Nat)], .row 28 1 (4 * i) (fun j => [.int .u64 (((dW w).getD j 0 : Nat) : Int)])]) (fun i => 8 - i) 0 (by omega) ?_ ?_
 ·conv => whnf
  repeat (first | exact fa | ((first | refine fb ?_ | (refine And.intro ?_ ?_; rotate_left)); conv => whnf))
  all_goals trace_state
 ·intro i hi
  have e : i = 0 ∨ i = 1 ∨ i = 2 ∨ i = 3 ∨ i = 4 ∨ i = 5 ∨ i = 6 ∨ i = 7 ∨ i = 8 := by omega
  rcases e with rfl | rfl | rfl | rfl | rfl | rfl | rfl | rfl | rfl
  ·have hd := hd 0
   have hl : (digW (w 0)).length = 4 := rfl
   conv => whnf
   repeat' (first | refine sq ?_ | refine bk ?_ | ((first | refine rg ttok ?_ | refine dw ttok mixed ?_ | refine cd ?_ | refine sk ?_ | refine xt ?_ | refine rt ?_); conv => whnf) | (refine And.intro (fun h => ?_) (fun h => ?_) <;> (try simp only [brsA] at h) <;> conv => whnf) | ((first | refine Or.inl ?_ | skip); (conv => whnf); refine ⟨_, hd, ?_⟩; conv => whnf) | ((first | refine wf ?_ | refine wp' ?_ | refine ai ?_ | refine And.intro rfl ?_ | refine an ?_); conv => whnf))
   all_goals first | contradiction | (exfalso; omega) | skip
   refine ⟨1, (by show 1 ≤ 8; omega), (by show 8 - 1 < 8 - 0; omega), ?_⟩
   conv => whnf
   repeat (first | exact fa | ((first | refine fb ?_ | (refine And.intro ?_ ?_; rotate_left)); conv => whnf))
   all_goals first
    | exact Or.inl (rowCatK (dW w) (4 * 0) 4 _ (fun t ht => by
      match t, ht with
      | 0, _ => rfl
      | 1, _ => rfl
      | 2, _ => rfl
      | 3, _ => rfl))
    | trace_state
  ·have hd := hd 1
   have hl : (digW (w 1)).length = 4 := rfl
   conv => whnf
   repeat' (first | refine sq ?_ | refine bk ?_ | ((first | refine rg ttok ?_ | refine dw ttok mixed ?_ | refine cd ?_ | refine sk ?_ | refine xt ?_ | refine rt ?_); conv => whnf) | (refine And.intro (fun h => ?_) (fun h => ?_) <;> (try simp only [brsA] at h) <;> conv => whnf) | ((first | refine Or.inl ?_ | skip); (conv => whnf); refine ⟨_, hd, ?_⟩; conv => whnf) | ((first | refine wf ?_ | refine wp' ?_ | refine ai ?_ | refine And.intro rfl ?_ | refine an ?_); conv => whnf))
   all_goals first | contradiction | (exfalso; omega) | skip
   refine ⟨2, (by show 2 ≤ 8; omega), (by show 8 - 2 < 8 - 1; omega), ?_⟩
   conv => whnf
   repeat (first | exact fa | ((first | refine fb ?_ | (refine And.intro ?_ ?_; rotate_left)); conv => whnf))
   all_goals first
    | exact Or.inl (rowCatK (dW w) (4 * 1) 4 _ (fun t ht => by
      match t, ht with
      | 0, _ => rfl
      | 1, _ => rfl
      | 2, _ => rfl
      | 3, _ => rfl))
    | trace_state
  ·have hd := hd 2
   have hl : (digW (w 2)).length = 4 := rfl
   conv => whnf
   repeat' (first | refine sq ?_ | refine bk ?_ | ((first | refine rg ttok ?_ | refine dw ttok mixed ?_ | refine cd ?_ | refine sk ?_ | refine xt ?_ | refine rt ?_); conv => whnf) | (refine And.intro (fun h => ?_) (fun h => ?_) <;> (try simp only [brsA] at h) <;> conv => whnf) | ((first | refine Or.inl ?_ | skip); (conv => whnf); refine ⟨_, hd, ?_⟩; conv => whnf) | ((first | refine wf ?_ | refine wp' ?_ | refine ai ?_ | refine And.intro rfl ?_ | refine an ?_); conv => whnf))
   all_goals first | contradiction | (exfalso; omega) | skip
   refine ⟨3, (by show 3 ≤ 8; omega), (by show 8 - 3 < 8 - 2; omega), ?_⟩
   conv => whnf
   repeat (first | exact fa | ((first | refine fb ?_ | (refine And.intro ?_ ?_; rotate_left)); conv => whnf))
   all_goals first
    | exact Or.inl (rowCatK (dW w) (4 * 2) 4 _ (fun t ht => by
      match t, ht with
      | 0, _ => rfl
      | 1, _ => rfl
      | 2, _ => rfl
      | 3, _ => rfl))
    | trace_state
  ·have hd := hd 3
   have hl : (digW (w 3)).length = 4 := rfl
   conv => whnf
   repeat' (first | refine sq ?_ | refine bk ?_ | ((first | refine rg ttok ?_ | refine dw ttok mixed ?_ | refine cd ?_ | refine sk ?_ | refine xt ?_ | refine rt ?_); conv => whnf) | (refine And.intro (fun h => ?_) (fun h => ?_) <;> (try simp only [brsA] at h) <;> conv => whnf) | ((first | refine Or.inl ?_ | skip); (conv => whnf); refine ⟨_, hd, ?_⟩; conv => whnf) | ((first | refine wf ?_ | refine wp' ?_ | refine ai ?_ | refine And.intro rfl ?_ | refine an ?_); conv => whnf))
   all_goals first | contradiction | (exfalso; omega) | skip
   refine ⟨4, (by show 4 ≤ 8; omega), (by show 8 - 4 < 8 - 3; omega), ?_⟩
   conv => whnf
   repeat (first | exact fa | ((first | refine fb ?_ | (refine And.intro ?_ ?_; rotate_left)); conv => whnf))
   all_goals first
    | exact Or.inl (rowCatK (dW w) (4 * 3) 4 _ (fun t ht => by
      match t, ht with
      | 0, _ => rfl
      | 1, _ => rfl
      | 2, _ => rfl
      | 3, _ => rfl))
    | trace_state
  ·have hd := hd 4
   have hl : (digW (w 4)).length = 4 := rfl
   conv => whnf
   repeat' (first | refine sq ?_ | refine bk ?_ | ((first | refine rg ttok ?_ | refine dw ttok mixed ?_ | refine cd ?_ | refine sk ?_ | refine xt ?_ | refine rt ?_); conv => whnf) | (refine And.intro (fun h => ?_) (fun h => ?_) <;> (try simp only [brsA] at h) <;> conv => whnf) | ((first | refine Or.inl ?_ | skip); (conv => whnf); refine ⟨_, hd, ?_⟩; conv => whnf) | ((first | refine wf ?_ | refine wp' ?_ | refine ai ?_ | refine And.intro rfl ?_ | refine an ?_); conv => whnf))
   all_goals first | contradiction | (exfalso; omega) | skip
   refine ⟨5, (by show 5 ≤ 8; omega), (by show 8 - 5 < 8 - 4; omega), ?_⟩
   conv => whnf
   repeat (first | exact fa | ((first | refine fb ?_ | (refine And.intro ?_ ?_; rotate_left)); conv => whnf))
   all_goals first
    | exact Or.inl (rowCatK (dW w) (4 * 4) 4 _ (fun t ht => by
      match t, ht with
      | 0, _ => rfl
      | 1, _ => rfl
      | 2, _ => rfl
      | 3, _ => rfl))
    | trace_state
  ·have hd := hd 5
   have hl : (digW (w 5)).length = 4 := rfl
   conv => whnf
   repeat' (first | refine sq ?_ | refine bk ?_ | ((first | refine rg ttok ?_ | refine dw ttok mixed ?_ | refine cd ?_ | refine sk ?_ | refine xt ?_ | refine rt ?_); conv => whnf) | (refine And.intro (fun h => ?_) (fun h => ?_) <;> (try simp only [brsA] at h) <;> conv => whnf) | ((first | refine Or.inl ?_ | skip); (conv => whnf); refine ⟨_, hd, ?_⟩; conv => whnf) | ((first | refine wf ?_ | refine wp' ?_ | refine ai ?_ | refine And.intro rfl ?_ | refine an ?_); conv => whnf))
   all_goals first | contradiction | (exfalso; omega) | skip
   refine ⟨6, (by show 6 ≤ 8; omega), (by show 8 - 6 < 8 - 5; omega), ?_⟩
   conv => whnf
   repeat (first | exact fa | ((first | refine fb ?_ | (refine And.intro ?_ ?_; rotate_left)); conv => whnf))
   all_goals first
    | exact Or.inl (rowCatK (dW w) (4 * 5) 4 _ (fun t ht => by
      match t, ht with
      | 0, _ => rfl
      | 1, _ => rfl
      | 2, _ => rfl
      | 3, _ => rfl))
    | trace_state
  ·have hd := hd 6
   have hl : (digW (w 6)).length = 4 := rfl
   conv => whnf
   repeat' (first | refine sq ?_ | refine bk ?_ | ((first | refine rg ttok ?_ | refine dw ttok mixed ?_ | refine cd ?_ | refine sk ?_ | refine xt ?_ | refine rt ?_); conv => whnf) | (refine And.intro (fun h => ?_) (fun h => ?_) <;> (try simp only [brsA] at h) <;> conv => whnf) | ((first | refine Or.inl ?_ | skip); (conv => whnf); refine ⟨_, hd, ?_⟩; conv => whnf) | ((first | refine wf ?_ | refine wp' ?_ | refine ai ?_ | refine And.intro rfl ?_ | refine an ?_); conv => whnf))
   all_goals first | contradiction | (exfalso; omega) | skip
   refine ⟨7, (by show 7 ≤ 8; omega), (by show 8 - 7 < 8 - 6; omega), ?_⟩
   conv => whnf
   repeat (first | exact fa | ((first | refine fb ?_ | (refine And.intro ?_ ?_; rotate_left)); conv => whnf))
   all_goals first
    | exact Or.inl (rowCatK (dW w) (4 * 6) 4 _ (fun t ht => by
      match t, ht with
      | 0, _ => rfl
      | 1, _ => rfl
      | 2, _ => rfl
      | 3, _ => rfl))
    | trace_state
  ·have hd := hd 7
   have hl : (digW (w 7)).length = 4 := rfl
   conv => whnf
   repeat' (first | refine sq ?_ | refine bk ?_ | ((first | refine rg ttok ?_ | refine dw ttok mixed ?_ | refine cd ?_ | refine sk ?_ | refine xt ?_ | refine rt ?_); conv => whnf) | (refine And.intro (fun h => ?_) (fun h => ?_) <;> (try simp only [brsA] at h) <;> conv => whnf) | ((first | refine Or.inl ?_ | skip); (conv => whnf); refine ⟨_, hd, ?_⟩; conv => whnf) | ((first | refine wf ?_ | refine wp' ?_ | refine ai ?_ | refine And.intro rfl ?_ | refine an ?_); conv => whnf))
   all_goals first | contradiction | (exfalso; omega) | skip
   refine ⟨8, (by show 8 ≤ 8; omega), (by show 8 - 8 < 8 - 7; omega), ?_⟩
   conv => whnf
   repeat (first | exact fa | ((first | refine fb ?_ | (refine And.intro ?_ ?_; rotate_left)); conv => whnf))
   all_goals first
    | exact Or.inl (rowCatK (dW w) (4 * 7) 4 _ (fun t ht => by
      match t, ht with
      | 0, _ => rfl
      | 1, _ => rfl
      | 2, _ => rfl
      | 3, _ => rfl))
    | trace_state
  ·conv => whnf
   repeat' (first | refine sq ?_ | refine bk ?_ | ((first | refine rg ttok ?_ | refine dw ttok mixed ?_ | refine cd ?_ | refine sk ?_ | refine xt ?_ | refine rt ?_); conv => whnf) | (refine And.intro (fun h => ?_) (fun h => ?_) <;> (try simp only [brsA] at h) <;> conv => whnf) | ((first | refine wf ?_ | refine wp' ?_ | refine ai ?_ | refine And.intro rfl ?_ | refine an ?_); conv => whnf))
   all_goals first | contradiction | (exfalso; omega) | skip
   all_goals first | exact Or.inl fun _ _ => rfl | trace_state
end Go.Proofs.YtcomiiakkhafpaaGreat
namespace Go.Proofs.YtcomiiakkhafpaaGreat
open Go.Proofs.YtcomiiakkhafpaaGreat.Am
variable [Inhabited DRT]
variable {G : GInv}
def cW (d : List Nat) (i j : Nat) : Nat := if j < i then wordL d (4 * j) else 0
def ZP (d : List Nat) (i : Nat) : Prop := ∀ j, j < i → 32 ≤ j → d.getD j 0 = 0
instance (d : List Nat) (i : Nat) : Decidable (ZP d i) := inferInstanceAs (Decidable (∀ j, j < i → 32 ≤ j → d.getD j 0 = 0))
def boxW (d : List Nat) (i : Nat) : Blk := .box 30 [.int .u64 (cW d i 0 : Nat), .int .u64 (cW d i 1 : Nat), .int .u64 (cW d i 2 : Nat), .int .u64 (cW d i 3 : Nat), .int .u64 (cW d i 4 : Nat), .int .u64 (cW d i 5 : Nat), .int .u64 (cW d i 6 : Nat), .int .u64 (cW d i 7 : Nat)]
def box0 : Blk := .box 30 [.int .u64 0, .int .u64 0, .int .u64 0, .int .u64 0, .int .u64 0, .int .u64 0, .int .u64 0, .int .u64 0]
set_option maxRecDepth 100000 in
set_option maxHeartbeats 1000000 in
theorem wide03_c (d : List Nat) (hd : DigP d) (ld : d.length ≤ 1000000) : ACalls Tryz.prog G 134 [digA d] (.tup [wideA (fun j => wordL d (4 * j)), .sb (decide (ZP d d.length))]) := by
 have hw := fun p => word_c (G := G) d hd p
 refine ACalls.of_WA ttok Tryz.func134 rfl rfl _ rfl ?_
 conv => whnf
 repeat (first | refine sq ?_ | refine bk ?_ | ((first | refine rg ttok ?_ | refine dw ttok mixed ?_ | refine cd ?_ | refine sk ?_ | refine xt ?_ | refine rt ?_); conv => whnf))
 refine WA_loopI (fun i : Nat => i ≤ 8) (fun i => [(5, .int .i64 (i : Int))]) (fun i => [box0, boxW d i]) (fun i => 8 - i) 0 (by omega) ?_ ?_
 ·conv => whnf
  repeat (first | exact fa | ((first | refine fb ?_ | (refine And.intro ?_ ?_; rotate_left)); conv => whnf))
  all_goals trace_state
 ·intro i hi
  have e : i = 0 ∨ i = 1 ∨ i = 2 ∨ i = 3 ∨ i = 4 ∨ i = 5 ∨ i = 6 ∨ i = 7 ∨ i = 8 := by omega
  rcases e with rfl | rfl | rfl | rfl | rfl | rfl | rfl | rfl | rfl
  ·have hw := hw 0 (by omega) ld
   conv => whnf
   repeat' (first | refine sq ?_ | refine bk ?_ | ((first | refine rg ttok ?_ | refine dw ttok mixed ?_ | refine cd ?_ | refine sk ?_ | refine xt ?_ | refine rt ?_); conv => whnf) | (refine And.intro (fun h => ?_) (fun h => ?_) <;> (try simp only [brsA] at h) <;> conv => whnf) | ((first | refine Or.inl ?_ | skip); (conv => whnf); refine ⟨_, hw, ?_⟩; conv => whnf) | ((first | refine wf ?_ | refine wp' ?_ | refine ai ?_ | refine And.intro rfl ?_ | refine an ?_); conv => whnf))
   all_goals first | contradiction | (exfalso; omega) | skip
   refine ⟨1, (by show 1 ≤ 8; omega), (by show 8 - 1 < 8 - 0; omega), ?_⟩
   conv => whnf
   repeat (first | exact fa | ((first | refine fb ?_ | (refine And.intro ?_ ?_; rotate_left)); conv => whnf))
   all_goals trace_state
  ·have hw := hw 4 (by omega) ld
   conv => whnf
   repeat' (first | refine sq ?_ | refine bk ?_ | ((first | refine rg ttok ?_ | refine dw ttok mixed ?_ | refine cd ?_ | refine sk ?_ | refine xt ?_ | refine rt ?_); conv => whnf) | (refine And.intro (fun h => ?_) (fun h => ?_) <;> (try simp only [brsA] at h) <;> conv => whnf) | ((first | refine Or.inl ?_ | skip); (conv => whnf); refine ⟨_, hw, ?_⟩; conv => whnf) | ((first | refine wf ?_ | refine wp' ?_ | refine ai ?_ | refine And.intro rfl ?_ | refine an ?_); conv => whnf))
   all_goals first | contradiction | (exfalso; omega) | skip
   refine ⟨2, (by show 2 ≤ 8; omega), (by show 8 - 2 < 8 - 1; omega), ?_⟩
   conv => whnf
   repeat (first | exact fa | ((first | refine fb ?_ | (refine And.intro ?_ ?_; rotate_left)); conv => whnf))
   all_goals trace_state
  ·have hw := hw 8 (by omega) ld
   conv => whnf
   repeat' (first | refine sq ?_ | refine bk ?_ | ((first | refine rg ttok ?_ | refine dw ttok mixed ?_ | refine cd ?_ | refine sk ?_ | refine xt ?_ | refine rt ?_); conv => whnf) | (refine And.intro (fun h => ?_) (fun h => ?_) <;> (try simp only [brsA] at h) <;> conv => whnf) | ((first | refine Or.inl ?_ | skip); (conv => whnf); refine ⟨_, hw, ?_⟩; conv => whnf) | ((first | refine wf ?_ | refine wp' ?_ | refine ai ?_ | refine And.intro rfl ?_ | refine an ?_); conv => whnf))
   all_goals first | contradiction | (exfalso; omega) | skip
   refine ⟨3, (by show 3 ≤ 8; omega), (by show 8 - 3 < 8 - 2; omega), ?_⟩
   conv => whnf
   repeat (first | exact fa | ((first | refine fb ?_ | (refine And.intro ?_ ?_; rotate_left)); conv => whnf))
   all_goals trace_state
  ·have hw := hw 12 (by omega) ld
   conv => whnf
   repeat' (first | refine sq ?_ | refine bk ?_ | ((first | refine rg ttok ?_ | refine dw ttok mixed ?_ | refine cd ?_ | refine sk ?_ | refine xt ?_ | refine rt ?_); conv => whnf) | (refine And.intro (fun h => ?_) (fun h => ?_) <;> (try simp only [brsA] at h) <;> conv => whnf) | ((first | refine Or.inl ?_ | skip); (conv => whnf); refine ⟨_, hw, ?_⟩; conv => whnf) | ((first | refine wf ?_ | refine wp' ?_ | refine ai ?_ | refine And.intro rfl ?_ | refine an ?_); conv => whnf))
   all_goals first | contradiction | (exfalso; omega) | skip
   refine ⟨4, (by show 4 ≤ 8; omega), (by show 8 - 4 < 8 - 3; omega), ?_⟩
   conv => whnf
   repeat (first | exact fa | ((first | refine fb ?_ | (refine And.intro ?_ ?_; rotate_left)); conv => whnf))
   all_goals trace_state
  ·have hw := hw 16 (by omega) ld
   conv => whnf
   repeat' (first | refine sq ?_ | refine bk ?_ | ((first | refine rg ttok ?_ | refine dw ttok mixed ?_ | refine cd ?_ | refine sk ?_ | refine xt ?_ | refine rt ?_); conv => whnf) | (refine And.intro (fun h => ?_) (fun h => ?_) <;> (try simp only [brsA] at h) <;> conv => whnf) | ((first | refine Or.inl ?_ | skip); (conv => whnf); refine ⟨_, hw, ?_⟩; conv => whnf) | ((first | refine wf ?_ | refine wp' ?_ | refine ai ?_ | refine And.intro rfl ?_ | refine an ?_); conv => whnf))
   all_goals first | contradiction | (exfalso; omega) | skip
   refine ⟨5, (by show 5 ≤ 8; omega), (by show 8 - 5 < 8 - 4; omega), ?_⟩
   conv => whnf
   repeat (first | exact fa | ((first | refine fb ?_ | (refine And.intro ?_ ?_; rotate_left)); conv => whnf))
   all_goals trace_state
  ·have hw := hw 20 (by omega) ld
   conv => whnf
   repeat' (first | refine sq ?_ | refine bk ?_ | ((first | refine rg ttok ?_ | refine dw ttok mixed ?_ | refine cd ?_ | refine sk ?_ | refine xt ?_ | refine rt ?_); conv => whnf) | (refine And.intro (fun h => ?_) (fun h => ?_) <;> (try simp only [brsA] at h) <;> conv => whnf) | ((first | refine Or.inl ?_ | skip); (conv => whnf); refine ⟨_, hw, ?_⟩; conv => whnf) | ((first | refine wf ?_ | refine wp' ?_ | refine ai ?_ | refine And.intro rfl ?_ | refine an ?_); conv => whnf))
   all_goals first | contradiction | (exfalso; omega) | skip
   refine ⟨6, (by show 6 ≤ 8; omega), (by show 8 - 6 < 8 - 5; omega), ?_⟩
   conv => whnf
   repeat (first | exact fa | ((first | refine fb ?_ | (refine And.intro ?_ ?_; rotate_left)); conv => whnf))
   all_goals trace_state
  ·have hw := hw 24 (by omega) ld
   conv => whnf
   repeat' (first | refine sq ?_ | refine bk ?_ | ((first | refine rg ttok ?_ | refine dw ttok mixed ?_ | refine cd ?_ | refine sk ?_ | refine xt ?_ | refine rt ?_); conv => whnf) | (refine And.intro (fun h => ?_) (fun h => ?_) <;> (try simp only [brsA] at h) <;> conv => whnf) | ((first | refine Or.inl ?_ | skip); (conv => whnf); refine ⟨_, hw, ?_⟩; conv => whnf) | ((first | refine wf ?_ | refine wp' ?_ | refine ai ?_ | refine And.intro rfl ?_ | refine an ?_); conv => whnf))
   all_goals first | contradiction | (exfalso; omega) | skip
   refine ⟨7, (by show 7 ≤ 8; omega), (by show 8 - 7 < 8 - 6; omega), ?_⟩
   conv => whnf
   repeat (first | exact fa | ((first | refine fb ?_ | (refine And.intro ?_ ?_; rotate_left)); conv => whnf))
   all_goals trace_state
  ·have hw := hw 28 (by omega) ld
   conv => whnf
   repeat' (first | refine sq ?_ | refine bk ?_ | ((first | refine rg ttok ?_ | refine dw ttok mixed ?_ | refine cd ?_ | refine sk ?_ | refine xt ?_ | refine rt ?_); conv => whnf) | (refine And.intro (fun h => ?_) (fun h => ?_) <;> (try simp only [brsA] at h) <;> conv => whnf) | ((first | refine Or.inl ?_ | skip); (conv => whnf); refine ⟨_, hw, ?_⟩; conv => whnf) | ((first | refine wf ?_ | refine wp' ?_ | refine ai ?_ | refine And.intro rfl ?_ | refine an ?_); conv => whnf))
   all_goals first | contradiction | (exfalso; omega) | skip
   refine ⟨8, (by show 8 ≤ 8; omega), (by show 8 - 8 < 8 - 7; omega), ?_⟩
   conv => whnf
   repeat (first | exact fa | ((first | refine fb ?_ | (refine And.intro ?_ ?_; rotate_left)); conv => whnf))
   all_goals trace_state
  ·conv => whnf
   repeat' (first | refine sq ?_ | refine bk ?_ | ((first | refine rg ttok ?_ | refine dw ttok mixed ?_ | refine cd ?_ | refine sk ?_ | refine xt ?_ | refine rt ?_); conv => whnf) | (refine And.intro (fun h => ?_) (fun h => ?_) <;> (try simp only [brsA] at h) <;> conv => whnf) | ((first | refine wf ?_ | refine wp' ?_ | refine ai ?_ | refine And.intro rfl ?_ | refine an ?_); conv => whnf))
   all_goals first | contradiction | (exfalso; omega) | skip
   refine WA_loopI (fun i : Nat => 32 ≤ i ∧ (i ≤ d.length ∨ i = 32)) (fun i => [(7, .int .i64 (i : Int)), (6, .sb (decide (ZP d i)))]) (fun _ => [box0, boxW d 8]) (fun i => d.length - i) 32 ⟨by omega, .inr rfl⟩ ?_ ?_
   ·conv => whnf
    repeat (first | exact fa | ((first | refine fb ?_ | (refine And.intro ?_ ?_; rotate_left)); conv => whnf))
    all_goals first | (exact (decide_eq_true (fun j h1 h2 => by omega)).symm) | trace_state
   ·rintro i ⟨h32, hi⟩
    have e1 : d.getD (i : Int).toNat 0 = d.getD i 0 := rfl
    have hz : ZP d (i + 1) ↔ ZP d i ∧ d.getD i 0 = 0 := ⟨fun h => ⟨fun j h1 h2 => h j (by omega) h2, h i (by omega) h32⟩, fun ⟨h1, h2⟩ j h3 h4 => by
     rcases Nat.eq_or_lt_of_le (Nat.le_of_lt_succ h3) with e | e
     ·rw [e]; exact h2
     ·exact h1 j e h4⟩
    rcases Nat.lt_or_ge i d.length with q | q
    ·conv => whnf
     repeat' (first | refine sq ?_ | refine bk ?_ | ((first | refine rg ttok ?_ | refine dw ttok mixed ?_ | refine cd ?_ | refine sk ?_ | refine xt ?_ | refine rt ?_); conv => whnf) | (refine And.intro (fun h => ?_) (fun h => ?_) <;> (try simp only [brsA] at h) <;> conv => whnf) | ((first | refine wf ?_ | refine wp' ?_ | refine ai ?_ | refine And.intro rfl ?_ | refine an ?_); conv => whnf))
     all_goals first | contradiction | (exfalso; omega) | skip
     all_goals
      refine ⟨i + 1, ⟨(by show 32 ≤ i + 1; omega), .inl (by show i + 1 ≤ d.length; omega)⟩, (by show d.length - (i + 1) < d.length - i; omega), ?_⟩
      conv => whnf
      repeat (first | exact fa | ((first | refine fb ?_ | (refine And.intro ?_ ?_; rotate_left)); conv => whnf))
      all_goals first
       | exact (decide_eq_false (fun q => ‹¬ZP d i› (hz.1 q).1)).symm
       | (rw [Bool.eq_iff_iff]
          simp only [beq_iff_eq, decide_eq_true_eq]
          rw [hz]
          exact ⟨fun h => ⟨‹ZP d i›, by omega⟩, fun h => by have := h.2; omega⟩)
       | trace_state
    ·have hze : ZP d i ↔ ZP d d.length := ⟨fun h j h1 h2 => h j (by omega) h2, fun h j h1 h2 => by
      rcases Nat.lt_or_ge j d.length with r | r
      ·exact h j r h2
      ·exact getD_past r⟩
     conv => whnf
     repeat' (first | refine sq ?_ | refine bk ?_ | ((first | refine rg ttok ?_ | refine dw ttok mixed ?_ | refine cd ?_ | refine sk ?_ | refine xt ?_ | refine rt ?_); conv => whnf) | (refine And.intro (fun h => ?_) (fun h => ?_) <;> (try simp only [brsA] at h) <;> conv => whnf) | ((first | refine wf ?_ | refine wp' ?_ | refine ai ?_ | refine And.intro rfl ?_ | refine an ?_); conv => whnf))
     all_goals first | contradiction | (exfalso; omega) | skip
     all_goals first | exact decide_eq_decide.2 hze | trace_state
/-! ### Values of eight words -/
theorem vf_add (f : Nat → Nat) (n m : Nat) : vf f (n + m) = vf f n + vf (fun i => f (n + i)) m * 65536 ^ n := by
 induction m with
 | zero => show vf f n = _; rw [vf, Nat.zero_mul, Nat.add_zero]
 | succ m ih =>
  show vf f (n + m + 1) = _
  rw [vf, vf, ih, Nat.add_mul, Nat.pow_add, Nat.mul_assoc, Nat.mul_comm (65536 ^ m), Nat.add_assoc]
theorem ZP_val {d : List Nat} (hd : DigP d) : ZP d d.length ↔ val d < 65536 ^ 32 := by
 constructor
 ·intro h
  rw [val_ext d (d.length + 32) (by omega), vf_ext (n := 32) (d.length + 32) (fun i h1 h2 => by
   rcases Nat.lt_or_ge i d.length with r | r
   ·exact h i r h1
   ·exact getD_past r) (by omega)]
  exact vf_lt fun i _ => hd.get i
 ·intro h j h1 h2
  rw [val_ext d (d.length + 32) (by omega)] at h
  have e := vf_small (f := fun i => d.getD i 0) 32 (d.length + 32) (by omega) h
  rw [show d.length + 32 = 32 + d.length by omega, vf_add] at e
  have e0 : vf (fun i => d.getD (32 + i) 0) d.length = 0 := by
   rcases Nat.eq_zero_or_pos (vf (fun i => d.getD (32 + i) 0) d.length) with z | z
   ·exact z
   ·have := Nat.mul_le_mul_right (65536 ^ 32) z
    omega
  have key : ∀ (f : Nat → Nat) n, vf f n = 0 → ∀ i, i < n → f i = 0 := by
   intro f n
   induction n with
   | zero => intro _ i hi; omega
   | succ n ih =>
    intro h i hi
    rw [vf] at h
    have hp : 0 < 65536 ^ n := Nat.pow_pos (by omega)
    have h0 : f n * 65536 ^ n = 0 := by omega
    rcases Nat.eq_or_lt_of_le (Nat.le_of_lt_succ hi) with e | e
    ·rw [e]; rcases Nat.mul_eq_zero.1 h0 with z | z
     ·exact z
     ·omega
    ·exact ih (by omega) i e
  have := key _ _ e0 (j - 32) (by omega)
  rw [show 32 + (j - 32) = j by omega] at this
  exact this
end Go.Proofs.YtcomiiakkhafpaaGreat
namespace Go.Proofs.YtcomiiakkhafpaaGreat
open Go.Proofs.YtcomiiakkhafpaaGreat.Am
variable [Inhabited DRT]
variable {G : GInv}
def wv (w : Nat → Nat) : Nat := val (dW w)
theorem digW_word {d : List Nat} (h : DigP d) (p : Nat) : digW (wordL d p) = [d.getD p 0, d.getD (p + 1) 0, d.getD (p + 2) 0, d.getD (p + 3) 0] := by
 have e : wordL d p = ((d.getD (p + 3) 0 * 65536 + d.getD (p + 2) 0) * 65536 + d.getD (p + 1) 0) * 65536 + d.getD p 0 := by
  show (((0 * 65536 + d.getD (p + 3 - 0) 0) * 65536 + d.getD (p + 3 - 1) 0) * 65536 + d.getD (p + 3 - 2) 0) * 65536 + d.getD (p + 3 - 3) 0 = _
  rw [show p + 3 - 0 = p + 3 by omega, show p + 3 - 1 = p + 2 by omega, show p + 3 - 2 = p + 1 by omega, show p + 3 - 3 = p by omega, Nat.zero_mul, Nat.zero_add]
 have h0 := h.get p
 have h1 := h.get (p + 1)
 have h2 := h.get (p + 2)
 have h3 := h.get (p + 3)
 unfold digW
 rw [e]
 generalize d.getD p 0 = x0 at *
 generalize d.getD (p + 1) 0 = x1 at *
 generalize d.getD (p + 2) 0 = x2 at *
 generalize d.getD (p + 3) 0 = x3 at *
 congr 1
 ·omega
 ·congr 1
  ·omega
  ·congr 1
   ·omega
   ·congr 1
    omega
/-- The words of digits, taken apart again. -/
theorem wv_word {d : List Nat} (h : DigP d) (hv : val d < 65536 ^ 32) : wv (fun j => wordL d (4 * j)) = val d := by
 have e : dW (fun j => wordL d (4 * j)) = (List.range 32).map fun i => d.getD i 0 := by
  unfold dW
  simp only [digW_word h]
  rfl
 have h1 : val d = vf (fun i => d.getD i 0) 32 := by
  rw [val_ext d (32 + d.length) (by omega)]
  rw [val_ext d (32 + d.length) (by omega)] at hv
  exact vf_small 32 _ (by omega) hv
 rw [wv, e, h1, val]
 have hl : ((List.range 32).map fun i => d.getD i 0).length = 32 := by simp
 rw [hl]
 refine vf_congr fun i hi => ?_
 rw [List.getD_eq_getElem?_getD, List.getElem?_map, List.getElem?_range hi]; rfl
theorem word_ok {d : List Nat} (h : DigP d) : WordP (fun j => wordL d (4 * j)) := fun _ => wordL_lt h _
def qW (a b : Nat → Nat) : Nat → Nat := fun j => wordL (quotL (dW a) (trimL (dW b))) (4 * j)
def rW (a b : Nat → Nat) : Nat → Nat := fun j => wordL (restL (dW a) (trimL (dW b))) (4 * j)
theorem over04_law {a b : Nat → Nat} (ha : WordP a) (hb : WordP b) (h0 : 0 < wv b) : WordP (qW a b) ∧ WordP (rW a b) ∧ wv (qW a b) = wv a / wv b ∧ wv (rW a b) = wv a % wv b := by
 have da := dW_ok ha
 have db := trimL_ok (dW_ok hb)
 have hv : val (trimL (dW b)) = wv b := trimL_val _
 obtain ⟨h1, h2, _, h4, h5⟩ := over_law da db (by rw [hv]; exact h0)
 have hlt : wv a < 65536 ^ 32 := da.lt
 rw [hv] at h4 h5
 have h4 : val (quotL (dW a) (trimL (dW b))) = wv a / wv b := h4
 have h5 : val (restL (dW a) (trimL (dW b))) = wv a % wv b := h5
 have hq : wv a / wv b ≤ wv a := Nat.div_le_self _ _
 have hr : wv a % wv b ≤ wv a := Nat.mod_le _ _
 refine ⟨word_ok h1, word_ok h2, ?_, ?_⟩
 ·exact (wv_word h1 (by omega)).trans h4
 ·exact (wv_word h2 (by omega)).trans h5
set_option maxRecDepth 100000 in
set_option maxHeartbeats 1000000 in
theorem over04_c (a b : Nat → Nat) (ha : WordP a) (hb : WordP b) (h0 : 0 < wv b) : ACalls Tryz.prog G 93 [wideA a, wideA b] (.tup [wideA (qW a b), wideA (rW a b)]) := by
 have c1 := digits03_c (G := G) a ha
 have c2 := digits03_c (G := G) b hb
 have c3 := qover_c (G := G) (dW a) (dW b) (dW_ok ha) (dW_ok hb) h0 (by rw [dW_len]; omega) (by rw [dW_len]; omega)
 obtain ⟨h1, h2, h3, _, _⟩ := over_law (dW_ok ha) (trimL_ok (dW_ok hb)) (by rw [trimL_val]; exact h0)
 rw [dW_len] at h3
 have c4 := wide03_c (G := G) _ h1 (by rw [quotL_len, dW_len]; omega)
 have c5 := wide03_c (G := G) _ h2 (by omega)
 unfold qW rW
 refine ACalls.of_WA ttok Tryz.func93 rfl rfl _ rfl ?_
 conv => whnf
 repeat' (first | refine sq ?_ | refine bk ?_ | ((first | refine rg ttok ?_ | refine dw ttok mixed ?_ | refine cd ?_ | refine sk ?_ | refine xt ?_ | refine rt ?_); conv => whnf) | (refine And.intro (fun h => ?_) (fun h => ?_) <;> (try simp only [brsA] at h) <;> conv => whnf) | ((first | refine Or.inl ?_ | skip); (conv => whnf); (first | refine ⟨_, c1, ?_⟩ | refine ⟨_, c2, ?_⟩ | refine ⟨_, c3, ?_⟩ | refine ⟨_, c4, ?_⟩ | refine ⟨_, c5, ?_⟩); conv => whnf) | ((first | refine wf ?_ | refine wp' ?_ | refine ai ?_ | refine And.intro rfl ?_ | refine an ?_); conv => whnf))
 all_goals first | contradiction | (exfalso; omega) | skip
end Go.Proofs.YtcomiiakkhafpaaGreat
namespace Go.Proofs.YtcomiiakkhafpaaGreat
open Go.Proofs.YtcomiiakkhafpaaGreat.Am
variable [Inhabited DRT]
variable {G : GInv}
/-! ### Numbers below 2^512 as eight words -/
theorem val_append (a b : List Nat) : val (a ++ b) = val a + val b * 65536 ^ a.length := by
 rw [val, List.length_append, vf_add]
 congr 1
 ·refine vf_congr fun i hi => ?_
  rw [List.getD_eq_getElem?_getD, List.getD_eq_getElem?_getD, List.getElem?_append_left hi]
 ·congr 1
  refine vf_congr fun i hi => ?_
  rw [List.getD_eq_getElem?_getD, List.getD_eq_getElem?_getD, List.getElem?_append_right (by omega), Nat.add_sub_cancel_left]
theorem val_digW {a : Nat} (_ : a < 18446744073709551616) : val (digW a) = a := by
 simp [val, vf, digW]
 omega
theorem val_cons4 (a : Nat) (l : List Nat) (h : a < 18446744073709551616) : val (digW a ++ l) = a + 18446744073709551616 * val l := by
 have hl : (digW a).length = 4 := rfl
 have hp : (65536 : Nat) ^ 4 = 18446744073709551616 := by decide
 rw [val_append, val_digW h, hl, Nat.mul_comm, hp]
theorem wv_expl {w : Nat → Nat} (h : WordP w) : wv w = w 0 + 18446744073709551616 * (w 1 + 18446744073709551616 * (w 2 + 18446744073709551616 * (w 3 + 18446744073709551616 * (w 4 + 18446744073709551616 * (w 5 + 18446744073709551616 * (w 6 + 18446744073709551616 * w 7)))))) := by
 unfold wv dW
 rw [val_cons4 _ _ (h 0), val_cons4 _ _ (h 1), val_cons4 _ _ (h 2), val_cons4 _ _ (h 3), val_cons4 _ _ (h 4), val_cons4 _ _ (h 5), val_cons4 _ _ (h 6), val_digW (h 7)]
def wW (v : Nat) : Nat → Nat := fun j => v / 18446744073709551616 ^ j % 18446744073709551616
theorem wW_ok (v : Nat) : WordP (wW v) := fun _ => Nat.mod_lt _ (by omega)
theorem div_next (v j : Nat) : v / 18446744073709551616 ^ (j + 1) = v / 18446744073709551616 ^ j / 18446744073709551616 := by
 rw [Nat.pow_succ, Nat.div_div_eq_div_mul]
theorem split64 {v x t : Nat} (h : v = x + 18446744073709551616 * t) (hx : x < 18446744073709551616) : v % 18446744073709551616 = x ∧ v / 18446744073709551616 = t := by omega
theorem wW_wv {w : Nat → Nat} (h : WordP w) : ∀ j, j < 8 → wW (wv w) j = w j := by
 have e := wv_expl h
 generalize wv w = v at *
 have d0 : v / 18446744073709551616 ^ 0 = v := by rw [Nat.pow_zero, Nat.div_one]
 have s0 := split64 (d0.trans e) (h 0)
 have d1 := (div_next v 0).trans s0.2
 have s1 := split64 d1 (h 1)
 have d2 := (div_next v 1).trans s1.2
 have s2 := split64 d2 (h 2)
 have d3 := (div_next v 2).trans s2.2
 have s3 := split64 d3 (h 3)
 have d4 := (div_next v 3).trans s3.2
 have s4 := split64 d4 (h 4)
 have d5 := (div_next v 4).trans s4.2
 have s5 := split64 d5 (h 5)
 have d6 := (div_next v 5).trans s5.2
 have s6 := split64 d6 (h 6)
 have d7 := (div_next v 6).trans s6.2
 intro j hj
 match j, hj with
 | 0, _ => exact s0.1
 | 1, _ => exact s1.1
 | 2, _ => exact s2.1
 | 3, _ => exact s3.1
 | 4, _ => exact s4.1
 | 5, _ => exact s5.1
 | 6, _ => exact s6.1
 | 7, _ =>
  show v / 18446744073709551616 ^ 7 % 18446744073709551616 = w 7
  rw [d7]; exact Nat.mod_eq_of_lt (h 7)
theorem wW_same {w : Nat → Nat} (h : WordP w) : wideA w = wideA (wW (wv w)) := by
 have e := wW_wv h
 unfold wideA
 rw [e 0 (by omega), e 1 (by omega), e 2 (by omega), e 3 (by omega), e 4 (by omega), e 5 (by omega), e 6 (by omega), e 7 (by omega)]
theorem wv_wW {v : Nat} (h : v < 65536 ^ 32) : wv (wW v) = v := by
 rw [wv_expl (wW_ok v)]
 have key : ∀ j, v / 18446744073709551616 ^ j = wW v j + 18446744073709551616 * (v / 18446744073709551616 ^ (j + 1)) := by
  intro j
  rw [div_next]
  have := Nat.div_add_mod (v / 18446744073709551616 ^ j) 18446744073709551616
  show _ = v / 18446744073709551616 ^ j % 18446744073709551616 + _
  omega
 have h8 : v / 18446744073709551616 ^ 8 = 0 := Nat.div_eq_of_lt h
 have k7 := key 7
 rw [h8, Nat.mul_zero, Nat.add_zero] at k7
 rw [← k7, ← key 6, ← key 5, ← key 4, ← key 3, ← key 2, ← key 1, ← key 0, Nat.pow_zero, Nat.div_one]
/-- A number as eight words. -/
def wideN (v : Nat) : A := wideA (wW v)
theorem overN_c (x y : Nat) (hx : x < 65536 ^ 32) (hy : y < 65536 ^ 32) (h0 : 0 < y) : ACalls Tryz.prog G 93 [wideN x, wideN y] (.tup [wideN (x / y), wideN (x % y)]) := by
 have h := over04_c (G := G) (wW x) (wW y) (wW_ok x) (wW_ok y) (by rw [wv_wW hy]; exact h0)
 obtain ⟨h1, h2, h3, h4⟩ := over04_law (wW_ok x) (wW_ok y) (by rw [wv_wW hy]; exact h0)
 rw [wv_wW hx, wv_wW hy] at h3 h4
 rw [wW_same h1, wW_same h2, h3, h4] at h
 exact h
end Go.Proofs.YtcomiiakkhafpaaGreat

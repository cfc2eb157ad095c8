/-
  Numbers by digits: contracts of the reference's sums, differences, products.
-/
import Derived.Test.YtcomiiakkhafpaaGreatMeet1
import Derived.Test.YtcomiiakkhafpaaGreatAm5
import Derived.Test.YtcomiiakkhafpaaGreatAm4
set_option linter.unusedSimpArgs false
set_option linter.unusedSectionVars false
namespace Go.Proofs.YtcomiiakkhafpaaGreat
open Go.Proofs.YtcomiiakkhafpaaGreat.Am
variable [Inhabited DRT]
variable {G : GInv}
/-! ### Numbers by digits of 16 bits, the lowest ones first -/
def digA (l : List Nat) : A := .sl l.length 1 fun i => [.int .u64 ((l.getD i 0 : Nat) : Int)]
def DigP (l : List Nat) : Prop := ∀ x ∈ l, x < 65536
theorem DigP.get {l : List Nat} (h : DigP l) (i : Nat) : l.getD i 0 < 65536 := by
 rw [List.getD_eq_getElem?_getD]
 rcases Nat.lt_or_ge i l.length with q | q
 ·rw [List.getElem?_eq_getElem q]; exact h _ (List.getElem_mem q)
 ·rw [List.getElem?_eq_none q]; exact Nat.zero_lt_succ _
theorem getD_past {l : List Nat} {i : Nat} (h : l.length ≤ i) : l.getD i 0 = 0 := by
 rw [List.getD_eq_getElem?_getD, List.getElem?_eq_none h]; rfl
def hor (d : List Nat) (p : Nat) : Nat → Nat
 | 0 => 0
 | k + 1 => hor d p k * 65536 + d.getD (p + 3 - k) 0
theorem hor_lt {d : List Nat} (h : DigP d) (p k : Nat) : hor d p k < 65536 ^ k := by
 induction k with
 | zero => exact Nat.zero_lt_one
 | succ k ih =>
  have h1 := h.get (p + 3 - k)
  rw [hor, Nat.pow_succ]; omega
theorem hor_small {d : List Nat} (h : DigP d) (p k : Nat) (hk : k < 4) : hor d p k < 281474976710656 :=
 Nat.lt_of_lt_of_le (hor_lt h p k) (Nat.pow_le_pow_right (by omega) (show k ≤ 3 by omega))
/-- The word of the four digits from a place on. -/
def wordL (d : List Nat) (p : Nat) : Nat := hor d p 4
theorem wordL_lt {d : List Nat} (h : DigP d) (p : Nat) : wordL d p < 18446744073709551616 := hor_lt h p 4
set_option maxRecDepth 100000 in
theorem word_c (d : List Nat) (hd : DigP d) (p : Nat) (hp : p ≤ 1000000) (hl : d.length ≤ 1000000) : ACalls Tryz.prog G 173 [digA d, .int .i64 (p : Int)] (.int .u64 (wordL d p : Nat)) := by
 refine ACalls.of_WA ttok Tryz.func173 rfl rfl _ rfl ?_
 conv => whnf
 repeat (first | refine sq ?_ | refine bk ?_ | ((first | refine rg ttok ?_ | refine dw ttok mixed ?_ | refine cd ?_ | refine sk ?_ | refine xt ?_ | refine rt ?_); conv => whnf))
 refine WA_loopI (fun x : Nat × Nat => x.1 ≤ 4 ∧ x.2 = hor d p x.1) (fun x => match x with | (k, z) => [(6, .int .i64 (3 - (k : Int))), (5, .int .u64 (z : Int))]) (fun _ => []) (fun x => 4 - x.1) (0, 0) ⟨by show 0 ≤ 4; omega, rfl⟩ ?_ ?_
 ·conv => whnf
  repeat (first | exact fa | ((first | refine fb ?_ | (refine And.intro ?_ ?_; rotate_left)); conv => whnf))
 ·rintro ⟨k, z⟩ ⟨hk, hz⟩
  have hk : k ≤ 4 := hk
  have hz : z = hor d p k := hz
  conv => whnf
  repeat (first | refine sq ?_ | refine bk ?_ | ((first | refine rg ttok ?_ | refine dw ttok mixed ?_ | refine cd ?_ | refine sk ?_ | refine xt ?_ | refine rt ?_); conv => whnf))
  refine ⟨fun h => ?_, fun h => ?_⟩
  ·have h := of_decide_eq_true h
   have h1 := hor_small hd p k (by omega)
   have h2 := hd.get (p + 3 - k)
   have h3 : ((p : Int) + (3 - (k : Int))).toNat = p + 3 - k := by omega
   have h4 : d.getD ((p : Int) + (3 - (k : Int))).toNat 0 = d.getD (p + 3 - k) 0 := by rw [h3]
   rcases Nat.lt_or_ge (p + 3 - k) d.length with q | q
   ·have h5 : z * 65536 + d.getD (p + 3 - k) 0 = hor d p (k + 1) := by rw [hor, hz]
    conv => whnf
    repeat' (first | refine sq ?_ | refine bk ?_ | ((first | refine rg ttok ?_ | refine dw ttok mixed ?_ | refine cd ?_ | refine sk ?_ | refine xt ?_ | refine rt ?_); conv => whnf) | (refine And.intro (fun h => ?_) (fun h => ?_) <;> (try simp only [brsA] at h) <;> conv => whnf) | ((first | refine wf ?_ | refine wp' ?_ | refine ai ?_ | refine And.intro rfl ?_ | refine an ?_); conv => whnf))
    all_goals first | contradiction | (exfalso; omega) | skip
    rw [h4]
    refine ⟨(k + 1, z * 65536 + d.getD (p + 3 - k) 0), ⟨(by show k + 1 ≤ 4; omega), h5⟩, (by show 4 - (k + 1) < 4 - k; omega), ?_⟩
    conv => whnf
    repeat (first | exact fa | ((first | refine fb ?_ | (refine And.intro ?_ ?_; rotate_left)); conv => whnf))
    all_goals first | omega | trace_state
   ·have h5 : z * 65536 = hor d p (k + 1) := by rw [hor, hz, getD_past q, Nat.add_zero]
    conv => whnf
    repeat' (first | refine sq ?_ | refine bk ?_ | ((first | refine rg ttok ?_ | refine dw ttok mixed ?_ | refine cd ?_ | refine sk ?_ | refine xt ?_ | refine rt ?_); conv => whnf) | (refine And.intro (fun h => ?_) (fun h => ?_) <;> (try simp only [brsA] at h) <;> conv => whnf) | ((first | refine wf ?_ | refine wp' ?_ | refine ai ?_ | refine And.intro rfl ?_ | refine an ?_); conv => whnf))
    all_goals first | contradiction | (exfalso; omega) | skip
    refine ⟨(k + 1, z * 65536), ⟨(by show k + 1 ≤ 4; omega), h5⟩, (by show 4 - (k + 1) < 4 - k; omega), ?_⟩
    conv => whnf
    repeat (first | exact fa | ((first | refine fb ?_ | (refine And.intro ?_ ?_; rotate_left)); conv => whnf))
    all_goals first | omega | trace_state
  ·have h := of_decide_eq_false h
   have e : k = 4 := by omega
   subst e
   subst hz
   conv => whnf
   repeat' (first | refine sq ?_ | refine bk ?_ | ((first | refine rg ttok ?_ | refine dw ttok mixed ?_ | refine cd ?_ | refine sk ?_ | refine xt ?_ | refine rt ?_); conv => whnf) | (refine And.intro (fun h => ?_) (fun h => ?_) <;> (try simp only [brsA] at h) <;> conv => whnf) | ((first | refine wf ?_ | refine wp' ?_ | refine ai ?_ | refine And.intro rfl ?_ | refine an ?_); conv => whnf))
   all_goals first | rfl | trace_state
def digW (a : Nat) : List Nat := [a % 65536, a / 65536 % 65536, a / 4294967296 % 65536, a / 281474976710656]
theorem digW_ok {a : Nat} (h : a < 18446744073709551616) : DigP (digW a) := by
 intro x hx
 simp only [digW, List.mem_cons, List.mem_nil_iff, or_false] at hx
 omega
theorem digits_c (a : Nat) (h : a < 18446744073709551616) : ACalls Tryz.prog G 79 [.int .u64 (a : Int)] (digA (digW a)) := by
 have w1 : IntKind.u64.wrap ((a : Int).tdiv 65536) = ((a / 65536 : Nat) : Int) := by
  rw [show (65536 : Int) = ((65536 : Nat) : Int) from rfl, ← Int.ofNat_tdiv]; exact wr_u64 (by omega)
 have w2 : IntKind.u64.wrap ((a : Int).tdiv 4294967296) = ((a / 4294967296 : Nat) : Int) := by
  rw [show (4294967296 : Int) = ((4294967296 : Nat) : Int) from rfl, ← Int.ofNat_tdiv]; exact wr_u64 (by omega)
 have w3 : IntKind.u64.wrap ((a : Int).tdiv 281474976710656) = ((a / 281474976710656 : Nat) : Int) := by
  rw [show (281474976710656 : Int) = ((281474976710656 : Nat) : Int) from rfl, ← Int.ofNat_tdiv]; exact wr_u64 (by omega)
 refine ACalls.of_WA ttok Tryz.func79 rfl rfl _ rfl ?_
 conv => whnf
 repeat' (first | refine sq ?_ | refine bk ?_ | ((first | refine rg ttok ?_ | refine dw ttok mixed ?_ | refine cd ?_ | refine sk ?_ | refine xt ?_ | refine rt ?_); conv => whnf) | (refine And.intro (fun h => ?_) (fun h => ?_) <;> (try simp only [brsA] at h) <;> conv => whnf) | ((first | refine wf ?_ | refine wp' ?_ | refine ai ?_ | refine And.intro rfl ?_ | refine an ?_); conv => whnf))
 all_goals
  rw [w1, w2, w3]
  refine Or.inl fun i hi => ?_
  match i, hi with
  | 0, _ => rfl
  | 1, _ => rfl
  | 2, _ => rfl
  | 3, _ => rfl
theorem digit_c (l : List Nat) (i : Int) : ACalls Tryz.prog G 127 [digA l, .int .i64 i] (.int .u64 (if i < 0 then 0 else (l.getD i.toNat 0 : Nat))) := by
 have h6 : (l.length : Int) ≤ i → l.getD i.toNat 0 = 0 := fun q => getD_past (by omega)
 refine ACalls.of_WA ttok Tryz.func127 rfl rfl _ rfl ?_
 conv => whnf
 repeat' (first | refine sq ?_ | refine bk ?_ | ((first | refine rg ttok ?_ | refine dw ttok mixed ?_ | refine cd ?_ | refine sk ?_ | refine xt ?_ | refine rt ?_); conv => whnf) | (refine And.intro (fun h => ?_) (fun h => ?_) <;> (try simp only [brsA] at h) <;> conv => whnf) | ((first | refine wf ?_ | refine wp' ?_ | refine ai ?_ | refine And.intro rfl ?_ | refine an ?_); conv => whnf))
 all_goals first | contradiction | (exfalso; omega) | skip
 all_goals first | (rw [if_pos (by omega)]; done) | (rw [if_neg (by omega)]; done) | (rw [if_neg (by omega), h6 (by omega)]; rfl) | trace_state
end Go.Proofs.YtcomiiakkhafpaaGreat
namespace Go.Proofs.YtcomiiakkhafpaaGreat
open Go.Proofs.YtcomiiakkhafpaaGreat.Am
variable [Inhabited DRT]
variable {G : GInv}
/-! ### Values of digits -/
def vf (f : Nat → Nat) : Nat → Nat
 | 0 => 0
 | n + 1 => vf f n + f n * 65536 ^ n
def val (l : List Nat) : Nat := vf (fun i => l.getD i 0) l.length
theorem vf_lt {f : Nat → Nat} {n : Nat} (h : ∀ i, i < n → f i < 65536) : vf f n < 65536 ^ n := by
 induction n with
 | zero => exact Nat.zero_lt_one
 | succ n ih =>
  have h1 := ih fun i hi => h i (by omega)
  have h2 := h n (by omega)
  rw [vf, Nat.pow_succ]
  have : f n * 65536 ^ n ≤ 65535 * 65536 ^ n := Nat.mul_le_mul_right _ (by omega)
  omega
theorem vf_congr {f g : Nat → Nat} {n : Nat} (h : ∀ i, i < n → f i = g i) : vf f n = vf g n := by
 induction n with
 | zero => rfl
 | succ n ih => rw [vf, vf, ih fun i hi => h i (by omega), h n (by omega)]
theorem vf_ext {f : Nat → Nat} {n : Nat} (m : Nat) (h : ∀ i, n ≤ i → i < m → f i = 0) (hm : n ≤ m) : vf f m = vf f n := by
 induction m with
 | zero => have : n = 0 := by omega
           subst this; rfl
 | succ m ih =>
  rcases Nat.eq_or_lt_of_le hm with e | e
  ·rw [e]
  ·rw [vf, ih (fun i h1 h2 => h i h1 (by omega)) (by omega), h m (by omega) (by omega)]; omega
theorem val_ext (l : List Nat) (m : Nat) (h : l.length ≤ m) : val l = vf (fun i => l.getD i 0) m :=
 (vf_ext m (fun _ h1 _ => getD_past h1) h).symm
theorem DigP.lt {l : List Nat} (h : DigP l) : val l < 65536 ^ l.length := vf_lt fun i _ => h.get i
/-- Numbers whose digits from a place on are the same, and differ there. -/
theorem vf_less {f g : Nat → Nat} (hf : ∀ i, f i < 65536) (_hg : ∀ i, g i < 65536) (i : Nat) : ∀ n, i < n → (∀ j, i < j → f j = g j) → f i < g i → vf f n < vf g n := by
 intro n
 induction n with
 | zero => intro h; omega
 | succ n ih =>
  intro h he hl
  rw [vf, vf]
  rcases Nat.eq_or_lt_of_le (Nat.le_of_lt_succ h) with e | e
  ·subst e
   have h1 := vf_lt (f := f) (n := i) fun j _ => hf j
   have : (f i + 1) * 65536 ^ i ≤ g i * 65536 ^ i := Nat.mul_le_mul_right _ hl
   rw [Nat.add_mul, Nat.one_mul] at this
   omega
  ·have := ih e he hl
   rw [he n e]; omega
/-! ### The sum -/
def crP (f g : Nat → Nat) : Nat → Nat
 | 0 => 0
 | i + 1 => (f i + g i + crP f g i) / 65536
theorem crP_le {f g : Nat → Nat} (hf : ∀ i, f i < 65536) (hg : ∀ i, g i < 65536) (i : Nat) : crP f g i ≤ 1 := by
 induction i with
 | zero => exact Nat.zero_le _
 | succ i ih =>
  have := hf i; have := hg i
  rw [crP]; omega
theorem crP_vf (f g : Nat → Nat) (i : Nat) : vf (fun j => (f j + g j + crP f g j) % 65536) i + crP f g i * 65536 ^ i = vf f i + vf g i := by
 induction i with
 | zero => rfl
 | succ i ih =>
  rw [vf, vf, vf, crP, Nat.pow_succ]
  generalize 65536 ^ i = P at *
  have h1 := Nat.div_add_mod (f i + g i + crP f g i) 65536
  generalize (f i + g i + crP f g i) / 65536 = q at *
  generalize (f i + g i + crP f g i) % 65536 = r at *
  have h2 : (65536 * q + r) * P = (f i + g i + crP f g i) * P := by rw [h1]
  rw [Nat.add_mul, Nat.add_mul, Nat.add_mul] at h2
  have h3 : q * (P * 65536) = 65536 * q * P := by rw [Nat.mul_comm P, ← Nat.mul_assoc, Nat.mul_comm q]
  rw [h3]
  show _ + r * P + _ = _
  omega
def plusN (a b : List Nat) : Nat := max a.length b.length + crP (fun i => a.getD i 0) (fun i => b.getD i 0) (max a.length b.length)
def plusL (a b : List Nat) : List Nat := (List.range (plusN a b)).map fun i => (a.getD i 0 + b.getD i 0 + crP (fun i => a.getD i 0) (fun i => b.getD i 0) i) % 65536
theorem plusL_get (a b : List Nat) {i : Nat} (h : i < plusN a b) : (plusL a b).getD i 0 = (a.getD i 0 + b.getD i 0 + crP (fun i => a.getD i 0) (fun i => b.getD i 0) i) % 65536 := by
 unfold plusL
 rw [List.getD_eq_getElem?_getD, List.getElem?_map, List.getElem?_range h]; rfl
theorem plusL_len (a b : List Nat) : (plusL a b).length = plusN a b := by unfold plusL; simp
theorem plusL_ok (a b : List Nat) : DigP (plusL a b) := by
 intro x hx
 unfold plusL at hx
 simp only [List.mem_map] at hx
 obtain ⟨i, _, rfl⟩ := hx
 exact Nat.mod_lt _ (by omega)
theorem plus_end {a b : List Nat} (ha : DigP a) (hb : DigP b) : crP (fun i => a.getD i 0) (fun i => b.getD i 0) (plusN a b) = 0 := by
 unfold plusN
 generalize hM : max a.length b.length = M
 have h := crP_le (fun i => ha.get i) (fun i => hb.get i) M
 rcases Nat.eq_zero_or_pos (crP (fun i => a.getD i 0) (fun i => b.getD i 0) M) with e | e
 ·rw [e, Nat.add_zero, e]
 ·have e : crP (fun i => a.getD i 0) (fun i => b.getD i 0) M = 1 := by omega
  rw [e, crP, e, getD_past (by omega), getD_past (by omega)]
theorem plusL_val {a b : List Nat} (ha : DigP a) (hb : DigP b) : val (plusL a b) = val a + val b := by
 have h := crP_vf (fun i => a.getD i 0) (fun i => b.getD i 0) (plusN a b)
 rw [plus_end ha hb, Nat.zero_mul, Nat.add_zero] at h
 rw [val, plusL_len, vf_congr (fun i hi => plusL_get a b hi), h, val_ext a (plusN a b) (by unfold plusN; omega), val_ext b (plusN a b) (by unfold plusN; omega)]
theorem rowCatN (L : List Nat) (i : Nat) (r : Nat → List A) (hr : r 0 = [.int .u64 ((L.getD i 0 : Nat) : Int)]) (j : Nat) (hj : j < i + 1) : rowCat i (fun j => [.int .u64 ((L.getD j 0 : Nat) : Int)]) r j = [A.int IntKind.u64 ((L.getD j 0 : Nat) : Int)] := by
 unfold rowCat
 split
 ·rfl
 ·rename_i q
  have q : ¬ j < i := fun h' => by rw [show Nat.blt j i = true from Nat.ble_eq_true_of_le h'] at q; cases q
  have e : j = i := by omega
  subst e
  rw [Nat.sub_self, hr]
theorem tmodN (a k : Nat) : ((a : Int).tmod (k : Int)) = ((a % k : Nat) : Int) := by rw [← Int.ofNat_tmod]
set_option maxRecDepth 100000 in
theorem plus_c (a b : List Nat) (ha : DigP a) (hb : DigP b) (la : a.length ≤ 1000000) (lb : b.length ≤ 1000000) : ACalls Tryz.prog G 146 [digA a, digA b] (digA (plusL a b)) := by
 have hget := @plusL_get _ a b
 have hlen := plusL_len a b
 have hend := plus_end ha hb
 have hcl := crP_le (fun i => ha.get i) (fun i => hb.get i)
 have hN : plusN a b = max a.length b.length + crP (fun i => a.getD i 0) (fun i => b.getD i 0) (max a.length b.length) := rfl
 have hNl : ∀ i, crP (fun i => a.getD i 0) (fun i => b.getD i 0) i = 0 → max a.length b.length ≤ i → plusN a b ≤ i := by
  intro i h1 h2
  have h3 := hcl (max a.length b.length)
  rcases Nat.eq_or_lt_of_le h2 with e | e
  ·rw [hN, e, h1]; omega
  ·omega
 have hNg : ∀ i, crP (fun i => a.getD i 0) (fun i => b.getD i 0) i ≠ 0 → i ≤ plusN a b → i < plusN a b := by
  intro i h1 h2
  rcases Nat.eq_or_lt_of_le h2 with e | e
  ·rw [e] at h1; exact absurd hend h1
  ·exact e
 have hcs : ∀ i, crP (fun i => a.getD i 0) (fun i => b.getD i 0) (i + 1) = (a.getD i 0 + b.getD i 0 + crP (fun i => a.getD i 0) (fun i => b.getD i 0) i) / 65536 := fun i => rfl
 have hc0 : crP (fun i => a.getD i 0) (fun i => b.getD i 0) 0 = 0 := rfl
 have hNb : plusN a b ≤ 1000001 := by have := hcl (max a.length b.length); omega
 generalize crP (fun i => a.getD i 0) (fun i => b.getD i 0) = C at *
 generalize plusL a b = L at *
 generalize plusN a b = N at *
 refine ACalls.of_WA ttok Tryz.func146 rfl rfl _ rfl ?_
 conv => whnf
 repeat (first | refine sq ?_ | refine bk ?_ | ((first | refine rg ttok ?_ | refine dw ttok mixed ?_ | refine cd ?_ | refine sk ?_ | refine xt ?_ | refine rt ?_); conv => whnf))
 refine WA_loopI (fun x : Nat × Nat => x.1 ≤ N ∧ x.2 = C x.1) (fun x => match x with | (i, c) => [(7, .int .i64 (i : Int)), (6, .int .u64 (c : Int)), (5, .own 0), (9, .junk)]) (fun x => match x with | (i, _) => [.row 28 1 i (fun j => [.int .u64 ((L.getD j 0 : Nat) : Int)])]) (fun x => N - x.1) (0, 0) ⟨Nat.zero_le _, hc0.symm⟩ ?_ ?_
 ·conv => whnf
  repeat (first | exact fa | ((first | refine fb ?_ | (refine And.intro ?_ ?_; rotate_left)); conv => whnf))
 ·rintro ⟨i, c⟩ ⟨hi, hc⟩
  have hi : i ≤ N := hi
  have hc : c = C i := hc
  have hci := hcl i
  have h1 := digit_c (G := G) a i
  have h2 := digit_c (G := G) b i
  rw [if_neg (by omega)] at h1 h2
  have b1 := ha.get i
  have b2 := hb.get i
  have e0 : (i : Int).toNat = i := rfl
  rw [e0] at h1 h2
  have hcs := hcs i
  have hget := @hget i
  generalize a.getD i 0 = x at *
  generalize b.getD i 0 = y at *
  have t1 : IntKind.u64.wrap ((x : Int) + (y : Int) + (c : Int)) = ((x + y + c : Nat) : Int) := wr_u64 (by omega)
  have t2 : IntKind.u64.wrap (((x : Int) + (y : Int) + (c : Int)).tdiv 65536) = (((x + y + c) / 65536 : Nat) : Int) := by
   rw [show (x : Int) + (y : Int) + (c : Int) = ((x + y + c : Nat) : Int) from rfl, show (65536 : Int) = ((65536 : Nat) : Int) from rfl, ← Int.ofNat_tdiv]; exact wr_u64 (by omega)
  have t3 : ((x : Int) + (y : Int) + (c : Int)).tmod 65536 = (((x + y + c) % 65536 : Nat) : Int) := tmodN (x + y + c) 65536
  conv => whnf
  repeat' (first | refine sq ?_ | refine bk ?_ | ((first | refine rg ttok ?_ | refine dw ttok mixed ?_ | refine cd ?_ | refine sk ?_ | refine xt ?_ | refine rt ?_); conv => whnf) | (refine And.intro (fun h => ?_) (fun h => ?_) <;> (try simp only [brsA] at h) <;> conv => whnf) | ((first | refine Or.inl ?_ | skip); (conv => whnf); (first | refine ⟨_, h1, ?_⟩ | refine ⟨_, h2, ?_⟩); conv => whnf) | ((first | refine wf ?_ | refine wp' ?_ | refine ai ?_ | refine And.intro rfl ?_ | refine an ?_ | fail); conv => whnf))
  all_goals first
   | (have := hNl i (by omega) (by omega); exact ⟨by omega, .inl fun _ _ => rfl⟩)
   | skip
  all_goals
   have hlt : i < N := by
    rcases Nat.lt_or_ge i (max a.length b.length) with q | q
    ·omega
    ·exact hNg i (by omega) hi
   have hget := hget hlt
   rw [← hc] at hget hcs
   refine ⟨(i + 1, (x + y + c) / 65536), ⟨hlt, hcs.symm⟩, (by show N - (i + 1) < N - i; omega), ?_⟩
   conv => whnf
   repeat (first | exact fa | ((first | refine fb ?_ | (refine And.intro ?_ ?_; rotate_left)); conv => whnf))
   all_goals first
    | exact t2
    | exact Or.inl (rowCatN L i _ (by rw [hget]; exact congrArg (fun z => [A.int IntKind.u64 z]) t3))
    | trace_state
end Go.Proofs.YtcomiiakkhafpaaGreat
namespace Go.Proofs.YtcomiiakkhafpaaGreat
open Go.Proofs.YtcomiiakkhafpaaGreat.Am
variable [Inhabited DRT]
variable {G : GInv}
theorem less_at {a b : List Nat} (ha : DigP a) (hb : DigP b) (i : Nat) (hE : ∀ j, i < j → a.getD j 0 = b.getD j 0) (hne : a.getD i 0 ≠ b.getD i 0) : (val a < val b) ↔ a.getD i 0 < b.getD i 0 := by
 rw [val_ext a (a.length + b.length + i + 1) (by omega), val_ext b (a.length + b.length + i + 1) (by omega)]
 rcases Nat.lt_or_gt_of_ne hne with h | h
 ·have := vf_less (f := fun i => a.getD i 0) (g := fun i => b.getD i 0) (fun i => ha.get i) (fun i => hb.get i) i (a.length + b.length + i + 1) (by omega) hE h
  exact ⟨fun _ => h, fun _ => this⟩
 ·have := vf_less (f := fun i => b.getD i 0) (g := fun i => a.getD i 0) (fun i => hb.get i) (fun i => ha.get i) i (a.length + b.length + i + 1) (by omega) (fun j hj => (hE j hj).symm) h
  exact ⟨fun h' => absurd h' (by omega), fun h' => absurd h' (by omega)⟩
theorem val_same {a b : List Nat} (hE : ∀ j, a.getD j 0 = b.getD j 0) : val a = val b := by
 rw [val_ext a (a.length + b.length) (by omega), val_ext b (a.length + b.length) (by omega)]
 exact vf_congr fun i _ => hE i
set_option maxRecDepth 100000 in
theorem less_c (a b : List Nat) (ha : DigP a) (hb : DigP b) (la : a.length ≤ 1000000) (lb : b.length ≤ 1000000) : ACalls Tryz.prog G 80 [digA a, digA b] (.sb (decide (val a < val b))) := by
 have key : ∀ N : Nat, max a.length b.length = N → ∀ j, N ≤ j → a.getD j 0 = b.getD j 0 := fun N hN j hj => by rw [getD_past (by omega), getD_past (by omega)]
 have hat := less_at ha hb
 have hsame := val_same (a := a) (b := b)
 have hda := fun i : Nat => digit_c (G := G) a i
 have hdb := fun i : Nat => digit_c (G := G) b i
 refine ACalls.of_WA ttok Tryz.func80 rfl rfl _ rfl ?_
 conv => whnf
 repeat (first | refine sq ?_ | refine bk ?_ | ((first | refine rg ttok ?_ | refine dw ttok mixed ?_ | refine cd ?_ | refine sk ?_ | refine xt ?_ | refine rt ?_); conv => whnf))
 refine ⟨fun h => ?_, fun h => ?_⟩
 all_goals
  first | have h := of_decide_eq_true h | have h := of_decide_eq_false h
  generalize hN : max a.length b.length = N at *
  have key := key N rfl
  conv => whnf
  repeat' (first | refine sq ?_ | refine bk ?_ | ((first | refine rg ttok ?_ | refine dw ttok mixed ?_ | refine cd ?_ | refine sk ?_ | refine xt ?_ | refine rt ?_); conv => whnf) | (refine And.intro (fun h => ?_) (fun h => ?_) <;> (try simp only [brsA] at h) <;> conv => whnf) | ((first | refine wf ?_ | refine wp' ?_ | refine ai ?_ | refine And.intro rfl ?_ | refine an ?_); conv => whnf))
  refine WA_loopI (fun k : Nat => k ≤ N ∧ ∀ j, k ≤ j → a.getD j 0 = b.getD j 0) (fun k => [(6, .int .i64 ((k : Int) - 1))]) (fun _ => []) (fun k => k) N ⟨Nat.le_refl _, key⟩ ?_ ?_
  ·conv => whnf
   repeat (first | exact fa | ((first | refine fb ?_ | (refine And.intro ?_ ?_; rotate_left)); conv => whnf))
   all_goals first | omega | trace_state
  ·rintro k ⟨hk, hE⟩
   have hk : k ≤ N := hk
   conv => whnf
   repeat (first | refine sq ?_ | refine bk ?_ | ((first | refine rg ttok ?_ | refine dw ttok mixed ?_ | refine cd ?_ | refine sk ?_ | refine xt ?_ | refine rt ?_); conv => whnf))
   refine ⟨fun h => ?_, fun h => ?_⟩
   ·have h := of_decide_eq_true h
    obtain ⟨i, rfl⟩ : ∃ i, k = i + 1 := ⟨k - 1, by omega⟩
    have h1 := hda i
    have h2 := hdb i
    rw [if_neg (by omega), show (i : Int).toNat = i from rfl, show (i : Int) = ((i + 1 : Nat) : Int) - 1 by omega] at h1 h2
    have hat := hat i hE
    by_cases hne : a.getD i 0 = b.getD i 0
    ·have hE' : ∀ j, i ≤ j → a.getD j 0 = b.getD j 0 := fun j hj => by
      rcases Nat.eq_or_lt_of_le hj with e | e
      ·rw [← e]; exact hne
      ·exact hE j e
     rw [hne] at h1
     conv => whnf
     repeat' (first | refine sq ?_ | refine bk ?_ | ((first | refine rg ttok ?_ | refine dw ttok mixed ?_ | refine cd ?_ | refine sk ?_ | refine xt ?_ | refine rt ?_); conv => whnf) | (refine And.intro (fun h => ?_) (fun h => ?_) <;> (try simp only [brsA] at h) <;> conv => whnf) | ((first | refine Or.inl ?_ | skip); (conv => whnf); (first | refine ⟨_, h1, ?_⟩ | refine ⟨_, h2, ?_⟩); conv => whnf) | ((first | refine wf ?_ | refine wp' ?_ | refine ai ?_ | refine And.intro rfl ?_ | refine an ?_); conv => whnf))
     all_goals first | contradiction | (exfalso; omega) | skip
     all_goals
      refine ⟨i, ⟨(by show i ≤ N; omega), hE'⟩, (by show i < i + 1; omega), ?_⟩
      conv => whnf
      repeat (first | exact fa | ((first | refine fb ?_ | (refine And.intro ?_ ?_; rotate_left)); conv => whnf))
      all_goals first | omega | trace_state
    ·have hat := hat hne
     conv => whnf
     repeat' (first | refine sq ?_ | refine bk ?_ | ((first | refine rg ttok ?_ | refine dw ttok mixed ?_ | refine cd ?_ | refine sk ?_ | refine xt ?_ | refine rt ?_); conv => whnf) | (refine And.intro (fun h => ?_) (fun h => ?_) <;> (try simp only [brsA] at h) <;> conv => whnf) | ((first | refine Or.inl ?_ | skip); (conv => whnf); (first | refine ⟨_, h1, ?_⟩ | refine ⟨_, h2, ?_⟩); conv => whnf) | ((first | refine wf ?_ | refine wp' ?_ | refine ai ?_ | refine And.intro rfl ?_ | refine an ?_); conv => whnf))
     all_goals first | contradiction | (exfalso; omega) | skip
     all_goals first | (refine decide_eq_decide.2 ?_; rw [hat]; omega) | trace_state
   ·have h := of_decide_eq_false h
    have e : k = 0 := by omega
    subst e
    have hs := hsame fun j => hE j (Nat.zero_le _)
    conv => whnf
    repeat' (first | refine sq ?_ | refine bk ?_ | ((first | refine rg ttok ?_ | refine dw ttok mixed ?_ | refine cd ?_ | refine sk ?_ | refine xt ?_ | refine rt ?_); conv => whnf) | (refine And.intro (fun h => ?_) (fun h => ?_) <;> (try simp only [brsA] at h) <;> conv => whnf) | ((first | refine wf ?_ | refine wp' ?_ | refine ai ?_ | refine And.intro rfl ?_ | refine an ?_); conv => whnf))
    all_goals first | (refine (decide_eq_false ?_).symm; omega) | trace_state
/-! ### The difference -/
def bwP (f g : Nat → Nat) : Nat → Nat
 | 0 => 0
 | i + 1 => 1 - (65536 + f i - g i - bwP f g i) / 65536
theorem bwP_le (f g : Nat → Nat) (i : Nat) : bwP f g i ≤ 1 := by
 cases i with
 | zero => exact Nat.zero_le _
 | succ i => rw [bwP]; omega
theorem bwP_vf {f g : Nat → Nat} (hf : ∀ i, f i < 65536) (hg : ∀ i, g i < 65536) (i : Nat) : vf (fun j => (65536 + f j - g j - bwP f g j) % 65536) i + vf g i = vf f i + bwP f g i * 65536 ^ i := by
 induction i with
 | zero => rfl
 | succ i ih =>
  rw [vf, vf, vf, bwP, Nat.pow_succ]
  have b1 := hf i
  have b2 := hg i
  have b3 := bwP_le f g i
  generalize 65536 ^ i = P at *
  have h1 := Nat.div_add_mod (65536 + f i - g i - bwP f g i) 65536
  have hq : (65536 + f i - g i - bwP f g i) / 65536 ≤ 1 := by omega
  generalize (65536 + f i - g i - bwP f g i) / 65536 = q at *
  generalize hr : (65536 + f i - g i - bwP f g i) % 65536 = r at *
  have h2 : 65536 * q + r + g i + bwP f g i = 65536 + f i := by omega
  have h3 : (65536 * q + r + g i + bwP f g i) * P = (65536 + f i) * P := by rw [h2]
  simp only [Nat.add_mul] at h3
  have hq' : q = 0 ∨ q = 1 := by omega
  rcases hq' with rfl | rfl
  ·simp only [Nat.mul_zero, Nat.zero_mul, Nat.sub_zero, Nat.one_mul] at *
   omega
  ·simp only [Nat.mul_one, Nat.sub_self, Nat.zero_mul] at *
   omega
theorem vf_small {f : Nat → Nat} (n m : Nat) (hm : n ≤ m) (h : vf f m < 65536 ^ n) : vf f m = vf f n := by
 induction m with
 | zero => have : n = 0 := by omega
           subst this; rfl
 | succ m ih =>
  rcases Nat.eq_or_lt_of_le hm with e | e
  ·rw [e]
  ·rw [vf] at h ⊢
   have hp : 65536 ^ n ≤ 65536 ^ m := Nat.pow_le_pow_right (by omega) (by omega)
   have h0 : f m = 0 := by
    rcases Nat.eq_zero_or_pos (f m) with z | z
    ·exact z
    ·have : 1 * 65536 ^ m ≤ f m * 65536 ^ m := Nat.mul_le_mul_right _ z
     omega
   rw [h0] at h ⊢
   rw [Nat.zero_mul, Nat.add_zero] at h ⊢
   exact ih (by omega) h
def minusL (a b : List Nat) : List Nat := (List.range a.length).map fun i => (65536 + a.getD i 0 - b.getD i 0 - bwP (fun i => a.getD i 0) (fun i => b.getD i 0) i) % 65536
theorem minusL_get (a b : List Nat) {i : Nat} (h : i < a.length) : (minusL a b).getD i 0 = (65536 + a.getD i 0 - b.getD i 0 - bwP (fun i => a.getD i 0) (fun i => b.getD i 0) i) % 65536 := by
 unfold minusL
 rw [List.getD_eq_getElem?_getD, List.getElem?_map, List.getElem?_range h]; rfl
theorem minusL_len (a b : List Nat) : (minusL a b).length = a.length := by unfold minusL; simp
theorem minusL_ok (a b : List Nat) : DigP (minusL a b) := by
 intro x hx
 unfold minusL at hx
 simp only [List.mem_map] at hx
 obtain ⟨i, _, rfl⟩ := hx
 exact Nat.mod_lt _ (by omega)
theorem minusL_val {a b : List Nat} (ha : DigP a) (hb : DigP b) (h : val b ≤ val a) : val (minusL a b) = val a - val b := by
 have h1 := bwP_vf (f := fun i => a.getD i 0) (g := fun i => b.getD i 0) (fun i => ha.get i) (fun i => hb.get i) a.length
 have h2 := vf_congr (n := a.length) (fun i hi => minusL_get a b hi)
 have h3 := (minusL_ok a b).lt
 have h4 : val b = vf (fun i => b.getD i 0) a.length := by
  rw [val_ext b (a.length + b.length) (by omega)]
  refine vf_small _ _ (by omega) ?_
  rw [← val_ext b (a.length + b.length) (by omega)]
  have := ha.lt
  omega
 have h5 : val a = vf (fun i => a.getD i 0) a.length := rfl
 have h6 : val (minusL a b) = vf (fun i => (minusL a b).getD i 0) a.length := by rw [val, minusL_len]
 have h7 := bwP_le (fun i => a.getD i 0) (fun i => b.getD i 0) a.length
 rw [minusL_len] at h3
 rw [← h2] at h1
 have h8 : bwP (fun i => a.getD i 0) (fun i => b.getD i 0) a.length = 0 ∨ bwP (fun i => a.getD i 0) (fun i => b.getD i 0) a.length = 1 := by omega
 rcases h8 with e | e
 ·rw [e, Nat.zero_mul] at h1; omega
 ·rw [e, Nat.one_mul] at h1; omega
end Go.Proofs.YtcomiiakkhafpaaGreat
namespace Go.Proofs.YtcomiiakkhafpaaGreat
open Go.Proofs.YtcomiiakkhafpaaGreat.Am
variable [Inhabited DRT]
variable {G : GInv}
set_option maxRecDepth 100000 in
theorem minus_c (a b : List Nat) (ha : DigP a) (hb : DigP b) (la : a.length ≤ 1000000) : ACalls Tryz.prog G 147 [digA a, digA b] (digA (minusL a b)) := by
 have hget := @minusL_get _ a b
 have hlen := minusL_len a b
 have hcl := bwP_le (fun i => a.getD i 0) (fun i => b.getD i 0)
 have hcs : ∀ i, bwP (fun i => a.getD i 0) (fun i => b.getD i 0) (i + 1) = 1 - (65536 + a.getD i 0 - b.getD i 0 - bwP (fun i => a.getD i 0) (fun i => b.getD i 0) i) / 65536 := fun i => rfl
 have hc0 : bwP (fun i => a.getD i 0) (fun i => b.getD i 0) 0 = 0 := rfl
 have hdb := fun i : Nat => digit_c (G := G) b i
 generalize bwP (fun i => a.getD i 0) (fun i => b.getD i 0) = C at *
 generalize minusL a b = L at *
 refine ACalls.of_WA ttok Tryz.func147 rfl rfl _ rfl ?_
 conv => whnf
 repeat (first | refine sq ?_ | refine bk ?_ | ((first | refine rg ttok ?_ | refine dw ttok mixed ?_ | refine cd ?_ | refine sk ?_ | refine xt ?_ | refine rt ?_); conv => whnf))
 refine WA_loopI (fun x : Nat × Nat => x.1 ≤ a.length ∧ x.2 = C x.1) (fun x => match x with | (i, c) => [(7, .int .i64 (i : Int)), (6, .int .u64 (c : Int)), (5, .own 0), (9, .junk)]) (fun x => match x with | (i, _) => [.row 28 1 i (fun j => [.int .u64 ((L.getD j 0 : Nat) : Int)])]) (fun x => a.length - x.1) (0, 0) ⟨Nat.zero_le _, hc0.symm⟩ ?_ ?_
 ·conv => whnf
  repeat (first | exact fa | ((first | refine fb ?_ | (refine And.intro ?_ ?_; rotate_left)); conv => whnf))
 ·rintro ⟨i, c⟩ ⟨hi, hc⟩
  have hi : i ≤ a.length := hi
  have hc : c = C i := hc
  have hci := hcl i
  have h2 := hdb i
  rw [if_neg (by omega)] at h2
  have b1 := ha.get i
  have b2 := hb.get i
  have e0 : (i : Int).toNat = i := rfl
  rw [e0] at h2
  have hcs := hcs i
  have hget := @hget i
  have e1 : a.getD (i : Int).toNat 0 = a.getD i 0 := rfl
  rw [← hc] at hget hcs hci
  generalize a.getD i 0 = x at *
  generalize b.getD i 0 = y at *
  have e2 : (65536 : Int) + (x : Int) - (y : Int) - (c : Int) = ((65536 + x - y - c : Nat) : Int) := by omega
  have t2 : IntKind.u64.wrap ((((65536 + x - y - c : Nat) : Int)).tdiv 65536) = (((65536 + x - y - c) / 65536 : Nat) : Int) := by
   rw [show (65536 : Int) = ((65536 : Nat) : Int) from rfl, ← Int.ofNat_tdiv]; exact wr_u64 (by omega)
  have t3 : (((65536 + x - y - c : Nat) : Int)).tmod 65536 = (((65536 + x - y - c) % 65536 : Nat) : Int) := tmodN (65536 + x - y - c) 65536
  have t4 : IntKind.u64.wrap ((1 : Int) - (((65536 + x - y - c) / 65536 : Nat) : Int)) = ((1 - (65536 + x - y - c) / 65536 : Nat) : Int) := by
   rw [wr_u64 (by omega)]; omega
  conv => whnf
  repeat' (first | refine sq ?_ | refine bk ?_ | ((first | refine rg ttok ?_ | refine dw ttok mixed ?_ | refine cd ?_ | refine sk ?_ | refine xt ?_ | refine rt ?_); conv => whnf) | (refine And.intro (fun h => ?_) (fun h => ?_) <;> (try simp only [brsA] at h) <;> conv => whnf) | ((first | refine Or.inl ?_ | skip); (conv => whnf); refine ⟨_, h2, ?_⟩; conv => whnf) | ((first | refine wf ?_ | refine wp' ?_ | refine ai ?_ | refine And.intro rfl ?_ | refine an ?_ | fail); conv => whnf))
  all_goals first | contradiction | (exfalso; omega) | skip
  ·have hlt : i < a.length := by omega
   have hget := hget hlt
   refine ⟨(i + 1, 1 - (65536 + x - y - c) / 65536), ⟨hlt, hcs.symm⟩, (by show a.length - (i + 1) < a.length - i; omega), ?_⟩
   conv => whnf
   repeat (first | exact fa | ((first | refine fb ?_ | (refine And.intro ?_ ?_; rotate_left)); conv => whnf))
   all_goals first
    | (simp only [e1, e2, t2, t4]; done)
    | exact Or.inl (rowCatN L i _ (by rw [hget]; simp only [e1, e2]; exact congrArg (fun z => [A.int IntKind.u64 z]) t3))
    | trace_state
  ·exact Or.inl fun _ _ => rfl
/-! ### Without noughts at the end -/
def trimN (f : Nat → Nat) : Nat → Nat
 | 0 => 0
 | n + 1 => if f n = 0 then trimN f n else n + 1
theorem trimN_le (f : Nat → Nat) (n : Nat) : trimN f n ≤ n := by
 induction n with
 | zero => exact Nat.le_refl _
 | succ n ih => rw [trimN]; split <;> omega
theorem trimN_zero (f : Nat → Nat) (n : Nat) : ∀ i, trimN f n ≤ i → i < n → f i = 0 := by
 induction n with
 | zero => intro i _ h; omega
 | succ n ih =>
  intro i h1 h2
  rw [trimN] at h1
  split at h1
  ·rcases Nat.eq_or_lt_of_le (Nat.le_of_lt_succ h2) with e | e
   ·rw [e]; assumption
   ·exact ih i h1 e
  ·omega
def trimL (d : List Nat) : List Nat := d.take (trimN (fun i => d.getD i 0) d.length)
theorem trimL_len (d : List Nat) : (trimL d).length = trimN (fun i => d.getD i 0) d.length := by
 unfold trimL
 have := trimN_le (fun i => d.getD i 0) d.length
 rw [List.length_take]; omega
theorem trimL_le (d : List Nat) : (trimL d).length ≤ d.length := by rw [trimL_len]; exact trimN_le _ _
theorem trimL_ok {d : List Nat} (h : DigP d) : DigP (trimL d) := fun x hx => h x (List.mem_of_mem_take hx)
theorem trimL_get (d : List Nat) {i : Nat} (h : i < (trimL d).length) : (trimL d).getD i 0 = d.getD i 0 := by
 rw [trimL_len] at h
 unfold trimL
 rw [List.getD_eq_getElem?_getD, List.getD_eq_getElem?_getD, List.getElem?_take_of_lt h]
theorem trimL_val (d : List Nat) : val (trimL d) = val d := by
 rw [val, vf_congr (fun i hi => trimL_get d hi), trimL_len, val]
 exact (vf_ext d.length (fun i h1 h2 => trimN_zero _ _ i h1 h2) (trimN_le _ _)).symm
set_option maxRecDepth 100000 in
theorem trim_c (d : List Nat) (ld : d.length ≤ 1000000) : ACalls Tryz.prog G 172 [digA d] (digA (trimL d)) := by
 have hlen := trimL_len d
 have hget := @trimL_get _ d
 have hs : ∀ n, trimN (fun i => d.getD i 0) (n + 1) = if d.getD n 0 = 0 then trimN (fun i => d.getD i 0) n else n + 1 := fun n => rfl
 have h0 : trimN (fun i => d.getD i 0) 0 = 0 := rfl
 generalize trimN (fun i => d.getD i 0) = T at *
 generalize trimL d = L at *
 refine ACalls.of_WA ttok Tryz.func172 rfl rfl _ rfl ?_
 conv => whnf
 repeat' (first | refine sq ?_ | refine bk ?_ | ((first | refine rg ttok ?_ | refine dw ttok mixed ?_ | refine cd ?_ | refine sk ?_ | refine xt ?_ | refine rt ?_); conv => whnf) | (refine And.intro (fun h => ?_) (fun h => ?_) <;> (try simp only [brsA] at h) <;> conv => whnf) | ((first | refine wf ?_ | refine wp' ?_ | refine ai ?_ | refine And.intro rfl ?_ | refine an ?_ | fail); conv => whnf))
 refine WA_loopI (fun n : Nat => n ≤ d.length ∧ T n = T d.length) (fun n => [(3, .int .i64 (n : Int))]) (fun _ => []) (fun n => n) d.length ⟨Nat.le_refl _, rfl⟩ ?_ ?_
 ·conv => whnf
  repeat (first | exact fa | ((first | refine fb ?_ | (refine And.intro ?_ ?_; rotate_left)); conv => whnf))
 ·rintro n ⟨hn, hT⟩
  have hn : n ≤ d.length := hn
  rcases Nat.eq_zero_or_pos n with e | e
  ·subst e
   rw [h0] at hT
   conv => whnf
   repeat' (first | refine sq ?_ | refine bk ?_ | ((first | refine rg ttok ?_ | refine dw ttok mixed ?_ | refine cd ?_ | refine sk ?_ | refine xt ?_ | refine rt ?_); conv => whnf) | (refine And.intro (fun h => ?_) (fun h => ?_) <;> (try simp only [brsA] at h) <;> conv => whnf) | ((first | refine wf ?_ | refine wp' ?_ | refine ai ?_ | refine And.intro rfl ?_ | refine an ?_ | fail); conv => whnf))
   all_goals first | contradiction | (exfalso; omega) | skip
   refine Or.inl fun i hi => ?_
   exact absurd hi (by show ¬ i < 0; omega)
  ·obtain ⟨k, rfl⟩ : ∃ k, n = k + 1 := ⟨n - 1, by omega⟩
   have hs := hs k
   have e1 : (((k + 1 : Nat) : Int) - 1).toNat = k := by omega
   have e2 : d.getD (((k + 1 : Nat) : Int) - 1).toNat 0 = d.getD k 0 := by rw [e1]
   conv => whnf
   repeat' (first | refine sq ?_ | refine bk ?_ | ((first | refine rg ttok ?_ | refine dw ttok mixed ?_ | refine cd ?_ | refine sk ?_ | refine xt ?_ | refine rt ?_); conv => whnf) | (refine And.intro (fun h => ?_) (fun h => ?_) <;> (try simp only [brsA] at h) <;> conv => whnf) | ((first | refine wf ?_ | refine wp' ?_ | refine ai ?_ | refine And.intro rfl ?_ | refine an ?_ | fail); conv => whnf))
   all_goals first | contradiction | (exfalso; omega) | skip
   ·rw [if_pos (by omega)] at hs
    refine ⟨k, ⟨(by show k ≤ d.length; omega), (by rw [← hs]; exact hT)⟩, (by show k < k + 1; omega), ?_⟩
    conv => whnf
    repeat (first | exact fa | ((first | refine fb ?_ | (refine And.intro ?_ ?_; rotate_left)); conv => whnf))
    all_goals first | omega | trace_state
   ·rw [if_neg (by omega)] at hs
    refine ⟨by omega, .inl fun i hi => ?_⟩
    have hi : i < ((k + 1 : Nat) : Int).toNat - 0 := hi
    show [A.int .u64 ((d.getD (0 + i) 0 : Nat) : Int)] = [A.int .u64 ((L.getD i 0 : Nat) : Int)]
    rw [hget (by omega), Nat.zero_add]
end Go.Proofs.YtcomiiakkhafpaaGreat
namespace Go.Proofs.YtcomiiakkhafpaaGreat
open Go.Proofs.YtcomiiakkhafpaaGreat.Am
variable [Inhabited DRT]
variable {G : GInv}
/-! ### The product -/
def updD (F : Nat → Nat) (p v : Nat) : Nat → Nat := fun j => if j = p then v else F j
theorem vf_upd (F : Nat → Nat) (p v : Nat) : ∀ n, p < n → vf (updD F p v) n + F p * 65536 ^ p = vf F n + v * 65536 ^ p := by
 intro n
 induction n with
 | zero => intro h; omega
 | succ n ih =>
  intro h
  rw [vf, vf]
  rcases Nat.eq_or_lt_of_le (Nat.le_of_lt_succ h) with e | e
  ·subst e
   have : vf (updD F p v) p = vf F p := vf_congr fun i hi => by unfold updD; rw [if_neg (by omega)]
   rw [this]
   have : updD F p v p = v := by unfold updD; rw [if_pos rfl]
   rw [this]; omega
  ·have := ih e
   have h2 : updD F p v n = F n := by unfold updD; rw [if_neg (by omega)]
   rw [h2]; omega
theorem updD_lt {F : Nat → Nat} (h : ∀ j, F j < 65536) (p : Nat) {v : Nat} (hv : v < 65536) (j : Nat) : updD F p v j < 65536 := by
 unfold updD; split
 ·exact hv
 ·exact h j
def tin (x : Nat) (g : Nat → Nat) (i : Nat) (F : Nat → Nat) : Nat → Nat × (Nat → Nat)
 | 0 => (0, F)
 | k + 1 => (((tin x g i F k).2 (i + k) + x * g k + (tin x g i F k).1) / 65536, updD (tin x g i F k).2 (i + k) (((tin x g i F k).2 (i + k) + x * g k + (tin x g i F k).1) % 65536))
def tout (f g : Nat → Nat) (lb : Nat) : Nat → Nat → Nat
 | 0 => fun _ => 0
 | i + 1 => if f i = 0 then tout f g lb i else updD (tin (f i) g i (tout f g lb i) lb).2 (i + lb) ((tin (f i) g i (tout f g lb i) lb).2 (i + lb) + (tin (f i) g i (tout f g lb i) lb).1)
theorem tin_succ (x : Nat) (g : Nat → Nat) (i : Nat) (F : Nat → Nat) (k : Nat) : tin x g i F (k + 1) = (((tin x g i F k).2 (i + k) + x * g k + (tin x g i F k).1) / 65536, updD (tin x g i F k).2 (i + k) (((tin x g i F k).2 (i + k) + x * g k + (tin x g i F k).1) % 65536)) := rfl
theorem tout_succ (f g : Nat → Nat) (lb i : Nat) : tout f g lb (i + 1) = if f i = 0 then tout f g lb i else updD (tin (f i) g i (tout f g lb i) lb).2 (i + lb) ((tin (f i) g i (tout f g lb i) lb).2 (i + lb) + (tin (f i) g i (tout f g lb i) lb).1) := rfl
theorem mul_dig {x y : Nat} (hx : x < 65536) (hy : y < 65536) : x * y ≤ 4294836225 := Nat.mul_le_mul (show x ≤ 65535 by omega) (show y ≤ 65535 by omega)
theorem tin_inv {x : Nat} {g : Nat → Nat} {F : Nat → Nat} (hx : x < 65536) (hg : ∀ j, g j < 65536) (hF : ∀ j, F j < 65536) (i k : Nat) :
  (tin x g i F k).1 < 65536 ∧ (∀ j, (tin x g i F k).2 j < 65536) ∧ (∀ j, i + k ≤ j → (tin x g i F k).2 j = F j) ∧
   ∀ n, i + k ≤ n → vf (tin x g i F k).2 n + (tin x g i F k).1 * 65536 ^ (i + k) = vf F n + x * vf g k * 65536 ^ i := by
 induction k with
 | zero => exact ⟨Nat.zero_lt_succ _, hF, fun _ _ => rfl, fun n _ => by simp [tin, vf]⟩
 | succ k ih =>
  obtain ⟨h1, h2, h3, h4⟩ := ih
  rw [tin]
  generalize tin x g i F k = q at *
  obtain ⟨c, F'⟩ := q
  simp only at *
  have b1 := h2 (i + k)
  have b2 := mul_dig hx (hg k)
  have hm := Nat.div_add_mod (F' (i + k) + x * g k + c) 65536
  have hml := Nat.mod_lt (F' (i + k) + x * g k + c) (show 65536 > 0 by omega)
  refine ⟨by omega, updD_lt h2 _ hml, fun j hj => ?_, fun n hn => ?_⟩
  ·unfold updD; rw [if_neg (by omega)]; exact h3 j (by omega)
  ·have h5 := vf_upd F' (i + k) ((F' (i + k) + x * g k + c) % 65536) n (by omega)
   have h6 := h4 n (by omega)
   generalize (F' (i + k) + x * g k + c) / 65536 = d at *
   generalize (F' (i + k) + x * g k + c) % 65536 = r at *
   generalize hP : 65536 ^ (i + k) = P at *
   have h7 : 65536 ^ (i + (k + 1)) = P * 65536 := by rw [← hP, ← Nat.pow_succ]; rfl
   have h8 : (65536 * d + r) * P = (F' (i + k) + x * g k + c) * P := by rw [hm]
   have h9 : x * (vf g k + g k * 65536 ^ k) * 65536 ^ i = x * vf g k * 65536 ^ i + x * g k * P := by
    rw [← hP, Nat.pow_add, Nat.mul_add, Nat.add_mul]
    congr 1
    rw [← Nat.mul_assoc, Nat.mul_assoc (x * g k), Nat.mul_comm (65536 ^ k)]
   rw [vf, h7, h9]
   simp only [Nat.add_mul] at h8
   have h10 : d * (P * 65536) = 65536 * d * P := by rw [Nat.mul_comm P, ← Nat.mul_assoc, Nat.mul_comm d]
   rw [h10]
   omega
theorem tout_inv {f g : Nat → Nat} (hf : ∀ j, f j < 65536) (hg : ∀ j, g j < 65536) (lb : Nat) (i : Nat) :
  (∀ j, tout f g lb i j < 65536) ∧ (∀ j, i + lb ≤ j → tout f g lb i j = 0) ∧ ∀ n, i + lb ≤ n → vf (tout f g lb i) n = vf f i * vf g lb := by
 induction i with
 | zero => exact ⟨fun _ => Nat.zero_lt_succ _, fun _ _ => rfl, fun n _ => by
   rw [vf, Nat.zero_mul]
   induction n with
   | zero => rfl
   | succ n ih => rw [vf]; show _ + 0 * _ = 0; rw [Nat.zero_mul, Nat.add_zero]; exact vf_ext (n := 0) n (fun _ _ _ => rfl) (Nat.zero_le _)⟩
 | succ i ih =>
  obtain ⟨h1, h2, h3⟩ := ih
  rw [tout]
  split
  ·rename_i e
   refine ⟨h1, fun j hj => h2 j (by omega), fun n hn => ?_⟩
   rw [h3 n (by omega), vf, e, Nat.zero_mul, Nat.add_zero]
  ·obtain ⟨q1, q2, q3, q4⟩ := tin_inv (hf i) hg h1 i lb
   generalize tin (f i) g i (tout f g lb i) lb = q at *
   obtain ⟨c, F⟩ := q
   simp only at *
   have e : F (i + lb) = 0 := by rw [q3 _ (Nat.le_refl _)]; exact h2 _ (Nat.le_refl _)
   rw [e, Nat.zero_add]
   refine ⟨updD_lt q2 _ q1, fun j hj => ?_, fun n hn => ?_⟩
   ·unfold updD; rw [if_neg (by omega), q3 j (by omega)]; exact h2 j (by omega)
   ·have h5 := vf_upd F (i + lb) c n (by omega)
    have h6 := q4 n (by omega)
    rw [e, Nat.zero_mul, Nat.add_zero] at h5
    rw [h5, h6, h3 n (by omega), vf, Nat.add_mul, Nat.mul_assoc (f i), Nat.mul_comm (vf g lb), ← Nat.mul_assoc]
def timesL (a b : List Nat) : List Nat := (List.range (a.length + b.length)).map (tout (fun i => a.getD i 0) (fun i => b.getD i 0) b.length a.length)
theorem timesL_len (a b : List Nat) : (timesL a b).length = a.length + b.length := by unfold timesL; simp
theorem timesL_get (a b : List Nat) {i : Nat} (h : i < a.length + b.length) : (timesL a b).getD i 0 = tout (fun i => a.getD i 0) (fun i => b.getD i 0) b.length a.length i := by
 unfold timesL
 rw [List.getD_eq_getElem?_getD, List.getElem?_map, List.getElem?_range h]; rfl
theorem timesL_ok {a b : List Nat} (ha : DigP a) (hb : DigP b) : DigP (timesL a b) := by
 intro x hx
 unfold timesL at hx
 simp only [List.mem_map] at hx
 obtain ⟨i, _, rfl⟩ := hx
 exact (tout_inv (f := fun i => a.getD i 0) (g := fun i => b.getD i 0) (fun i => ha.get i) (fun i => hb.get i) _ _).1 i
theorem timesL_val {a b : List Nat} (ha : DigP a) (hb : DigP b) : val (timesL a b) = val a * val b := by
 rw [val, timesL_len, vf_congr fun i hi => timesL_get a b hi]
 exact (tout_inv (f := fun i => a.getD i 0) (g := fun i => b.getD i 0) (fun i => ha.get i) (fun i => hb.get i) _ _).2.2 _ (Nat.le_refl _)
set_option maxRecDepth 100000 in
theorem times_c (a b : List Nat) (ha : DigP a) (hb : DigP b) (la : a.length ≤ 1000000) (lb : b.length ≤ 1000000) : ACalls Tryz.prog G 78 [digA a, digA b] (digA (timesL a b)) := by
 have hget := @timesL_get _ a b
 have hlen := timesL_len a b
 have hinv := tout_inv (f := fun i => a.getD i 0) (g := fun i => b.getD i 0) (fun i => ha.get i) (fun i => hb.get i) b.length
 have hs := tout_succ (fun i => a.getD i 0) (fun i => b.getD i 0) b.length
 generalize timesL a b = L at *
 refine ACalls.of_WA ttok Tryz.func78 rfl rfl _ rfl ?_
 conv => whnf
 repeat' (first | refine sq ?_ | refine bk ?_ | ((first | refine rg ttok ?_ | refine dw ttok mixed ?_ | refine cd ?_ | refine sk ?_ | refine xt ?_ | refine rt ?_); conv => whnf) | (refine And.intro (fun h => ?_) (fun h => ?_) <;> (try simp only [brsA] at h) <;> conv => whnf) | ((first | refine wf ?_ | refine wp' ?_ | refine ai ?_ | refine And.intro rfl ?_ | refine an ?_); conv => whnf))
 all_goals first | contradiction | (exfalso; omega) | skip
 refine WA_loopI (fun x : Nat × (Nat → Nat) => x.1 ≤ a.length ∧ x.2 = tout (fun i => a.getD i 0) (fun i => b.getD i 0) b.length x.1) (fun x => match x with | (i, _) => [(6, .int .i64 (i : Int)), (5, .own 0)]) (fun x => match x with | (_, F) => [.row 28 1 (a.length + b.length) (fun j => [.int .u64 ((F j : Nat) : Int)])]) (fun x => a.length - x.1) (0, fun _ => 0) ⟨Nat.zero_le _, rfl⟩ ?_ ?_
 ·conv => whnf
  repeat (first | exact fa | ((first | refine fb ?_ | (refine And.intro ?_ ?_; rotate_left)); conv => whnf))
  all_goals trace_state
 ·rintro ⟨i, F⟩ ⟨hi, hF⟩
  have hi : i ≤ a.length := hi
  have hF : F = tout (fun i => a.getD i 0) (fun i => b.getD i 0) b.length i := hF
  have hs := hs i
  obtain ⟨f1, f2, _⟩ := hinv i
  rw [← hF] at hs f1 f2
  conv => whnf
  repeat (first | refine sq ?_ | refine bk ?_ | ((first | refine rg ttok ?_ | refine dw ttok mixed ?_ | refine cd ?_ | refine sk ?_ | refine xt ?_ | refine rt ?_); conv => whnf))
  refine ⟨fun h => ?_, fun h => ?_⟩
  ·have h := of_decide_eq_true h
   have e1 : a.getD (i : Int).toNat 0 = a.getD i 0 := rfl
   have b1 := ha.get i
   by_cases hx : a.getD i 0 = 0
   ·rw [if_pos hx] at hs
    conv => whnf
    repeat' (first | refine sq ?_ | refine bk ?_ | ((first | refine rg ttok ?_ | refine dw ttok mixed ?_ | refine cd ?_ | refine sk ?_ | refine xt ?_ | refine rt ?_); conv => whnf) | (refine And.intro (fun h => ?_) (fun h => ?_) <;> (try simp only [brsA] at h) <;> conv => whnf) | ((first | refine wf ?_ | refine wp' ?_ | refine ai ?_ | refine And.intro rfl ?_ | refine an ?_); conv => whnf))
    all_goals first | contradiction | (exfalso; omega) | skip
    refine ⟨(i + 1, F), ⟨(by show i + 1 ≤ a.length; omega), hs.symm⟩, (by show a.length - (i + 1) < a.length - i; omega), ?_⟩
    conv => whnf
    repeat (first | exact fa | ((first | refine fb ?_ | (refine And.intro ?_ ?_; rotate_left)); conv => whnf))
    all_goals trace_state
   ·rw [if_neg hx] at hs
    have ht := tin_inv (g := fun i => b.getD i 0) b1 (fun j => hb.get j) f1 i
    have hts := tin_succ (a.getD i 0) (fun i => b.getD i 0) i F
    conv => whnf
    repeat' (first | refine sq ?_ | refine bk ?_ | ((first | refine rg ttok ?_ | refine dw ttok mixed ?_ | refine cd ?_ | refine sk ?_ | refine xt ?_ | refine rt ?_); conv => whnf) | (refine And.intro (fun h => ?_) (fun h => ?_) <;> (try simp only [brsA] at h) <;> conv => whnf) | ((first | refine wf ?_ | refine wp' ?_ | refine ai ?_ | refine And.intro rfl ?_ | refine an ?_); conv => whnf))
    all_goals first | contradiction | (exfalso; omega) | skip
    refine WA_loopI (fun x : Nat × Nat × (Nat → Nat) => x.1 ≤ b.length ∧ x.2 = tin (a.getD i 0) (fun i => b.getD i 0) i F x.1) (fun x => match x with | (k, c, _) => [(8, .int .i64 (k : Int)), (7, .int .u64 (c : Int)), (5, .own 0)]) (fun x => match x with | (_, _, F') => [.row 28 1 (a.length + b.length) (fun j => [.int .u64 ((F' j : Nat) : Int)])]) (fun x => b.length - x.1) (0, 0, F) ⟨Nat.zero_le _, rfl⟩ ?_ ?_
    ·conv => whnf
     repeat (first | exact fa | ((first | refine fb ?_ | (refine And.intro ?_ ?_; rotate_left)); conv => whnf))
     all_goals trace_state
    ·rintro ⟨k, c, F'⟩ ⟨hk, hT⟩
     have hk : k ≤ b.length := hk
     have hT : (c, F') = tin (a.getD i 0) (fun i => b.getD i 0) i F k := hT
     have ht := ht k
     have hts := hts k
     rw [← hT] at ht hts
     obtain ⟨t1, t2, t3, _⟩ := ht
     have t1 : c < 65536 := t1
     have t2 : ∀ j, F' j < 65536 := t2
     have b2 := hb.get k
     have e2 : b.getD (k : Int).toNat 0 = b.getD k 0 := rfl
     have e3 : ((i : Int) + (k : Int)).toNat = i + k := by omega
     have e4 : F' ((i : Int) + (k : Int)).toNat = F' (i + k) := by rw [e3]
     have t4 := t2 (i + k)
     have hm := mul_dig b1 b2
     have e5 : ((a.getD (i : Int).toNat 0 : Nat) : Int) * ((b.getD (k : Int).toNat 0 : Nat) : Int) = ((a.getD i 0 * b.getD k 0 : Nat) : Int) := rfl
     by_cases hkl : k < b.length
     ·conv => whnf
      repeat' (first | refine sq ?_ | refine bk ?_ | ((first | refine rg ttok ?_ | refine dw ttok mixed ?_ | refine cd ?_ | refine sk ?_ | refine xt ?_ | refine rt ?_); conv => whnf) | (refine And.intro (fun h => ?_) (fun h => ?_) <;> (try simp only [brsA] at h) <;> conv => whnf) | ((first | refine wf ?_ | refine wp' ?_ | refine ai ?_ | refine And.intro rfl ?_ | refine an ?_); conv => whnf))
      all_goals first | contradiction | (exfalso; omega) | skip
      refine ⟨(k + 1, (F' (i + k) + a.getD i 0 * b.getD k 0 + c) / 65536, updD F' (i + k) ((F' (i + k) + a.getD i 0 * b.getD k 0 + c) % 65536)), ⟨(by show k + 1 ≤ b.length; omega), hts.symm⟩, (by show b.length - (k + 1) < b.length - k; omega), ?_⟩
      have e6 : ((F' ((i : Int) + (k : Int)).toNat : Nat) : Int) + ((a.getD (i : Int).toNat 0 : Nat) : Int) * ((b.getD (k : Int).toNat 0 : Nat) : Int) + (c : Int) = ((F' (i + k) + a.getD i 0 * b.getD k 0 + c : Nat) : Int) := by rw [e4]; rfl
      generalize F' (i + k) + a.getD i 0 * b.getD k 0 + c = n at *
      have e7 : (n : Int).tmod 65536 = ((n % 65536 : Nat) : Int) := tmodN n 65536
      have e8 : IntKind.u64.wrap ((n : Int).tdiv 65536) = ((n / 65536 : Nat) : Int) := by
       rw [show (65536 : Int) = ((65536 : Nat) : Int) from rfl, ← Int.ofNat_tdiv]; exact wr_u64 (by omega)
      conv => whnf
      repeat (first | exact fa | ((first | refine fb ?_ | (refine And.intro ?_ ?_; rotate_left)); conv => whnf))
      all_goals first
       | (rw [e6]; exact e8)
       | (refine Or.inl fun j hj => ?_
          show updRow _ _ _ j = [A.int .u64 ((updD F' (i + k) (n % 65536) j : Nat) : Int)]
          unfold updRow updD
          rw [e6, e7, e3]
          split <;> rfl)
       | trace_state
     ·conv => whnf
      repeat' (first | refine sq ?_ | refine bk ?_ | ((first | refine rg ttok ?_ | refine dw ttok mixed ?_ | refine cd ?_ | refine sk ?_ | refine xt ?_ | refine rt ?_); conv => whnf) | (refine And.intro (fun h => ?_) (fun h => ?_) <;> (try simp only [brsA] at h) <;> conv => whnf) | ((first | refine wf ?_ | refine wp' ?_ | refine ai ?_ | refine And.intro rfl ?_ | refine an ?_); conv => whnf))
      all_goals first | contradiction | (exfalso; omega) | skip
      have e : k = b.length := by omega
      subst e
      rw [← hT] at hs
      refine ⟨(i + 1, updD F' (i + b.length) (F' (i + b.length) + c)), ⟨(by show i + 1 ≤ a.length; omega), hs.symm⟩, (by show a.length - (i + 1) < a.length - i; omega), ?_⟩
      have e9 : IntKind.u64.wrap (((F' ((i : Int) + ((b.length : Nat) : Int)).toNat : Nat) : Int) + (c : Int)) = ((F' (i + b.length) + c : Nat) : Int) := by
       rw [e4, wr_u64 (by omega)]; rfl
      conv => whnf
      repeat (first | exact fa | ((first | refine fb ?_ | (refine And.intro ?_ ?_; rotate_left)); conv => whnf))
      all_goals first
       | (refine Or.inl fun j hj => ?_
          show updRow _ _ _ j = [A.int .u64 ((updD F' (i + b.length) (F' (i + b.length) + c) j : Nat) : Int)]
          unfold updRow updD
          rw [e9, e3]
          split <;> rfl)
       | trace_state
  ·have h := of_decide_eq_false h
   have e : i = a.length := by omega
   subst e
   conv => whnf
   repeat' (first | refine sq ?_ | refine bk ?_ | ((first | refine rg ttok ?_ | refine dw ttok mixed ?_ | refine cd ?_ | refine sk ?_ | refine xt ?_ | refine rt ?_); conv => whnf) | (refine And.intro (fun h => ?_) (fun h => ?_) <;> (try simp only [brsA] at h) <;> conv => whnf) | ((first | refine wf ?_ | refine wp' ?_ | refine ai ?_ | refine And.intro rfl ?_ | refine an ?_); conv => whnf))
   all_goals
    refine Or.inl fun j hj => ?_
    show [A.int .u64 ((F j : Nat) : Int)] = [A.int .u64 ((L.getD j 0 : Nat) : Int)]
    rw [hget hj, hF]
end Go.Proofs.YtcomiiakkhafpaaGreat

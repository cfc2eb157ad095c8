/-
  The walks of the reference of the package num.
-/
import Derived.Test.YtagokdeflnkplaaDoorNum1
set_option linter.unusedSimpArgs false
namespace Go.Proofs.YtagokdeflnkplaaDoor
open Go.Proofs.YtagokdeflnkplaaDoor.Am
variable {G : GInv}
/-! ### The reference's Cut -/
/-- The parts of a text, of which the first ones begin at one place and have been looked at up to another. -/
def hd1 (p : List UInt8) : List (List UInt8) → List (List UInt8)
  | h :: t => (p ++ h) :: t
  | [] => [p]
theorem hd1_nil (l : List (List UInt8)) (h : l ≠ []) : hd1 [] l = l := by
  cases l with
  | nil => exact absurd rfl h
  | cons x l => rfl
theorem hd1_step (c b : UInt8) (p l : List UInt8) (h : b ≠ c) : hd1 p (cutL c (b :: l)) = hd1 (p ++ [b]) (cutL c l) := by
  have hne := cutL_ne c l
  rw [cutL, if_neg h]
  cases hc : cutL c l with
  | nil => exact absurd hc hne
  | cons x t => simp [hd1]
theorem hd1_cut (c : UInt8) (p l : List UInt8) : hd1 p (cutL c (c :: l)) = p :: cutL c l := by
  rw [cutL, if_pos rfl]; simp [hd1]
def part (s : List UInt8) (b i : Nat) : List UInt8 := (s.take i).drop b
theorem part_snoc (s : List UInt8) {b i : Nat} (hb : b ≤ i) (hi : i < s.length) : part s b (i + 1) = part s b i ++ [s.getD i 0] := by
  unfold part
  rw [List.take_add_one, List.getElem?_eq_getElem hi, List.drop_append_of_le_length (by simp; omega)]
  simp [List.getD_eq_getElem?_getD, List.getElem?_eq_getElem hi]
theorem rowCat_str (L : List (List UInt8)) (x : List UInt8) (r : Nat → List A) (hr : r 0 = [.str x]) (i : Nat) (hi : i < L.length + 1) : rowCat L.length (rowStr L) r i = rowStr (L ++ [x]) i := by
  unfold rowCat
  split
  · rename_i h
    have h : i < L.length := Nat.le_of_ble_eq_true h
    simp only [rowStr, List.getD_eq_getElem?_getD, List.getElem?_append_left h]
  · rename_i h
    have h : ¬ i < L.length := fun h' => by rw [show Nat.blt i L.length = true from Nat.ble_eq_true_of_le h'] at h; cases h
    have : i = L.length := by omega
    subst this
    simp [hr, rowStr, List.getD_eq_getElem?_getD]
theorem u8_eq (a c : UInt8) : (a.toNat : Int) = (c.toNat : Int) ↔ a = c := by
  constructor
  · intro h; exact UInt8.toNat_inj.1 (by omega)
  · intro h; rw [h]
set_option maxRecDepth 100000 in
set_option maxHeartbeats 1000000 in
theorem rcut_c (s : List UInt8) (c : UInt8) (hl : s.length ≤ 100000) : ACalls Tryd.prog G 56 [.str s, .int .u8 (c.toNat : Int)] (strsA (cutL c s)) := by
  have hcl := cutL_len c s
  refine ACalls.of_WA ttok Tryd.func56 rfl rfl _ rfl ?_
  conv => whnf
  repeat (first | refine WA_seq ?_ | (refine WA_region ttok ?_; conv => whnf) | (refine WA_draw ttok mixed ?_; conv => whnf) | (refine WA_cond ?_; conv => whnf) | refine WA_block ?_ | (refine WA_skip ?_; conv => whnf) | (refine WA_exit ?_; conv => whnf) | (refine WA_ret ?_; conv => whnf))
  refine WA_loopI (fun x : Nat × Nat × List (List UInt8) => x.2.1 ≤ x.1 ∧ ((x.1 ≤ s.length ∧ x.2.2 ++ hd1 (part s x.2.1 x.1) (cutL c (s.drop x.1)) = cutL c s) ∨ (x.1 = s.length + 1 ∧ x.2.2 = cutL c s))) (fun x => match x with | (i, b, out) => [(7, .int .i64 (i : Int)), (6, .int .i64 (b : Int)), (5, .own 0), (8, .junk)]) (fun x => match x with | (i, b, out) => [.row 9 1 out.length (rowStr out)]) (fun x => s.length + 1 - x.1) (0, 0, []) ⟨Nat.le_refl 0, .inl ⟨Nat.zero_le _, by simp [part, hd1_nil _ (cutL_ne c s)]⟩⟩ ?_ ?_
  · conv => whnf
    repeat (first | exact rfl | exact trivial | exact Or.inl (fun _ _ => rfl) | exact (fun _ => rfl) | exact (fun _ _ => rfl) | exact Or.inl (fun _ hi => absurd hi (Nat.not_lt_zero _)) | (refine And.intro rfl ?_; conv => whnf) | (refine And.intro (Or.inl (fun _ _ => rfl)) ?_; conv => whnf) | (refine And.intro (fun _ => rfl) ?_; conv => whnf) | (refine And.intro (fun _ _ => rfl) ?_; conv => whnf) | (refine And.intro ?_ ?_; rotate_left; conv => whnf))
  · rintro ⟨i, b, out⟩ ⟨hb, hI⟩
    simp only at hb hI
    conv => whnf
    repeat (first | refine WA_seq ?_ | (refine WA_region ttok ?_; conv => whnf) | (refine WA_draw ttok mixed ?_; conv => whnf) | (refine WA_cond ?_; conv => whnf) | refine WA_block ?_ | (refine WA_skip ?_; conv => whnf) | (refine WA_exit ?_; conv => whnf) | (refine WA_ret ?_; conv => whnf))
    refine ⟨fun h => ?_, fun h => ?_⟩
    · have h := of_decide_eq_true h
      have hI := hI.resolve_right (by omega)
      obtain ⟨hi, hI⟩ := hI
      have hol : out.length ≤ s.length + 1 := by
        have := congrArg List.length hI
        simp only [List.length_append] at this
        omega
      by_cases hend : i = s.length
      · subst hend
        rw [List.drop_length] at hI
        have e1 : cutL c [] = [[]] := rfl
        rw [e1] at hI
        conv => whnf
        repeat' (first | refine WA_seq ?_ | (refine WA_region ttok ?_; conv => whnf) | (refine WA_draw ttok mixed ?_; conv => whnf) | (refine WA_cond ?_; conv => whnf) | refine WA_block ?_ | (refine WA_skip ?_; conv => whnf) | (refine WA_exit ?_; conv => whnf) | (refine WA_ret ?_; conv => whnf) | (refine And.intro (fun h => ?_) (fun h => ?_) <;> (try simp only [brsA] at h) <;> conv => whnf) | (refine WR_fit ?_ ?_; (focus (first | exact wr_i64 (by omega) | exact wr_u64 (by omega) | exact wr_u8 (by omega) | exact wr_i32 (by omega) | exact wr_u32 (by omega))); conv => whnf) | (refine WR_wrap ?_; conv => whnf) | (refine And.intro (a := indepB _ _ = true) ?_ ?_; (focus kernel_rfl); conv => whnf) | (refine And.intro rfl ?_; conv => whnf) | (refine And.intro ?_ ?_; (focus (first | omega | decide | (dsimp only; omega) | (simp at *; omega))); conv => whnf))
        all_goals first | contradiction | (exfalso; omega) | skip
        refine ⟨(s.length + 1, s.length + 1, out ++ [part s b s.length]), ⟨Nat.le_refl _, .inr ⟨rfl, by rw [← hI]; simp [hd1]⟩⟩, (by show s.length + 1 - (s.length + 1) < s.length + 1 - s.length; omega), ?_⟩
        conv => whnf
        repeat (first | exact rfl | exact trivial | exact Or.inl (fun _ _ => rfl) | exact (fun _ => rfl) | exact (fun _ _ => rfl) | exact Or.inl (fun _ hi => absurd hi (Nat.not_lt_zero _)) | (refine And.intro rfl ?_; conv => whnf) | (refine And.intro (Or.inl (fun _ _ => rfl)) ?_; conv => whnf) | (refine And.intro (fun _ => rfl) ?_; conv => whnf) | (refine And.intro (fun _ _ => rfl) ?_; conv => whnf) | (refine And.intro ?_ ?_; rotate_left; conv => whnf))
        all_goals first | (refine Or.inl fun t ht => ?_; exact rowCat_str out _ _ rfl t ht) | (simp; done) | trace_state
      · have hlt : i < s.length := by omega
        have hdr : s.drop i = s.getD i 0 :: s.drop (i + 1) := by
          rw [List.drop_eq_getElem_cons hlt, List.getD_eq_getElem?_getD, List.getElem?_eq_getElem hlt]; rfl
        have hps := part_snoc s hb hlt
        have hu := u8_eq (s.getD i 0) c
        rw [hdr] at hI
        conv => whnf
        repeat' (first | refine WA_seq ?_ | (refine WA_region ttok ?_; conv => whnf) | (refine WA_draw ttok mixed ?_; conv => whnf) | (refine WA_cond ?_; conv => whnf) | refine WA_block ?_ | (refine WA_skip ?_; conv => whnf) | (refine WA_exit ?_; conv => whnf) | (refine WA_ret ?_; conv => whnf) | (refine And.intro (fun h => ?_) (fun h => ?_) <;> (try simp only [brsA] at h) <;> conv => whnf) | (refine WR_fit ?_ ?_; (focus (first | exact wr_i64 (by omega) | exact wr_u64 (by omega) | exact wr_u8 (by omega) | exact wr_i32 (by omega) | exact wr_u32 (by omega))); conv => whnf) | (refine WR_wrap ?_; conv => whnf) | (refine And.intro (a := indepB _ _ = true) ?_ ?_; (focus kernel_rfl); conv => whnf) | (refine And.intro rfl ?_; conv => whnf) | (refine And.intro ?_ ?_; (focus (first | omega | decide | (dsimp only; omega) | (simp at *; omega))); conv => whnf))
        all_goals first | contradiction | (exfalso; omega) | skip
        · have hc : s.getD i 0 = c := hu.1 h
          rw [hc, hd1_cut] at hI
          refine ⟨(i + 1, i + 1, out ++ [part s b i]), ⟨Nat.le_refl _, .inl ⟨by show i + 1 ≤ s.length; omega, ?_⟩⟩, (by show s.length + 1 - (i + 1) < s.length + 1 - i; omega), ?_⟩
          · have : part s (i + 1) (i + 1) = [] := by unfold part; rw [List.drop_eq_nil_of_le]; rw [List.length_take]; omega
            show (out ++ [part s b i]) ++ hd1 (part s (i + 1) (i + 1)) (cutL c (s.drop (i + 1))) = cutL c s
            rw [this, hd1_nil _ (cutL_ne c _), ← hI, List.append_assoc]; rfl
          · conv => whnf
            repeat (first | exact rfl | exact trivial | exact Or.inl (fun _ _ => rfl) | exact (fun _ => rfl) | exact (fun _ _ => rfl) | exact Or.inl (fun _ hi => absurd hi (Nat.not_lt_zero _)) | (refine And.intro rfl ?_; conv => whnf) | (refine And.intro (Or.inl (fun _ _ => rfl)) ?_; conv => whnf) | (refine And.intro (fun _ => rfl) ?_; conv => whnf) | (refine And.intro (fun _ _ => rfl) ?_; conv => whnf) | (refine And.intro ?_ ?_; rotate_left; conv => whnf))
            all_goals first | (refine Or.inl fun t ht => ?_; exact rowCat_str out _ _ rfl t ht) | (simp; done) | trace_state
        · have hc : s.getD i 0 ≠ c := fun q => h (hu.2 q)
          rw [hd1_step c _ _ _ hc, ← hps] at hI
          refine ⟨(i + 1, b, out), ⟨by show b ≤ i + 1; omega, .inl ⟨by show i + 1 ≤ s.length; omega, hI⟩⟩, (by show s.length + 1 - (i + 1) < s.length + 1 - i; omega), ?_⟩
          conv => whnf
          repeat (first | exact rfl | exact trivial | exact Or.inl (fun _ _ => rfl) | exact (fun _ => rfl) | exact (fun _ _ => rfl) | exact Or.inl (fun _ hi => absurd hi (Nat.not_lt_zero _)) | (refine And.intro rfl ?_; conv => whnf) | (refine And.intro (Or.inl (fun _ _ => rfl)) ?_; conv => whnf) | (refine And.intro (fun _ => rfl) ?_; conv => whnf) | (refine And.intro (fun _ _ => rfl) ?_; conv => whnf) | (refine And.intro ?_ ?_; rotate_left; conv => whnf))
    · have h := of_decide_eq_false h
      have hI := hI.resolve_left (by omega)
      rw [hI.2]
      conv => whnf
      repeat' (first | refine WA_seq ?_ | (refine WA_region ttok ?_; conv => whnf) | (refine WA_draw ttok mixed ?_; conv => whnf) | (refine WA_cond ?_; conv => whnf) | refine WA_block ?_ | (refine WA_skip ?_; conv => whnf) | (refine WA_exit ?_; conv => whnf) | (refine WA_ret ?_; conv => whnf) | (refine And.intro (fun h => ?_) (fun h => ?_) <;> (try simp only [brsA] at h) <;> conv => whnf) | (refine WR_fit ?_ ?_; (focus (first | exact wr_i64 (by omega) | exact wr_u64 (by omega) | exact wr_u8 (by omega) | exact wr_i32 (by omega) | exact wr_u32 (by omega))); conv => whnf) | (refine WR_wrap ?_; conv => whnf) | (refine And.intro (a := indepB _ _ = true) ?_ ?_; (focus kernel_rfl); conv => whnf) | (refine And.intro rfl ?_; conv => whnf) | (refine And.intro ?_ ?_; (focus (first | omega | decide | (dsimp only; omega) | (simp at *; omega))); conv => whnf))
      exact Or.inl fun _ _ => rfl
end Go.Proofs.YtagokdeflnkplaaDoor
set_option linter.unusedSimpArgs false
namespace Go.Proofs.YtagokdeflnkplaaDoor
open Go.Proofs.YtagokdeflnkplaaDoor.Am
variable {G : GInv}
theorem bare_min (s : List UInt8) (h : s.getD 0 0 = 45) (h0 : s ≠ []) : minP s = true ∧ bareP s = s.drop 1 := by
  cases s with
  | nil => exact absurd rfl h0
  | cons x t =>
    have hx : x = 45 := by simpa using h
    subst hx
    have : Lib.hasPrefix (45 :: t) [45] = true := by simp [Lib.hasPrefix, List.isPrefixOf]
    refine ⟨this, ?_⟩
    unfold bareP Lib.trimPrefix
    rw [if_pos this]; rfl
theorem bare_no (s : List UInt8) (h : ¬ s.getD 0 0 = 45) : minP s = false ∧ bareP s = s := by
  have : Lib.hasPrefix s [45] = false := by
    cases s with
    | nil => rfl
    | cons x t =>
      have hx : ¬ x = 45 := by simpa using h
      have : (45 == x) = false := by rw [beq_eq_false_iff_ne]; exact fun e => hx e.symm
      simp [Lib.hasPrefix, List.isPrefixOf, this]
  refine ⟨this, ?_⟩
  unfold bareP Lib.trimPrefix
  rw [if_neg (by rw [this]; exact Bool.noConfusion)]
/-- The same, by where the digits begin. -/
def begP (s : List UInt8) : Nat := if s ≠ [] ∧ s.getD 0 0 = 45 then 1 else 0
theorem begP_spec (s : List UInt8) : bareP s = s.drop (begP s) ∧ (minP s = true ↔ begP s = 1) ∧ (begP s = 0 ∨ begP s = 1) ∧ begP s ≤ s.length := by
  unfold begP
  by_cases h : s ≠ [] ∧ s.getD 0 0 = 45
  · rw [if_pos h]
    obtain ⟨h1, h2⟩ := bare_min s h.2 h.1
    exact ⟨h2, by simp [h1], .inr rfl, List.length_pos_iff.2 h.1⟩
  · rw [if_neg h]
    have h' : ¬ s.getD 0 0 = 45 := by
      intro e
      by_cases h0 : s = []
      · subst h0; simp at e
      · exact h ⟨h0, e⟩
    obtain ⟨h1, h2⟩ := bare_no s h'
    exact ⟨h2, by simp [h1], .inl rfl, Nat.zero_le _⟩
theorem numP_iff (s : List UInt8) : numP s ↔ (begP s < s.length ∧ ¬ (s.getD (begP s) 0 = 48 ∧ 1 < s.length) ∧ ∀ j, begP s ≤ j → j < s.length → isD (s.getD j 0)) := by
  obtain ⟨h1, h2, h3, h4⟩ := begP_spec s
  have hg : ∀ j, (s.drop (begP s)).getD j 0 = s.getD (begP s + j) 0 := fun j => by simp [List.getD_eq_getElem?_getD]
  have hl : (s.drop (begP s)).length = s.length - begP s := by simp
  unfold numP digP
  rw [h1, h2]
  constructor
  · rintro ⟨⟨g1, g2, g3⟩, g4⟩
    have gl : begP s < s.length := by
      have := List.length_pos_iff.2 g1; omega
    refine ⟨gl, ?_, fun j hj1 hj2 => ?_⟩
    · rintro ⟨q1, q2⟩
      rw [hg, hl] at g2
      by_cases hb : begP s = 1 ∧ s.length = 2
      · refine g4 ⟨hb.1, ?_⟩
        apply List.ext_getElem?
        intro i
        rw [List.getElem?_drop]
        rcases i with _ | i
        · rw [hb.1] at q1 ⊢
          have : s[1 + 0]? = some (s.getD 1 0) := by rw [List.getD_eq_getElem?_getD, List.getElem?_eq_getElem (by omega)]; simp
          rw [this, q1]; rfl
        · rw [List.getElem?_eq_none (by omega)]; simp
      · exact g2 ⟨by rw [Nat.add_zero]; exact q1, by omega⟩
    · have := g3 (j - begP s) (by rw [hl]; omega)
      rw [hg, show begP s + (j - begP s) = j by omega] at this
      exact this
  · rintro ⟨gl, g2, g3⟩
    refine ⟨⟨List.length_pos_iff.1 (by omega), ?_, fun j hj => ?_⟩, ?_⟩
    · rw [hg, hl, Nat.add_zero]
      rintro ⟨q1, q2⟩
      exact g2 ⟨q1, by omega⟩
    · rw [hg]; exact g3 _ (by omega) (by rw [hl] at hj; omega)
    · rintro ⟨q1, q2⟩
      have e1 := hg 0
      rw [q2] at e1
      have hlen : s.length = 2 := by
        have := congrArg List.length q2
        rw [hl] at this
        simp at this; omega
      exact g2 ⟨by rw [Nat.add_zero] at e1; rw [← e1]; rfl, by omega⟩
end Go.Proofs.YtagokdeflnkplaaDoor
set_option linter.unusedSimpArgs false
namespace Go.Proofs.YtagokdeflnkplaaDoor
open Go.Proofs.YtagokdeflnkplaaDoor.Am
variable {G : GInv}
theorem beg_iff (s : List UInt8) : begP s = 1 ↔ (s ≠ [] ∧ s.getD 0 0 = 45) := by unfold begP; split <;> simp_all
theorem part_self (s : List UInt8) (b : Nat) : part s b b = [] := by unfold part; rw [List.drop_eq_nil_of_le]; rw [List.length_take]; omega
set_option maxRecDepth 100000 in
set_option maxHeartbeats 2000000 in
theorem rparse_1 (s : List UInt8) (hl : s.length ≤ 100000) (hb : begP s = 1) : ACalls Tryd.prog G 44 [.str s] (.tup [.int .i64 (parseN s).1, .int .i64 (parseN s).2]) := by
  have hbe := beg_iff s
  rw [hb] at hbe
  have hlen : 0 < s.length ↔ s ≠ [] := List.length_pos_iff
  have h45 : ((s.getD (Int.toNat 0) 0).toNat : Int) = 45 ↔ s.getD 0 0 = 45 := u8_eq _ 45
  have hb48 : ((s.getD (Int.toNat 1) 0).toNat : Int) = 48 ↔ s.getD 1 0 = 48 := u8_eq _ 48
  have hni := numP_iff s
  obtain ⟨hs1, hs2, _, _⟩ := begP_spec s
  rw [hb] at hni hs1 hs2
  have hA : (0 < s.length ∧ ((s.getD (Int.toNat 0) 0).toNat : Int) = 45) := by rw [h45, hlen]; exact hbe.1 rfl
  have hnd : ∀ i, 1 ≤ i → i < s.length → ¬ isD (s.getD i 0) → parseN s = (0, 2) := fun i h1 h2 h3 => by
    unfold parseN; rw [if_neg (fun h => h3 ((hni.1 h).2.2 i h1 h2))]
  by_cases hpre : 1 < s.length ∧ ¬ (s.getD 1 0 = 48 ∧ 1 < s.length)
  · have hP : 1 < s.length ∧ ¬ (((s.getD (Int.toNat 1) 0).toNat : Int) = 48 ∧ 1 < s.length) := by rw [hb48]; exact hpre
    clear h45 hb48 hlen hbe
    refine ACalls.of_WA ttok Tryd.func44 rfl rfl _ rfl ?_
    conv => whnf
    repeat' (first | refine WA_seq ?_ | (refine WA_region ttok ?_; conv => whnf) | (refine WA_draw ttok mixed ?_; conv => whnf) | (refine WA_cond ?_; conv => whnf) | refine WA_block ?_ | (refine WA_skip ?_; conv => whnf) | (refine WA_exit ?_; conv => whnf) | (refine WA_ret ?_; conv => whnf) | (refine And.intro (fun h => ?_) (fun h => ?_) <;> (try simp only [brsA] at h) <;> conv => whnf) | (refine WR_fit ?_ ?_; (focus (first | exact wr_i64 (by omega) | exact wr_u64 (by omega) | exact wr_u8 (by omega) | exact wr_i32 (by omega) | exact wr_u32 (by omega))); conv => whnf) | (refine WR_wrap ?_; conv => whnf) | (refine And.intro (a := indepB _ _ = true) ?_ ?_; (focus kernel_rfl); conv => whnf) | (refine And.intro rfl ?_; conv => whnf) | (refine And.intro ?_ ?_; (focus (first | omega | decide | (dsimp only; omega) | (simp at *; omega))); conv => whnf))
    all_goals first | contradiction | (exfalso; omega) | skip
    all_goals
      refine WA_loopI (fun x : Nat × Nat => (1 ≤ x.1 ∧ x.1 ≤ s.length) ∧ (∀ j, 1 ≤ j → j < x.1 → isD (s.getD j 0)) ∧ ((1152921504606846976 < nval (part s 1 x.1) ∧ x.2 ≤ 1152921504606846976) ∨ (nval (part s 1 x.1) ≤ 1152921504606846976 ∧ x.2 = nval (part s 1 x.1)))) (fun x => match x with | (i, n) => [(7, .int .i64 (i : Int)), (4, .int .i64 (n : Int)), (6, .sb (decide (1152921504606846976 < nval (part s 1 i))))]) (fun _ => []) (fun x => s.length - x.1) (1, 0) ⟨by omega, fun j h1 h2 => by omega, .inr (by rw [part_self]; exact ⟨by decide, rfl⟩)⟩ ?_ ?_
      · conv => whnf
        repeat (first | exact rfl | exact trivial | exact Or.inl (fun _ _ => rfl) | exact (fun _ => rfl) | exact (fun _ _ => rfl) | exact Or.inl (fun _ hi => absurd hi (Nat.not_lt_zero _)) | (refine And.intro rfl ?_; conv => whnf) | (refine And.intro (Or.inl (fun _ _ => rfl)) ?_; conv => whnf) | (refine And.intro (fun _ => rfl) ?_; conv => whnf) | (refine And.intro (fun _ _ => rfl) ?_; conv => whnf) | (refine And.intro ?_ ?_; rotate_left; conv => whnf))
        all_goals (rw [part_self]; rfl)
      · rintro ⟨i, n⟩ ⟨⟨hi1, hi2⟩, hd, hv⟩
        simp only at hi1 hi2 hd hv
        conv => whnf
        repeat (first | refine WA_seq ?_ | (refine WA_region ttok ?_; conv => whnf) | (refine WA_draw ttok mixed ?_; conv => whnf) | (refine WA_cond ?_; conv => whnf) | refine WA_block ?_ | (refine WA_skip ?_; conv => whnf) | (refine WA_exit ?_; conv => whnf) | (refine WA_ret ?_; conv => whnf))
        refine ⟨fun h => ?_, fun h => ?_⟩
        · have h := of_decide_eq_true h
          have hps := part_snoc s (b := 1) (i := i) hi1 (by omega)
          have hnv : nval (part s 1 (i + 1)) = 10 * nval (part s 1 i) + ((s.getD i 0).toNat - 48) := by rw [hps, nval_snoc]
          have hti : (s.getD (i : Int).toNat 0).toNat = (s.getD i 0).toNat := rfl
          have htd : 48 ≤ ((s.getD (i : Int).toNat 0).toNat : Int) → ((s.getD (i : Int).toNat 0).toNat : Int) ≤ 57 →
              (10 * Int.tdiv (1152921504606846976 - (((s.getD (i : Int).toNat 0).toNat : Int) - 48)) 10 ≤ 1152921504606846976 - (((s.getD (i : Int).toNat 0).toNat : Int) - 48) ∧
                1152921504606846976 - (((s.getD (i : Int).toNat 0).toNat : Int) - 48) < 10 * Int.tdiv (1152921504606846976 - (((s.getD (i : Int).toNat 0).toNat : Int) - 48)) 10 + 10) := by
            intro q1 q2
            rw [Int.tdiv_eq_ediv_of_nonneg (by omega)]
            omega
          have hdi : 48 ≤ (s.getD i 0).toNat → (s.getD i 0).toNat ≤ 57 → ∀ j, 1 ≤ j → j < i + 1 → isD (s.getD j 0) := fun q1 q2 j h1 h2 => by
            rcases Nat.lt_or_eq_of_le (Nat.le_of_lt_succ h2) with q | q
            · exact hd j h1 q
            · rw [q]; exact ⟨q1, q2⟩
          by_cases hbig : 1152921504606846976 < nval (part s 1 i)
          · have hv := hv.resolve_right (by omega)
            conv => whnf
            repeat' (first | refine WA_seq ?_ | (refine WA_region ttok ?_; conv => whnf) | (refine WA_draw ttok mixed ?_; conv => whnf) | (refine WA_cond ?_; conv => whnf) | refine WA_block ?_ | (refine WA_skip ?_; conv => whnf) | (refine WA_exit ?_; conv => whnf) | (refine WA_ret ?_; conv => whnf) | (refine And.intro (fun h => ?_) (fun h => ?_) <;> (try simp only [brsA] at h) <;> conv => whnf) | (refine WR_fit ?_ ?_; (focus (first | exact wr_i64 (by omega) | exact wr_u64 (by omega) | exact wr_u8 (by omega) | exact wr_i32 (by omega) | exact wr_u32 (by omega))); conv => whnf) | (refine WR_wrap ?_; conv => whnf) | (refine And.intro (a := indepB _ _ = true) ?_ ?_; (focus kernel_rfl); conv => whnf) | (refine And.intro rfl ?_; conv => whnf) | (refine And.intro ?_ ?_; (focus (first | omega | decide | (dsimp only; omega) | (simp at *; omega))); conv => whnf))
            all_goals first | contradiction | (exfalso; omega) | (rw [hnd i hi1 (by omega) (fun q => by have := q.1; have := q.2; omega)]; exact ⟨rfl, rfl⟩) | skip
            all_goals
              refine ⟨(i + 1, n), ⟨by show 1 ≤ i + 1 ∧ i + 1 ≤ s.length; omega, hdi (by omega) (by omega), .inl ⟨by show 1152921504606846976 < nval (part s 1 (i + 1)); omega, hv.2⟩⟩, (by show s.length - (i + 1) < s.length - i; omega), ?_⟩
              conv => whnf
              repeat (first | exact rfl | exact trivial | exact Or.inl (fun _ _ => rfl) | exact (fun _ => rfl) | exact (fun _ _ => rfl) | exact Or.inl (fun _ hi => absurd hi (Nat.not_lt_zero _)) | (refine And.intro rfl ?_; conv => whnf) | (refine And.intro (Or.inl (fun _ _ => rfl)) ?_; conv => whnf) | (refine And.intro (fun _ => rfl) ?_; conv => whnf) | (refine And.intro (fun _ _ => rfl) ?_; conv => whnf) | (refine And.intro ?_ ?_; rotate_left; conv => whnf))
              all_goals (first | rfl | exact (decide_eq_true (by omega)).symm | exact (decide_eq_false (by omega)).symm | exact decide_eq_decide.2 (by omega) | (rw [Bool.eq_iff_iff]; simp only [brsE] at *; omega))
          · have hv := hv.resolve_left (by omega)
            conv => whnf
            repeat' (first | refine WA_seq ?_ | (refine WA_region ttok ?_; conv => whnf) | (refine WA_draw ttok mixed ?_; conv => whnf) | (refine WA_cond ?_; conv => whnf) | refine WA_block ?_ | (refine WA_skip ?_; conv => whnf) | (refine WA_exit ?_; conv => whnf) | (refine WA_ret ?_; conv => whnf) | (refine And.intro (fun h => ?_) (fun h => ?_) <;> (try simp only [brsA] at h) <;> conv => whnf) | (refine WR_fit ?_ ?_; (focus (first | exact wr_i64 (by omega) | exact wr_u64 (by omega) | exact wr_u8 (by omega) | exact wr_i32 (by omega) | exact wr_u32 (by omega))); conv => whnf) | (refine WR_wrap ?_; conv => whnf) | (refine And.intro (a := indepB _ _ = true) ?_ ?_; (focus kernel_rfl); conv => whnf) | (refine And.intro rfl ?_; conv => whnf) | (refine And.intro ?_ ?_; (focus (first | omega | decide | (dsimp only; omega) | (simp at *; omega))); conv => whnf))
            all_goals first | contradiction | (exfalso; omega) | (rw [hnd i hi1 (by omega) (fun q => by have := q.1; have := q.2; omega)]; exact ⟨rfl, rfl⟩) | skip
            all_goals
              have hlo : 48 ≤ (s.getD i 0).toNat ∧ (s.getD i 0).toNat ≤ 57 := by omega
              have hdn := hdi hlo.1 hlo.2
              by_cases hnb : 1152921504606846976 < nval (part s 1 (i + 1))
              · first
                  | (exfalso; omega)
                  | (refine ⟨(i + 1, n), ⟨by show 1 ≤ i + 1 ∧ i + 1 ≤ s.length; omega, hdn, .inl ⟨hnb, by show n ≤ 1152921504606846976; omega⟩⟩, (by show s.length - (i + 1) < s.length - i; omega), ?_⟩
                     conv => whnf
                     repeat (first | exact rfl | exact trivial | exact Or.inl (fun _ _ => rfl) | exact (fun _ => rfl) | exact (fun _ _ => rfl) | exact Or.inl (fun _ hi => absurd hi (Nat.not_lt_zero _)) | (refine And.intro rfl ?_; conv => whnf) | (refine And.intro (Or.inl (fun _ _ => rfl)) ?_; conv => whnf) | (refine And.intro (fun _ => rfl) ?_; conv => whnf) | (refine And.intro (fun _ _ => rfl) ?_; conv => whnf) | (refine And.intro ?_ ?_; rotate_left; conv => whnf))
                     all_goals (first | rfl | exact (decide_eq_true (by omega)).symm | exact (decide_eq_false (by omega)).symm | exact decide_eq_decide.2 (by omega) | (rw [Bool.eq_iff_iff]; simp only [brsE] at *; omega)))
              · first
                  | (exfalso; omega)
                  | (refine ⟨(i + 1, nval (part s 1 (i + 1))), ⟨by show 1 ≤ i + 1 ∧ i + 1 ≤ s.length; omega, hdn, .inr ⟨Nat.le_of_not_lt hnb, rfl⟩⟩, (by show s.length - (i + 1) < s.length - i; omega), ?_⟩
                     conv => whnf
                     repeat (first | exact rfl | exact trivial | exact Or.inl (fun _ _ => rfl) | exact (fun _ => rfl) | exact (fun _ _ => rfl) | exact Or.inl (fun _ hi => absurd hi (Nat.not_lt_zero _)) | (refine And.intro rfl ?_; conv => whnf) | (refine And.intro (Or.inl (fun _ _ => rfl)) ?_; conv => whnf) | (refine And.intro (fun _ => rfl) ?_; conv => whnf) | (refine And.intro (fun _ _ => rfl) ?_; conv => whnf) | (refine And.intro ?_ ?_; rotate_left; conv => whnf))
                     all_goals first | (first | rfl | exact (decide_eq_true (by omega)).symm | exact (decide_eq_false (by omega)).symm | exact decide_eq_decide.2 (by omega) | (rw [Bool.eq_iff_iff]; simp only [brsE] at *; omega)) | omega)
        · have h := of_decide_eq_false h
          have hn : numP s := hni.2 ⟨hpre.1, hpre.2, fun j h1 h2 => hd j h1 (by omega)⟩
          have e : i = s.length := by omega
          subst e
          have hpf : part s 1 s.length = bareP s := by rw [hs1]; unfold part; rw [List.take_length]
          rw [hpf] at hv
          rw [hpf]
          unfold parseN
          rw [if_pos hn]
          conv => whnf
          repeat' (first | refine WA_seq ?_ | (refine WA_region ttok ?_; conv => whnf) | (refine WA_draw ttok mixed ?_; conv => whnf) | (refine WA_cond ?_; conv => whnf) | refine WA_block ?_ | (refine WA_skip ?_; conv => whnf) | (refine WA_exit ?_; conv => whnf) | (refine WA_ret ?_; conv => whnf) | (refine And.intro (fun h => ?_) (fun h => ?_) <;> (try simp only [brsA] at h) <;> conv => whnf) | (refine WR_fit ?_ ?_; (focus (first | exact wr_i64 (by omega) | exact wr_u64 (by omega) | exact wr_u8 (by omega) | exact wr_i32 (by omega) | exact wr_u32 (by omega))); conv => whnf) | (refine WR_wrap ?_; conv => whnf) | (refine And.intro (a := indepB _ _ = true) ?_ ?_; (focus kernel_rfl); conv => whnf) | (refine And.intro rfl ?_; conv => whnf) | (refine And.intro ?_ ?_; (focus (first | omega | decide | (dsimp only; omega) | (simp at *; omega))); conv => whnf))
          · rw [if_pos h]; exact ⟨rfl, rfl⟩
          all_goals (first | contradiction | (obtain ⟨_, hv⟩ := hv.resolve_left (by omega); rw [if_neg (by omega), if_pos (hs2.2 rfl), hv]; exact ⟨rfl, rfl⟩))
  · have hn : ¬ numP s := fun h => hpre ⟨(hni.1 h).1, (hni.1 h).2.1⟩
    unfold parseN
    rw [if_neg hn]
    have hP : ¬ (1 < s.length ∧ ¬ (((s.getD (Int.toNat 1) 0).toNat : Int) = 48 ∧ 1 < s.length)) := by rw [hb48]; exact hpre
    refine ACalls.of_WA ttok Tryd.func44 rfl rfl _ rfl ?_
    conv => whnf
    repeat' (first | refine WA_seq ?_ | (refine WA_region ttok ?_; conv => whnf) | (refine WA_draw ttok mixed ?_; conv => whnf) | (refine WA_cond ?_; conv => whnf) | refine WA_block ?_ | (refine WA_skip ?_; conv => whnf) | (refine WA_exit ?_; conv => whnf) | (refine WA_ret ?_; conv => whnf) | (refine And.intro (fun h => ?_) (fun h => ?_) <;> (try simp only [brsA] at h) <;> conv => whnf) | (refine WR_fit ?_ ?_; (focus (first | exact wr_i64 (by omega) | exact wr_u64 (by omega) | exact wr_u8 (by omega) | exact wr_i32 (by omega) | exact wr_u32 (by omega))); conv => whnf) | (refine WR_wrap ?_; conv => whnf) | (refine And.intro (a := indepB _ _ = true) ?_ ?_; (focus kernel_rfl); conv => whnf) | (refine And.intro rfl ?_; conv => whnf) | (refine And.intro ?_ ?_; (focus (first | omega | decide | (dsimp only; omega) | (simp at *; omega))); conv => whnf))
    all_goals first | contradiction | (exfalso; omega) | exact ⟨rfl, rfl⟩ | skip
    all_goals trace_state
set_option maxRecDepth 100000 in
set_option maxHeartbeats 2000000 in
theorem rparse_0 (s : List UInt8) (hl : s.length ≤ 100000) (hb : begP s = 0) : ACalls Tryd.prog G 44 [.str s] (.tup [.int .i64 (parseN s).1, .int .i64 (parseN s).2]) := by
  have hbe := beg_iff s
  rw [hb] at hbe
  have hlen : 0 < s.length ↔ s ≠ [] := List.length_pos_iff
  have h45 : ((s.getD (Int.toNat 0) 0).toNat : Int) = 45 ↔ s.getD 0 0 = 45 := u8_eq _ 45
  have hb48 : ((s.getD (Int.toNat 0) 0).toNat : Int) = 48 ↔ s.getD 0 0 = 48 := u8_eq _ 48
  have hni := numP_iff s
  obtain ⟨hs1, hs2, _, _⟩ := begP_spec s
  rw [hb] at hni hs1 hs2
  have hA : ¬ (0 < s.length ∧ ((s.getD (Int.toNat 0) 0).toNat : Int) = 45) := by rw [h45, hlen]; exact fun h => by have := hbe.2 h; omega
  have hnd : ∀ i, 0 ≤ i → i < s.length → ¬ isD (s.getD i 0) → parseN s = (0, 2) := fun i h1 h2 h3 => by
    unfold parseN; rw [if_neg (fun h => h3 ((hni.1 h).2.2 i h1 h2))]
  by_cases hpre : 0 < s.length ∧ ¬ (s.getD 0 0 = 48 ∧ 1 < s.length)
  · have hP : 0 < s.length ∧ ¬ (((s.getD (Int.toNat 0) 0).toNat : Int) = 48 ∧ 1 < s.length) := by rw [hb48]; exact hpre
    clear h45 hb48 hlen hbe
    refine ACalls.of_WA ttok Tryd.func44 rfl rfl _ rfl ?_
    conv => whnf
    repeat' (first | refine WA_seq ?_ | (refine WA_region ttok ?_; conv => whnf) | (refine WA_draw ttok mixed ?_; conv => whnf) | (refine WA_cond ?_; conv => whnf) | refine WA_block ?_ | (refine WA_skip ?_; conv => whnf) | (refine WA_exit ?_; conv => whnf) | (refine WA_ret ?_; conv => whnf) | (refine And.intro (fun h => ?_) (fun h => ?_) <;> (try simp only [brsA] at h) <;> conv => whnf) | (refine WR_fit ?_ ?_; (focus (first | exact wr_i64 (by omega) | exact wr_u64 (by omega) | exact wr_u8 (by omega) | exact wr_i32 (by omega) | exact wr_u32 (by omega))); conv => whnf) | (refine WR_wrap ?_; conv => whnf) | (refine And.intro (a := indepB _ _ = true) ?_ ?_; (focus kernel_rfl); conv => whnf) | (refine And.intro rfl ?_; conv => whnf) | (refine And.intro ?_ ?_; (focus (first | omega | decide | (dsimp only; omega) | (simp at *; omega))); conv => whnf))
    all_goals first | contradiction | (exfalso; omega) | skip
    all_goals
      refine WA_loopI (fun x : Nat × Nat => (0 ≤ x.1 ∧ x.1 ≤ s.length) ∧ (∀ j, 0 ≤ j → j < x.1 → isD (s.getD j 0)) ∧ ((1152921504606846976 < nval (part s 0 x.1) ∧ x.2 ≤ 1152921504606846976) ∨ (nval (part s 0 x.1) ≤ 1152921504606846976 ∧ x.2 = nval (part s 0 x.1)))) (fun x => match x with | (i, n) => [(7, .int .i64 (i : Int)), (4, .int .i64 (n : Int)), (6, .sb (decide (1152921504606846976 < nval (part s 0 i))))]) (fun _ => []) (fun x => s.length - x.1) (0, 0) ⟨by omega, fun j h1 h2 => by omega, .inr (by rw [part_self]; exact ⟨by decide, rfl⟩)⟩ ?_ ?_
      · conv => whnf
        repeat (first | exact rfl | exact trivial | exact Or.inl (fun _ _ => rfl) | exact (fun _ => rfl) | exact (fun _ _ => rfl) | exact Or.inl (fun _ hi => absurd hi (Nat.not_lt_zero _)) | (refine And.intro rfl ?_; conv => whnf) | (refine And.intro (Or.inl (fun _ _ => rfl)) ?_; conv => whnf) | (refine And.intro (fun _ => rfl) ?_; conv => whnf) | (refine And.intro (fun _ _ => rfl) ?_; conv => whnf) | (refine And.intro ?_ ?_; rotate_left; conv => whnf))
        all_goals (rw [part_self]; rfl)
      · rintro ⟨i, n⟩ ⟨⟨hi1, hi2⟩, hd, hv⟩
        simp only at hi1 hi2 hd hv
        conv => whnf
        repeat (first | refine WA_seq ?_ | (refine WA_region ttok ?_; conv => whnf) | (refine WA_draw ttok mixed ?_; conv => whnf) | (refine WA_cond ?_; conv => whnf) | refine WA_block ?_ | (refine WA_skip ?_; conv => whnf) | (refine WA_exit ?_; conv => whnf) | (refine WA_ret ?_; conv => whnf))
        refine ⟨fun h => ?_, fun h => ?_⟩
        · have h := of_decide_eq_true h
          have hps := part_snoc s (b := 0) (i := i) hi1 (by omega)
          have hnv : nval (part s 0 (i + 1)) = 10 * nval (part s 0 i) + ((s.getD i 0).toNat - 48) := by rw [hps, nval_snoc]
          have hti : (s.getD (i : Int).toNat 0).toNat = (s.getD i 0).toNat := rfl
          have htd : 48 ≤ ((s.getD (i : Int).toNat 0).toNat : Int) → ((s.getD (i : Int).toNat 0).toNat : Int) ≤ 57 →
              (10 * Int.tdiv (1152921504606846976 - (((s.getD (i : Int).toNat 0).toNat : Int) - 48)) 10 ≤ 1152921504606846976 - (((s.getD (i : Int).toNat 0).toNat : Int) - 48) ∧
                1152921504606846976 - (((s.getD (i : Int).toNat 0).toNat : Int) - 48) < 10 * Int.tdiv (1152921504606846976 - (((s.getD (i : Int).toNat 0).toNat : Int) - 48)) 10 + 10) := by
            intro q1 q2
            rw [Int.tdiv_eq_ediv_of_nonneg (by omega)]
            omega
          have hdi : 48 ≤ (s.getD i 0).toNat → (s.getD i 0).toNat ≤ 57 → ∀ j, 0 ≤ j → j < i + 1 → isD (s.getD j 0) := fun q1 q2 j h1 h2 => by
            rcases Nat.lt_or_eq_of_le (Nat.le_of_lt_succ h2) with q | q
            · exact hd j h1 q
            · rw [q]; exact ⟨q1, q2⟩
          by_cases hbig : 1152921504606846976 < nval (part s 0 i)
          · have hv := hv.resolve_right (by omega)
            conv => whnf
            repeat' (first | refine WA_seq ?_ | (refine WA_region ttok ?_; conv => whnf) | (refine WA_draw ttok mixed ?_; conv => whnf) | (refine WA_cond ?_; conv => whnf) | refine WA_block ?_ | (refine WA_skip ?_; conv => whnf) | (refine WA_exit ?_; conv => whnf) | (refine WA_ret ?_; conv => whnf) | (refine And.intro (fun h => ?_) (fun h => ?_) <;> (try simp only [brsA] at h) <;> conv => whnf) | (refine WR_fit ?_ ?_; (focus (first | exact wr_i64 (by omega) | exact wr_u64 (by omega) | exact wr_u8 (by omega) | exact wr_i32 (by omega) | exact wr_u32 (by omega))); conv => whnf) | (refine WR_wrap ?_; conv => whnf) | (refine And.intro (a := indepB _ _ = true) ?_ ?_; (focus kernel_rfl); conv => whnf) | (refine And.intro rfl ?_; conv => whnf) | (refine And.intro ?_ ?_; (focus (first | omega | decide | (dsimp only; omega) | (simp at *; omega))); conv => whnf))
            all_goals first | contradiction | (exfalso; omega) | (rw [hnd i hi1 (by omega) (fun q => by have := q.1; have := q.2; omega)]; exact ⟨rfl, rfl⟩) | skip
            all_goals
              refine ⟨(i + 1, n), ⟨by show 0 ≤ i + 1 ∧ i + 1 ≤ s.length; omega, hdi (by omega) (by omega), .inl ⟨by show 1152921504606846976 < nval (part s 0 (i + 1)); omega, hv.2⟩⟩, (by show s.length - (i + 1) < s.length - i; omega), ?_⟩
              conv => whnf
              repeat (first | exact rfl | exact trivial | exact Or.inl (fun _ _ => rfl) | exact (fun _ => rfl) | exact (fun _ _ => rfl) | exact Or.inl (fun _ hi => absurd hi (Nat.not_lt_zero _)) | (refine And.intro rfl ?_; conv => whnf) | (refine And.intro (Or.inl (fun _ _ => rfl)) ?_; conv => whnf) | (refine And.intro (fun _ => rfl) ?_; conv => whnf) | (refine And.intro (fun _ _ => rfl) ?_; conv => whnf) | (refine And.intro ?_ ?_; rotate_left; conv => whnf))
              all_goals (first | rfl | exact (decide_eq_true (by omega)).symm | exact (decide_eq_false (by omega)).symm | exact decide_eq_decide.2 (by omega) | (rw [Bool.eq_iff_iff]; simp only [brsE] at *; omega))
          · have hv := hv.resolve_left (by omega)
            conv => whnf
            repeat' (first | refine WA_seq ?_ | (refine WA_region ttok ?_; conv => whnf) | (refine WA_draw ttok mixed ?_; conv => whnf) | (refine WA_cond ?_; conv => whnf) | refine WA_block ?_ | (refine WA_skip ?_; conv => whnf) | (refine WA_exit ?_; conv => whnf) | (refine WA_ret ?_; conv => whnf) | (refine And.intro (fun h => ?_) (fun h => ?_) <;> (try simp only [brsA] at h) <;> conv => whnf) | (refine WR_fit ?_ ?_; (focus (first | exact wr_i64 (by omega) | exact wr_u64 (by omega) | exact wr_u8 (by omega) | exact wr_i32 (by omega) | exact wr_u32 (by omega))); conv => whnf) | (refine WR_wrap ?_; conv => whnf) | (refine And.intro (a := indepB _ _ = true) ?_ ?_; (focus kernel_rfl); conv => whnf) | (refine And.intro rfl ?_; conv => whnf) | (refine And.intro ?_ ?_; (focus (first | omega | decide | (dsimp only; omega) | (simp at *; omega))); conv => whnf))
            all_goals first | contradiction | (exfalso; omega) | (rw [hnd i hi1 (by omega) (fun q => by have := q.1; have := q.2; omega)]; exact ⟨rfl, rfl⟩) | skip
            all_goals
              have hlo : 48 ≤ (s.getD i 0).toNat ∧ (s.getD i 0).toNat ≤ 57 := by omega
              have hdn := hdi hlo.1 hlo.2
              by_cases hnb : 1152921504606846976 < nval (part s 0 (i + 1))
              · first
                  | (exfalso; omega)
                  | (refine ⟨(i + 1, n), ⟨by show 0 ≤ i + 1 ∧ i + 1 ≤ s.length; omega, hdn, .inl ⟨hnb, by show n ≤ 1152921504606846976; omega⟩⟩, (by show s.length - (i + 1) < s.length - i; omega), ?_⟩
                     conv => whnf
                     repeat (first | exact rfl | exact trivial | exact Or.inl (fun _ _ => rfl) | exact (fun _ => rfl) | exact (fun _ _ => rfl) | exact Or.inl (fun _ hi => absurd hi (Nat.not_lt_zero _)) | (refine And.intro rfl ?_; conv => whnf) | (refine And.intro (Or.inl (fun _ _ => rfl)) ?_; conv => whnf) | (refine And.intro (fun _ => rfl) ?_; conv => whnf) | (refine And.intro (fun _ _ => rfl) ?_; conv => whnf) | (refine And.intro ?_ ?_; rotate_left; conv => whnf))
                     all_goals (first | rfl | exact (decide_eq_true (by omega)).symm | exact (decide_eq_false (by omega)).symm | exact decide_eq_decide.2 (by omega) | (rw [Bool.eq_iff_iff]; simp only [brsE] at *; omega)))
              · first
                  | (exfalso; omega)
                  | (refine ⟨(i + 1, nval (part s 0 (i + 1))), ⟨by show 0 ≤ i + 1 ∧ i + 1 ≤ s.length; omega, hdn, .inr ⟨Nat.le_of_not_lt hnb, rfl⟩⟩, (by show s.length - (i + 1) < s.length - i; omega), ?_⟩
                     conv => whnf
                     repeat (first | exact rfl | exact trivial | exact Or.inl (fun _ _ => rfl) | exact (fun _ => rfl) | exact (fun _ _ => rfl) | exact Or.inl (fun _ hi => absurd hi (Nat.not_lt_zero _)) | (refine And.intro rfl ?_; conv => whnf) | (refine And.intro (Or.inl (fun _ _ => rfl)) ?_; conv => whnf) | (refine And.intro (fun _ => rfl) ?_; conv => whnf) | (refine And.intro (fun _ _ => rfl) ?_; conv => whnf) | (refine And.intro ?_ ?_; rotate_left; conv => whnf))
                     all_goals first | (first | rfl | exact (decide_eq_true (by omega)).symm | exact (decide_eq_false (by omega)).symm | exact decide_eq_decide.2 (by omega) | (rw [Bool.eq_iff_iff]; simp only [brsE] at *; omega)) | omega)
        · have h := of_decide_eq_false h
          have hn : numP s := hni.2 ⟨hpre.1, hpre.2, fun j h1 h2 => hd j h1 (by omega)⟩
          have e : i = s.length := by omega
          subst e
          have hpf : part s 0 s.length = bareP s := by rw [hs1]; unfold part; rw [List.take_length]
          rw [hpf] at hv
          rw [hpf]
          unfold parseN
          rw [if_pos hn]
          conv => whnf
          repeat' (first | refine WA_seq ?_ | (refine WA_region ttok ?_; conv => whnf) | (refine WA_draw ttok mixed ?_; conv => whnf) | (refine WA_cond ?_; conv => whnf) | refine WA_block ?_ | (refine WA_skip ?_; conv => whnf) | (refine WA_exit ?_; conv => whnf) | (refine WA_ret ?_; conv => whnf) | (refine And.intro (fun h => ?_) (fun h => ?_) <;> (try simp only [brsA] at h) <;> conv => whnf) | (refine WR_fit ?_ ?_; (focus (first | exact wr_i64 (by omega) | exact wr_u64 (by omega) | exact wr_u8 (by omega) | exact wr_i32 (by omega) | exact wr_u32 (by omega))); conv => whnf) | (refine WR_wrap ?_; conv => whnf) | (refine And.intro (a := indepB _ _ = true) ?_ ?_; (focus kernel_rfl); conv => whnf) | (refine And.intro rfl ?_; conv => whnf) | (refine And.intro ?_ ?_; (focus (first | omega | decide | (dsimp only; omega) | (simp at *; omega))); conv => whnf))
          · rw [if_pos h]; exact ⟨rfl, rfl⟩
          all_goals (first | contradiction | (obtain ⟨_, hv⟩ := hv.resolve_left (by omega); rw [if_neg (by omega), if_neg (fun q => by have := hs2.1 q; omega), hv]; exact ⟨rfl, rfl⟩))
  · have hn : ¬ numP s := fun h => hpre ⟨(hni.1 h).1, (hni.1 h).2.1⟩
    unfold parseN
    rw [if_neg hn]
    have hP : ¬ (0 < s.length ∧ ¬ (((s.getD (Int.toNat 0) 0).toNat : Int) = 48 ∧ 1 < s.length)) := by rw [hb48]; exact hpre
    refine ACalls.of_WA ttok Tryd.func44 rfl rfl _ rfl ?_
    conv => whnf
    repeat' (first | refine WA_seq ?_ | (refine WA_region ttok ?_; conv => whnf) | (refine WA_draw ttok mixed ?_; conv => whnf) | (refine WA_cond ?_; conv => whnf) | refine WA_block ?_ | (refine WA_skip ?_; conv => whnf) | (refine WA_exit ?_; conv => whnf) | (refine WA_ret ?_; conv => whnf) | (refine And.intro (fun h => ?_) (fun h => ?_) <;> (try simp only [brsA] at h) <;> conv => whnf) | (refine WR_fit ?_ ?_; (focus (first | exact wr_i64 (by omega) | exact wr_u64 (by omega) | exact wr_u8 (by omega) | exact wr_i32 (by omega) | exact wr_u32 (by omega))); conv => whnf) | (refine WR_wrap ?_; conv => whnf) | (refine And.intro (a := indepB _ _ = true) ?_ ?_; (focus kernel_rfl); conv => whnf) | (refine And.intro rfl ?_; conv => whnf) | (refine And.intro ?_ ?_; (focus (first | omega | decide | (dsimp only; omega) | (simp at *; omega))); conv => whnf))
    all_goals first | contradiction | (exfalso; omega) | exact ⟨rfl, rfl⟩ | skip
    all_goals trace_state
end Go.Proofs.YtagokdeflnkplaaDoor

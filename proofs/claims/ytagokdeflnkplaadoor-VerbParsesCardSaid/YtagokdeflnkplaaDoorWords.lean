/-
  The walks of the package token, and joined words, parted again.
-/
import Derived.Test.YtagokdeflnkplaaDoorText
set_option linter.unusedSimpArgs false
namespace Go.Proofs.YtagokdeflnkplaaDoor
open Go.Proofs.YtagokdeflnkplaaDoor.Am Go.Lib
open Go.RowKit (Below)
variable {G : GInv}
theorem join_c (l : List (List UInt8)) (sep : List UInt8) (hl : l.length ≤ 1000000) (hj : (join l sep).length ≤ 1000000) : ACalls Tryd.prog G 52 [strsA l, .str sep] (.str (join l sep)) := by
  refine ⟨⟨_, _, Tryd.func52, rfl, by kernel_rfl⟩, ?_⟩
  intro im w vs him hG hlen hr
  match vs, hlen with
  | [a, b], _ =>
    have h0 : RelI im w (.sl l.length 1 (rowStr l)) a := hr 0 (by simp) (by simp)
    have h1 : RelI im w (.str sep) b := hr 1 (by simp) (by simp)
    obtain rfl := strI_inv h1
    have none : ∀ (x : Option Addr) (c : Nat), l = [] → Calls Tryd.prog 52 #[.slice x 0 c, .string ⟨sep.toArray⟩] w fun e w' => ∃ v, e = .returned v ∧ RelI (fun b => im b ∨ (w.heap.size ≤ b ∧ b < w'.heap.size)) w' (.str (join l sep)) v ∧ Bw w.heap.size w w' := by
      rintro x c rfl
      refine Calls_mono (Tryd.strings_Join_none x c ⟨sep.toArray⟩ w) ?_
      rintro e w' ⟨rfl, rfl⟩
      exact ⟨_, rfl, .str [], Bw.refl _ _⟩
    generalize hn : l.length = n at h0
    cases h0 with
    | sl0 => exact none _ _ (List.length_eq_zero_iff.1 hn)
    | sle => exact none _ _ (List.length_eq_zero_iff.1 hn)
    | sl _ _ _ blk base cap vs hb hcap hll hc ho hrr =>
      subst hn
      have hxs : (l.map fun x => (⟨x.toArray⟩ : ByteArray)).map (fun x => x.data.toList) = l := by
        rw [List.map_map]; simp [Function.comp_def]
      have hmain := Tryd.strings_Join blk base cap (l.map fun x => ⟨x.toArray⟩) ⟨sep.toArray⟩ w ?_ (him blk hb) (by simp; omega) (by simpa using hcap) (by rw [hxs]; simpa using Nat.le_trans hj (by omega))
      · rw [hxs, List.length_map] at hmain
        refine Calls_mono hmain ?_
        rintro e w' ⟨rfl, hbl⟩
        exact ⟨_, rfl, .str _, Bw.of_below hbl⟩
      · intro j x hx
        have hj : j < l.length := by
          rcases Nat.lt_or_ge j l.length with h | h
          · exact h
          · rw [List.getElem?_eq_none (by simpa using h)] at hx; cases hx
        rw [List.getElem?_map, List.getElem?_eq_getElem hj] at hx
        have hx := Option.some.inj hx
        have c1 := hc j 0 hj (by omega)
        rw [show base + j * 1 + 0 = base + j by omega] at c1
        have r1 := hrr j 0 hj (by simp [rowStr])
        have r1 : RelI im w (.str (l.getD j [])) (vs j 0) := r1
        rw [c1, strI_inv r1, ← hx]
        simp [List.getD_eq_getElem?_getD, hj]
/-! ### token.Words, token.Join -/
def allW (l : List (List UInt8)) : Prop := ∀ i, i < l.length → wordP (l.getD i [])
instance (l : List (List UInt8)) : Decidable (allW l) := inferInstanceAs (Decidable (∀ i, i < l.length → _))
def totL : List (List UInt8) → Nat
  | [] => 0
  | w :: l => w.length + 1 + totL l
theorem totL_app : ∀ l m, totL (l ++ m) = totL l + totL m
  | [], m => by simp [totL]
  | w :: l, m => by simp [totL, totL_app l m]; omega
theorem totL_take (l : List (List UInt8)) (i : Nat) (h : i < l.length) : totL (l.take (i + 1)) = totL (l.take i) + ((l.getD i []).length + 1) := by
  rw [List.take_add_one, List.getElem?_eq_getElem h, totL_app]
  simp [totL, List.getD_eq_getElem?_getD, List.getElem?_eq_getElem h]
theorem totL_take_le (l : List (List UInt8)) (i : Nat) : totL (l.take i) ≤ totL l := by
  conv => rhs; rw [← List.take_append_drop i l, totL_app]
  omega
theorem upto_succ {P : Nat → Prop} {i : Nat} (h : ∀ j, j < i → P j) (hi : P i) : ∀ j, j < i + 1 → P j := fun j hj => by
  rcases Nat.lt_or_eq_of_le (Nat.le_of_lt_succ hj) with q | q
  · exact h j q
  · rw [q]; exact hi
theorem joinTail_len (c : UInt8) : ∀ r, (joinTail [c] r).length = totL r
  | [] => rfl
  | y :: r => by
    have := joinTail_len c r
    simp only [joinTail, List.map_cons, List.flatten_cons, List.length_append, List.length_cons, List.length_nil, totL] at *
    omega
theorem join_len (c : UInt8) (l : List (List UInt8)) (h : l ≠ []) : (join l [c]).length + 1 = totL l := by
  cases l with
  | nil => exact absurd rfl h
  | cons x r => rw [join_cons, List.length_append, joinTail_len, totL]; omega
theorem join_len_le (c : UInt8) (l : List (List UInt8)) : (join l [c]).length ≤ totL l := by
  by_cases h : l = []
  · subst h; simp [join, List.intercalate]
  · have := join_len c l h; omega
theorem join_cutL (c : UInt8) : ∀ s, join (cutL c s) [c] = s
  | [] => by simp [cutL, join_one]
  | b :: l => by
    have ih := join_cutL c l
    have hne := cutL_ne c l
    rw [cutL]
    cases hc : cutL c l with
    | nil => exact absurd hc hne
    | cons h t =>
      rw [hc, join_cons] at ih
      split
      · rename_i e; subst e
        rw [join_cons]
        simp only [joinTail, List.map_cons, List.flatten_cons, List.nil_append]
        rw [← ih]
        simp [joinTail]
      · rw [join_cons, List.cons_append, ih]
theorem totL_cutL (c : UInt8) (s : List UInt8) : totL (cutL c s) = s.length + 1 := by
  have := join_len c (cutL c s) (cutL_ne c s)
  rw [join_cutL] at this
  exact this.symm
theorem cutL_len (c : UInt8) : ∀ s, (cutL c s).length ≤ s.length + 1
  | [] => by simp [cutL]
  | b :: l => by
    have := cutL_len c l
    unfold cutL
    split
    · simp; omega
    · split
      · rename_i h t e; rw [e] at this; simp at *; omega
      · simp
set_option maxRecDepth 100000 in
theorem words_long (s : List UInt8) (h1 : 4096 < s.length) : ACalls Tryd.prog G 40 [.str s] (.tup [.nils, .int .i64 2]) := by
  refine ACalls.of_WA ttok Tryd.func40 rfl rfl _ rfl ?_
  conv => whnf
  repeat' (first | refine WA_seq ?_ | (refine WA_region ttok ?_; conv => whnf) | (refine WA_draw ttok mixed ?_; conv => whnf) | (refine WA_cond ?_; conv => whnf) | refine WA_block ?_ | (refine WA_skip ?_; conv => whnf) | (refine WA_exit ?_; conv => whnf) | (refine WA_ret ?_; conv => whnf) | (refine And.intro (fun h => ?_) (fun h => ?_) <;> (try simp only [brsA] at h) <;> conv => whnf) | (refine WR_fit ?_ ?_; (focus (first | exact wr_i64 (by omega) | exact wr_u64 (by omega) | exact wr_u8 (by omega) | exact wr_i32 (by omega) | exact wr_u32 (by omega))); conv => whnf) | (refine WR_wrap ?_; conv => whnf) | (refine And.intro (a := indepB _ _ = true) ?_ ?_; (focus kernel_rfl); conv => whnf) | (refine And.intro rfl ?_; conv => whnf) | (refine And.intro ?_ ?_; (focus (first | omega | decide | (dsimp only; omega) | (simp at *; omega))); conv => whnf))
  all_goals first | (exfalso; omega) | skip
set_option maxRecDepth 100000 in
theorem words_empty : ACalls Tryd.prog G 40 [.str []] (.tup [.nils, .int .i64 0]) := by
  refine ACalls.of_WA ttok Tryd.func40 rfl rfl _ rfl ?_
  conv => whnf
  repeat' (first | refine WA_seq ?_ | (refine WA_region ttok ?_; conv => whnf) | (refine WA_draw ttok mixed ?_; conv => whnf) | (refine WA_cond ?_; conv => whnf) | refine WA_block ?_ | (refine WA_skip ?_; conv => whnf) | (refine WA_exit ?_; conv => whnf) | (refine WA_ret ?_; conv => whnf) | (refine And.intro (fun h => ?_) (fun h => ?_) <;> (try simp only [brsA] at h) <;> conv => whnf) | (refine WR_fit ?_ ?_; (focus (first | exact wr_i64 (by omega) | exact wr_u64 (by omega) | exact wr_u8 (by omega) | exact wr_i32 (by omega) | exact wr_u32 (by omega))); conv => whnf) | (refine WR_wrap ?_; conv => whnf) | (refine And.intro (a := indepB _ _ = true) ?_ ?_; (focus kernel_rfl); conv => whnf) | (refine And.intro rfl ?_; conv => whnf) | (refine And.intro ?_ ?_; (focus (first | omega | decide | (dsimp only; omega) | (simp at *; omega))); conv => whnf))
  all_goals first | (exact absurd h (by decide)) | exact absurd trivial h
set_option maxRecDepth 100000 in
theorem words_ok (hM : HasMax G) (s : List UInt8) (hs : s.length ≤ 4096) (h0 : s ≠ []) (hw : allW (cutL 32 s)) : ACalls Tryd.prog G 40 [.str s] (.tup [strsA (cutL 32 s), .int .i64 0]) := by
  have hsp := split_c hM s 32 (by omega)
  have hcl := cutL_len 32 s
  refine ACalls.of_WA ttok Tryd.func40 rfl rfl _ rfl ?_
  conv => whnf
  repeat' (first | refine WA_seq ?_ | (refine WA_region ttok ?_; conv => whnf) | (refine WA_draw ttok mixed ?_; conv => whnf) | (refine WA_cond ?_; conv => whnf) | refine WA_block ?_ | (refine WA_skip ?_; conv => whnf) | (refine WA_exit ?_; conv => whnf) | (refine WA_ret ?_; conv => whnf) | (refine And.intro (fun h => ?_) (fun h => ?_) <;> (try simp only [brsA] at h) <;> conv => whnf) | (refine Or.inl ?_; (conv => whnf); refine Exists.intro _ (And.intro (hsp) ?_); conv => whnf) | (refine Or.inr (Or.inr (Or.inl ?_)); (conv => whnf); refine Exists.intro _ (And.intro (hsp) ?_); conv => whnf) | (refine Exists.intro _ (And.intro (hsp) ?_); conv => whnf) | (refine WR_fit ?_ ?_; (focus (first | exact wr_i64 (by omega) | exact wr_u64 (by omega) | exact wr_u8 (by omega) | exact wr_i32 (by omega) | exact wr_u32 (by omega))); conv => whnf) | (refine WR_wrap ?_; conv => whnf) | (refine And.intro (a := indepB _ _ = true) ?_ ?_; (focus kernel_rfl); conv => whnf) | (refine And.intro rfl ?_; conv => whnf) | (refine And.intro ?_ ?_; (focus (first | omega | decide | (dsimp only; omega) | (simp at *; omega))); conv => whnf))
  all_goals first | (exfalso; omega) | (exact absurd h h0) | skip
  refine WA_loopI (fun i : Nat => i ≤ (cutL 32 s).length) (fun i => [(16, .int .i64 (i : Int))]) (fun _ => []) (fun i => (cutL 32 s).length - i) 0 (by omega) ?_ ?_
  · conv => whnf
    repeat (first | exact rfl | exact trivial | exact Or.inl (fun _ _ => rfl) | exact (fun _ => rfl) | exact (fun _ _ => rfl) | exact Or.inl (fun _ hi => absurd hi (Nat.not_lt_zero _)) | (refine And.intro rfl ?_; conv => whnf) | (refine And.intro (Or.inl (fun _ _ => rfl)) ?_; conv => whnf) | (refine And.intro (fun _ => rfl) ?_; conv => whnf) | (refine And.intro (fun _ _ => rfl) ?_; conv => whnf) | (refine And.intro ?_ ?_; rotate_left; conv => whnf))
  · intro i hi
    conv => whnf
    repeat (first | refine WA_seq ?_ | (refine WA_region ttok ?_; conv => whnf) | (refine WA_draw ttok mixed ?_; conv => whnf) | (refine WA_cond ?_; conv => whnf) | refine WA_block ?_ | (refine WA_skip ?_; conv => whnf) | (refine WA_exit ?_; conv => whnf) | (refine WA_ret ?_; conv => whnf))
    refine ⟨fun h => ?_, fun h => ?_⟩
    · have h := of_decide_eq_true h
      have hc := word_c (G := G) ((cutL 32 s).getD i [])
      rw [decide_eq_true (hw i (by omega))] at hc
      conv => whnf
      repeat' (first | refine WA_seq ?_ | (refine WA_region ttok ?_; conv => whnf) | (refine WA_draw ttok mixed ?_; conv => whnf) | (refine WA_cond ?_; conv => whnf) | refine WA_block ?_ | (refine WA_skip ?_; conv => whnf) | (refine WA_exit ?_; conv => whnf) | (refine WA_ret ?_; conv => whnf) | (refine And.intro (fun h => ?_) (fun h => ?_) <;> (try simp only [brsA] at h) <;> conv => whnf) | (refine Or.inl ?_; (conv => whnf); refine Exists.intro _ (And.intro (hc) ?_); conv => whnf) | (refine Or.inr (Or.inr (Or.inl ?_)); (conv => whnf); refine Exists.intro _ (And.intro (hc) ?_); conv => whnf) | (refine Exists.intro _ (And.intro (hc) ?_); conv => whnf) | (refine WR_fit ?_ ?_; (focus (first | exact wr_i64 (by omega) | exact wr_u64 (by omega) | exact wr_u8 (by omega) | exact wr_i32 (by omega) | exact wr_u32 (by omega))); conv => whnf) | (refine WR_wrap ?_; conv => whnf) | (refine And.intro (a := indepB _ _ = true) ?_ ?_; (focus kernel_rfl); conv => whnf) | (refine And.intro rfl ?_; conv => whnf) | (refine And.intro ?_ ?_; (focus (first | omega | decide | (dsimp only; omega) | (simp at *; omega))); conv => whnf))
      all_goals first | (exact Bool.noConfusion h) | skip
      refine ⟨i + 1, (by show i + 1 ≤ (cutL 32 s).length; omega), (by show (cutL 32 s).length - (i + 1) < (cutL 32 s).length - i; omega), ?_⟩
      conv => whnf
      repeat (first | exact rfl | exact trivial | exact Or.inl (fun _ _ => rfl) | exact (fun _ => rfl) | exact (fun _ _ => rfl) | exact Or.inl (fun _ hi => absurd hi (Nat.not_lt_zero _)) | (refine And.intro rfl ?_; conv => whnf) | (refine And.intro (Or.inl (fun _ _ => rfl)) ?_; conv => whnf) | (refine And.intro (fun _ => rfl) ?_; conv => whnf) | (refine And.intro (fun _ _ => rfl) ?_; conv => whnf) | (refine And.intro ?_ ?_; rotate_left; conv => whnf))
    · conv => whnf
      repeat' (first | refine WA_seq ?_ | (refine WA_region ttok ?_; conv => whnf) | (refine WA_draw ttok mixed ?_; conv => whnf) | (refine WA_cond ?_; conv => whnf) | refine WA_block ?_ | (refine WA_skip ?_; conv => whnf) | (refine WA_exit ?_; conv => whnf) | (refine WA_ret ?_; conv => whnf) | (refine And.intro (fun h => ?_) (fun h => ?_) <;> (try simp only [brsA] at h) <;> conv => whnf) | (refine WR_fit ?_ ?_; (focus (first | exact wr_i64 (by omega) | exact wr_u64 (by omega) | exact wr_u8 (by omega) | exact wr_i32 (by omega) | exact wr_u32 (by omega))); conv => whnf) | (refine WR_wrap ?_; conv => whnf) | (refine And.intro (a := indepB _ _ = true) ?_ ?_; (focus kernel_rfl); conv => whnf) | (refine And.intro rfl ?_; conv => whnf) | (refine And.intro ?_ ?_; (focus (first | omega | decide | (dsimp only; omega) | (simp at *; omega))); conv => whnf))
      exact ⟨Or.inl fun _ _ => rfl, rfl⟩
set_option maxRecDepth 100000 in
theorem words_bad (hM : HasMax G) (s : List UInt8) (hs : s.length ≤ 4096) (h0 : s ≠ []) (hw : ¬ allW (cutL 32 s)) : ACalls Tryd.prog G 40 [.str s] (.tup [.nils, .int .i64 2]) := by
  have hsp := split_c hM s 32 (by omega)
  have hcl := cutL_len 32 s
  refine ACalls.of_WA ttok Tryd.func40 rfl rfl _ rfl ?_
  conv => whnf
  repeat' (first | refine WA_seq ?_ | (refine WA_region ttok ?_; conv => whnf) | (refine WA_draw ttok mixed ?_; conv => whnf) | (refine WA_cond ?_; conv => whnf) | refine WA_block ?_ | (refine WA_skip ?_; conv => whnf) | (refine WA_exit ?_; conv => whnf) | (refine WA_ret ?_; conv => whnf) | (refine And.intro (fun h => ?_) (fun h => ?_) <;> (try simp only [brsA] at h) <;> conv => whnf) | (refine Or.inl ?_; (conv => whnf); refine Exists.intro _ (And.intro (hsp) ?_); conv => whnf) | (refine Or.inr (Or.inr (Or.inl ?_)); (conv => whnf); refine Exists.intro _ (And.intro (hsp) ?_); conv => whnf) | (refine Exists.intro _ (And.intro (hsp) ?_); conv => whnf) | (refine WR_fit ?_ ?_; (focus (first | exact wr_i64 (by omega) | exact wr_u64 (by omega) | exact wr_u8 (by omega) | exact wr_i32 (by omega) | exact wr_u32 (by omega))); conv => whnf) | (refine WR_wrap ?_; conv => whnf) | (refine And.intro (a := indepB _ _ = true) ?_ ?_; (focus kernel_rfl); conv => whnf) | (refine And.intro rfl ?_; conv => whnf) | (refine And.intro ?_ ?_; (focus (first | omega | decide | (dsimp only; omega) | (simp at *; omega))); conv => whnf))
  all_goals first | (exfalso; omega) | (exact absurd h h0) | skip
  refine WA_loopI (fun i : Nat => i ≤ (cutL 32 s).length ∧ ∀ j, j < i → wordP ((cutL 32 s).getD j [])) (fun i => [(16, .int .i64 (i : Int))]) (fun _ => []) (fun i => (cutL 32 s).length - i) 0 ⟨by omega, fun j h => by omega⟩ ?_ ?_
  · conv => whnf
    repeat (first | exact rfl | exact trivial | exact Or.inl (fun _ _ => rfl) | exact (fun _ => rfl) | exact (fun _ _ => rfl) | exact Or.inl (fun _ hi => absurd hi (Nat.not_lt_zero _)) | (refine And.intro rfl ?_; conv => whnf) | (refine And.intro (Or.inl (fun _ _ => rfl)) ?_; conv => whnf) | (refine And.intro (fun _ => rfl) ?_; conv => whnf) | (refine And.intro (fun _ _ => rfl) ?_; conv => whnf) | (refine And.intro ?_ ?_; rotate_left; conv => whnf))
  · rintro i ⟨hi, hI⟩
    conv => whnf
    repeat (first | refine WA_seq ?_ | (refine WA_region ttok ?_; conv => whnf) | (refine WA_draw ttok mixed ?_; conv => whnf) | (refine WA_cond ?_; conv => whnf) | refine WA_block ?_ | (refine WA_skip ?_; conv => whnf) | (refine WA_exit ?_; conv => whnf) | (refine WA_ret ?_; conv => whnf))
    refine ⟨fun h => ?_, fun h => ?_⟩
    · have h := of_decide_eq_true h
      have hc := word_c (G := G) ((cutL 32 s).getD i [])
      conv => whnf
      repeat' (first | refine WA_seq ?_ | (refine WA_region ttok ?_; conv => whnf) | (refine WA_draw ttok mixed ?_; conv => whnf) | (refine WA_cond ?_; conv => whnf) | refine WA_block ?_ | (refine WA_skip ?_; conv => whnf) | (refine WA_exit ?_; conv => whnf) | (refine WA_ret ?_; conv => whnf) | (refine And.intro (fun h => ?_) (fun h => ?_) <;> (try simp only [brsA] at h) <;> conv => whnf) | (refine Or.inl ?_; (conv => whnf); refine Exists.intro _ (And.intro (hc) ?_); conv => whnf) | (refine Or.inr (Or.inr (Or.inl ?_)); (conv => whnf); refine Exists.intro _ (And.intro (hc) ?_); conv => whnf) | (refine Exists.intro _ (And.intro (hc) ?_); conv => whnf) | (refine WR_fit ?_ ?_; (focus (first | exact wr_i64 (by omega) | exact wr_u64 (by omega) | exact wr_u8 (by omega) | exact wr_i32 (by omega) | exact wr_u32 (by omega))); conv => whnf) | (refine WR_wrap ?_; conv => whnf) | (refine And.intro (a := indepB _ _ = true) ?_ ?_; (focus kernel_rfl); conv => whnf) | (refine And.intro rfl ?_; conv => whnf) | (refine And.intro ?_ ?_; (focus (first | omega | decide | (dsimp only; omega) | (simp at *; omega))); conv => whnf))
      refine ⟨i + 1, ⟨by omega, upto_succ hI h⟩, (by show (cutL 32 s).length - (i + 1) < (cutL 32 s).length - i; omega), ?_⟩
      conv => whnf
      repeat (first | exact rfl | exact trivial | exact Or.inl (fun _ _ => rfl) | exact (fun _ => rfl) | exact (fun _ _ => rfl) | exact Or.inl (fun _ hi => absurd hi (Nat.not_lt_zero _)) | (refine And.intro rfl ?_; conv => whnf) | (refine And.intro (Or.inl (fun _ _ => rfl)) ?_; conv => whnf) | (refine And.intro (fun _ => rfl) ?_; conv => whnf) | (refine And.intro (fun _ _ => rfl) ?_; conv => whnf) | (refine And.intro ?_ ?_; rotate_left; conv => whnf))
    · have h := of_decide_eq_false h
      exact absurd (fun j hj => hI j (by omega)) hw
def joinOk (l : List (List UInt8)) : Prop := allW l ∧ totL l ≤ 4097
instance (l : List (List UInt8)) : Decidable (joinOk l) := inferInstanceAs (Decidable (_ ∧ _))
set_option maxRecDepth 100000 in
theorem tjoin_ok (l : List (List UInt8)) (hl : l.length ≤ 1000000) (hk : joinOk l) : ACalls Tryd.prog G 46 [strsA l] (.tup [.str (join l [32]), .int .i64 0]) := by
  have hj := join_c (G := G) l [32] hl (by have := join_len_le 32 l; have := hk.2; omega)
  have htl := hk.2
  refine ACalls.of_WA ttok Tryd.func46 rfl rfl _ rfl ?_
  conv => whnf
  repeat (first | refine WA_seq ?_ | (refine WA_region ttok ?_; conv => whnf) | (refine WA_draw ttok mixed ?_; conv => whnf) | (refine WA_cond ?_; conv => whnf) | refine WA_block ?_ | (refine WA_skip ?_; conv => whnf) | (refine WA_exit ?_; conv => whnf) | (refine WA_ret ?_; conv => whnf))
  refine WA_loopI (fun i : Nat => i ≤ l.length) (fun i => [(9, .int .i64 (i : Int)), (4, .int .i64 (totL (l.take i) : Nat))]) (fun _ => []) (fun i => l.length - i) 0 (by omega) ?_ ?_
  · conv => whnf
    repeat (first | exact rfl | exact trivial | exact Or.inl (fun _ _ => rfl) | exact (fun _ => rfl) | exact (fun _ _ => rfl) | exact Or.inl (fun _ hi => absurd hi (Nat.not_lt_zero _)) | (refine And.intro rfl ?_; conv => whnf) | (refine And.intro (Or.inl (fun _ _ => rfl)) ?_; conv => whnf) | (refine And.intro (fun _ => rfl) ?_; conv => whnf) | (refine And.intro (fun _ _ => rfl) ?_; conv => whnf) | (refine And.intro ?_ ?_; rotate_left; conv => whnf))
  · intro i hi
    conv => whnf
    repeat (first | refine WA_seq ?_ | (refine WA_region ttok ?_; conv => whnf) | (refine WA_draw ttok mixed ?_; conv => whnf) | (refine WA_cond ?_; conv => whnf) | refine WA_block ?_ | (refine WA_skip ?_; conv => whnf) | (refine WA_exit ?_; conv => whnf) | (refine WA_ret ?_; conv => whnf))
    refine ⟨fun h => ?_, fun h => ?_⟩
    · have h := of_decide_eq_true h
      have hc := word_c (G := G) (l.getD i [])
      rw [decide_eq_true (hk.1 i (by omega))] at hc
      have ht := totL_take l i (by omega)
      have hle := totL_take_le l (i + 1)
      have hti : (l.getD (i : Int).toNat []).length = (l.getD i []).length := rfl
      conv => whnf
      repeat' (first | refine WA_seq ?_ | (refine WA_region ttok ?_; conv => whnf) | (refine WA_draw ttok mixed ?_; conv => whnf) | (refine WA_cond ?_; conv => whnf) | refine WA_block ?_ | (refine WA_skip ?_; conv => whnf) | (refine WA_exit ?_; conv => whnf) | (refine WA_ret ?_; conv => whnf) | (refine And.intro (fun h => ?_) (fun h => ?_) <;> (try simp only [brsA] at h) <;> conv => whnf) | (refine Or.inl ?_; (conv => whnf); refine Exists.intro _ (And.intro (hc) ?_); conv => whnf) | (refine Or.inr (Or.inr (Or.inl ?_)); (conv => whnf); refine Exists.intro _ (And.intro (hc) ?_); conv => whnf) | (refine Exists.intro _ (And.intro (hc) ?_); conv => whnf) | (refine WR_fit ?_ ?_; (focus (first | exact wr_i64 (by omega) | exact wr_u64 (by omega) | exact wr_u8 (by omega) | exact wr_i32 (by omega) | exact wr_u32 (by omega))); conv => whnf) | (refine WR_wrap ?_; conv => whnf) | (refine And.intro (a := indepB _ _ = true) ?_ ?_; (focus kernel_rfl); conv => whnf) | (refine And.intro rfl ?_; conv => whnf) | (refine And.intro ?_ ?_; (focus (first | omega | decide | (dsimp only; omega) | (simp at *; omega))); conv => whnf))
      all_goals first | (exfalso; omega) | (exact Bool.noConfusion h) | skip
      refine ⟨i + 1, (by show i + 1 ≤ l.length; omega), (by show l.length - (i + 1) < l.length - i; omega), ?_⟩
      conv => whnf
      repeat (first | exact rfl | exact trivial | exact Or.inl (fun _ _ => rfl) | exact (fun _ => rfl) | exact (fun _ _ => rfl) | exact Or.inl (fun _ hi => absurd hi (Nat.not_lt_zero _)) | (refine And.intro rfl ?_; conv => whnf) | (refine And.intro (Or.inl (fun _ _ => rfl)) ?_; conv => whnf) | (refine And.intro (fun _ => rfl) ?_; conv => whnf) | (refine And.intro (fun _ _ => rfl) ?_; conv => whnf) | (refine And.intro ?_ ?_; rotate_left; conv => whnf))
      all_goals first | omega | skip
    · have h := of_decide_eq_false h
      have e : i = l.length := by omega
      subst e
      rw [List.take_length]
      conv => whnf
      repeat' (first | refine WA_seq ?_ | (refine WA_region ttok ?_; conv => whnf) | (refine WA_draw ttok mixed ?_; conv => whnf) | (refine WA_cond ?_; conv => whnf) | refine WA_block ?_ | (refine WA_skip ?_; conv => whnf) | (refine WA_exit ?_; conv => whnf) | (refine WA_ret ?_; conv => whnf) | (refine And.intro (fun h => ?_) (fun h => ?_) <;> (try simp only [brsA] at h) <;> conv => whnf) | (refine Or.inl ?_; (conv => whnf); refine Exists.intro _ (And.intro (hj) ?_); conv => whnf) | (refine Or.inr (Or.inr (Or.inl ?_)); (conv => whnf); refine Exists.intro _ (And.intro (hj) ?_); conv => whnf) | (refine Exists.intro _ (And.intro (hj) ?_); conv => whnf) | (refine WR_fit ?_ ?_; (focus (first | exact wr_i64 (by omega) | exact wr_u64 (by omega) | exact wr_u8 (by omega) | exact wr_i32 (by omega) | exact wr_u32 (by omega))); conv => whnf) | (refine WR_wrap ?_; conv => whnf) | (refine And.intro (a := indepB _ _ = true) ?_ ?_; (focus kernel_rfl); conv => whnf) | (refine And.intro rfl ?_; conv => whnf) | (refine And.intro ?_ ?_; (focus (first | omega | decide | (dsimp only; omega) | (simp at *; omega))); conv => whnf))
      all_goals first | (exfalso; omega) | skip
theorem tjoin_bad (l : List (List UInt8)) (hl : l.length ≤ 1000000) (hk : ¬ joinOk l) : ACalls Tryd.prog G 46 [strsA l] (.tup [.str [], .int .i64 1]) := by
  refine ACalls.of_WA ttok Tryd.func46 rfl rfl _ rfl ?_
  conv => whnf
  repeat (first | refine WA_seq ?_ | (refine WA_region ttok ?_; conv => whnf) | (refine WA_draw ttok mixed ?_; conv => whnf) | (refine WA_cond ?_; conv => whnf) | refine WA_block ?_ | (refine WA_skip ?_; conv => whnf) | (refine WA_exit ?_; conv => whnf) | (refine WA_ret ?_; conv => whnf))
  refine WA_loopI (fun i : Nat => i ≤ l.length ∧ (∀ j, j < i → wordP (l.getD j [])) ∧ totL (l.take i) ≤ 4097) (fun i => [(9, .int .i64 (i : Int)), (4, .int .i64 (totL (l.take i) : Nat))]) (fun _ => []) (fun i => l.length - i) 0 ⟨by omega, fun j h => by omega, by simp [totL]⟩ ?_ ?_
  · conv => whnf
    repeat (first | exact rfl | exact trivial | exact Or.inl (fun _ _ => rfl) | exact (fun _ => rfl) | exact (fun _ _ => rfl) | exact Or.inl (fun _ hi => absurd hi (Nat.not_lt_zero _)) | (refine And.intro rfl ?_; conv => whnf) | (refine And.intro (Or.inl (fun _ _ => rfl)) ?_; conv => whnf) | (refine And.intro (fun _ => rfl) ?_; conv => whnf) | (refine And.intro (fun _ _ => rfl) ?_; conv => whnf) | (refine And.intro ?_ ?_; rotate_left; conv => whnf))
  · rintro i ⟨hi, hI, hT⟩
    conv => whnf
    repeat (first | refine WA_seq ?_ | (refine WA_region ttok ?_; conv => whnf) | (refine WA_draw ttok mixed ?_; conv => whnf) | (refine WA_cond ?_; conv => whnf) | refine WA_block ?_ | (refine WA_skip ?_; conv => whnf) | (refine WA_exit ?_; conv => whnf) | (refine WA_ret ?_; conv => whnf))
    refine ⟨fun h => ?_, fun h => ?_⟩
    · have h := of_decide_eq_true h
      have hc := word_c (G := G) (l.getD i [])
      have ht := totL_take l i (by omega)
      have hti : (l.getD (i : Int).toNat []).length = (l.getD i []).length := rfl
      conv => whnf
      repeat' (first | refine WA_seq ?_ | (refine WA_region ttok ?_; conv => whnf) | (refine WA_draw ttok mixed ?_; conv => whnf) | (refine WA_cond ?_; conv => whnf) | refine WA_block ?_ | (refine WA_skip ?_; conv => whnf) | (refine WA_exit ?_; conv => whnf) | (refine WA_ret ?_; conv => whnf) | (refine And.intro (fun h => ?_) (fun h => ?_) <;> (try simp only [brsA] at h) <;> conv => whnf) | (refine Or.inl ?_; (conv => whnf); refine Exists.intro _ (And.intro (hc) ?_); conv => whnf) | (refine Or.inr (Or.inr (Or.inl ?_)); (conv => whnf); refine Exists.intro _ (And.intro (hc) ?_); conv => whnf) | (refine Exists.intro _ (And.intro (hc) ?_); conv => whnf) | (refine WR_fit ?_ ?_; (focus (first | exact wr_i64 (by omega) | exact wr_u64 (by omega) | exact wr_u8 (by omega) | exact wr_i32 (by omega) | exact wr_u32 (by omega))); conv => whnf) | (refine WR_wrap ?_; conv => whnf) | (refine And.intro (a := indepB _ _ = true) ?_ ?_; (focus kernel_rfl); conv => whnf) | (refine And.intro rfl ?_; conv => whnf) | (refine And.intro ?_ ?_; (focus (first | omega | decide | (dsimp only; omega) | (simp at *; omega))); conv => whnf))
      all_goals first | (exfalso; omega) | (exact Bool.noConfusion h) | skip
      refine ⟨i + 1, ⟨by omega, upto_succ hI ‹wordP _›, by omega⟩, (by show l.length - (i + 1) < l.length - i; omega), ?_⟩
      conv => whnf
      repeat (first | exact rfl | exact trivial | exact Or.inl (fun _ _ => rfl) | exact (fun _ => rfl) | exact (fun _ _ => rfl) | exact Or.inl (fun _ hi => absurd hi (Nat.not_lt_zero _)) | (refine And.intro rfl ?_; conv => whnf) | (refine And.intro (Or.inl (fun _ _ => rfl)) ?_; conv => whnf) | (refine And.intro (fun _ => rfl) ?_; conv => whnf) | (refine And.intro (fun _ _ => rfl) ?_; conv => whnf) | (refine And.intro ?_ ?_; rotate_left; conv => whnf))
      all_goals first | omega | skip
    · have h := of_decide_eq_false h
      have e : i = l.length := by omega
      subst e
      rw [List.take_length] at hT
      exact absurd ⟨hI, hT⟩ hk
end Go.Proofs.YtagokdeflnkplaaDoor

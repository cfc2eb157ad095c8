/-
  The walks of the package unpack and of its reference; links unpacked.
-/
import Derived.Test.YtfhdmhoeopbhnaaHier2
import Derived.Test.YtfhdmhoeopbhnaaAm5
set_option linter.unusedSimpArgs false
namespace Go.Proofs.Ytfhdmhoeopbhnaa
open Go.Proofs.Ytfhdmhoeopbhnaa.Am
/-! ### Links, unpacked: plain laws -/
def lkP (ls : List Lk) (a b : Int) : Lk := ls.getD (posL ls a b).toNat default
def tL (ls : List Lk) : Nat → Int → Int → List Int
  | 0, _, b => [b]
  | d + 1, a, b => if (lkP ls a b).m = -1 then [b] else tL ls d a (lkP ls a b).m ++ tL ls d (lkP ls a b).m b
def tD (ls : List Lk) : Nat → Int → Int → Int
  | 0, _, _ => 1
  | d + 1, a, b => if (lkP ls a b).m = -1 then 1 else max (tD ls d a (lkP ls a b).m + 1) (tD ls d (lkP ls a b).m b)
def tN (ls : List Lk) : Nat → Int → Int → Nat
  | 0, _, _ => 1
  | d + 1, a, b => if (lkP ls a b).m = -1 then 1 else 1 + tN ls d a (lkP ls a b).m + tN ls d (lkP ls a b).m b
def nuL (rk : List Int) (a b : Int) : Nat := (min (rk.getD a.toNat 0) (rk.getD b.toNat 0)).toNat
structure LinkF (rk : List Int) (ls : List Lk) (a b : Int) : Prop where
  f : (lkP ls a b).f = a
  t : (lkP ls a b).t = b
  ok : okL rk.length (lkP ls a b)
  mid : (lkP ls a b).m = -1 ∨ ((0 ≤ (lkP ls a b).m ∧ (lkP ls a b).m < rk.length) ∧ rk.getD (lkP ls a b).m.toNat 0 < rk.getD a.toNat 0 ∧ rk.getD (lkP ls a b).m.toNat 0 < rk.getD b.toNat 0 ∧ 0 ≤ posL ls a (lkP ls a b).m ∧ 0 ≤ posL ls (lkP ls a b).m b)
theorem linkF {rk : List Int} {ls : List Lk} (hM : MayP rk ls) {a b : Int} (h : 0 ≤ posL ls a b) : LinkF rk ls a b := by
  rcases posL_cases ls a b with ⟨h1, _⟩ | ⟨j, h1, h2, h3, h4⟩
  · omega
  · have e : lkP ls a b = ls.getD j default := by unfold lkP; rw [h1]; rfl
    have hok := (hM.2.2.2.1 j h2).1
    refine ⟨by rw [e]; exact h3, by rw [e]; exact h4, by rw [e]; exact hok, ?_⟩
    rw [e]
    rcases hM.2.2.2.2 j h2 with h5 | h5
    · exact .inl h5
    · obtain ⟨j1, j2, j3, j4, j5, _⟩ := h5
      rw [h3] at j2 j4
      rw [h4] at j3 j5
      exact .inr ⟨j1, j2, j3, j4, j5⟩
theorem nu_down {rk : List Int} {ls : List Lk} (hM : MayP rk ls) {a b : Int} (h : 0 ≤ posL ls a b) (hm : (lkP ls a b).m ≠ -1) :
    nuL rk a (lkP ls a b).m < nuL rk a b ∧ nuL rk (lkP ls a b).m b < nuL rk a b := by
  have hl := linkF hM h
  rcases hl.mid with h1 | ⟨h1, h2, h3, _⟩
  · exact absurd h1 hm
  · have hR := (hM.2.2.1 (lkP ls a b).m.toNat (by omega)).1
    unfold nuL
    omega
theorem nu_lt {rk : List Int} {ls : List Lk} (hM : MayP rk ls) {a b : Int} (h : 0 ≤ posL ls a b) : nuL rk a b < rk.length := by
  have hl := linkF hM h
  have ho := hl.ok
  obtain ⟨h1, h2, _⟩ := ho
  rw [hl.f] at h1
  rw [hl.t] at h2
  have r1 := (hM.2.2.1 a.toNat (by omega)).1
  have r2 := (hM.2.2.1 b.toNat (by omega)).1
  unfold nuL; omega
theorem t_fuel {rk : List Int} {ls : List Lk} (hM : MayP rk ls) : ∀ (d e : Nat) (a b : Int), 0 ≤ posL ls a b → nuL rk a b < d → nuL rk a b < e → tL ls d a b = tL ls e a b ∧ tD ls d a b = tD ls e a b ∧ tN ls d a b = tN ls e a b
  | 0, _, a, b, _, h, _ => by omega
  | _, 0, a, b, _, _, h => by omega
  | d + 1, e + 1, a, b, hp, h1, h2 => by
    simp only [tL, tD, tN]
    by_cases hm : (lkP ls a b).m = -1
    · simp only [if_pos hm]; exact ⟨trivial, trivial, trivial⟩
    · simp only [if_neg hm]
      have hl := linkF hM hp
      obtain ⟨n1, n2⟩ := nu_down hM hp hm
      rcases hl.mid with h3 | ⟨_, _, _, p1, p2⟩
      · exact absurd h3 hm
      · obtain ⟨a1, a2, a3⟩ := t_fuel hM d e a (lkP ls a b).m p1 (by omega) (by omega)
        obtain ⟨b1, b2, b3⟩ := t_fuel hM d e (lkP ls a b).m b p2 (by omega) (by omega)
        rw [a1, a2, a3, b1, b2, b3]; exact ⟨rfl, rfl, rfl⟩
abbrev TL (rk : List Int) (ls : List Lk) (a b : Int) := tL ls rk.length a b
abbrev TD (rk : List Int) (ls : List Lk) (a b : Int) := tD ls rk.length a b
abbrev TN (rk : List Int) (ls : List Lk) (a b : Int) := tN ls rk.length a b
theorem T_leaf {rk : List Int} {ls : List Lk} (hM : MayP rk ls) {a b : Int} (h : 0 ≤ posL ls a b) (hm : (lkP ls a b).m = -1) : TL rk ls a b = [b] ∧ TD rk ls a b = 1 ∧ TN rk ls a b = 1 := by
  have := nu_lt hM h
  cases hn : rk.length with
  | zero => omega
  | succ d => simp only [TL, TD, TN, hn, tL, tD, tN, if_pos hm]; exact ⟨trivial, trivial, trivial⟩
theorem T_node {rk : List Int} {ls : List Lk} (hM : MayP rk ls) {a b : Int} (h : 0 ≤ posL ls a b) (hm : (lkP ls a b).m ≠ -1) :
    TL rk ls a b = TL rk ls a (lkP ls a b).m ++ TL rk ls (lkP ls a b).m b ∧ TD rk ls a b = max (TD rk ls a (lkP ls a b).m + 1) (TD rk ls (lkP ls a b).m b) ∧ TN rk ls a b = 1 + TN rk ls a (lkP ls a b).m + TN rk ls (lkP ls a b).m b := by
  have h0 := nu_lt hM h
  have hl := linkF hM h
  obtain ⟨n1, n2⟩ := nu_down hM h hm
  rcases hl.mid with h3 | ⟨_, _, _, p1, p2⟩
  · exact absurd h3 hm
  · have f := t_fuel hM rk.length (rk.length + 1) a b h h0 (by omega)
    obtain ⟨f1, f2, f3⟩ := f
    refine ⟨f1.trans ?_, f2.trans ?_, f3.trans ?_⟩
    · simp only [tL, if_neg hm]
    · simp only [tD, if_neg hm]
    · simp only [tN, if_neg hm]
theorem TL_pos (ls : List Lk) : ∀ (d : Nat) (a b : Int), 0 < (tL ls d a b).length
  | 0, _, _ => by simp [tL]
  | d + 1, a, b => by
    simp only [tL]
    split
    · simp
    · have := TL_pos ls d a (lkP ls a b).m
      simp; omega
theorem TD_pos (ls : List Lk) : ∀ (d : Nat) (a b : Int), 1 ≤ tD ls d a b
  | 0, _, _ => by simp [tD]
  | d + 1, a, b => by
    simp only [tD]
    split
    · omega
    · have := TD_pos ls d a (lkP ls a b).m; omega
theorem TDp (rk : List Int) (ls : List Lk) (a b : Int) : 1 ≤ TD rk ls a b := TD_pos ls rk.length a b
theorem t_bound {rk : List Int} {ls : List Lk} (hM : MayP rk ls) : ∀ (n : Nat) (a b : Int), 0 ≤ posL ls a b → nuL rk a b ≤ n → (TL rk ls a b).length ≤ 2 ^ n ∧ TD rk ls a b ≤ n + 1
  | n, a, b, hp, hn => by
    by_cases hm : (lkP ls a b).m = -1
    · obtain ⟨h1, h2, _⟩ := T_leaf hM hp hm
      rw [h1, h2]
      have := Nat.one_le_two_pow (n := n)
      exact ⟨by simpa using this, by omega⟩
    · obtain ⟨h1, h2, _⟩ := T_node hM hp hm
      obtain ⟨n1, n2⟩ := nu_down hM hp hm
      have hl := linkF hM hp
      rcases hl.mid with h3 | ⟨_, _, _, p1, p2⟩
      · exact absurd h3 hm
      · cases n with
        | zero => omega
        | succ n =>
          obtain ⟨a1, a2⟩ := t_bound hM n a (lkP ls a b).m p1 (by omega)
          obtain ⟨b1, b2⟩ := t_bound hM n (lkP ls a b).m b p2 (by omega)
          rw [h1, h2, List.length_append, Nat.pow_succ]
          omega
end Go.Proofs.Ytfhdmhoeopbhnaa
set_option linter.unusedSimpArgs false
namespace Go.Proofs.Ytfhdmhoeopbhnaa
open Go.Proofs.Ytfhdmhoeopbhnaa.Am
variable {G : GInv}
/-- Each link's Mid, by its ends: the last one tells. -/
def midO : List Lk → Int → Int → Option Int
  | [], _, _ => none
  | x :: l, a, b => match midO l a b with
    | some m => some m
    | none => if x.f = a ∧ x.t = b then some x.m else none
theorem midO_snoc (l : List Lk) (x : Lk) (a b : Int) : midO (l ++ [x]) a b = if x.f = a ∧ x.t = b then some x.m else midO l a b := by
  induction l with
  | nil => simp [midO]
  | cons y l ih =>
    simp only [List.cons_append, midO, ih]
    by_cases h : x.f = a ∧ x.t = b
    · simp only [if_pos h]
    · simp only [if_neg h]
theorem midO_none (l : List Lk) (a b : Int) (h : ∀ k, k < l.length → ¬ ((l.getD k default).f = a ∧ (l.getD k default).t = b)) : midO l a b = none := by
  induction l with
  | nil => rfl
  | cons y l ih =>
    simp only [midO, ih (fun k hk => by simpa using h (k + 1) (by simpa using hk))]
    rw [if_neg (by simpa using h 0 (by simp))]
theorem midO_some (l : List Lk) (a b : Int) (j : Nat) (hj : j < l.length) (h : (l.getD j default).f = a ∧ (l.getD j default).t = b)
    (hu : ∀ k, k < l.length → (l.getD k default).f = a ∧ (l.getD k default).t = b → k = j) : midO l a b = some (l.getD j default).m := by
  induction l generalizing j with
  | nil => simp at hj
  | cons y l ih =>
    simp only [midO]
    cases j with
    | zero =>
      rw [midO_none l a b (fun k hk hh => by have := hu (k + 1) (by simpa using hk) (by simpa using hh); omega)]
      simp only
      rw [if_pos (by simpa using h)]; rfl
    | succ j =>
      rw [ih j (by simpa using hj) (by simpa using h) (fun k hk hh => by have := hu (k + 1) (by simpa using hk) (by simpa using hh); omega)]
      simp
theorem uniq {n : Nat} {ls : List Lk} (hS : SortedP n ls) {i j : Nat} (hi : i < ls.length) (hj : j < ls.length) (h1 : (ls.getD i default).f = (ls.getD j default).f) (h2 : (ls.getD i default).t = (ls.getD j default).t) : i = j := by
  have key : ∀ i j, i < j → j < ls.length → (ls.getD i default).f = (ls.getD j default).f → (ls.getD i default).t = (ls.getD j default).t → False := by
    intro i j hij hj h1 h2
    have := rising hS i (j - i - 1) (by omega)
    rw [show i + (j - i - 1 + 1) = j by omega] at this
    unfold lexLt at this
    omega
  rcases Nat.lt_trichotomy i j with h | h | h
  · exact (key i j h hj h1 h2).elim
  · exact h
  · exact (key j i h hi h1.symm h2.symm).elim
theorem midO_pos {n : Nat} {ls : List Lk} (hS : SortedP n ls) (a b : Int) : midO ls a b = if 0 ≤ posL ls a b then some (lkP ls a b).m else none := by
  rcases posL_cases ls a b with ⟨h1, h2⟩ | ⟨j, h1, h2, h3, h4⟩
  · rw [if_neg (by omega)]; exact midO_none ls a b h2
  · rw [if_pos (by omega)]
    have e : lkP ls a b = ls.getD j default := by unfold lkP; rw [h1]; rfl
    rw [e]
    exact midO_some ls a b j h2 ⟨h3, h4⟩ (fun k hk hh => uniq hS hk h2 (by omega) (by omega))
def mHas (l : List Lk) : List KC → Bool
  | [.int a, .int b] => (midO l a b).isSome
  | _ => false
def mVal (l : List Lk) : List KC → A
  | [.int a, .int b] => .int .i64 ((midO l a b).getD 0)
  | _ => .junk
def midsA (l : List Lk) : A := .mv true [.int .i64, .int .i64] (mHas l) (mVal l)
theorem mHas_put (l : List Lk) (x : Lk) (k : List KC) : putH (mHas l) [.int x.f, .int x.t] true k = mHas (l ++ [x]) k := by
  unfold putH
  by_cases h : k = [.int x.f, .int x.t]
  · subst h; simp [mHas, midO_snoc]
  · rw [if_neg h]
    unfold mHas
    split
    · rename_i a b
      rw [midO_snoc, if_neg (fun hh => h (by rw [hh.1, hh.2]))]
    · rfl
theorem mVal_put (l : List Lk) (x : Lk) (k : List KC) (hk : putH (mHas l) [.int x.f, .int x.t] true k = true) : putV (mVal l) [.int x.f, .int x.t] (.int .i64 x.m) k = mVal (l ++ [x]) k := by
  unfold putV
  by_cases h : k = [.int x.f, .int x.t]
  · subst h; simp [mVal, midO_snoc]
  · rw [if_neg h]
    unfold mVal
    split
    · rename_i a b
      rw [midO_snoc, if_neg (fun hh => h (by rw [hh.1, hh.2]))]
    · rfl
set_option maxRecDepth 100000 in
set_option maxHeartbeats 1000000 in
theorem mids_c (rk : List Int) (ls : List Lk) (hl : ls.length ≤ 1000000) : ACalls Try.prog G 64 [.agg [intsA rk, lksA ls]] (midsA ls) := by
  refine ACalls.of_WA ttok Try.func64 rfl rfl _ rfl ?_
  conv => whnf
  repeat' (first | refine WA_seq ?_ | (refine WA_region ttok ?_; conv => whnf) | (refine WA_draw ttok mixed ?_; conv => whnf) | (refine WA_cond ?_; conv => whnf) | refine WA_block ?_ | (refine WA_skip ?_; conv => whnf) | (refine WA_exit ?_; conv => whnf) | (refine WA_ret ?_; conv => whnf) | (refine And.intro (fun h => ?_) (fun h => ?_) <;> (try simp only [brsA] at h) <;> conv => whnf) | (refine WR_fit ?_ ?_; (focus (first | exact wr_i64 (by omega) | exact wr_u64 (by omega) | exact wr_u8 (by omega) | exact wr_i32 (by omega) | exact wr_u32 (by omega))); conv => whnf) | (refine WR_wrap ?_; conv => whnf) | (refine And.intro (a := indepB _ _ = true) ?_ ?_; (focus kernel_rfl); conv => whnf) | (refine And.intro rfl ?_; conv => whnf) | (refine And.intro ?_ ?_; (focus (first | omega | (simp at *; omega))); conv => whnf))
  refine WA_loopI (fun i : Nat => i ≤ ls.length) (fun i => [(10, .int .i64 (i : Int))]) (fun i => [.box 25 [intsA rk, lksA ls], .mapb true [.int .i64, .int .i64] (mHas (ls.take i)) (mVal (ls.take i))]) (fun i => ls.length - i) 0 (by omega) ?_ ?_
  · conv => whnf
    repeat (first | exact rfl | exact trivial | exact Or.inl (fun _ _ => rfl) | exact (fun _ => rfl) | exact (fun _ _ => rfl) | exact Or.inl (fun _ hi => absurd hi (Nat.not_lt_zero _)) | (refine And.intro rfl ?_; conv => whnf) | (refine And.intro (Or.inl (fun _ _ => rfl)) ?_; conv => whnf) | (refine And.intro (fun _ => rfl) ?_; conv => whnf) | (refine And.intro (fun _ _ => rfl) ?_; conv => whnf) | (refine And.intro ?_ ?_; rotate_left; conv => whnf))
    · intro k h; cases h
    · intro k; simp only [List.take_zero]; unfold mHas; split <;> rfl
  · intro i hi
    conv => whnf
    repeat' (first | refine WA_seq ?_ | (refine WA_region ttok ?_; conv => whnf) | (refine WA_draw ttok mixed ?_; conv => whnf) | (refine WA_cond ?_; conv => whnf) | refine WA_block ?_ | (refine WA_skip ?_; conv => whnf) | (refine WA_exit ?_; conv => whnf) | (refine WA_ret ?_; conv => whnf) | (refine And.intro (fun h => ?_) (fun h => ?_) <;> (try simp only [brsA] at h) <;> conv => whnf) | (refine WR_fit ?_ ?_; (focus (first | exact wr_i64 (by omega) | exact wr_u64 (by omega) | exact wr_u8 (by omega) | exact wr_i32 (by omega) | exact wr_u32 (by omega))); conv => whnf) | (refine WR_wrap ?_; conv => whnf) | (refine And.intro (a := indepB _ _ = true) ?_ ?_; (focus kernel_rfl); conv => whnf) | (refine And.intro rfl ?_; conv => whnf) | (refine And.intro ?_ ?_; (focus (first | omega | (simp at *; omega))); conv => whnf))
    · have e : ls.take (i + 1) = ls.take i ++ [ls.getD i default] := by
        rw [List.take_add_one, List.getElem?_eq_getElem (by omega)]
        simp [List.getD_eq_getElem?_getD, show i < ls.length by omega]
      refine ⟨i + 1, (by show i + 1 ≤ ls.length; omega), (by show ls.length - (i + 1) < ls.length - i; omega), ?_⟩
      conv => whnf
      repeat (first | exact rfl | exact trivial | exact Or.inl (fun _ _ => rfl) | exact (fun _ => rfl) | exact (fun _ _ => rfl) | exact Or.inl (fun _ hi => absurd hi (Nat.not_lt_zero _)) | (refine And.intro rfl ?_; conv => whnf) | (refine And.intro (Or.inl (fun _ _ => rfl)) ?_; conv => whnf) | (refine And.intro (fun _ => rfl) ?_; conv => whnf) | (refine And.intro (fun _ _ => rfl) ?_; conv => whnf) | (refine And.intro ?_ ?_; rotate_left; conv => whnf))
      · intro k hk; rw [e]; exact mVal_put _ _ k hk
      · intro k; rw [e]; exact mHas_put _ _ k
    · rw [List.take_of_length_le (by omega)]
    · rw [List.take_of_length_le (by omega)]; exact fun _ => rfl
end Go.Proofs.Ytfhdmhoeopbhnaa
set_option linter.unusedSimpArgs false
namespace Go.Proofs.Ytfhdmhoeopbhnaa
open Go.Proofs.Ytfhdmhoeopbhnaa.Am
variable {G : GInv}
theorem rowCat_app {α : Type} (e : α → List A) (d : α) (l l2 : List α) (r : Nat → List A) (hr : ∀ j, j < l2.length → r j = e (l2.getD j d)) (i : Nat) (hi : i < l.length + l2.length) :
    rowCat l.length (fun i => e (l.getD i d)) r i = e ((l ++ l2).getD i d) := by
  unfold rowCat
  split
  · rename_i h
    have h : i < l.length := Nat.le_of_ble_eq_true h
    simp only [List.getD_eq_getElem?_getD, List.getElem?_append_left h]
  · rename_i h
    have h : ¬ i < l.length := fun h' => by rw [show Nat.blt i l.length = true from Nat.ble_eq_true_of_le h'] at h; cases h
    rw [hr (i - l.length) (by omega)]
    simp only [List.getD_eq_getElem?_getD, List.getElem?_append_right (show l.length ≤ i by omega)]
def flatT (rk : List Int) (ls : List Lk) : List (Int × Int) → List Int
  | [] => []
  | e :: es => flatT rk ls es ++ TL rk ls e.1 e.2
theorem flatT_snoc (rk : List Int) (ls : List Lk) (e : Int × Int) : ∀ st, flatT rk ls (st ++ [e]) = TL rk ls e.1 e.2 ++ flatT rk ls st
  | [] => by simp [flatT]
  | x :: st => by simp only [List.cons_append, flatT, flatT_snoc rk ls e st, List.append_assoc]
def hmT (rk : List Int) (ls : List Lk) : Nat → List (Int × Int) → Int
  | _, [] => 0
  | i, e :: es => max (i + TD rk ls e.1 e.2) (hmT rk ls (i + 1) es)
theorem hmT_snoc (rk : List Int) (ls : List Lk) (e : Int × Int) : ∀ (st : List (Int × Int)) (i : Nat), hmT rk ls i (st ++ [e]) = max (hmT rk ls i st) (i + st.length + TD rk ls e.1 e.2)
  | [], i => by
    have := TDp rk ls e.1 e.2
    simp only [List.nil_append, hmT, List.length_nil]; omega
  | x :: st, i => by
    simp only [List.cons_append, hmT, hmT_snoc rk ls e st (i + 1), List.length_cons]
    omega
theorem hmT_len (rk : List Int) (ls : List Lk) (st : List (Int × Int)) : (st.length : Int) ≤ hmT rk ls 0 st := by
  rcases List.eq_nil_or_concat st with rfl | ⟨st', e, rfl⟩
  · simp [hmT]
  · rw [List.concat_eq_append, hmT_snoc]
    have := TDp rk ls e.1 e.2
    simp only [List.length_append, List.length_cons, List.length_nil]
    omega
def szT (rk : List Int) (ls : List Lk) : List (Int × Int) → Nat
  | [] => 0
  | e :: es => TN rk ls e.1 e.2 + szT rk ls es
theorem szT_app (rk : List Int) (ls : List Lk) (l2 : List (Int × Int)) : ∀ st, szT rk ls (st ++ l2) = szT rk ls st + szT rk ls l2
  | [] => by simp [szT]
  | x :: st => by simp only [List.cons_append, szT, szT_app rk ls l2 st]; omega
structure RunI (rk : List Int) (ls : List Lk) (a b : Int) (st : List (Int × Int)) (out : List Int) (dp : Int) : Prop where
  pos : ∀ e ∈ st, 0 ≤ posL ls e.1 e.2
  out : out ++ flatT rk ls st = TL rk ls a b
  dep : max dp (hmT rk ls 0 st) = TD rk ls a b
  dp0 : 0 ≤ dp
def stR (l : List (Int × Int)) : Nat → List A := fun i => [.int .i64 (l.getD i (0, 0)).1, .int .i64 (l.getD i (0, 0)).2]
def inR (l : List Int) : Nat → List A := fun i => [.int .i64 (l.getD i 0)]
theorem RunI.leaf {rk : List Int} {ls : List Lk} (hM : MayP rk ls) {a b : Int} {st : List (Int × Int)} {e : Int × Int} {out : List Int} {dp : Int} (h : RunI rk ls a b (st ++ [e]) out dp) (hm : (lkP ls e.1 e.2).m = -1) :
    RunI rk ls a b st (out ++ [e.2]) (max dp (st.length + 1)) := by
  have hp := h.pos e (by simp)
  obtain ⟨t1, t2, _⟩ := T_leaf hM hp hm
  refine ⟨fun x hx => h.pos x (by simp [hx]), ?_, ?_, by have := h.dp0; omega⟩
  · have := h.out; rw [flatT_snoc, t1] at this; rw [← this]; simp
  · have := h.dep; rw [hmT_snoc, t2] at this; rw [← this]; omega
theorem RunI.node {rk : List Int} {ls : List Lk} (hM : MayP rk ls) {a b : Int} {st : List (Int × Int)} {e : Int × Int} {out : List Int} {dp : Int} (h : RunI rk ls a b (st ++ [e]) out dp) (hm : (lkP ls e.1 e.2).m ≠ -1) :
    RunI rk ls a b (st ++ [((lkP ls e.1 e.2).m, e.2), (e.1, (lkP ls e.1 e.2).m)]) out (max dp (st.length + 1)) := by
  have hp := h.pos e (by simp)
  obtain ⟨t1, t2, _⟩ := T_node hM hp hm
  have hl := linkF hM hp
  rcases hl.mid with h3 | ⟨_, _, _, p1, p2⟩
  · exact absurd h3 hm
  refine ⟨fun x hx => ?_, ?_, ?_, by have := h.dp0; omega⟩
  · simp only [List.mem_append, List.mem_cons, List.not_mem_nil, or_false] at hx
    rcases hx with hx | rfl | rfl
    · exact h.pos x (by simp [hx])
    · exact p2
    · exact p1
  · have := h.out; rw [flatT_snoc, t1] at this
    rw [← this, show st ++ [((lkP ls e.1 e.2).m, e.2), (e.1, (lkP ls e.1 e.2).m)] = (st ++ [((lkP ls e.1 e.2).m, e.2)]) ++ [(e.1, (lkP ls e.1 e.2).m)] by simp, flatT_snoc, flatT_snoc]
    simp
  · have := h.dep; rw [hmT_snoc, t2] at this
    rw [← this, show st ++ [((lkP ls e.1 e.2).m, e.2), (e.1, (lkP ls e.1 e.2).m)] = (st ++ [((lkP ls e.1 e.2).m, e.2)]) ++ [(e.1, (lkP ls e.1 e.2).m)] by simp, hmT_snoc, hmT_snoc]
    have d1 := TDp rk ls e.1 (lkP ls e.1 e.2).m
    have d2 := TDp rk ls (lkP ls e.1 e.2).m e.2
    simp only [List.length_append, List.length_cons, List.length_nil]
    omega
theorem stack_fit (st : List (Int × Int)) (e : Int × Int) (l2 : List (Int × Int)) (r : Nat → List A) (hr : ∀ j, j < l2.length → r j = stR l2 j) (n : Nat) (hn : n = st.length) (i : Nat) (hi : i < n + l2.length) :
    rowCat n (stR (st ++ [e])) r i = stR (st ++ l2) i := by
  subst hn
  unfold rowCat
  split
  · rename_i h
    have h : i < st.length := Nat.le_of_ble_eq_true h
    simp only [stR, List.getD_eq_getElem?_getD, List.getElem?_append_left h]
  · rename_i h
    have h : ¬ i < st.length := fun h' => by rw [show Nat.blt i st.length = true from Nat.ble_eq_true_of_le h'] at h; cases h
    rw [hr (i - st.length) (by omega)]
    simp only [stR, List.getD_eq_getElem?_getD, List.getElem?_append_right (show st.length ≤ i by omega)]
theorem pop_fit (st : List (Int × Int)) (e : Int × Int) (i : Nat) (hi : i < st.length) : stR (st ++ [e]) i = stR st i := by
  simp only [stR, List.getD_eq_getElem?_getD, List.getElem?_append_left hi]
set_option maxRecDepth 100000 in
set_option maxHeartbeats 4000000 in
theorem run_c (rk : List Int) (ls : List Lk) (hM : MayP rk ls) (a b : Int) (hp : 0 ≤ posL ls a b) (room : Int) (h1 : ((TL rk ls a b).length : Int) ≤ room) (h2 : (TL rk ls a b).length ≤ 1000000) (h3 : TD rk ls a b ≤ 1000000) :
    ACalls Try.prog G 65 [midsA ls, .agg [.int .i64 a, .int .i64 b], .int .i64 room] (.tup [intsA (TL rk ls a b), .int .i64 (TD rk ls a b), .bool true]) := by
  refine ACalls.of_WA ttok Try.func65 rfl rfl _ rfl ?_
  conv => whnf
  repeat' (first | refine WA_seq ?_ | (refine WA_region ttok ?_; conv => whnf) | (refine WA_draw ttok mixed ?_; conv => whnf) | (refine WA_cond ?_; conv => whnf) | refine WA_block ?_ | (refine WA_skip ?_; conv => whnf) | (refine WA_exit ?_; conv => whnf) | (refine WA_ret ?_; conv => whnf) | (refine And.intro (fun h => ?_) (fun h => ?_) <;> (try simp only [brsA] at h) <;> conv => whnf) | (refine WR_fit ?_ ?_; (focus (first | exact wr_i64 (by omega) | exact wr_u64 (by omega) | exact wr_u8 (by omega) | exact wr_i32 (by omega) | exact wr_u32 (by omega))); conv => whnf) | (refine WR_wrap ?_; conv => whnf) | (refine And.intro (a := indepB _ _ = true) ?_ ?_; (focus kernel_rfl); conv => whnf) | (refine And.intro rfl ?_; conv => whnf) | (refine And.intro ?_ ?_; (focus (first | omega | (simp at *; omega))); conv => whnf))
  refine WA_nil 6 3 1 rfl ?_
  conv => whnf
  refine WA_loopI (ι := List (Int × Int) × List Int × Int) (fun x => RunI rk ls a b x.1 x.2.1 x.2.2) (fun x => match x with | (st, out, dp) => [(9, .own 1), (13, .junk), (6, .own 2), (7, .int .i64 dp)]) (fun x => match x with | (st, out, dp) => [.box 105 [.int .i64 a, .int .i64 b], .row 105 2 st.length (stR st), .row 3 1 out.length (inR out)])
    (fun x => szT rk ls x.1) ([(a, b)], [], 0) ⟨?_, ?_, ?_, ?_⟩ ?_ ?_
  · intro e he; simp at he; subst he; exact hp
  · simp [flatT]
  · simp only [hmT]; have := TDp rk ls a b; omega
  · show (0 : Int) ≤ 0; omega
  · conv => whnf
    repeat (first | exact rfl | exact trivial | exact Or.inl (fun _ _ => rfl) | exact (fun _ => rfl) | exact (fun _ _ => rfl) | exact Or.inl (fun _ hi => absurd hi (Nat.not_lt_zero _)) | (refine And.intro rfl ?_; conv => whnf) | (refine And.intro (Or.inl (fun _ _ => rfl)) ?_; conv => whnf) | (refine And.intro (fun _ => rfl) ?_; conv => whnf) | (refine And.intro (fun _ _ => rfl) ?_; conv => whnf) | (refine And.intro ?_ ?_; rotate_left; conv => whnf))
    all_goals (refine Or.inl fun i hi => ?_; rcases i with _ | _ | _ | _ | i <;> first | rfl | omega)
  · rintro ⟨st, out, dp⟩ hI
    have hI : RunI rk ls a b st out dp := hI
    rcases List.eq_nil_or_concat st with rfl | ⟨st, e, rfl⟩
    · have ho := hI.out
      have hd := hI.dep
      simp only [flatT, List.append_nil] at ho
      simp only [hmT] at hd
      have hd0 := hI.dp0
      have hdp : dp = TD rk ls a b := by omega
      subst ho; subst hdp
      conv => whnf
      repeat' (first | refine WA_seq ?_ | (refine WA_region ttok ?_; conv => whnf) | (refine WA_draw ttok mixed ?_; conv => whnf) | (refine WA_cond ?_; conv => whnf) | refine WA_block ?_ | (refine WA_skip ?_; conv => whnf) | (refine WA_exit ?_; conv => whnf) | (refine WA_ret ?_; conv => whnf) | (refine And.intro (fun h => ?_) (fun h => ?_) <;> (try simp only [brsA] at h) <;> conv => whnf) | (refine WR_fit ?_ ?_; (focus (first | exact wr_i64 (by omega) | exact wr_u64 (by omega) | exact wr_u8 (by omega) | exact wr_i32 (by omega) | exact wr_u32 (by omega))); conv => whnf) | (refine WR_wrap ?_; conv => whnf) | (refine And.intro (a := indepB _ _ = true) ?_ ?_; (focus kernel_rfl); conv => whnf) | (refine And.intro rfl ?_; conv => whnf) | (refine And.intro ?_ ?_; (focus (first | omega | (simp at *; omega))); conv => whnf))
      · simp at h
      · repeat (first | exact rfl | exact trivial | exact Or.inl (fun _ _ => rfl) | exact (fun _ => rfl) | exact (fun _ _ => rfl) | exact Or.inl (fun _ hi => absurd hi (Nat.not_lt_zero _)) | (refine And.intro rfl ?_; conv => whnf) | (refine And.intro (Or.inl (fun _ _ => rfl)) ?_; conv => whnf) | (refine And.intro (fun _ => rfl) ?_; conv => whnf) | (refine And.intro (fun _ _ => rfl) ?_; conv => whnf) | (refine And.intro ?_ ?_; rotate_left; conv => whnf))
    · rw [List.concat_eq_append] at hI ⊢
      have hlen : (st ++ [e]).length = st.length + 1 := by simp
      have hx : (st ++ [e]).getD ((((st ++ [e]).length : Nat) : Int) - 1).toNat (0, 0) = e := by
        rw [show ((((st ++ [e]).length : Nat) : Int) - 1).toNat = st.length by omega]; simp [List.getD_eq_getElem?_getD]
      have hpe := hI.pos e (by simp)
      have hmid := midO_pos hM.2.2.2.1 e.1 e.2
      rw [if_pos hpe] at hmid
      have hsl : ((st ++ [e]).length : Int) ≤ 1000000 := by
        have := hmT_len rk ls (st ++ [e])
        have := hI.dep
        omega
      have hol : out.length < (TL rk ls a b).length := by
        rw [← hI.out, flatT_snoc]
        have : 0 < (TL rk ls e.1 e.2).length := TL_pos ls rk.length e.1 e.2
        simp only [List.length_append]
        omega
      conv => whnf
      repeat' (first | refine WA_seq ?_ | (refine WA_region ttok ?_; conv => whnf) | (refine WA_draw ttok mixed ?_; conv => whnf) | (refine WA_cond ?_; conv => whnf) | refine WA_block ?_ | (refine WA_skip ?_; conv => whnf) | (refine WA_exit ?_; conv => whnf) | (refine WA_ret ?_; conv => whnf) | (refine And.intro (fun h => ?_) (fun h => ?_) <;> (try simp only [brsA] at h) <;> conv => whnf) | (refine WR_fit ?_ ?_; (focus (first | exact wr_i64 (by omega) | exact wr_u64 (by omega) | exact wr_u8 (by omega) | exact wr_i32 (by omega) | exact wr_u32 (by omega))); conv => whnf) | (refine WR_wrap ?_; conv => whnf) | (refine And.intro (a := indepB _ _ = true) ?_ ?_; (focus kernel_rfl); conv => whnf) | (refine And.intro rfl ?_; conv => whnf) | (refine And.intro ?_ ?_; (focus (first | omega | (simp at *; omega))); conv => whnf))
      · simp only [hx, hmid, Option.getD_some] at h ⊢
        have hm : (lkP ls e.1 e.2).m ≠ -1 := by omega
        refine ⟨(st ++ [((lkP ls e.1 e.2).m, e.2), (e.1, (lkP ls e.1 e.2).m)], out, max dp (st.length + 1)), hI.node hM hm, ?_, ?_⟩
        · show szT rk ls (st ++ [((lkP ls e.1 e.2).m, e.2), (e.1, (lkP ls e.1 e.2).m)]) < szT rk ls (st ++ [e])
          rw [szT_app, szT_app]
          have := (T_node hM hpe hm).2.2
          simp only [szT]; omega
        · conv => whnf
          repeat (first | exact rfl | exact trivial | exact Or.inl (fun _ _ => rfl) | exact (fun _ => rfl) | exact (fun _ _ => rfl) | exact Or.inl (fun _ hi => absurd hi (Nat.not_lt_zero _)) | (refine And.intro rfl ?_; conv => whnf) | (refine And.intro (Or.inl (fun _ _ => rfl)) ?_; conv => whnf) | (refine And.intro (fun _ => rfl) ?_; conv => whnf) | (refine And.intro (fun _ _ => rfl) ?_; conv => whnf) | (refine And.intro ?_ ?_; rotate_left; conv => whnf))
          · show (if dp < ((st ++ [e]).length : Int) then ((st ++ [e]).length : Int) else dp) = max dp (st.length + 1)
            split <;> omega
          · show ((((st ++ [e]).length : Nat) : Int) - 1).toNat + 2 = (st ++ [((lkP ls e.1 e.2).m, e.2), (e.1, (lkP ls e.1 e.2).m)]).length
            rw [List.length_append, List.length_append]; simp
          · refine Or.inl fun i hi => ?_
            refine stack_fit st e [((lkP ls e.1 e.2).m, e.2), (e.1, (lkP ls e.1 e.2).m)] _ ?_ _ (by omega) i hi
            intro j hj
            rcases j with _ | _ | j <;> first | rfl | (simp at hj; omega)
      · omega
      · simp only [hx, hmid, Option.getD_some] at h ⊢
        rename_i hm
        rw [hx, hmid, Option.getD_some] at hm
        have hm : (lkP ls e.1 e.2).m = -1 := by
          rcases (linkF hM hpe).mid with h5 | ⟨h5, _⟩
          · exact h5
          · omega
        refine ⟨(st, out ++ [e.2], max dp (st.length + 1)), hI.leaf hM hm, ?_, ?_⟩
        · show szT rk ls st < szT rk ls (st ++ [e])
          rw [szT_app]
          have := (T_leaf hM hpe hm).2.2
          simp only [szT]; omega
        · conv => whnf
          repeat (first | exact rfl | exact trivial | exact Or.inl (fun _ _ => rfl) | exact (fun _ => rfl) | exact (fun _ _ => rfl) | exact Or.inl (fun _ hi => absurd hi (Nat.not_lt_zero _)) | (refine And.intro rfl ?_; conv => whnf) | (refine And.intro (Or.inl (fun _ _ => rfl)) ?_; conv => whnf) | (refine And.intro (fun _ => rfl) ?_; conv => whnf) | (refine And.intro (fun _ _ => rfl) ?_; conv => whnf) | (refine And.intro ?_ ?_; rotate_left; conv => whnf))
          · refine Or.inl fun i hi => ?_
            exact rowCat_app (fun y : Int => [A.int .i64 y]) 0 out [e.2] _ (fun j hj => by
              have : j = 0 := by simp at hj; omega
              subst this; rfl) i (by simpa using hi)
          · show (if dp < ((st ++ [e]).length : Int) then ((st ++ [e]).length : Int) else dp) = max dp (st.length + 1)
            split <;> omega
          · show ((((st ++ [e]).length : Nat) : Int) - 1).toNat = st.length
            omega
          · exact Or.inl fun i hi => pop_fit st e i (by omega)
          · show out.length + 1 = (out ++ [e.2]).length
            simp
      all_goals (simp only [hx, mHas, hmid, Option.isSome_some] at *; first | omega | contradiction | (simp at *))
end Go.Proofs.Ytfhdmhoeopbhnaa
set_option linter.unusedSimpArgs false
namespace Go.Proofs.Ytfhdmhoeopbhnaa
open Go.Proofs.Ytfhdmhoeopbhnaa.Am
variable {G : GInv}
theorem tL_len (ls : List Lk) : ∀ (d : Nat) (a b : Int), (tL ls d a b).length ≤ 2 ^ d ∧ tD ls d a b ≤ d + 1
  | 0, _, _ => by simp [tL, tD]
  | d + 1, a, b => by
    simp only [tL, tD]
    have h1 := tL_len ls d a (lkP ls a b).m
    have h2 := tL_len ls d (lkP ls a b).m b
    have := Nat.one_le_two_pow (n := d)
    split
    · simp only [List.length_singleton, Nat.pow_succ]; omega
    · simp only [List.length_append, Nat.pow_succ]; omega
theorem tL_node (ls : List Lk) (d : Nat) (a b : Int) (h : ¬ (ls.getD (posL ls a b).toNat default).m = -1) : tL ls (d + 1) a b = tL ls d a (ls.getD (posL ls a b).toNat default).m ++ tL ls d (ls.getD (posL ls a b).toNat default).m b ∧
    tD ls (d + 1) a b = max (tD ls d a (ls.getD (posL ls a b).toNat default).m + 1) (tD ls d (ls.getD (posL ls a b).toNat default).m b) := by
  have h : ¬ (lkP ls a b).m = -1 := h
  exact ⟨by simp only [tL, if_neg h]; rfl, by simp only [tD, if_neg h]; rfl⟩
theorem tL_leaf (ls : List Lk) (d : Nat) (a b : Int) (h : (ls.getD (posL ls a b).toNat default).m = -1) : tL ls (d + 1) a b = [b] ∧ tD ls (d + 1) a b = 1 := by
  have h : (lkP ls a b).m = -1 := h
  exact ⟨by simp only [tL, if_pos h], by simp only [tD, if_pos h]⟩
theorem pow_le15 {d n : Nat} (h : n ≤ 2 ^ d) (hd : d ≤ 15) : n ≤ 1000000 := Nat.le_trans h (Nat.le_trans (Nat.pow_le_pow_right (by omega) hd) (by decide))
set_option maxRecDepth 100000 in
set_option maxHeartbeats 4000000 in
theorem ref27link_c (rk : List Int) (ls : List Lk) (hM : MayP rk ls) (hl : ls.length ≤ 1000000) : ∀ (d : Nat) (a b at_ dp : Int), d ≤ 15 → 0 ≤ posL ls a b → at_ = posL ls a b → dp = d →
    MCalls Try.prog G 26 [.agg [intsA rk, lksA ls], .int .i64 at_, .int .i64 dp] [] (.own 0) [.row 3 1 (tL ls d a b).length (inR (tL ls d a b))] := by
  intro d
  induction d with
  | zero =>
    rintro a b at_ dp hd hp rfl rfl
    have hpl : posL ls a b < ls.length := by
      rcases posL_cases ls a b with ⟨h1, _⟩ | ⟨j, h1, h2, _⟩ <;> omega
    have ht : (ls.getD (posL ls a b).toNat default).t = b := (linkF hM hp).t
    refine MCalls.of_WA ttok Try.func26 rfl rfl _ rfl ?_
    conv => whnf
    repeat' (first | refine WA_seq ?_ | (refine WA_region ttok ?_; conv => whnf) | (refine WA_draw ttok mixed ?_; conv => whnf) | (refine WA_cond ?_; conv => whnf) | refine WA_block ?_ | (refine WA_skip ?_; conv => whnf) | (refine WA_exit ?_; conv => whnf) | (refine WA_ret ?_; conv => whnf) | (refine And.intro (fun h => ?_) (fun h => ?_) <;> (try simp only [brsA] at h) <;> conv => whnf) | (refine WR_fit ?_ ?_; (focus (first | exact wr_i64 (by omega) | exact wr_u64 (by omega) | exact wr_u8 (by omega) | exact wr_i32 (by omega) | exact wr_u32 (by omega))); conv => whnf) | (refine WR_wrap ?_; conv => whnf) | (refine And.intro (a := indepB _ _ = true) ?_ ?_; (focus kernel_rfl); conv => whnf) | (refine And.intro rfl ?_; conv => whnf) | (refine And.intro ?_ ?_; (focus (first | omega | (simp at *; omega))); conv => whnf))
    all_goals first
      | (exfalso; simp at *; done)
      | skip
    all_goals rw [ht]
    all_goals
      conv => whnf
      repeat (first | exact rfl | exact trivial | exact Or.inl (fun _ _ => rfl) | exact (fun _ => rfl) | exact (fun _ _ => rfl) | exact Or.inl (fun _ hi => absurd hi (Nat.not_lt_zero _)) | (refine And.intro rfl ?_; conv => whnf) | (refine And.intro (Or.inl (fun _ _ => rfl)) ?_; conv => whnf) | (refine And.intro (fun _ => rfl) ?_; conv => whnf) | (refine And.intro (fun _ _ => rfl) ?_; conv => whnf) | (refine And.intro ?_ ?_; rotate_left; conv => whnf))
      (refine Or.inl fun i hi => ?_; rcases i with _ | _ | _ | _ | i <;> first | rfl | omega)
  | succ d ih =>
    rintro a b at_ dp hd hp rfl rfl
    have hpl : posL ls a b < ls.length := by
      rcases posL_cases ls a b with ⟨h1, _⟩ | ⟨j, h1, h2, _⟩ <;> omega
    have hlf := linkF hM hp
    have hf : (ls.getD (posL ls a b).toNat default).f = a := hlf.f
    have ht : (ls.getD (posL ls a b).toNat default).t = b := hlf.t
    have hmid : ¬ (ls.getD (posL ls a b).toNat default).m = -1 → 0 ≤ posL ls a (ls.getD (posL ls a b).toNat default).m ∧ 0 ≤ posL ls (ls.getD (posL ls a b).toNat default).m b := fun h => by
      rcases hlf.mid with h3 | h3
      · exact absurd h3 h
      · exact ⟨h3.2.2.2.1, h3.2.2.2.2⟩
    have hlen : ∀ a b, (tL ls d a b).length ≤ 1000000 := fun a b => pow_le15 (tL_len ls d a b).1 (by omega)
    have hl1 := hlen a (ls.getD (posL ls a b).toNat default).m
    have hl2 := hlen (ls.getD (posL ls a b).toNat default).m b
    refine MCalls.of_WA ttok Try.func26 rfl rfl _ rfl ?_
    conv => whnf
    repeat' (first | (refine WA_drawR (id := 5) [(4,1),(9,1)] ttok mixed ?_; conv => whnf) | refine WA_seq ?_ | (refine WA_region ttok ?_; conv => whnf) | (refine WA_draw ttok mixed ?_; conv => whnf) | (refine WA_cond ?_; conv => whnf) | refine WA_block ?_ | (refine WA_skip ?_; conv => whnf) | (refine WA_exit ?_; conv => whnf) | (refine WA_ret ?_; conv => whnf) | (refine And.intro (fun h => ?_) (fun h => ?_) <;> (try simp only [brsA] at h) <;> conv => whnf) | (refine Or.inl ?_; (conv => whnf); refine Exists.intro _ (And.intro (refLink_c _ _ _ hl) ?_); conv => whnf) | (refine Or.inr (Or.inr (Or.inl ?_)); (conv => whnf); refine Exists.intro _ (And.intro (refLink_c _ _ _ hl) ?_); conv => whnf) | (refine Exists.intro _ (And.intro (refLink_c _ _ _ hl) ?_); conv => whnf) | (refine Or.inr (Or.inr (Or.inr ?_)); (conv => whnf); refine Exists.intro _ (Exists.intro _ (And.intro (ih a (ls.getD (posL ls a b).toNat default).m _ _ (by omega) (hmid (by assumption)).1 (by rw [hf]; rfl) (by omega)) ?_)); conv => whnf) | (refine Or.inr ?_; (conv => whnf); refine Exists.intro _ (Exists.intro _ (And.intro (ih a (ls.getD (posL ls a b).toNat default).m _ _ (by omega) (hmid (by assumption)).1 (by rw [hf]; rfl) (by omega)) ?_)); conv => whnf) | (refine Exists.intro _ (And.intro (ih a (ls.getD (posL ls a b).toNat default).m _ _ (by omega) (hmid (by assumption)).1 (by rw [hf]; rfl) (by omega)) ?_); conv => whnf) | (refine Or.inr (Or.inr (Or.inr ?_)); (conv => whnf); refine Exists.intro _ (Exists.intro _ (And.intro (ih (ls.getD (posL ls a b).toNat default).m b _ _ (by omega) (hmid (by assumption)).2 (by rw [ht]; rfl) (by omega)) ?_)); conv => whnf) | (refine Or.inr ?_; (conv => whnf); refine Exists.intro _ (Exists.intro _ (And.intro (ih (ls.getD (posL ls a b).toNat default).m b _ _ (by omega) (hmid (by assumption)).2 (by rw [ht]; rfl) (by omega)) ?_)); conv => whnf) | (refine Exists.intro _ (And.intro (ih (ls.getD (posL ls a b).toNat default).m b _ _ (by omega) (hmid (by assumption)).2 (by rw [ht]; rfl) (by omega)) ?_); conv => whnf) | (refine WR_fit ?_ ?_; (focus (first | exact wr_i64 (by omega) | exact wr_u64 (by omega) | exact wr_u8 (by omega) | exact wr_i32 (by omega) | exact wr_u32 (by omega))); conv => whnf) | (refine WR_wrap ?_; conv => whnf) | (refine And.intro (a := indepB _ _ = true) ?_ ?_; (focus kernel_rfl); conv => whnf) | (refine And.intro rfl ?_; conv => whnf) | (refine And.intro ?_ ?_; (focus (first | omega | (simp at *; omega))); conv => whnf))
    all_goals first
      | (exfalso; omega)
      | skip
    · have e := (tL_node ls d a b (by assumption)).1
      rw [e]
      refine ⟨by simp, Or.inl fun i hi => rowCat_app (fun y : Int => [A.int .i64 y]) 0 _ _ _ (fun j _ => rfl) i hi⟩
    · have e := (tL_leaf ls d a b (by assumption)).1
      rw [e, ht]
      refine ⟨by simp, ?_⟩
      conv => whnf
      (refine Or.inl fun i hi => ?_; rcases i with _ | _ | _ | _ | i <;> first | rfl | omega)
set_option maxRecDepth 100000 in
set_option maxHeartbeats 4000000 in
theorem ref27depth_c (rk : List Int) (ls : List Lk) (hM : MayP rk ls) (hl : ls.length ≤ 1000000) : ∀ (d : Nat) (a b at_ dp : Int), d ≤ 15 → 0 ≤ posL ls a b → at_ = posL ls a b → dp = d →
    ACalls Try.prog G 27 [.agg [intsA rk, lksA ls], .int .i64 at_, .int .i64 dp] (.int .i64 (tD ls d a b)) := by
  intro d
  induction d with
  | zero =>
    rintro a b at_ dp hd hp rfl rfl
    have hpl : posL ls a b < ls.length := by
      rcases posL_cases ls a b with ⟨h1, _⟩ | ⟨j, h1, h2, _⟩ <;> omega
    refine ACalls.of_WA ttok Try.func27 rfl rfl _ rfl ?_
    conv => whnf
    repeat' (first | refine WA_seq ?_ | (refine WA_region ttok ?_; conv => whnf) | (refine WA_draw ttok mixed ?_; conv => whnf) | (refine WA_cond ?_; conv => whnf) | refine WA_block ?_ | (refine WA_skip ?_; conv => whnf) | (refine WA_exit ?_; conv => whnf) | (refine WA_ret ?_; conv => whnf) | (refine And.intro (fun h => ?_) (fun h => ?_) <;> (try simp only [brsA] at h) <;> conv => whnf) | (refine WR_fit ?_ ?_; (focus (first | exact wr_i64 (by omega) | exact wr_u64 (by omega) | exact wr_u8 (by omega) | exact wr_i32 (by omega) | exact wr_u32 (by omega))); conv => whnf) | (refine WR_wrap ?_; conv => whnf) | (refine And.intro (a := indepB _ _ = true) ?_ ?_; (focus kernel_rfl); conv => whnf) | (refine And.intro rfl ?_; conv => whnf) | (refine And.intro ?_ ?_; (focus (first | omega | (simp at *; omega))); conv => whnf))
    all_goals first
      | (exfalso; simp at *; done)
      | rfl
  | succ d ih =>
    rintro a b at_ dp hd hp rfl rfl
    have hpl : posL ls a b < ls.length := by
      rcases posL_cases ls a b with ⟨h1, _⟩ | ⟨j, h1, h2, _⟩ <;> omega
    have hlf := linkF hM hp
    have hf : (ls.getD (posL ls a b).toNat default).f = a := hlf.f
    have ht : (ls.getD (posL ls a b).toNat default).t = b := hlf.t
    have hmid : ¬ (ls.getD (posL ls a b).toNat default).m = -1 → 0 ≤ posL ls a (ls.getD (posL ls a b).toNat default).m ∧ 0 ≤ posL ls (ls.getD (posL ls a b).toNat default).m b := fun h => by
      rcases hlf.mid with h3 | h3
      · exact absurd h3 h
      · exact ⟨h3.2.2.2.1, h3.2.2.2.2⟩
    have hb1 := (tL_len ls d a (ls.getD (posL ls a b).toNat default).m).2
    have hb2 := TD_pos ls d a (ls.getD (posL ls a b).toNat default).m
    refine ACalls.of_WA ttok Try.func27 rfl rfl _ rfl ?_
    conv => whnf
    repeat' (first | refine WA_seq ?_ | (refine WA_region ttok ?_; conv => whnf) | (refine WA_draw ttok mixed ?_; conv => whnf) | (refine WA_cond ?_; conv => whnf) | refine WA_block ?_ | (refine WA_skip ?_; conv => whnf) | (refine WA_exit ?_; conv => whnf) | (refine WA_ret ?_; conv => whnf) | (refine And.intro (fun h => ?_) (fun h => ?_) <;> (try simp only [brsA] at h) <;> conv => whnf) | (refine Or.inl ?_; (conv => whnf); refine Exists.intro _ (And.intro (refLink_c _ _ _ hl) ?_); conv => whnf) | (refine Or.inr (Or.inr (Or.inl ?_)); (conv => whnf); refine Exists.intro _ (And.intro (refLink_c _ _ _ hl) ?_); conv => whnf) | (refine Exists.intro _ (And.intro (refLink_c _ _ _ hl) ?_); conv => whnf) | (refine Or.inl ?_; (conv => whnf); refine Exists.intro _ (And.intro (ih a (ls.getD (posL ls a b).toNat default).m _ _ (by omega) (hmid (by assumption)).1 (by rw [hf]; rfl) (by omega)) ?_); conv => whnf) | (refine Exists.intro _ (And.intro (ih a (ls.getD (posL ls a b).toNat default).m _ _ (by omega) (hmid (by assumption)).1 (by rw [hf]; rfl) (by omega)) ?_); conv => whnf) | (refine Or.inl ?_; (conv => whnf); refine Exists.intro _ (And.intro (ih (ls.getD (posL ls a b).toNat default).m b _ _ (by omega) (hmid (by assumption)).2 (by rw [ht]; rfl) (by omega)) ?_); conv => whnf) | (refine Exists.intro _ (And.intro (ih (ls.getD (posL ls a b).toNat default).m b _ _ (by omega) (hmid (by assumption)).2 (by rw [ht]; rfl) (by omega)) ?_); conv => whnf) | (refine WR_fit ?_ ?_; (focus (first | exact wr_i64 (by omega) | exact wr_u64 (by omega) | exact wr_u8 (by omega) | exact wr_i32 (by omega) | exact wr_u32 (by omega))); conv => whnf) | (refine WR_wrap ?_; conv => whnf) | (refine And.intro (a := indepB _ _ = true) ?_ ?_; (focus kernel_rfl); conv => whnf) | (refine And.intro rfl ?_; conv => whnf) | (refine And.intro ?_ ?_; (focus (first | omega | (simp at *; omega))); conv => whnf))
    all_goals first
      | (exfalso; omega)
      | (have e := (tL_node ls d a b (by assumption)).2; rw [e]; omega)
      | (have e := (tL_leaf ls d a b (by assumption)).2; rw [e])
end Go.Proofs.Ytfhdmhoeopbhnaa
set_option linter.unusedSimpArgs false
namespace Go.Proofs.Ytfhdmhoeopbhnaa
open Go.Proofs.Ytfhdmhoeopbhnaa.Am
variable {G : GInv}
theorem TL_small {rk : List Int} {ls : List Lk} (hr : rk.length ≤ 14) (a b : Int) : (TL rk ls a b).length ≤ 16384 ∧ TD rk ls a b ≤ 15 := by
  have := tL_len ls rk.length a b
  exact ⟨Nat.le_trans this.1 (Nat.le_trans (Nat.pow_le_pow_right (by omega) hr) (by decide)), by have := this.2; unfold TD; omega⟩
def outL (rk : List Int) (ls : List Lk) (a b : Int) (k : Nat) : List Int := if k = 0 then [a] else a :: TL rk ls a b
set_option maxRecDepth 100000 in
set_option maxHeartbeats 4000000 in
theorem way_c (rk : List Int) (ls : List Lk) (hl : ls.length ≤ 1000000) (hr : rk.length ≤ 14) (hM : MayP rk ls) (a b : Int) (hp : 0 ≤ posL ls a b) :
    ACalls Try.prog G 63 [.agg [intsA rk, lksA ls], intsA [a, b]] (.tup [intsA (a :: TL rk ls a b), .int .i64 0]) := by
  have hlf := linkF hM hp
  have hok := hlf.ok
  rw [okL, hlf.f, hlf.t] at hok
  have hmid := midO_pos hM.2.2.2.1 a b
  rw [if_pos hp] at hmid
  obtain ⟨hs1, hs2⟩ := TL_small (ls := ls) hr a b
  refine ACalls.of_WA ttok Try.func63 rfl rfl _ rfl ?_
  conv => whnf
  repeat' (first | refine WA_seq ?_ | (refine WA_region ttok ?_; conv => whnf) | (refine WA_draw ttok mixed ?_; conv => whnf) | (refine WA_cond ?_; conv => whnf) | refine WA_block ?_ | (refine WA_skip ?_; conv => whnf) | (refine WA_exit ?_; conv => whnf) | (refine WA_ret ?_; conv => whnf) | (refine And.intro (fun h => ?_) (fun h => ?_) <;> (try simp only [brsA] at h) <;> conv => whnf) | (refine Or.inl ?_; (conv => whnf); refine Exists.intro _ (And.intro (may_is hl (by omega) (decide_eq_true hM)) ?_); conv => whnf) | (refine Or.inr (Or.inr (Or.inl ?_)); (conv => whnf); refine Exists.intro _ (And.intro (may_is hl (by omega) (decide_eq_true hM)) ?_); conv => whnf) | (refine Exists.intro _ (And.intro (may_is hl (by omega) (decide_eq_true hM)) ?_); conv => whnf) | (refine Or.inl ?_; (conv => whnf); refine Exists.intro _ (And.intro (mids_c rk ls hl) ?_); conv => whnf) | (refine Or.inr (Or.inr (Or.inl ?_)); (conv => whnf); refine Exists.intro _ (And.intro (mids_c rk ls hl) ?_); conv => whnf) | (refine Exists.intro _ (And.intro (mids_c rk ls hl) ?_); conv => whnf) | (refine WR_fit ?_ ?_; (focus (first | exact wr_i64 (by omega) | exact wr_u64 (by omega) | exact wr_u8 (by omega) | exact wr_i32 (by omega) | exact wr_u32 (by omega))); conv => whnf) | (refine WR_wrap ?_; conv => whnf) | (refine And.intro (a := indepB _ _ = true) ?_ ?_; (focus kernel_rfl); conv => whnf) | (refine And.intro rfl ?_; conv => whnf) | (refine And.intro ?_ ?_; (focus (first | omega | (simp at *; omega))); conv => whnf))
  · exfalso; simp at h
  refine WA_loopI (fun i : Nat => i ≤ 2) (fun i => [(29, .int .i64 (i : Int))]) (fun i => [.box 25 [intsA rk, lksA ls]]) (fun i => 2 - i) 0 (by omega) ?_ ?_
  · conv => whnf
    repeat (first | exact rfl | exact trivial | exact Or.inl (fun _ _ => rfl) | exact (fun _ => rfl) | exact (fun _ _ => rfl) | exact Or.inl (fun _ hi => absurd hi (Nat.not_lt_zero _)) | (refine And.intro rfl ?_; conv => whnf) | (refine And.intro (Or.inl (fun _ _ => rfl)) ?_; conv => whnf) | (refine And.intro (fun _ => rfl) ?_; conv => whnf) | (refine And.intro (fun _ _ => rfl) ?_; conv => whnf) | (refine And.intro ?_ ?_; rotate_left; conv => whnf))
  · intro i hi
    have h2 : ([a, b] : List Int).length = 2 := rfl
    have hd : ∀ x : Nat, x < 2 → [a, b].getD x 0 = a ∨ [a, b].getD x 0 = b := fun x hx => by
      rcases x with _ | _ | x <;> first | (simp; done) | omega
    have h0 : (i : Int) < 2 → 0 ≤ [a, b].getD (i : Int).toNat 0 ∧ [a, b].getD (i : Int).toNat 0 < rk.length := fun h => by
      rcases hd (i : Int).toNat (by omega) with e | e <;> rw [e] <;> omega
    conv => whnf
    repeat' (first | refine WA_seq ?_ | (refine WA_region ttok ?_; conv => whnf) | (refine WA_draw ttok mixed ?_; conv => whnf) | (refine WA_cond ?_; conv => whnf) | refine WA_block ?_ | (refine WA_skip ?_; conv => whnf) | (refine WA_exit ?_; conv => whnf) | (refine WA_ret ?_; conv => whnf) | (refine And.intro (fun h => ?_) (fun h => ?_) <;> (try simp only [brsA] at h) <;> conv => whnf) | (refine WR_fit ?_ ?_; (focus (first | exact wr_i64 (by omega) | exact wr_u64 (by omega) | exact wr_u8 (by omega) | exact wr_i32 (by omega) | exact wr_u32 (by omega))); conv => whnf) | (refine WR_wrap ?_; conv => whnf) | (refine And.intro (a := indepB _ _ = true) ?_ ?_; (focus kernel_rfl); conv => whnf) | (refine And.intro rfl ?_; conv => whnf) | (refine And.intro ?_ ?_; (focus (first | omega | (simp at *; omega))); conv => whnf))
    all_goals first | (exfalso; omega) | skip
    · refine ⟨i + 1, (by show i + 1 ≤ 2; omega), (by show 2 - (i + 1) < 2 - i; omega), ?_⟩
      conv => whnf
      repeat (first | exact rfl | exact trivial | exact Or.inl (fun _ _ => rfl) | exact (fun _ => rfl) | exact (fun _ _ => rfl) | exact Or.inl (fun _ hi => absurd hi (Nat.not_lt_zero _)) | (refine And.intro rfl ?_; conv => whnf) | (refine And.intro (Or.inl (fun _ _ => rfl)) ?_; conv => whnf) | (refine And.intro (fun _ => rfl) ?_; conv => whnf) | (refine And.intro (fun _ _ => rfl) ?_; conv => whnf) | (refine And.intro ?_ ?_; rotate_left; conv => whnf))
    · refine ⟨i + 1, (by show i + 1 ≤ 2; omega), (by show 2 - (i + 1) < 2 - i; omega), ?_⟩
      conv => whnf
      repeat (first | exact rfl | exact trivial | exact Or.inl (fun _ _ => rfl) | exact (fun _ => rfl) | exact (fun _ _ => rfl) | exact Or.inl (fun _ hi => absurd hi (Nat.not_lt_zero _)) | (refine And.intro rfl ?_; conv => whnf) | (refine And.intro (Or.inl (fun _ _ => rfl)) ?_; conv => whnf) | (refine And.intro (fun _ => rfl) ?_; conv => whnf) | (refine And.intro (fun _ _ => rfl) ?_; conv => whnf) | (refine And.intro ?_ ?_; rotate_left; conv => whnf))
    · exfalso
      have e : i = 1 := by omega
      subst e
      have h : (midO ls a b).isSome = false := h
      rw [hmid] at h; cases h
    · refine WA_loopI (fun k : Nat => k ≤ 1) (fun k => [(67, .int .i64 (k : Int)), (11, .own 1), (63, .junk)]) (fun k => [.box 25 [intsA rk, lksA ls], .row 3 1 (outL rk ls a b k).length (inR (outL rk ls a b k))]) (fun k => 1 - k) 0 (by omega) ?_ ?_
      · conv => whnf
        repeat (first | exact rfl | exact trivial | exact Or.inl (fun _ _ => rfl) | exact (fun _ => rfl) | exact (fun _ _ => rfl) | exact Or.inl (fun _ hi => absurd hi (Nat.not_lt_zero _)) | (refine And.intro rfl ?_; conv => whnf) | (refine And.intro (Or.inl (fun _ _ => rfl)) ?_; conv => whnf) | (refine And.intro (fun _ => rfl) ?_; conv => whnf) | (refine And.intro (fun _ _ => rfl) ?_; conv => whnf) | (refine And.intro ?_ ?_; rotate_left; conv => whnf))
        (refine Or.inl fun i hi => ?_; rcases i with _ | _ | _ | _ | i <;> first | rfl | omega)
      · intro k hk
        have hol : (outL rk ls a b k).length ≤ 16385 := by unfold outL; split <;> simp <;> omega
        have ho0 : (k : Int) < 1 → (outL rk ls a b k).length = 1 := fun h => by unfold outL; rw [if_pos (by omega)]; rfl
        have hrun : ∀ a' b' room, a' = a → b' = b → ((TL rk ls a b).length : Int) ≤ room → (TL rk ls a b).length ≤ 1000000 → TD rk ls a b ≤ 1000000 →
            ACalls Try.prog G 65 [midsA ls, .agg [.int .i64 a', .int .i64 b'], .int .i64 room] (.tup [intsA (TL rk ls a b), .int .i64 (TD rk ls a b), .bool true]) := by
          rintro a' b' room rfl rfl h1 h2 h3; exact run_c rk ls hM _ _ hp room h1 h2 h3
        conv => whnf
        repeat' (first | refine WA_seq ?_ | (refine WA_region ttok ?_; conv => whnf) | (refine WA_draw ttok mixed ?_; conv => whnf) | (refine WA_cond ?_; conv => whnf) | refine WA_block ?_ | (refine WA_skip ?_; conv => whnf) | (refine WA_exit ?_; conv => whnf) | (refine WA_ret ?_; conv => whnf) | (refine And.intro (fun h => ?_) (fun h => ?_) <;> (try simp only [brsA] at h) <;> conv => whnf) | (refine Or.inl ?_; (conv => whnf); refine Exists.intro _ (And.intro (hrun _ _ _ (by rw [show k = 0 by omega]; rfl) (by rw [show k = 0 by omega]; rfl) (by omega) (by omega) (by omega)) ?_); conv => whnf) | (refine Or.inr (Or.inr (Or.inl ?_)); (conv => whnf); refine Exists.intro _ (And.intro (hrun _ _ _ (by rw [show k = 0 by omega]; rfl) (by rw [show k = 0 by omega]; rfl) (by omega) (by omega) (by omega)) ?_); conv => whnf) | (refine Exists.intro _ (And.intro (hrun _ _ _ (by rw [show k = 0 by omega]; rfl) (by rw [show k = 0 by omega]; rfl) (by omega) (by omega) (by omega)) ?_); conv => whnf) | (refine WR_fit ?_ ?_; (focus (first | exact wr_i64 (by omega) | exact wr_u64 (by omega) | exact wr_u8 (by omega) | exact wr_i32 (by omega) | exact wr_u32 (by omega))); conv => whnf) | (refine WR_wrap ?_; conv => whnf) | (refine And.intro (a := indepB _ _ = true) ?_ ?_; (focus kernel_rfl); conv => whnf) | (refine And.intro rfl ?_; conv => whnf) | (refine And.intro ?_ ?_; (focus (first | omega | (simp at *; omega))); conv => whnf))
        all_goals first | (exfalso; omega) | skip
        · have e : k = 0 := by omega
          subst e
          have e1 : outL rk ls a b (0 + 1) = outL rk ls a b 0 ++ TL rk ls a b := rfl
          refine ⟨0 + 1, (by show 0 + 1 ≤ 1; omega), (by show 1 - (0 + 1) < 1 - 0; omega), ?_⟩
          conv => whnf
          repeat (first | exact rfl | exact trivial | exact Or.inl (fun _ _ => rfl) | exact (fun _ => rfl) | exact (fun _ _ => rfl) | exact Or.inl (fun _ hi => absurd hi (Nat.not_lt_zero _)) | (refine And.intro rfl ?_; conv => whnf) | (refine And.intro (Or.inl (fun _ _ => rfl)) ?_; conv => whnf) | (refine And.intro (fun _ => rfl) ?_; conv => whnf) | (refine And.intro (fun _ _ => rfl) ?_; conv => whnf) | (refine And.intro ?_ ?_; rotate_left; conv => whnf))
          · exact Or.inl fun i hi => rowCat_app (fun y : Int => [A.int .i64 y]) 0 _ _ _ (fun j _ => rfl) i hi
          · exact (congrArg List.length e1).symm ▸ (List.length_append).symm
        · have e : k = 1 := by omega
          subst e
          exact ⟨rfl, Or.inl fun _ _ => rfl, rfl⟩
theorem way_fit {rk : List Int} {ls : List Lk} {a b : Int} : andL (fitA.fitL 6 0 [A.agg [intsA rk, lksA ls], .sl 2 1 fun i => takeL 1 (List.drop (i * 1) [A.int .i64 a, A.int .i64 b])] [.agg [intsA rk, lksA ls], intsA [a, b]]) := by
  conv => whnf
  repeat (first | exact rfl | exact trivial | exact Or.inl (fun _ _ => rfl) | exact (fun _ => rfl) | exact (fun _ _ => rfl) | exact Or.inl (fun _ hi => absurd hi (Nat.not_lt_zero _)) | (refine And.intro rfl ?_; conv => whnf) | (refine And.intro (Or.inl (fun _ _ => rfl)) ?_; conv => whnf) | (refine And.intro (fun _ => rfl) ?_; conv => whnf) | (refine And.intro (fun _ _ => rfl) ?_; conv => whnf) | (refine And.intro ?_ ?_; rotate_left; conv => whnf))
  all_goals (refine Or.inl fun i hi => ?_; rcases i with _ | _ | _ | _ | i <;> first | rfl | omega)
/-- What a link unpacked answers. -/
def lkR (rk : List Int) (ls : List Lk) (a b : Int) : List Int := if MayP rk ls ∧ 0 ≤ posL ls a b then a :: TL rk ls a b else []
def lkE (rk : List Int) (ls : List Lk) (a b : Int) : Int := if MayP rk ls then (if 0 ≤ posL ls a b then 0 else 3) else 1
set_option maxRecDepth 100000 in
set_option maxHeartbeats 1000000 in
theorem link63_c (rk : List Int) (ls : List Lk) (hl : ls.length ≤ 1000000) (hr : rk.length ≤ 14) (a b : Int) :
    ACalls Try.prog G 24 [.agg [intsA rk, lksA ls], .int .i64 a, .int .i64 b] (.tup [intsA (lkR rk ls a b), .int .i64 (lkE rk ls a b)]) := by
  unfold lkR lkE
  by_cases hM : MayP rk ls
  · by_cases hp : 0 ≤ posL ls a b
    · rw [if_pos ⟨hM, hp⟩, if_pos hM, if_pos hp]
      refine ACalls.of_WA ttok Try.func24 rfl rfl _ rfl ?_
      conv => whnf
      repeat' (first | refine WA_seq ?_ | (refine WA_region ttok ?_; conv => whnf) | (refine WA_draw ttok mixed ?_; conv => whnf) | (refine WA_cond ?_; conv => whnf) | refine WA_block ?_ | (refine WA_skip ?_; conv => whnf) | (refine WA_exit ?_; conv => whnf) | (refine WA_ret ?_; conv => whnf) | (refine And.intro (fun h => ?_) (fun h => ?_) <;> (try simp only [brsA] at h) <;> conv => whnf) | (refine Or.inl ?_; (conv => whnf); refine Exists.intro _ (And.intro (link_yes hl (by omega) ⟨hM, hp⟩) ?_); conv => whnf) | (refine Or.inr (Or.inr (Or.inl ?_)); (conv => whnf); refine Exists.intro _ (And.intro (link_yes hl (by omega) ⟨hM, hp⟩) ?_); conv => whnf) | (refine Exists.intro _ (And.intro (link_yes hl (by omega) ⟨hM, hp⟩) ?_); conv => whnf) | (refine Or.inr (Or.inr (Or.inl ?_)); (conv => whnf); refine Exists.intro _ (And.intro ((way_c rk ls hl hr hM a b hp).fit way_fit) ?_); conv => whnf) | (refine Exists.intro _ (And.intro ((way_c rk ls hl hr hM a b hp).fit way_fit) ?_); conv => whnf) | (refine WR_fit ?_ ?_; (focus (first | exact wr_i64 (by omega) | exact wr_u64 (by omega) | exact wr_u8 (by omega) | exact wr_i32 (by omega) | exact wr_u32 (by omega))); conv => whnf) | (refine WR_wrap ?_; conv => whnf) | (refine And.intro (a := indepB _ _ = true) ?_ ?_; (focus kernel_rfl); conv => whnf) | (refine And.intro rfl ?_; conv => whnf) | (refine And.intro ?_ ?_; (focus (first | omega | (simp at *; omega))); conv => whnf))
      repeat (first | exact rfl | exact trivial | exact Or.inl (fun _ _ => rfl) | exact (fun _ => rfl) | exact (fun _ _ => rfl) | exact Or.inl (fun _ hi => absurd hi (Nat.not_lt_zero _)) | (refine And.intro rfl ?_; conv => whnf) | (refine And.intro (Or.inl (fun _ _ => rfl)) ?_; conv => whnf) | (refine And.intro (fun _ => rfl) ?_; conv => whnf) | (refine And.intro (fun _ _ => rfl) ?_; conv => whnf) | (refine And.intro ?_ ?_; rotate_left; conv => whnf))
    · rw [if_neg (fun h => hp h.2), if_pos hM, if_neg hp]
      refine ACalls.of_WA ttok Try.func24 rfl rfl _ rfl ?_
      conv => whnf
      repeat' (first | refine WA_seq ?_ | (refine WA_region ttok ?_; conv => whnf) | (refine WA_draw ttok mixed ?_; conv => whnf) | (refine WA_cond ?_; conv => whnf) | refine WA_block ?_ | (refine WA_skip ?_; conv => whnf) | (refine WA_exit ?_; conv => whnf) | (refine WA_ret ?_; conv => whnf) | (refine And.intro (fun h => ?_) (fun h => ?_) <;> (try simp only [brsA] at h) <;> conv => whnf) | (refine Or.inl ?_; (conv => whnf); refine Exists.intro _ (And.intro (link_no hl (by omega) (fun h => hp h.2)) ?_); conv => whnf) | (refine Or.inr (Or.inr (Or.inl ?_)); (conv => whnf); refine Exists.intro _ (And.intro (link_no hl (by omega) (fun h => hp h.2)) ?_); conv => whnf) | (refine Exists.intro _ (And.intro (link_no hl (by omega) (fun h => hp h.2)) ?_); conv => whnf) | (refine Or.inl ?_; (conv => whnf); refine Exists.intro _ (And.intro (may_is hl (by omega) (decide_eq_true hM)) ?_); conv => whnf) | (refine Or.inr (Or.inr (Or.inl ?_)); (conv => whnf); refine Exists.intro _ (And.intro (may_is hl (by omega) (decide_eq_true hM)) ?_); conv => whnf) | (refine Exists.intro _ (And.intro (may_is hl (by omega) (decide_eq_true hM)) ?_); conv => whnf) | (refine WR_fit ?_ ?_; (focus (first | exact wr_i64 (by omega) | exact wr_u64 (by omega) | exact wr_u8 (by omega) | exact wr_i32 (by omega) | exact wr_u32 (by omega))); conv => whnf) | (refine WR_wrap ?_; conv => whnf) | (refine And.intro (a := indepB _ _ = true) ?_ ?_; (focus kernel_rfl); conv => whnf) | (refine And.intro rfl ?_; conv => whnf) | (refine And.intro ?_ ?_; (focus (first | omega | (simp at *; omega))); conv => whnf))
  · rw [if_neg (fun h => hM h.1), if_neg hM]
    refine ACalls.of_WA ttok Try.func24 rfl rfl _ rfl ?_
    conv => whnf
    repeat' (first | refine WA_seq ?_ | (refine WA_region ttok ?_; conv => whnf) | (refine WA_draw ttok mixed ?_; conv => whnf) | (refine WA_cond ?_; conv => whnf) | refine WA_block ?_ | (refine WA_skip ?_; conv => whnf) | (refine WA_exit ?_; conv => whnf) | (refine WA_ret ?_; conv => whnf) | (refine And.intro (fun h => ?_) (fun h => ?_) <;> (try simp only [brsA] at h) <;> conv => whnf) | (refine Or.inl ?_; (conv => whnf); refine Exists.intro _ (And.intro (link_no hl (by omega) (fun h => hM h.1)) ?_); conv => whnf) | (refine Or.inr (Or.inr (Or.inl ?_)); (conv => whnf); refine Exists.intro _ (And.intro (link_no hl (by omega) (fun h => hM h.1)) ?_); conv => whnf) | (refine Exists.intro _ (And.intro (link_no hl (by omega) (fun h => hM h.1)) ?_); conv => whnf) | (refine Or.inl ?_; (conv => whnf); refine Exists.intro _ (And.intro (may_is hl (by omega) (decide_eq_false hM)) ?_); conv => whnf) | (refine Or.inr (Or.inr (Or.inl ?_)); (conv => whnf); refine Exists.intro _ (And.intro (may_is hl (by omega) (decide_eq_false hM)) ?_); conv => whnf) | (refine Exists.intro _ (And.intro (may_is hl (by omega) (decide_eq_false hM)) ?_); conv => whnf) | (refine WR_fit ?_ ?_; (focus (first | exact wr_i64 (by omega) | exact wr_u64 (by omega) | exact wr_u8 (by omega) | exact wr_i32 (by omega) | exact wr_u32 (by omega))); conv => whnf) | (refine WR_wrap ?_; conv => whnf) | (refine And.intro (a := indepB _ _ = true) ?_ ?_; (focus kernel_rfl); conv => whnf) | (refine And.intro rfl ?_; conv => whnf) | (refine And.intro ?_ ?_; (focus (first | omega | (simp at *; omega))); conv => whnf))
def lkD (rk : List Int) (ls : List Lk) (a b : Int) : Int := if MayP rk ls ∧ 0 ≤ posL ls a b then TD rk ls a b else 0
theorem mHas_pos {n : Nat} {ls : List Lk} (hS : SortedP n ls) (a b : Int) : mHas ls [.int a, .int b] = decide (0 ≤ posL ls a b) := by
  show (midO ls a b).isSome = _
  rw [midO_pos hS a b]
  split
  · rename_i h; simp [h]
  · rename_i h; simp [h]
set_option maxRecDepth 100000 in
set_option maxHeartbeats 1000000 in
theorem depth25_c (rk : List Int) (ls : List Lk) (hl : ls.length ≤ 1000000) (hr : rk.length ≤ 14) (a b : Int) :
    ACalls Try.prog G 25 [.agg [intsA rk, lksA ls], .int .i64 a, .int .i64 b] (.tup [.int .i64 (lkD rk ls a b), .int .i64 (lkE rk ls a b)]) := by
  unfold lkD lkE
  by_cases hM : MayP rk ls
  · have hh := mHas_pos hM.2.2.2.1 a b
    by_cases hp : 0 ≤ posL ls a b
    · rw [if_pos ⟨hM, hp⟩, if_pos hM, if_pos hp]
      rw [decide_eq_true hp] at hh
      obtain ⟨hs1, hs2⟩ := TL_small (ls := ls) hr a b
      refine ACalls.of_WA ttok Try.func25 rfl rfl _ rfl ?_
      conv => whnf
      repeat' (first | refine WA_seq ?_ | (refine WA_region ttok ?_; conv => whnf) | (refine WA_draw ttok mixed ?_; conv => whnf) | (refine WA_cond ?_; conv => whnf) | refine WA_block ?_ | (refine WA_skip ?_; conv => whnf) | (refine WA_exit ?_; conv => whnf) | (refine WA_ret ?_; conv => whnf) | (refine And.intro (fun h => ?_) (fun h => ?_) <;> (try simp only [brsA] at h) <;> conv => whnf) | (refine Or.inl ?_; (conv => whnf); refine Exists.intro _ (And.intro (may_is hl (by omega) (decide_eq_true hM)) ?_); conv => whnf) | (refine Or.inr (Or.inr (Or.inl ?_)); (conv => whnf); refine Exists.intro _ (And.intro (may_is hl (by omega) (decide_eq_true hM)) ?_); conv => whnf) | (refine Exists.intro _ (And.intro (may_is hl (by omega) (decide_eq_true hM)) ?_); conv => whnf) | (refine Or.inl ?_; (conv => whnf); refine Exists.intro _ (And.intro (mids_c rk ls hl) ?_); conv => whnf) | (refine Or.inr (Or.inr (Or.inl ?_)); (conv => whnf); refine Exists.intro _ (And.intro (mids_c rk ls hl) ?_); conv => whnf) | (refine Exists.intro _ (And.intro (mids_c rk ls hl) ?_); conv => whnf) | (refine Or.inl ?_; (conv => whnf); refine Exists.intro _ (And.intro (run_c rk ls hM a b hp 100000 (by omega) (by omega) (by omega)) ?_); conv => whnf) | (refine Or.inr (Or.inr (Or.inl ?_)); (conv => whnf); refine Exists.intro _ (And.intro (run_c rk ls hM a b hp 100000 (by omega) (by omega) (by omega)) ?_); conv => whnf) | (refine Exists.intro _ (And.intro (run_c rk ls hM a b hp 100000 (by omega) (by omega) (by omega)) ?_); conv => whnf) | (refine WR_fit ?_ ?_; (focus (first | exact wr_i64 (by omega) | exact wr_u64 (by omega) | exact wr_u8 (by omega) | exact wr_i32 (by omega) | exact wr_u32 (by omega))); conv => whnf) | (refine WR_wrap ?_; conv => whnf) | (refine And.intro (a := indepB _ _ = true) ?_ ?_; (focus kernel_rfl); conv => whnf) | (refine And.intro rfl ?_; conv => whnf) | (refine And.intro ?_ ?_; (focus (first | omega | (simp at *; omega))); conv => whnf))
      all_goals first | (rw [hh] at h; cases h; done) | skip
      all_goals repeat (first | exact rfl | exact trivial | exact Or.inl (fun _ _ => rfl) | exact (fun _ => rfl) | exact (fun _ _ => rfl) | exact Or.inl (fun _ hi => absurd hi (Nat.not_lt_zero _)) | (refine And.intro rfl ?_; conv => whnf) | (refine And.intro (Or.inl (fun _ _ => rfl)) ?_; conv => whnf) | (refine And.intro (fun _ => rfl) ?_; conv => whnf) | (refine And.intro (fun _ _ => rfl) ?_; conv => whnf) | (refine And.intro ?_ ?_; rotate_left; conv => whnf))
    · rw [if_neg (fun h => hp h.2), if_pos hM, if_neg hp]
      rw [decide_eq_false hp] at hh
      refine ACalls.of_WA ttok Try.func25 rfl rfl _ rfl ?_
      conv => whnf
      repeat' (first | refine WA_seq ?_ | (refine WA_region ttok ?_; conv => whnf) | (refine WA_draw ttok mixed ?_; conv => whnf) | (refine WA_cond ?_; conv => whnf) | refine WA_block ?_ | (refine WA_skip ?_; conv => whnf) | (refine WA_exit ?_; conv => whnf) | (refine WA_ret ?_; conv => whnf) | (refine And.intro (fun h => ?_) (fun h => ?_) <;> (try simp only [brsA] at h) <;> conv => whnf) | (refine Or.inl ?_; (conv => whnf); refine Exists.intro _ (And.intro (may_is hl (by omega) (decide_eq_true hM)) ?_); conv => whnf) | (refine Or.inr (Or.inr (Or.inl ?_)); (conv => whnf); refine Exists.intro _ (And.intro (may_is hl (by omega) (decide_eq_true hM)) ?_); conv => whnf) | (refine Exists.intro _ (And.intro (may_is hl (by omega) (decide_eq_true hM)) ?_); conv => whnf) | (refine Or.inl ?_; (conv => whnf); refine Exists.intro _ (And.intro (mids_c rk ls hl) ?_); conv => whnf) | (refine Or.inr (Or.inr (Or.inl ?_)); (conv => whnf); refine Exists.intro _ (And.intro (mids_c rk ls hl) ?_); conv => whnf) | (refine Exists.intro _ (And.intro (mids_c rk ls hl) ?_); conv => whnf) | (refine WR_fit ?_ ?_; (focus (first | exact wr_i64 (by omega) | exact wr_u64 (by omega) | exact wr_u8 (by omega) | exact wr_i32 (by omega) | exact wr_u32 (by omega))); conv => whnf) | (refine WR_wrap ?_; conv => whnf) | (refine And.intro (a := indepB _ _ = true) ?_ ?_; (focus kernel_rfl); conv => whnf) | (refine And.intro rfl ?_; conv => whnf) | (refine And.intro ?_ ?_; (focus (first | omega | (simp at *; omega))); conv => whnf))
      all_goals first | (rw [hh] at h; cases h; done) | skip
      all_goals repeat (first | exact rfl | exact trivial | exact Or.inl (fun _ _ => rfl) | exact (fun _ => rfl) | exact (fun _ _ => rfl) | exact Or.inl (fun _ hi => absurd hi (Nat.not_lt_zero _)) | (refine And.intro rfl ?_; conv => whnf) | (refine And.intro (Or.inl (fun _ _ => rfl)) ?_; conv => whnf) | (refine And.intro (fun _ => rfl) ?_; conv => whnf) | (refine And.intro (fun _ _ => rfl) ?_; conv => whnf) | (refine And.intro ?_ ?_; rotate_left; conv => whnf))
  · rw [if_neg (fun h => hM h.1), if_neg hM]
    refine ACalls.of_WA ttok Try.func25 rfl rfl _ rfl ?_
    conv => whnf
    repeat' (first | refine WA_seq ?_ | (refine WA_region ttok ?_; conv => whnf) | (refine WA_draw ttok mixed ?_; conv => whnf) | (refine WA_cond ?_; conv => whnf) | refine WA_block ?_ | (refine WA_skip ?_; conv => whnf) | (refine WA_exit ?_; conv => whnf) | (refine WA_ret ?_; conv => whnf) | (refine And.intro (fun h => ?_) (fun h => ?_) <;> (try simp only [brsA] at h) <;> conv => whnf) | (refine Or.inl ?_; (conv => whnf); refine Exists.intro _ (And.intro (may_is hl (by omega) (decide_eq_false hM)) ?_); conv => whnf) | (refine Or.inr (Or.inr (Or.inl ?_)); (conv => whnf); refine Exists.intro _ (And.intro (may_is hl (by omega) (decide_eq_false hM)) ?_); conv => whnf) | (refine Exists.intro _ (And.intro (may_is hl (by omega) (decide_eq_false hM)) ?_); conv => whnf) | (refine WR_fit ?_ ?_; (focus (first | exact wr_i64 (by omega) | exact wr_u64 (by omega) | exact wr_u8 (by omega) | exact wr_i32 (by omega) | exact wr_u32 (by omega))); conv => whnf) | (refine WR_wrap ?_; conv => whnf) | (refine And.intro (a := indepB _ _ = true) ?_ ?_; (focus kernel_rfl); conv => whnf) | (refine And.intro rfl ?_; conv => whnf) | (refine And.intro ?_ ?_; (focus (first | omega | (simp at *; omega))); conv => whnf))
end Go.Proofs.Ytfhdmhoeopbhnaa
set_option linter.unusedSimpArgs false
namespace Go.Proofs.Ytfhdmhoeopbhnaa
open Go.Proofs.Ytfhdmhoeopbhnaa.Am
variable {G : GInv}
def lu : List Lk := [⟨0, 2, 4, -1⟩, ⟨1, 0, 3, -1⟩, ⟨1, 2, 7, 0⟩]
theorem may_lu : MayP [0, 1, 2] lu := by decide
theorem pos_lu : 0 ≤ posL lu 1 2 := by decide
theorem link_lu : ACalls Try.prog G 24 [.agg [intsA [0, 1, 2], lksA lu], .int .i64 1, .int .i64 2] (.tup [intsA [1, 0, 2], .int .i64 0]) := by
  have h := link63_c (G := G) [0, 1, 2] lu (by decide) (by decide) 1 2
  unfold lkR lkE at h
  rw [if_pos ⟨may_lu, pos_lu⟩, if_pos may_lu, if_pos pos_lu] at h
  exact h
theorem depth_lu : ACalls Try.prog G 25 [.agg [intsA [0, 1, 2], lksA lu], .int .i64 1, .int .i64 2] (.tup [.int .i64 2, .int .i64 0]) := by
  have h := depth25_c (G := G) [0, 1, 2] lu (by decide) (by decide) 1 2
  unfold lkD lkE at h
  rw [if_pos ⟨may_lu, pos_lu⟩, if_pos may_lu, if_pos pos_lu] at h
  exact h
theorem lit_u : andL (fitA.fitL 6 0 [A.agg [.sl 3 1 fun i => takeL 1 (List.drop (i * 1) [A.int .i64 0, A.int .i64 1, A.int .i64 2]), .sl 3 4 fun i => takeL 4 (List.drop (i * 4) [A.int .i64 0, A.int .i64 2, A.int .i64 4, A.int .i64 (-1), A.int .i64 1, A.int .i64 0, A.int .i64 3, A.int .i64 (-1), A.int .i64 1, A.int .i64 2, A.int .i64 7, A.int .i64 0])], .int .i64 1, .int .i64 2] [.agg [intsA [0, 1, 2], lksA lu], .int .i64 1, .int .i64 2]) := by
  conv => whnf
  repeat (first | exact rfl | exact trivial | exact Or.inl (fun _ _ => rfl) | exact (fun _ => rfl) | exact (fun _ _ => rfl) | exact Or.inl (fun _ hi => absurd hi (Nat.not_lt_zero _)) | (refine And.intro rfl ?_; conv => whnf) | (refine And.intro (Or.inl (fun _ _ => rfl)) ?_; conv => whnf) | (refine And.intro (fun _ => rfl) ?_; conv => whnf) | (refine And.intro (fun _ _ => rfl) ?_; conv => whnf) | (refine And.intro ?_ ?_; rotate_left; conv => whnf))
  all_goals (refine Or.inl fun i hi => ?_; rcases i with _ | _ | _ | _ | i <;> first | rfl | omega)
set_option maxRecDepth 100000 in
set_option maxHeartbeats 1000000 in
theorem awakeU_c : ACalls Try.prog G 23 [] (.bool true) := by
  refine ACalls.of_WA ttok Try.func23 rfl rfl _ rfl ?_
  conv => whnf
  iterate 4 (first | refine WA_seq ?_ | (refine WA_region ttok ?_; conv => whnf) | (refine WA_draw ttok mixed ?_; conv => whnf) | (refine WA_cond ?_; conv => whnf) | refine WA_block ?_ | (refine WA_skip ?_; conv => whnf) | (refine WA_exit ?_; conv => whnf) | (refine WA_ret ?_; conv => whnf))
  refine WA_freeze 0 ?_
  conv => whnf
  refine WA_freeze 1 ?_
  conv => whnf
  repeat' (first | refine WA_seq ?_ | (refine WA_region ttok ?_; conv => whnf) | (refine WA_draw ttok mixed ?_; conv => whnf) | (refine WA_cond ?_; conv => whnf) | refine WA_block ?_ | (refine WA_skip ?_; conv => whnf) | (refine WA_exit ?_; conv => whnf) | (refine WA_ret ?_; conv => whnf) | (refine And.intro (fun h => ?_) (fun h => ?_) <;> (try simp only [brsA] at h) <;> conv => whnf) | (refine Or.inl ?_; (conv => whnf); refine Exists.intro _ (And.intro (link_lu.fit lit_u) ?_); conv => whnf) | (refine Or.inr (Or.inr (Or.inl ?_)); (conv => whnf); refine Exists.intro _ (And.intro (link_lu.fit lit_u) ?_); conv => whnf) | (refine Exists.intro _ (And.intro (link_lu.fit lit_u) ?_); conv => whnf) | (refine Or.inl ?_; (conv => whnf); refine Exists.intro _ (And.intro (depth_lu.fit lit_u) ?_); conv => whnf) | (refine Or.inr (Or.inr (Or.inl ?_)); (conv => whnf); refine Exists.intro _ (And.intro (depth_lu.fit lit_u) ?_); conv => whnf) | (refine Exists.intro _ (And.intro (depth_lu.fit lit_u) ?_); conv => whnf) | (refine WR_fit ?_ ?_; (focus (first | exact wr_i64 (by omega) | exact wr_u64 (by omega) | exact wr_u8 (by omega) | exact wr_i32 (by omega) | exact wr_u32 (by omega))); conv => whnf) | (refine WR_wrap ?_; conv => whnf) | (refine And.intro (a := indepB _ _ = true) ?_ ?_; (focus kernel_rfl); conv => whnf) | (refine And.intro rfl ?_; conv => whnf) | (refine And.intro ?_ ?_; (focus (first | omega | (simp at *; omega))); conv => whnf))
  all_goals first | rfl | (simp at h) | skip
theorem fit_same (a : Int) (l : List Int) : andL (fitA.fitL 6 0 [A.sl ((a :: l).length - Int.toNat 1) 1 fun i => [A.int .i64 ((a :: l).getD (Int.toNat 1 + i) 0)], A.sl l.length 1 (inR l)] [intsA l, intsA l]) := by
  conv => whnf
  refine ⟨?_, Or.inl fun i hi => ?_, rfl, Or.inl fun i hi => rfl⟩
  · show l.length + 1 - 1 = l.length; omega
  · show [A.int .i64 ((a :: l).getD (1 + i) 0)] = _
    rw [Nat.add_comm]; rfl
set_option maxRecDepth 100000 in
set_option maxHeartbeats 4000000 in
theorem unpackLinks_c (rk : List Int) (ls : List Lk) (a b : Int) : ACalls Try.prog G 4 [.agg [intsA rk, lksA ls], .int .i64 a, .int .i64 b] (.sb true) := by
  by_cases hS : (rk.length ≤ 40 ∧ ls.length ≤ 400) ∧ rk.length ≤ 14
  · obtain ⟨⟨h1, h2⟩, h3⟩ := hS
    have hl : ls.length ≤ 1000000 := by omega
    have hr : rk.length ≤ 1000000 := by omega
    have hsm : ∀ x, decide (rk.length ≤ 40 ∧ ls.length ≤ 400) = x → x = true := fun x e => by rw [← e]; exact decide_eq_true ⟨h1, h2⟩
    by_cases hM : MayP rk ls
    · by_cases hp : 0 ≤ posL ls a b
      · have c1 := link63_c (G := G) rk ls hl h3 a b
        have c2 := depth25_c (G := G) rk ls hl h3 a b
        unfold lkR lkE at c1
        unfold lkD lkE at c2
        rw [if_pos ⟨hM, hp⟩, if_pos hM, if_pos hp] at c1 c2
        have hpf : 0 ≤ firstAt (isL ls a b) ls.length 0 := hp
        obtain ⟨hT1, hT2⟩ := TL_small (ls := ls) h3 a b
        have hT1 : (TL rk ls a b).length ≤ 1000000 := by omega
        have hT0 : 0 < (TL rk ls a b).length := TL_pos ls rk.length a b
        have hTd : TD rk ls a b ≤ rk.length + 1 := (tL_len ls rk.length a b).2
        have hTc : (a :: TL rk ls a b).length = (TL rk ls a b).length + 1 := rfl
        refine ACalls.of_WA ttok Try.func4 rfl rfl _ rfl ?_
        conv => whnf
        repeat' (first | (refine WA_drawR (id := 16) [(18,1)] ttok mixed ?_; conv => whnf) | refine WA_seq ?_ | (refine WA_region ttok ?_; conv => whnf) | (refine WA_draw ttok mixed ?_; conv => whnf) | (refine WA_cond ?_; conv => whnf) | refine WA_block ?_ | (refine WA_skip ?_; conv => whnf) | (refine WA_exit ?_; conv => whnf) | (refine WA_ret ?_; conv => whnf) | (refine And.intro (fun h => ?_) (fun h => ?_) <;> (try simp only [brsA] at h) <;> conv => whnf) | (refine Or.inl ?_; (conv => whnf); refine Exists.intro _ (And.intro (small_c rk ls) ?_); conv => whnf) | (refine Or.inr (Or.inr (Or.inl ?_)); (conv => whnf); refine Exists.intro _ (And.intro (small_c rk ls) ?_); conv => whnf) | (refine Exists.intro _ (And.intro (small_c rk ls) ?_); conv => whnf) | (refine Or.inl ?_; (conv => whnf); refine Exists.intro _ (And.intro (c1) ?_); conv => whnf) | (refine Or.inr (Or.inr (Or.inl ?_)); (conv => whnf); refine Exists.intro _ (And.intro (c1) ?_); conv => whnf) | (refine Exists.intro _ (And.intro (c1) ?_); conv => whnf) | (refine Or.inl ?_; (conv => whnf); refine Exists.intro _ (And.intro (c2) ?_); conv => whnf) | (refine Or.inr (Or.inr (Or.inl ?_)); (conv => whnf); refine Exists.intro _ (And.intro (c2) ?_); conv => whnf) | (refine Exists.intro _ (And.intro (c2) ?_); conv => whnf) | (refine Or.inl ?_; (conv => whnf); refine Exists.intro _ (And.intro (refMay_is hl hr (decide_eq_true hM)) ?_); conv => whnf) | (refine Or.inr (Or.inr (Or.inl ?_)); (conv => whnf); refine Exists.intro _ (And.intro (refMay_is hl hr (decide_eq_true hM)) ?_); conv => whnf) | (refine Exists.intro _ (And.intro (refMay_is hl hr (decide_eq_true hM)) ?_); conv => whnf) | (refine Or.inl ?_; (conv => whnf); refine Exists.intro _ (And.intro (refLink_c ls a b hl) ?_); conv => whnf) | (refine Or.inr (Or.inr (Or.inl ?_)); (conv => whnf); refine Exists.intro _ (And.intro (refLink_c ls a b hl) ?_); conv => whnf) | (refine Exists.intro _ (And.intro (refLink_c ls a b hl) ?_); conv => whnf) | (refine Or.inl ?_; (conv => whnf); refine Exists.intro _ (And.intro (awakeU_c) ?_); conv => whnf) | (refine Or.inr (Or.inr (Or.inl ?_)); (conv => whnf); refine Exists.intro _ (And.intro (awakeU_c) ?_); conv => whnf) | (refine Exists.intro _ (And.intro (awakeU_c) ?_); conv => whnf) | (refine Or.inr (Or.inr (Or.inr ?_)); (conv => whnf); refine Exists.intro _ (Exists.intro _ (And.intro (ref27link_c rk ls hM hl rk.length a b _ _ (by omega) hp rfl rfl) ?_)); conv => whnf) | (refine Or.inr ?_; (conv => whnf); refine Exists.intro _ (Exists.intro _ (And.intro (ref27link_c rk ls hM hl rk.length a b _ _ (by omega) hp rfl rfl) ?_)); conv => whnf) | (refine Exists.intro _ (And.intro (ref27link_c rk ls hM hl rk.length a b _ _ (by omega) hp rfl rfl) ?_); conv => whnf) | (refine Or.inl ?_; (conv => whnf); refine Exists.intro _ (And.intro ((same_c _ _ hT1 hT1).fit (fit_same a (TL rk ls a b))) ?_); conv => whnf) | (refine Exists.intro _ (And.intro ((same_c _ _ hT1 hT1).fit (fit_same a (TL rk ls a b))) ?_); conv => whnf) | (refine Or.inl ?_; (conv => whnf); refine Exists.intro _ (And.intro (ref27depth_c rk ls hM hl rk.length a b _ _ (by omega) hp rfl rfl) ?_); conv => whnf) | (refine Exists.intro _ (And.intro (ref27depth_c rk ls hM hl rk.length a b _ _ (by omega) hp rfl rfl) ?_); conv => whnf) | (refine WR_fit ?_ ?_; (focus (first | exact wr_i64 (by omega) | exact wr_u64 (by omega) | exact wr_u8 (by omega) | exact wr_i32 (by omega) | exact wr_u32 (by omega))); conv => whnf) | (refine WR_wrap ?_; conv => whnf) | (refine And.intro (a := indepB _ _ = true) ?_ ?_; (focus kernel_rfl); conv => whnf) | (refine And.intro rfl ?_; conv => whnf) | (refine And.intro ?_ ?_; (focus (first | omega | (simp at *; omega))); conv => whnf))
        all_goals first | (exfalso; omega) | (exfalso; simp at *; done) | skip
      · have c1 := link63_c (G := G) rk ls hl h3 a b
        have c2 := depth25_c (G := G) rk ls hl h3 a b
        unfold lkR lkE at c1
        unfold lkD lkE at c2
        rw [if_neg (fun h => hp h.2), if_pos hM, if_neg hp] at c1 c2
        have hpf : ¬ 0 ≤ firstAt (isL ls a b) ls.length 0 := hp
        refine ACalls.of_WA ttok Try.func4 rfl rfl _ rfl ?_
        conv => whnf
        repeat' (first | refine WA_seq ?_ | (refine WA_region ttok ?_; conv => whnf) | (refine WA_draw ttok mixed ?_; conv => whnf) | (refine WA_cond ?_; conv => whnf) | refine WA_block ?_ | (refine WA_skip ?_; conv => whnf) | (refine WA_exit ?_; conv => whnf) | (refine WA_ret ?_; conv => whnf) | (refine And.intro (fun h => ?_) (fun h => ?_) <;> (try simp only [brsA] at h) <;> conv => whnf) | (refine Or.inl ?_; (conv => whnf); refine Exists.intro _ (And.intro (small_c rk ls) ?_); conv => whnf) | (refine Or.inr (Or.inr (Or.inl ?_)); (conv => whnf); refine Exists.intro _ (And.intro (small_c rk ls) ?_); conv => whnf) | (refine Exists.intro _ (And.intro (small_c rk ls) ?_); conv => whnf) | (refine Or.inl ?_; (conv => whnf); refine Exists.intro _ (And.intro (c1) ?_); conv => whnf) | (refine Or.inr (Or.inr (Or.inl ?_)); (conv => whnf); refine Exists.intro _ (And.intro (c1) ?_); conv => whnf) | (refine Exists.intro _ (And.intro (c1) ?_); conv => whnf) | (refine Or.inl ?_; (conv => whnf); refine Exists.intro _ (And.intro (c2) ?_); conv => whnf) | (refine Or.inr (Or.inr (Or.inl ?_)); (conv => whnf); refine Exists.intro _ (And.intro (c2) ?_); conv => whnf) | (refine Exists.intro _ (And.intro (c2) ?_); conv => whnf) | (refine Or.inl ?_; (conv => whnf); refine Exists.intro _ (And.intro (refMay_is hl hr (decide_eq_true hM)) ?_); conv => whnf) | (refine Or.inr (Or.inr (Or.inl ?_)); (conv => whnf); refine Exists.intro _ (And.intro (refMay_is hl hr (decide_eq_true hM)) ?_); conv => whnf) | (refine Exists.intro _ (And.intro (refMay_is hl hr (decide_eq_true hM)) ?_); conv => whnf) | (refine Or.inl ?_; (conv => whnf); refine Exists.intro _ (And.intro (refLink_c ls a b hl) ?_); conv => whnf) | (refine Or.inr (Or.inr (Or.inl ?_)); (conv => whnf); refine Exists.intro _ (And.intro (refLink_c ls a b hl) ?_); conv => whnf) | (refine Exists.intro _ (And.intro (refLink_c ls a b hl) ?_); conv => whnf) | (refine Or.inl ?_; (conv => whnf); refine Exists.intro _ (And.intro (awakeU_c) ?_); conv => whnf) | (refine Or.inr (Or.inr (Or.inl ?_)); (conv => whnf); refine Exists.intro _ (And.intro (awakeU_c) ?_); conv => whnf) | (refine Exists.intro _ (And.intro (awakeU_c) ?_); conv => whnf) | (refine WR_fit ?_ ?_; (focus (first | exact wr_i64 (by omega) | exact wr_u64 (by omega) | exact wr_u8 (by omega) | exact wr_i32 (by omega) | exact wr_u32 (by omega))); conv => whnf) | (refine WR_wrap ?_; conv => whnf) | (refine And.intro (a := indepB _ _ = true) ?_ ?_; (focus kernel_rfl); conv => whnf) | (refine And.intro rfl ?_; conv => whnf) | (refine And.intro ?_ ?_; (focus (first | omega | (simp at *; omega))); conv => whnf))
        all_goals first | (exfalso; omega) | (exfalso; simp at *; done) | skip
    · have c1 := link63_c (G := G) rk ls hl h3 a b
      have c2 := depth25_c (G := G) rk ls hl h3 a b
      unfold lkR lkE at c1
      unfold lkD lkE at c2
      rw [if_neg (fun h => hM h.1), if_neg hM] at c1 c2
      refine ACalls.of_WA ttok Try.func4 rfl rfl _ rfl ?_
      conv => whnf
      repeat' (first | refine WA_seq ?_ | (refine WA_region ttok ?_; conv => whnf) | (refine WA_draw ttok mixed ?_; conv => whnf) | (refine WA_cond ?_; conv => whnf) | refine WA_block ?_ | (refine WA_skip ?_; conv => whnf) | (refine WA_exit ?_; conv => whnf) | (refine WA_ret ?_; conv => whnf) | (refine And.intro (fun h => ?_) (fun h => ?_) <;> (try simp only [brsA] at h) <;> conv => whnf) | (refine Or.inl ?_; (conv => whnf); refine Exists.intro _ (And.intro (small_c rk ls) ?_); conv => whnf) | (refine Or.inr (Or.inr (Or.inl ?_)); (conv => whnf); refine Exists.intro _ (And.intro (small_c rk ls) ?_); conv => whnf) | (refine Exists.intro _ (And.intro (small_c rk ls) ?_); conv => whnf) | (refine Or.inl ?_; (conv => whnf); refine Exists.intro _ (And.intro (c1) ?_); conv => whnf) | (refine Or.inr (Or.inr (Or.inl ?_)); (conv => whnf); refine Exists.intro _ (And.intro (c1) ?_); conv => whnf) | (refine Exists.intro _ (And.intro (c1) ?_); conv => whnf) | (refine Or.inl ?_; (conv => whnf); refine Exists.intro _ (And.intro (c2) ?_); conv => whnf) | (refine Or.inr (Or.inr (Or.inl ?_)); (conv => whnf); refine Exists.intro _ (And.intro (c2) ?_); conv => whnf) | (refine Exists.intro _ (And.intro (c2) ?_); conv => whnf) | (refine Or.inl ?_; (conv => whnf); refine Exists.intro _ (And.intro (refMay_is hl hr (decide_eq_false hM)) ?_); conv => whnf) | (refine Or.inr (Or.inr (Or.inl ?_)); (conv => whnf); refine Exists.intro _ (And.intro (refMay_is hl hr (decide_eq_false hM)) ?_); conv => whnf) | (refine Exists.intro _ (And.intro (refMay_is hl hr (decide_eq_false hM)) ?_); conv => whnf) | (refine Or.inl ?_; (conv => whnf); refine Exists.intro _ (And.intro (refLink_c ls a b hl) ?_); conv => whnf) | (refine Or.inr (Or.inr (Or.inl ?_)); (conv => whnf); refine Exists.intro _ (And.intro (refLink_c ls a b hl) ?_); conv => whnf) | (refine Exists.intro _ (And.intro (refLink_c ls a b hl) ?_); conv => whnf) | (refine Or.inl ?_; (conv => whnf); refine Exists.intro _ (And.intro (awakeU_c) ?_); conv => whnf) | (refine Or.inr (Or.inr (Or.inl ?_)); (conv => whnf); refine Exists.intro _ (And.intro (awakeU_c) ?_); conv => whnf) | (refine Exists.intro _ (And.intro (awakeU_c) ?_); conv => whnf) | (refine WR_fit ?_ ?_; (focus (first | exact wr_i64 (by omega) | exact wr_u64 (by omega) | exact wr_u8 (by omega) | exact wr_i32 (by omega) | exact wr_u32 (by omega))); conv => whnf) | (refine WR_wrap ?_; conv => whnf) | (refine And.intro (a := indepB _ _ = true) ?_ ?_; (focus kernel_rfl); conv => whnf) | (refine And.intro rfl ?_; conv => whnf) | (refine And.intro ?_ ?_; (focus (first | omega | (simp at *; omega))); conv => whnf))
      all_goals first | (exfalso; omega) | (exfalso; simp at *; done) | skip
  · refine ACalls.of_WA ttok Try.func4 rfl rfl _ rfl ?_
    conv => whnf
    repeat' (first | refine WA_seq ?_ | (refine WA_region ttok ?_; conv => whnf) | (refine WA_draw ttok mixed ?_; conv => whnf) | (refine WA_cond ?_; conv => whnf) | refine WA_block ?_ | (refine WA_skip ?_; conv => whnf) | (refine WA_exit ?_; conv => whnf) | (refine WA_ret ?_; conv => whnf) | (refine And.intro (fun h => ?_) (fun h => ?_) <;> (try simp only [brsA] at h) <;> conv => whnf) | (refine Or.inl ?_; (conv => whnf); refine Exists.intro _ (And.intro (small_c rk ls) ?_); conv => whnf) | (refine Or.inr (Or.inr (Or.inl ?_)); (conv => whnf); refine Exists.intro _ (And.intro (small_c rk ls) ?_); conv => whnf) | (refine Exists.intro _ (And.intro (small_c rk ls) ?_); conv => whnf) | (refine Or.inl ?_; (conv => whnf); refine Exists.intro _ (And.intro (awakeU_c) ?_); conv => whnf) | (refine Or.inr (Or.inr (Or.inl ?_)); (conv => whnf); refine Exists.intro _ (And.intro (awakeU_c) ?_); conv => whnf) | (refine Exists.intro _ (And.intro (awakeU_c) ?_); conv => whnf) | (refine WR_fit ?_ ?_; (focus (first | exact wr_i64 (by omega) | exact wr_u64 (by omega) | exact wr_u8 (by omega) | exact wr_i32 (by omega) | exact wr_u32 (by omega))); conv => whnf) | (refine WR_wrap ?_; conv => whnf) | (refine And.intro (a := indepB _ _ = true) ?_ ?_; (focus kernel_rfl); conv => whnf) | (refine And.intro rfl ?_; conv => whnf) | (refine And.intro ?_ ?_; (focus (first | omega | (simp at *; omega))); conv => whnf))
    all_goals first | (exfalso; omega) | (exfalso; simp at *; done) | skip
end Go.Proofs.Ytfhdmhoeopbhnaa
